/- Functions of the program as Lean functions, each with a proof that its call comes to what the function says. No condition. The program's making of the code's matrix comes to it, at every shape. Plain algebra; no condition. Shapes and rows by a number: what remainders come to; rows that are picked. Plain; no condition. -/
import Derived.Test.YtaahnicjjpddjaaKMatrixFormsVan
section
namespace Go.Proofs.Ytaahnicjjpddjaa.GGen
open Go.Proofs.Ytaahnicjjpddjaa.Fn
open Go.Proofs.Ytaahnicjjpddjaa
open Go.RowKit Go.Proofs.YtaahnicjjpddjaaW.PrintWords Go.Proofs.YtaahnicjjpddjaaW.PrintLast
set_option linter.unusedVariables false
set_option linter.unusedSimpArgs false
noncomputable def errW : Option Int → Value
 | none => .nilIface
 | some c => .iface 0 (.int .i64 c)
theorem errW_none : errW none = .nilIface := rfl
theorem errW_some (c : Int) : errW (some c) = .iface 0 (.int .i64 c) := rfl
theorem info3 : (Try.prog.info? 3).map (fun i => (i.zero, i.size, i.bytes)) = some (some (.int .i64 0), 1, 8) := by kernel_rfl
theorem info25 : (Try.prog.info? 25).map (fun i => (i.zero, i.size, i.bytes)) = some (some (.slice none 0 0), 1, 24) := by kernel_rfl
end Go.Proofs.Ytaahnicjjpddjaa.GGen
end
section
namespace Go.Proofs.Ytaahnicjjpddjaa.GGen
end Go.Proofs.Ytaahnicjjpddjaa.GGen
end
section
namespace Go.Proofs.Ytaahnicjjpddjaa.Pr
end Go.Proofs.Ytaahnicjjpddjaa.Pr
end
section
namespace Go.Proofs.Ytaahnicjjpddjaa.Pr
open Go.RowKit Go.Proofs.YtaahnicjjpddjaaW.PrintWords Go.Proofs.YtaahnicjjpddjaaW.PrintLast Go.Proofs.YtaahnicjjpddjaaW.PrintMore Go.Proofs.Ytaahnicjjpddjaa.Fld Go.Proofs.Ytaahnicjjpddjaa.Mat Go.Proofs.Ytaahnicjjpddjaa.Fn
theorem mod_u (x : Int) (n : Nat) (h1 : 1 ≤ n) (h2 : n ≤ 64) : ∃ r : Nat, r < n ∧ wrap64 (Int.tmod (IntKind.u64.wrap x) (n : Int)) = (r : Int) := by
  have hw : IntKind.u64.wrap x = x % 18446744073709551616 := rfl
  have h3 := Int.emod_nonneg x (show (18446744073709551616 : Int) ≠ 0 by omega)
  have h4 : Int.tmod (x % 18446744073709551616) (n : Int) = (x % 18446744073709551616) % (n : Int) := Int.tmod_eq_emod_of_nonneg h3
  have h5 := Int.emod_nonneg (x % 18446744073709551616) (show (n : Int) ≠ 0 by omega)
  have h6 := Int.emod_lt_of_pos (x % 18446744073709551616) (show (0 : Int) < n by omega)
  refine ⟨((x % 18446744073709551616) % (n : Int)).toNat, uP, ?_⟩
  rw [hw, h4, wrap64_in uP uP]
  omega
def upto (n : Nat) : List Int := (List.range n).map fun (i : Nat) => (i : Int)
end Go.Proofs.Ytaahnicjjpddjaa.Pr
end
