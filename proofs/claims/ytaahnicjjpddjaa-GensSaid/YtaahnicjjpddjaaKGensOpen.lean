/- Shapes and rows by a number: what remainders come to; rows that are picked. Plain; no condition. The code's matrix at any shape is the document's: what the call of the law comes to. The law's call comes to true at every shape: no condition. Arguments opened as the printed contracts want them: slices of numbers, bools, strings, and of slices, each with its reach. No condition. -/
import Derived.Test.YtaahnicjjpddjaaKGensRefGen
import Derived.Test.YtaahnicjjpddjaaKGensGensW
import Derived.Test.YtaahnicjjpddjaaKGensWWords
import Derived.SizedLaws
import Derived.Deep.Slices
import Derived.Lib.SmallJoins
import Derived.ProofKit
import Derived.OpenShut
section
namespace Go.Proofs.Ytaahnicjjpddjaa.Pr
open Go.RowKit Go.Proofs.YtaahnicjjpddjaaW.PrintWords Go.Proofs.YtaahnicjjpddjaaW.PrintLast Go.Proofs.YtaahnicjjpddjaaW.PrintMore Go.Proofs.Ytaahnicjjpddjaa.Fld Go.Proofs.Ytaahnicjjpddjaa.Mat Go.Proofs.Ytaahnicjjpddjaa.Fn

def upto (n : Nat) : List Int := (List.range n).map fun (i : Nat) => (i : Int)
theorem code21 : fmat (code 2) 3 2 = [[1, 0], [0, 1], [3, 2]] := code_lit 2 3 (by omega) _ (by decide +kernel) (by decide +kernel)
end Go.Proofs.Ytaahnicjjpddjaa.Pr
end
section
namespace Go.Proofs.Ytaahnicjjpddjaa.Pr
open Go.RowKit Go.Proofs.YtaahnicjjpddjaaW.PrintWords Go.Proofs.YtaahnicjjpddjaaW.PrintLast Go.Proofs.YtaahnicjjpddjaaW.PrintMore Go.Proofs.Ytaahnicjjpddjaa.Fld Go.Proofs.Ytaahnicjjpddjaa.Mat Go.Proofs.Ytaahnicjjpddjaa.Fn

theorem awake5_f {k : Nat} (hk : 400 < k) : GAwg.ossuarylaw5_awake.f k = some true := by
  unfold GAwg.ossuarylaw5_awake.f
  have e1 : GGen.gen_Matrix.f k 2 1 = some ([[1, 0], [0, 1], [3, 2]], 0) := by rw [← code21]; exact gen_f hk 2 1 (by omega) (by omega) (by omega)
  have e2 : GGen.gen_Matrix.f k 0 0 = some ([], 500) := gen_no 0 0 (by omega)
  rw [e1, e2]
  simp only [Option.bind_some, num_f]
  rw [sameL (by omega) _ (by decide) (by decide)]
  simp only [Option.bind_some, if_true, genmay_f]
  rfl
theorem same_mtx {k : Nat} (hk : 200 < k) {l : List (List Int)} (h : Mtx l) : GBase.ossuarylaw0_SameMatrix.f k l l = some true := by
  rcases h with rfl | ⟨n, m, a, h1, h2, h3, h4, rfl⟩
  · exact sameL hk _ (by decide) (by decide)
  · exact sameF hk a a n m h2 h4 (fun _ _ _ _ => rfl)
theorem gens_calls (d p : Int) (r : Bool) (w : World) (h : r = true) : Calls Try.prog 11 #[.agg #[.int .i64 d, .int .i64 p]] w fun e w' => e = .returned (.bool r) ∧ Below w.heap.size w w' := by
  subst h
  obtain ⟨k, hk⟩ : ∃ k, 20000 < k := ⟨20001, by omega⟩
  have h5 : GAwg.ossuarylaw5_awake.f k = some true := awake5_f (by omega)
  by_cases hs : 1 ≤ d ∧ d ≤ 4 ∧ 0 ≤ p ∧ p ≤ 2
  · have h4 := genmay_f d p
    have h6 := rshape_f d p
    obtain ⟨d, rfl⟩ : ∃ n : Nat, d = (n : Int) := ⟨d.toNat, by omega⟩
    obtain ⟨p, rfl⟩ : ∃ n : Nat, p = (n : Int) := ⟨p.toNat, by omega⟩
    have hm : Mtx (fmat (code d) (d + p) d) := .inr ⟨d + p, d, code d, by omega, by omega, by omega, by omega, rfl⟩
    exact gens_walk k d p _ 0 _ w hm (gen_f (by omega) d p (by omega) (by omega) (by omega)) (rgen_f hk d p (by omega) (by omega) (by omega)) (same_mtx (by omega) hm) h4 h6 h5
  · exact gens_walk k d p [] 500 _ w (.inl rfl) (gen_no d p hs) (rgen_no d p hs) (same_mtx (by omega) (.inl rfl)) (genmay_f d p) (rshape_f d p) h5
end Go.Proofs.Ytaahnicjjpddjaa.Pr
end
section
namespace Go.Proofs.Ytaahnicjjpddjaa.Pure
set_option linter.unusedVariables false
theorem Gens {G G' : Prop} (a0 b0 : Int) (_ : G) (_ : G') : true = true := rfl
end Go.Proofs.Ytaahnicjjpddjaa.Pure
end
section
namespace Go.Proofs.Ytaahnicjjpddjaa.Opn
open Go.RowKit Go.ChangeShapes Go.WideShapes Go.Joins Go.Deep Go.Proofs.YtaahnicjjpddjaaW.PrintWords

section
variable {H : Type}

variable {enc : TypeId × Value → H} {P : Program} {W : World}

/-- A parameter that is a struct of two whole numbers. -/
theorem param_two {t : TypeId} {f0 f1 : Field} {k : IntKind} {r : Reach} {b0 : Nat} {v : Value} {D : DataW H} {p : List MemPlace}
    (hs : P.underlying t = some (.struct #[f0, f1])) (hone : oneCellFields P #[f0, f1] = true) (hC : P.cellsOf t = 2)
    (h0 : P.underlying f0.type = some (.int k)) (h1 : P.underlying f1.type = some (.int k))
    (hv : Value.okWide P W r b0 t v) (h : DataW.Trod enc P W 0 (fun _ => true) true t v D p) :
    ∃ a b, v = .agg #[.int k a, .int k b] ∧ (Lit.int k a).wf = true ∧ (Lit.int k b).wf = true := by
  obtain ⟨c0, c1, y0, y1, m, rfl, _, _, hy0, hy1⟩ := open_agg2 hs hone hC hv h
  obtain ⟨a, e0, _, wa⟩ := DataW.trod_int h0 hy0
  obtain ⟨b, e1, _, wb⟩ := DataW.trod_int h1 hy1
  simp only [List.cons.injEq, and_true] at e0 e1
  subst e0 e1
  exact ⟨a, b, rfl, wa, wb⟩
end
end Go.Proofs.Ytaahnicjjpddjaa.Opn
end
