/- The matrix that the program makes for the identity: 1 where row and column are one, else 0. As the printed contracts have it; the function that is handed over is left unsaid. No condition. Functions of the program as Lean functions, each with a proof that its call comes to what the function says. No condition. -/
import Derived.Test.YtaahnicjjpddjaaKMatrixFormsMade
section
namespace Go.Proofs.Ytaahnicjjpddjaa.Fn
open Go.RowKit Go.Proofs.YtaahnicjjpddjaaW.PrintWords Go.Proofs.YtaahnicjjpddjaaW.PrintLast Go.Proofs.YtaahnicjjpddjaaW.PrintMore Go.Proofs.Ytaahnicjjpddjaa.MadeW
def oneAt (a b : Int) : Option Int := some (if a = b then 1 else 0)
theorem one_calls (a b t : Int) (w : World) (h : oneAt a b = some t) : Calls Try.prog 70 #[.int .i64 a, .int .i64 b] w fun e w' => e = .returned (.int .i64 t) ∧ Drawn0 w w' := by
  unfold oneAt at h
  have e := Option.some.inj h
  clear h
  by_cases hab : a = b
  · rw [if_pos hab] at e
    subst e hab
    go_enter Try.func70, Try.ntmps70
    go_wp2
    go_ret
    exact ⟨rfl, Drawn0.refl _⟩
  · rw [if_neg hab] at e
    subst e
    have hb : (a == b) = false := beq_eq_false_iff_ne.2 hab
    clear hab
    go_enter Try.func70, Try.ntmps70
    go_wp2
    go_ret
    exact ⟨rfl, Drawn0.refl _⟩
def madeId.f (k : Nat) (a0 a1 : Int) : Option (List (List Int)) := matrix_made.f oneAt k a0 a1
theorem madeId.mono : ∀ a0 a1 k, LeO (madeId.f k a0 a1) (madeId.f (k + 1) a0 a1) := fun a0 a1 k => matrix_made.mono oneAt a0 a1 k
theorem madeId.calls (k : Nat) (a0 a1 : Int) (r : List (List Int)) (w : World) (h : madeId.f k a0 a1 = some r) :
    Calls Try.prog 63 #[.int .i64 a0, .int .i64 a1, .func (.func 70) #[] #[]] w fun e w' => ∃ v0_ : Value, e = .returned (.agg #[v0_]) ∧ Kd.S (Kd.slice 3 (Kd.int .i64)) 25 w' w.heap.size (fun _ => True) v0_ r ∧ Below w.heap.size w w' :=
  matrix_made.calls Try.func70 uN rfl #[] oneAt k a0 a1 r w (fun a b t W _ ht => one_calls a b t W ht) h
end Go.Proofs.Ytaahnicjjpddjaa.Fn
end
section
namespace Go.Proofs.Ytaahnicjjpddjaa.GBase
open Go.Proofs.Ytaahnicjjpddjaa.Fn
open Go.RowKit Go.Proofs.YtaahnicjjpddjaaW.PrintWords Go.Proofs.YtaahnicjjpddjaaW.PrintLast
set_option linter.unusedVariables false
set_option linter.unusedSimpArgs false
def errW : Option Int → Value
 | none => .nilIface
 | some c => .iface 0 (.int .i64 c)
theorem errW_none : errW none = .nilIface := rfl
theorem errW_some (c : Int) : errW (some c) = .iface 0 (.int .i64 c) := rfl
theorem info25 : (Try.prog.info? 25).map (fun i => (i.zero, i.size, i.bytes)) = some (some (.slice none 0 0), 1, 24) := by kernel_rfl
def rd_L1 (xs : List (List Int)) (i : Int) : (List Int) := xs.getD i.toNat ([] : List Int)
theorem at_L1 {w : World} {A : Option Addr} {n : Nat} {xs : List (List Int)} (h : Kd.C (Kd.slice 3 (Kd.int .i64)) w A n xs) (i : Int) (h0 : 0 ≤ i) (h1 : i < n) : ∃ ad A0 c0, A = some ad ∧ w.cell? (ad.add i.toNat) = some (.slice A0 (rd_L1 xs i).length c0) ∧ (rd_L1 xs i).length ≤ c0 ∧ (Kd.int .i64).C w A0 (rd_L1 xs i).length (rd_L1 xs i) := by
 obtain ⟨ad, c, e, _, hK, hc0⟩ := Kd.C_get h ([] : List Int) i h0 h1
 have hc : ∀ j u, c[j]? = some u → w.cell? (ad.add (i.toNat * 1 + j)) = some u := hc0
 obtain ⟨A0, c0, rfl, l0, g0⟩ := hK
 exact ⟨ad, A0, c0, e, uF, l0, g0⟩
end Go.Proofs.Ytaahnicjjpddjaa.GBase
end
