/- Shapes that may not be have no matrix: at every number. -/
import Derived.Test.YtaahnicjjpddjaaGGenForms1
import Derived.Test.YtaahnicjjpddjaaShp
namespace Go.Proofs.Ytaahnicjjpddjaa.Pure
open Go.RowKit Go.Proofs.Ytaahnicjjpddjaa.GGenForms Go.Proofs.YtaahnicjjpddjaaW.PrintWords Go.Proofs.YtaahnicjjpddjaaW.PrintLast Go.Proofs.YtaahnicjjpddjaaW.PrintMore Go.Proofs.Ytaahnicjjpddjaa.Fld Go.Proofs.Ytaahnicjjpddjaa.Mat Go.Proofs.Ytaahnicjjpddjaa.Fn Go.Proofs.Ytaahnicjjpddjaa.Pr

theorem awake5_f {k : Nat} (hk : 400 < k) : ossuarylaw5_awake.f k = some true := by
  unfold ossuarylaw5_awake.f
  have e1 : GGen.gen_Matrix.f k 2 1 = some ([[1, 0], [0, 1], [3, 2]], 0) := by rw [← code21]; exact gen_f hk 2 1 (by omega) (by omega) (by omega)
  have e2 : GGen.gen_Matrix.f k 0 0 = some ([], 500) := gen_no 0 0 (by omega)
  rw [e1, e2]
  simp only [Option.bind_some, num_f]
  rw [sameL (by omega) _ (by decide) (by decide)]
  simp only [Option.bind_some, if_true, genmay_f]
  rfl


theorem GenForms {G G' : Prop} (a0 : Int) (_ : G) (a1 : Int) (_ : G') : ∃ k, ossuarylaw5_GenForms.f k a0 a1 = some true := by
  refine ⟨500, ?_⟩
  unfold ossuarylaw5_GenForms.f
  rw [awake5_f (by omega)]
  simp only [Option.bind_some, if_true]
  have hb : 0 ≤ Go.bits .and .i64 a1 1023 ∧ Go.bits .and .i64 a1 1023 < 1024 := by rw [and_1023]; omega
  generalize Go.bits .and .i64 a1 1023 = b at hb
  rw [wrap64_in (n := 1 + b) (by omega) (by omega), wrap64_in (n := 4 + (1 + b)) (by omega) (by omega), wrap64_in (n := 2 + (1 + b)) (by omega) (by omega), wrap64_in (n := -(1 + b)) (by omega) (by omega)]
  obtain ⟨r, hr, e⟩ := mod_u a0 5 (by omega) (by omega)
  rw [show ((5 : Nat) : Int) = 5 from rfl] at e
  rw [e, if_pos (by omega), if_pos (by simp; omega)]
  have fin : ∀ d p : Int, ¬ (1 ≤ d ∧ d ≤ 4 ∧ 0 ≤ p ∧ p ≤ 2) → ((GGen.gen_Matrix.f 500 d p).bind fun bt139 => ((GGf.gen_May.f d p).bind fun t144 => (if t144 = true then (some false) else (if (bt139.1.length : Int) = 0 then ((GBase.ossuarylaw0_Num.f bt139.2).bind fun t145 => (some (t145 == 500))) else (some false))))) = some true := by
    intro d p h
    rw [gen_no d p h, genmay_f, decide_eq_false h]
    simp [num_f]
  obtain rfl | rfl | rfl | rfl | rfl : r = 0 ∨ r = 1 ∨ r = 2 ∨ r = 3 ∨ r = 4 := by omega
  · exact fin 0 1 (by omega)
  · exact fin (-(1 + b)) 0 (by omega)
  · exact fin (4 + (1 + b)) 0 (by omega)
  · exact fin 1 (-(1 + b)) (by omega)
  · exact fin 1 (2 + (1 + b)) (by omega)
end Go.Proofs.Ytaahnicjjpddjaa.Pure
