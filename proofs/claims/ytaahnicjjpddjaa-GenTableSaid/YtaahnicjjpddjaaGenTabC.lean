/- The code's matrices by hand: what the call of the law comes to, at every number. -/
import Derived.Test.YtaahnicjjpddjaaGenTabW
import Derived.Test.YtaahnicjjpddjaaShp
namespace Go.Proofs.Ytaahnicjjpddjaa.GenW
open Go.RowKit Go.Proofs.YtaahnicjjpddjaaW.PrintWords Go.Proofs.YtaahnicjjpddjaaW.PrintLast Go.Proofs.YtaahnicjjpddjaaW.PrintMore Go.Proofs.Ytaahnicjjpddjaa.Fld Go.Proofs.Ytaahnicjjpddjaa.Mat Go.Proofs.Ytaahnicjjpddjaa.Fn Go.Proofs.Ytaahnicjjpddjaa.Pr

theorem awake5_t {k : Nat} (hk : 400 < k) : GAwg.ossuarylaw5_awake.f k = some true := by
  unfold GAwg.ossuarylaw5_awake.f
  have e1 : GGen.gen_Matrix.f k 2 1 = some ([[1, 0], [0, 1], [3, 2]], 0) := by rw [← code21]; exact gen_f hk 2 1 (by omega) (by omega) (by omega)
  have e2 : GGen.gen_Matrix.f k 0 0 = some ([], 500) := gen_no 0 0 (by omega)
  rw [e1, e2]
  simp only [Option.bind_some, num_f]
  rw [sameL (by omega) _ (by decide) (by decide)]
  simp only [Option.bind_some, if_true, genmay_f]
  rfl
theorem gen_lit (d p : Nat) (L : List (List Int)) (h1 : 1 ≤ d) (h2 : d ≤ 4) (h3 : p ≤ 2) (hL : fmat (ent L) (d + p) d = L) (h : ∀ i, i < d + p → ∀ j, j < d → mm d (ent L) (van num) i j = van num i j) : GGen.gen_Matrix.f 500 (d : Int) (p : Int) = some (L, 0) := by
  rw [gen_f (by omega) d p h1 h2 h3, code_lit d (d + p) (by omega) L hL h]
theorem gentab_calls (a0 : Int) (r : Bool) (w : World) (h : r = true) : Calls Try.prog 12 #[.int .i64 a0] w fun e w' => e = .returned (.bool r) ∧ Below w.heap.size w w' := by
  subst h
  have h5 : GAwg.ossuarylaw5_awake.f 500 = some true := awake5_t (by omega)
  obtain ⟨r, hr, e⟩ := mod_u a0 5 (by omega) (by omega)
  rw [show ((5 : Nat) : Int) = 5 from rfl] at e
  obtain rfl | rfl | rfl | rfl | rfl : r = 0 ∨ r = 1 ∨ r = 2 ∨ r = 3 ∨ r = 4 := by omega
  · exact gtab0 500 a0 w h5 e (gen_lit 1 0 [[1]] (by omega) (by omega) (by omega) (by decide +kernel) (by decide +kernel)) (sameL (by omega) _ (by decide) (by decide))
  · exact gtab1 500 a0 w h5 e (gen_lit 1 2 [[1], [1], [1]] (by omega) (by omega) (by omega) (by decide +kernel) (by decide +kernel)) (sameL (by omega) _ (by decide) (by decide))
  · exact gtab2 500 a0 w h5 e (gen_lit 2 0 [[1, 0], [0, 1]] (by omega) (by omega) (by omega) (by decide +kernel) (by decide +kernel)) (sameL (by omega) _ (by decide) (by decide))
  · exact gtab3 500 a0 w h5 e (gen_lit 2 2 [[1, 0], [0, 1], [3, 2], [2, 3]] (by omega) (by omega) (by omega) (by decide +kernel) (by decide +kernel)) (sameL (by omega) _ (by decide) (by decide))
  · exact gtab4 500 a0 w h5 e (gen_lit 3 1 [[1, 0, 0], [0, 1, 0], [0, 0, 1], [1, 1, 1]] (by omega) (by omega) (by omega) (by decide +kernel) (by decide +kernel)) (sameL (by omega) _ (by decide) (by decide))
end Go.Proofs.Ytaahnicjjpddjaa.GenW
