/- A shape with more parity has the rows of one with less, and further ones: at every number. -/
import Derived.Test.YtaahnicjjpddjaaGGenMore1
import Derived.Test.YtaahnicjjpddjaaShp
namespace Go.Proofs.Ytaahnicjjpddjaa.Pure
open Go.RowKit Go.Proofs.Ytaahnicjjpddjaa.GGenMore Go.Proofs.YtaahnicjjpddjaaW.PrintWords Go.Proofs.YtaahnicjjpddjaaW.PrintLast Go.Proofs.YtaahnicjjpddjaaW.PrintMore Go.Proofs.Ytaahnicjjpddjaa.Fld Go.Proofs.Ytaahnicjjpddjaa.Mat Go.Proofs.Ytaahnicjjpddjaa.Fn Go.Proofs.Ytaahnicjjpddjaa.Pr

theorem awake5_f {k : Nat} (hk : 400 < k) : ossuarylaw5_awake.f k = some true := by
  unfold ossuarylaw5_awake.f
  have e1 : GGen.gen_Matrix.f k 2 1 = some ([[1, 0], [0, 1], [3, 2]], 0) := by rw [← code21]; exact gen_f hk 2 1 (by omega) (by omega) (by omega)
  have e2 : GGen.gen_Matrix.f k 0 0 = some ([], 500) := gen_no 0 0 (by omega)
  rw [e1, e2]
  simp only [Option.bind_some, num_f]
  rw [sameL (by omega) _ (by decide) (by decide)]
  simp only [Option.bind_some, if_true, genmay_f]
  rfl


theorem more_l (d p : Nat) (h1 : 1 ≤ d) (h2 : d ≤ 4) (h3 : p ≤ 1) (e : Nat) : ∀ (k i : Nat), i + e = d + p → 300 + e < k →
    ossuarylaw5_GenMore.l0 k 0 0 (upto i) (i : Int) (d : Int) (p : Int) (fmat (code d) (d + p) d) (fmat (code d) (d + (p + 1)) d) = some true := by
  induction e with
  | zero =>
    intro k i hi hk
    obtain ⟨k, rfl⟩ : ∃ m, k = m + 1 := ⟨k - 1, by omega⟩
    simp only [ossuarylaw5_GenMore.l0, num_f]
    rw [wrap64_in (by omega) (by omega), if_neg (by omega), pick_ok (by omega) _ _ _ (by omega) (by omega) (by omega) (by omega) _ (by rw [upto_length]; omega) (by rw [upto_length]; omega) (upto_in _ _ (by omega)), upto_length]
    simp only [Option.bind_some, if_true]
    rw [show i = d + p by omega, sameF (by omega) _ _ (d + p) d (by omega) (by omega) (fun i' j hi' _ => by rw [upto_get _ _ hi']; rfl)]
    simp only [Option.bind_some, if_true]
    rw [fmat_length, fmat_length, wrap64_in (by omega) (by omega)]
    exact congrArg some (beq_iff_eq.2 (by omega))
  | succ e ih =>
    intro k i hi hk
    obtain ⟨k, rfl⟩ : ∃ m, k = m + 1 := ⟨k - 1, by omega⟩
    simp only [ossuarylaw5_GenMore.l0]
    rw [wrap64_in (by omega) (by omega), if_pos (by omega), upto_length, if_pos (by omega), succ_wrap i (by omega), ← upto_succ]
    exact ih k (i + 1) (by omega) (by omega)
theorem more_f {k : Nat} (hk : 450 < k) (a0 a1 : Int) : ossuarylaw5_GenMore.f k a0 a1 = some true := by
  unfold ossuarylaw5_GenMore.f
  rw [awake5_f (by omega)]
  simp only [Option.bind_some, if_true]
  obtain ⟨r, hr, e⟩ := mod_u a0 4 (by omega) (by omega)
  obtain ⟨p, hp, e'⟩ := mod_u a1 2 (by omega) (by omega)
  rw [show ((4 : Nat) : Int) = 4 from rfl] at e
  rw [show ((2 : Nat) : Int) = 2 from rfl] at e'
  rw [e, e', wrap64_in (n := 1 + (r : Int)) (by omega) (by omega), show 1 + (r : Int) = ((1 + r : Nat) : Int) by omega, wrap64_in (n := (p : Int) + 1) (by omega) (by omega), show (p : Int) + 1 = ((p + 1 : Nat) : Int) by omega, gen_f (by omega) (1 + r) p (by omega) (by omega) (by omega), gen_f (by omega) (1 + r) (p + 1) (by omega) (by omega) (by omega)]
  simp only [Option.bind_some]
  exact more_l (1 + r) p (by omega) (by omega) (by omega) (1 + r + p) k 0 (by omega) (by omega)
theorem GenMore {G G' : Prop} (a0 : Int) (_ : G) (a1 : Int) (_ : G') : ∃ k, ossuarylaw5_GenMore.f k a0 a1 = some true := ⟨500, more_f (by omega) a0 a1⟩
end Go.Proofs.Ytaahnicjjpddjaa.Pure
