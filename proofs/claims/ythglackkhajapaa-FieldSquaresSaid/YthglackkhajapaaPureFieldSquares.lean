/- The square of a sum is the sum of the squares, and the power 256 changes nothing: at every input. -/
import Derived.Test.YthglackkhajapaaPFieldSquaresx2
import Derived.Test.YthglackkhajapaaFieldSquaresGf
namespace Go.Proofs.Ythglackkhajapaa.Pure
open Go.RowKit Go.Proofs.Ythglackkhajapaa.PFieldSquares Go.Proofs.YthglackkhajapaaW.PrintWords Go.Proofs.YthglackkhajapaaW.PrintLast Go.Proofs.Ythglackkhajapaa.Fld Go.Proofs.Ythglackkhajapaa.FieldSquaresGf

theorem FieldSquares : ossuarylaw1_FieldSquares.Pure := by
  intro a b _ _
  refine ⟨1100, ?_⟩
  unfold ossuarylaw1_FieldSquares.f
  rw [and_255, and_255]
  obtain ⟨x, hx⟩ := ex_toI (n := a % 256) (by omega) (by omega)
  obtain ⟨y, hy⟩ := ex_toI (n := b % 256) (by omega) (by omega)
  rw [hx, hy]
  have p : gf_Pow.f 1100 (toI x) 256 = some (toI x, 0) := by
    have := gpow_f (show 19 < 1100 by omega) x 256 (by omega)
    rwa [fp_256] at this
  simp only [awake1 (show 19 < 1100 by omega), p, gmul_f (show 8 < 1100 by omega), gadd_f, fm_sq_xor, Option.bind_some, if_true, num_f]
  simp

end Go.Proofs.Ythglackkhajapaa.Pure
