/- Sums and products of the field may change places, are taken apart and spread, and an inverse leads back: at every input. -/
import Derived.Test.YthglackkhajapaaPFieldLawsx2
import Derived.Test.YthglackkhajapaaFieldLawsGf
namespace Go.Proofs.Ythglackkhajapaa.Pure
open Go.RowKit Go.Proofs.Ythglackkhajapaa.PFieldLaws Go.Proofs.YthglackkhajapaaW.PrintWords Go.Proofs.YthglackkhajapaaW.PrintLast Go.Proofs.Ythglackkhajapaa.Fld Go.Proofs.Ythglackkhajapaa.FieldLawsGf

theorem FieldLaws : ossuarylaw1_FieldLaws.Pure := by
  intro a b c _ _ _
  refine ⟨1100, ?_⟩
  unfold ossuarylaw1_FieldLaws.f
  rw [and_255, and_255, and_255]
  obtain ⟨x, hx⟩ := ex_toI (n := a % 256) (by omega) (by omega)
  obtain ⟨y, hy⟩ := ex_toI (n := b % 256) (by omega) (by omega)
  obtain ⟨z, hz⟩ := ex_toI (n := c % 256) (by omega) (by omega)
  rw [hx, hy, hz]
  have e10 : (10 : Nat) = 10 := rfl
  simp only [awake1 (show 19 < 1100 by omega), gmul_f (show 8 < 1100 by omega), gadd_f, Option.bind_some, if_true, num_f]
  rw [fm_comm y x, fm_assoc x y z, fm_xor x y z]
  have hl := toI_lo (fm x y)
  have hh := toI_hi (fm x y)
  have hb : ((toI (fm x y) == 0) = true) ↔ (x = 0#8 ∨ y = 0#8) := by
    rw [beq_iff_eq, toI_eq_zero, fm_eq_zero]
  show ossuarylaw1_FieldLaws.j0 (1099 + 1) _ _ _ _ _ _ _ _ _ = _
  simp only [ossuarylaw1_FieldLaws.j0]
  rw [if_neg (by decide)]
  by_cases h0 : x = 0#8
  · subst h0
    have t0 : toI 0#8 = 0 := rfl
    rw [zero_fm, t0]
    rfl
  · have hp : toI x > 0 := by
      have := toI_lo x
      have : toI x ≠ 0 := fun e => h0 ((toI_eq_zero x).1 e)
      omega
    have hn : ¬ toI x = 0 := by omega
    have hback : fm (fi x) (fm x y) = y := by rw [← fm_assoc, fi_fm x h0, one_fm]
    rw [if_pos hp, ginv_f (by omega) x h0]
    simp only [Option.bind_some, gmul_f (show 8 < 1099 by omega), hback, num_f, if_true, if_neg hn]
    rw [if_pos (by omega), if_pos (by omega)]
    have e1 : (toI (fm x y) == 0) = (toI y == 0) := by
      rw [Bool.eq_iff_iff, hb, beq_iff_eq, toI_eq_zero]
      exact ⟨fun h => h.elim (fun e => absurd e h0) id, Or.inr⟩
    rw [e1]; simp

end Go.Proofs.Ythglackkhajapaa.Pure
