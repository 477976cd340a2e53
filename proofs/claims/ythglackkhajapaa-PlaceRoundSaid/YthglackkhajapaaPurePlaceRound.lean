/- From slot to slot a shard goes round all disks: at every input. -/
import Derived.Test.YthglackkhajapaaPlaceRoundPlc
namespace Go.Proofs.Ythglackkhajapaa.Pure
open Go.RowKit Go.Proofs.Ythglackkhajapaa.PPlaceRound Go.Proofs.YthglackkhajapaaW.PrintWords Go.Proofs.YthglackkhajapaaW.PrintLast Go.Proofs.Ythglackkhajapaa.Fld Go.Proofs.Ythglackkhajapaa.PlaceRoundPlc

theorem step_mod (x m : Int) : (x + 1) % m = (x % m + 1) % m := by
  rw [Int.add_emod x 1 m, Int.add_emod (x % m) 1 m, Int.emod_emod_of_dvd x (Int.dvd_refl m)]

theorem PlaceRound : ossuarylaw16_PlaceRound.Pure := by
  intro a b c e _ _ _ _
  unfold ossuarylaw16_PlaceRound.f
  obtain ⟨d, d0, d1, ed⟩ := mod_in a 4 (by omega) (by omega)
  obtain ⟨p, p0, p1, ep⟩ := mod_in b 3 (by omega) (by omega)
  obtain ⟨i, i0, i1, ei⟩ := mod_in c 23 (by omega) (by omega)
  rw [ed, ep, ei, wrap64_in (n := 1 + d) (by omega) (by omega), wrap64_in (n := 1 + d + p) (by omega) (by omega), u64_in (a := 1 + d + p) (by omega) (by omega)]
  obtain ⟨j, j0, j1, ej⟩ := mod_in e (1 + d + p) (by omega) (by omega)
  have e0 : ossuarylaw16_awake.f = some true := by decide +kernel
  have n : ∀ x, ossuarylaw0_Num.f x = some x := fun _ => rfl
  rw [ej, wrap64_in (n := i + 1) (by omega) (by omega), e0]
  simp only [Option.bind_some, if_true]
  rw [if_neg (by omega), disk_yes (by omega) (by omega) p0 (by omega) i0 (by omega) j0 j1, disk_yes (by omega) (by omega) p0 (by omega) (by omega) (by omega) j0 j1]
  simp only [Option.bind_some, if_true, n]
  have h2 := Int.emod_nonneg (i + j) (show 1 + d + p ≠ 0 by omega)
  have h3 := Int.emod_lt_of_pos (i + j) (show 0 < 1 + d + p by omega)
  rw [if_neg (by omega), wrap64_in (by omega) (by omega), tmod_pos (by omega), if_pos, if_pos (by omega), decide_eq_true (by omega)]
  rw [show i + 1 + j = i + j + 1 from by omega]
  exact step_mod _ _

end Go.Proofs.Ythglackkhajapaa.Pure
