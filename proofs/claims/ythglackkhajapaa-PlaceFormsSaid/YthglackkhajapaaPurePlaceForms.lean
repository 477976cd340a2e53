/- Numbers that are no place are refused: at every input. -/
import Derived.Test.YthglackkhajapaaPPlaceFormsx1
import Derived.Test.YthglackkhajapaaNum
namespace Go.Proofs.Ythglackkhajapaa.Pure
open Go.RowKit Go.Proofs.Ythglackkhajapaa.PPlaceForms Go.Proofs.YthglackkhajapaaW.PrintWords Go.Proofs.YthglackkhajapaaW.PrintLast Go.Proofs.Ythglackkhajapaa.Fld

theorem PlaceForms : ossuarylaw16_PlaceForms.Pure := by
  intro a _
  unfold ossuarylaw16_PlaceForms.f
  rw [and_1023]
  obtain ⟨d, hd, h0, h1⟩ : ∃ d : Int, wrap64 (1 + a % 1024) = d ∧ 1 ≤ d ∧ d ≤ 1024 := ⟨1 + a % 1024, wrap64_in (by omega) (by omega), by omega, by omega⟩
  rw [hd, wrap64_in (n := 1 - d) (by omega) (by omega), wrap64_in (n := 24 + d) (by omega) (by omega), wrap64_in (n := -d) (by omega) (by omega), wrap64_in (n := 1048576 + d) (by omega) (by omega), wrap64_in (n := 23 + d) (by omega) (by omega), wrap64_in (n := 2 + d) (by omega) (by omega)]
  have e0 : ossuarylaw16_awake.f = some true := by decide +kernel
  have e1 : place_Sectors.f (1 - d) = some (0, 1600) := by unfold place_Sectors.f; rw [if_pos (by omega)]
  have e2 : place_Sectors.f (24 + d) = some (0, 1600) := by unfold place_Sectors.f; rw [if_neg (by omega), if_pos (by omega)]
  have e3 : place_Area.f (-d) = some (0, 1600) := by unfold place_Area.f; rw [if_pos (by omega)]
  have e4 : place_Area.f (1048576 + d) = some (0, 1600) := by unfold place_Area.f; rw [if_neg (by omega), if_pos (by omega)]
  have e5 : place_Slot.f (-d) = some (0, 1600) := by unfold place_Slot.f; rw [if_pos (by omega)]
  have e6 : place_Slot.f (23 + d) = some (0, 1600) := by unfold place_Slot.f; rw [if_neg (by omega), if_pos (by omega)]
  have g1 : gen_May.f (-d) 0 = some false := by unfold gen_May.f; rw [if_neg (by omega)]
  have g2 : gen_May.f 2 1 = some true := by decide +kernel
  have g3 : gen_All.f 2 1 = some 3 := by decide +kernel
  have e7 : place_Disk.f (-d) 0 0 0 = some (0, 1600) := by unfold place_Disk.f; rw [if_neg (by omega), if_neg (by omega), g1]; rfl
  have e8 : place_Disk.f 2 1 (-d) 0 = some (0, 1600) := by unfold place_Disk.f; rw [if_pos (by omega)]
  have e9 : place_Disk.f 2 1 (23 + d) 0 = some (0, 1600) := by unfold place_Disk.f; rw [if_neg (by omega), if_pos (by omega)]
  have e10 : place_Disk.f 2 1 0 (2 + d) = some (0, 1600) := by
    unfold place_Disk.f
    rw [if_neg (by omega), if_neg (by omega), g2]
    simp only [Option.bind_some, if_true]
    rw [if_neg (by omega), g3]
    simp only [Option.bind_some]
    rw [if_pos (by omega)]
  have e11 : place_Disk.f 2 1 0 (-d) = some (0, 1600) := by
    unfold place_Disk.f
    rw [if_neg (by omega), if_neg (by omega), g2]
    simp only [Option.bind_some, if_true]
    rw [if_pos (by omega)]
  have n : ∀ x, ossuarylaw0_Num.f x = some x := fun _ => rfl
  simp only [e0, e1, e2, e3, e4, e5, e6, e7, e8, e9, e10, e11, n, Option.bind_some, if_true]
  rfl

end Go.Proofs.Ythglackkhajapaa.Pure
