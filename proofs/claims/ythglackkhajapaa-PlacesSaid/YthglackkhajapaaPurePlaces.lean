/- The program's places are the document's: at every input. -/
import Derived.Test.YthglackkhajapaaPPlacesx
import Derived.Test.YthglackkhajapaaPlacesPlc
namespace Go.Proofs.Ythglackkhajapaa.Pure
open Go.RowKit Go.Proofs.Ythglackkhajapaa.PPlaces Go.Proofs.YthglackkhajapaaW.PrintWords Go.Proofs.YthglackkhajapaaW.PrintLast Go.Proofs.Ythglackkhajapaa.Fld Go.Proofs.Ythglackkhajapaa.PlacesPlc

theorem some_two {x y : Int} : ∃ r : Int × Int, some (x, y) = some r := ⟨_, rfl⟩

theorem sectors_eq (a : Int) : ∃ r, place_Sectors.f a = some r ∧ ossuaryref13_Sectors.f a = some r := by
  unfold place_Sectors.f ossuaryref13_Sectors.f ossuaryref13_slotsMay.f
  by_cases h0 : a < 1
  · rw [if_pos h0, if_neg (show ¬ a ≥ 1 by omega)]; exact ⟨_, rfl, rfl⟩
  · rw [if_neg h0, if_pos (show a ≥ 1 by omega)]
    by_cases h1 : a > 24
    · rw [if_pos h1, decide_eq_false (by omega)]; exact ⟨_, rfl, rfl⟩
    · rw [if_neg h1, decide_eq_true (by omega)]; exact ⟨_, rfl, rfl⟩

theorem area_eq (a : Int) : ∃ r, place_Area.f a = some r ∧ ossuaryref13_Area.f a = some r := by
  unfold place_Area.f ossuaryref13_Area.f
  by_cases h0 : a < 0
  · rw [if_pos h0]; exact ⟨_, rfl, rfl⟩
  · rw [if_neg h0]
    by_cases h1 : a > 1048576
    · rw [if_pos h1]; exact ⟨_, rfl, rfl⟩
    · rw [if_neg h1]; exact ⟨_, rfl, rfl⟩

theorem slot_eq (a : Int) : ∃ r, place_Slot.f a = some r ∧ ossuaryref13_Slot.f a = some r := by
  unfold place_Slot.f ossuaryref13_Slot.f
  by_cases h0 : a < 0
  · rw [if_pos h0]; exact ⟨_, rfl, rfl⟩
  · rw [if_neg h0]
    by_cases h1 : a ≥ 24
    · rw [if_pos h1]; exact ⟨_, rfl, rfl⟩
    · rw [if_neg h1]; exact ⟨_, rfl, rfl⟩

theorem may_eq (d p : Int) : ∃ b, gen_May.f d p = some b ∧ ossuaryref1_ShapeMay.f d p = some b ∧ (b = true → 1 ≤ d ∧ d ≤ 4 ∧ 0 ≤ p ∧ p ≤ 2) := by
  unfold gen_May.f ossuaryref1_ShapeMay.f
  by_cases h0 : d ≥ 1
  · rw [if_pos h0]
    by_cases h1 : d ≤ 4
    · rw [if_pos h1]
      by_cases h2 : p ≥ 0
      · rw [if_pos h2]; exact ⟨_, rfl, rfl, fun h => ⟨h0, h1, h2, of_decide_eq_true h⟩⟩
      · rw [if_neg h2]; exact ⟨_, rfl, rfl, fun h => by cases h⟩
    · rw [if_neg h1]; exact ⟨_, rfl, rfl, fun h => by cases h⟩
  · rw [if_neg h0]; exact ⟨_, rfl, rfl, fun h => by cases h⟩

theorem disk_eq (d p i j : Int) : ∃ r, place_Disk.f d p i j = some r ∧ ossuaryref13_Place.f d p i j = some r := by
  obtain ⟨b, e1, e2, hb⟩ := may_eq d p
  have ea : gen_All.f d p = some (wrap64 (d + p)) := rfl
  unfold place_Disk.f ossuaryref13_Place.f
  rw [e1, e2, ea]
  simp only [Option.bind_some]
  cases b with
  | false =>
    simp only [Bool.false_eq_true, if_false]
    by_cases h0 : i < 0
    · rw [if_pos h0]; exact ⟨_, rfl, rfl⟩
    · rw [if_neg h0]
      by_cases h1 : i ≥ 24
      · rw [if_pos h1]; exact ⟨_, rfl, rfl⟩
      · rw [if_neg h1]; exact ⟨_, rfl, rfl⟩
  | true =>
    obtain ⟨q1, q2, q3, q4⟩ := hb rfl
    simp only [if_true]
    rw [wrap64_in (n := d + p) (by omega) (by omega)]
    by_cases h0 : i < 0
    · simp only [if_pos h0]; exact ⟨_, rfl, rfl⟩
    · simp only [if_neg h0]
      by_cases h1 : i ≥ 24
      · simp only [if_pos h1]; exact ⟨_, rfl, rfl⟩
      · simp only [if_neg h1]
        by_cases h2 : j < 0
        · simp only [if_pos h2]; exact ⟨_, rfl, rfl⟩
        · simp only [if_neg h2]
          by_cases h3 : j ≥ d + p
          · simp only [if_pos h3]; exact ⟨_, rfl, rfl⟩
          · simp only [if_neg h3, if_neg (show ¬ d + p = 0 by omega)]; exact ⟨_, rfl, rfl⟩

theorem Places (d p : Int) (_ : (Lit.int .i64 d).wf = true) (_ : (Lit.int .i64 p).wf = true) (a1 : Int) (_ : (Lit.int .i64 a1).wf = true) (a2 : Int) (_ : (Lit.int .i64 a2).wf = true) (a3 : Int) (_ : (Lit.int .i64 a3).wf = true) (a4 : Int) (_ : (Lit.int .i64 a4).wf = true) :
    ossuarylaw16_Places.f d p a1 a2 a3 a4 = some true := by
  obtain ⟨r1, e1, g1⟩ := sectors_eq a1
  obtain ⟨r2, e2, g2⟩ := area_eq a2
  obtain ⟨r3, e3, g3⟩ := slot_eq a3
  obtain ⟨r4, e4, g4⟩ := disk_eq d p a3 a4
  have e0 : ossuarylaw16_awake.f = some true := by decide +kernel
  have n : ∀ x, ossuarylaw0_Num.f x = some x := fun _ => rfl
  unfold ossuarylaw16_Places.f
  simp only [e1, g1, e2, g2, e3, g3, e4, g4, e0, n, Option.bind_some, if_true]

end Go.Proofs.Ythglackkhajapaa.Pure
