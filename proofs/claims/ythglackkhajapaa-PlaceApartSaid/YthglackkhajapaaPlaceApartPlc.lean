/- What the printed function of the disk comes to; a remainder of a number that is none of sign. No condition. -/
import Derived.Test.YthglackkhajapaaPPlaceApartx1
import Derived.Test.YthglackkhajapaaNum
namespace Go.Proofs.Ythglackkhajapaa.PlaceApartPlc
open Go.RowKit Go.Proofs.Ythglackkhajapaa.PPlaceApart Go.Proofs.YthglackkhajapaaW.PrintWords Go.Proofs.YthglackkhajapaaW.PrintLast Go.Proofs.Ythglackkhajapaa.Fld

theorem u64_nat (a : Int) : 0 ≤ IntKind.u64.wrap a := by
  simp [IntKind.wrap, IntKind.bits, IntKind.signed]
  exact Int.emod_nonneg _ (by decide)

theorem u64_in {a : Int} (h0 : 0 ≤ a) (h1 : a < 18446744073709551616) : IntKind.u64.wrap a = a := by
  simp [IntKind.wrap, IntKind.bits, IntKind.signed]
  omega

theorem tmod_pos {a m : Int} (h0 : 0 ≤ a) : Int.tmod a m = a % m := Int.tmod_eq_emod_of_nonneg h0

/-- what a number's remainder is, as the laws take it. -/
theorem mod_in (a m : Int) (h0 : 0 < m) (h1 : m ≤ 9223372036854775807) : ∃ r : Int, 0 ≤ r ∧ r < m ∧ wrap64 (Int.tmod (IntKind.u64.wrap a) m) = r := by
  have h := u64_nat a
  rw [tmod_pos h]
  have h2 := Int.emod_nonneg (IntKind.u64.wrap a) (show m ≠ 0 by omega)
  have h3 := Int.emod_lt_of_pos (IntKind.u64.wrap a) h0
  exact ⟨_, h2, h3, wrap64_in (by omega) (by omega)⟩

theorem may_yes {d p : Int} (h0 : 1 ≤ d) (h1 : d ≤ 4) (h2 : 0 ≤ p) (h3 : p ≤ 2) : gen_May.f d p = some true := by
  unfold gen_May.f
  rw [if_pos (by omega), if_pos (by omega), if_pos (by omega), decide_eq_true h3]

theorem disk_yes {d p i j : Int} (h0 : 1 ≤ d) (h1 : d ≤ 4) (h2 : 0 ≤ p) (h3 : p ≤ 2) (h4 : 0 ≤ i) (h5 : i < 24) (h6 : 0 ≤ j) (h7 : j < d + p) : place_Disk.f d p i j = some ((i + j) % (d + p), 0) := by
  unfold place_Disk.f
  rw [if_neg (by omega), if_neg (by omega), may_yes h0 h1 h2 h3]
  have ea : gen_All.f d p = some (d + p) := by unfold gen_All.f; rw [wrap64_in (by omega) (by omega)]
  simp only [Option.bind_some, if_true, ea]
  rw [if_neg (by omega), if_neg (by omega), if_neg (by omega), wrap64_in (by omega) (by omega), tmod_pos (by omega)]

end Go.Proofs.Ythglackkhajapaa.PlaceApartPlc
