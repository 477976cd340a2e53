/- Sums as the document's: both come to the same; what was lent is kept; at every input. -/
import Derived.Test.YthglackkhajapaaLend
import Derived.Test.YthglackkhajapaaCombinesVecLaw
namespace Go.Proofs.Ythglackkhajapaa.Pure
open Go.RowKit Go.Proofs.Ythglackkhajapaa.GCombines Go.Proofs.YthglackkhajapaaW.PrintWords Go.Proofs.YthglackkhajapaaW.PrintLast Go.Proofs.YthglackkhajapaaW.PrintMore Go.Proofs.Ythglackkhajapaa.Fld Go.Proofs.Ythglackkhajapaa.CombinesGf Go.Proofs.Ythglackkhajapaa.CombinesVec Go.Proofs.Ythglackkhajapaa.Lend

theorem co_awake {k : Nat} (hk : 60000 < k) : ossuarylaw2_awake.f k = some true := by
  unfold ossuarylaw2_awake.f
  rw [vcomb hk _ _ (by decide), vcomb hk _ _ (by decide), vcomb hk _ _ (by decide)]
  have e1 : combine [1, 2] [⟨#[97, 98]⟩, ⟨#[128, 1]⟩] = (⟨#[124, 96]⟩, 0) := by decide +kernel
  have e2 : combine [1] [⟨#[97]⟩, ⟨#[98]⟩] = (noStr, 200) := by decide +kernel
  have e3 : combine [] [] = (noStr, 200) := by decide +kernel
  rw [e1, e2, e3]
  simp only [Option.bind_some, num_f]
  rw [if_pos (by decide +kernel), if_pos trivial, if_pos trivial]
  rfl

theorem same_ints (xs : List Int) (hb : xs.length < 9223372036854775807) (d : Nat) : ∀ (k i : Nat), i + d = xs.length → d < k → ossuarylaw0_SameInts.l0 k xs xs (i : Int) = some true := by
  induction d with
  | zero =>
    intro k i hi hk
    obtain ⟨k, rfl⟩ := succ_of hk
    simp only [ossuarylaw0_SameInts.l0]
    rw [if_neg (by omega)]
  | succ d ih =>
    intro k i hi hk
    obtain ⟨k, rfl⟩ := succ_of hk
    simp only [ossuarylaw0_SameInts.l0]
    rw [if_pos (by omega), if_pos (by omega), if_pos (by omega), if_pos trivial, show wrap64 ((i : Int) + 1) = ((i + 1 : Nat) : Int) from wrap64_in (by omega) (by omega), ih k (i + 1) (by omega) (by omega)]
theorem same_texts (xs : List ByteArray) (hb : xs.length < 9223372036854775807) (d : Nat) : ∀ (k i : Nat), i + d = xs.length → d < k → ossuarylaw0_SameTexts.l0 k xs xs (i : Int) = some true := by
  induction d with
  | zero =>
    intro k i hi hk
    obtain ⟨k, rfl⟩ := succ_of hk
    simp only [ossuarylaw0_SameTexts.l0]
    rw [if_neg (by omega)]
  | succ d ih =>
    intro k i hi hk
    obtain ⟨k, rfl⟩ := succ_of hk
    simp only [ossuarylaw0_SameTexts.l0]
    rw [if_pos (by omega), if_pos (by omega), if_pos (by omega), if_pos trivial, show wrap64 ((i : Int) + 1) = ((i + 1 : Nat) : Int) from wrap64_in (by omega) (by omega), ih k (i + 1) (by omega) (by omega)]

theorem Combines {G G' : Prop} (l0 : List Int) (_ : G) (s0 : l0.length * 8 ≤ 140737488351232) (l1 : List ByteArray) (_ : G') (s1 : l1.length * 16 ≤ 140737488351232) : ∃ k, Go.Proofs.Ythglackkhajapaa.Lend.Good k l0 l1 ∧ true = true := by
  refine ⟨60001 + l0.length + l1.length, ⟨by omega, by omega, ?_, ⟨combine l0 l1, vcomb (by omega) _ _ (by omega), rcomb (by omega) _ _ (by omega)⟩, ?_, ?_, co_awake (by omega)⟩, rfl⟩
  · unfold ossuarylaw0_LendInts.f ossuarylaw0_CopyInts.f
    rw [Option.bind_some, if_pos (by simp; omega)]
    simp only [Option.bind_some, List.nil_append]
    rw [if_pos (by simp; omega), if_pos (by omega), if_pos (by simp; omega), Int.toNat_natCast]
    simp
  · unfold ossuarylaw0_SameInts.f
    rw [if_pos rfl]
    exact same_ints l0 (by omega) l0.length _ 0 (by omega) (by omega)
  · unfold ossuarylaw0_SameTexts.f
    rw [if_pos rfl]
    exact same_texts l1 (by omega) l1.length _ 0 (by omega) (by omega)
end Go.Proofs.Ythglackkhajapaa.Pure
