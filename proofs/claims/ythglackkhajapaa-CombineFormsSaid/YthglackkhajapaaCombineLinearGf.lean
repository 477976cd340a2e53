/- What the printed functions of the field come to, in the field's own words; with enough rounds, for every number of the field. -/
import Derived.Test.YthglackkhajapaaGCombineLinear1
import Derived.Test.YthglackkhajapaaNum
namespace Go.Proofs.Ythglackkhajapaa.CombineLinearGf
open Go.RowKit Go.Proofs.Ythglackkhajapaa.GCombineLinear Go.Proofs.Ythglackkhajapaa.Fld Go.Proofs.YthglackkhajapaaW.PrintWords Go.Proofs.YthglackkhajapaaW.PrintLast Go.Proofs.YthglackkhajapaaW.PrintMore

theorem succ_of {n k : Nat} (h : n < k) : ∃ m, k = m + 1 := ⟨k - 1, by omega⟩

theorem num_f (n : Int) : ossuarylaw0_Num.f n = some n := rfl
theorem gfis_yes {n : Int} (h0 : 0 ≤ n) (h1 : n < 256) : gf_Is.f n = some true := by
  unfold gf_Is.f; rw [if_pos h0, decide_eq_true h1]
theorem gfis_no {n : Int} (h : n < 0 ∨ 256 ≤ n) : gf_Is.f n = some false := by
  unfold gf_Is.f
  by_cases h0 : n ≥ 0
  · rw [if_pos h0, decide_eq_false (by omega)]
  · rw [if_neg h0]
theorem gfis (a : F) : gf_Is.f (toI a) = some true := gfis_yes (toI_lo a) (toI_hi a)
theorem times_l (n : Nat) : ∀ (k : Nat) (a o : F) (b : Nat), b < 2 ^ n → n < k → gf_Times.l0 k (toI a) (b : Int) (toI o) = some (toI (o ^^^ fmN n a b)) := by
  induction n with
  | zero =>
    intro k a o b hb hk
    obtain ⟨k, rfl⟩ := succ_of hk
    have hb0 : b = 0 := by have : (2 : Nat) ^ 0 = 1 := rfl; omega
    subst hb0
    simp only [gf_Times.l0]
    rw [if_neg (by omega)]
    simp [fmN]
  | succ n ih =>
    intro k a o b hb hk
    obtain ⟨k, rfl⟩ := succ_of hk
    have hb2 : b / 2 < 2 ^ n := by have : (2 : Nat) ^ (n + 1) = 2 ^ n * 2 := rfl; omega
    have hd : (b : Int) / 2 = ((b / 2 : Nat) : Int) := by omega
    simp only [gf_Times.l0]
    by_cases h0 : b = 0
    · subst h0
      rw [if_neg (by omega), fmN_zero_right]
      simp
    · rw [if_pos (by omega), and_1, dbl_wrap, hd, fmN_succ]
      by_cases h1 : b % 2 = 1
      · rw [if_pos (by omega)]
        have hbit : bitF b a = a := by unfold bitF; rw [if_pos h1]
        rw [hbit, ← BitVec.xor_assoc, xor_i64]
        by_cases h2 : toI a * 2 ≥ 256
        · rw [if_pos h2, dbl_hi a h2]
          exact ih k _ _ _ hb2 (by omega)
        · rw [if_neg h2, dbl_lo a h2]
          exact ih k _ _ _ hb2 (by omega)
      · rw [if_neg (by omega)]
        have hbit : bitF b a = 0#8 := by unfold bitF; rw [if_neg h1]
        rw [hbit, BitVec.zero_xor]
        by_cases h2 : toI a * 2 ≥ 256
        · rw [if_pos h2, dbl_hi a h2]
          exact ih k _ _ _ hb2 (by omega)
        · rw [if_neg h2, dbl_lo a h2]
          exact ih k _ _ _ hb2 (by omega)

theorem times_f {k : Nat} (hk : 8 < k) (a b : F) : gf_Times.f k (toI a) (toI b) = some (toI (fm a b)) := by
  have h := times_l 8 k a 0#8 b.toNat b.isLt hk
  rw [BitVec.zero_xor] at h
  exact h
end Go.Proofs.Ythglackkhajapaa.CombineLinearGf
