/- What the printed functions of the field come to, in the field's own words; with enough rounds, for every number of the field. -/
import Derived.Test.YthglackkhajapaaGCombines1
import Derived.Test.YthglackkhajapaaGCombines2
import Derived.Test.YthglackkhajapaaGCombines3
import Derived.Test.YthglackkhajapaaNum
namespace Go.Proofs.Ythglackkhajapaa.CombinesGf
open Go.RowKit Go.Proofs.Ythglackkhajapaa.GCombines Go.Proofs.Ythglackkhajapaa.Fld Go.Proofs.YthglackkhajapaaW.PrintWords Go.Proofs.YthglackkhajapaaW.PrintLast Go.Proofs.YthglackkhajapaaW.PrintMore

theorem succ_of {n k : Nat} (h : n < k) : ∃ m, k = m + 1 := ⟨k - 1, by omega⟩

theorem num_f (n : Int) : ossuarylaw0_Num.f n = some n := rfl
theorem gfis_yes {n : Int} (h0 : 0 ≤ n) (h1 : n < 256) : gf_Is.f n = some true := by
  unfold gf_Is.f; rw [if_pos h0, decide_eq_true h1]
theorem gfis_no {n : Int} (h : n < 0 ∨ 256 ≤ n) : gf_Is.f n = some false := by
  unfold gf_Is.f
  by_cases h0 : n ≥ 0
  · rw [if_pos h0, decide_eq_false (by omega)]
  · rw [if_neg h0]
theorem gfis (a : F) : gf_Is.f (toI a) = some true := gfis_yes (toI_lo a) (toI_hi a)
theorem bn_yes {n : Int} (h0 : 0 ≤ n) (h1 : n < 256) : ossuaryref1_byteNum.f n = some true := by
  unfold ossuaryref1_byteNum.f; rw [if_pos h0, decide_eq_true (by omega)]
theorem bn_no {n : Int} (h : n < 0 ∨ 256 ≤ n) : ossuaryref1_byteNum.f n = some false := by
  unfold ossuaryref1_byteNum.f
  by_cases h0 : n ≥ 0
  · rw [if_pos h0, decide_eq_false (by omega)]
  · rw [if_neg h0]
theorem bn (a : F) : ossuaryref1_byteNum.f (toI a) = some true := bn_yes (toI_lo a) (toI_hi a)
theorem times_l (n : Nat) : ∀ (k : Nat) (a o : F) (b : Nat), b < 2 ^ n → n < k → gf_Times.l0 k (toI a) (b : Int) (toI o) = some (toI (o ^^^ fmN n a b)) := by
  induction n with
  | zero =>
    intro k a o b hb hk
    obtain ⟨k, rfl⟩ := succ_of hk
    have hb0 : b = 0 := by have : (2 : Nat) ^ 0 = 1 := rfl; omega
    subst hb0
    simp only [gf_Times.l0]
    rw [if_neg (by omega)]
    simp [fmN]
  | succ n ih =>
    intro k a o b hb hk
    obtain ⟨k, rfl⟩ := succ_of hk
    have hb2 : b / 2 < 2 ^ n := by have : (2 : Nat) ^ (n + 1) = 2 ^ n * 2 := rfl; omega
    have hd : (b : Int) / 2 = ((b / 2 : Nat) : Int) := by omega
    simp only [gf_Times.l0]
    by_cases h0 : b = 0
    · subst h0
      rw [if_neg (by omega), fmN_zero_right]
      simp
    · rw [if_pos (by omega), and_1, dbl_wrap, hd, fmN_succ]
      by_cases h1 : b % 2 = 1
      · rw [if_pos (by omega)]
        have hbit : bitF b a = a := by unfold bitF; rw [if_pos h1]
        rw [hbit, ← BitVec.xor_assoc, xor_i64]
        by_cases h2 : toI a * 2 ≥ 256
        · rw [if_pos h2, dbl_hi a h2]
          exact ih k _ _ _ hb2 (by omega)
        · rw [if_neg h2, dbl_lo a h2]
          exact ih k _ _ _ hb2 (by omega)
      · rw [if_neg (by omega)]
        have hbit : bitF b a = 0#8 := by unfold bitF; rw [if_neg h1]
        rw [hbit, BitVec.zero_xor]
        by_cases h2 : toI a * 2 ≥ 256
        · rw [if_pos h2, dbl_hi a h2]
          exact ih k _ _ _ hb2 (by omega)
        · rw [if_neg h2, dbl_lo a h2]
          exact ih k _ _ _ hb2 (by omega)

theorem times_f {k : Nat} (hk : 8 < k) (a b : F) : gf_Times.f k (toI a) (toI b) = some (toI (fm a b)) := by
  have h := times_l 8 k a 0#8 b.toNat b.isLt hk
  rw [BitVec.zero_xor] at h
  exact h
theorem shr_at (b i : Nat) (hi : i < 8) : shr .i64 (b : Int) (i : Int) = ((b / 2 ^ i : Nat) : Int) := by
  unfold shr
  have e : min (i : Int).toNat IntKind.i64.bits = i := by
    have : IntKind.i64.bits = 64 := rfl
    rw [this, Int.toNat_natCast]; omega
  rw [e]
  rw [Int.natCast_ediv, Int.natCast_pow]; rfl

theorem rmul_l (d : Nat) : ∀ (k : Nat) (a o : F) (b i : Nat), b < 256 → i + d = 8 → d < k → ossuaryref1_mul.l0 k (toI a) (b : Int) (toI o) (i : Int) = some (toI (o ^^^ fmN d a (b / 2 ^ i))) := by
  induction d with
  | zero =>
    intro k a o b i hb hi hk
    obtain ⟨k, rfl⟩ := succ_of hk
    simp only [ossuaryref1_mul.l0]
    rw [if_neg (by omega)]
    simp [fmN]
  | succ d ih =>
    intro k a o b i hb hi hk
    obtain ⟨k, rfl⟩ := succ_of hk
    have hw : wrap64 ((i : Int) + 1) = ((i + 1 : Nat) : Int) := wrap64_in (by omega) (by omega)
    have hd : b / 2 ^ (i + 1) = b / 2 ^ i / 2 := by rw [Nat.pow_succ, Nat.div_div_eq_div_mul]
    simp only [ossuaryref1_mul.l0]
    rw [if_pos (by omega), if_pos (by omega), shr_at b i (by omega), and_1, dbl_wrap, hw, fmN_succ, ← hd]
    by_cases h1 : b / 2 ^ i % 2 = 1
    · rw [if_pos (by omega)]
      have hbit : bitF (b / 2 ^ i) a = a := by unfold bitF; rw [if_pos h1]
      rw [hbit, ← BitVec.xor_assoc, xor_i64]
      by_cases h2 : toI a * 2 ≥ 256
      · rw [if_pos (by omega), dbl_hi a h2]
        exact ih k _ _ _ _ hb (by omega) (by omega)
      · rw [if_neg (by omega), dbl_lo a h2]
        exact ih k _ _ _ _ hb (by omega) (by omega)
    · rw [if_neg (by omega)]
      have hbit : bitF (b / 2 ^ i) a = 0#8 := by unfold bitF; rw [if_neg h1]
      rw [hbit, BitVec.zero_xor]
      by_cases h2 : toI a * 2 ≥ 256
      · rw [if_pos (by omega), dbl_hi a h2]
        exact ih k _ _ _ _ hb (by omega) (by omega)
      · rw [if_neg (by omega), dbl_lo a h2]
        exact ih k _ _ _ _ hb (by omega) (by omega)

theorem rmul_f {k : Nat} (hk : 8 < k) (a b : F) : ossuaryref1_mul.f k (toI a) (toI b) = some (toI (fm a b)) := by
  have h := rmul_l 8 k a 0#8 b.toNat 0 b.isLt rfl hk
  rw [BitVec.zero_xor, Nat.pow_zero, Nat.div_one] at h
  exact h
end Go.Proofs.Ythglackkhajapaa.CombinesGf
