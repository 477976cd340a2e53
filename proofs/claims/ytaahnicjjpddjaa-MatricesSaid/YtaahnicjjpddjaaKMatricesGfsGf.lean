/- How the machine's whole numbers and the field's go into one another: exclusive or, doubling, masks and wraps in the spelling of the printed functions. No condition. What the printed functions of the field come to, in the field's own words; with enough rounds, for every number of the field. -/
import Derived.Test.YtaahnicjjpddjaaKMatricesFld
import Derived.Test.YtaahnicjjpddjaaKMatricesGBase0
section
namespace Go.Proofs.Ytaahnicjjpddjaa.Fld
open Go.RowKit
theorem wrap64_in {n : Int} (h0 : -9223372036854775808 ≤ n) (h1 : n ≤ 9223372036854775807) : wrap64 n = n := by
  unfold wrap64; omega
def toI (a : F) : Int := (a.toNat : Int)
def ofI (n : Int) : F := BitVec.ofNat 8 n.toNat
theorem toI_lo (a : F) : 0 ≤ toI a := Int.natCast_nonneg _
theorem toI_hi (a : F) : toI a < 256 := by have := a.isLt; unfold toI; omega
theorem toI_ofI {n : Int} (h0 : 0 ≤ n) (h1 : n < 256) : toI (ofI n) = n := by
  unfold toI ofI
  rw [BitVec.toNat_ofNat, Nat.mod_eq_of_lt (by omega)]
  omega
theorem ofI_toI (a : F) : ofI (toI a) = a := by
  unfold toI ofI
  apply BitVec.eq_of_toNat_eq
  rw [BitVec.toNat_ofNat, Int.toNat_natCast, Nat.mod_eq_of_lt a.isLt]
theorem i64_small {n : Int} (h0 : 0 ≤ n) (h1 : n < 9223372036854775808) : IntKind.i64.wrap n = n := by rw [IntKind.wrap_i64]; omega
theorem ofInt_toI (k : IntKind) (hk : 8 ≤ k.bits) (a : F) : (BitVec.ofInt k.bits (toI a)).toNat = a.toNat := by
  unfold toI
  rw [BitVec.ofInt_natCast, BitVec.toNat_ofNat]
  exact Nat.mod_eq_of_lt (Nat.lt_of_lt_of_le a.isLt (Nat.pow_le_pow_right (by decide) hk))
theorem xor_i64 (a b : F) : bits .xor .i64 (toI a) (toI b) = toI (a ^^^ b) := by
  have h : bits .xor .i64 (toI a) (toI b) = IntKind.i64.wrap ((BitVec.ofInt 64 (toI a) ^^^ BitVec.ofInt 64 (toI b)).toNat : Int) := rfl
  have ha : (BitVec.ofInt 64 (toI a)).toNat = a.toNat := ofInt_toI .i64 (by decide) a
  have hb : (BitVec.ofInt 64 (toI b)).toNat = b.toNat := ofInt_toI .i64 (by decide) b
  rw [h, BitVec.toNat_xor, ha, hb, ← BitVec.toNat_xor]
  exact i64_small (toI_lo _) (by have := toI_hi (a ^^^ b); unfold toI at this; omega)
/-- a mask of low bits, of whatever number. -/
theorem and_mask (j : Nat) (hj : j ≤ 62) (x : Int) : bits .and .i64 x (2 ^ j - 1) = x % 2 ^ j := by
  have h : bits .and .i64 x (2 ^ j - 1) = IntKind.i64.wrap ((BitVec.ofInt 64 x &&& BitVec.ofInt 64 (2 ^ j - 1)).toNat : Int) := rfl
  have hp : 0 < 2 ^ j := Nat.two_pow_pos j
  have hq : 2 ^ j ≤ 2 ^ 62 := Nat.pow_le_pow_right (by decide) hj
  have hc : ((2 : Int) ^ j - 1) = ((2 ^ j - 1 : Nat) : Int) := by rw [Int.natCast_sub hp, Int.natCast_pow]; rfl
  have hb : (BitVec.ofInt 64 ((2 : Int) ^ j - 1)).toNat = 2 ^ j - 1 := by
    rw [hc, BitVec.ofInt_natCast, BitVec.toNat_ofNat]
    exact Nat.mod_eq_of_lt (by omega)
  rw [h, BitVec.toNat_and, hb, Nat.and_two_pow_sub_one_eq_mod]
  have hx : (BitVec.ofInt 64 x).toNat = (x % 18446744073709551616).toNat := by rw [BitVec.toNat_ofInt]; rfl
  rw [hx]
  have hd : ((2 ^ j : Nat) : Int) ∣ 18446744073709551616 := by
    have : (2 ^ j : Nat) ∣ 2 ^ 64 := Nat.pow_dvd_pow 2 (by omega)
    have e : (18446744073709551616 : Int) = ((2 ^ 64 : Nat) : Int) := rfl
    rw [e]
    exact Int.natCast_dvd_natCast.2 this
  have h0 : 0 ≤ x % 18446744073709551616 := Int.emod_nonneg _ (by decide)
  have e1 : (((x % 18446744073709551616).toNat % 2 ^ j : Nat) : Int) = x % ((2 ^ j : Nat) : Int) := by
    rw [Int.natCast_emod, Int.toNat_of_nonneg h0, Int.emod_emod_of_dvd _ hd]
  rw [e1]
  have h2 : 0 ≤ x % ((2 ^ j : Nat) : Int) := Int.emod_nonneg _ (by omega)
  have h3 : x % ((2 ^ j : Nat) : Int) < ((2 ^ j : Nat) : Int) := Int.emod_lt_of_pos _ (by omega)
  have h4 : ((2 ^ j : Nat) : Int) = (2 : Int) ^ j := by rw [Int.natCast_pow]; rfl
  rw [i64_small h2 (by omega), h4]
theorem and_1 (x : Int) : bits .and .i64 x 1 = x % 2 := and_mask 1 (by decide) x
theorem tx_lo_all : ∀ n : Nat, n < 128 → tx (BitVec.ofNat 8 n) = BitVec.ofNat 8 (n * 2) := by decide +kernel
theorem tx_hi_all : ∀ n : Nat, n < 128 → bits .xor .i64 (256 + (n : Int) * 2) 285 = toI (tx (BitVec.ofNat 8 (128 + n))) := by decide +kernel
theorem of_toNat (a : F) : BitVec.ofNat 8 a.toNat = a := by rw [BitVec.ofNat_toNat, BitVec.setWidth_eq]
theorem dbl_wrap (a : F) : wrap64 (toI a * 2) = toI a * 2 := by
  have := toI_lo a; have := toI_hi a
  exact wrap64_in (by omega) (by omega)
theorem dbl_lo (a : F) (h : ¬ toI a * 2 ≥ 256) : toI a * 2 = toI (tx a) := by
  unfold toI at h ⊢
  have h1 := tx_lo_all a.toNat (by omega)
  rw [of_toNat] at h1
  rw [h1, BitVec.toNat_ofNat, Nat.mod_eq_of_lt (by omega)]
  omega
theorem dbl_hi (a : F) (h : toI a * 2 ≥ 256) : bits .xor .i64 (toI a * 2) 285 = toI (tx a) := by
  have hl := toI_hi a
  unfold toI at h hl
  have h1 := tx_hi_all (a.toNat - 128) (by omega)
  rw [show 128 + (a.toNat - 128) = a.toNat from by omega, of_toNat] at h1
  rw [← h1, show (toI a * 2) = 256 + ((a.toNat - 128 : Nat) : Int) * 2 from by unfold toI; omega]
/-- one of the product's rounds. -/
def bitF (b : Nat) (a : F) : F := if b % 2 = 1 then a else 0#8
theorem fmN_succ (n : Nat) (a : F) (b : Nat) : fmN (n + 1) a b = bitF b a ^^^ fmN n (tx a) (b / 2) := rfl
end Go.Proofs.Ytaahnicjjpddjaa.Fld
end
section
namespace Go.Proofs.Ytaahnicjjpddjaa.GfsGf
open Go.RowKit Go.Proofs.Ytaahnicjjpddjaa.GGf Go.Proofs.Ytaahnicjjpddjaa.Fld Go.Proofs.YtaahnicjjpddjaaW.PrintWords Go.Proofs.YtaahnicjjpddjaaW.PrintLast Go.Proofs.YtaahnicjjpddjaaW.PrintMore
theorem succ_of {n k : Nat} (h : n < k) : ∃ m, k = m + 1 := ⟨k - 1, uR⟩
theorem times_l (n : Nat) : ∀ (k : Nat) (a o : F) (b : Nat), b < 2 ^ n → n < k → gf_Times.l0 k (toI a) (b : Int) (toI o) = some (toI (o ^^^ fmN n a b)) := by
  induction n with
  | zero =>
    intro k a o b hb hk
    obtain ⟨k, rfl⟩ := succ_of hk
    have hb0 : b = 0 := by have : (2 : Nat) ^ 0 = 1 := rfl; omega
    subst hb0
    simp only [gf_Times.l0]
    rw [if_neg uR]
    simp [fmN]
  | succ n ih =>
    intro k a o b hb hk
    obtain ⟨k, rfl⟩ := succ_of hk
    have hb2 : b / 2 < 2 ^ n := by have : (2 : Nat) ^ (n + 1) = 2 ^ n * 2 := rfl; omega
    have hd : (b : Int) / 2 = ((b / 2 : Nat) : Int) := by omega
    simp only [gf_Times.l0]
    by_cases h0 : b = 0
    · subst h0
      rw [if_neg uR, fmN_zero_right]
      simp
    · rw [if_pos uR, and_1, dbl_wrap, hd, fmN_succ]
      by_cases h1 : b % 2 = 1
      · rw [if_pos uR]
        have hbit : bitF b a = a := by unfold bitF; rw [if_pos h1]
        rw [hbit, ← BitVec.xor_assoc, xor_i64]
        by_cases h2 : toI a * 2 ≥ 256
        · rw [if_pos h2, dbl_hi a h2]
          exact ih k _ _ _ hb2 uR
        · rw [if_neg h2, dbl_lo a h2]
          exact ih k _ _ _ hb2 uR
      · rw [if_neg uR]
        have hbit : bitF b a = 0#8 := by unfold bitF; rw [if_neg h1]
        rw [hbit, BitVec.zero_xor]
        by_cases h2 : toI a * 2 ≥ 256
        · rw [if_pos h2, dbl_hi a h2]
          exact ih k _ _ _ hb2 uR
        · rw [if_neg h2, dbl_lo a h2]
          exact ih k _ _ _ hb2 uR
theorem times_f {k : Nat} (hk : 8 < k) (a b : F) : gf_Times.f k (toI a) (toI b) = some (toI (fm a b)) := by
  have h := times_l 8 k a 0#8 b.toNat b.isLt hk
  rw [BitVec.zero_xor] at h
  exact h
end Go.Proofs.Ytaahnicjjpddjaa.GfsGf
end
