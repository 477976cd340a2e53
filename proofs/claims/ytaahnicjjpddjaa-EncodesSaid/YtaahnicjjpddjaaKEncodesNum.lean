/- Finite sums over the field of 256, and matrices as functions: products, the identity, who is first multiplied. Plain algebra, no condition. How the machine's whole numbers and the field's go into one another: exclusive or, doubling, masks and wraps in the spelling of the printed functions. No condition. -/
import Derived.Test.YtaahnicjjpddjaaKEncodesFld
import Derived.Laws.BitsLemmas
import Derived.RowKit
section
namespace Go.Proofs.Ytaahnicjjpddjaa.Fld

def sumF : Nat → (Nat → F) → F
  | 0, _ => 0#8
  | n + 1, f => sumF n f ^^^ f n

theorem sum_congr (n : Nat) (f g : Nat → F) (h : ∀ k, k < n → f k = g k) : sumF n f = sumF n g := by
  induction n with
  | zero => rfl
  | succ n ih => rw [sumF, sumF, ih (fun k hk => h k (by omega)), h n (by omega)]

theorem sum_zero (n : Nat) : sumF n (fun _ => 0#8) = 0#8 := by
  induction n with
  | zero => rfl
  | succ n ih => rw [sumF, ih]; rfl

theorem sum_xor (n : Nat) (f g : Nat → F) : sumF n (fun k => f k ^^^ g k) = sumF n f ^^^ sumF n g := by
  induction n with
  | zero => simp [sumF]
  | succ n ih => rw [sumF, ih, sumF, sumF, xor4]

theorem fm_sum (n : Nat) (c : F) (f : Nat → F) : fm c (sumF n f) = sumF n (fun k => fm c (f k)) := by
  induction n with
  | zero => exact fm_zero c
  | succ n ih => rw [sumF, fm_xor, ih, sumF]

theorem sum_fm (n : Nat) (c : F) (f : Nat → F) : fm (sumF n f) c = sumF n (fun k => fm (f k) c) := by
  induction n with
  | zero => exact zero_fm c
  | succ n ih => rw [sumF, xor_fm, ih, sumF]

theorem sum_swap (n m : Nat) (f : Nat → Nat → F) : sumF n (fun k => sumF m (fun l => f k l)) = sumF m (fun l => sumF n (fun k => f k l)) := by
  induction n with
  | zero => simp only [sumF, sum_zero]
  | succ n ih => rw [sumF, ih, ← sum_xor]; rfl

def delta (i j : Nat) : F := if i = j then 1#8 else 0#8

theorem sum_delta_none (n i : Nat) (f : Nat → F) (h : n ≤ i) : sumF n (fun k => fm (delta i k) (f k)) = 0#8 := by
  rw [← sum_zero n]
  apply sum_congr
  intro k hk
  unfold delta
  rw [if_neg (by omega), zero_fm]

theorem sum_delta (n i : Nat) (f : Nat → F) (h : i < n) : sumF n (fun k => fm (delta i k) (f k)) = f i := by
  induction n with
  | zero => omega
  | succ n ih =>
    rw [sumF]
    by_cases e : i = n
    · subst e
      rw [sum_delta_none i i f (Nat.le_refl _)]
      unfold delta
      rw [if_pos rfl, one_fm, BitVec.zero_xor]
    · rw [ih (by omega)]
      unfold delta
      rw [if_neg e, zero_fm, BitVec.xor_zero]

theorem delta_symm (i j : Nat) : delta i j = delta j i := by
  unfold delta
  by_cases h : i = j
  · rw [if_pos h, if_pos h.symm]
  · rw [if_neg h, if_neg (fun e => h e.symm)]

theorem sum_delta_r (n i : Nat) (f : Nat → F) (h : i < n) : sumF n (fun k => fm (f k) (delta k i)) = f i := by
  rw [← sum_delta n i f h]
  apply sum_congr
  intro k _
  rw [fm_comm, delta_symm]

/-- A matrix of so many columns by another one. -/
def mm (n : Nat) (a b : Nat → Nat → F) : Nat → Nat → F := fun i j => sumF n (fun k => fm (a i k) (b k j))

theorem mm_assoc (n m : Nat) (a b c : Nat → Nat → F) (i j : Nat) : mm m (mm n a b) c i j = mm n a (mm m b c) i j := by
  unfold mm
  have h1 : sumF m (fun k => fm (sumF n (fun l => fm (a i l) (b l k))) (c k j)) = sumF m (fun k => sumF n (fun l => fm (fm (a i l) (b l k)) (c k j))) := sum_congr _ _ _ (fun k _ => sum_fm _ _ _)
  have h2 : sumF n (fun k => fm (a i k) (sumF m (fun l => fm (b k l) (c l j)))) = sumF n (fun k => sumF m (fun l => fm (a i k) (fm (b k l) (c l j)))) := sum_congr _ _ _ (fun k _ => fm_sum _ _ _)
  rw [h1, h2, sum_swap]
  exact sum_congr _ _ _ (fun k _ => sum_congr _ _ _ (fun l _ => fm_assoc _ _ _))

theorem delta_mm (n : Nat) (a : Nat → Nat → F) (i j : Nat) (hi : i < n) : mm n delta a i j = a i j := sum_delta n i (fun k => a k j) hi
theorem mm_delta (n : Nat) (a : Nat → Nat → F) (i j : Nat) (hj : j < n) : mm n a delta i j = a i j := sum_delta_r n j (fun k => a i k) hj

theorem mm_congr (n : Nat) (a a' b b' : Nat → Nat → F) (i j : Nat) (ha : ∀ k, k < n → a i k = a' i k) (hb : ∀ k, k < n → b k j = b' k j) : mm n a b i j = mm n a' b' i j :=
  sum_congr _ _ _ (fun k hk => by rw [ha k hk, hb k hk])

end Go.Proofs.Ytaahnicjjpddjaa.Fld
end
section
namespace Go.Proofs.Ytaahnicjjpddjaa.Fld
open Go.RowKit

theorem wrap64_in {n : Int} (h0 : -9223372036854775808 ≤ n) (h1 : n ≤ 9223372036854775807) : wrap64 n = n := by
  unfold wrap64; omega

def toI (a : F) : Int := (a.toNat : Int)
def ofI (n : Int) : F := BitVec.ofNat 8 n.toNat

theorem toI_lo (a : F) : 0 ≤ toI a := Int.natCast_nonneg _
theorem toI_hi (a : F) : toI a < 256 := by have := a.isLt; unfold toI; omega
theorem toI_ofI {n : Int} (h0 : 0 ≤ n) (h1 : n < 256) : toI (ofI n) = n := by
  unfold toI ofI
  rw [BitVec.toNat_ofNat, Nat.mod_eq_of_lt (by omega)]
  omega
theorem ofI_toI (a : F) : ofI (toI a) = a := by
  unfold toI ofI
  apply BitVec.eq_of_toNat_eq
  rw [BitVec.toNat_ofNat, Int.toNat_natCast, Nat.mod_eq_of_lt a.isLt]
theorem toI_inj {a b : F} (h : toI a = toI b) : a = b := by rw [← ofI_toI a, ← ofI_toI b, h]
theorem toI_zero : toI 0#8 = 0 := rfl
theorem toI_eq_zero (a : F) : toI a = 0 ↔ a = 0#8 := ⟨fun h => toI_inj (by rw [h, toI_zero]), fun h => by rw [h, toI_zero]⟩
theorem ex_toI {n : Int} (h0 : 0 ≤ n) (h1 : n < 256) : ∃ a : F, n = toI a := ⟨ofI n, (toI_ofI h0 h1).symm⟩

theorem i64_small {n : Int} (h0 : 0 ≤ n) (h1 : n < 9223372036854775808) : IntKind.i64.wrap n = n := by rw [IntKind.wrap_i64]; omega

theorem ofInt_toI (k : IntKind) (hk : 8 ≤ k.bits) (a : F) : (BitVec.ofInt k.bits (toI a)).toNat = a.toNat := by
  unfold toI
  rw [BitVec.ofInt_natCast, BitVec.toNat_ofNat]
  exact Nat.mod_eq_of_lt (Nat.lt_of_lt_of_le a.isLt (Nat.pow_le_pow_right (by decide) hk))

theorem xor_i64 (a b : F) : bits .xor .i64 (toI a) (toI b) = toI (a ^^^ b) := by
  have h : bits .xor .i64 (toI a) (toI b) = IntKind.i64.wrap ((BitVec.ofInt 64 (toI a) ^^^ BitVec.ofInt 64 (toI b)).toNat : Int) := rfl
  have ha : (BitVec.ofInt 64 (toI a)).toNat = a.toNat := ofInt_toI .i64 (by decide) a
  have hb : (BitVec.ofInt 64 (toI b)).toNat = b.toNat := ofInt_toI .i64 (by decide) b
  rw [h, BitVec.toNat_xor, ha, hb, ← BitVec.toNat_xor]
  exact i64_small (toI_lo _) (by have := toI_hi (a ^^^ b); unfold toI at this; omega)

theorem xor_u8 (a b : F) : bits .xor .u8 (toI a) (toI b) = toI (a ^^^ b) := by
  have h : bits .xor .u8 (toI a) (toI b) = IntKind.u8.wrap ((BitVec.ofInt 8 (toI a) ^^^ BitVec.ofInt 8 (toI b)).toNat : Int) := rfl
  have ha : (BitVec.ofInt 8 (toI a)).toNat = a.toNat := ofInt_toI .u8 (by decide) a
  have hb : (BitVec.ofInt 8 (toI b)).toNat = b.toNat := ofInt_toI .u8 (by decide) b
  rw [h, BitVec.toNat_xor, ha, hb, ← BitVec.toNat_xor, IntKind.wrap_u8]
  have h0 := toI_lo (a ^^^ b)
  have h1 := toI_hi (a ^^^ b)
  unfold toI at h0 h1 ⊢
  omega

/-- a mask of low bits, of whatever number. -/
theorem and_mask (j : Nat) (hj : j ≤ 62) (x : Int) : bits .and .i64 x (2 ^ j - 1) = x % 2 ^ j := by
  have h : bits .and .i64 x (2 ^ j - 1) = IntKind.i64.wrap ((BitVec.ofInt 64 x &&& BitVec.ofInt 64 (2 ^ j - 1)).toNat : Int) := rfl
  have hp : 0 < 2 ^ j := Nat.two_pow_pos j
  have hq : 2 ^ j ≤ 2 ^ 62 := Nat.pow_le_pow_right (by decide) hj
  have hc : ((2 : Int) ^ j - 1) = ((2 ^ j - 1 : Nat) : Int) := by rw [Int.natCast_sub hp, Int.natCast_pow]; rfl
  have hb : (BitVec.ofInt 64 ((2 : Int) ^ j - 1)).toNat = 2 ^ j - 1 := by
    rw [hc, BitVec.ofInt_natCast, BitVec.toNat_ofNat]
    exact Nat.mod_eq_of_lt (by omega)
  rw [h, BitVec.toNat_and, hb, Nat.and_two_pow_sub_one_eq_mod]
  have hx : (BitVec.ofInt 64 x).toNat = (x % 18446744073709551616).toNat := by rw [BitVec.toNat_ofInt]; rfl
  rw [hx]
  have hd : ((2 ^ j : Nat) : Int) ∣ 18446744073709551616 := by
    have : (2 ^ j : Nat) ∣ 2 ^ 64 := Nat.pow_dvd_pow 2 (by omega)
    have e : (18446744073709551616 : Int) = ((2 ^ 64 : Nat) : Int) := rfl
    rw [e]
    exact Int.natCast_dvd_natCast.2 this
  have h0 : 0 ≤ x % 18446744073709551616 := Int.emod_nonneg _ (by decide)
  have e1 : (((x % 18446744073709551616).toNat % 2 ^ j : Nat) : Int) = x % ((2 ^ j : Nat) : Int) := by
    rw [Int.natCast_emod, Int.toNat_of_nonneg h0, Int.emod_emod_of_dvd _ hd]
  rw [e1]
  have h2 : 0 ≤ x % ((2 ^ j : Nat) : Int) := Int.emod_nonneg _ (by omega)
  have h3 : x % ((2 ^ j : Nat) : Int) < ((2 ^ j : Nat) : Int) := Int.emod_lt_of_pos _ (by omega)
  have h4 : ((2 ^ j : Nat) : Int) = (2 : Int) ^ j := by rw [Int.natCast_pow]; rfl
  rw [i64_small h2 (by omega), h4]

theorem and_1 (x : Int) : bits .and .i64 x 1 = x % 2 := and_mask 1 (by decide) x
theorem tx_lo_all : ∀ n : Nat, n < 128 → tx (BitVec.ofNat 8 n) = BitVec.ofNat 8 (n * 2) := by decide +kernel
theorem tx_hi_all : ∀ n : Nat, n < 128 → bits .xor .i64 (256 + (n : Int) * 2) 285 = toI (tx (BitVec.ofNat 8 (128 + n))) := by decide +kernel

theorem of_toNat (a : F) : BitVec.ofNat 8 a.toNat = a := by rw [BitVec.ofNat_toNat, BitVec.setWidth_eq]

theorem dbl_wrap (a : F) : wrap64 (toI a * 2) = toI a * 2 := by
  have := toI_lo a; have := toI_hi a
  exact wrap64_in (by omega) (by omega)

theorem dbl_lo (a : F) (h : ¬ toI a * 2 ≥ 256) : toI a * 2 = toI (tx a) := by
  unfold toI at h ⊢
  have h1 := tx_lo_all a.toNat (by omega)
  rw [of_toNat] at h1
  rw [h1, BitVec.toNat_ofNat, Nat.mod_eq_of_lt (by omega)]
  omega

theorem dbl_hi (a : F) (h : toI a * 2 ≥ 256) : bits .xor .i64 (toI a * 2) 285 = toI (tx a) := by
  have hl := toI_hi a
  unfold toI at h hl
  have h1 := tx_hi_all (a.toNat - 128) (by omega)
  rw [show 128 + (a.toNat - 128) = a.toNat from by omega, of_toNat] at h1
  rw [← h1, show (toI a * 2) = 256 + ((a.toNat - 128 : Nat) : Int) * 2 from by unfold toI; omega]

/-- one of the product's rounds. -/
def bitF (b : Nat) (a : F) : F := if b % 2 = 1 then a else 0#8

theorem fmN_succ (n : Nat) (a : F) (b : Nat) : fmN (n + 1) a b = bitF b a ^^^ fmN n (tx a) (b / 2) := rfl

end Go.Proofs.Ytaahnicjjpddjaa.Fld
end
