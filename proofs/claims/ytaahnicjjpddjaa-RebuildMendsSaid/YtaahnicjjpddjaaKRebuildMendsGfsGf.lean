/- The field of 256 as plain algebra over BitVec 8: sums are exclusive or, products go by doubling modulo 285; the field's laws, inverses and powers. No condition. How the machine's whole numbers and the field's go into one another: exclusive or, doubling, masks and wraps in the spelling of the printed functions. No condition. What the printed functions of the field come to, in the field's own words; with enough rounds, for every number of the field. -/
import Derived.Test.YtaahnicjjpddjaaKRebuildMendsGGf1
section
namespace Go.Proofs.Ytaahnicjjpddjaa.Fld
abbrev F := BitVec 8
/-- a number, times the polynomial x. -/
def tx (a : F) : F := if a.msb then (a <<< 1) ^^^ 29#8 else a <<< 1
def fmN : Nat → F → Nat → F
  | 0, _, _ => 0#8
  | n + 1, a, b => (if b % 2 = 1 then a else 0#8) ^^^ fmN n (tx a) (b / 2)
/-- the product. -/
def fm (a b : F) : F := fmN 8 a b.toNat
theorem tx_xor (a b : F) : tx (a ^^^ b) = tx a ^^^ tx b := by
  unfold tx
  rw [BitVec.msb_xor, BitVec.shiftLeft_xor_distrib]
  cases a.msb <;> cases b.msb <;> simp
  · rw [BitVec.xor_assoc]
  · rw [BitVec.xor_assoc, BitVec.xor_assoc]; congr 1; rw [BitVec.xor_comm]
  · rw [BitVec.xor_assoc, BitVec.xor_comm (29#8) _, BitVec.xor_assoc, BitVec.xor_self, BitVec.xor_zero]
theorem tx_zero : tx 0#8 = 0#8 := by decide
theorem fmN_zero_left (n : Nat) : ∀ b, fmN n 0#8 b = 0#8 := by
  induction n with
  | zero => intro b; rfl
  | succ n ih => intro b; simp only [fmN, tx_zero, ih]; split <;> rfl
theorem fmN_zero_right (n : Nat) : ∀ a, fmN n a 0 = 0#8 := by
  induction n with
  | zero => intro a; rfl
  | succ n ih => intro a; simp [fmN, ih]
theorem xor4 (a b c d : F) : (a ^^^ b) ^^^ (c ^^^ d) = (a ^^^ c) ^^^ (b ^^^ d) := by
  rw [BitVec.xor_assoc, BitVec.xor_assoc]
  congr 1
  rw [← BitVec.xor_assoc, BitVec.xor_comm b c, BitVec.xor_assoc]
theorem fmN_xor (n : Nat) : ∀ a b c, fmN n (a ^^^ b) c = fmN n a c ^^^ fmN n b c := by
  induction n with
  | zero => intro a b c; simp [fmN]
  | succ n ih =>
    intro a b c
    simp only [fmN, tx_xor, ih]
    split
    · rw [xor4]
    · simp
theorem fmN_tx (n : Nat) : ∀ a c, fmN n (tx a) c = tx (fmN n a c) := by
  induction n with
  | zero => intro a c; simp [fmN, tx_zero]
  | succ n ih =>
    intro a c
    simp only [fmN, tx_xor, ih]
    split
    · rfl
    · simp [tx_zero]
theorem zero_fm (a : F) : fm 0#8 a = 0#8 := fmN_zero_left _ _
theorem fm_zero (a : F) : fm a 0#8 = 0#8 := fmN_zero_right _ _
theorem xor_fm (a b c : F) : fm (a ^^^ b) c = fm a c ^^^ fm b c := fmN_xor _ _ _ _
theorem tx_fm (a c : F) : fm (tx a) c = tx (fm a c) := fmN_tx _ _ _
theorem one_fm_all : ∀ n, n < 256 → fm 1#8 (BitVec.ofNat 8 n) = BitVec.ofNat 8 n := by decide +kernel
theorem one_fm (c : F) : fm 1#8 c = c := by
  have h := one_fm_all c.toNat c.isLt
  rwa [BitVec.ofNat_toNat, BitVec.setWidth_eq] at h
/-- x's powers. -/
def E : Nat → F
  | 0 => 1#8
  | n + 1 => tx (E n)
def txN : Nat → F → F
  | 0, a => a
  | n + 1, a => tx (txN n a)
theorem E_fm (i : Nat) (c : F) : fm (E i) c = txN i c := by
  induction i with
  | zero => exact one_fm c
  | succ i ih => simp only [E, txN, tx_fm, ih]
theorem txN_E (i j : Nat) : txN i (E j) = E (i + j) := by
  induction i with
  | zero => simp [txN]
  | succ i ih => simp only [txN, ih]; rw [show i + 1 + j = (i + j) + 1 from by omega]; rfl
theorem txN_txN (i j : Nat) (c : F) : txN i (txN j c) = txN (i + j) c := by
  induction i with
  | zero => simp [txN]
  | succ i ih => simp only [txN, ih]; rw [show i + 1 + j = (i + j) + 1 from by omega]; rfl
theorem E_E (i j : Nat) : fm (E i) (E j) = E (i + j) := by rw [E_fm, txN_E]
/-- the list of x's powers, one after the other: quick to reckon. -/
def Es : Nat → F → List F
  | 0, _ => []
  | n + 1, a => a :: Es n (tx a)
theorem Es_get (n : Nat) : ∀ (j i : Nat), i < n → (Es n (E j))[i]? = some (E (j + i)) := by
  induction n with
  | zero => intro j i h; omega
  | succ n ih =>
    intro j i h
    cases i with
    | zero => simp [Es]
    | succ i =>
      have h2 := ih (j + 1) i (by omega)
      simp only [Es, List.getElem?_cons_succ]
      rw [show tx (E j) = E (j + 1) from rfl, h2, show j + (i + 1) = j + 1 + i from by omega]
/-- where a number stands among the powers. -/
def lg (a : F) : Nat := (Es 255 1#8).idxOf a
theorem lg_all : ∀ n, n < 256 → n ≠ 0 → lg (BitVec.ofNat 8 n) < 255 := by decide +kernel
theorem E_lg (a : F) (h : a ≠ 0#8) : E (lg a) = a ∧ lg a < 255 := by
  have h1 := lg_all a.toNat a.isLt (fun e => h (BitVec.eq_of_toNat_eq (by simpa using e)))
  rw [BitVec.ofNat_toNat, BitVec.setWidth_eq] at h1
  refine ⟨?_, h1⟩
  have hlen : (Es 255 1#8).length = 255 := by decide +kernel
  have hmem : (Es 255 1#8).idxOf a < (Es 255 1#8).length := by rw [hlen]; exact h1
  have h2 := Es_get 255 0 (lg a) h1
  have h3 : (Es 255 1#8)[(Es 255 1#8).idxOf a]'hmem = a := List.getElem_idxOf hmem
  have h4 : (Es 255 (E 0))[lg a]? = some a := by
    show (Es 255 1#8)[(Es 255 1#8).idxOf a]? = some a
    rw [List.getElem?_eq_getElem hmem, h3]
  rw [h4] at h2
  have h5 := Option.some.inj h2
  rw [Nat.zero_add] at h5
  exact h5.symm
theorem nz_cases (a : F) : a = 0#8 ∨ ∃ i, i < 255 ∧ a = E i := by
  by_cases h : a = 0#8
  · exact Or.inl h
  · exact Or.inr ⟨lg a, (E_lg a h).2, (E_lg a h).1.symm⟩
theorem fm_comm (a b : F) : fm a b = fm b a := by
  rcases nz_cases a with rfl | ⟨i, _, rfl⟩
  · rw [zero_fm, fm_zero]
  · rcases nz_cases b with rfl | ⟨j, _, rfl⟩
    · rw [zero_fm, fm_zero]
    · rw [E_E, E_E, Nat.add_comm]
theorem fm_assoc (a b c : F) : fm (fm a b) c = fm a (fm b c) := by
  rcases nz_cases a with rfl | ⟨i, _, rfl⟩
  · simp only [zero_fm]
  · rcases nz_cases b with rfl | ⟨j, _, rfl⟩
    · simp only [zero_fm, fm_zero]
    · rw [E_E, E_fm, E_fm, E_fm, txN_txN]
theorem fm_one (a : F) : fm a 1#8 = a := by rw [fm_comm, one_fm]
theorem fm_xor (a b c : F) : fm a (b ^^^ c) = fm a b ^^^ fm a c := by
  rw [fm_comm, xor_fm, fm_comm b, fm_comm c]
theorem E_255 : E 255 = 1#8 := by decide +kernel
theorem E_ne (i : Nat) : E i ≠ 0#8 := by
  intro h
  have h1 : ∀ k, fm (E k) (E i) = 0#8 := fun k => by rw [h, fm_zero]
  have h2 : ∀ k, E (k + i) = 0#8 := fun k => by rw [← E_E, h1]
  have h3 : ∀ n, E (n * 255) = 1#8 := by
    intro n
    induction n with
    | zero => rfl
    | succ n ih => rw [Nat.succ_mul, ← E_E, ih, E_255]; decide
  have h4 := h2 (i * 255 - i)
  rw [show i * 255 - i + i = i * 255 from by omega, h3] at h4
  exact absurd h4 (by decide)
theorem fm_eq_zero (a b : F) : fm a b = 0#8 ↔ a = 0#8 ∨ b = 0#8 := by
  constructor
  · intro h
    rcases nz_cases a with rfl | ⟨i, _, rfl⟩
    · exact Or.inl rfl
    · rcases nz_cases b with rfl | ⟨j, _, rfl⟩
      · exact Or.inr rfl
      · rw [E_E] at h; exact absurd h (E_ne _)
  · rintro (rfl | rfl)
    · exact zero_fm _
    · exact fm_zero _
/-- powers. -/
def fp (a : F) : Nat → F
  | 0 => 1#8
  | n + 1 => fm (fp a n) a
theorem fp_E (i n : Nat) : fp (E i) n = E (i * n) := by
  induction n with
  | zero => rfl
  | succ n ih => rw [fp, ih, E_E, Nat.mul_succ]
theorem fp_add (a : F) (m n : Nat) : fp a (m + n) = fm (fp a m) (fp a n) := by
  induction n with
  | zero => rw [Nat.add_zero, fp, fm_one]
  | succ n ih => rw [← Nat.add_assoc, fp, ih, fp, fm_assoc]
theorem fp_sq (a : F) (n : Nat) : fp (fm a a) n = fp a (2 * n) := by
  induction n with
  | zero => rfl
  | succ n ih =>
    rw [fp, ih, show 2 * (n + 1) = 2 * n + 2 from by omega, fp_add a (2 * n) 2]
    congr 1
    show fm a a = fm (fm 1#8 a) a
    rw [one_fm]
theorem E_mul_255 (n : Nat) : E (n * 255) = 1#8 := by
  induction n with
  | zero => rfl
  | succ n ih => rw [Nat.succ_mul, ← E_E, ih, E_255]; decide
/-- the inverse. -/
def fi (a : F) : F := fp a 254
theorem fm_fi (a : F) (h : a ≠ 0#8) : fm a (fi a) = 1#8 := by
  rcases nz_cases a with rfl | ⟨i, _, rfl⟩
  · exact absurd rfl h
  · rw [fi, fp_E, E_E, show i + i * 254 = i * 255 from by omega, E_mul_255]
theorem fi_fm (a : F) (h : a ≠ 0#8) : fm (fi a) a = 1#8 := by rw [fm_comm, fm_fi a h]
theorem fi_unique (a b : F) (h : fm a b = 1#8) : b = fi a := by
  have ha : a ≠ 0#8 := by rintro rfl; rw [zero_fm] at h; exact absurd h (by decide)
  have h2 : fm (fi a) (fm a b) = fi a := by rw [h, fm_one]
  rwa [← fm_assoc, fi_fm a ha, one_fm] at h2
end Go.Proofs.Ytaahnicjjpddjaa.Fld
end
section
namespace Go.Proofs.Ytaahnicjjpddjaa.Fld
open Go.RowKit
theorem wrap64_in {n : Int} (h0 : -9223372036854775808 ≤ n) (h1 : n ≤ 9223372036854775807) : wrap64 n = n := by
  unfold wrap64; omega
def toI (a : F) : Int := (a.toNat : Int)
def ofI (n : Int) : F := BitVec.ofNat 8 n.toNat
theorem toI_lo (a : F) : 0 ≤ toI a := Int.natCast_nonneg _
theorem toI_hi (a : F) : toI a < 256 := by have := a.isLt; unfold toI; omega
theorem toI_ofI {n : Int} (h0 : 0 ≤ n) (h1 : n < 256) : toI (ofI n) = n := by
  unfold toI ofI
  rw [BitVec.toNat_ofNat, Nat.mod_eq_of_lt (by omega)]
  omega
theorem ofI_toI (a : F) : ofI (toI a) = a := by
  unfold toI ofI
  apply BitVec.eq_of_toNat_eq
  rw [BitVec.toNat_ofNat, Int.toNat_natCast, Nat.mod_eq_of_lt a.isLt]
theorem toI_inj {a b : F} (h : toI a = toI b) : a = b := by rw [← ofI_toI a, ← ofI_toI b, h]
theorem toI_zero : toI 0#8 = 0 := rfl
theorem toI_eq_zero (a : F) : toI a = 0 ↔ a = 0#8 := ⟨fun h => toI_inj (by rw [h, toI_zero]), fun h => by rw [h, toI_zero]⟩
theorem ex_toI {n : Int} (h0 : 0 ≤ n) (h1 : n < 256) : ∃ a : F, n = toI a := ⟨ofI n, (toI_ofI h0 h1).symm⟩
theorem i64_small {n : Int} (h0 : 0 ≤ n) (h1 : n < 9223372036854775808) : IntKind.i64.wrap n = n := by rw [IntKind.wrap_i64]; omega
theorem ofInt_toI (k : IntKind) (hk : 8 ≤ k.bits) (a : F) : (BitVec.ofInt k.bits (toI a)).toNat = a.toNat := by
  unfold toI
  rw [BitVec.ofInt_natCast, BitVec.toNat_ofNat]
  exact Nat.mod_eq_of_lt (Nat.lt_of_lt_of_le a.isLt (Nat.pow_le_pow_right (by decide) hk))
theorem xor_i64 (a b : F) : bits .xor .i64 (toI a) (toI b) = toI (a ^^^ b) := by
  have h : bits .xor .i64 (toI a) (toI b) = IntKind.i64.wrap ((BitVec.ofInt 64 (toI a) ^^^ BitVec.ofInt 64 (toI b)).toNat : Int) := rfl
  have ha : (BitVec.ofInt 64 (toI a)).toNat = a.toNat := ofInt_toI .i64 (by decide) a
  have hb : (BitVec.ofInt 64 (toI b)).toNat = b.toNat := ofInt_toI .i64 (by decide) b
  rw [h, BitVec.toNat_xor, ha, hb, ← BitVec.toNat_xor]
  exact i64_small (toI_lo _) (by have := toI_hi (a ^^^ b); unfold toI at this; omega)
theorem xor_u8 (a b : F) : bits .xor .u8 (toI a) (toI b) = toI (a ^^^ b) := by
  have h : bits .xor .u8 (toI a) (toI b) = IntKind.u8.wrap ((BitVec.ofInt 8 (toI a) ^^^ BitVec.ofInt 8 (toI b)).toNat : Int) := rfl
  have ha : (BitVec.ofInt 8 (toI a)).toNat = a.toNat := ofInt_toI .u8 (by decide) a
  have hb : (BitVec.ofInt 8 (toI b)).toNat = b.toNat := ofInt_toI .u8 (by decide) b
  rw [h, BitVec.toNat_xor, ha, hb, ← BitVec.toNat_xor, IntKind.wrap_u8]
  have h0 := toI_lo (a ^^^ b)
  have h1 := toI_hi (a ^^^ b)
  unfold toI at h0 h1 ⊢
  omega
/-- a mask of low bits, of whatever number. -/
theorem and_mask (j : Nat) (hj : j ≤ 62) (x : Int) : bits .and .i64 x (2 ^ j - 1) = x % 2 ^ j := by
  have h : bits .and .i64 x (2 ^ j - 1) = IntKind.i64.wrap ((BitVec.ofInt 64 x &&& BitVec.ofInt 64 (2 ^ j - 1)).toNat : Int) := rfl
  have hp : 0 < 2 ^ j := Nat.two_pow_pos j
  have hq : 2 ^ j ≤ 2 ^ 62 := Nat.pow_le_pow_right (by decide) hj
  have hc : ((2 : Int) ^ j - 1) = ((2 ^ j - 1 : Nat) : Int) := by rw [Int.natCast_sub hp, Int.natCast_pow]; rfl
  have hb : (BitVec.ofInt 64 ((2 : Int) ^ j - 1)).toNat = 2 ^ j - 1 := by
    rw [hc, BitVec.ofInt_natCast, BitVec.toNat_ofNat]
    exact Nat.mod_eq_of_lt (by omega)
  rw [h, BitVec.toNat_and, hb, Nat.and_two_pow_sub_one_eq_mod]
  have hx : (BitVec.ofInt 64 x).toNat = (x % 18446744073709551616).toNat := by rw [BitVec.toNat_ofInt]; rfl
  rw [hx]
  have hd : ((2 ^ j : Nat) : Int) ∣ 18446744073709551616 := by
    have : (2 ^ j : Nat) ∣ 2 ^ 64 := Nat.pow_dvd_pow 2 (by omega)
    have e : (18446744073709551616 : Int) = ((2 ^ 64 : Nat) : Int) := rfl
    rw [e]
    exact Int.natCast_dvd_natCast.2 this
  have h0 : 0 ≤ x % 18446744073709551616 := Int.emod_nonneg _ (by decide)
  have e1 : (((x % 18446744073709551616).toNat % 2 ^ j : Nat) : Int) = x % ((2 ^ j : Nat) : Int) := by
    rw [Int.natCast_emod, Int.toNat_of_nonneg h0, Int.emod_emod_of_dvd _ hd]
  rw [e1]
  have h2 : 0 ≤ x % ((2 ^ j : Nat) : Int) := Int.emod_nonneg _ (by omega)
  have h3 : x % ((2 ^ j : Nat) : Int) < ((2 ^ j : Nat) : Int) := Int.emod_lt_of_pos _ (by omega)
  have h4 : ((2 ^ j : Nat) : Int) = (2 : Int) ^ j := by rw [Int.natCast_pow]; rfl
  rw [i64_small h2 (by omega), h4]
theorem and_1 (x : Int) : bits .and .i64 x 1 = x % 2 := and_mask 1 (by decide) x
theorem tx_lo_all : ∀ n : Nat, n < 128 → tx (BitVec.ofNat 8 n) = BitVec.ofNat 8 (n * 2) := by decide +kernel
theorem tx_hi_all : ∀ n : Nat, n < 128 → bits .xor .i64 (256 + (n : Int) * 2) 285 = toI (tx (BitVec.ofNat 8 (128 + n))) := by decide +kernel
theorem of_toNat (a : F) : BitVec.ofNat 8 a.toNat = a := by rw [BitVec.ofNat_toNat, BitVec.setWidth_eq]
theorem dbl_wrap (a : F) : wrap64 (toI a * 2) = toI a * 2 := by
  have := toI_lo a; have := toI_hi a
  exact wrap64_in (by omega) (by omega)
theorem dbl_lo (a : F) (h : ¬ toI a * 2 ≥ 256) : toI a * 2 = toI (tx a) := by
  unfold toI at h ⊢
  have h1 := tx_lo_all a.toNat (by omega)
  rw [of_toNat] at h1
  rw [h1, BitVec.toNat_ofNat, Nat.mod_eq_of_lt (by omega)]
  omega
theorem dbl_hi (a : F) (h : toI a * 2 ≥ 256) : bits .xor .i64 (toI a * 2) 285 = toI (tx a) := by
  have hl := toI_hi a
  unfold toI at h hl
  have h1 := tx_hi_all (a.toNat - 128) (by omega)
  rw [show 128 + (a.toNat - 128) = a.toNat from by omega, of_toNat] at h1
  rw [← h1, show (toI a * 2) = 256 + ((a.toNat - 128 : Nat) : Int) * 2 from by unfold toI; omega]
/-- one of the product's rounds. -/
def bitF (b : Nat) (a : F) : F := if b % 2 = 1 then a else 0#8
theorem fmN_succ (n : Nat) (a : F) (b : Nat) : fmN (n + 1) a b = bitF b a ^^^ fmN n (tx a) (b / 2) := rfl
end Go.Proofs.Ytaahnicjjpddjaa.Fld
end
section
namespace Go.Proofs.Ytaahnicjjpddjaa.GfsGf
open Go.RowKit Go.Proofs.Ytaahnicjjpddjaa.GGf Go.Proofs.Ytaahnicjjpddjaa.Fld Go.Proofs.YtaahnicjjpddjaaW.PrintWords Go.Proofs.YtaahnicjjpddjaaW.PrintLast Go.Proofs.YtaahnicjjpddjaaW.PrintMore
theorem succ_of {n k : Nat} (h : n < k) : ∃ m, k = m + 1 := ⟨k - 1, uV⟩
theorem gfis_yes {n : Int} (h0 : 0 ≤ n) (h1 : n < 256) : gf_Is.f n = some true := by
  unfold gf_Is.f; rw [if_pos h0, decide_eq_true h1]
theorem gfis_no {n : Int} (h : n < 0 ∨ 256 ≤ n) : gf_Is.f n = some false := by
  unfold gf_Is.f
  by_cases h0 : n ≥ 0
  · rw [if_pos h0, decide_eq_false uV]
  · rw [if_neg h0]
theorem gfis (a : F) : gf_Is.f (toI a) = some true := gfis_yes (toI_lo a) (toI_hi a)
theorem times_l (n : Nat) : ∀ (k : Nat) (a o : F) (b : Nat), b < 2 ^ n → n < k → gf_Times.l0 k (toI a) (b : Int) (toI o) = some (toI (o ^^^ fmN n a b)) := by
  induction n with
  | zero =>
    intro k a o b hb hk
    obtain ⟨k, rfl⟩ := succ_of hk
    have hb0 : b = 0 := by have : (2 : Nat) ^ 0 = 1 := rfl; omega
    subst hb0
    simp only [gf_Times.l0]
    rw [if_neg uV]
    simp [fmN]
  | succ n ih =>
    intro k a o b hb hk
    obtain ⟨k, rfl⟩ := succ_of hk
    have hb2 : b / 2 < 2 ^ n := by have : (2 : Nat) ^ (n + 1) = 2 ^ n * 2 := rfl; omega
    have hd : (b : Int) / 2 = ((b / 2 : Nat) : Int) := by omega
    simp only [gf_Times.l0]
    by_cases h0 : b = 0
    · subst h0
      rw [if_neg uV, fmN_zero_right]
      simp
    · rw [if_pos uV, and_1, dbl_wrap, hd, fmN_succ]
      by_cases h1 : b % 2 = 1
      · rw [if_pos uV]
        have hbit : bitF b a = a := by unfold bitF; rw [if_pos h1]
        rw [hbit, ← BitVec.xor_assoc, xor_i64]
        by_cases h2 : toI a * 2 ≥ 256
        · rw [if_pos h2, dbl_hi a h2]
          exact ih k _ _ _ hb2 uV
        · rw [if_neg h2, dbl_lo a h2]
          exact ih k _ _ _ hb2 uV
      · rw [if_neg uV]
        have hbit : bitF b a = 0#8 := by unfold bitF; rw [if_neg h1]
        rw [hbit, BitVec.zero_xor]
        by_cases h2 : toI a * 2 ≥ 256
        · rw [if_pos h2, dbl_hi a h2]
          exact ih k _ _ _ hb2 uV
        · rw [if_neg h2, dbl_lo a h2]
          exact ih k _ _ _ hb2 uV
theorem times_f {k : Nat} (hk : 8 < k) (a b : F) : gf_Times.f k (toI a) (toI b) = some (toI (fm a b)) := by
  have h := times_l 8 k a 0#8 b.toNat b.isLt hk
  rw [BitVec.zero_xor] at h
  exact h
theorem power_l (n : Nat) : ∀ (k : Nat) (a o : F) (e : Nat), e < 2 ^ n → n + 9 < k → gf_power.l0 k (toI a) (e : Int) (toI o) = some (toI (fm o (fp a e))) := by
  induction n with
  | zero =>
    intro k a o e he hk
    obtain ⟨k, rfl⟩ := succ_of hk
    have he0 : e = 0 := by have : (2 : Nat) ^ 0 = 1 := rfl; omega
    subst he0
    simp only [gf_power.l0]
    rw [if_neg uV, fp, fm_one]
  | succ n ih =>
    intro k a o e he hk
    obtain ⟨k, rfl⟩ := succ_of hk
    have he2 : e / 2 < 2 ^ n := by have : (2 : Nat) ^ (n + 1) = 2 ^ n * 2 := rfl; omega
    have hd : (e : Int) / 2 = ((e / 2 : Nat) : Int) := by omega
    simp only [gf_power.l0]
    by_cases h0 : e = 0
    · subst h0
      rw [if_neg uV, fp, fm_one]
    · rw [if_pos uV, and_1, hd]
      simp only [times_f (show 8 < k by omega), Option.bind_some]
      have e1 : fp (fm a a) (e / 2) = fp a (2 * (e / 2)) := fp_sq _ _
      by_cases h1 : e % 2 = 1
      · rw [if_pos uV, ih k _ _ _ he2 uV, e1, fm_assoc]
        have e2 : fm a (fp a (2 * (e / 2))) = fp a e := by
          rw [fm_comm]; show fp a (2 * (e / 2) + 1) = _; rw [show 2 * (e / 2) + 1 = e from by omega]
        rw [e2]
      · rw [if_neg uV, ih k _ _ _ he2 uV, e1, show 2 * (e / 2) = e from by omega]
theorem power_f {k : Nat} (hk : 19 < k) (a : F) (e : Nat) (he : e < 1024) : gf_power.f k (toI a) (e : Int) = some (toI (fp a e)) := by
  have h := power_l 10 k a 1#8 e he hk
  rw [one_fm] at h
  exact h
theorem ginv_f {k : Nat} (hk : 19 < k) (a : F) (h : a ≠ 0#8) : gf_Inv.f k (toI a) = some (toI (fi a), 0) := by
  unfold gf_Inv.f
  have hp := power_f hk a 254 uV
  have hn : ¬ toI a = 0 := fun e => h ((toI_eq_zero a).1 e)
  simp only [gfis, Option.bind_some, if_true, if_neg hn]
  rw [show ((254 : Nat) : Int) = 254 from rfl] at hp
  rw [hp]; rfl
theorem gpow_f {k : Nat} (hk : 19 < k) (a : F) (e : Nat) (he : e ≤ 1000) : gf_Pow.f k (toI a) (e : Int) = some (toI (fp a e), 0) := by
  unfold gf_Pow.f
  simp only [gfis, Option.bind_some, if_true]
  rw [if_neg uV, if_neg uV, power_f hk a e uV]; rfl
end Go.Proofs.Ytaahnicjjpddjaa.GfsGf
end
