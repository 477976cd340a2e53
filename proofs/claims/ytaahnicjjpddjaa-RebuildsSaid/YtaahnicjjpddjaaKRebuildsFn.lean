/- The field of 256 as plain algebra over BitVec 8: sums are exclusive or, products go by doubling modulo 285; the field's laws, inverses and powers. No condition. Finite sums over the field of 256, and matrices as functions: products, the identity, who is first multiplied. Plain algebra, no condition. How the machine's whole numbers and the field's go into one another: exclusive or, doubling, masks and wraps in the spelling of the printed functions. No condition. The library's search by a function, at the one function that the program hands it (is a number none of the field?): what it answers of any slice of whole numbers. -/
import Derived.Test.YtaahnicjjpddjaaProg
import Derived.Test.YtaahnicjjpddjaaKRebuildsWMore
section
namespace Go.Proofs.Ytaahnicjjpddjaa.Fld
abbrev F := BitVec 8
/-- a number, times the polynomial x. -/
def tx (a : F) : F := if a.msb then (a <<< 1) ^^^ 29#8 else a <<< 1
def fmN : Nat → F → Nat → F
  | 0, _, _ => 0#8
  | n + 1, a, b => (if b % 2 = 1 then a else 0#8) ^^^ fmN n (tx a) (b / 2)
/-- the product. -/
def fm (a b : F) : F := fmN 8 a b.toNat
theorem tx_xor (a b : F) : tx (a ^^^ b) = tx a ^^^ tx b := by
  unfold tx
  rw [BitVec.msb_xor, BitVec.shiftLeft_xor_distrib]
  cases a.msb <;> cases b.msb <;> simp
  · rw [BitVec.xor_assoc]
  · rw [BitVec.xor_assoc, BitVec.xor_assoc]; congr 1; rw [BitVec.xor_comm]
  · rw [BitVec.xor_assoc, BitVec.xor_comm (29#8) _, BitVec.xor_assoc, BitVec.xor_self, BitVec.xor_zero]
theorem tx_zero : tx 0#8 = 0#8 := by decide
theorem fmN_zero_left (n : Nat) : ∀ b, fmN n 0#8 b = 0#8 := by
  induction n with
  | zero => intro b; rfl
  | succ n ih => intro b; simp only [fmN, tx_zero, ih]; split <;> rfl
theorem fmN_zero_right (n : Nat) : ∀ a, fmN n a 0 = 0#8 := by
  induction n with
  | zero => intro a; rfl
  | succ n ih => intro a; simp [fmN, ih]
theorem xor4 (a b c d : F) : (a ^^^ b) ^^^ (c ^^^ d) = (a ^^^ c) ^^^ (b ^^^ d) := by
  rw [BitVec.xor_assoc, BitVec.xor_assoc]
  congr 1
  rw [← BitVec.xor_assoc, BitVec.xor_comm b c, BitVec.xor_assoc]
theorem fmN_xor (n : Nat) : ∀ a b c, fmN n (a ^^^ b) c = fmN n a c ^^^ fmN n b c := by
  induction n with
  | zero => intro a b c; simp [fmN]
  | succ n ih =>
    intro a b c
    simp only [fmN, tx_xor, ih]
    split
    · rw [xor4]
    · simp
theorem fmN_tx (n : Nat) : ∀ a c, fmN n (tx a) c = tx (fmN n a c) := by
  induction n with
  | zero => intro a c; simp [fmN, tx_zero]
  | succ n ih =>
    intro a c
    simp only [fmN, tx_xor, ih]
    split
    · rfl
    · simp [tx_zero]
theorem zero_fm (a : F) : fm 0#8 a = 0#8 := fmN_zero_left _ _
theorem fm_zero (a : F) : fm a 0#8 = 0#8 := fmN_zero_right _ _
theorem xor_fm (a b c : F) : fm (a ^^^ b) c = fm a c ^^^ fm b c := fmN_xor _ _ _ _
theorem tx_fm (a c : F) : fm (tx a) c = tx (fm a c) := fmN_tx _ _ _
theorem one_fm_all : ∀ n, n < 256 → fm 1#8 (BitVec.ofNat 8 n) = BitVec.ofNat 8 n := by decide +kernel
theorem one_fm (c : F) : fm 1#8 c = c := by
  have h := one_fm_all c.toNat c.isLt
  rwa [BitVec.ofNat_toNat, BitVec.setWidth_eq] at h
/-- x's powers. -/
def E : Nat → F
  | 0 => 1#8
  | n + 1 => tx (E n)
def txN : Nat → F → F
  | 0, a => a
  | n + 1, a => tx (txN n a)
theorem E_fm (i : Nat) (c : F) : fm (E i) c = txN i c := by
  induction i with
  | zero => exact one_fm c
  | succ i ih => simp only [E, txN, tx_fm, ih]
theorem txN_E (i j : Nat) : txN i (E j) = E (i + j) := by
  induction i with
  | zero => simp [txN]
  | succ i ih => simp only [txN, ih]; rw [show i + 1 + j = (i + j) + 1 from by omega]; rfl
theorem txN_txN (i j : Nat) (c : F) : txN i (txN j c) = txN (i + j) c := by
  induction i with
  | zero => simp [txN]
  | succ i ih => simp only [txN, ih]; rw [show i + 1 + j = (i + j) + 1 from by omega]; rfl
theorem E_E (i j : Nat) : fm (E i) (E j) = E (i + j) := by rw [E_fm, txN_E]
/-- the list of x's powers, one after the other: quick to reckon. -/
def Es : Nat → F → List F
  | 0, _ => []
  | n + 1, a => a :: Es n (tx a)
theorem Es_get (n : Nat) : ∀ (j i : Nat), i < n → (Es n (E j))[i]? = some (E (j + i)) := by
  induction n with
  | zero => intro j i h; omega
  | succ n ih =>
    intro j i h
    cases i with
    | zero => simp [Es]
    | succ i =>
      have h2 := ih (j + 1) i (by omega)
      simp only [Es, List.getElem?_cons_succ]
      rw [show tx (E j) = E (j + 1) from rfl, h2, show j + (i + 1) = j + 1 + i from by omega]
/-- where a number stands among the powers. -/
def lg (a : F) : Nat := (Es 255 1#8).idxOf a
theorem lg_all : ∀ n, n < 256 → n ≠ 0 → lg (BitVec.ofNat 8 n) < 255 := by decide +kernel
theorem E_lg (a : F) (h : a ≠ 0#8) : E (lg a) = a ∧ lg a < 255 := by
  have h1 := lg_all a.toNat a.isLt (fun e => h (BitVec.eq_of_toNat_eq (by simpa using e)))
  rw [BitVec.ofNat_toNat, BitVec.setWidth_eq] at h1
  refine ⟨?_, h1⟩
  have hlen : (Es 255 1#8).length = 255 := by decide +kernel
  have hmem : (Es 255 1#8).idxOf a < (Es 255 1#8).length := by rw [hlen]; exact h1
  have h2 := Es_get 255 0 (lg a) h1
  have h3 : (Es 255 1#8)[(Es 255 1#8).idxOf a]'hmem = a := List.getElem_idxOf hmem
  have h4 : (Es 255 (E 0))[lg a]? = some a := by
    show (Es 255 1#8)[(Es 255 1#8).idxOf a]? = some a
    rw [List.getElem?_eq_getElem hmem, h3]
  rw [h4] at h2
  have h5 := Option.some.inj h2
  rw [Nat.zero_add] at h5
  exact h5.symm
theorem nz_cases (a : F) : a = 0#8 ∨ ∃ i, i < 255 ∧ a = E i := by
  by_cases h : a = 0#8
  · exact Or.inl h
  · exact Or.inr ⟨lg a, (E_lg a h).2, (E_lg a h).1.symm⟩
theorem fm_comm (a b : F) : fm a b = fm b a := by
  rcases nz_cases a with rfl | ⟨i, _, rfl⟩
  · rw [zero_fm, fm_zero]
  · rcases nz_cases b with rfl | ⟨j, _, rfl⟩
    · rw [zero_fm, fm_zero]
    · rw [E_E, E_E, Nat.add_comm]
theorem fm_assoc (a b c : F) : fm (fm a b) c = fm a (fm b c) := by
  rcases nz_cases a with rfl | ⟨i, _, rfl⟩
  · simp only [zero_fm]
  · rcases nz_cases b with rfl | ⟨j, _, rfl⟩
    · simp only [zero_fm, fm_zero]
    · rw [E_E, E_fm, E_fm, E_fm, txN_txN]
theorem fm_one (a : F) : fm a 1#8 = a := by rw [fm_comm, one_fm]
theorem fm_xor (a b c : F) : fm a (b ^^^ c) = fm a b ^^^ fm a c := by
  rw [fm_comm, xor_fm, fm_comm b, fm_comm c]
theorem E_255 : E 255 = 1#8 := by decide +kernel
theorem E_ne (i : Nat) : E i ≠ 0#8 := by
  intro h
  have h1 : ∀ k, fm (E k) (E i) = 0#8 := fun k => by rw [h, fm_zero]
  have h2 : ∀ k, E (k + i) = 0#8 := fun k => by rw [← E_E, h1]
  have h3 : ∀ n, E (n * 255) = 1#8 := by
    intro n
    induction n with
    | zero => rfl
    | succ n ih => rw [Nat.succ_mul, ← E_E, ih, E_255]; decide
  have h4 := h2 (i * 255 - i)
  rw [show i * 255 - i + i = i * 255 from by omega, h3] at h4
  exact absurd h4 (by decide)
theorem fm_eq_zero (a b : F) : fm a b = 0#8 ↔ a = 0#8 ∨ b = 0#8 := by
  constructor
  · intro h
    rcases nz_cases a with rfl | ⟨i, _, rfl⟩
    · exact Or.inl rfl
    · rcases nz_cases b with rfl | ⟨j, _, rfl⟩
      · exact Or.inr rfl
      · rw [E_E] at h; exact absurd h (E_ne _)
  · rintro (rfl | rfl)
    · exact zero_fm _
    · exact fm_zero _
/-- powers. -/
def fp (a : F) : Nat → F
  | 0 => 1#8
  | n + 1 => fm (fp a n) a
theorem fp_E (i n : Nat) : fp (E i) n = E (i * n) := by
  induction n with
  | zero => rfl
  | succ n ih => rw [fp, ih, E_E, Nat.mul_succ]
theorem fp_add (a : F) (m n : Nat) : fp a (m + n) = fm (fp a m) (fp a n) := by
  induction n with
  | zero => rw [Nat.add_zero, fp, fm_one]
  | succ n ih => rw [← Nat.add_assoc, fp, ih, fp, fm_assoc]
theorem fp_sq (a : F) (n : Nat) : fp (fm a a) n = fp a (2 * n) := by
  induction n with
  | zero => rfl
  | succ n ih =>
    rw [fp, ih, show 2 * (n + 1) = 2 * n + 2 from by omega, fp_add a (2 * n) 2]
    congr 1
    show fm a a = fm (fm 1#8 a) a
    rw [one_fm]
theorem E_mul_255 (n : Nat) : E (n * 255) = 1#8 := by
  induction n with
  | zero => rfl
  | succ n ih => rw [Nat.succ_mul, ← E_E, ih, E_255]; decide
/-- the inverse. -/
def fi (a : F) : F := fp a 254
theorem fm_fi (a : F) (h : a ≠ 0#8) : fm a (fi a) = 1#8 := by
  rcases nz_cases a with rfl | ⟨i, _, rfl⟩
  · exact absurd rfl h
  · rw [fi, fp_E, E_E, show i + i * 254 = i * 255 from by omega, E_mul_255]
theorem fi_fm (a : F) (h : a ≠ 0#8) : fm (fi a) a = 1#8 := by rw [fm_comm, fm_fi a h]
theorem fi_unique (a b : F) (h : fm a b = 1#8) : b = fi a := by
  have ha : a ≠ 0#8 := by rintro rfl; rw [zero_fm] at h; exact absurd h (by decide)
  have h2 : fm (fi a) (fm a b) = fi a := by rw [h, fm_one]
  rwa [← fm_assoc, fi_fm a ha, one_fm] at h2
end Go.Proofs.Ytaahnicjjpddjaa.Fld
end
section
namespace Go.Proofs.Ytaahnicjjpddjaa.Fld
def sumF : Nat → (Nat → F) → F
  | 0, _ => 0#8
  | n + 1, f => sumF n f ^^^ f n
theorem sum_congr (n : Nat) (f g : Nat → F) (h : ∀ k, k < n → f k = g k) : sumF n f = sumF n g := by
  induction n with
  | zero => rfl
  | succ n ih => rw [sumF, sumF, ih (fun k hk => h k (by omega)), h n (by omega)]
theorem sum_zero (n : Nat) : sumF n (fun _ => 0#8) = 0#8 := by
  induction n with
  | zero => rfl
  | succ n ih => rw [sumF, ih]; rfl
theorem sum_xor (n : Nat) (f g : Nat → F) : sumF n (fun k => f k ^^^ g k) = sumF n f ^^^ sumF n g := by
  induction n with
  | zero => simp [sumF]
  | succ n ih => rw [sumF, ih, sumF, sumF, xor4]
theorem fm_sum (n : Nat) (c : F) (f : Nat → F) : fm c (sumF n f) = sumF n (fun k => fm c (f k)) := by
  induction n with
  | zero => exact fm_zero c
  | succ n ih => rw [sumF, fm_xor, ih, sumF]
theorem sum_fm (n : Nat) (c : F) (f : Nat → F) : fm (sumF n f) c = sumF n (fun k => fm (f k) c) := by
  induction n with
  | zero => exact zero_fm c
  | succ n ih => rw [sumF, xor_fm, ih, sumF]
theorem sum_swap (n m : Nat) (f : Nat → Nat → F) : sumF n (fun k => sumF m (fun l => f k l)) = sumF m (fun l => sumF n (fun k => f k l)) := by
  induction n with
  | zero => simp only [sumF, sum_zero]
  | succ n ih => rw [sumF, ih, ← sum_xor]; rfl
def delta (i j : Nat) : F := if i = j then 1#8 else 0#8
theorem sum_delta_none (n i : Nat) (f : Nat → F) (h : n ≤ i) : sumF n (fun k => fm (delta i k) (f k)) = 0#8 := by
  rw [← sum_zero n]
  apply sum_congr
  intro k hk
  unfold delta
  rw [if_neg (by omega), zero_fm]
theorem sum_delta (n i : Nat) (f : Nat → F) (h : i < n) : sumF n (fun k => fm (delta i k) (f k)) = f i := by
  induction n with
  | zero => omega
  | succ n ih =>
    rw [sumF]
    by_cases e : i = n
    · subst e
      rw [sum_delta_none i i f (Nat.le_refl _)]
      unfold delta
      rw [if_pos rfl, one_fm, BitVec.zero_xor]
    · rw [ih (by omega)]
      unfold delta
      rw [if_neg e, zero_fm, BitVec.xor_zero]
theorem delta_symm (i j : Nat) : delta i j = delta j i := by
  unfold delta
  by_cases h : i = j
  · rw [if_pos h, if_pos h.symm]
  · rw [if_neg h, if_neg (fun e => h e.symm)]
theorem sum_delta_r (n i : Nat) (f : Nat → F) (h : i < n) : sumF n (fun k => fm (f k) (delta k i)) = f i := by
  rw [← sum_delta n i f h]
  apply sum_congr
  intro k _
  rw [fm_comm, delta_symm]
/-- A matrix of so many columns by another one. -/
def mm (n : Nat) (a b : Nat → Nat → F) : Nat → Nat → F := fun i j => sumF n (fun k => fm (a i k) (b k j))
theorem mm_assoc (n m : Nat) (a b c : Nat → Nat → F) (i j : Nat) : mm m (mm n a b) c i j = mm n a (mm m b c) i j := by
  unfold mm
  have h1 : sumF m (fun k => fm (sumF n (fun l => fm (a i l) (b l k))) (c k j)) = sumF m (fun k => sumF n (fun l => fm (fm (a i l) (b l k)) (c k j))) := sum_congr _ _ _ (fun k _ => sum_fm _ _ _)
  have h2 : sumF n (fun k => fm (a i k) (sumF m (fun l => fm (b k l) (c l j)))) = sumF n (fun k => sumF m (fun l => fm (a i k) (fm (b k l) (c l j)))) := sum_congr _ _ _ (fun k _ => fm_sum _ _ _)
  rw [h1, h2, sum_swap]
  exact sum_congr _ _ _ (fun k _ => sum_congr _ _ _ (fun l _ => fm_assoc _ _ _))
theorem delta_mm (n : Nat) (a : Nat → Nat → F) (i j : Nat) (hi : i < n) : mm n delta a i j = a i j := sum_delta n i (fun k => a k j) hi
theorem mm_delta (n : Nat) (a : Nat → Nat → F) (i j : Nat) (hj : j < n) : mm n a delta i j = a i j := sum_delta_r n j (fun k => a i k) hj
theorem mm_congr (n : Nat) (a a' b b' : Nat → Nat → F) (i j : Nat) (ha : ∀ k, k < n → a i k = a' i k) (hb : ∀ k, k < n → b k j = b' k j) : mm n a b i j = mm n a' b' i j :=
  sum_congr _ _ _ (fun k hk => by rw [ha k hk, hb k hk])
end Go.Proofs.Ytaahnicjjpddjaa.Fld
end
section
namespace Go.Proofs.Ytaahnicjjpddjaa.Fld
open Go.RowKit
theorem wrap64_in {n : Int} (h0 : -9223372036854775808 ≤ n) (h1 : n ≤ 9223372036854775807) : wrap64 n = n := by
  unfold wrap64; omega
def toI (a : F) : Int := (a.toNat : Int)
def ofI (n : Int) : F := BitVec.ofNat 8 n.toNat
theorem toI_lo (a : F) : 0 ≤ toI a := Int.natCast_nonneg _
theorem toI_hi (a : F) : toI a < 256 := by have := a.isLt; unfold toI; omega
theorem toI_ofI {n : Int} (h0 : 0 ≤ n) (h1 : n < 256) : toI (ofI n) = n := by
  unfold toI ofI
  rw [BitVec.toNat_ofNat, Nat.mod_eq_of_lt (by omega)]
  omega
theorem ofI_toI (a : F) : ofI (toI a) = a := by
  unfold toI ofI
  apply BitVec.eq_of_toNat_eq
  rw [BitVec.toNat_ofNat, Int.toNat_natCast, Nat.mod_eq_of_lt a.isLt]
theorem toI_inj {a b : F} (h : toI a = toI b) : a = b := by rw [← ofI_toI a, ← ofI_toI b, h]
theorem toI_zero : toI 0#8 = 0 := rfl
theorem toI_eq_zero (a : F) : toI a = 0 ↔ a = 0#8 := ⟨fun h => toI_inj (by rw [h, toI_zero]), fun h => by rw [h, toI_zero]⟩
theorem ex_toI {n : Int} (h0 : 0 ≤ n) (h1 : n < 256) : ∃ a : F, n = toI a := ⟨ofI n, (toI_ofI h0 h1).symm⟩
theorem i64_small {n : Int} (h0 : 0 ≤ n) (h1 : n < 9223372036854775808) : IntKind.i64.wrap n = n := by rw [IntKind.wrap_i64]; omega
theorem ofInt_toI (k : IntKind) (hk : 8 ≤ k.bits) (a : F) : (BitVec.ofInt k.bits (toI a)).toNat = a.toNat := by
  unfold toI
  rw [BitVec.ofInt_natCast, BitVec.toNat_ofNat]
  exact Nat.mod_eq_of_lt (Nat.lt_of_lt_of_le a.isLt (Nat.pow_le_pow_right (by decide) hk))
theorem xor_i64 (a b : F) : bits .xor .i64 (toI a) (toI b) = toI (a ^^^ b) := by
  have h : bits .xor .i64 (toI a) (toI b) = IntKind.i64.wrap ((BitVec.ofInt 64 (toI a) ^^^ BitVec.ofInt 64 (toI b)).toNat : Int) := rfl
  have ha : (BitVec.ofInt 64 (toI a)).toNat = a.toNat := ofInt_toI .i64 (by decide) a
  have hb : (BitVec.ofInt 64 (toI b)).toNat = b.toNat := ofInt_toI .i64 (by decide) b
  rw [h, BitVec.toNat_xor, ha, hb, ← BitVec.toNat_xor]
  exact i64_small (toI_lo _) (by have := toI_hi (a ^^^ b); unfold toI at this; omega)
theorem xor_u8 (a b : F) : bits .xor .u8 (toI a) (toI b) = toI (a ^^^ b) := by
  have h : bits .xor .u8 (toI a) (toI b) = IntKind.u8.wrap ((BitVec.ofInt 8 (toI a) ^^^ BitVec.ofInt 8 (toI b)).toNat : Int) := rfl
  have ha : (BitVec.ofInt 8 (toI a)).toNat = a.toNat := ofInt_toI .u8 (by decide) a
  have hb : (BitVec.ofInt 8 (toI b)).toNat = b.toNat := ofInt_toI .u8 (by decide) b
  rw [h, BitVec.toNat_xor, ha, hb, ← BitVec.toNat_xor, IntKind.wrap_u8]
  have h0 := toI_lo (a ^^^ b)
  have h1 := toI_hi (a ^^^ b)
  unfold toI at h0 h1 ⊢
  omega
/-- a mask of low bits, of whatever number. -/
theorem and_mask (j : Nat) (hj : j ≤ 62) (x : Int) : bits .and .i64 x (2 ^ j - 1) = x % 2 ^ j := by
  have h : bits .and .i64 x (2 ^ j - 1) = IntKind.i64.wrap ((BitVec.ofInt 64 x &&& BitVec.ofInt 64 (2 ^ j - 1)).toNat : Int) := rfl
  have hp : 0 < 2 ^ j := Nat.two_pow_pos j
  have hq : 2 ^ j ≤ 2 ^ 62 := Nat.pow_le_pow_right (by decide) hj
  have hc : ((2 : Int) ^ j - 1) = ((2 ^ j - 1 : Nat) : Int) := by rw [Int.natCast_sub hp, Int.natCast_pow]; rfl
  have hb : (BitVec.ofInt 64 ((2 : Int) ^ j - 1)).toNat = 2 ^ j - 1 := by
    rw [hc, BitVec.ofInt_natCast, BitVec.toNat_ofNat]
    exact Nat.mod_eq_of_lt (by omega)
  rw [h, BitVec.toNat_and, hb, Nat.and_two_pow_sub_one_eq_mod]
  have hx : (BitVec.ofInt 64 x).toNat = (x % 18446744073709551616).toNat := by rw [BitVec.toNat_ofInt]; rfl
  rw [hx]
  have hd : ((2 ^ j : Nat) : Int) ∣ 18446744073709551616 := by
    have : (2 ^ j : Nat) ∣ 2 ^ 64 := Nat.pow_dvd_pow 2 (by omega)
    have e : (18446744073709551616 : Int) = ((2 ^ 64 : Nat) : Int) := rfl
    rw [e]
    exact Int.natCast_dvd_natCast.2 this
  have h0 : 0 ≤ x % 18446744073709551616 := Int.emod_nonneg _ (by decide)
  have e1 : (((x % 18446744073709551616).toNat % 2 ^ j : Nat) : Int) = x % ((2 ^ j : Nat) : Int) := by
    rw [Int.natCast_emod, Int.toNat_of_nonneg h0, Int.emod_emod_of_dvd _ hd]
  rw [e1]
  have h2 : 0 ≤ x % ((2 ^ j : Nat) : Int) := Int.emod_nonneg _ (by omega)
  have h3 : x % ((2 ^ j : Nat) : Int) < ((2 ^ j : Nat) : Int) := Int.emod_lt_of_pos _ (by omega)
  have h4 : ((2 ^ j : Nat) : Int) = (2 : Int) ^ j := by rw [Int.natCast_pow]; rfl
  rw [i64_small h2 (by omega), h4]
theorem and_1 (x : Int) : bits .and .i64 x 1 = x % 2 := and_mask 1 (by decide) x
theorem tx_lo_all : ∀ n : Nat, n < 128 → tx (BitVec.ofNat 8 n) = BitVec.ofNat 8 (n * 2) := by decide +kernel
theorem tx_hi_all : ∀ n : Nat, n < 128 → bits .xor .i64 (256 + (n : Int) * 2) 285 = toI (tx (BitVec.ofNat 8 (128 + n))) := by decide +kernel
theorem of_toNat (a : F) : BitVec.ofNat 8 a.toNat = a := by rw [BitVec.ofNat_toNat, BitVec.setWidth_eq]
theorem dbl_wrap (a : F) : wrap64 (toI a * 2) = toI a * 2 := by
  have := toI_lo a; have := toI_hi a
  exact wrap64_in (by omega) (by omega)
theorem dbl_lo (a : F) (h : ¬ toI a * 2 ≥ 256) : toI a * 2 = toI (tx a) := by
  unfold toI at h ⊢
  have h1 := tx_lo_all a.toNat (by omega)
  rw [of_toNat] at h1
  rw [h1, BitVec.toNat_ofNat, Nat.mod_eq_of_lt (by omega)]
  omega
theorem dbl_hi (a : F) (h : toI a * 2 ≥ 256) : bits .xor .i64 (toI a * 2) 285 = toI (tx a) := by
  have hl := toI_hi a
  unfold toI at h hl
  have h1 := tx_hi_all (a.toNat - 128) (by omega)
  rw [show 128 + (a.toNat - 128) = a.toNat from by omega, of_toNat] at h1
  rw [← h1, show (toI a * 2) = 256 + ((a.toNat - 128 : Nat) : Int) * 2 from by unfold toI; omega]
/-- one of the product's rounds. -/
def bitF (b : Nat) (a : F) : F := if b % 2 = 1 then a else 0#8
theorem fmN_succ (n : Nat) (a : F) (b : Nat) : fmN (n + 1) a b = bitF b a ^^^ fmN n (tx a) (b / 2) := rfl
end Go.Proofs.Ytaahnicjjpddjaa.Fld
end
section
namespace Go.Proofs.YtaahnicjjpddjaaW.PrintWords   -- short names, for texts that must be short
open Go.RowKit
theorem gCa {P : Program} {ops : Array Oper} {rest : List Oper} {o : Oper} {a : Act} {Q : Exit → Act → World → Prop} {W : World} {f : FuncId} {xs : Array Operand} {ts : Array TypeId} (_ : o.op = .call { callee := .value (.func f), args := xs, argTypes := ts }) (h : wpList P ops Q (o :: rest) a W) : wpList P ops Q (o :: rest) a W := h
theorem gBu {P : Program} {ops : Array Oper} {rest : List Oper} {o : Oper} {a : Act} {Q : Exit → Act → World → Prop} {W : World} {b : Builtin} {xs : Array Operand} {ts : Array TypeId} (_ : o.op = .call { callee := .builtin b, args := xs, argTypes := ts }) (h : wpList P ops Q (o :: rest) a W) : wpList P ops Q (o :: rest) a W := h
theorem dSe (w : World) (n : Nat) : w.drewN n = w.drewN n := rfl
theorem mk0 {p : Prop} (h : p) : Aside0 p := ⟨h⟩
theorem bN {w : World} {g : Nat} {o : Obj} (h : w.heap[g]? = some o) (n : Nat) : (w.drewN n).heap[g]? = some o := blk_drewN h n
theorem bD {w : World} {g : Nat} {o : Obj} (h : w.heap[g]? = some o) : w.drew.heap[g]? = some o := blk_drew h
theorem bA {w : World} {g : Nat} {o : Obj} (h : w.heap[g]? = some o) (o' : Obj) : (w.alloc o').heap[g]? = some o := blk_alloc h o'
theorem lA {w W : World} (h : Below w.heap.size w W) (o : Obj) : Below w.heap.size w (W.alloc o) := below_alloc h o
theorem lN {B : Nat} {w W : World} (h : Below B w W) (n : Nat) : Below B w (W.drewN n) := pw_below_drewN h n
theorem lD {B : Nat} {w W : World} (h : Below B w W) : Below B w W.drew := below_drew1 h
theorem lT {w W : World} {g j : Nat} {v : Value} (h : Below w.heap.size w W) (hg : Aside0 (w.heap.size ≤ g)) : Below w.heap.size w (W.setCell ⟨g, j, none⟩ v) := below_set h hg.out
theorem sA {α : Type} {d : Kd α} {e : TypeId} {w : World} {base : Nat} {ok : Nat → Prop} {v : Value} {xs : List α} (h : Kd.S d e w base ok v xs) (o : Obj) : Kd.S d e (w.alloc o) base ok v xs := Kd.S_alloc h o
theorem sD {α : Type} {d : Kd α} {e : TypeId} {w : World} {base : Nat} {ok : Nat → Prop} {v : Value} {xs : List α} (h : Kd.S d e w base ok v xs) : Kd.S d e w.drew base ok v xs := Kd.S_drew h
theorem sN {α : Type} {d : Kd α} {e : TypeId} {w : World} {base : Nat} {ok : Nat → Prop} {v : Value} {xs : List α} (h : Kd.S d e w base ok v xs) (m : Nat) : Kd.S d e (w.drewN m) base ok v xs := Kd.S_drewN h m
theorem rA {α : Type} {d : Kd α} {e : TypeId} {w : World} {base : Nat} {ok : Nat → Prop} {v : Value} {xs : List α} (h : Kd.R d e w base ok v xs) (o : Obj) : Kd.R d e (w.alloc o) base ok v xs := Kd.R_alloc h o
theorem rD {α : Type} {d : Kd α} {e : TypeId} {w : World} {base : Nat} {ok : Nat → Prop} {v : Value} {xs : List α} (h : Kd.R d e w base ok v xs) : Kd.R d e w.drew base ok v xs := Kd.R_drew h
theorem rN {α : Type} {d : Kd α} {e : TypeId} {w : World} {base : Nat} {ok : Nat → Prop} {v : Value} {xs : List α} (h : Kd.R d e w base ok v xs) (m : Nat) : Kd.R d e (w.drewN m) base ok v xs := Kd.R_drewN h m
end Go.Proofs.YtaahnicjjpddjaaW.PrintWords
namespace Go.Proofs.YtaahnicjjpddjaaW.PrintMore
end Go.Proofs.YtaahnicjjpddjaaW.PrintMore
namespace Go.Proofs.Ytaahnicjjpddjaa.Fn
open Go.RowKit Go.Proofs.YtaahnicjjpddjaaW.PrintWords Go.Proofs.YtaahnicjjpddjaaW.PrintLast Go.Proofs.YtaahnicjjpddjaaW.PrintMore
/-- is a number one of the field? -/
def isB (x : Int) : Bool := decide (0 ≤ x) && decide (x < 256)
def badB (x : Int) : Bool := !isB x
def anyBad (xs : List Int) : Bool := xs.any badB
theorem is_calls (x : Int) (w : World) : Calls Try.prog 74 #[.int .i64 x] w fun e w' => e = .returned (.bool (isB x)) ∧ w = w' := by
  unfold isB
  by_cases h0 : 0 ≤ x
  · have h1 : decide (0 ≤ x) = true := decide_eq_true h0
    rw [h1, Bool.true_and]
    go_enter Try.func74, Try.ntmps74
    go_wp2
    go_ret
    exact ⟨rfl, rfl⟩
  · have h1 : decide (0 ≤ x) = false := decide_eq_false h0
    rw [h1, Bool.false_and]
    go_enter Try.func74, Try.ntmps74
    go_wp2
    go_ret
    exact ⟨rfl, rfl⟩
theorem bad_calls (x : Int) (w : World) : Calls Try.prog 73 #[.int .i64 x] w fun e w' => e = .returned (.bool (badB x)) ∧ w = w' := by
  go_enter Try.func73, Try.ntmps73
  go_wp2_with (go_at_call 74; refine (is_calls _ _).mono ?_; rintro e w' ⟨rfl, rfl⟩)
  go_ret
  exact ⟨rfl, rfl⟩
/-- the place of the first that is none, or -1. -/
def idxB (xs : List Int) : Int := match xs.findIdx? badB with | some i => (i : Int) | none => -1
theorem idxB_some {xs : List Int} {i : Nat} (h : xs.findIdx? badB = some i) : idxB xs = (i : Int) := by unfold idxB; rw [h]
theorem idxB_none {xs : List Int} (h : xs.findIdx? badB = none) : idxB xs = -1 := by unfold idxB; rw [h]
set_option maxHeartbeats 1000000 in
/-- It answers -1, or the place of one that is none. -/
theorem index_calls (A : Option Addr) (c : Nat) (xs : List Int) (w : World) (hr : Kd.C (Kd.int .i64) w A xs.length xs) :
    Calls Try.prog 92 #[.slice A xs.length c, .func (.func 73) #[] #[]] w fun e w' => e = .returned (.int .i64 (idxB xs)) ∧ w = w' := by
  have hm : xs.length ≤ 9223372036854775807 := hr.2.1
  have HR := Aside0.mk hr
  clear hr
  go_enter Try.func92, Try.ntmps92
  go_wp2
  go_loop [8] (fun i => ∃ k : Nat, i = .int .i64 k ∧ k ≤ xs.length ∧ Aside0 (∀ j, j < k → ∀ h : j < xs.length, badB xs[j] = false)) (fun i => xs.length - (intOf i).toNat)
  case atStart => exact ⟨0, rfl, Nat.zero_le _, ⟨fun j hj => absurd hj (by omega)⟩⟩
  case round =>
    obtain ⟨k, rfl, hk, HG⟩ := hrel
    by_cases hlt : k < xs.length
    · obtain ⟨ad, e, hc⟩ := Kd.at_int HR.out (k : Int) (by omega) (by omega)
      subst e
      have hrd : rd xs (k : Int) = xs[k] := by unfold rd; rw [Int.toNat_natCast, List.getD_eq_getElem?_getD, List.getElem?_eq_getElem hlt]; rfl
      rw [hrd, Int.toNat_natCast] at hc
      cases hb : badB xs[k] with
      | true =>
        have hf : xs.findIdx? badB = some k := by
          rw [List.findIdx?_eq_some_iff_getElem]
          exact ⟨hlt, hb, fun j hj => by rw [HG.out j hj (by omega)]; decide⟩
        have Hf := Aside0.mk (idxB_some hf)
        clear hf
        have Hb := Aside0.mk hb
        clear hb
        go_wp2_with (go_at_call 73; refine (bad_calls _ _).mono ?_; rw [Hb.out]; rintro e w' ⟨rfl, rfl⟩)
        go_ret
        exact ⟨by rw [Hf.out]; rfl, rfl⟩
      | false =>
        have Hb := Aside0.mk hb
        clear hb
        go_wp2_with (go_at_call 73; refine (bad_calls _ _).mono ?_; rw [Hb.out]; rintro e w' ⟨rfl, rfl⟩)
        go_round
        case rel =>
          refine ⟨k + 1, by go_num, by omega, ⟨fun j hj h => ?_⟩⟩
          by_cases e : j = k
          · subst e; exact Hb.out
          · exact HG.out j (by omega) h
        case measure => simp [intOf]; omega
    · have hf : xs.findIdx? badB = none := by
        rw [List.findIdx?_eq_none_iff]
        intro x hx
        obtain ⟨j, hj, rfl⟩ := List.mem_iff_getElem.1 hx
        exact HG.out j (by omega) hj
      have Hf := Aside0.mk (idxB_none hf)
      clear hf
      go_wp2
      go_ret
      exact ⟨by rw [Hf.out]; rfl, rfl⟩
theorem contains_calls (A : Option Addr) (c : Nat) (xs : List Int) (w : World) (hr : Kd.C (Kd.int .i64) w A xs.length xs) :
    Calls Try.prog 72 #[.slice A xs.length c, .func (.func 73) #[] #[]] w fun e w' => e = .returned (.bool (anyBad xs)) ∧ Drawn0 w w' := by
  cases hf : xs.findIdx? badB with
  | none =>
    have ha : anyBad xs = false := by
      unfold anyBad
      rw [List.findIdx?_eq_none_iff] at hf
      rw [List.any_eq_false]
      intro x hx
      rw [hf x hx]; decide
    rw [ha]
    have Hf := Aside0.mk (idxB_none hf)
    clear hf
    go_enter Try.func72, Try.ntmps72
    go_wp2_with (go_at_call 92; refine (index_calls _ _ _ _ hr).mono ?_; rw [Hf.out]; rintro e w' ⟨rfl, rfl⟩)
    go_ret
    exact ⟨rfl, Drawn0.refl _⟩
  | some i =>
    have ha : anyBad xs = true := by
      unfold anyBad
      rw [List.findIdx?_eq_some_iff_getElem] at hf
      obtain ⟨hi, hb, _⟩ := hf
      rw [List.any_eq_true]
      exact ⟨xs[i], List.getElem_mem hi, hb⟩
    rw [ha]
    have Hf := Aside0.mk (idxB_some hf)
    clear hf
    have hi : decide (0 ≤ (i : Int)) = true := decide_eq_true (by omega)
    go_enter Try.func72, Try.ntmps72
    go_wp2_with (go_at_call 92; refine (index_calls _ _ _ _ hr).mono ?_; rw [Hf.out]; rintro e w' ⟨rfl, rfl⟩)
    go_ret
    exact ⟨rfl, Drawn0.refl _⟩
/-- as the printed contracts have it: the function that is handed over is left unsaid. -/
def containsBad.f (xs : List Int) : Option Bool := some (anyBad xs)
theorem containsBad.calls (A0 : Option Addr) (c0 : Nat) (l0 : List Int) (r : Bool) (w : World) (hr0 : Kd.C (Kd.int .i64) w A0 l0.length l0) (_hc0 : l0.length ≤ c0) (h : containsBad.f l0 = some r) :
    Calls Try.prog 72 #[.slice A0 l0.length c0, .func (.func 73) #[] #[]] w fun e w' => e = .returned (.bool r) ∧ Drawn0 w w' := by
  have e := Option.some.inj h
  subst e
  exact contains_calls _ _ _ _ hr0
end Go.Proofs.Ytaahnicjjpddjaa.Fn
end
