/- The field of 256 as plain algebra over BitVec 8: sums are exclusive or, products go by doubling modulo 285; the field's laws, inverses and powers. No condition. -/
namespace Go.Proofs.Ytaahnicjjpddjaa.Fld
abbrev F := BitVec 8
/-- a number, times the polynomial x. -/
def tx (a : F) : F := if a.msb then (a <<< 1) ^^^ 29#8 else a <<< 1
def fmN : Nat → F → Nat → F
  | 0, _, _ => 0#8
  | n + 1, a, b => (if b % 2 = 1 then a else 0#8) ^^^ fmN n (tx a) (b / 2)
/-- the product. -/
def fm (a b : F) : F := fmN 8 a b.toNat
theorem tx_xor (a b : F) : tx (a ^^^ b) = tx a ^^^ tx b := by
  unfold tx
  rw [BitVec.msb_xor, BitVec.shiftLeft_xor_distrib]
  cases a.msb <;> cases b.msb <;> simp
  · rw [BitVec.xor_assoc]
  · rw [BitVec.xor_assoc, BitVec.xor_assoc]; congr 1; rw [BitVec.xor_comm]
  · rw [BitVec.xor_assoc, BitVec.xor_comm (29#8) _, BitVec.xor_assoc, BitVec.xor_self, BitVec.xor_zero]
theorem tx_zero : tx 0#8 = 0#8 := by decide
theorem fmN_zero_left (n : Nat) : ∀ b, fmN n 0#8 b = 0#8 := by
  induction n with
  | zero => intro b; rfl
  | succ n ih => intro b; simp only [fmN, tx_zero, ih]; split <;> rfl
theorem fmN_zero_right (n : Nat) : ∀ a, fmN n a 0 = 0#8 := by
  induction n with
  | zero => intro a; rfl
  | succ n ih => intro a; simp [fmN, ih]
theorem xor4 (a b c d : F) : (a ^^^ b) ^^^ (c ^^^ d) = (a ^^^ c) ^^^ (b ^^^ d) := by
  rw [BitVec.xor_assoc, BitVec.xor_assoc]
  congr 1
  rw [← BitVec.xor_assoc, BitVec.xor_comm b c, BitVec.xor_assoc]
theorem fmN_xor (n : Nat) : ∀ a b c, fmN n (a ^^^ b) c = fmN n a c ^^^ fmN n b c := by
  induction n with
  | zero => intro a b c; simp [fmN]
  | succ n ih =>
    intro a b c
    simp only [fmN, tx_xor, ih]
    split
    · rw [xor4]
    · simp
theorem fmN_tx (n : Nat) : ∀ a c, fmN n (tx a) c = tx (fmN n a c) := by
  induction n with
  | zero => intro a c; simp [fmN, tx_zero]
  | succ n ih =>
    intro a c
    simp only [fmN, tx_xor, ih]
    split
    · rfl
    · simp [tx_zero]
theorem zero_fm (a : F) : fm 0#8 a = 0#8 := fmN_zero_left _ _
theorem fm_zero (a : F) : fm a 0#8 = 0#8 := fmN_zero_right _ _
theorem xor_fm (a b c : F) : fm (a ^^^ b) c = fm a c ^^^ fm b c := fmN_xor _ _ _ _
theorem tx_fm (a c : F) : fm (tx a) c = tx (fm a c) := fmN_tx _ _ _
theorem one_fm_all : ∀ n, n < 256 → fm 1#8 (BitVec.ofNat 8 n) = BitVec.ofNat 8 n := by decide +kernel
theorem one_fm (c : F) : fm 1#8 c = c := by
  have h := one_fm_all c.toNat c.isLt
  rwa [BitVec.ofNat_toNat, BitVec.setWidth_eq] at h
/-- x's powers. -/
def E : Nat → F
  | 0 => 1#8
  | n + 1 => tx (E n)
def txN : Nat → F → F
  | 0, a => a
  | n + 1, a => tx (txN n a)
theorem E_fm (i : Nat) (c : F) : fm (E i) c = txN i c := by
  induction i with
  | zero => exact one_fm c
  | succ i ih => simp only [E, txN, tx_fm, ih]
theorem txN_E (i j : Nat) : txN i (E j) = E (i + j) := by
  induction i with
  | zero => simp [txN]
  | succ i ih => simp only [txN, ih]; rw [show i + 1 + j = (i + j) + 1 from by omega]; rfl
theorem txN_txN (i j : Nat) (c : F) : txN i (txN j c) = txN (i + j) c := by
  induction i with
  | zero => simp [txN]
  | succ i ih => simp only [txN, ih]; rw [show i + 1 + j = (i + j) + 1 from by omega]; rfl
theorem E_E (i j : Nat) : fm (E i) (E j) = E (i + j) := by rw [E_fm, txN_E]
/-- the list of x's powers, one after the other: quick to reckon. -/
def Es : Nat → F → List F
  | 0, _ => []
  | n + 1, a => a :: Es n (tx a)
theorem Es_get (n : Nat) : ∀ (j i : Nat), i < n → (Es n (E j))[i]? = some (E (j + i)) := by
  induction n with
  | zero => intro j i h; omega
  | succ n ih =>
    intro j i h
    cases i with
    | zero => simp [Es]
    | succ i =>
      have h2 := ih (j + 1) i (by omega)
      simp only [Es, List.getElem?_cons_succ]
      rw [show tx (E j) = E (j + 1) from rfl, h2, show j + (i + 1) = j + 1 + i from by omega]
/-- where a number stands among the powers. -/
def lg (a : F) : Nat := (Es 255 1#8).idxOf a
theorem lg_all : ∀ n, n < 256 → n ≠ 0 → lg (BitVec.ofNat 8 n) < 255 := by decide +kernel
theorem E_lg (a : F) (h : a ≠ 0#8) : E (lg a) = a ∧ lg a < 255 := by
  have h1 := lg_all a.toNat a.isLt (fun e => h (BitVec.eq_of_toNat_eq (by simpa using e)))
  rw [BitVec.ofNat_toNat, BitVec.setWidth_eq] at h1
  refine ⟨?_, h1⟩
  have hlen : (Es 255 1#8).length = 255 := by decide +kernel
  have hmem : (Es 255 1#8).idxOf a < (Es 255 1#8).length := by rw [hlen]; exact h1
  have h2 := Es_get 255 0 (lg a) h1
  have h3 : (Es 255 1#8)[(Es 255 1#8).idxOf a]'hmem = a := List.getElem_idxOf hmem
  have h4 : (Es 255 (E 0))[lg a]? = some a := by
    show (Es 255 1#8)[(Es 255 1#8).idxOf a]? = some a
    rw [List.getElem?_eq_getElem hmem, h3]
  rw [h4] at h2
  have h5 := Option.some.inj h2
  rw [Nat.zero_add] at h5
  exact h5.symm
theorem nz_cases (a : F) : a = 0#8 ∨ ∃ i, i < 255 ∧ a = E i := by
  by_cases h : a = 0#8
  · exact Or.inl h
  · exact Or.inr ⟨lg a, (E_lg a h).2, (E_lg a h).1.symm⟩
theorem fm_comm (a b : F) : fm a b = fm b a := by
  rcases nz_cases a with rfl | ⟨i, _, rfl⟩
  · rw [zero_fm, fm_zero]
  · rcases nz_cases b with rfl | ⟨j, _, rfl⟩
    · rw [zero_fm, fm_zero]
    · rw [E_E, E_E, Nat.add_comm]
theorem fm_assoc (a b c : F) : fm (fm a b) c = fm a (fm b c) := by
  rcases nz_cases a with rfl | ⟨i, _, rfl⟩
  · simp only [zero_fm]
  · rcases nz_cases b with rfl | ⟨j, _, rfl⟩
    · simp only [zero_fm, fm_zero]
    · rw [E_E, E_fm, E_fm, E_fm, txN_txN]
theorem fm_one (a : F) : fm a 1#8 = a := by rw [fm_comm, one_fm]
theorem fm_xor (a b c : F) : fm a (b ^^^ c) = fm a b ^^^ fm a c := by
  rw [fm_comm, xor_fm, fm_comm b, fm_comm c]
theorem E_255 : E 255 = 1#8 := by decide +kernel
theorem E_ne (i : Nat) : E i ≠ 0#8 := by
  intro h
  have h1 : ∀ k, fm (E k) (E i) = 0#8 := fun k => by rw [h, fm_zero]
  have h2 : ∀ k, E (k + i) = 0#8 := fun k => by rw [← E_E, h1]
  have h3 : ∀ n, E (n * 255) = 1#8 := by
    intro n
    induction n with
    | zero => rfl
    | succ n ih => rw [Nat.succ_mul, ← E_E, ih, E_255]; decide
  have h4 := h2 (i * 255 - i)
  rw [show i * 255 - i + i = i * 255 from by omega, h3] at h4
  exact absurd h4 (by decide)
theorem fm_eq_zero (a b : F) : fm a b = 0#8 ↔ a = 0#8 ∨ b = 0#8 := by
  constructor
  · intro h
    rcases nz_cases a with rfl | ⟨i, _, rfl⟩
    · exact Or.inl rfl
    · rcases nz_cases b with rfl | ⟨j, _, rfl⟩
      · exact Or.inr rfl
      · rw [E_E] at h; exact absurd h (E_ne _)
  · rintro (rfl | rfl)
    · exact zero_fm _
    · exact fm_zero _
/-- powers. -/
def fp (a : F) : Nat → F
  | 0 => 1#8
  | n + 1 => fm (fp a n) a
theorem fp_E (i n : Nat) : fp (E i) n = E (i * n) := by
  induction n with
  | zero => rfl
  | succ n ih => rw [fp, ih, E_E, Nat.mul_succ]
theorem E_mul_255 (n : Nat) : E (n * 255) = 1#8 := by
  induction n with
  | zero => rfl
  | succ n ih => rw [Nat.succ_mul, ← E_E, ih, E_255]; decide
/-- the inverse. -/
def fi (a : F) : F := fp a 254
theorem fm_fi (a : F) (h : a ≠ 0#8) : fm a (fi a) = 1#8 := by
  rcases nz_cases a with rfl | ⟨i, _, rfl⟩
  · exact absurd rfl h
  · rw [fi, fp_E, E_E, show i + i * 254 = i * 255 from by omega, E_mul_255]
theorem fi_fm (a : F) (h : a ≠ 0#8) : fm (fi a) a = 1#8 := by rw [fm_comm, fm_fi a h]
end Go.Proofs.Ytaahnicjjpddjaa.Fld
