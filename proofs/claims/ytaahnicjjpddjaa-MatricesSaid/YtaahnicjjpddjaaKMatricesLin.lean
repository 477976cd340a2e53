/- The product: its text lies ahead. No condition. Finite sums over the field of 256, and matrices as functions: products, the identity, who is first multiplied. Plain algebra, no condition. -/
import Derived.Test.YtaahnicjjpddjaaKMatricesGMul1
section
namespace Go.Proofs.Ytaahnicjjpddjaa.Fld
def sumF : Nat → (Nat → F) → F
  | 0, _ => 0#8
  | n + 1, f => sumF n f ^^^ f n
theorem sum_congr (n : Nat) (f g : Nat → F) (h : ∀ k, k < n → f k = g k) : sumF n f = sumF n g := by
  induction n with
  | zero => rfl
  | succ n ih => rw [sumF, sumF, ih (fun k hk => h k (by omega)), h n (by omega)]
theorem sum_zero (n : Nat) : sumF n (fun _ => 0#8) = 0#8 := by
  induction n with
  | zero => rfl
  | succ n ih => rw [sumF, ih]; rfl
theorem sum_xor (n : Nat) (f g : Nat → F) : sumF n (fun k => f k ^^^ g k) = sumF n f ^^^ sumF n g := by
  induction n with
  | zero => simp [sumF]
  | succ n ih => rw [sumF, ih, sumF, sumF, xor4]
theorem fm_sum (n : Nat) (c : F) (f : Nat → F) : fm c (sumF n f) = sumF n (fun k => fm c (f k)) := by
  induction n with
  | zero => exact fm_zero c
  | succ n ih => rw [sumF, fm_xor, ih, sumF]
theorem sum_fm (n : Nat) (c : F) (f : Nat → F) : fm (sumF n f) c = sumF n (fun k => fm (f k) c) := by
  induction n with
  | zero => exact zero_fm c
  | succ n ih => rw [sumF, xor_fm, ih, sumF]
theorem sum_swap (n m : Nat) (f : Nat → Nat → F) : sumF n (fun k => sumF m (fun l => f k l)) = sumF m (fun l => sumF n (fun k => f k l)) := by
  induction n with
  | zero => simp only [sumF, sum_zero]
  | succ n ih => rw [sumF, ih, ← sum_xor]; rfl
def delta (i j : Nat) : F := if i = j then 1#8 else 0#8
theorem sum_delta_none (n i : Nat) (f : Nat → F) (h : n ≤ i) : sumF n (fun k => fm (delta i k) (f k)) = 0#8 := by
  rw [← sum_zero n]
  apply sum_congr
  intro k hk
  unfold delta
  rw [if_neg (by omega), zero_fm]
theorem sum_delta (n i : Nat) (f : Nat → F) (h : i < n) : sumF n (fun k => fm (delta i k) (f k)) = f i := by
  induction n with
  | zero => omega
  | succ n ih =>
    rw [sumF]
    by_cases e : i = n
    · subst e
      rw [sum_delta_none i i f (Nat.le_refl _)]
      unfold delta
      rw [if_pos rfl, one_fm, BitVec.zero_xor]
    · rw [ih (by omega)]
      unfold delta
      rw [if_neg e, zero_fm, BitVec.xor_zero]
theorem delta_symm (i j : Nat) : delta i j = delta j i := by
  unfold delta
  by_cases h : i = j
  · rw [if_pos h, if_pos h.symm]
  · rw [if_neg h, if_neg (fun e => h e.symm)]
theorem sum_delta_r (n i : Nat) (f : Nat → F) (h : i < n) : sumF n (fun k => fm (f k) (delta k i)) = f i := by
  rw [← sum_delta n i f h]
  apply sum_congr
  intro k _
  rw [fm_comm, delta_symm]
/-- A matrix of so many columns by another one. -/
def mm (n : Nat) (a b : Nat → Nat → F) : Nat → Nat → F := fun i j => sumF n (fun k => fm (a i k) (b k j))
theorem mm_assoc (n m : Nat) (a b c : Nat → Nat → F) (i j : Nat) : mm m (mm n a b) c i j = mm n a (mm m b c) i j := by
  unfold mm
  have h1 : sumF m (fun k => fm (sumF n (fun l => fm (a i l) (b l k))) (c k j)) = sumF m (fun k => sumF n (fun l => fm (fm (a i l) (b l k)) (c k j))) := sum_congr _ _ _ (fun k _ => sum_fm _ _ _)
  have h2 : sumF n (fun k => fm (a i k) (sumF m (fun l => fm (b k l) (c l j)))) = sumF n (fun k => sumF m (fun l => fm (a i k) (fm (b k l) (c l j)))) := sum_congr _ _ _ (fun k _ => fm_sum _ _ _)
  rw [h1, h2, sum_swap]
  exact sum_congr _ _ _ (fun k _ => sum_congr _ _ _ (fun l _ => fm_assoc _ _ _))
theorem delta_mm (n : Nat) (a : Nat → Nat → F) (i j : Nat) (hi : i < n) : mm n delta a i j = a i j := sum_delta n i (fun k => a k j) hi
theorem mm_delta (n : Nat) (a : Nat → Nat → F) (i j : Nat) (hj : j < n) : mm n a delta i j = a i j := sum_delta_r n j (fun k => a i k) hj
theorem mm_congr (n : Nat) (a a' b b' : Nat → Nat → F) (i j : Nat) (ha : ∀ k, k < n → a i k = a' i k) (hb : ∀ k, k < n → b k j = b' k j) : mm n a b i j = mm n a' b' i j :=
  sum_congr _ _ _ (fun k hk => by rw [ha k hk, hb k hk])
end Go.Proofs.Ytaahnicjjpddjaa.Fld
end
