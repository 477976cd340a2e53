/- Powers of distinct numbers: matrices that have inverses; the code's matrix. Plain algebra; no condition. -/
import Derived.Test.YtaahnicjjpddjaaKMatrixFormsInvTwo
namespace Go.Proofs.Ytaahnicjjpddjaa.Fld
open Go.Proofs.Ytaahnicjjpddjaa.Pr
theorem sum_front (n : Nat) (f : Nat → F) : sumF (n + 1) f = f 0 ^^^ sumF n (fun k => f (k + 1)) := by
  induction n with
  | zero => simp [sumF]
  | succ n ih => rw [sumF, ih, sumF, BitVec.xor_assoc]
/-- of what is added twice nothing is left. -/
theorem sum_tele (n : Nat) (g : Nat → F) : sumF n (fun k => g k ^^^ g (k + 1)) = g 0 ^^^ g n := by
  induction n with
  | zero => simp [sumF]
  | succ n ih => rw [sumF, ih, BitVec.xor_assoc, ← BitVec.xor_assoc (g n), BitVec.xor_self, BitVec.zero_xor]
/-- from the top: c n, c n a + c (n - 1), .. -/
def hor (n : Nat) (c : Nat → F) (a : F) : Nat → F
  | 0 => 0#8
  | m + 1 => c (n - m) ^^^ fm a (hor n c a m)
theorem xor_eq_zero {a b : F} (h : a ^^^ b = 0#8) : a = b := by
  have h2 : (a ^^^ b) ^^^ b = 0#8 ^^^ b := by rw [h]
  rw [BitVec.xor_assoc, BitVec.xor_self, BitVec.xor_zero, BitVec.zero_xor] at h2
  exact h2
theorem hor_at (n : Nat) (c : Nat → F) (a : F) (k : Nat) (hk : k ≤ n) : c k = hor n c a (n + 1 - k) ^^^ fm a (hor n c a (n - k)) := by
  rw [show n + 1 - k = (n - k) + 1 by omega, hor, show n - (n - k) = k by omega, BitVec.xor_assoc, BitVec.xor_self, BitVec.xor_zero]
theorem hor_all (n : Nat) (c : Nat → F) (a : F) : sumF (n + 1) (fun k => fm (fp a k) (c k)) = hor n c a (n + 1) := by
  have h : sumF (n + 1) (fun k => fm (fp a k) (c k)) = sumF (n + 1) (fun k => fm (fp a k) (hor n c a (n + 1 - k)) ^^^ fm (fp a (k + 1)) (hor n c a (n + 1 - (k + 1)))) :=
    sum_congr _ _ _ (fun k hk => by
      show fm (fp a k) (c k) = _
      rw [hor_at n c a k uP, fm_xor, show fp a (k + 1) = fm (fp a k) a from rfl, fm_assoc, show n + 1 - (k + 1) = n - k by omega])
  rw [h, sum_tele (n + 1) (fun k => fm (fp a k) (hor n c a (n + 1 - k)))]
  simp only [Nat.sub_self, Nat.sub_zero, hor, fm_zero, BitVec.xor_zero]
  rw [show fp a 0 = 1#8 from rfl, one_fm]
theorem hor_split (n : Nat) (c : Nat → F) (a x : F) (h0 : hor n c a (n + 1) = 0#8) : sumF (n + 1) (fun k => fm (fp x k) (c k)) = fm (x ^^^ a) (sumF n (fun k => fm (fp x k) (hor n c a (n - k)))) := by
  have h : sumF (n + 1) (fun k => fm (fp x k) (c k)) = sumF (n + 1) (fun k => fm (fp x k) (hor n c a (n + 1 - k)) ^^^ fm a (fm (fp x k) (hor n c a (n - k)))) :=
    sum_congr _ _ _ (fun k hk => by
      show fm (fp x k) (c k) = _
      rw [hor_at n c a k uP, fm_xor, ← fm_assoc, fm_comm (fp x k) a, fm_assoc])
  rw [h, sum_xor, sum_front n (fun k => fm (fp x k) (hor n c a (n + 1 - k)))]
  simp only [Nat.sub_zero]
  rw [h0, fm_zero, BitVec.zero_xor]
  have e1 : sumF n (fun k => fm (fp x (k + 1)) (hor n c a (n + 1 - (k + 1)))) = fm x (sumF n (fun k => fm (fp x k) (hor n c a (n - k)))) := by
    rw [fm_sum]
    exact sum_congr _ _ _ (fun k _ => by
      show fm (fm (fp x k) x) (hor n c a (n + 1 - (k + 1))) = _
      rw [fm_comm (fp x k) x, fm_assoc, show n + 1 - (k + 1) = n - k by omega])
  have e2 : sumF (n + 1) (fun k => fm a (fm (fp x k) (hor n c a (n - k)))) = fm a (sumF n (fun k => fm (fp x k) (hor n c a (n - k)))) := by
    rw [← fm_sum, sumF]
    simp only [Nat.sub_self, hor, fm_zero, BitVec.xor_zero]
  rw [e1, e2, ← xor_fm]
/-- a sum of powers that is nought at as many numbers is nought. -/
theorem roots (n : Nat) : ∀ (c x : Nat → F), (∀ i j, i < n → j < n → x i = x j → i = j) → (∀ i, i < n → sumF n (fun k => fm (fp (x i) k) (c k)) = 0#8) → ∀ k, k < n → c k = 0#8 := by
  induction n with
  | zero => intro c x _ _ k hk; omega
  | succ n ih =>
    intro c x hx hs k hk
    have h0 : hor n c (x n) (n + 1) = 0#8 := by rw [← hor_all]; exact hs n uP
    have hq : ∀ k, k < n → hor n c (x n) (n - k) = 0#8 := ih (fun k => hor n c (x n) (n - k)) x (fun i j hi hj => hx i j uP uP) (fun i hi => by
      have h := hs i uP
      rw [hor_split n c (x n) (x i) h0] at h
      rcases (fm_eq_zero _ _).1 h with h1 | h1
      · have := hx i n uP uP (xor_eq_zero h1)
        omega
      · exact h1)
    have hq' : ∀ m, m ≤ n → hor n c (x n) m = 0#8 := fun m hm => by
      rcases Nat.eq_zero_or_pos m with rfl | hp
      · rfl
      · have := hq (n - m) uP
        rw [show n - (n - m) = m by omega] at this
        exact this
    rw [hor_at n c (x n) k uP, hq' (n - k) uP, fm_zero, BitVec.xor_zero]
    rcases Nat.eq_zero_or_pos k with rfl | hp
    · exact h0
    · exact hq' _ uP
/-- powers, a row for each number. -/
def van (x : Nat → F) : Nat → Nat → F := fun i k => fp (x i) k
def num (i : Nat) : F := BitVec.ofNat 8 i
open Classical in
/-- what turns the powers of the first numbers back. -/
noncomputable def back (d : Nat) : Nat → Nat → F := if h : ∃ y, eqM d (mm d y (van num)) delta then Classical.choose h else delta
end Go.Proofs.Ytaahnicjjpddjaa.Fld
