/- Powers of distinct numbers: matrices that have inverses; the code's matrix. Plain algebra; no condition. Functions of the program as Lean functions, each with a proof that its call comes to what the function says. No condition. The program's making of the code's matrix comes to it, at every shape. Plain algebra; no condition. Shapes and rows by a number: what remainders come to; rows that are picked. Plain; no condition. -/
import Derived.Test.YtaahnicjjpddjaaKMatricesGRef0
section
namespace Go.Proofs.Ytaahnicjjpddjaa.Fld
open Go.Proofs.Ytaahnicjjpddjaa.Pr
theorem sum_front (n : Nat) (f : Nat → F) : sumF (n + 1) f = f 0 ^^^ sumF n (fun k => f (k + 1)) := by
  induction n with
  | zero => simp [sumF]
  | succ n ih => rw [sumF, ih, sumF, BitVec.xor_assoc]
/-- of what is added twice nothing is left. -/
theorem sum_tele (n : Nat) (g : Nat → F) : sumF n (fun k => g k ^^^ g (k + 1)) = g 0 ^^^ g n := by
  induction n with
  | zero => simp [sumF]
  | succ n ih => rw [sumF, ih, BitVec.xor_assoc, ← BitVec.xor_assoc (g n), BitVec.xor_self, BitVec.zero_xor]
/-- from the top: c n, c n a + c (n - 1), .. -/
def hor (n : Nat) (c : Nat → F) (a : F) : Nat → F
  | 0 => 0#8
  | m + 1 => c (n - m) ^^^ fm a (hor n c a m)
theorem xor_eq_zero {a b : F} (h : a ^^^ b = 0#8) : a = b := by
  have h2 : (a ^^^ b) ^^^ b = 0#8 ^^^ b := by rw [h]
  rw [BitVec.xor_assoc, BitVec.xor_self, BitVec.xor_zero, BitVec.zero_xor] at h2
  exact h2
theorem hor_at (n : Nat) (c : Nat → F) (a : F) (k : Nat) (hk : k ≤ n) : c k = hor n c a (n + 1 - k) ^^^ fm a (hor n c a (n - k)) := by
  rw [show n + 1 - k = (n - k) + 1 by omega, hor, show n - (n - k) = k by omega, BitVec.xor_assoc, BitVec.xor_self, BitVec.xor_zero]
theorem hor_all (n : Nat) (c : Nat → F) (a : F) : sumF (n + 1) (fun k => fm (fp a k) (c k)) = hor n c a (n + 1) := by
  have h : sumF (n + 1) (fun k => fm (fp a k) (c k)) = sumF (n + 1) (fun k => fm (fp a k) (hor n c a (n + 1 - k)) ^^^ fm (fp a (k + 1)) (hor n c a (n + 1 - (k + 1)))) :=
    sum_congr _ _ _ (fun k hk => by
      show fm (fp a k) (c k) = _
      rw [hor_at n c a k uR, fm_xor, show fp a (k + 1) = fm (fp a k) a from rfl, fm_assoc, show n + 1 - (k + 1) = n - k by omega])
  rw [h, sum_tele (n + 1) (fun k => fm (fp a k) (hor n c a (n + 1 - k)))]
  simp only [Nat.sub_self, Nat.sub_zero, hor, fm_zero, BitVec.xor_zero]
  rw [show fp a 0 = 1#8 from rfl, one_fm]
theorem hor_split (n : Nat) (c : Nat → F) (a x : F) (h0 : hor n c a (n + 1) = 0#8) : sumF (n + 1) (fun k => fm (fp x k) (c k)) = fm (x ^^^ a) (sumF n (fun k => fm (fp x k) (hor n c a (n - k)))) := by
  have h : sumF (n + 1) (fun k => fm (fp x k) (c k)) = sumF (n + 1) (fun k => fm (fp x k) (hor n c a (n + 1 - k)) ^^^ fm a (fm (fp x k) (hor n c a (n - k)))) :=
    sum_congr _ _ _ (fun k hk => by
      show fm (fp x k) (c k) = _
      rw [hor_at n c a k uR, fm_xor, ← fm_assoc, fm_comm (fp x k) a, fm_assoc])
  rw [h, sum_xor, sum_front n (fun k => fm (fp x k) (hor n c a (n + 1 - k)))]
  simp only [Nat.sub_zero]
  rw [h0, fm_zero, BitVec.zero_xor]
  have e1 : sumF n (fun k => fm (fp x (k + 1)) (hor n c a (n + 1 - (k + 1)))) = fm x (sumF n (fun k => fm (fp x k) (hor n c a (n - k)))) := by
    rw [fm_sum]
    exact sum_congr _ _ _ (fun k _ => by
      show fm (fm (fp x k) x) (hor n c a (n + 1 - (k + 1))) = _
      rw [fm_comm (fp x k) x, fm_assoc, show n + 1 - (k + 1) = n - k by omega])
  have e2 : sumF (n + 1) (fun k => fm a (fm (fp x k) (hor n c a (n - k)))) = fm a (sumF n (fun k => fm (fp x k) (hor n c a (n - k)))) := by
    rw [← fm_sum, sumF]
    simp only [Nat.sub_self, hor, fm_zero, BitVec.xor_zero]
  rw [e1, e2, ← xor_fm]
/-- a sum of powers that is nought at as many numbers is nought. -/
theorem roots (n : Nat) : ∀ (c x : Nat → F), (∀ i j, i < n → j < n → x i = x j → i = j) → (∀ i, i < n → sumF n (fun k => fm (fp (x i) k) (c k)) = 0#8) → ∀ k, k < n → c k = 0#8 := by
  induction n with
  | zero => intro c x _ _ k hk; omega
  | succ n ih =>
    intro c x hx hs k hk
    have h0 : hor n c (x n) (n + 1) = 0#8 := by rw [← hor_all]; exact hs n uR
    have hq : ∀ k, k < n → hor n c (x n) (n - k) = 0#8 := ih (fun k => hor n c (x n) (n - k)) x (fun i j hi hj => hx i j uR uR) (fun i hi => by
      have h := hs i uR
      rw [hor_split n c (x n) (x i) h0] at h
      rcases (fm_eq_zero _ _).1 h with h1 | h1
      · have := hx i n uR uR (xor_eq_zero h1)
        omega
      · exact h1)
    have hq' : ∀ m, m ≤ n → hor n c (x n) m = 0#8 := fun m hm => by
      rcases Nat.eq_zero_or_pos m with rfl | hp
      · rfl
      · have := hq (n - m) uR
        rw [show n - (n - m) = m by omega] at this
        exact this
    rw [hor_at n c (x n) k uR, hq' (n - k) uR, fm_zero, BitVec.xor_zero]
    rcases Nat.eq_zero_or_pos k with rfl | hp
    · exact h0
    · exact hq' _ uR
/-- powers, a row for each number. -/
def van (x : Nat → F) : Nat → Nat → F := fun i k => fp (x i) k
def num (i : Nat) : F := BitVec.ofNat 8 i
open Classical in
/-- what turns the powers of the first numbers back. -/
noncomputable def back (d : Nat) : Nat → Nat → F := if h : ∃ y, eqM d (mm d y (van num)) delta then Classical.choose h else delta
end Go.Proofs.Ytaahnicjjpddjaa.Fld
end
section
namespace Go.Proofs.Ytaahnicjjpddjaa.GGen
open Go.Proofs.Ytaahnicjjpddjaa.Fn
open Go.Proofs.Ytaahnicjjpddjaa
open Go.RowKit Go.Proofs.YtaahnicjjpddjaaW.PrintWords Go.Proofs.YtaahnicjjpddjaaW.PrintLast
set_option linter.unusedVariables false
set_option linter.unusedSimpArgs false
noncomputable def errW : Option Int → Value
 | none => .nilIface
 | some c => .iface 0 (.int .i64 c)
theorem errW_none : errW none = .nilIface := rfl
theorem errW_some (c : Int) : errW (some c) = .iface 0 (.int .i64 c) := rfl
theorem info3 : (Try.prog.info? 3).map (fun i => (i.zero, i.size, i.bytes)) = some (some (.int .i64 0), 1, 8) := by kernel_rfl
theorem info25 : (Try.prog.info? 25).map (fun i => (i.zero, i.size, i.bytes)) = some (some (.slice none 0 0), 1, 24) := by kernel_rfl
noncomputable def rd_L2 (xs : List (List Int)) (i : Int) : (List Int) := xs.getD i.toNat ([] : List Int)
theorem at_L2 {w : World} {A : Option Addr} {n : Nat} {xs : List (List Int)} (h : Kd.C (Kd.slice 3 (Kd.int .i64)) w A n xs) (i : Int) (h0 : 0 ≤ i) (h1 : i < n) : ∃ ad A0 c0, A = some ad ∧ w.cell? (ad.add i.toNat) = some (.slice A0 (rd_L2 xs i).length c0) ∧ (rd_L2 xs i).length ≤ c0 ∧ (Kd.int .i64).C w A0 (rd_L2 xs i).length (rd_L2 xs i) := by
 obtain ⟨ad, c, e, _, hK, hc0⟩ := Kd.C_get h ([] : List Int) i h0 h1
 have hc : ∀ j u, c[j]? = some u → w.cell? (ad.add (i.toNat * 1 + j)) = some u := hc0
 obtain ⟨A0, c0, rfl, l0, g0⟩ := hK
 exact ⟨ad, A0, c0, e, uG, l0, g0⟩
end Go.Proofs.Ytaahnicjjpddjaa.GGen
end
section
namespace Go.Proofs.Ytaahnicjjpddjaa.GGen
end Go.Proofs.Ytaahnicjjpddjaa.GGen
end
section
namespace Go.Proofs.Ytaahnicjjpddjaa.Pr
end Go.Proofs.Ytaahnicjjpddjaa.Pr
end
section
namespace Go.Proofs.Ytaahnicjjpddjaa.Pr
open Go.RowKit Go.Proofs.YtaahnicjjpddjaaW.PrintWords Go.Proofs.YtaahnicjjpddjaaW.PrintLast Go.Proofs.YtaahnicjjpddjaaW.PrintMore Go.Proofs.Ytaahnicjjpddjaa.Fld Go.Proofs.Ytaahnicjjpddjaa.Mat Go.Proofs.Ytaahnicjjpddjaa.Fn
theorem rowsIn_get {n : Nat} {rows : List Int} (h : rowsIn n rows = true) {i : Nat} (hi : i < rows.length) : 0 ≤ rows[i] ∧ rows[i].toNat < n := by
  have h1 := List.all_eq_true.1 h _ (List.getElem_mem hi)
  rw [Bool.and_eq_true] at h1
  have h2 := of_decide_eq_true h1.1
  have h3 := of_decide_eq_true h1.2
  exact ⟨h2, uR⟩
theorem pick_fmat (g : Nat → Nat → F) (n m : Nat) (rows : List Int) (h : rowsIn n rows = true) : rows.map (fun r => (fmat g n m).getD r.toNat []) = fmat (fun i j => g (rows.getD i 0).toNat j) rows.length m := by
  apply List.ext_getElem
  · rw [List.length_map, fmat_length]
  · intro i h1 h2
    rw [List.length_map] at h1
    have h3 := (rowsIn_get h h1).2
    rw [List.getElem_map, getD_get _ _ _ (by rw [fmat_length]; exact h3), fmat_get, fmat_get, getD_get rows 0 i h1]
def upto (n : Nat) : List Int := (List.range n).map fun (i : Nat) => (i : Int)
end Go.Proofs.Ytaahnicjjpddjaa.Pr
end
