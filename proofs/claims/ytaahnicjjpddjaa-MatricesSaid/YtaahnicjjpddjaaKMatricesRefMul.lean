/- The reference's product of matrices: what it comes to. Plain; no condition. -/
import Derived.Test.YtaahnicjjpddjaaKMatricesRefMat
import Derived.Test.YtaahnicjjpddjaaKMatricesGRef4
namespace Go.Proofs.Ytaahnicjjpddjaa.Pr
open Go.RowKit Go.Proofs.YtaahnicjjpddjaaW.PrintWords Go.Proofs.YtaahnicjjpddjaaW.PrintLast Go.Proofs.YtaahnicjjpddjaaW.PrintMore Go.Proofs.Ytaahnicjjpddjaa.Fld Go.Proofs.Ytaahnicjjpddjaa.Mat Go.Proofs.Ytaahnicjjpddjaa.Fn Go.Proofs.Ytaahnicjjpddjaa.GRef
/-- one number written. -/
theorem fmat_setAt (g : Nat → Nat → F) (n c i j : Nat) (v : F) : (fmat g n c).set i ((rowOf (fun t => toI (g i t)) c).set j (toI v)) = fmat (fun a b => if a = i then (if b = j then v else g a b) else g a b) n c := by
  have e : (rowOf (fun t => toI (g i t)) c).set j (toI v) = rowOf (fun t => toI (if t = j then v else g i t)) c := by
    rw [rowOf_set]
    exact rowOf_congr (fun t _ => by by_cases h : t = j <;> simp [h])
  rw [e, fmat_setRow]
  exact fmat_congr _ _ _ _ (fun a b _ _ => by by_cases h : a = i <;> simp [h])
/-- what stands while a product is made: rows ahead of i, of row i the numbers ahead of j, and x at j. -/
def St (q : Nat → Nat → F) (i j : Nat) (x : F) : Nat → Nat → F := fun a b => if a < i then q a b else if a = i then (if b < j then q a b else if b = j then x else 0#8) else 0#8
theorem St_at (q : Nat → Nat → F) (i j : Nat) (x : F) : St q i j x i j = x := by unfold St; rw [if_neg (Nat.lt_irrefl i), if_pos rfl, if_neg (Nat.lt_irrefl j), if_pos rfl]
theorem St_set (q : Nat → Nat → F) (n c i j : Nat) (x v : F) : fmat (fun a b => if a = i then (if b = j then v else St q i j x a b) else St q i j x a b) n c = fmat (St q i j v) n c :=
  fmat_congr _ _ _ _ (fun a b _ _ => by
    unfold St
    by_cases h : a = i
    · subst h
      by_cases h2 : b = j
      · subst h2; simp
      · simp [h2]
    · simp [h])
theorem St_next (q : Nat → Nat → F) (n c i j : Nat) : fmat (St q i j (q i j)) n c = fmat (St q i (j + 1) 0#8) n c :=
  fmat_congr _ _ _ _ (fun a b _ _ => by
    unfold St
    by_cases h : a < i
    · rw [if_pos h, if_pos h]
    · rw [if_neg h, if_neg h]
      by_cases h2 : a = i
      · subst h2
        rw [if_pos rfl, if_pos rfl]
        by_cases h3 : b < j
        · rw [if_pos h3, if_pos (show b < j + 1 by omega)]
        · rw [if_neg h3]
          by_cases h4 : b = j
          · subst h4
            rw [if_pos rfl, if_pos (show b < b + 1 by omega)]
          · rw [if_neg h4, if_neg (show ¬ b < j + 1 by omega)]
            by_cases h5 : b = j + 1 <;> simp [h5]
      · rw [if_neg h2, if_neg h2])
theorem St_row (q : Nat → Nat → F) (n c i : Nat) : fmat (St q i c 0#8) n c = fmat (St q (i + 1) 0 0#8) n c :=
  fmat_congr _ _ _ _ (fun a b _ hb => by
    unfold St
    by_cases h : a < i
    · rw [if_pos h, if_pos (show a < i + 1 by omega)]
    · rw [if_neg h]
      by_cases h2 : a = i
      · subst h2
        rw [if_pos rfl, if_pos hb, if_pos (show a < a + 1 by omega)]
      · rw [if_neg h2, if_neg (show ¬ a < i + 1 by omega)]
        by_cases h3 : a = i + 1
        · rw [if_pos h3, if_neg (Nat.not_lt_zero _)]
          by_cases h4 : b = 0 <;> simp [h4]
        · rw [if_neg h3])
theorem St_zero (q : Nat → Nat → F) (n c : Nat) : fmat (fun _ _ => 0#8) n c = fmat (St q 0 0 0#8) n c :=
  fmat_congr _ _ _ _ (fun a b _ _ => by
    unfold St
    rw [if_neg (Nat.not_lt_zero _)]
    by_cases h : a = 0
    · rw [if_pos h, if_neg (Nat.not_lt_zero _)]
      by_cases h4 : b = 0 <;> simp [h4]
    · rw [if_neg h])
theorem St_all (q : Nat → Nat → F) (n c : Nat) : fmat (St q n 0 0#8) n c = fmat q n c :=
  fmat_congr _ _ _ _ (fun a b ha _ => by unfold St; rw [if_pos ha])
theorem rm_2 (g h : Nat → Nat → F) (n d m i j : Nat) (hi : i < n) (hj : j < m) (h2 : d ≤ 12) (h3 : m ≤ 12) (R : List (List Int) × Int) (K : Nat)
    (H : ∀ k, K < k → ossuaryref1_MulMatrix.l1 k (i : Int) ((j + 1 : Nat) : Int) (fmat g n d) (fmat h d m) (fmat (St (mm d g h) i (j + 1) 0#8) n m) = some R) (e : Nat) :
    ∀ k t, t + e = d → K + e + 20 < k → ossuaryref1_MulMatrix.l2 k (i : Int) (j : Int) (t : Int) (fmat g n d) (fmat h d m) (fmat (St (mm d g h) i j (sumF t (fun s => fm (g i s) (h s j)))) n m) = some R := by
  induction e with
  | zero =>
    intro k t ht hk
    obtain ⟨k, rfl⟩ : ∃ m, k = m + 1 := ⟨k - 1, uR⟩
    obtain rfl : t = d := by omega
    simp only [ossuaryref1_MulMatrix.l2]
    rw [fmat_length, if_neg uR, succ_wrap j uR]
    have e1 : fmat (St (mm t g h) i j (sumF t (fun s => fm (g i s) (h s j)))) n m = fmat (St (mm t g h) i (j + 1) 0#8) n m := St_next (mm t g h) n m i j
    rw [e1]
    exact H k uR
  | succ e ih =>
    intro k t ht hk
    obtain ⟨k, rfl⟩ : ∃ m, k = m + 1 := ⟨k - 1, uR⟩
    have ih' := ih k (t + 1) uR uR
    obtain ⟨x, hx⟩ : ∃ x, x = sumF t (fun s => fm (g i s) (h s j)) := ⟨_, rfl⟩
    have hx2 : sumF (t + 1) (fun s => fm (g i s) (h s j)) = x ^^^ fm (g i t) (h t j) := by rw [hx]; rfl
    rw [hx2] at ih'
    rw [← hx]
    have eM : rd_L2 (fmat (St (mm d g h) i j x) n m) (i : Int) = rowOf (fun b => toI (St (mm d g h) i j x i b)) m := by rw [rdR _ i uN, fmat_get]
    have eA : rd_L2 (fmat g n d) (i : Int) = rowOf (fun b => toI (g i b)) d := by rw [rdR _ i uN, fmat_get]
    have eB : rd_L2 (fmat h d m) (t : Int) = rowOf (fun b => toI (h t b)) m := by rw [rdR _ t uN, fmat_get]
    simp only [ossuaryref1_MulMatrix.l2]
    rw [eM, eA, eB, fmat_length, fmat_length, fmat_length, rowOf_length, rowOf_length, rowOf_length, if_pos uR, if_pos uR, if_pos uR, if_pos uR, if_pos uR, if_pos uR, if_pos uR, if_pos uR, if_pos uR]
    rw [rd_at (rowOf (fun b => toI (g i b)) d) t uM, rd_at (rowOf (fun b => toI (h t b)) m) j uM, rd_at (rowOf (fun b => toI (St (mm d g h) i j x i b)) m) j uM, rowOf_get, rowOf_get, rowOf_get, RefGf.rmul_f uR]
    simp only [Option.bind_some]
    rw [St_at, xor_i64, Int.toNat_natCast, Int.toNat_natCast, fmat_setAt, St_set, succ_wrap t uR]
    exact ih'
theorem rm_1 (g h : Nat → Nat → F) (n d m i : Nat) (hi : i < n) (h1 : n ≤ 12) (h2 : d ≤ 12) (h3 : m ≤ 12) (R : List (List Int) × Int) (K : Nat)
    (H : ∀ k, K < k → ossuaryref1_MulMatrix.l0 k ((i + 1 : Nat) : Int) (fmat g n d) (fmat h d m) (fmat (St (mm d g h) (i + 1) 0 0#8) n m) = some R) (e : Nat) :
    ∀ k j, j + e = m → K + e * 40 + 10 < k → ossuaryref1_MulMatrix.l1 k (i : Int) (j : Int) (fmat g n d) (fmat h d m) (fmat (St (mm d g h) i j 0#8) n m) = some R := by
  induction e with
  | zero =>
    intro k j hj hk
    obtain ⟨k, rfl⟩ : ∃ m, k = m + 1 := ⟨k - 1, uR⟩
    obtain rfl : j = m := by omega
    simp only [ossuaryref1_MulMatrix.l1]
    rw [rdR _ i uN, fmat_get, rowOf_length, fmat_length, if_pos uR, if_pos uR, if_neg uR, succ_wrap i uR, St_row]
    exact H k uR
  | succ e ih =>
    intro k j hj hk
    obtain ⟨k, rfl⟩ : ∃ m, k = m + 1 := ⟨k - 1, uR⟩
    simp only [ossuaryref1_MulMatrix.l1]
    rw [rdR _ i uN, fmat_get, rowOf_length, fmat_length, if_pos uR, if_pos uR, if_pos uR]
    exact rm_2 g h n d m i j hi uR h2 h3 R (K + e * 40 + 10) (fun k hk' => ih k (j + 1) uR hk') d k 0 uR uR
theorem rm_0 (g h : Nat → Nat → F) (n d m : Nat) (h1 : n ≤ 12) (h2 : d ≤ 12) (h3 : m ≤ 12) (e : Nat) :
    ∀ k i, i + e = n → e * 600 + 10 < k → ossuaryref1_MulMatrix.l0 k (i : Int) (fmat g n d) (fmat h d m) (fmat (St (mm d g h) i 0 0#8) n m) = some (fmat (mm d g h) n m, 0) := by
  induction e with
  | zero =>
    intro k i hi hk
    obtain ⟨k, rfl⟩ : ∃ m, k = m + 1 := ⟨k - 1, uR⟩
    obtain rfl : i = n := by omega
    simp only [ossuaryref1_MulMatrix.l0]
    rw [fmat_length, if_neg uR, St_all]
  | succ e ih =>
    intro k i hi hk
    obtain ⟨k, rfl⟩ : ∃ m, k = m + 1 := ⟨k - 1, uR⟩
    simp only [ossuaryref1_MulMatrix.l0]
    rw [fmat_length, if_pos uR]
    exact rm_1 g h n d m i uR h1 h2 h3 _ (e * 600 + 10) (fun k hk' => ih k (i + 1) uR hk') m k 0 uR uR
theorem rmulM_f {k : Nat} (hk : 7500 < k) (g h : Nat → Nat → F) (n d m : Nat) (h1 : 1 ≤ n) (h2 : n ≤ 12) (h3 : 1 ≤ d) (h4 : d ≤ 12) (h5 : 1 ≤ m) (h6 : m ≤ 12) :
    ossuaryref1_MulMatrix.f k (fmat g n d) (fmat h d m) = some (fmat (mm d g h) n m, 0) := by
  unfold ossuaryref1_MulMatrix.f
  rw [rmay_f uR, rmay_f uR, fmat_may g n d h1 h2 h3 h4, fmat_may h d m h3 h4 h5 h6]
  simp only [Option.bind_some, if_true]
  have e0 : rd_L2 (fmat g n d) 0 = rowOf (fun b => toI (g 0 b)) d := by rw [show (0 : Int) = ((0 : Nat) : Int) from rfl, rdR _ 0 uN, fmat_get]
  have e1 : rd_L2 (fmat h d m) 0 = rowOf (fun b => toI (h 0 b)) m := by rw [show (0 : Int) = ((0 : Nat) : Int) from rfl, rdR _ 0 uN, fmat_get]
  obtain ⟨k, rfl⟩ : ∃ m, k = m + 1 := ⟨k - 1, uR⟩
  rw [fmat_length, fmat_length, if_pos uR, e0, rowOf_length, bne_self_eq_false]
  simp only [ossuaryref1_MulMatrix.j0, Bool.false_eq_true, if_false]
  rw [fmat_length, fmat_length, if_pos uR, e1, rowOf_length, blank_f uR n m h2 h6]
  simp only [Option.bind_some]
  rw [St_zero (mm d g h)]
  exact rm_0 g h n d m h2 h4 h6 n k 0 uR uR
end Go.Proofs.Ytaahnicjjpddjaa.Pr
