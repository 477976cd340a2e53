/- The reference's matrices: when one may be, noughts, the identity. Plain; no condition. -/
import Derived.Test.YtaahnicjjpddjaaKMatricesRefRow
import Derived.Test.YtaahnicjjpddjaaKMatricesGRef7
import Derived.Test.YtaahnicjjpddjaaKMatricesGRef2
namespace Go.Proofs.Ytaahnicjjpddjaa.Pr
open Go.RowKit Go.Proofs.YtaahnicjjpddjaaW.PrintWords Go.Proofs.YtaahnicjjpddjaaW.PrintLast Go.Proofs.YtaahnicjjpddjaaW.PrintMore Go.Proofs.Ytaahnicjjpddjaa.Fld Go.Proofs.Ytaahnicjjpddjaa.Mat Go.Proofs.Ytaahnicjjpddjaa.Fn Go.Proofs.Ytaahnicjjpddjaa.GRef
theorem rdR (m : List (List Int)) (i : Nat) (h : i < m.length) : rd_L2 m (i : Int) = m[i] := by
  show m.getD (i : Int).toNat [] = m[i]
  rw [Int.toNat_natCast, getD_get _ _ _ h]
theorem rd_at (xs : List Int) (i : Nat) (h : i < xs.length) : rd xs (i : Int) = xs[i] := by
  show xs.getD (i : Int).toNat 0 = xs[i]
  rw [Int.toNat_natCast, getD_get _ _ _ h]
theorem bnum (x : Int) : ossuaryref1_byteNum.f x = some (isB x) := by
  unfold ossuaryref1_byteNum.f isB
  by_cases h : x ≥ 0
  · rw [if_pos h, decide_eq_true (show 0 ≤ x from h), Bool.true_and]
    exact congrArg some (decide_eq_decide.2 uR)
  · rw [if_neg h, decide_eq_false (show ¬ 0 ≤ x from h), Bool.false_and]
theorem rmay_1 (m : List (List Int)) (c i : Nat) (hi : i < m.length) (hc : m[i].length = c) (hb : c ≤ 12) (hm : m.length ≤ 12) (e : Nat) : ∀ (k j : Nat), j + e = c → e < k →
    ossuaryref1_MatrixMay.l1 k (c : Int) (i : Int) (j : Int) m = if (m[i].drop j).all isB = true then ossuaryref1_MatrixMay.l0 (k - (e + 1)) (c : Int) (((i + 1 : Nat) : Int)) m else some false := by
  induction e with
  | zero =>
    intro k j hj hk
    obtain ⟨k, rfl⟩ : ∃ m, k = m + 1 := ⟨k - 1, uR⟩
    simp only [ossuaryref1_MatrixMay.l1]
    rw [if_neg uR, List.drop_of_length_le uR, succ_wrap i uR]
    rfl
  | succ e ih =>
    intro k j hj hk
    obtain ⟨k, rfl⟩ : ∃ m, k = m + 1 := ⟨k - 1, uR⟩
    simp only [ossuaryref1_MatrixMay.l1]
    rw [if_pos uR, if_pos uR, if_pos uR, if_pos uR, rdR m i hi, if_pos uR, rd_at _ j uR, bnum, List.drop_eq_getElem_cons (show j < m[i].length by omega), List.all_cons]
    simp only [Option.bind_some]
    cases hb2 : isB m[i][j] with
    | true =>
      rw [if_pos rfl, succ_wrap j uR, ih k (j + 1) uR uR, Bool.true_and, show k + 1 - (e + 1 + 1) = k - (e + 1) by omega]
    | false =>
      rw [if_neg uQ, Bool.false_and, if_neg uQ]
theorem rmay_0 (m : List (List Int)) (c : Nat) (hb : c ≤ 12) (hm : m.length ≤ 12) (e : Nat) : ∀ (k i : Nat), i + e = m.length → e * (c + 2) < k →
    ossuaryref1_MatrixMay.l0 k (c : Int) (i : Int) m = some ((m.drop i).all (okRow c)) := by
  induction e with
  | zero =>
    intro k i hi hk
    obtain ⟨k, rfl⟩ : ∃ m, k = m + 1 := ⟨k - 1, uR⟩
    simp only [ossuaryref1_MatrixMay.l0]
    rw [if_neg uR, List.drop_of_length_le uR]
    rfl
  | succ e ih =>
    intro k i hi hk
    obtain ⟨k, rfl⟩ : ∃ m, k = m + 1 := ⟨k - 1, uR⟩
    have hmul : (e + 1) * (c + 2) = e * (c + 2) + (c + 2) := Nat.succ_mul _ _
    simp only [ossuaryref1_MatrixMay.l0]
    rw [if_pos uR, if_pos uR, rdR m i uR, List.drop_eq_getElem_cons (show i < m.length by omega), List.all_cons]
    unfold okRow
    by_cases hc : m[i].length = c
    · have h := rmay_1 m c i uR hc hb hm c k 0 uR uR
      rw [List.drop_zero] at h
      rw [if_pos uR, show (0 : Int) = ((0 : Nat) : Int) from rfl, h, decide_eq_true hc, Bool.true_and]
      cases hr : m[i].all isB with
      | true => rw [if_pos rfl, Bool.true_and]; exact ih _ (i + 1) uR uR
      | false => rw [if_neg uQ, Bool.false_and]
    · rw [if_neg uR, decide_eq_false hc, Bool.false_and, Bool.false_and]
theorem rmay_f {k : Nat} (hk : 200 < k) (m : List (List Int)) : ossuaryref1_MatrixMay.f k m = some (mayB m) := by
  unfold ossuaryref1_MatrixMay.f mayB
  obtain ⟨k, rfl⟩ : ∃ m, k = m + 2 := ⟨k - 2, uR⟩
  by_cases h1 : m.length < 1
  · rw [if_pos uR, decide_eq_false uR, Bool.false_and]
    simp only [ossuaryref1_MatrixMay.j0, if_true]
  · rw [if_neg uR]
    by_cases h2 : 12 < m.length
    · rw [decide_eq_true uR, decide_eq_false uR, Bool.false_and]
      simp only [ossuaryref1_MatrixMay.j0, if_true]
    · rw [decide_eq_false uR]
      simp only [ossuaryref1_MatrixMay.j0, Bool.false_eq_true, if_false]
      have e0 : (rd_L2 m 0).length = cols m := by rw [show (0 : Int) = ((0 : Nat) : Int) from rfl, rdR m 0 uR, cols_get _ uR]
      rw [if_pos uR, e0]
      by_cases h3 : cols m < 1
      · rw [if_pos uR, decide_eq_false uR, Bool.false_and]
        simp only [ossuaryref1_MatrixMay.j1, if_true]
      · rw [if_neg uR]
        by_cases h4 : 12 < cols m
        · rw [decide_eq_true uR, decide_eq_false uR, Bool.false_and]
          simp only [ossuaryref1_MatrixMay.j1, if_true]
        · rw [decide_eq_false uR, decide_eq_true uR, Bool.true_and]
          simp only [ossuaryref1_MatrixMay.j1, Bool.false_eq_true, if_false]
          have hmul : m.length * (cols m + 2) ≤ 12 * 14 := Nat.mul_le_mul uR uR
          exact rmay_0 m (cols m) uR uR m.length k 0 uR uR
theorem blank_l (n c : Nat) (hn : n ≤ 12) (hc : c ≤ 12) (e : Nat) : ∀ (k i : Nat), i + e = n → e < k →
    ossuaryref1_blank.l0 k (n : Int) (c : Int) (i : Int) (fmat (fun _ _ => 0#8) i c) = some (fmat (fun _ _ => 0#8) n c) := by
  induction e with
  | zero =>
    intro k i hi hk
    obtain ⟨k, rfl⟩ : ∃ m, k = m + 1 := ⟨k - 1, uR⟩
    simp only [ossuaryref1_blank.l0]
    rw [if_neg uR, show i = n by omega]
  | succ e ih =>
    intro k i hi hk
    obtain ⟨k, rfl⟩ : ∃ m, k = m + 1 := ⟨k - 1, uR⟩
    simp only [ossuaryref1_blank.l0]
    have e1 : fmat (fun _ _ => 0#8) i c ++ [List.replicate c 0] = fmat (fun _ _ => 0#8) (i + 1) c := by
      have h := matOf_succ (fun _ _ => toI 0#8) i c
      refine Eq.trans ?_ h.symm
      refine congrArg (fun r => fmat (fun _ _ => 0#8) i c ++ [r]) ?_
      unfold rowOf
      rw [List.map_const', List.length_range]; rfl
    rw [if_pos uR, if_pos uR, if_pos uR, fmat_length, if_pos uR, Int.toNat_natCast, e1, succ_wrap i uR]
    exact ih k (i + 1) uR uR
theorem blank_f {k : Nat} (hk : 20 < k) (n c : Nat) (hn : n ≤ 12) (hc : c ≤ 12) : ossuaryref1_blank.f k (n : Int) (c : Int) = some (fmat (fun _ _ => 0#8) n c) :=
  blank_l n c hn hc n k 0 uR uR
theorem fmat_setRow (g : Nat → Nat → F) (n c i : Nat) (r : Nat → F) : (fmat g n c).set i (rowOf (fun j => toI (r j)) c) = fmat (fun a b => if a = i then r b else g a b) n c := by
  apply List.ext_getElem
  · rw [List.length_set, fmat_length, fmat_length]
  · intro j h1 h2
    rw [List.getElem_set, fmat_get (fun a b => if a = i then r b else g a b)]
    by_cases e : i = j
    · rw [if_pos e]
      exact rowOf_congr (fun t _ => by simp only [if_pos e.symm])
    · rw [if_neg e, fmat_get]
      exact rowOf_congr (fun t _ => by simp only [if_neg (fun h : j = i => e h.symm)])
theorem rid_l (n : Nat) (hn : n ≤ 12) (e : Nat) : ∀ (k i : Nat), i + e = n → e < k →
    ossuaryref1_Identity.l0 k (n : Int) (i : Int) (fmat (fun a b => if a < i then delta a b else 0#8) n n) = some (idM n, 0) := by
  induction e with
  | zero =>
    intro k i hi hk
    obtain ⟨k, rfl⟩ : ∃ m, k = m + 1 := ⟨k - 1, uR⟩
    simp only [ossuaryref1_Identity.l0]
    rw [if_neg uR]
    unfold idM
    rw [fmat_congr _ delta n n (fun a b ha _ => by simp only [if_pos (show a < i by omega)])]
  | succ e ih =>
    intro k i hi hk
    obtain ⟨k, rfl⟩ : ∃ m, k = m + 1 := ⟨k - 1, uR⟩
    simp only [ossuaryref1_Identity.l0]
    rw [if_pos uR, if_pos uR, fmat_length, if_pos uR, rdR _ i uN, fmat_get, rowOf_length, if_pos uR, Int.toNat_natCast, rowOf_set]
    have e1 : rowOf (fun j => if j = i then (1 : Int) else toI (if i < i then delta i j else 0#8)) n = rowOf (fun j => toI (delta i j)) n := rowOf_congr (fun j _ => by
      unfold delta
      by_cases h : j = i
      · rw [if_pos h, if_pos h.symm]; rfl
      · rw [if_neg h, if_neg (Nat.lt_irrefl i), if_neg (fun h' : i = j => h h'.symm)])
    rw [e1, fmat_setRow, succ_wrap i uR, fmat_congr _ (fun a b => if a < i + 1 then delta a b else 0#8) n n (fun a b ha _ => by
      by_cases h : a = i
      · simp only [if_pos h, if_pos (show a < i + 1 by omega)]; rw [h]
      · by_cases h2 : a < i
        · simp only [if_neg h, if_pos h2, if_pos (show a < i + 1 by omega)]
        · simp only [if_neg h, if_neg h2, if_neg (show ¬ a < i + 1 by omega)])]
    exact ih k (i + 1) uR uR
theorem rid_f {k : Nat} (hk : 40 < k) (n : Nat) (h1 : 1 ≤ n) (h2 : n ≤ 12) : ossuaryref1_Identity.f k (n : Int) = some (idM n, 0) := by
  unfold ossuaryref1_Identity.f
  obtain ⟨k, rfl⟩ : ∃ m, k = m + 1 := ⟨k - 1, uR⟩
  rw [if_neg uR, decide_eq_false uR]
  simp only [ossuaryref1_Identity.j0, Bool.false_eq_true, if_false]
  rw [blank_f uR n n h2 h2, Option.bind_some]
  have h := rid_l n h2 n k 0 uR uR
  simp only [Nat.not_lt_zero, if_false] at h
  exact h
end Go.Proofs.Ytaahnicjjpddjaa.Pr
