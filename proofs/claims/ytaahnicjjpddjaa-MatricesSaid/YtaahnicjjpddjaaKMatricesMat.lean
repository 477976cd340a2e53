/- What the program's calls over matrices come to: which may be, the identity, products, rows picked, whether two are the same; with enough rounds, for all matrices. -/
import Derived.Test.YtaahnicjjpddjaaKMatricesLin
namespace Go.Proofs.Ytaahnicjjpddjaa.Mat
open Go.RowKit Go.Proofs.YtaahnicjjpddjaaW.PrintWords Go.Proofs.YtaahnicjjpddjaaW.PrintLast Go.Proofs.YtaahnicjjpddjaaW.PrintMore Go.Proofs.Ytaahnicjjpddjaa.Fn Go.Proofs.Ytaahnicjjpddjaa.MadeW Go.Proofs.Ytaahnicjjpddjaa.Fld
theorem succ_of {n k : Nat} (h : n < k) : ∃ m, k = m + 1 := ⟨k - 1, uR⟩
theorem succ_wrap (i : Nat) (h : i < 9223372036854775807) : wrap64 ((i : Int) + 1) = ((i + 1 : Nat) : Int) := wrap64_in uR uR
def cols (m : List (List Int)) : Nat := (m.getD 0 []).length
def mayB (m : List (List Int)) : Bool := decide (1 ≤ m.length ∧ m.length ≤ 12 ∧ 1 ≤ cols m ∧ cols m ≤ 12) && okMat m (cols m)
theorem getD_get {α : Type} (m : List α) (d : α) (i : Nat) (h : i < m.length) : m.getD i d = m[i] := by
  rw [List.getD_eq_getElem?_getD, List.getElem?_eq_getElem h]; rfl
theorem rdL (m : List (List Int)) (i : Nat) (h : i < m.length) : GBase.rd_L1 m (i : Int) = m[i] := by
  unfold GBase.rd_L1; rw [Int.toNat_natCast, getD_get m [] i h]
theorem rdL_mul (m : List (List Int)) (i : Nat) (h : i < m.length) : GMul.rd_L1 m (i : Int) = m[i] := by
  unfold GMul.rd_L1; rw [Int.toNat_natCast, getD_get m [] i h]
theorem cols_get (m : List (List Int)) (h : 0 < m.length) : cols m = m[0].length := by unfold cols; rw [getD_get m [] 0 h]
theorem size_f (n : Nat) : GBase.matrix_size.f (n : Int) = some (decide (1 ≤ n ∧ n ≤ 12)) := by
  unfold GBase.matrix_size.f
  by_cases h : n ≥ 1
  · rw [if_pos uR]
    by_cases h2 : n ≤ 12
    · rw [decide_eq_true uR, decide_eq_true ⟨h, h2⟩]
    · rw [decide_eq_false uR, decide_eq_false (fun hh => h2 hh.2)]
  · rw [if_neg uR, decide_eq_false (fun hh => h hh.1)]
theorem anyBad_not (r : List Int) : anyBad r = !(r.all isB) := by
  unfold anyBad
  induction r with
  | nil => rfl
  | cons x xs ih => rw [List.any_cons, List.all_cons, ih]; unfold badB; cases isB x <;> simp
theorem may_l (m : List (List Int)) (hm : m.length ≤ 12) (h0 : 0 < m.length) (d : Nat) : ∀ (k i : Nat), i + d = m.length → d < k → GBase.matrix_May.l0 k m (m.length : Int) (i : Int) m = some ((m.drop i).all (okRow (cols m))) := by
  induction d with
  | zero =>
    intro k i hi hk
    obtain ⟨k, rfl⟩ := succ_of hk
    simp only [GBase.matrix_May.l0]
    rw [if_neg uR, List.drop_of_length_le uR]; rfl
  | succ d ih =>
    intro k i hi hk
    obtain ⟨k, rfl⟩ := succ_of hk
    have hi2 : i < m.length := by omega
    simp only [GBase.matrix_May.l0]
    rw [if_pos uR, if_pos uR, if_pos uR, if_pos uR, rdL m i hi2, show (0 : Int) = ((0 : Nat) : Int) from rfl, rdL m 0 h0, ← cols_get m h0, List.drop_eq_getElem_cons hi2, List.all_cons]
    by_cases h1 : m[i].length = cols m
    · rw [if_pos uR]
      show ((some (anyBad m[i])).bind fun t107 => _) = _
      rw [Option.bind_some, anyBad_not]
      cases h2 : m[i].all isB with
      | true =>
        have e : okRow (cols m) m[i] = true := by unfold okRow; rw [decide_eq_true h1, h2]; rfl
        simp only [Bool.not_true, Bool.false_eq_true, if_false]
        rw [succ_wrap i uR, ih k (i + 1) uR uR, e, Bool.true_and]
      | false =>
        have e : okRow (cols m) m[i] = false := by unfold okRow; rw [h2, Bool.and_false]
        simp only [Bool.not_false, if_true]
        rw [e, Bool.false_and]
    · rw [if_neg uR]
      have e : okRow (cols m) m[i] = false := by unfold okRow; rw [decide_eq_false h1, Bool.false_and]
      rw [e, Bool.false_and]
theorem may_f {k : Nat} (hk : 20 < k) (m : List (List Int)) : GBase.matrix_May.f k m = some (mayB m) := by
  unfold GBase.matrix_May.f mayB
  rw [size_f]
  simp only [Option.bind_some]
  have j0 : ∀ b, GBase.matrix_May.j0 k b m = if b = true then some false else GBase.matrix_May.l0 (k - 1) m (m.length : Int) 0 m := by
    intro b
    obtain ⟨k, rfl⟩ := succ_of hk
    simp only [GBase.matrix_May.j0]
    rfl
  simp only [j0]
  by_cases h1 : 1 ≤ m.length ∧ m.length ≤ 12
  · rw [decide_eq_true h1]
    simp only [if_true]
    rw [if_pos uR, show (0 : Int) = ((0 : Nat) : Int) from rfl, rdL m 0 uR, ← cols_get m uR, size_f]
    simp only [Option.bind_some]
    by_cases h2 : 1 ≤ cols m ∧ cols m ≤ 12
    · rw [decide_eq_true h2, decide_eq_true ⟨h1.1, h1.2, h2⟩]
      simp only [Bool.not_true, Bool.false_eq_true, if_false, Bool.true_and]
      have h := may_l m h1.2 uR m.length (k - 1) 0 uR uR
      rw [List.drop_zero] at h
      exact h
    · rw [decide_eq_false h2, decide_eq_false (fun h => h2 h.2.2)]
      simp only [Bool.not_false, if_true, Bool.false_and]
  · rw [decide_eq_false h1, decide_eq_false (fun h => h1 ⟨h.1, h.2.1⟩)]
    simp only [Bool.false_eq_true, if_false, if_true, Bool.false_and]
def rowOf (g : Nat → Int) (n : Nat) : List Int := (List.range n).map g
def matOf (g : Nat → Nat → Int) (n m : Nat) : List (List Int) := (List.range n).map fun i => rowOf (g i) m
theorem rowOf_length (g : Nat → Int) (n : Nat) : (rowOf g n).length = n := by simp [rowOf]
theorem matOf_length (g : Nat → Nat → Int) (n m : Nat) : (matOf g n m).length = n := by simp [matOf]
theorem rowOf_get (g : Nat → Int) (n j : Nat) (h : j < (rowOf g n).length) : (rowOf g n)[j] = g j := by simp [rowOf]
theorem matOf_get (g : Nat → Nat → Int) (n m i : Nat) (h : i < (matOf g n m).length) : (matOf g n m)[i] = rowOf (g i) m := by simp [matOf]
theorem rowOf_succ (g : Nat → Int) (n : Nat) : rowOf g (n + 1) = rowOf g n ++ [g n] := by unfold rowOf; rw [List.range_succ, List.map_append]; rfl
theorem matOf_succ (g : Nat → Nat → Int) (n m : Nat) : matOf g (n + 1) m = matOf g n m ++ [rowOf (g n) m] := by unfold matOf; rw [List.range_succ, List.map_append]; rfl
/-- a row up to place j, noughts behind. -/
def partRow (g : Nat → Int) (j m : Nat) : List Int := rowOf g j ++ List.replicate (m - j) 0
theorem partRow_length (g : Nat → Int) (j m : Nat) (h : j ≤ m) : (partRow g j m).length = m := by unfold partRow; rw [List.length_append, rowOf_length, List.length_replicate]; omega
theorem partRow_set (g : Nat → Int) (j m : Nat) (h : j < m) : (partRow g j m).set j (g j) = partRow g (j + 1) m := by
  unfold partRow
  obtain ⟨e, he⟩ : ∃ e, m - j = e + 1 := ⟨m - j - 1, uR⟩
  rw [he, show m - (j + 1) = e from by omega, List.replicate_succ, List.set_append_right _ _ uM, rowOf_length, Nat.sub_self, List.set_cons_zero, rowOf_succ, List.append_assoc]
  rfl
theorem partRow_all (g : Nat → Int) (m : Nat) : partRow g m m = rowOf g m := by unfold partRow; rw [Nat.sub_self, List.replicate_zero, List.append_nil]
theorem made_in (atf : Int → Int → Option Int) (g : Nat → Nat → Int) (R C : Nat) (hR : R ≤ 12) (hC : C ≤ 12) (hat : ∀ i j, i < R → j < C → atf (i : Int) (j : Int) = some (g i j)) (i : Nat) (hi : i < R) (acc : List (List Int)) (hacc : acc.length ≤ 12) (d : Nat) :
    ∀ (k j : Nat), j + d = C → d < k → matrix_made.l1 atf k (C : Int) (i : Int) (partRow (g i) j C) (R : Int) (i : Int) (C : Int) (j : Int) acc = matrix_made.l0 atf (k - (d + 1)) (C : Int) (R : Int) (((i + 1 : Nat) : Int)) (acc ++ [rowOf (g i) C]) := by
  induction d with
  | zero =>
    intro k j hj hk
    obtain ⟨k, rfl⟩ := succ_of hk
    simp only [matrix_made.l1]
    have e : j = C := by omega
    subst e
    rw [if_neg uR, if_pos uR, succ_wrap i uR, partRow_all]
    rfl
  | succ d ih =>
    intro k j hj hk
    obtain ⟨k, rfl⟩ := succ_of hk
    simp only [matrix_made.l1]
    rw [if_pos uR, hat i j hi uR]
    simp only [Option.bind_some]
    rw [if_pos uR, partRow_length _ _ _ uR, if_pos uR, Int.toNat_natCast, partRow_set _ _ _ uR, succ_wrap j uR, ih k (j + 1) uR uR, show k + 1 - (d + 1 + 1) = k - (d + 1) from by omega]
theorem made_out (atf : Int → Int → Option Int) (g : Nat → Nat → Int) (R C : Nat) (hR : R ≤ 12) (hC : C ≤ 12) (hat : ∀ i j, i < R → j < C → atf (i : Int) (j : Int) = some (g i j)) (d : Nat) :
    ∀ (k i : Nat), i + d = R → d * (C + 2) < k → matrix_made.l0 atf k (C : Int) (R : Int) (i : Int) (matOf g i C) = some (matOf g R C) := by
  induction d with
  | zero =>
    intro k i hi hk
    obtain ⟨k, rfl⟩ := succ_of hk
    simp only [matrix_made.l0]
    rw [if_neg uR, show i = R from by omega]
  | succ d ih =>
    intro k i hi hk
    obtain ⟨k, rfl⟩ := succ_of hk
    have hmul : (d + 1) * (C + 2) = d * (C + 2) + (C + 2) := Nat.succ_mul _ _
    simp only [matrix_made.l0]
    rw [if_pos uR, if_pos uR, if_pos uR, Int.toNat_natCast]
    simp only [Option.bind_some, List.length_replicate]
    have h := made_in atf g R C hR hC hat i uR (matOf g i C) (by rw [matOf_length]; omega) C k 0 uR uR
    have e0 : partRow (g i) 0 C = List.replicate C 0 := by unfold partRow rowOf; simp
    rw [e0] at h
    refine h.trans ?_
    rw [← matOf_succ]
    exact ih _ (i + 1) uR uR
theorem made_f {k : Nat} (hk : 200 < k) (atf : Int → Int → Option Int) (g : Nat → Nat → Int) (R C : Nat) (hR : R ≤ 12) (hC : C ≤ 12) (hat : ∀ i j, i < R → j < C → atf (i : Int) (j : Int) = some (g i j)) :
    matrix_made.f atf k (R : Int) (C : Int) = some (matOf g R C) := by
  have hmul : R * (C + 2) ≤ 12 * 14 := Nat.mul_le_mul hR uR
  exact made_out atf g R C hR hC hat R k 0 uR uR
/-- a matrix of the field's numbers. -/
def fmat (g : Nat → Nat → F) (n m : Nat) : List (List Int) := matOf (fun i j => toI (g i j)) n m
theorem fmat_length (g : Nat → Nat → F) (n m : Nat) : (fmat g n m).length = n := matOf_length _ _ _
theorem fmat_get (g : Nat → Nat → F) (n m i : Nat) (h : i < (fmat g n m).length) : (fmat g n m)[i] = rowOf (fun j => toI (g i j)) m := matOf_get _ _ _ _ h
theorem fmat_cols (g : Nat → Nat → F) (n m : Nat) (h : 0 < n) : cols (fmat g n m) = m := by
  rw [cols_get _ (by rw [fmat_length]; exact h)]
  rw [fmat_get, rowOf_length]
theorem fmat_ok (g : Nat → Nat → F) (n m : Nat) : okMat (fmat g n m) m = true := by
  unfold okMat
  rw [List.all_eq_true]
  intro r hr
  obtain ⟨i, hi, rfl⟩ := List.mem_iff_getElem.1 hr
  rw [fmat_get]
  unfold okRow
  rw [Bool.and_eq_true]
  refine ⟨decide_eq_true (rowOf_length _ _), ?_⟩
  rw [List.all_eq_true]
  intro x hx
  obtain ⟨j, hj, rfl⟩ := List.mem_iff_getElem.1 hx
  rw [rowOf_get]
  unfold isB
  rw [decide_eq_true (toI_lo _), decide_eq_true (toI_hi _)]; rfl
theorem fmat_may (g : Nat → Nat → F) (n m : Nat) (h1 : 1 ≤ n) (h2 : n ≤ 12) (h3 : 1 ≤ m) (h4 : m ≤ 12) : mayB (fmat g n m) = true := by
  unfold mayB
  rw [fmat_length, fmat_cols g n m uR, decide_eq_true ⟨h1, h2, h3, h4⟩, fmat_ok]; rfl
theorem fmat_ent (g : Nat → Nat → F) (n m i j : Nat) (hi : i < n) (hj : j < m) : ent (fmat g n m) i j = g i j := by
  unfold ent
  rw [getD_get _ _ i (by rw [fmat_length]; exact hi)]
  unfold fmat
  rw [matOf_get, getD_get _ _ j (by rw [rowOf_length]; exact hj), rowOf_get, ofI_toI]
theorem matOf_congr (g h : Nat → Nat → Int) (n m : Nat) (e : ∀ i j, i < n → j < m → g i j = h i j) : matOf g n m = matOf h n m := by
  unfold matOf
  apply List.map_congr_left
  intro i hi
  unfold rowOf
  apply List.map_congr_left
  intro j hj
  exact e i j (List.mem_range.1 hi) (List.mem_range.1 hj)
theorem fmat_congr (g h : Nat → Nat → F) (n m : Nat) (e : ∀ i j, i < n → j < m → g i j = h i j) : fmat g n m = fmat h n m :=
  matOf_congr _ _ _ _ (fun i j hi hj => by rw [e i j hi hj])
/-- a matrix that may be is one of the field's numbers. -/
theorem may_fmat {m : List (List Int)} (h : mayB m = true) : (1 ≤ m.length ∧ m.length ≤ 12 ∧ 1 ≤ cols m ∧ cols m ≤ 12) ∧ m = fmat (ent m) m.length (cols m) := by
  unfold mayB at h
  rw [Bool.and_eq_true] at h
  refine ⟨of_decide_eq_true h.1, ?_⟩
  apply List.ext_getElem
  · rw [fmat_length]
  · intro i h1 h2
    rw [fmat_get]
    obtain ⟨hl, _⟩ := okMat_row h.2 h1
    apply List.ext_getElem
    · rw [rowOf_length]; exact hl
    · intro j h3 h4
      rw [rowOf_get]
      exact (ent_get h.2 h1 uR).2
theorem may_ex {m : List (List Int)} (h : mayB m = true) : ∃ (g : Nat → Nat → F) (n c : Nat), m = fmat g n c ∧ 1 ≤ n ∧ n ≤ 12 ∧ 1 ≤ c ∧ c ≤ 12 := by
  obtain ⟨⟨h1, h2, h3, h4⟩, e⟩ := may_fmat h
  exact ⟨ent m, m.length, cols m, e, h1, h2, h3, h4⟩
def idM (n : Nat) : List (List Int) := fmat delta n n
theorem identity_f {k : Nat} (hk : 200 < k) (n : Nat) (h1 : 1 ≤ n) (h2 : n ≤ 12) : GBase.matrix_Identity.f k (n : Int) = some (idM n, 0) := by
  unfold GBase.matrix_Identity.f
  rw [size_f, decide_eq_true ⟨h1, h2⟩]
  simp only [Option.bind_some, if_true]
  have h : madeId.f k (n : Int) (n : Int) = some (idM n) := by
    refine made_f hk oneAt (fun i j => toI (delta i j)) n n h2 h2 (fun i j _ _ => ?_)
    unfold oneAt delta
    by_cases e : i = j
    · rw [if_pos uR, if_pos e]; rfl
    · rw [if_neg uR, if_neg e]; rfl
  rw [h]; rfl
theorem identity_no {k : Nat} (a : Int) (h : a < 1 ∨ 12 < a) : GBase.matrix_Identity.f k a = some ([], 300) := by
  unfold GBase.matrix_Identity.f
  have e : GBase.matrix_size.f a = some false := by
    unfold GBase.matrix_size.f
    by_cases h1 : a ≥ 1
    · rw [if_pos h1, decide_eq_false uR]
    · rw [if_neg h1]
  rw [e]; rfl
theorem dotF_sum (g h : Nat → F) (n : Nat) : dotF g h n = sumF n (fun k => fm (g k) (h k)) := by
  induction n with
  | zero => rfl
  | succ n ih => rw [dotF, ih, sumF]
theorem mul_f {k : Nat} (hk : 200 < k) (a b : Nat → Nat → F) (n m c : Nat) (h1 : 1 ≤ n) (h2 : n ≤ 12) (h3 : 1 ≤ m) (h4 : m ≤ 12) (h5 : 1 ≤ c) (h6 : c ≤ 12) :
    GMul.matrix_Mul.f k (fmat a n m) (fmat b m c) = some (fmat (mm m a b) n c, 0) := by
  unfold GMul.matrix_Mul.f
  rw [may_f uR, may_f uR, fmat_may a n m h1 h2 h3 h4, fmat_may b m c h3 h4 h5 h6]
  simp only [Option.bind_some, if_true]
  have e1 : (GMul.rd_L1 (fmat a n m) 0).length = m := by
    rw [show (0 : Int) = ((0 : Nat) : Int) from rfl, rdL_mul _ 0 uN, ← cols_get _ uN, fmat_cols a n m uR]
  have e2 : (GMul.rd_L1 (fmat b m c) 0).length = c := by
    rw [show (0 : Int) = ((0 : Nat) : Int) from rfl, rdL_mul _ 0 uN, ← cols_get _ uN, fmat_cols b m c uR]
  rw [e1, e2, fmat_length, fmat_length, if_pos uR, if_pos rfl, if_pos uR]
  have h : mulMade.f k (n : Int) (c : Int) (fmat a n m) (fmat b m c) = some (fmat (mm m a b) n c) := by
    unfold mulMade.f
    rw [Int.toNat_natCast, if_pos]
    · refine made_f hk _ (fun i j => toI (mm m a b i j)) n c h2 h6 (fun i j hi hj => ?_)
      unfold dotAt
      rw [fmat_length, fmat_length, if_pos ⟨uR, uR, uR, uR⟩, Int.toNat_natCast, Int.toNat_natCast, dotF_sum]
      congr 2
      unfold mm
      apply sum_congr
      intro k hk
      rw [fmat_ent a n m i k hi hk, fmat_ent b m c k j hk hj]
    · refine ⟨?_, rfl⟩
      unfold mulOk
      rw [fmat_length, fmat_ok, fmat_ok, decide_eq_true h4]; rfl
  rw [h]; rfl
def rowsIn (n : Nat) (rows : List Int) : Bool := rows.all fun r => decide (0 ≤ r) && decide (r < (n : Int))
theorem clone_f (r : List Int) (h : r.length ≤ 12) : cloneInts.f r = some r := by unfold cloneInts.f; rw [if_pos uR]
theorem pick_l (m : List (List Int)) (hm : ∀ r ∈ m, r.length ≤ 12) (rows : List Int) (hr : rows.length ≤ 12) (d : Nat) : ∀ (k i : Nat) (acc : List (List Int)), i + d = rows.length → acc.length ≤ 24 - d → d < k →
    GBase.matrix_Pick.l0 k rows (rows.length : Int) (i : Int) m acc = if rowsIn m.length (rows.drop i) = true then some (acc ++ (rows.drop i).map (fun r => m.getD r.toNat []), 0) else some ([], 300) := by
  induction d with
  | zero =>
    intro k i acc hi _ hk
    obtain ⟨k, rfl⟩ := succ_of hk
    simp only [GBase.matrix_Pick.l0]
    rw [if_neg uR, List.drop_of_length_le uR]
    simp [rowsIn]
  | succ d ih =>
    intro k i acc hi ha hk
    obtain ⟨k, rfl⟩ := succ_of hk
    have hi2 : i < rows.length := by omega
    have erd : rd rows (i : Int) = rows[i] := by unfold rd; rw [Int.toNat_natCast, getD_get rows 0 i hi2]
    simp only [GBase.matrix_Pick.l0]
    rw [if_pos uR, if_pos uR, if_pos uR, erd, List.drop_eq_getElem_cons hi2, List.map_cons]
    by_cases h1 : rows[i] < 0
    · rw [if_pos h1]
      have e : rowsIn m.length (rows[i] :: rows.drop (i + 1)) = false := by
        unfold rowsIn; rw [List.all_cons, decide_eq_false uR, Bool.false_and, Bool.false_and]
      rw [e]; rfl
    · rw [if_neg h1]
      by_cases h2 : rows[i] ≥ (m.length : Int)
      · rw [if_pos h2]
        have e : rowsIn m.length (rows[i] :: rows.drop (i + 1)) = false := by
          unfold rowsIn; rw [List.all_cons, decide_eq_false (show ¬ rows[i] < (m.length : Int) by omega), Bool.and_false, Bool.false_and]
        rw [e]; rfl
      · rw [if_neg h2, if_pos uR, if_pos uR]
        have hlt : rows[i].toNat < m.length := by omega
        have e1 : GBase.rd_L1 m rows[i] = m[rows[i].toNat] := by unfold GBase.rd_L1; rw [getD_get m [] _ hlt]
        rw [e1, clone_f _ (hm _ (List.getElem_mem hlt)), getD_get m [] _ hlt]
        simp only [Option.bind_some]
        rw [if_pos uR, succ_wrap i uR, ih k (i + 1) _ uR (by rw [List.length_append]; simp; omega) uR]
        have e : rowsIn m.length (rows[i] :: rows.drop (i + 1)) = rowsIn m.length (rows.drop (i + 1)) := by
          unfold rowsIn; rw [List.all_cons, decide_eq_true (show 0 ≤ rows[i] by omega), decide_eq_true (show rows[i] < (m.length : Int) by omega)]; rfl
        rw [e, List.append_assoc]
        rfl
theorem pick_f {k : Nat} (hk : 200 < k) (m : List (List Int)) (rows : List Int) :
    GBase.matrix_Pick.f k m rows = some (if mayB m = true ∧ (1 ≤ rows.length ∧ rows.length ≤ 12) ∧ rowsIn m.length rows = true then (rows.map (fun r => m.getD r.toNat []), 0) else ([], 300)) := by
  unfold GBase.matrix_Pick.f
  rw [may_f uR, size_f]
  have j0 : ∀ b, GBase.matrix_Pick.j0 k rows b m = if b = true then some ([], 300) else GBase.matrix_Pick.l0 (k - 1) rows (rows.length : Int) 0 m [] := by
    intro b
    obtain ⟨k, rfl⟩ := succ_of hk
    simp only [GBase.matrix_Pick.j0]
    rfl
  simp only [Option.bind_some, j0]
  by_cases hm : mayB m = true
  · rw [if_pos hm]
    by_cases hr : 1 ≤ rows.length ∧ rows.length ≤ 12
    · rw [decide_eq_true hr]
      simp only [Bool.not_true, Bool.false_eq_true, if_false]
      obtain ⟨⟨p1, p2, p3, p4⟩, e⟩ := may_fmat hm
      have hl : ∀ r ∈ m, r.length ≤ 12 := by
        unfold mayB at hm
        rw [Bool.and_eq_true] at hm
        intro r hr
        obtain ⟨i, hi, rfl⟩ := List.mem_iff_getElem.1 hr
        rw [(okMat_row hm.2 hi).1]; exact p4
      have h := pick_l m hl rows hr.2 rows.length (k - 1) 0 [] uR uS uR
      rw [List.drop_zero, List.nil_append] at h
      refine h.trans ?_
      by_cases h5 : rowsIn m.length rows = true
      · rw [if_pos h5, if_pos ⟨hm, hr, h5⟩]
      · rw [if_neg h5, if_neg (fun hh => h5 hh.2.2)]
    · rw [decide_eq_false hr]
      simp only [Bool.not_false, if_true]
      rw [if_neg (fun hh => hr hh.2.1)]
  · rw [if_neg hm]
    simp only [if_true]
    rw [if_neg (fun hh => hm hh.1)]
theorem decide_cons {α : Type} [DecidableEq α] (x : α) (a b : List α) : decide (x :: a = x :: b) = decide (a = b) := by
  by_cases h : a = b
  · rw [h, decide_eq_true rfl, decide_eq_true rfl]
  · rw [decide_eq_false h, decide_eq_false (fun e => h (List.cons.inj e).2)]
theorem sameInts_l (xs ys : List Int) (hl : xs.length = ys.length) (hb : xs.length < 9223372036854775807) (d : Nat) : ∀ (k i : Nat), i + d = xs.length → d < k → GBase.ossuarylaw0_SameInts.l0 k xs ys (i : Int) = some (decide (xs.drop i = ys.drop i)) := by
  induction d with
  | zero =>
    intro k i hi hk
    obtain ⟨k, rfl⟩ := succ_of hk
    simp only [GBase.ossuarylaw0_SameInts.l0]
    rw [if_neg uR, List.drop_of_length_le uR, List.drop_of_length_le uR]
    rfl
  | succ d ih =>
    intro k i hi hk
    obtain ⟨k, rfl⟩ := succ_of hk
    have h1 : i < xs.length := by omega
    have h2 : i < ys.length := by omega
    have e1 : rd xs (i : Int) = xs[i] := by unfold rd; rw [Int.toNat_natCast, getD_get xs 0 i h1]
    have e2 : rd ys (i : Int) = ys[i] := by unfold rd; rw [Int.toNat_natCast, getD_get ys 0 i h2]
    simp only [GBase.ossuarylaw0_SameInts.l0]
    rw [if_pos uR, if_pos uR, if_pos uR, e1, e2, List.drop_eq_getElem_cons h1, List.drop_eq_getElem_cons h2]
    by_cases e : xs[i] = ys[i]
    · rw [if_pos e, succ_wrap i uR, ih k (i + 1) uR uR, e, decide_cons]
    · rw [if_neg e, decide_eq_false (fun hh => e (List.cons.inj hh).1)]
theorem sameInts_f {k : Nat} (xs ys : List Int) (hb : xs.length < 9223372036854775807) (hk : xs.length < k) : GBase.ossuarylaw0_SameInts.f k xs ys = some (decide (xs = ys)) := by
  unfold GBase.ossuarylaw0_SameInts.f
  by_cases h : xs.length = ys.length
  · rw [if_pos uR]
    have h1 := sameInts_l xs ys h hb xs.length k 0 uR hk
    rw [List.drop_zero, List.drop_zero] at h1
    exact h1
  · rw [if_neg uR, decide_eq_false (fun e => h (by rw [e]))]
theorem sameM_l (xs ys : List (List Int)) (hl : xs.length = ys.length) (hb : xs.length < 9223372036854775807) (B : Nat) (hB : B < 9223372036854775807) (hr : ∀ r ∈ xs, r.length ≤ B) (d : Nat) : ∀ (k i : Nat), i + d = xs.length → d + B < k → GBase.ossuarylaw0_SameMatrix.l0 k (i : Int) xs ys = some (decide (xs.drop i = ys.drop i)) := by
  induction d with
  | zero =>
    intro k i hi hk
    obtain ⟨k, rfl⟩ := succ_of (show 0 < k by omega)
    simp only [GBase.ossuarylaw0_SameMatrix.l0]
    rw [if_neg uR, List.drop_of_length_le uR, List.drop_of_length_le uR]
    rfl
  | succ d ih =>
    intro k i hi hk
    obtain ⟨k, rfl⟩ := succ_of (show 0 < k by omega)
    have h1 : i < xs.length := by omega
    have h2 : i < ys.length := by omega
    have hri := hr _ (List.getElem_mem h1)
    simp only [GBase.ossuarylaw0_SameMatrix.l0]
    rw [if_pos uR, if_pos uR, if_pos uR, rdL xs i h1, rdL ys i h2, sameInts_f _ _ uR uR, List.drop_eq_getElem_cons h1, List.drop_eq_getElem_cons h2]
    simp only [Option.bind_some]
    by_cases e : xs[i] = ys[i]
    · rw [decide_eq_true e, if_pos rfl, succ_wrap i uR, ih k (i + 1) uR uR, e, decide_cons]
    · rw [decide_eq_false e, if_neg uQ, decide_eq_false (fun hh => e (List.cons.inj hh).1)]
theorem sameM_f {k : Nat} (xs ys : List (List Int)) (B : Nat) (hb : xs.length < 9223372036854775807) (hB : B < 9223372036854775807) (hr : ∀ r ∈ xs, r.length ≤ B) (hk : xs.length + B < k) : GBase.ossuarylaw0_SameMatrix.f k xs ys = some (decide (xs = ys)) := by
  unfold GBase.ossuarylaw0_SameMatrix.f
  by_cases h : xs.length = ys.length
  · rw [if_pos uR]
    have h1 := sameM_l xs ys h hb B hB hr xs.length k 0 uR hk
    rw [List.drop_zero, List.drop_zero] at h1
    exact h1
  · rw [if_neg uR, decide_eq_false (fun e => h (by rw [e]))]
theorem fmat_rows (g : Nat → Nat → F) (n m : Nat) (hm : m ≤ 12) : ∀ r ∈ fmat g n m, r.length ≤ 12 := by
  intro r hr
  obtain ⟨i, hi, rfl⟩ := List.mem_iff_getElem.1 hr
  rw [fmat_get, rowOf_length]; exact hm
theorem sameF {k : Nat} (hk : 200 < k) (g h : Nat → Nat → F) (n m : Nat) (hn : n ≤ 12) (hm : m ≤ 12) (e : ∀ i j, i < n → j < m → g i j = h i j) : GBase.ossuarylaw0_SameMatrix.f k (fmat g n m) (fmat h n m) = some true := by
  rw [sameM_f _ _ 12 uN uR (fmat_rows g n m hm) uN, decide_eq_true (fmat_congr g h n m e)]
theorem num_f (n : Int) : GBase.ossuarylaw0_Num.f n = some n := rfl
end Go.Proofs.Ytaahnicjjpddjaa.Mat
