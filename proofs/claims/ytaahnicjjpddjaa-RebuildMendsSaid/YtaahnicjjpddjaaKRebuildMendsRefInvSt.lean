/- The reference's matrices: when one may be, noughts, the identity. Plain; no condition. The reference's Invert: what stands where in memory; what the calls in it come to. Plain; no condition. -/
import Derived.Test.YtaahnicjjpddjaaKRebuildMendsRefSwap
import Derived.Test.YtaahnicjjpddjaaKRebuildMendsGRef7
import Derived.Test.YtaahnicjjpddjaaKRebuildMendsGRef2
import Derived.Laws.CopyOwn
section
namespace Go.Proofs.Ytaahnicjjpddjaa.Pr
open Go.RowKit Go.Proofs.YtaahnicjjpddjaaW.PrintWords Go.Proofs.YtaahnicjjpddjaaW.PrintLast Go.Proofs.YtaahnicjjpddjaaW.PrintMore Go.Proofs.Ytaahnicjjpddjaa.Fld Go.Proofs.Ytaahnicjjpddjaa.Mat Go.Proofs.Ytaahnicjjpddjaa.Fn Go.Proofs.Ytaahnicjjpddjaa.GRef
theorem rdR (m : List (List Int)) (i : Nat) (h : i < m.length) : rd_L2 m (i : Int) = m[i] := by
  show m.getD (i : Int).toNat [] = m[i]
  rw [Int.toNat_natCast, getD_get _ _ _ h]
theorem rd_at (xs : List Int) (i : Nat) (h : i < xs.length) : rd xs (i : Int) = xs[i] := by
  show xs.getD (i : Int).toNat 0 = xs[i]
  rw [Int.toNat_natCast, getD_get _ _ _ h]
theorem bnum (x : Int) : ossuaryref1_byteNum.f x = some (isB x) := by
  unfold ossuaryref1_byteNum.f isB
  by_cases h : x ≥ 0
  · rw [if_pos h, decide_eq_true (show 0 ≤ x from h), Bool.true_and]
    exact congrArg some (decide_eq_decide.2 uV)
  · rw [if_neg h, decide_eq_false (show ¬ 0 ≤ x from h), Bool.false_and]
theorem rmay_1 (m : List (List Int)) (c i : Nat) (hi : i < m.length) (hc : m[i].length = c) (hb : c ≤ 12) (hm : m.length ≤ 12) (e : Nat) : ∀ (k j : Nat), j + e = c → e < k →
    ossuaryref1_MatrixMay.l1 k (c : Int) (i : Int) (j : Int) m = if (m[i].drop j).all isB = true then ossuaryref1_MatrixMay.l0 (k - (e + 1)) (c : Int) (((i + 1 : Nat) : Int)) m else some false := by
  induction e with
  | zero =>
    intro k j hj hk
    obtain ⟨k, rfl⟩ : ∃ m, k = m + 1 := ⟨k - 1, uV⟩
    simp only [ossuaryref1_MatrixMay.l1]
    rw [if_neg uV, List.drop_of_length_le uV, succ_wrap i uV]
    rfl
  | succ e ih =>
    intro k j hj hk
    obtain ⟨k, rfl⟩ : ∃ m, k = m + 1 := ⟨k - 1, uV⟩
    simp only [ossuaryref1_MatrixMay.l1]
    rw [if_pos uV, if_pos uV, if_pos uV, if_pos uV, rdR m i hi, if_pos uV, rd_at _ j uV, bnum, List.drop_eq_getElem_cons (show j < m[i].length by omega), List.all_cons]
    simp only [Option.bind_some]
    cases hb2 : isB m[i][j] with
    | true =>
      rw [if_pos rfl, succ_wrap j uV, ih k (j + 1) uV uV, Bool.true_and, show k + 1 - (e + 1 + 1) = k - (e + 1) by omega]
    | false =>
      rw [if_neg uZ, Bool.false_and, if_neg uZ]
theorem rmay_0 (m : List (List Int)) (c : Nat) (hb : c ≤ 12) (hm : m.length ≤ 12) (e : Nat) : ∀ (k i : Nat), i + e = m.length → e * (c + 2) < k →
    ossuaryref1_MatrixMay.l0 k (c : Int) (i : Int) m = some ((m.drop i).all (okRow c)) := by
  induction e with
  | zero =>
    intro k i hi hk
    obtain ⟨k, rfl⟩ : ∃ m, k = m + 1 := ⟨k - 1, uV⟩
    simp only [ossuaryref1_MatrixMay.l0]
    rw [if_neg uV, List.drop_of_length_le uV]
    rfl
  | succ e ih =>
    intro k i hi hk
    obtain ⟨k, rfl⟩ : ∃ m, k = m + 1 := ⟨k - 1, uV⟩
    have hmul : (e + 1) * (c + 2) = e * (c + 2) + (c + 2) := Nat.succ_mul _ _
    simp only [ossuaryref1_MatrixMay.l0]
    rw [if_pos uV, if_pos uV, rdR m i uV, List.drop_eq_getElem_cons (show i < m.length by omega), List.all_cons]
    unfold okRow
    by_cases hc : m[i].length = c
    · have h := rmay_1 m c i uV hc hb hm c k 0 uV uV
      rw [List.drop_zero] at h
      rw [if_pos uV, show (0 : Int) = ((0 : Nat) : Int) from rfl, h, decide_eq_true hc, Bool.true_and]
      cases hr : m[i].all isB with
      | true => rw [if_pos rfl, Bool.true_and]; exact ih _ (i + 1) uV uV
      | false => rw [if_neg uZ, Bool.false_and]
    · rw [if_neg uV, decide_eq_false hc, Bool.false_and, Bool.false_and]
theorem rmay_f {k : Nat} (hk : 200 < k) (m : List (List Int)) : ossuaryref1_MatrixMay.f k m = some (mayB m) := by
  unfold ossuaryref1_MatrixMay.f mayB
  obtain ⟨k, rfl⟩ : ∃ m, k = m + 2 := ⟨k - 2, uV⟩
  by_cases h1 : m.length < 1
  · rw [if_pos uV, decide_eq_false uV, Bool.false_and]
    simp only [ossuaryref1_MatrixMay.j0, if_true]
  · rw [if_neg uV]
    by_cases h2 : 12 < m.length
    · rw [decide_eq_true uV, decide_eq_false uV, Bool.false_and]
      simp only [ossuaryref1_MatrixMay.j0, if_true]
    · rw [decide_eq_false uV]
      simp only [ossuaryref1_MatrixMay.j0, Bool.false_eq_true, if_false]
      have e0 : (rd_L2 m 0).length = cols m := by rw [show (0 : Int) = ((0 : Nat) : Int) from rfl, rdR m 0 uV, cols_get _ uV]
      rw [if_pos uV, e0]
      by_cases h3 : cols m < 1
      · rw [if_pos uV, decide_eq_false uV, Bool.false_and]
        simp only [ossuaryref1_MatrixMay.j1, if_true]
      · rw [if_neg uV]
        by_cases h4 : 12 < cols m
        · rw [decide_eq_true uV, decide_eq_false uV, Bool.false_and]
          simp only [ossuaryref1_MatrixMay.j1, if_true]
        · rw [decide_eq_false uV, decide_eq_true uV, Bool.true_and]
          simp only [ossuaryref1_MatrixMay.j1, Bool.false_eq_true, if_false]
          have hmul : m.length * (cols m + 2) ≤ 12 * 14 := Nat.mul_le_mul uV uV
          exact rmay_0 m (cols m) uV uV m.length k 0 uV uV
theorem blank_l (n c : Nat) (hn : n ≤ 12) (hc : c ≤ 12) (e : Nat) : ∀ (k i : Nat), i + e = n → e < k →
    ossuaryref1_blank.l0 k (n : Int) (c : Int) (i : Int) (fmat (fun _ _ => 0#8) i c) = some (fmat (fun _ _ => 0#8) n c) := by
  induction e with
  | zero =>
    intro k i hi hk
    obtain ⟨k, rfl⟩ : ∃ m, k = m + 1 := ⟨k - 1, uV⟩
    simp only [ossuaryref1_blank.l0]
    rw [if_neg uV, show i = n by omega]
  | succ e ih =>
    intro k i hi hk
    obtain ⟨k, rfl⟩ : ∃ m, k = m + 1 := ⟨k - 1, uV⟩
    simp only [ossuaryref1_blank.l0]
    have e1 : fmat (fun _ _ => 0#8) i c ++ [List.replicate c 0] = fmat (fun _ _ => 0#8) (i + 1) c := by
      have h := matOf_succ (fun _ _ => toI 0#8) i c
      refine Eq.trans ?_ h.symm
      refine congrArg (fun r => fmat (fun _ _ => 0#8) i c ++ [r]) ?_
      unfold rowOf
      rw [List.map_const', List.length_range]; rfl
    rw [if_pos uV, if_pos uV, if_pos uV, fmat_length, if_pos uV, Int.toNat_natCast, e1, succ_wrap i uV]
    exact ih k (i + 1) uV uV
theorem blank_f {k : Nat} (hk : 20 < k) (n c : Nat) (hn : n ≤ 12) (hc : c ≤ 12) : ossuaryref1_blank.f k (n : Int) (c : Int) = some (fmat (fun _ _ => 0#8) n c) :=
  blank_l n c hn hc n k 0 uV uV
theorem fmat_setRow (g : Nat → Nat → F) (n c i : Nat) (r : Nat → F) : (fmat g n c).set i (rowOf (fun j => toI (r j)) c) = fmat (fun a b => if a = i then r b else g a b) n c := by
  apply List.ext_getElem
  · rw [List.length_set, fmat_length, fmat_length]
  · intro j h1 h2
    rw [List.getElem_set, fmat_get (fun a b => if a = i then r b else g a b)]
    by_cases e : i = j
    · rw [if_pos e]
      exact rowOf_congr (fun t _ => by simp only [if_pos e.symm])
    · rw [if_neg e, fmat_get]
      exact rowOf_congr (fun t _ => by simp only [if_neg (fun h : j = i => e h.symm)])
theorem rid_l (n : Nat) (hn : n ≤ 12) (e : Nat) : ∀ (k i : Nat), i + e = n → e < k →
    ossuaryref1_Identity.l0 k (n : Int) (i : Int) (fmat (fun a b => if a < i then delta a b else 0#8) n n) = some (idM n, 0) := by
  induction e with
  | zero =>
    intro k i hi hk
    obtain ⟨k, rfl⟩ : ∃ m, k = m + 1 := ⟨k - 1, uV⟩
    simp only [ossuaryref1_Identity.l0]
    rw [if_neg uV]
    unfold idM
    rw [fmat_congr _ delta n n (fun a b ha _ => by simp only [if_pos (show a < i by omega)])]
  | succ e ih =>
    intro k i hi hk
    obtain ⟨k, rfl⟩ : ∃ m, k = m + 1 := ⟨k - 1, uV⟩
    simp only [ossuaryref1_Identity.l0]
    rw [if_pos uV, if_pos uV, fmat_length, if_pos uV, rdR _ i uP, fmat_get, rowOf_length, if_pos uV, Int.toNat_natCast, rowOf_set]
    have e1 : rowOf (fun j => if j = i then (1 : Int) else toI (if i < i then delta i j else 0#8)) n = rowOf (fun j => toI (delta i j)) n := rowOf_congr (fun j _ => by
      unfold delta
      by_cases h : j = i
      · rw [if_pos h, if_pos h.symm]; rfl
      · rw [if_neg h, if_neg (Nat.lt_irrefl i), if_neg (fun h' : i = j => h h'.symm)])
    rw [e1, fmat_setRow, succ_wrap i uV, fmat_congr _ (fun a b => if a < i + 1 then delta a b else 0#8) n n (fun a b ha _ => by
      by_cases h : a = i
      · simp only [if_pos h, if_pos (show a < i + 1 by omega)]; rw [h]
      · by_cases h2 : a < i
        · simp only [if_neg h, if_pos h2, if_pos (show a < i + 1 by omega)]
        · simp only [if_neg h, if_neg h2, if_neg (show ¬ a < i + 1 by omega)])]
    exact ih k (i + 1) uV uV
theorem rid_f {k : Nat} (hk : 40 < k) (n : Nat) (h1 : 1 ≤ n) (h2 : n ≤ 12) : ossuaryref1_Identity.f k (n : Int) = some (idM n, 0) := by
  unfold ossuaryref1_Identity.f
  obtain ⟨k, rfl⟩ : ∃ m, k = m + 1 := ⟨k - 1, uV⟩
  rw [if_neg uV, decide_eq_false uV]
  simp only [ossuaryref1_Identity.j0, Bool.false_eq_true, if_false]
  rw [blank_f uV n n h2 h2, Option.bind_some]
  have h := rid_l n h2 n k 0 uV uV
  simp only [Nat.not_lt_zero, if_false] at h
  exact h
end Go.Proofs.Ytaahnicjjpddjaa.Pr
end
section
namespace Go.Proofs.Ytaahnicjjpddjaa.Pr
open Go.RowKit Go.Proofs.YtaahnicjjpddjaaW.PrintWords Go.Proofs.YtaahnicjjpddjaaW.PrintLast Go.Proofs.YtaahnicjjpddjaaW.PrintMore Go.Proofs.Ytaahnicjjpddjaa.Fld Go.Proofs.Ytaahnicjjpddjaa.Mat Go.Proofs.Ytaahnicjjpddjaa.Fn Go.Proofs.Ytaahnicjjpddjaa.GRef
/-- while the reference turns: the boxes, both matrices. -/
structure RSt (W0 w : World) (n g2 g5 g7 : Nat) (gs Cs : Nat → Nat) (hs : Nat → Nat → Nat × Nat) (v : Nat → Nat → Nat → F) : Prop where
  below : Below W0.heap.size W0 w
  b2 : w.heap[g2]? = some (.cells #[.slice none 0 0] 24 (0, 0))
  b5 : w.heap[g5]? = some (.cells #[.slice (some ⟨gs 1, 0, none⟩) n (Cs 1)] 24 (0, 0))
  b7 : w.heap[g7]? = some (.cells #[.slice (some ⟨gs 0, 0, none⟩) n (Cs 0)] 24 (0, 0))
  two : Two w n gs Cs hs v
  gN : ∀ t, t < 2 → W0.heap.size ≤ gs t
  rN : ∀ t i, t < 2 → i < n → W0.heap.size ≤ (hs t i).1
section
variable {W0 w w' : World} {n g2 g5 g7 : Nat} {gs Cs : Nat → Nat} {hs : Nat → Nat → Nat × Nat} {v : Nat → Nat → Nat → F}
theorem RSt.of_eq (H : RSt W0 w n g2 g5 g7 gs Cs hs v) (hB : Below W0.heap.size W0 w') (e : ∀ (k : Nat) (o : Obj), w.heap[k]? = some o → w'.heap[k]? = some o) : RSt W0 w' n g2 g5 g7 gs Cs hs v :=
  ⟨hB, e _ _ H.b2, e _ _ H.b5, e _ _ H.b7, H.two.of_eq e, H.gN, H.rN⟩
theorem RSt.below' (H : RSt W0 w n g2 g5 g7 gs Cs hs v) (hb : Below w.heap.size w w') : RSt W0 w' n g2 g5 g7 gs Cs hs v :=
  H.of_eq (below_step H.below hb) (fun _ _ ho => blk_below ho hb)
theorem RSt.drewN (H : RSt W0 w n g2 g5 g7 gs Cs hs v) (x : Nat) : RSt W0 (w.drewN x) n g2 g5 g7 gs Cs hs v := H.of_eq (pw_below_drewN H.below x) (fun _ _ ho => ho)
theorem RSt.drew (H : RSt W0 w n g2 g5 g7 gs Cs hs v) : RSt W0 w.drew n g2 g5 g7 gs Cs hs v := H.of_eq (below_drew1 H.below) (fun _ _ ho => ho)
theorem RSt.keep {hs' : Nat → Nat → Nat × Nat} {v' : Nat → Nat → Nat → F} (H : RSt W0 w n g2 g5 g7 gs Cs hs v) (hB : Below W0.heap.size W0 w') (hK : Keep24 w w') (hT : Two w' n gs Cs hs' v') (hR : ∀ t i, t < 2 → i < n → W0.heap.size ≤ (hs' t i).1) : RSt W0 w' n g2 g5 g7 gs Cs hs' v' :=
  ⟨hB, hK.box _ _ H.b2, hK.box _ _ H.b5, hK.box _ _ H.b7, hT, H.gN, hR⟩
theorem RSt.congr {v' : Nat → Nat → Nat → F} (H : RSt W0 w n g2 g5 g7 gs Cs hs v) (e : ∀ t i j, t < 2 → i < n → j < n → v t i j = v' t i j) : RSt W0 w n g2 g5 g7 gs Cs hs v' :=
  ⟨H.below, H.b2, H.b5, H.b7, H.two.congr e, H.gN, H.rN⟩
theorem swap1_le {b : Nat} {t0 c i : Nat} (hc : c < n) (hi : i < n) (h : ∀ t i, t < 2 → i < n → b ≤ (hs t i).1) : ∀ t k, t < 2 → k < n → b ≤ (swap1 hs t0 c i t k).1 := by
  intro t k ht hk
  rw [swap1_from]
  exact h t _ ht (from1_lt hc hi hk)
/-- an exchange. -/
theorem rst_swap (t a i : Nat) (ht : t < 2) (ha : a < n) (hi : i < n) (H : RSt W0 w n g2 g5 g7 gs Cs hs v) :
    Calls Try.prog 82 #[.agg #[.slice (some ⟨gs t, 0, none⟩) n (Cs t)], .int .i64 a, .int .i64 i] w fun e w' => e = .returned (.tuple #[]) ∧ RSt W0 w' n g2 g5 g7 gs Cs (swap1 hs t a i) (swap1 v t a i) := by
  refine (swap_calls W0 n gs Cs hs v t a i w ht ha hi H.two H.below (H.gN t ht)).mono ?_
  rintro e w' ⟨rfl, hT, hB, hK⟩
  exact ⟨rfl, H.keep hB hK hT (swap1_le ha hi H.rN)⟩
/-- a row, times a number. -/
theorem rst_times (t a : Nat) (y : F) (hn : n ≤ 12) (ht : t < 2) (ha : a < n) (H : RSt W0 w n g2 g5 g7 gs Cs hs v) :
    Calls Try.prog 84 #[.slice (some ⟨(hs t a).1, 0, none⟩) n (hs t a).2, .int .i64 (toI y)] w fun e w' => e = .returned (.tuple #[]) ∧ RSt W0 w' n g2 g5 g7 gs Cs hs (setRow v t a (fun j => fm (v t a j) y)) := by
  have hr := H.two.row t a ht ha
  refine (ossuaryref1_times.calls 40 (fun k => k = (hs t a).1) _ (rowOf (fun j => toI (v t a j)) n) (toI y) _ W0 w H.below (R_of_row hr (H.rN t a ht ha) rfl) (rtimes_f uV (v t a) y n hn)).mono ?_
  rintro e w' ⟨rfl, hR, hB, hK⟩
  exact ⟨rfl, H.keep hB (Keep24.kept (hs := hs) (t := t) (a := a) hK hr.blk) (H.two.row_kept ht ha hK hR) H.rN⟩
/-- a row, less another one times a number. -/
theorem rst_less (t a b : Nat) (y : F) (hn : n ≤ 12) (ht : t < 2) (ha : a < n) (hb : b < n) (hab : a ≠ b) (H : RSt W0 w n g2 g5 g7 gs Cs hs v) :
    Calls Try.prog 85 #[.slice (some ⟨(hs t b).1, 0, none⟩) n (hs t b).2, .slice (some ⟨(hs t a).1, 0, none⟩) n (hs t a).2, .int .i64 (toI y)] w fun e w' => e = .returned (.tuple #[]) ∧ RSt W0 w' n g2 g5 g7 gs Cs hs (setRow v t b (fun j => v t b j ^^^ fm (v t a j) y)) := by
  have hr := H.two.row t b ht hb
  have hra := H.two.row t a ht ha
  have hl := rowOf_length (fun j => toI (v t a j)) n
  have h := ossuaryref1_less.calls 40 (fun k => k = (hs t b).1) _ (rowOf (fun j => toI (v t b j)) n) (some ⟨(hs t a).1, 0, none⟩) (hs t a).2 (rowOf (fun j => toI (v t a j)) n) (toI y) _ W0 w H.below (R_of_row hr (H.rN t b ht hb) rfl)
    (fun W_ hk => by
      rw [hl]
      exact (hra.of_eq (fun _ ho => blk_kept ho hk (fun e => hab (H.two.apart t a t b ht ha ht hb e).2))).toC)
    (by rw [hl]; obtain ⟨_, _, _, h3, _⟩ := hra; exact h3) (rless_f uV (v t b) (v t a) y n hn)
  rw [hl] at h
  refine h.mono ?_
  rintro e w' ⟨rfl, hR, hB, hK⟩
  exact ⟨rfl, H.keep hB (Keep24.kept (hs := hs) (t := t) (a := b) hK hr.blk) (H.two.row_kept ht hb hK hR) H.rN⟩
/-- a row copied over another one, in place. -/
theorem setRow_two {cur : Array Value} {t a : Nat} {r : Nat → F} (ht : t < 2) (ha : a < n) (H : RSt W0 w n g2 g5 g7 gs Cs hs v) (hc : w.heap[(hs t a).1]? = some (.cells cur 3 (0, 0))) (hs' : cur.size = (hs t a).2) (hn : n ≤ cur.size) :
    RSt W0 (w.setRow (hs t a).1 (cur.toList.take 0 ++ (((List.range n).map fun j => Value.int .i64 (toI (r j))) ++ cur.toList.drop (0 + ((List.range n).map fun j => Value.int .i64 (toI (r j))).length))).toArray) n g2 g5 g7 gs Cs hs (setRow v t a r) := by
  obtain ⟨W, hW⟩ : ∃ W, W = w.setRow (hs t a).1 (cur.toList.take 0 ++ (((List.range n).map fun j => Value.int .i64 (toI (r j))) ++ cur.toList.drop (0 + ((List.range n).map fun j => Value.int .i64 (toI (r j))).length))).toArray := ⟨_, rfl⟩
  have hnew := setRow_heap w (hs t a).1 cur (cur.toList.take 0 ++ (((List.range n).map fun j => Value.int .i64 (toI (r j))) ++ cur.toList.drop (0 + ((List.range n).map fun j => Value.int .i64 (toI (r j))).length))).toArray 3 (0, 0) hc
  have hoth : ∀ k, k ≠ (hs t a).1 → W.heap[k]? = w.heap[k]? := fun k hk => by rw [hW]; exact setRow_other w _ k _ hk
  rw [← hW] at hnew ⊢
  have hB : Below W0.heap.size W0 W := by rw [hW]; exact below_setRow H.below (H.rN t a ht ha) _
  have hbox : ∀ {g : Nat} {cs : Array Value}, w.heap[g]? = some (.cells cs 24 (0, 0)) → W.heap[g]? = some (.cells cs 24 (0, 0)) := fun {g cs} h => by
    rw [hoth g (blk_ne h hc uZ)]; exact h
  obtain ⟨cur0, q1, q2, q3, q4, q5⟩ := H.two.row t a ht ha
  refine ⟨hB, hbox H.b2, hbox H.b5, hbox H.b7, ⟨fun t' ht' => (H.two.out t' ht').of_eq (fun o ho => by rw [hoth _ (out_ne_row (H.two.out t' ht') (H.two.row t a ht ha))]; exact ho), fun t' i ht' hi => ?_, H.two.apart, H.two.gapart⟩, H.gN, H.rN⟩
  by_cases e : t' = t ∧ i = a
  · obtain ⟨rfl, rfl⟩ := e
    refine ⟨_, hnew, ?_, q3, q4, fun j hj => ?_⟩
    · simp only [List.size_toArray, List.length_append, List.length_take, List.length_drop, List.length_map, List.length_range, Array.length_toList]
      omega
    · have e1 : setRow v t' i r t' i j = r j := by unfold setRow; rw [if_pos ⟨rfl, rfl⟩]
      rw [e1, List.take_zero, List.nil_append, List.getElem?_toArray, List.getElem?_append_left (by simp; exact hj), List.getElem?_map, List.getElem?_range hj]
      rfl
  · refine ((H.two.row t' i ht' hi).of_eq (fun o ho => by rw [hoth _ (fun h => e (H.two.apart t' i t a ht' hi ht ha h))]; exact ho)).congr (fun j _ => ?_)
    unfold setRow
    rw [if_neg e]
end
/-- the copy of a row, as one step of a region. -/
theorem step_copy_row {P : Program} {ops : Array Oper} {o : Oper} {a : Act} {w : World} {K : Act → World → Prop} {Q : Exit → Act → World → Prop} {E : Prop} (hgd : o.guard = none) (d s : Operand) (dT sT : TypeId)
    (ho : o.op = .call { callee := .builtin .copy, args := #[d, s], argTypes := #[dT, sT] }) (elem : TypeId) (hu : P.underlying dT = some (.slice elem)) (hsz : (P.info? elem).map (·.size) = some 1)
    (g off dLen dCap : Nat) (ad : Addr) (sLen sCap : Nat) (hd : a.eval d = .slice (some ⟨g, off, none⟩) dLen dCap) (hs : a.eval s = .slice (some ad) sLen sCap)
    (cur : Array Value) (t : TypeId) (hg : w.heap[g]? = some (.cells cur t (0, 0))) (cs : List Value) (hn : cs.length = Nat.min sLen dLen)
    (hsrc : ∀ j v, cs[j]? = some v → w.cell? (ad.add j) = some v) (hfit : off + cs.length ≤ cur.size) (h1 : ∀ v ∈ cs, v.oneCell' = true)
    (h : K (a.put o.dst (goInt cs.length)) (w.setRow g (cur.toList.take off ++ (cs ++ cur.toList.drop (off + cs.length))).toArray)) :
    if Region.wanted o (yielded ops a.tmps) = true then Oper.wp P o a w K Q else E := by
  have hw : Region.wanted o (yielded ops a.tmps) = true := by simp [Region.wanted, hgd]
  rw [if_pos hw]
  have hrun := run_copy_row (P := P) w dT sT o.type elem g off dLen dCap ad sLen sCap cur t cs hu hsz hg hn hsrc hfit h1
  unfold Oper.wp
  simp [execOp, ho, resolve, invoke, builtin, hd, hs, hrun, Result.andThen]
  exact h
end Go.Proofs.Ytaahnicjjpddjaa.Pr
end
