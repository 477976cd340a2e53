/- The reference's product of matrices: what it comes to. Plain; no condition. The reference's exchange of rows: the call's walk, by hand; its row operations over a pair of matrices. No condition. The reference's Invert: what stands where in memory; what the calls in it come to. Plain; no condition. -/
import Derived.Test.YtaahnicjjpddjaaKRebuildsRefMat
import Derived.Test.YtaahnicjjpddjaaKRebuildsGRef4
import Derived.Laws.CopyOwn
section
namespace Go.Proofs.Ytaahnicjjpddjaa.Pr
open Go.RowKit Go.Proofs.YtaahnicjjpddjaaW.PrintWords Go.Proofs.YtaahnicjjpddjaaW.PrintLast Go.Proofs.YtaahnicjjpddjaaW.PrintMore Go.Proofs.Ytaahnicjjpddjaa.Fld Go.Proofs.Ytaahnicjjpddjaa.Mat Go.Proofs.Ytaahnicjjpddjaa.Fn Go.Proofs.Ytaahnicjjpddjaa.GRef
/-- one number written. -/
theorem fmat_setAt (g : Nat → Nat → F) (n c i j : Nat) (v : F) : (fmat g n c).set i ((rowOf (fun t => toI (g i t)) c).set j (toI v)) = fmat (fun a b => if a = i then (if b = j then v else g a b) else g a b) n c := by
  have e : (rowOf (fun t => toI (g i t)) c).set j (toI v) = rowOf (fun t => toI (if t = j then v else g i t)) c := by
    rw [rowOf_set]
    exact rowOf_congr (fun t _ => by by_cases h : t = j <;> simp [h])
  rw [e, fmat_setRow]
  exact fmat_congr _ _ _ _ (fun a b _ _ => by by_cases h : a = i <;> simp [h])
/-- what stands while a product is made: rows ahead of i, of row i the numbers ahead of j, and x at j. -/
def St (q : Nat → Nat → F) (i j : Nat) (x : F) : Nat → Nat → F := fun a b => if a < i then q a b else if a = i then (if b < j then q a b else if b = j then x else 0#8) else 0#8
theorem St_at (q : Nat → Nat → F) (i j : Nat) (x : F) : St q i j x i j = x := by unfold St; rw [if_neg (Nat.lt_irrefl i), if_pos rfl, if_neg (Nat.lt_irrefl j), if_pos rfl]
theorem St_set (q : Nat → Nat → F) (n c i j : Nat) (x v : F) : fmat (fun a b => if a = i then (if b = j then v else St q i j x a b) else St q i j x a b) n c = fmat (St q i j v) n c :=
  fmat_congr _ _ _ _ (fun a b _ _ => by
    unfold St
    by_cases h : a = i
    · subst h
      by_cases h2 : b = j
      · subst h2; simp
      · simp [h2]
    · simp [h])
theorem St_next (q : Nat → Nat → F) (n c i j : Nat) : fmat (St q i j (q i j)) n c = fmat (St q i (j + 1) 0#8) n c :=
  fmat_congr _ _ _ _ (fun a b _ _ => by
    unfold St
    by_cases h : a < i
    · rw [if_pos h, if_pos h]
    · rw [if_neg h, if_neg h]
      by_cases h2 : a = i
      · subst h2
        rw [if_pos rfl, if_pos rfl]
        by_cases h3 : b < j
        · rw [if_pos h3, if_pos (show b < j + 1 by omega)]
        · rw [if_neg h3]
          by_cases h4 : b = j
          · subst h4
            rw [if_pos rfl, if_pos (show b < b + 1 by omega)]
          · rw [if_neg h4, if_neg (show ¬ b < j + 1 by omega)]
            by_cases h5 : b = j + 1 <;> simp [h5]
      · rw [if_neg h2, if_neg h2])
theorem St_row (q : Nat → Nat → F) (n c i : Nat) : fmat (St q i c 0#8) n c = fmat (St q (i + 1) 0 0#8) n c :=
  fmat_congr _ _ _ _ (fun a b _ hb => by
    unfold St
    by_cases h : a < i
    · rw [if_pos h, if_pos (show a < i + 1 by omega)]
    · rw [if_neg h]
      by_cases h2 : a = i
      · subst h2
        rw [if_pos rfl, if_pos hb, if_pos (show a < a + 1 by omega)]
      · rw [if_neg h2, if_neg (show ¬ a < i + 1 by omega)]
        by_cases h3 : a = i + 1
        · rw [if_pos h3, if_neg (Nat.not_lt_zero _)]
          by_cases h4 : b = 0 <;> simp [h4]
        · rw [if_neg h3])
theorem St_zero (q : Nat → Nat → F) (n c : Nat) : fmat (fun _ _ => 0#8) n c = fmat (St q 0 0 0#8) n c :=
  fmat_congr _ _ _ _ (fun a b _ _ => by
    unfold St
    rw [if_neg (Nat.not_lt_zero _)]
    by_cases h : a = 0
    · rw [if_pos h, if_neg (Nat.not_lt_zero _)]
      by_cases h4 : b = 0 <;> simp [h4]
    · rw [if_neg h])
theorem St_all (q : Nat → Nat → F) (n c : Nat) : fmat (St q n 0 0#8) n c = fmat q n c :=
  fmat_congr _ _ _ _ (fun a b ha _ => by unfold St; rw [if_pos ha])
theorem rm_2 (g h : Nat → Nat → F) (n d m i j : Nat) (hi : i < n) (hj : j < m) (h2 : d ≤ 12) (h3 : m ≤ 12) (R : List (List Int) × Int) (K : Nat)
    (H : ∀ k, K < k → ossuaryref1_MulMatrix.l1 k (i : Int) ((j + 1 : Nat) : Int) (fmat g n d) (fmat h d m) (fmat (St (mm d g h) i (j + 1) 0#8) n m) = some R) (e : Nat) :
    ∀ k t, t + e = d → K + e + 20 < k → ossuaryref1_MulMatrix.l2 k (i : Int) (j : Int) (t : Int) (fmat g n d) (fmat h d m) (fmat (St (mm d g h) i j (sumF t (fun s => fm (g i s) (h s j)))) n m) = some R := by
  induction e with
  | zero =>
    intro k t ht hk
    obtain ⟨k, rfl⟩ : ∃ m, k = m + 1 := ⟨k - 1, uX⟩
    obtain rfl : t = d := by omega
    simp only [ossuaryref1_MulMatrix.l2]
    rw [fmat_length, if_neg uX, succ_wrap j uX]
    have e1 : fmat (St (mm t g h) i j (sumF t (fun s => fm (g i s) (h s j)))) n m = fmat (St (mm t g h) i (j + 1) 0#8) n m := St_next (mm t g h) n m i j
    rw [e1]
    exact H k uX
  | succ e ih =>
    intro k t ht hk
    obtain ⟨k, rfl⟩ : ∃ m, k = m + 1 := ⟨k - 1, uX⟩
    have ih' := ih k (t + 1) uX uX
    obtain ⟨x, hx⟩ : ∃ x, x = sumF t (fun s => fm (g i s) (h s j)) := ⟨_, rfl⟩
    have hx2 : sumF (t + 1) (fun s => fm (g i s) (h s j)) = x ^^^ fm (g i t) (h t j) := by rw [hx]; rfl
    rw [hx2] at ih'
    rw [← hx]
    have eM : rd_L2 (fmat (St (mm d g h) i j x) n m) (i : Int) = rowOf (fun b => toI (St (mm d g h) i j x i b)) m := by rw [rdR _ i uQ, fmat_get]
    have eA : rd_L2 (fmat g n d) (i : Int) = rowOf (fun b => toI (g i b)) d := by rw [rdR _ i uQ, fmat_get]
    have eB : rd_L2 (fmat h d m) (t : Int) = rowOf (fun b => toI (h t b)) m := by rw [rdR _ t uQ, fmat_get]
    simp only [ossuaryref1_MulMatrix.l2]
    rw [eM, eA, eB, fmat_length, fmat_length, fmat_length, rowOf_length, rowOf_length, rowOf_length, if_pos uX, if_pos uX, if_pos uX, if_pos uX, if_pos uX, if_pos uX, if_pos uX, if_pos uX, if_pos uX]
    rw [rd_at (rowOf (fun b => toI (g i b)) d) t (by rw [rowOf_length]; omega), rd_at (rowOf (fun b => toI (h t b)) m) j (by rw [rowOf_length]; omega), rd_at (rowOf (fun b => toI (St (mm d g h) i j x i b)) m) j (by rw [rowOf_length]; omega), rowOf_get, rowOf_get, rowOf_get, RefGf.rmul_f uX]
    simp only [Option.bind_some]
    rw [St_at, xor_i64, Int.toNat_natCast, Int.toNat_natCast, fmat_setAt, St_set, succ_wrap t uX]
    exact ih'
theorem rm_1 (g h : Nat → Nat → F) (n d m i : Nat) (hi : i < n) (h1 : n ≤ 12) (h2 : d ≤ 12) (h3 : m ≤ 12) (R : List (List Int) × Int) (K : Nat)
    (H : ∀ k, K < k → ossuaryref1_MulMatrix.l0 k ((i + 1 : Nat) : Int) (fmat g n d) (fmat h d m) (fmat (St (mm d g h) (i + 1) 0 0#8) n m) = some R) (e : Nat) :
    ∀ k j, j + e = m → K + e * 40 + 10 < k → ossuaryref1_MulMatrix.l1 k (i : Int) (j : Int) (fmat g n d) (fmat h d m) (fmat (St (mm d g h) i j 0#8) n m) = some R := by
  induction e with
  | zero =>
    intro k j hj hk
    obtain ⟨k, rfl⟩ : ∃ m, k = m + 1 := ⟨k - 1, uX⟩
    obtain rfl : j = m := by omega
    simp only [ossuaryref1_MulMatrix.l1]
    rw [rdR _ i uQ, fmat_get, rowOf_length, fmat_length, if_pos uX, if_pos uX, if_neg uX, succ_wrap i uX, St_row]
    exact H k uX
  | succ e ih =>
    intro k j hj hk
    obtain ⟨k, rfl⟩ : ∃ m, k = m + 1 := ⟨k - 1, uX⟩
    simp only [ossuaryref1_MulMatrix.l1]
    rw [rdR _ i uQ, fmat_get, rowOf_length, fmat_length, if_pos uX, if_pos uX, if_pos uX]
    exact rm_2 g h n d m i j hi uX h2 h3 R (K + e * 40 + 10) (fun k hk' => ih k (j + 1) uX hk') d k 0 uX uX
theorem rm_0 (g h : Nat → Nat → F) (n d m : Nat) (h1 : n ≤ 12) (h2 : d ≤ 12) (h3 : m ≤ 12) (e : Nat) :
    ∀ k i, i + e = n → e * 600 + 10 < k → ossuaryref1_MulMatrix.l0 k (i : Int) (fmat g n d) (fmat h d m) (fmat (St (mm d g h) i 0 0#8) n m) = some (fmat (mm d g h) n m, 0) := by
  induction e with
  | zero =>
    intro k i hi hk
    obtain ⟨k, rfl⟩ : ∃ m, k = m + 1 := ⟨k - 1, uX⟩
    obtain rfl : i = n := by omega
    simp only [ossuaryref1_MulMatrix.l0]
    rw [fmat_length, if_neg uX, St_all]
  | succ e ih =>
    intro k i hi hk
    obtain ⟨k, rfl⟩ : ∃ m, k = m + 1 := ⟨k - 1, uX⟩
    simp only [ossuaryref1_MulMatrix.l0]
    rw [fmat_length, if_pos uX]
    exact rm_1 g h n d m i uX h1 h2 h3 _ (e * 600 + 10) (fun k hk' => ih k (i + 1) uX hk') m k 0 uX uX
theorem rmulM_f {k : Nat} (hk : 7500 < k) (g h : Nat → Nat → F) (n d m : Nat) (h1 : 1 ≤ n) (h2 : n ≤ 12) (h3 : 1 ≤ d) (h4 : d ≤ 12) (h5 : 1 ≤ m) (h6 : m ≤ 12) :
    ossuaryref1_MulMatrix.f k (fmat g n d) (fmat h d m) = some (fmat (mm d g h) n m, 0) := by
  unfold ossuaryref1_MulMatrix.f
  rw [rmay_f uX, rmay_f uX, fmat_may g n d h1 h2 h3 h4, fmat_may h d m h3 h4 h5 h6]
  simp only [Option.bind_some, if_true]
  have e0 : rd_L2 (fmat g n d) 0 = rowOf (fun b => toI (g 0 b)) d := by rw [show (0 : Int) = ((0 : Nat) : Int) from rfl, rdR _ 0 uQ, fmat_get]
  have e1 : rd_L2 (fmat h d m) 0 = rowOf (fun b => toI (h 0 b)) m := by rw [show (0 : Int) = ((0 : Nat) : Int) from rfl, rdR _ 0 uQ, fmat_get]
  obtain ⟨k, rfl⟩ : ∃ m, k = m + 1 := ⟨k - 1, uX⟩
  rw [fmat_length, fmat_length, if_pos uX, e0, rowOf_length, bne_self_eq_false]
  simp only [ossuaryref1_MulMatrix.j0, Bool.false_eq_true, if_false]
  rw [fmat_length, fmat_length, if_pos uX, e1, rowOf_length, blank_f uX n m h2 h6]
  simp only [Option.bind_some]
  rw [St_zero (mm d g h)]
  exact rm_0 g h n d m h2 h4 h6 n k 0 uX uX
end Go.Proofs.Ytaahnicjjpddjaa.Pr
end
section
namespace Go.Proofs.Ytaahnicjjpddjaa.Pr
open Go.RowKit Go.Proofs.YtaahnicjjpddjaaW.PrintWords Go.Proofs.YtaahnicjjpddjaaW.PrintLast Go.Proofs.YtaahnicjjpddjaaW.PrintMore Go.Proofs.Ytaahnicjjpddjaa.Fld Go.Proofs.Ytaahnicjjpddjaa.Mat Go.Proofs.Ytaahnicjjpddjaa.GRef
def SwapEnd (W0 : World) (n : Nat) (gs Cs : Nat → Nat) (hs : Nat → Nat → Nat × Nat) (v : Nat → Nat → Nat → F) (w : World) (e : Ending) (w' : World) : Prop :=
  e = .returned (.tuple #[]) ∧ Two w' n gs Cs hs v ∧ Below W0.heap.size W0 w' ∧ Keep24 w w'
set_option maxHeartbeats 2000000 in
set_option maxRecDepth 100000 in
theorem swap_calls (W0 : World) (n : Nat) (gs Cs : Nat → Nat) (hs : Nat → Nat → Nat × Nat) (v : Nat → Nat → Nat → F) (t a i : Nat) (w : World)
    (ht : t < 2) (ha : a < n) (hi : i < n) (hT : Two w n gs Cs hs v) (hB : Below W0.heap.size W0 w) (hnew : W0.heap.size ≤ gs t) :
    Calls Try.prog 82 #[.agg #[.slice (some ⟨gs t, 0, none⟩) n (Cs t)], .int .i64 a, .int .i64 i] w (SwapEnd W0 n gs Cs (swap1 hs t a i) (swap1 v t a i) w) := by
  have hu24 := Try.underlying24
  have HT := Aside0.mk hT
  have HB := Aside0.mk hB
  have HK := Aside0.mk (Keep24.refl w)
  have GEO := Aside0.mk hnew
  have HW := Aside0.mk hB.size
  clear hT hB hnew
  have q1 : decide ((a : Int) < (n : Int)) = true := decide_eq_true uX
  have q2 : decide ((i : Int) < (n : Int)) = true := decide_eq_true uX
  go_enter Try.func82, Try.ntmps82
  go_wp2_with (first
    | ((with_reducible refine gate_dst (N := 3) rfl ?_); refine box_event uY (N := 3) uY (cs := #[.slice (some ⟨gs t, 0, none⟩) n (Cs t)]) (t := 24) uM ?_; intro gx hg w1 hbox hb;
       have n0_ := Aside0.mk (below_step HB.out hb); have n1_ := Aside0.mk hbox; have n2_ := Aside0.mk (show w.heap.size ≤ gx by rw [hg]; exact Nat.le_refl _); have n3_ := Aside0.mk (HT.out.below hb); have n4_ := Aside0.mk (HK.out.below hb);
       have n5_ := Aside0.mk (show (∀ t, t < 2 → gs t ≠ gx) from fun t' ht' => by have := HT.out.lt_out ht'; omega);
       clear HB HT HK; have HB := n0_; have BKX := n1_; have GEX := n2_; have HT := n3_; have HK := n4_; have NX := n5_; clear n0_ n1_ n2_ n3_ n4_ n5_ hb hbox hg;
       have xb : w1.cell? ⟨gx, 0, none⟩ = some (.slice (some ⟨gs t, 0, none⟩) n (Cs t)) := (blk_cell BKX.out 0).trans rfl;
       have hne1 := NX.out t ht; have hne2 := (NX.out t ht).symm;
       have y1 : w1.cell? ⟨gs t, a, none⟩ = some (.slice (some ⟨(hs t a).1, 0, none⟩) n (hs t a).2) := (HT.out.out t ht).cell ha;
       have y2 : w1.cell? ⟨gs t, i, none⟩ = some (.slice (some ⟨(hs t i).1, 0, none⟩) n (hs t i).2) := (HT.out.out t ht).cell hi;
       have y3 : w1.frozen? ⟨gs t, a, none⟩ = false := (HT.out.out t ht).frozen a;
       have y4 : w1.frozen? ⟨gs t, i, none⟩ = false := (HT.out.out t ht).frozen i;
       have HO1 := (HT.out.out t ht).put a (hs t i);
       have z1 : (w1.setCell ⟨gs t, a, none⟩ (.slice (some ⟨(hs t i).1, 0, none⟩) n (hs t i).2)).cell? ⟨gs t, i, none⟩ = some (.slice (some ⟨(hs t i).1, 0, none⟩) n (hs t i).2) := (by refine (HO1.cell hi).trans ?_; simp only [ite_self]; rfl);
       have z2 : (w1.setCell ⟨gs t, a, none⟩ (.slice (some ⟨(hs t i).1, 0, none⟩) n (hs t i).2)).frozen? ⟨gs t, i, none⟩ = false := HO1.frozen i;
       clear HO1))
  go_region
  all_goals (go_wp2; go_end0)
  all_goals (exact ⟨rfl, by (with_reducible repeat (first | refine Two.drewN ?_ _ | refine Two.drew ?_)); exact HT.out.swap ht ha hi, by repeat (first | (with_reducible first | exact HB.out | apply below_alloc | apply pw_below_drewN | apply below_drew1 | refine below_set ?_ GEO.out) | exact HB.out), by (with_reducible repeat (first | refine Keep24.drewN ?_ _ | refine Keep24.drew ?_)); refine Keep24.out2 ?_ (HT.out.out t ht).blk; exact HK.out⟩)
end Go.Proofs.Ytaahnicjjpddjaa.Pr
end
section
namespace Go.Proofs.Ytaahnicjjpddjaa.Pr
open Go.RowKit Go.Proofs.YtaahnicjjpddjaaW.PrintWords Go.Proofs.YtaahnicjjpddjaaW.PrintLast Go.Proofs.YtaahnicjjpddjaaW.PrintMore Go.Proofs.Ytaahnicjjpddjaa.Fld Go.Proofs.Ytaahnicjjpddjaa.Mat Go.Proofs.Ytaahnicjjpddjaa.Fn Go.Proofs.Ytaahnicjjpddjaa.GRef
/-- while the reference turns: the boxes, both matrices. -/
structure RSt (W0 w : World) (n g2 g5 g7 : Nat) (gs Cs : Nat → Nat) (hs : Nat → Nat → Nat × Nat) (v : Nat → Nat → Nat → F) : Prop where
  below : Below W0.heap.size W0 w
  b2 : w.heap[g2]? = some (.cells #[.slice none 0 0] 24 (0, 0))
  b5 : w.heap[g5]? = some (.cells #[.slice (some ⟨gs 1, 0, none⟩) n (Cs 1)] 24 (0, 0))
  b7 : w.heap[g7]? = some (.cells #[.slice (some ⟨gs 0, 0, none⟩) n (Cs 0)] 24 (0, 0))
  two : Two w n gs Cs hs v
  gN : ∀ t, t < 2 → W0.heap.size ≤ gs t
  rN : ∀ t i, t < 2 → i < n → W0.heap.size ≤ (hs t i).1
section
variable {W0 w w' : World} {n g2 g5 g7 : Nat} {gs Cs : Nat → Nat} {hs : Nat → Nat → Nat × Nat} {v : Nat → Nat → Nat → F}
theorem RSt.of_eq (H : RSt W0 w n g2 g5 g7 gs Cs hs v) (hB : Below W0.heap.size W0 w') (e : ∀ (k : Nat) (o : Obj), w.heap[k]? = some o → w'.heap[k]? = some o) : RSt W0 w' n g2 g5 g7 gs Cs hs v :=
  ⟨hB, e _ _ H.b2, e _ _ H.b5, e _ _ H.b7, H.two.of_eq e, H.gN, H.rN⟩
theorem RSt.below' (H : RSt W0 w n g2 g5 g7 gs Cs hs v) (hb : Below w.heap.size w w') : RSt W0 w' n g2 g5 g7 gs Cs hs v :=
  H.of_eq (below_step H.below hb) (fun _ _ ho => blk_below ho hb)
theorem RSt.drewN (H : RSt W0 w n g2 g5 g7 gs Cs hs v) (x : Nat) : RSt W0 (w.drewN x) n g2 g5 g7 gs Cs hs v := H.of_eq (pw_below_drewN H.below x) (fun _ _ ho => ho)
theorem RSt.drew (H : RSt W0 w n g2 g5 g7 gs Cs hs v) : RSt W0 w.drew n g2 g5 g7 gs Cs hs v := H.of_eq (below_drew1 H.below) (fun _ _ ho => ho)
theorem RSt.keep {hs' : Nat → Nat → Nat × Nat} {v' : Nat → Nat → Nat → F} (H : RSt W0 w n g2 g5 g7 gs Cs hs v) (hB : Below W0.heap.size W0 w') (hK : Keep24 w w') (hT : Two w' n gs Cs hs' v') (hR : ∀ t i, t < 2 → i < n → W0.heap.size ≤ (hs' t i).1) : RSt W0 w' n g2 g5 g7 gs Cs hs' v' :=
  ⟨hB, hK.box _ _ H.b2, hK.box _ _ H.b5, hK.box _ _ H.b7, hT, H.gN, hR⟩
theorem RSt.congr {v' : Nat → Nat → Nat → F} (H : RSt W0 w n g2 g5 g7 gs Cs hs v) (e : ∀ t i j, t < 2 → i < n → j < n → v t i j = v' t i j) : RSt W0 w n g2 g5 g7 gs Cs hs v' :=
  ⟨H.below, H.b2, H.b5, H.b7, H.two.congr e, H.gN, H.rN⟩
theorem swap1_le {b : Nat} {t0 c i : Nat} (hc : c < n) (hi : i < n) (h : ∀ t i, t < 2 → i < n → b ≤ (hs t i).1) : ∀ t k, t < 2 → k < n → b ≤ (swap1 hs t0 c i t k).1 := by
  intro t k ht hk
  rw [swap1_from]
  exact h t _ ht (from1_lt hc hi hk)
/-- an exchange. -/
theorem rst_swap (t a i : Nat) (ht : t < 2) (ha : a < n) (hi : i < n) (H : RSt W0 w n g2 g5 g7 gs Cs hs v) :
    Calls Try.prog 82 #[.agg #[.slice (some ⟨gs t, 0, none⟩) n (Cs t)], .int .i64 a, .int .i64 i] w fun e w' => e = .returned (.tuple #[]) ∧ RSt W0 w' n g2 g5 g7 gs Cs (swap1 hs t a i) (swap1 v t a i) := by
  refine (swap_calls W0 n gs Cs hs v t a i w ht ha hi H.two H.below (H.gN t ht)).mono ?_
  rintro e w' ⟨rfl, hT, hB, hK⟩
  exact ⟨rfl, H.keep hB hK hT (swap1_le ha hi H.rN)⟩
/-- a row, times a number. -/
theorem rst_times (t a : Nat) (y : F) (hn : n ≤ 12) (ht : t < 2) (ha : a < n) (H : RSt W0 w n g2 g5 g7 gs Cs hs v) :
    Calls Try.prog 84 #[.slice (some ⟨(hs t a).1, 0, none⟩) n (hs t a).2, .int .i64 (toI y)] w fun e w' => e = .returned (.tuple #[]) ∧ RSt W0 w' n g2 g5 g7 gs Cs hs (setRow v t a (fun j => fm (v t a j) y)) := by
  have hr := H.two.row t a ht ha
  refine (ossuaryref1_times.calls 40 (fun k => k = (hs t a).1) _ (rowOf (fun j => toI (v t a j)) n) (toI y) _ W0 w H.below (R_of_row hr (H.rN t a ht ha) rfl) (rtimes_f uX (v t a) y n hn)).mono ?_
  rintro e w' ⟨rfl, hR, hB, hK⟩
  exact ⟨rfl, H.keep hB (Keep24.kept (hs := hs) (t := t) (a := a) hK hr.blk) (H.two.row_kept ht ha hK hR) H.rN⟩
/-- a row, less another one times a number. -/
theorem rst_less (t a b : Nat) (y : F) (hn : n ≤ 12) (ht : t < 2) (ha : a < n) (hb : b < n) (hab : a ≠ b) (H : RSt W0 w n g2 g5 g7 gs Cs hs v) :
    Calls Try.prog 85 #[.slice (some ⟨(hs t b).1, 0, none⟩) n (hs t b).2, .slice (some ⟨(hs t a).1, 0, none⟩) n (hs t a).2, .int .i64 (toI y)] w fun e w' => e = .returned (.tuple #[]) ∧ RSt W0 w' n g2 g5 g7 gs Cs hs (setRow v t b (fun j => v t b j ^^^ fm (v t a j) y)) := by
  have hr := H.two.row t b ht hb
  have hra := H.two.row t a ht ha
  have hl := rowOf_length (fun j => toI (v t a j)) n
  have h := ossuaryref1_less.calls 40 (fun k => k = (hs t b).1) _ (rowOf (fun j => toI (v t b j)) n) (some ⟨(hs t a).1, 0, none⟩) (hs t a).2 (rowOf (fun j => toI (v t a j)) n) (toI y) _ W0 w H.below (R_of_row hr (H.rN t b ht hb) rfl)
    (fun W_ hk => by
      rw [hl]
      exact (hra.of_eq (fun _ ho => blk_kept ho hk (fun e => hab (H.two.apart t a t b ht ha ht hb e).2))).toC)
    (by rw [hl]; obtain ⟨_, _, _, h3, _⟩ := hra; exact h3) (rless_f uX (v t b) (v t a) y n hn)
  rw [hl] at h
  refine h.mono ?_
  rintro e w' ⟨rfl, hR, hB, hK⟩
  exact ⟨rfl, H.keep hB (Keep24.kept (hs := hs) (t := t) (a := b) hK hr.blk) (H.two.row_kept ht hb hK hR) H.rN⟩
/-- a row copied over another one, in place. -/
theorem setRow_two {cur : Array Value} {t a : Nat} {r : Nat → F} (ht : t < 2) (ha : a < n) (H : RSt W0 w n g2 g5 g7 gs Cs hs v) (hc : w.heap[(hs t a).1]? = some (.cells cur 3 (0, 0))) (hs' : cur.size = (hs t a).2) (hn : n ≤ cur.size) :
    RSt W0 (w.setRow (hs t a).1 (cur.toList.take 0 ++ (((List.range n).map fun j => Value.int .i64 (toI (r j))) ++ cur.toList.drop (0 + ((List.range n).map fun j => Value.int .i64 (toI (r j))).length))).toArray) n g2 g5 g7 gs Cs hs (setRow v t a r) := by
  obtain ⟨W, hW⟩ : ∃ W, W = w.setRow (hs t a).1 (cur.toList.take 0 ++ (((List.range n).map fun j => Value.int .i64 (toI (r j))) ++ cur.toList.drop (0 + ((List.range n).map fun j => Value.int .i64 (toI (r j))).length))).toArray := ⟨_, rfl⟩
  have hnew := setRow_heap w (hs t a).1 cur (cur.toList.take 0 ++ (((List.range n).map fun j => Value.int .i64 (toI (r j))) ++ cur.toList.drop (0 + ((List.range n).map fun j => Value.int .i64 (toI (r j))).length))).toArray 3 (0, 0) hc
  have hoth : ∀ k, k ≠ (hs t a).1 → W.heap[k]? = w.heap[k]? := fun k hk => by rw [hW]; exact setRow_other w _ k _ hk
  rw [← hW] at hnew ⊢
  have hB : Below W0.heap.size W0 W := by rw [hW]; exact below_setRow H.below (H.rN t a ht ha) _
  have hbox : ∀ {g : Nat} {cs : Array Value}, w.heap[g]? = some (.cells cs 24 (0, 0)) → W.heap[g]? = some (.cells cs 24 (0, 0)) := fun {g cs} h => by
    rw [hoth g (blk_ne h hc q9)]; exact h
  obtain ⟨cur0, q1, q2, q3, q4, q5⟩ := H.two.row t a ht ha
  refine ⟨hB, hbox H.b2, hbox H.b5, hbox H.b7, ⟨fun t' ht' => (H.two.out t' ht').of_eq (fun o ho => by rw [hoth _ (out_ne_row (H.two.out t' ht') (H.two.row t a ht ha))]; exact ho), fun t' i ht' hi => ?_, H.two.apart, H.two.gapart⟩, H.gN, H.rN⟩
  by_cases e : t' = t ∧ i = a
  · obtain ⟨rfl, rfl⟩ := e
    refine ⟨_, hnew, ?_, q3, q4, fun j hj => ?_⟩
    · simp only [List.size_toArray, List.length_append, List.length_take, List.length_drop, List.length_map, List.length_range, Array.length_toList]
      omega
    · have e1 : setRow v t' i r t' i j = r j := by unfold setRow; rw [if_pos ⟨rfl, rfl⟩]
      rw [e1, List.take_zero, List.nil_append, List.getElem?_toArray, List.getElem?_append_left (by simp; exact hj), List.getElem?_map, List.getElem?_range hj]
      rfl
  · refine ((H.two.row t' i ht' hi).of_eq (fun o ho => by rw [hoth _ (fun h => e (H.two.apart t' i t a ht' hi ht ha h))]; exact ho)).congr (fun j _ => ?_)
    unfold setRow
    rw [if_neg e]
end
/-- the copy of a row, as one step of a region. -/
theorem step_copy_row {P : Program} {ops : Array Oper} {o : Oper} {a : Act} {w : World} {K : Act → World → Prop} {Q : Exit → Act → World → Prop} {E : Prop} (hgd : o.guard = none) (d s : Operand) (dT sT : TypeId)
    (ho : o.op = .call { callee := .builtin .copy, args := #[d, s], argTypes := #[dT, sT] }) (elem : TypeId) (hu : P.underlying dT = some (.slice elem)) (hsz : (P.info? elem).map (·.size) = some 1)
    (g off dLen dCap : Nat) (ad : Addr) (sLen sCap : Nat) (hd : a.eval d = .slice (some ⟨g, off, none⟩) dLen dCap) (hs : a.eval s = .slice (some ad) sLen sCap)
    (cur : Array Value) (t : TypeId) (hg : w.heap[g]? = some (.cells cur t (0, 0))) (cs : List Value) (hn : cs.length = Nat.min sLen dLen)
    (hsrc : ∀ j v, cs[j]? = some v → w.cell? (ad.add j) = some v) (hfit : off + cs.length ≤ cur.size) (h1 : ∀ v ∈ cs, v.oneCell' = true)
    (h : K (a.put o.dst (goInt cs.length)) (w.setRow g (cur.toList.take off ++ (cs ++ cur.toList.drop (off + cs.length))).toArray)) :
    if Region.wanted o (yielded ops a.tmps) = true then Oper.wp P o a w K Q else E := by
  have hw : Region.wanted o (yielded ops a.tmps) = true := by simp [Region.wanted, hgd]
  rw [if_pos hw]
  have hrun := run_copy_row (P := P) w dT sT o.type elem g off dLen dCap ad sLen sCap cur t cs hu hsz hg hn hsrc hfit h1
  unfold Oper.wp
  simp [execOp, ho, resolve, invoke, builtin, hd, hs, hrun, Result.andThen]
  exact h
end Go.Proofs.Ytaahnicjjpddjaa.Pr
end
