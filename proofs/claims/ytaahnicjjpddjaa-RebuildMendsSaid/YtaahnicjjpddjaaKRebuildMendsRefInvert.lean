/- The reference's inverse of a matrix: the call's walk, by hand (its text is written by wip/mkrefinv.py). No condition. -/
import Derived.Test.YtaahnicjjpddjaaKRebuildMendsRefInvSt
namespace Go.Proofs.Ytaahnicjjpddjaa.Pr
open Go.RowKit Go.Proofs.YtaahnicjjpddjaaW.PrintWords Go.Proofs.YtaahnicjjpddjaaW.PrintLast Go.Proofs.YtaahnicjjpddjaaW.PrintMore Go.Proofs.Ytaahnicjjpddjaa.Fld Go.Proofs.Ytaahnicjjpddjaa.Mat Go.Proofs.Ytaahnicjjpddjaa.Fn Go.Proofs.Ytaahnicjjpddjaa.GRef
set_option linter.unusedSimpArgs false
set_option linter.unusedVariables false
def rinv9_T : Bool × List (List Nat × List Nat) := (true, [([], []), ([0], [0]), ([], []), ([1, 2], [1, 2]), ([3], [3]), ([], []), ([5], [5]), ([], []), ([6, 7], [6, 7]), ([8], [8]), ([4, 9], [4, 9])])
def rinv9_B : List Nat := [0, 1, 0, 7, 15, 0, 32, 0, 224, 480, 1023]
theorem rinv9_tab : rtab .any (opsOf Try.f41 9) = rinv9_T := by kernel_rfl
theorem rinv9_bits : waitsOk rinv9_T.2 rinv9_B = true := by kernel_rfl
def rinv28_T : Bool × List (List Nat × List Nat) := (true, [([], []), ([0], [0]), ([], []), ([1, 2], [1, 2]), ([3], [3]), ([], []), ([5], [5]), ([], []), ([6, 7], [6, 7]), ([8], [8]), ([], []), ([4, 9, 10], [4, 9, 10])])
def rinv28_B : List Nat := [0, 1, 0, 7, 15, 0, 32, 0, 224, 480, 0, 2047]
theorem rinv28_tab : rtab .any (opsOf Try.f41 28) = rinv28_T := by kernel_rfl
theorem rinv28_bits : waitsOk rinv28_T.2 rinv28_B = true := by kernel_rfl
def rinv29_T : Bool × List (List Nat × List Nat) := (true, [([], []), ([0], [0]), ([], []), ([1, 2], [1, 2]), ([3], [3]), ([], []), ([5], [5]), ([], []), ([6, 7], [6, 7]), ([8], [8]), ([], []), ([4, 9, 10], [4, 9, 10])])
def rinv29_B : List Nat := [0, 1, 0, 7, 15, 0, 32, 0, 224, 480, 0, 2047]
theorem rinv29_tab : rtab .any (opsOf Try.f41 29) = rinv29_T := by kernel_rfl
theorem rinv29_bits : waitsOk rinv29_T.2 rinv29_B = true := by kernel_rfl
theorem swap1_swaps {α : Type} (f : Nat → Nat → α) (a i : Nat) : swap1 f 0 a i = swaps f a i 1 := by rw [← swaps_step, swaps_zero]
theorem scaled_rows (v : Nat → Nat → Nat → F) (c : Nat) (y : F) (t i j : Nat) (ht : t < 2) : setRow (setRow v 0 c (fun j => fm (v 0 c j) y)) 1 c (fun j => fm (setRow v 0 c (fun j => fm (v 0 c j) y) 1 c j) y) t i j = scaled v c y 2 0 t i j := by
  unfold setRow scaled
  by_cases h : i = c
  · rw [h]
    rcases (show t = 0 ∨ t = 1 by omega) with rfl | rfl
    · simp
    · simp
  · simp [h]
theorem cleared_rows (v : Nat → Nat → Nat → F) (c b : Nat) (y : F) (hcb : c ≠ b) (t i j : Nat) (ht : t < 2) : setRow (setRow v 0 b (fun j => v 0 b j ^^^ fm (v 0 c j) y)) 1 b (fun j => setRow v 0 b (fun j => v 0 b j ^^^ fm (v 0 c j) y) 1 b j ^^^ fm (setRow v 0 b (fun j => v 0 b j ^^^ fm (v 0 c j) y) 1 c j) y) t i j = cleared v c b y 2 0 t i j := by
  unfold setRow cleared
  by_cases h : i = b
  · rw [h]
    rcases (show t = 0 ∨ t = 1 by omega) with rfl | rfl
    · simp
    · simp
  · simp [h]
/-- the rows of the first matrix that are copied. -/
def part (m : Nat → Nat → F) (i : Nat) : Nat → Nat → Nat → F := v2 (fun a b => if a < i then m a b else 0#8) delta
theorem part_step (m : Nat → Nat → F) (i t a b : Nat) (ht : t < 2) : setRow (part m i) 0 i (m i) t a b = part m (i + 1) t a b := by
  unfold setRow part v2
  rcases (show t = 0 ∨ t = 1 by omega) with rfl | rfl
  · by_cases h : a = i
    · rw [h]; simp
    · by_cases h2 : a < i
      · simp [h, h2, show a < i + 1 by omega]
      · simp [h, h2, show ¬ a < i + 1 by omega]
  · simp
theorem RSt.start {W0 w w1 : World} {n g2 g5 g7 gI CI gA CA : Nat} {hsI hsA : Nat → Nat × Nat} (hB : Below W0.heap.size W0 w) (hb : Below w.heap.size w w1) (h2 : w.heap[g2]? = some (.cells #[.slice none 0 0] 24 (0, 0)))
    (h5 : w.heap[g5]? = some (.cells #[.slice (some ⟨gI, 0, none⟩) n CI] 24 (0, 0))) (h7 : w1.heap[g7]? = some (.cells #[.slice (some ⟨gA, 0, none⟩) n CA] 24 (0, 0)))
    (hI : OutAt w gI CI n hsI) (hIr : ∀ i, i < n → RowAt w (hsI i) n (delta i) ∧ W0.heap.size ≤ (hsI i).1) (hIa : ∀ i j, i < n → j < n → (hsI i).1 = (hsI j).1 → i = j)
    (hA : OutAt w gA CA n hsA) (hAr : ∀ i, i < n → RowAt w (hsA i) n (fun _ => 0#8) ∧ W0.heap.size ≤ (hsA i).1) (hAa : ∀ i j, i < n → j < n → (hsA i).1 = (hsA j).1 → i = j)
    (hx : ∀ i j, i < n → j < n → (hsA i).1 ≠ (hsI j).1) (hgI : W0.heap.size ≤ gI) (hgA : W0.heap.size ≤ gA) (hne : gA ≠ gI) (m : Nat → Nat → F) :
    RSt W0 w1 n g2 g5 g7 (gs2 gA gI) (gs2 CA CI) (hs2 hsA hsI) (part m 0) := by
  have far : ∀ {g : Nat} {o : Obj}, w.heap[g]? = some o → w1.heap[g]? = some o := fun h => blk_below h hb
  have two : ∀ {t : Nat}, t < 2 → t = 0 ∨ t = 1 := fun h => by omega
  refine ⟨below_step hB hb, far h2, far h5, h7, ⟨fun t ht => ?_, fun t i ht hi => ?_, fun t i t' i' ht hi ht' hi' e => ?_, hne⟩, fun t ht => ?_, fun t i ht hi => ?_⟩
  · rcases two ht with rfl | rfl
    · exact hA.of_eq (fun _ ho => far ho)
    · exact hI.of_eq (fun _ ho => far ho)
  · rcases two ht with rfl | rfl
    · exact ((hAr i hi).1.of_eq (fun _ ho => far ho)).congr (fun j _ => by unfold part v2; simp)
    · exact (hIr i hi).1.of_eq (fun _ ho => far ho)
  · rcases two ht with rfl | rfl <;> rcases two ht' with rfl | rfl
    · exact ⟨rfl, hAa i i' hi hi' e⟩
    · exact absurd e (hx i i' hi hi')
    · exact absurd e.symm (hx i' i hi' hi)
    · exact ⟨rfl, hIa i i' hi hi' e⟩
  · rcases two ht with rfl | rfl
    · exact hgA
    · exact hgI
  · rcases two ht with rfl | rfl
    · exact (hAr i hi).2
    · exact (hIr i hi).2
set_option maxHeartbeats 4000000 in
set_option maxRecDepth 100000 in
theorem rinvert_walk (A0 : Option Addr) (c0 n : Nat) (m : Nat → Nat → F) (w : World) (h1 : 1 ≤ n) (h2 : n ≤ 12) (hr : Kd.C (Kd.slice 3 (Kd.int .i64)) w A0 n (fmat m n n)) (hc : n ≤ c0) :
    Calls Try.prog 41 #[.agg #[.slice A0 n c0]] w (InvEnd w n m) := by
  have hu24 := Try.underlying24
  have HR := Aside0.mk hr
  have HB := Aside0.mk (Below.refl w.heap.size w)
  have HMay : Aside0 (ossuaryref1_MatrixMay.f 300 (fmat m n n) = some true) := ⟨by rw [rmay_f uV, fmat_may m n n h1 h2 h1 h2]⟩
  obtain ⟨ad, R0, d0, e0, x0, _, y0⟩ := GBase.at_L1 hr 0 uV uV
  subst e0
  have HC := Aside0.mk hc
  clear hr
  have CM : ∀ W, Kd.C (Kd.slice 3 (Kd.int .i64)) W (some ad) n (fmat m n n) → Calls Try.prog 37 #[.agg #[.slice (some ad) n c0]] W fun e w' => e = .returned (.bool true) ∧ Below W.heap.size W w' := by
    intro W hW
    have h := ossuaryref1_MatrixMay.calls 300 (some ad) c0 (fmat m n n) true W (by rw [fmat_length]; exact hW) (by rw [fmat_length]; exact hc) HMay.out
    rw [fmat_length] at h
    exact h
  have HRW := Aside0.mk (show ∀ i, i < n → ∃ A' c', w.cell? (ad.add i) = some (.slice A' n c') ∧ n ≤ c' ∧ Kd.C (Kd.int .i64) w A' n (rowOf (fun j => toI (m i j)) n) from fun i hi => by
    obtain ⟨ad', A', c', e, x, hl, hC⟩ := GBase.at_L1 HR.out (i : Int) uV uV
    cases e
    rw [Int.toNat_natCast] at x
    rw [rdL _ i (by rw [fmat_length]; exact hi), fmat_get, rowOf_length] at x hl hC
    exact ⟨A', c', x, hl, hC⟩)
  go_enter Try.func41, Try.ntmps41
  go_wp2_with (first
    | ((with_reducible refine gate_dst (N := 1) rfl ?_); refine box_event uW (N := 1) uW (cs := #[.slice (some ad) n c0]) (t := 24) uL ?_; intro g1 hg w1 hbox hb;
       have n0_ := Aside0.mk (below_step ul hb); have n1_ := Aside0.mk (hbox); have n2_ := Aside0.mk ((nB hg HB));
       clear HB; have HB := n0_; have BK1 := n1_; have GE1 := n2_; clear n0_ n1_ n2_; clear hb hbox hg; have hcz := (blk_cell BK1.out 0); have hfz := blk_frozen BK1.out 0)
    | ((with_reducible refine gate_dst (N := 2) rfl ?_); refine box_event uW (N := 2) uW (cs := #[.slice none 0 0]) (t := 24) uL ?_; intro g2 hg w2 hbox hb;
       have n0_ := Aside0.mk (below_step ul hb); have n1_ := Aside0.mk (hbox); have n2_ := Aside0.mk ((nB hg HB)); have n3_ := Aside0.mk (blk_below BK1.out hb); have n4_ := Aside0.mk (uK : g1 ≠ g2);
       clear HB BK1 hcz hfz; have HB := n0_; have BK2 := n1_; have GE2 := n2_; have BK1 := n3_; have NB := n4_; clear n0_ n1_ n2_ n3_ n4_; clear hb hbox hg; have hcz := (blk_cell BK1.out 0); have hfz := blk_frozen BK1.out 0))
  have e0 : (GBase.rd_L1 (fmat m n n) 0).length = n := by rw [show (0 : Int) = ((0 : Nat) : Int) from rfl, rdL _ 0 uP, fmat_get, rowOf_length]
  have q0 : decide ((0 : Int) < (n : Int)) = true := decide_eq_true uV
  have q1 : ((n : Int) != (n : Int)) = false := by simp
  have r0 := eq_true (show (0 : Int) < (n : Int) by omega)
  have r1 := eq_true (show 0 < n by omega)
  have q2 : decide (0 < n) = true := decide_eq_true uV
  go_cut [27] (fun v27 wc => v27 = .bool false ∧ Aside0 (wc.heap[g1]? = some (.cells #[.slice (some ad) n c0] 24 (0, 0))) ∧ Aside0 (wc.heap[g2]? = some (.cells #[.slice none 0 0] 24 (0, 0))) ∧ Aside0 (Below w.heap.size w wc))
  case first =>
    go_region_with (go_at_call 37; (with_reducible refine (CM _ ?side1).mono ?_); (case side1 => exact cB (Kd.C_below HR.out HB.out)); rintro e w3 ⟨rfl, hb⟩; have n0_ := Aside0.mk (below_step ul hb); have n1_ := Aside0.mk (blk_below (bB BK1.out) hb); have n2_ := Aside0.mk (blk_below (bB BK2.out) hb); have x0' := pw_cell_below n0_.out x0; rw [e0] at x0'; have x0b := x0'; rw [show ad.add (0 : Int).toNat = ad from add0 ad] at x0b; clear HB BK1 BK2 hcz hfz; have HB := n0_; have BK1 := n1_; have BK2 := n2_; clear n0_ n1_ n2_ hb; have hcz := (blk_cell BK1.out 0); have hfz := blk_frozen BK1.out 0)
    all_goals (go_wp2; go_meet)
    all_goals (exact ⟨rfl, ⟨bB BK1.out⟩, ⟨bB BK2.out⟩, ⟨ul⟩⟩)
  case rest =>
    clear BK1 BK2 HB hcz hfz
    obtain ⟨rfl, BK1, BK2, HB⟩ := hcut
    have hcz := (blk_cell BK1.out 0)
    have HId : Aside0 (ossuaryref1_Identity.f 201 (n : Int) = some (idM n, 0)) := ⟨rid_f uV n h1 h2⟩
    have HBl : Aside0 (ossuaryref1_blank.f 40 (n : Int) (n : Int) = some (fmat (fun _ _ => 0#8) n n)) := ⟨blank_f uV n n h2 h2⟩
    go_wp2_with (first
      | (go_at_call 33; (with_reducible refine (ossuaryref1_Identity.calls 201 (n : Int) _ _ _ HId.out).mono ?_); rintro e w4 ⟨vI, rfl, hI, hb⟩;
         have n0_ := Aside0.mk (below_step ul hb); have n1_ := Aside0.mk (blk_below (bB BK1.out) hb); have n2_ := Aside0.mk (blk_below (bB BK2.out) hb);
         have n3_ := mat_of_S h1 hI; have HBW := Aside0.mk (below_size ul);
         clear HB BK1 BK2 hcz; have HB := n0_; have BK1 := n1_; have BK2 := n2_; clear n0_ n1_ n2_ hb hI; obtain ⟨gI, CI, hsI, eI, gI0, oI, rI, aI⟩ := n3_; subst eI; have HOI := Aside0.mk oI; have HRI := Aside0.mk rI; have HAI := Aside0.mk aI; have GEI := Aside0.mk gI0; clear oI rI aI gI0; have hcz := (blk_cell BK1.out 0); have hfz := blk_frozen BK1.out 0)
      | ((with_reducible refine gate_dst (N := 5) rfl ?_); refine box_event uW (N := 5) uW (cs := #[.slice none 0 0]) (t := 24) uL ?_; intro g5 hg w5 hbox hb;
         have n0_ := Aside0.mk (below_step ul hb); have n1_ := Aside0.mk (blk_below BK1.out hb); have n2_ := Aside0.mk (blk_below BK2.out hb); have n3_ := Aside0.mk hbox; have n4_ := Aside0.mk ((by rw [hg]; exact (below_size ul)) : w.heap.size ≤ g5);
         have n5_ : g1 ≠ g5 := by rw [hg]; exact Nat.ne_of_lt (blk_lt BK1.out);
         have n6_ : g2 ≠ g5 := by rw [hg]; exact Nat.ne_of_lt (blk_lt BK2.out);
         have n7_ := Aside0.mk (HOI.out.of_eq (fun _ ho => blk_below ho hb));
         have n8_ := Aside0.mk (show ∀ i, i < n → RowAt w5 (hsI i) n (delta i) ∧ w.heap.size ≤ (hsI i).1 from fun i hi => ⟨(HRI.out i hi).1.of_eq (fun _ ho => blk_below ho hb), Nat.le_trans HBW.out (HRI.out i hi).2⟩);
         clear HB BK1 BK2 hcz hfz HOI HRI; have HB := n0_; have BK1 := n1_; have BK2 := n2_; have BK5 := n3_; have GE5 := n4_; have N15 := n5_; have N25 := n6_; have HOI := n7_; have HRI := n8_; have N51 := n5_.symm; clear n0_ n1_ n2_ n3_ n4_ n5_ n6_ n7_ n8_ hb hbox hg; have hcz := (blk_cell BK1.out 0); have hfz := blk_frozen BK1.out 0; have hcz5 := (blk_cell BK5.out 0); have hfz5 := blk_frozen BK5.out 0)
      | (go_at_call 66; (with_reducible refine (ossuaryref1_blank.calls 40 (n : Int) (n : Int) _ _ HBl.out).mono ?_); rintro e w6 ⟨vA, rfl, hA, hb⟩;
         have nb_ : Below w.heap.size w (w5.setCell ⟨g5, 0, none⟩ (.slice (some ⟨gI, 0, none⟩) n CI)) := (by repeat (first | (with_reducible first | exact HB.out | apply below_alloc | apply pw_below_drewN | apply below_drew1 | refine below_set ?_ GE5.out) | exact HB.out));
         have n0_ := Aside0.mk (below_step nb_ hb);
         have n1_ := Aside0.mk (blk_below (blk_far BK1.out N15 (p := ⟨g5, 0, none⟩) (.slice (some ⟨gI, 0, none⟩) n CI)) hb);
         have n2_ := Aside0.mk (blk_below (blk_far BK2.out N25 (p := ⟨g5, 0, none⟩) (.slice (some ⟨gI, 0, none⟩) n CI)) hb);
         have n3_ := Aside0.mk (blk_below (blk_put BK5.out 0 (.slice (some ⟨gI, 0, none⟩) n CI) rfl) hb);
         have nI_ : gI ≠ g5 := by obtain ⟨cI, hcI, _⟩ := HOI.out; exact blk_ne hcI BK5.out uZ;
         have nR_ : ∀ i, i < n → (hsI i).1 ≠ g5 := fun i hi => by obtain ⟨cI, hcI, _⟩ := (HRI.out i hi).1; exact blk_ne hcI BK5.out uZ;
         have n4_ := (HOI.out.far (p := ⟨g5, 0, none⟩) nI_ (.slice (some ⟨gI, 0, none⟩) n CI));
         have n9_ := (show ∀ i, i < n → RowAt (w5.setCell ⟨g5, 0, none⟩ (.slice (some ⟨gI, 0, none⟩) n CI)) (hsI i) n (delta i) from fun i hi => (HRI.out i hi).1.far (p := ⟨g5, 0, none⟩) (nR_ i hi) (.slice (some ⟨gI, 0, none⟩) n CI));
         obtain ⟨gA, CA, hsA, eA, gA0, oA, rA, aA⟩ := mat_of_S h1 hA; subst eA;
         have n5_ := Aside0.mk (n4_.of_eq (fun _ ho => blk_below ho hb));
         have n6_ := Aside0.mk (show ∀ i, i < n → RowAt w6 (hsI i) n (delta i) ∧ w.heap.size ≤ (hsI i).1 from fun i hi => ⟨(n9_ i hi).of_eq (fun _ ho => blk_below ho hb), (HRI.out i hi).2⟩);
         have n7_ := Aside0.mk (show w.heap.size ≤ gA from Nat.le_trans (below_size nb_) gA0);
         have n8_ := Aside0.mk (show gA ≠ gI by obtain ⟨cI, hcI, _⟩ := n4_; have := blk_lt hcI; omega);
         have nO_ := Aside0.mk oA; have nP_ := Aside0.mk (show ∀ i, i < n → RowAt w6 (hsA i) n (fun _ => 0#8) ∧ w.heap.size ≤ (hsA i).1 from fun i hi => ⟨(rA i hi).1, Nat.le_trans (below_size nb_) (rA i hi).2⟩); have nQ_ := Aside0.mk aA;
         have nX_ := Aside0.mk (show ∀ i j, i < n → j < n → (hsA i).1 ≠ (hsI j).1 from fun i j hi hj => by obtain ⟨cI, hcI, _⟩ := n9_ j hj; have := blk_lt hcI; have := (rA i hi).2; omega);
         clear HB BK1 BK2 BK5 hcz hfz hcz5 hfz5 HOI HRI nb_ nI_ nR_ n4_ n9_; have HB := n0_; have BK1 := n1_; have BK2 := n2_; have BK5 := n3_; have HOI := n5_; have HRI := n6_; have GEA := n7_; have NAI := n8_; have HOA := nO_; have HRA := nP_; have HAA := nQ_; have HX := nX_; clear n0_ n1_ n2_ n3_ n5_ n6_ n7_ n8_ nO_ nP_ nQ_ nX_ hb hA oA rA aA gA0; have hcz := (blk_cell BK1.out 0); have hfz := blk_frozen BK1.out 0; have hcz5 := (blk_cell BK5.out 0); have hfz5 := blk_frozen BK5.out 0))
    have HST : Aside0 (RSt w (w6.alloc (Obj.cells #[Value.slice (some { block := gA, off := 0 }) n CA] 24)) n g2 g5 w6.heap.size (gs2 gA gI) (gs2 CA CI) (hs2 hsA hsI) (part m 0)) := ⟨RSt.start HB.out ((Below.refl _ _).alloc (Nat.le_refl _) _) BK2.out BK5.out (blk_new _ _) HOI.out HRI.out HAI.out HOA.out HRA.out HAA.out HX.out (Nat.le_trans HBW.out GEI.out) GEA.out NAI.out m⟩
    have HB1 : Aside0 ((w6.alloc (Obj.cells #[Value.slice (some { block := gA, off := 0 }) n CA] 24)).heap[g1]? = some (.cells #[.slice (some ad) n c0] 24 (0, 0))) := ⟨blk_alloc BK1.out _⟩
    have GN2 := Aside0.mk (show w.heap.size ≤ g2 from GE2.out)
    clear HB BK1 BK2 BK5 hcz hfz hcz5 hfz5 HOI HRI HAI GEI GE1 GE2 GE5 HBW HMay HId HBl CM N15 N25 N51 NB GEA NAI HOA HRA HAA HX
    generalize (w6.alloc (Obj.cells #[Value.slice (some { block := gA, off := 0 }) n CA] 24)) = wq at HST HB1 ⊢
    generalize w6.heap.size = g7 at HST ⊢
    go_loopw [8] (fun v8 wr => ∃ i : Nat, v8 = .int .i64 i ∧ i ≤ n ∧ Aside0 (RSt w wr n g2 g5 g7 (gs2 gA gI) (gs2 CA CI) (hs2 hsA hsI) (part m i)) ∧ Aside0 (wr.heap[g1]? = some (.cells #[.slice (some ad) n c0] 24 (0, 0)))) (fun v _ => n - (intOf v).toNat)
    case atStart => exact ⟨0, rfl, uV, HST, HB1⟩
    case round =>
      clear HST HB1
      obtain ⟨i, rfl, hin, HST, HB1⟩ := hrel
      by_cases hlt : i < n
      · obtain ⟨A', c', xr, hlc, hCr⟩ := HRW.out i hlt
        have s1 : decide ((i : Int) < (n : Int)) = true := decide_eq_true uV
        have HXR := Aside0.mk xr
        have HCR := Aside0.mk hCr
        clear xr hCr
        go_wp2
        have HSU := Aside0.mk (RSt.drew HST.out)
        have HB2 := Aside0.mk (blk_drew HB1.out)
        clear HST HB1
        obtain ⟨adr, er⟩ : ∃ adr, A' = some adr := by
          obtain ⟨_, _, h3⟩ := HCR.out
          obtain ⟨x, ex, _⟩ := h3 uV
          exact ⟨x, ex⟩
        subst er
        have u1 : (0 ≤ (i : Int)) = True := eq_true uV
        have u2 : ((i : Int) < (n : Int)) = True := eq_true uV
        have u3 : (i < n) = True := eq_true hlt
        obtain ⟨ra, hra⟩ : ∃ x, x = hsA i := ⟨_, rfl⟩
        have HRR := Aside0.mk hra
        clear hra
        have SX : ∀ W : World, RSt w W n g2 g5 g7 (gs2 gA gI) (gs2 CA CI) (hs2 hsA hsI) (part m i) → W.heap[g1]? = some (.cells #[.slice (some ad) n c0] 24 (0, 0)) → W.cell? ⟨g7, 0, none⟩ = some (.slice (some ⟨gA, 0, none⟩) n CA) ∧ W.cell? ⟨gA, i, none⟩ = some (.slice (some ⟨ra.1, 0, none⟩) n ra.2) ∧ W.cell? ⟨g1, 0, none⟩ = some (.slice (some ad) n c0) ∧ W.cell? (ad.add i) = some (.slice (some adr) n c') := fun W hW hg => ⟨blk_cell hW.b7 0, by rw [HRR.out]; exact (hW.two.out 0 uV).cell hlt, blk_cell hg 0, pw_cell_below hW.below HXR.out⟩
        refine start_ (n := 11) (S := fun w' => w'.cell? ⟨g7, 0, none⟩ = some (.slice (some ⟨gA, 0, none⟩) n CA) ∧ w'.cell? ⟨gA, i, none⟩ = some (.slice (some ⟨ra.1, 0, none⟩) n ra.2) ∧ w'.cell? ⟨g1, 0, none⟩ = some (.slice (some ad) n c0) ∧ w'.cell? (ad.add i) = some (.slice (some adr) n c')) (ds := [10]) (bz 11 0) uT rfl rfl (SX _ HSU.out HB2.out) (fun hHeld => ?_); refine with_tabW rinv9_tab rinv9_bits (fun HT_ HW_ => ?_)
        generalize wr.drew = w42 at HSU HB2 hHeld ⊢
        clear SX
        refine pU 0 45 (bz 11 1) HT_.out ?_
        refine pT4 1 46 (bz 11 3) HT_.out HW_.out hHeld ?_
        refine pU 2 47 (bz 11 7) HT_.out ?_
        refine pU 3 48 (bz 11 15) HT_.out ?_
        refine pT4 4 49 (bz 11 31) HT_.out HW_.out hHeld ?_
        refine pU 5 50 (bz 11 63) HT_.out ?_
        refine pT4 6 51 (bz 11 127) HT_.out HW_.out hHeld ?_
        refine pU 7 52 (bz 11 255) HT_.out ?_
        refine pU 8 53 (bz 11 511) HT_.out ?_
        refine pT4 9 54 (bz 11 1023) HT_.out HW_.out hHeld ?_
        refine last_ (i := 10) (N := some 55) (bz 11 2047) rfl rfl (pO HT_.out) uZ (fun K hK => ?_)
        obtain ⟨cur, hcur, hsz, hle, _, _⟩ := HSU.out.two.row 0 i uV hlt
        have hcur' : w42.heap[ra.1]? = some (.cells cur 3 (0, 0)) := by rw [HRR.out]; exact hcur
        have hlen : ((List.range n).map fun j => Value.int .i64 (toI (m i j))).length = n := by simp
        refine step_copy_row rfl (.tmp 49) (.tmp 54) 25 25 rfl 3 Try.underlying25 uT ra.1 0 n ra.2 adr n c' rfl rfl cur 3 hcur' ((List.range n).map fun j => Value.int .i64 (toI (m i j))) (by rw [hlen]; exact (Nat.min_self n).symm) (fun j u hu => ?_) (by rw [hlen]; rw [hsz]; omega) (fun u hu => ?_) ?_
        · obtain ⟨hj, hu2⟩ := List.getElem?_eq_some_iff.1 hu
          rw [hlen] at hj
          rw [List.getElem_map, List.getElem_range] at hu2
          obtain ⟨ad2, e2, hx2⟩ := Kd.at_int (Kd.C_below HCR.out HSU.out.below) (j : Int) uV uV
          cases e2
          rw [Int.toNat_natCast, rd_rowOf _ _ _ hj] at hx2
          rw [← hu2]
          exact hx2
        · obtain ⟨j, _, rfl⟩ := List.mem_map.1 hu
          rfl
        refine hK.out _ _ ?_
        refine pM (some 55) ?_
        refine done_ (done_of HT_.out uT) ?_
        have HNX : Aside0 (RSt w (w42.setRow ra.1 (cur.toList.take 0 ++ (((List.range n).map fun j => Value.int .i64 (toI (m i j))) ++ cur.toList.drop (0 + ((List.range n).map fun j => Value.int .i64 (toI (m i j))).length))).toArray) n g2 g5 g7 (gs2 gA gI) (gs2 CA CI) (hs2 hsA hsI) (part m (i + 1))) := ⟨by
          have h := setRow_two (r := m i) (show 0 < 2 by omega) hlt HSU.out hcur hsz (by rw [hsz]; exact hle)
          rw [HRR.out]
          exact h.congr (fun t a b ht _ _ => part_step m i t a b ht)⟩
        have HNB : Aside0 ((w42.setRow ra.1 (cur.toList.take 0 ++ (((List.range n).map fun j => Value.int .i64 (toI (m i j))) ++ cur.toList.drop (0 + ((List.range n).map fun j => Value.int .i64 (toI (m i j))).length))).toArray).heap[g1]? = some (.cells #[.slice (some ad) n c0] 24 (0, 0))) := ⟨by
          rw [setRow_other w42 ra.1 g1 _ (blk_ne HB2.out hcur' uZ)]
          exact HB2.out⟩
        clear hcur hcur' hsz hle HSU HB2 hHeld hK
        generalize (w42.setRow ra.1 _) = w50 at HNX HNB ⊢
        go_wp2
        go_roundw
        case rel => exact ⟨i + 1, uU, uV, HNX, HNB⟩
        case measure => simp only [intOf]; omega
      · obtain rfl : n = i := by omega
        clear HRW hlt hin HB1
        have s1 : decide ((n : Int) < (n : Int)) = false := decide_eq_false uV
        have HES := Aside0.mk (show ∃ hs v, RSt w wr n g2 g5 g7 (gs2 gA gI) (gs2 CA CI) hs v ∧ Stands n m 0 v from ⟨_, _, HST.out.congr (v' := v2 m delta) (fun t a b ht ha _ => by
          unfold part v2
          rcases (show t = 0 ∨ t = 1 by omega) with rfl | rfl
          · simp [ha]
          · simp), Stands.start n m _ rfl rfl⟩)
        clear HST
        go_wp2
        go_loopw [9] (fun v9 wr => ∃ c : Nat, v9 = .int .i64 c ∧ c ≤ n ∧ Aside0 (∃ hs v, RSt w wr n g2 g5 g7 (gs2 gA gI) (gs2 CA CI) hs v ∧ Stands n m c v)) (fun v _ => n - (intOf v).toNat)
        case atStart => exact ⟨0, rfl, uV, HES⟩
        case round =>
          clear HES s1
          obtain ⟨c, rfl, hcn, HES⟩ := hrel
          obtain ⟨hs, v, hE, hS⟩ := HES.out
          have HE := Aside0.mk hE
          have HS := Aside0.mk hS
          clear hE hS HES
          by_cases hlt : c < n
          · have s1 : decide ((c : Int) < (n : Int)) = true := decide_eq_true uV
            have x7 : wr.cell? ⟨g7, 0, none⟩ = some (.slice (some ⟨gA, 0, none⟩) n CA) := blk_cell HE.out.b7 0
            go_wp2
            go_loop [10] (fun v10 => ∃ at_ : Nat, v10 = .int .i64 at_ ∧ c ≤ at_ ∧ at_ ≤ n ∧ Aside0 (∀ k, c ≤ k → k < at_ → v 0 k c = 0#8)) (fun v => n - (intOf v).toNat)
            case atStart => exact ⟨c, rfl, uV, uV, ⟨fun k h1 h2 => by omega⟩⟩
            case round =>
              obtain ⟨at_, rfl, hca, han, HZ⟩ := hrel
              by_cases hla : at_ < n
              · have s2 : decide ((at_ : Int) < (n : Int)) = true := decide_eq_true uV
                have x8 : wr.cell? ⟨gA, at_, none⟩ = some (.slice (some ⟨(hs 0 at_).1, 0, none⟩) n (hs 0 at_).2) := (HE.out.two.out 0 uV).cell hla
                have x9 : wr.cell? ⟨(hs 0 at_).1, c, none⟩ = some (.int .i64 (toI (v 0 at_ c))) := (HE.out.two.row 0 at_ uV hla).cell hlt
                by_cases hz : v 0 at_ c = 0#8
                · rw [hz] at x9
                  have e0 : toI 0#8 = 0 := rfl
                  rw [e0] at x9
                  have HZ1 := Aside0.mk hz
                  clear hz
                  go_wp2
                  go_round
                  case rel => exact ⟨at_ + 1, uU, uV, uV, ⟨fun k h1 h2 => if e : k = at_ then e ▸ HZ1.out else HZ.out k h1 uV⟩⟩
                  case measure => simp only [intOf]; omega
                · have e0 : (toI (v 0 at_ c) == 0) = false := beq_eq_false_iff_ne.mpr (fun h => hz ((toI_eq_zero _).1 h))
                  have s3 : ((at_ : Int) == (n : Int)) = false := beq_eq_false_iff_ne.mpr uV
                  have HP := Aside0.mk hz
                  have HAT := Aside0.mk (show c ≤ at_ ∧ at_ < n from ⟨hca, hla⟩)
                  clear hz hca
                  go_wp2_with fail
                  refine (rst_swap 0 c at_ uV hlt HAT.out.2 HE.out).mono ?_
                  rintro e w10 ⟨rfl, hE⟩
                  have n1_ := Aside0.mk (show RSt w w10 n g2 g5 g7 (gs2 gA gI) (gs2 CA CI) (swaps hs c at_ 1) (swaps v c at_ 1) by rw [← swap1_swaps, ← swap1_swaps]; exact hE)
                  clear HE x7 x8 x9 hE
                  have y5 : w10.cell? ⟨g5, 0, none⟩ = some (.slice (some ⟨gI, 0, none⟩) n CI) := blk_cell n1_.out.b5 0
                  go_wp2_with fail
                  refine (rst_swap 1 c at_ uV hlt HAT.out.2 n1_.out).mono ?_
                  rintro e w11 ⟨rfl, hE⟩
                  have e1 : swap1 (swaps hs c at_ 1) 1 c at_ = swaps hs c at_ 2 := swaps_step hs c at_ 1
                  have e2 : swap1 (swaps v c at_ 1) 1 c at_ = swaps v c at_ 2 := swaps_step v c at_ 1
                  rw [e1, e2] at hE
                  have n2_ := Aside0.mk hE
                  have HT := Aside0.mk (show Turned n m c (swaps v c at_ 2) from ⟨by rw [swaps_pivot]; exact HP.out, by rw [swaps_pivot]; exact HS.out.turn hlt HAT.out.2 HAT.out.1 HP.out⟩)
                  clear n1_ y5 hE e1 e2 HS HP HZ e0 s2 s3
                  generalize swaps hs c at_ 2 = hs at n2_
                  generalize swaps v c at_ 2 = v at n2_ HT
                  have x7 : w11.cell? ⟨g7, 0, none⟩ = some (.slice (some ⟨gA, 0, none⟩) n CA) := blk_cell n2_.out.b7 0
                  have x8 : w11.cell? ⟨gA, c, none⟩ = some (.slice (some ⟨(hs 0 c).1, 0, none⟩) n (hs 0 c).2) := (n2_.out.two.out 0 uV).cell hlt
                  obtain ⟨y, hy⟩ : ∃ y, y = v 0 c c := ⟨_, rfl⟩
                  have x9 : w11.cell? ⟨(hs 0 c).1, c, none⟩ = some (.int .i64 (toI y)) := by rw [hy]; exact (n2_.out.two.row 0 c uV hlt).cell hlt
                  have HI : Aside0 (ossuaryref1_inv.f 300 (toI y) = some (toI (fi y))) := ⟨RefGf.rinv_f uV y (by rw [hy]; exact HT.out.1)⟩
                  have HY := Aside0.mk hy
                  clear hy
                  go_wp2_with fail
                  (with_reducible refine (ossuaryref1_inv.calls 300 _ _ _ HI.out).mono ?_)
                  rintro e w12 ⟨rfl, ⟨nd, rfl⟩⟩
                  go_wp2_with fail
                  refine (rst_times 0 c (fi y) h2 uV hlt (RSt.drewN n2_.out _)).mono ?_
                  rintro e w13 ⟨rfl, hE⟩
                  have n3_ := Aside0.mk hE
                  clear n2_ x7 x8 x9 HI hE
                  have y5 : w13.cell? ⟨g5, 0, none⟩ = some (.slice (some ⟨gI, 0, none⟩) n CI) := blk_cell n3_.out.b5 0
                  have y6 : w13.cell? ⟨gI, c, none⟩ = some (.slice (some ⟨(hs 1 c).1, 0, none⟩) n (hs 1 c).2) := (n3_.out.two.out 1 uV).cell hlt
                  go_wp2_with fail
                  refine (rst_times 1 c (fi y) h2 uV hlt n3_.out).mono ?_
                  rintro e w14 ⟨rfl, hE⟩
                  have HEW : Aside0 (∃ v, RSt w w14 n g2 g5 g7 (gs2 gA gI) (gs2 CA CI) hs v ∧ Within n m c 0 v) := ⟨_, hE.congr (fun t i j ht _ _ => scaled_rows v c (fi y) t i j ht), by rw [HY.out]; exact HT.out.2⟩
                  clear n3_ y5 y6 hE HT HY
                  go_wp2
                  go_loopw [12] (fun v12 wr => ∃ b : Nat, v12 = .int .i64 b ∧ b ≤ n ∧ Aside0 (∃ v, RSt w wr n g2 g5 g7 (gs2 gA gI) (gs2 CA CI) hs v ∧ Within n m c b v)) (fun v _ => n - (intOf v).toNat)
                  case atStart => exact ⟨0, rfl, uV, HEW⟩
                  case round =>
                    clear HEW
                    obtain ⟨b, rfl, hbn, HEW⟩ := hrel
                    obtain ⟨v, hE, hW⟩ := HEW.out
                    have HE := Aside0.mk hE
                    have HW := Aside0.mk hW
                    clear hE hW HEW
                    by_cases hltb : b < n
                    · have s3 : decide ((b : Int) < (n : Int)) = true := decide_eq_true uV
                      by_cases hbc : b = c
                      · have s4 : ((b : Int) != (c : Int)) = false := by simp [hbc]
                        have HBC := Aside0.mk hbc
                        clear hbc
                        go_wp2
                        go_roundw
                        case rel => exact ⟨b + 1, uU, uV, ⟨v, HE.out, by have h := HW.out; rw [HBC.out] at h ⊢; exact h.skip⟩⟩
                        case measure => simp only [intOf]; omega
                      · have s4 : ((b : Int) != (c : Int)) = true := bne_iff_ne.mpr (fun e => hbc uV)
                        have HBC := Aside0.mk hbc
                        clear hbc
                        have x7 : wr.cell? ⟨g7, 0, none⟩ = some (.slice (some ⟨gA, 0, none⟩) n CA) := blk_cell HE.out.b7 0
                        have x8 : wr.cell? ⟨gA, b, none⟩ = some (.slice (some ⟨(hs 0 b).1, 0, none⟩) n (hs 0 b).2) := (HE.out.two.out 0 uV).cell hltb
                        obtain ⟨y, hy⟩ : ∃ y, y = v 0 b c := ⟨_, rfl⟩
                        have x9 : wr.cell? ⟨(hs 0 b).1, c, none⟩ = some (.int .i64 (toI y)) := by rw [hy]; exact (HE.out.two.row 0 b uV hltb).cell hlt
                        have HY := Aside0.mk hy
                        clear hy
                        have u1 : (0 ≤ (b : Int)) = True := eq_true uV
                        have u2 : ((b : Int) < (n : Int)) = True := eq_true uV
                        have u3 : (b < n) = True := eq_true hltb
                        have u4 : (0 ≤ (c : Int)) = True := eq_true uV
                        have u5 : ((c : Int) < (n : Int)) = True := eq_true uV
                        have u6 : (c < n) = True := eq_true hlt
                        go_wp2
                        have n1_ := Aside0.mk (RSt.drew HE.out)
                        clear HE x7 x8 x9
                        refine start_ (n := 12) (S := fun w' => w'.cell? ⟨g7, 0, none⟩ = some (.slice (some ⟨gA, 0, none⟩) n CA) ∧ w'.cell? ⟨gA, b, none⟩ = some (.slice (some ⟨(hs 0 b).1, 0, none⟩) n (hs 0 b).2) ∧ w'.cell? ⟨gA, c, none⟩ = some (.slice (some ⟨(hs 0 c).1, 0, none⟩) n (hs 0 c).2)) (ds := [11]) (bz 12 0) uT rfl rfl ⟨blk_cell n1_.out.b7 0, (n1_.out.two.out 0 uV).cell hltb, (n1_.out.two.out 0 uV).cell hlt⟩ (fun hHeld => ?_); refine with_tabW rinv28_tab rinv28_bits (fun HT_ HW_ => ?_)
                        generalize wr.drew = w42 at n1_ hHeld ⊢
                        refine pU 0 129 (bz 12 1) HT_.out ?_
                        refine pT3 1 130 (bz 12 3) HT_.out HW_.out hHeld ?_
                        refine pU 2 131 (bz 12 7) HT_.out ?_
                        refine pU 3 132 (bz 12 15) HT_.out ?_
                        refine pT3 4 133 (bz 12 31) HT_.out HW_.out hHeld ?_
                        refine pU 5 134 (bz 12 63) HT_.out ?_
                        refine pT3 6 135 (bz 12 127) HT_.out HW_.out hHeld ?_
                        refine pU 7 136 (bz 12 255) HT_.out ?_
                        refine pU 8 137 (bz 12 511) HT_.out ?_
                        refine pT3 9 138 (bz 12 1023) HT_.out HW_.out hHeld ?_
                        refine pU 10 139 (bz 12 2047) HT_.out ?_
                        refine last_ (i := 11) (N := some 140) (bz 12 4095) rfl rfl (pO HT_.out) uZ (fun K hK => ?_)
                        refine goes_ Try.func85 uT rfl #[.slice (some ⟨(hs 0 b).1, 0, none⟩) n (hs 0 b).2, .slice (some ⟨(hs 0 c).1, 0, none⟩) n (hs 0 c).2, .int .i64 (toI y)] uW rfl rfl uY ?_
                        refine (rst_less 0 c b y h2 uV hlt hltb (fun e => HBC.out e.symm) n1_.out).mono ?_
                        rintro e w50 ⟨rfl, hE⟩
                        refine ⟨_, rfl, ?_⟩
                        refine hK.out _ _ ?_
                        have n2_ := Aside0.mk hE
                        clear hE n1_ hHeld hK
                        refine pM (some 140) ?_
                        refine done_ (done_of HT_.out uT) ?_
                        clear HT_ HW_
                        go_wp2
                        have n1_ := Aside0.mk (RSt.drew n2_.out)
                        clear n2_
                        refine start_ (n := 12) (S := fun w' => w'.cell? ⟨g5, 0, none⟩ = some (.slice (some ⟨gI, 0, none⟩) n CI) ∧ w'.cell? ⟨gI, b, none⟩ = some (.slice (some ⟨(hs 1 b).1, 0, none⟩) n (hs 1 b).2) ∧ w'.cell? ⟨gI, c, none⟩ = some (.slice (some ⟨(hs 1 c).1, 0, none⟩) n (hs 1 c).2)) (ds := [11]) (bz 12 0) uT rfl rfl ⟨blk_cell n1_.out.b5 0, (n1_.out.two.out 1 uV).cell hltb, (n1_.out.two.out 1 uV).cell hlt⟩ (fun hHeld => ?_); refine with_tabW rinv29_tab rinv29_bits (fun HT_ HW_ => ?_)
                        generalize w50.drew = w52 at n1_ hHeld ⊢
                        refine pU 0 141 (bz 12 1) HT_.out ?_
                        refine pT3 1 142 (bz 12 3) HT_.out HW_.out hHeld ?_
                        refine pU 2 143 (bz 12 7) HT_.out ?_
                        refine pU 3 144 (bz 12 15) HT_.out ?_
                        refine pT3 4 145 (bz 12 31) HT_.out HW_.out hHeld ?_
                        refine pU 5 146 (bz 12 63) HT_.out ?_
                        refine pT3 6 147 (bz 12 127) HT_.out HW_.out hHeld ?_
                        refine pU 7 148 (bz 12 255) HT_.out ?_
                        refine pU 8 149 (bz 12 511) HT_.out ?_
                        refine pT3 9 150 (bz 12 1023) HT_.out HW_.out hHeld ?_
                        refine pU 10 151 (bz 12 2047) HT_.out ?_
                        refine last_ (i := 11) (N := some 152) (bz 12 4095) rfl rfl (pO HT_.out) uZ (fun K hK => ?_)
                        refine goes_ Try.func85 uT rfl #[.slice (some ⟨(hs 1 b).1, 0, none⟩) n (hs 1 b).2, .slice (some ⟨(hs 1 c).1, 0, none⟩) n (hs 1 c).2, .int .i64 (toI y)] uW rfl rfl uY ?_
                        refine (rst_less 1 c b y h2 uV hlt hltb (fun e => HBC.out e.symm) n1_.out).mono ?_
                        rintro e w60 ⟨rfl, hE⟩
                        refine ⟨_, rfl, ?_⟩
                        refine hK.out _ _ ?_
                        have n2_ := Aside0.mk (show ∃ v, RSt w w60 n g2 g5 g7 (gs2 gA gI) (gs2 CA CI) hs v ∧ Within n m c (b + 1) v from ⟨_, hE.congr (fun t i j ht _ _ => cleared_rows v c b y (fun e => HBC.out e.symm) t i j ht), by rw [HY.out]; exact HW.out.clear hlt HBC.out⟩)
                        clear hE n1_ hHeld hK HW HY
                        refine pM (some 152) ?_
                        refine done_ (done_of HT_.out uT) ?_
                        clear HT_ HW_
                        go_wp2
                        go_roundw
                        case rel => exact ⟨b + 1, uU, uV, n2_⟩
                        case measure => simp only [intOf]; omega
                    · have HNB := Aside0.mk (show b = n by omega)
                      have s3 : decide ((b : Int) < (n : Int)) = false := decide_eq_false uV
                      go_wp2
                      go_roundw
                      case rel => exact ⟨c + 1, uU, uV, ⟨_, _, HE.out, by have h := HW.out; rw [HNB.out] at h; exact h.next⟩⟩
                      case measure => simp only [intOf]; omega
              · obtain rfl : n = at_ := by omega
                have s2 : decide ((n : Int) < (n : Int)) = false := decide_eq_false uV
                have s3 : ((n : Int) == (n : Int)) = true := by simp
                have z2 : wr.cell? ⟨g2, 0, none⟩ = some (.slice none 0 0) := blk_cell HE.out.b2 0
                have f2 : wr.frozen? ⟨g2, 0, none⟩ = false := blk_frozen HE.out.b2 0
                go_wp2
                refine bodyPost_ret (results_ct rfl _ _ g2 24 #[.slice none 0 0] (0, 0) _ rfl (blk_put HE.out.b2 0 _ rfl) Try.underlying24 rfl uT) rfl ?_
                exact ⟨below_set HE.out.below GN2.out, .inr ⟨HS.out.singular hlt HZ.out, rfl⟩⟩
          · obtain rfl : n = c := by omega
            have s1 : decide ((n : Int) < (n : Int)) = false := decide_eq_false uV
            have y5 : wr.cell? ⟨g5, 0, none⟩ = some (.slice (some ⟨gI, 0, none⟩) n CI) := blk_cell HE.out.b5 0
            have z2 : wr.cell? ⟨g2, 0, none⟩ = some (.slice none 0 0) := blk_cell HE.out.b2 0
            have f2 : wr.frozen? ⟨g2, 0, none⟩ = false := blk_frozen HE.out.b2 0
            go_wp2
            refine bodyPost_ret (results_ct rfl _ _ g2 24 #[.slice (some ⟨gI, 0, none⟩) n CI] (0, 0) _ rfl (blk_put HE.out.b2 0 _ rfl) Try.underlying24 rfl uT) rfl ?_
            have hfar := HE.out.two.far (p := ⟨g2, 0, none⟩) (fun t ht => (blk_ne HE.out.b2 (HE.out.two.out t ht).blk.choose_spec uZ).symm) (fun t i ht hi => (blk_ne HE.out.b2 (HE.out.two.row t i ht hi).blk.choose_spec uZ).symm) (.slice (some ⟨gI, 0, none⟩) n CI)
            refine ⟨below_set HE.out.below GN2.out, .inl ⟨v 1, _, HS.out.done.1, HS.out.done.2, rfl, ?_⟩⟩
            exact S_of_mat (HE.out.gN 1 uV) (hfar.out 1 uV) (fun i hi => ⟨hfar.row 1 i uV hi, HE.out.rN 1 i uV hi⟩) (fun i j hi hj e => (HE.out.two.apart 1 i 1 j uV hi uV hj e).2)
end Go.Proofs.Ytaahnicjjpddjaa.Pr
