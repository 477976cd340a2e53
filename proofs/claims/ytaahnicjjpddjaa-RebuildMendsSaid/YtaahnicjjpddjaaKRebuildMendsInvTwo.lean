/- The inverse of a matrix: the call's walk, by hand, its contract at every matrix, and what it comes to. No condition. -/
import Derived.Test.YtaahnicjjpddjaaKRebuildMendsInvOne
/- The inverse of a square matrix: the call's walk, by hand. No condition but the size. -/
namespace Go.Proofs.Ytaahnicjjpddjaa.Pr
open Go.RowKit Go.Proofs.YtaahnicjjpddjaaW.PrintWords Go.Proofs.YtaahnicjjpddjaaW.PrintLast Go.Proofs.YtaahnicjjpddjaaW.PrintMore Go.Proofs.Ytaahnicjjpddjaa.Fld Go.Proofs.Ytaahnicjjpddjaa.Mat Go.Proofs.Ytaahnicjjpddjaa.Fn
theorem add0 (ad : Addr) : ad.add 0 = ad := by cases ad; unfold Addr.add; split <;> simp_all
/-- the outcome of Invert at a square matrix. -/
def InvEnd (w : World) (n : Nat) (m : Nat → Nat → F) (e : Ending) (w' : World) : Prop :=
  Below w.heap.size w w' ∧
      ((∃ y v0, eqM n (mm n y m) delta ∧ eqM n (mm n m y) delta ∧ e = .returned (.tuple #[.agg #[v0], .int .i64 0]) ∧ Kd.S (Kd.slice 3 (Kd.int .i64)) 25 w' w.heap.size (fun _ => True) v0 (fmat y n n)) ∨
       ((∀ z, ¬ eqM n (mm n z m) delta) ∧ e = .returned (.tuple #[.agg #[.slice none 0 0], .int .i64 401])))
set_option maxHeartbeats 4000000 in
set_option maxRecDepth 100000 in
theorem invert_walk (A0 : Option Addr) (c0 n : Nat) (m : Nat → Nat → F) (w : World) (h1 : 1 ≤ n) (h2 : n ≤ 12) (hr : Kd.C (Kd.slice 3 (Kd.int .i64)) w A0 n (fmat m n n)) (hc : n ≤ c0) :
    Calls Try.prog 40 #[.agg #[.slice A0 n c0]] w (InvEnd w n m) := by
  have hu24 := Try.underlying24
  have HR := Aside0.mk hr
  have HB := Aside0.mk (Below.refl w.heap.size w)
  have HMay : Aside0 (GBase.matrix_May.f 21 (fmat m n n) = some true) := ⟨by rw [may_f uV, fmat_may m n n h1 h2 h1 h2]⟩
  obtain ⟨ad, R0, d0, e0, x0, _, y0⟩ := GBase.at_L1 hr 0 uV uV
  subst e0
  have HC := Aside0.mk hc
  clear hr
  have CM : ∀ W, Kd.C (Kd.slice 3 (Kd.int .i64)) W (some ad) n (fmat m n n) → Calls Try.prog 36 #[.agg #[.slice (some ad) n c0]] W fun e w' => e = .returned (.bool true) ∧ Below W.heap.size W w' := by
    intro W hW
    have h := GBase.matrix_May.calls 21 (some ad) c0 (fmat m n n) true W (by rw [fmat_length]; exact hW) (by rw [fmat_length]; exact hc) HMay.out
    rw [fmat_length] at h
    exact h
  obtain ⟨f, HF, hf⟩ := raw_of_C uV HR.out
  have HFA := Aside0.mk HF
  have HFX := Aside0.mk (show ∀ i, i < n → ∃ A' c', f i = .slice A' n c' ∧ ∀ W, Below w.heap.size w W → Calls Try.prog 69 #[.slice A' n c'] W fun e w' => ∃ h : Nat × Nat, e = .returned (.slice (some ⟨h.1, 0, none⟩) n h.2) ∧ RowAt w' h n (m i) ∧ W.heap.size ≤ h.1 ∧ Below W.heap.size W w' from fun i hi => by
    obtain ⟨A', c', e, e2, e3⟩ := hf i _ (by rw [List.getElem?_eq_getElem (by rw [fmat_length]; exact hi), fmat_get])
    rw [rowOf_length] at e e2 e3
    exact ⟨A', c', e, fun W hW => row_clone h1 h2 e2 e3 hW⟩)
  clear HF hf
  have CK : ∀ W, Kd.C (Kd.raw 1) W (some ad) n ((List.range n).map fun i => [f i]) → Calls Try.prog 77 #[.slice (some ad) n c0] W fun e w' => ∃ g C, e = .returned (.slice (some ⟨g, 0, none⟩) n C) ∧ W.heap.size ≤ g ∧ OutV w' g C n f ∧ Below W.heap.size W w' := by
    intro W hW
    have hl : ((List.range n).map fun i => [f i]).length = n := by simp
    have h := cloneRows.calls (some ad) c0 ((List.range n).map fun i => [f i]) _ W (by rw [hl]; exact hW) (by rw [hl]; exact hc) (by unfold cloneRows.f; rw [if_pos (by rw [hl]; omega)])
    rw [hl] at h
    refine h.mono ?_
    rintro e w' ⟨v0, rfl, h1', h2'⟩
    obtain ⟨g, C, rfl, hg, ho⟩ := outV_of_R h1 h1'
    exact ⟨g, C, rfl, hg, ho, h2'⟩
  go_enter Try.func40, Try.ntmps40
  go_wp2_with (first
    | ((with_reducible refine gate_dst (N := 1) rfl ?_); refine box_event uW (N := 1) uW (cs := #[.slice (some ad) n c0]) (t := 24) uL ?_; intro g1 hg w1 hbox hb;
       have n0_ := Aside0.mk (below_step ul hb); have n1_ := Aside0.mk (hbox); have n2_ := Aside0.mk ((nB hg HB));
       clear HB; have HB := n0_; have BK1 := n1_; have GE1 := n2_; clear n0_ n1_ n2_; clear hb hbox hg; have hcz := (blk_cell BK1.out 0); have hfz := blk_frozen BK1.out 0)
    | ((with_reducible refine gate_dst (N := 2) rfl ?_); refine box_event uW (N := 2) uW (cs := #[.slice none 0 0]) (t := 24) uL ?_; intro g2 hg w2 hbox hb;
       have n0_ := Aside0.mk (below_step ul hb); have n1_ := Aside0.mk (hbox); have n2_ := Aside0.mk ((nB hg HB)); have n3_ := Aside0.mk (blk_below BK1.out hb); have n4_ := Aside0.mk (uK : g1 ≠ g2);
       clear HB BK1 hcz hfz; have HB := n0_; have BK2 := n1_; have GE2 := n2_; have BK1 := n3_; have NB := n4_; clear n0_ n1_ n2_ n3_ n4_; clear hb hbox hg; have hcz := (blk_cell BK1.out 0); have hfz := blk_frozen BK1.out 0))
  have e0 : (GBase.rd_L1 (fmat m n n) 0).length = n := by rw [show (0 : Int) = ((0 : Nat) : Int) from rfl, rdL _ 0 uP, fmat_get, rowOf_length]
  have q0 : decide ((0 : Int) < (n : Int)) = true := decide_eq_true uV
  have q1 : ((n : Int) != (n : Int)) = false := by simp
  have r0 := eq_true (show (0 : Int) < (n : Int) by omega)
  have r1 := eq_true (show 0 < n by omega)
  have q2 : decide (0 < n) = true := decide_eq_true uV
  go_cut [27] (fun v27 wc => v27 = .bool false ∧ Aside0 (wc.heap[g1]? = some (.cells #[.slice (some ad) n c0] 24 (0, 0))) ∧ Aside0 (wc.heap[g2]? = some (.cells #[.slice none 0 0] 24 (0, 0))) ∧ Aside0 (Below w.heap.size w wc))
  case first =>
    go_region_with (go_at_call 36; (with_reducible refine (CM _ ?side1).mono ?_); (case side1 => exact cB (Kd.C_below HR.out HB.out)); rintro e w3 ⟨rfl, hb⟩; have n0_ := Aside0.mk (below_step ul hb); have n1_ := Aside0.mk (blk_below (bB BK1.out) hb); have n2_ := Aside0.mk (blk_below (bB BK2.out) hb); have x0' := pw_cell_below n0_.out x0; rw [e0] at x0'; have x0b := x0'; rw [show ad.add (0 : Int).toNat = ad from add0 ad] at x0b; clear HB BK1 BK2 hcz hfz; have HB := n0_; have BK1 := n1_; have BK2 := n2_; clear n0_ n1_ n2_ hb; have hcz := (blk_cell BK1.out 0); have hfz := blk_frozen BK1.out 0)
    all_goals (go_wp2; go_meet)
    all_goals (exact ⟨rfl, ⟨bB BK1.out⟩, ⟨bB BK2.out⟩, ⟨ul⟩⟩)
  case rest =>
    clear BK1 BK2 HB hcz hfz
    obtain ⟨rfl, BK1, BK2, HB⟩ := hcut
    have hcz := (blk_cell BK1.out 0)
    have HId : Aside0 (GBase.matrix_Identity.f 201 (n : Int) = some (idM n, 0)) := ⟨identity_f uV n h1 h2⟩
    go_wp2_with (first
      | (go_at_call 32; (with_reducible refine (GBase.matrix_Identity.calls 201 (n : Int) _ _ _ HId.out).mono ?_); rintro e w4 ⟨vI, rfl, hI, hb⟩;
         have n0_ := Aside0.mk (below_step ul hb); have n1_ := Aside0.mk (blk_below (bB BK1.out) hb); have n2_ := Aside0.mk (blk_below (bB BK2.out) hb);
         have n3_ := mat_of_S h1 hI; have HBW := Aside0.mk (below_size ul);
         clear HB BK1 BK2 hcz; have HB := n0_; have BK1 := n1_; have BK2 := n2_; clear n0_ n1_ n2_ hb hI; obtain ⟨gI, CI, hsI, eI, gI0, oI, rI, aI⟩ := n3_; subst eI; have HOI := Aside0.mk oI; have HRI := Aside0.mk rI; have HAI := Aside0.mk aI; have GEI := Aside0.mk gI0; clear oI rI aI gI0; have hcz := (blk_cell BK1.out 0); have hfz := blk_frozen BK1.out 0)
      | ((with_reducible refine gate_dst (N := 4) rfl ?_); refine box_event uW (N := 4) uW (cs := #[.slice none 0 0]) (t := 24) uL ?_; intro g4 hg w5 hbox hb;
         have n0_ := Aside0.mk (below_step ul hb); have n1_ := Aside0.mk (blk_below BK1.out hb); have n2_ := Aside0.mk (blk_below BK2.out hb); have n3_ := Aside0.mk hbox; have n4_ := Aside0.mk ((nB hg HB));
         have n5_ : g1 ≠ g4 := by rw [hg]; exact Nat.ne_of_lt (blk_lt BK1.out);
         have n6_ : g2 ≠ g4 := by rw [hg]; exact Nat.ne_of_lt (blk_lt BK2.out);
         have n7_ := Aside0.mk (HOI.out.of_eq (fun _ ho => blk_below ho hb));
         have n8_ := Aside0.mk (show ∀ i, i < n → RowAt w5 (hsI i) n (delta i) ∧ w.heap.size ≤ (hsI i).1 from fun i hi => ⟨(HRI.out i hi).1.of_eq (fun _ ho => blk_below ho hb), Nat.le_trans HBW.out (HRI.out i hi).2⟩);
         clear HB BK1 BK2 hcz hfz HOI HRI; have HB := n0_; have BK1 := n1_; have BK2 := n2_; have BK4 := n3_; have GE4 := n4_; have N14 := n5_; have N24 := n6_; have HOI := n7_; have HRI := n8_; have N41 := n5_.symm; clear n0_ n1_ n2_ n3_ n4_ n5_ n6_ n7_ n8_ hb hbox hg; have hcz := (blk_cell BK1.out 0); have hfz := blk_frozen BK1.out 0; have hcz4 := (blk_cell BK4.out 0); have hfz4 := blk_frozen BK4.out 0)
      | (go_at_call 77; (with_reducible refine (CK _ ?side1).mono ?_); (case side1 => exact Kd.C_below HFA.out (by repeat (first | (with_reducible first | exact HB.out | apply below_alloc | apply pw_below_drewN | apply below_drew1 | refine below_set ?_ GE4.out) | exact HB.out))); rintro e w6 ⟨gO, CO, rfl, hgO, hO, hb⟩;
         have nb_ : Below w.heap.size w (w5.setCell ⟨g4, 0, none⟩ (.slice (some ⟨gI, 0, none⟩) n CI)) := (by repeat (first | (with_reducible first | exact HB.out | apply below_alloc | apply pw_below_drewN | apply below_drew1 | refine below_set ?_ GE4.out) | exact HB.out));
         have n0_ := Aside0.mk (below_step nb_ hb);
         have n1_ := Aside0.mk (blk_below (blk_far BK1.out N14 (p := ⟨g4, 0, none⟩) (.slice (some ⟨gI, 0, none⟩) n CI)) hb);
         have n2_ := Aside0.mk (blk_below (blk_far BK2.out N24 (p := ⟨g4, 0, none⟩) (.slice (some ⟨gI, 0, none⟩) n CI)) hb);
         have n3_ := Aside0.mk (blk_below (blk_put BK4.out 0 (.slice (some ⟨gI, 0, none⟩) n CI) rfl) hb);
         have nI_ : gI ≠ g4 := by obtain ⟨cI, hcI, _⟩ := HOI.out; exact blk_ne hcI BK4.out uZ;
         have nR_ : ∀ i, i < n → (hsI i).1 ≠ g4 := fun i hi => by obtain ⟨cI, hcI, _⟩ := (HRI.out i hi).1; exact blk_ne hcI BK4.out uZ;
         have n5_ := Aside0.mk ((HOI.out.far (p := ⟨g4, 0, none⟩) nI_ (.slice (some ⟨gI, 0, none⟩) n CI)).of_eq (fun _ ho => blk_below ho hb));
         have n6_ := Aside0.mk (show ∀ i, i < n → RowAt w6 (hsI i) n (delta i) ∧ w.heap.size ≤ (hsI i).1 from fun i hi => ⟨((HRI.out i hi).1.far (p := ⟨g4, 0, none⟩) (nR_ i hi) (.slice (some ⟨gI, 0, none⟩) n CI)).of_eq (fun _ ho => blk_below ho hb), (HRI.out i hi).2⟩);
         have n7_ := Aside0.mk (show w.heap.size ≤ gO from Nat.le_trans (below_size nb_) hgO);
         have n8_ := Aside0.mk (show gI ≠ gO by obtain ⟨cI, hcI, _⟩ := (HOI.out.far (p := ⟨g4, 0, none⟩) nI_ (.slice (some ⟨gI, 0, none⟩) n CI)); have := blk_lt hcI; omega);
         have nO_ := Aside0.mk hO;
         clear HB BK1 BK2 BK4 hcz hfz hcz4 hfz4 HOI HRI nb_ nI_ nR_; have HB := n0_; have BK1 := n1_; have BK2 := n2_; have BK4 := n3_; have HOI := n5_; have HRI := n6_; have GEO := n7_; have NIO := n8_; have HOO := nO_; clear n0_ n1_ n2_ n3_ n5_ n6_ n7_ n8_ nO_ hb hO hgO; have hcz := (blk_cell BK1.out 0); have hfz := blk_frozen BK1.out 0; have hcz4 := (blk_cell BK4.out 0); have hfz4 := blk_frozen BK4.out 0))
    have HCP : Aside0 (∃ hsO, Cpy w (w6.alloc (Obj.cells #[Value.slice (some { block := gO, off := 0 }) n CO] 24)) m f n g2 g4 w6.heap.size gI CI gO CO hsI 0 hsO) := ⟨fun _ => (0, 0), Cpy.start HB.out ((Below.refl _ _).alloc (Nat.le_refl _) _) BK2.out BK4.out (blk_new _ _) HOI.out HRI.out HOO.out HAI.out (Nat.le_trans HBW.out GEI.out) GEO.out NIO.out⟩
    have GN2 := Aside0.mk (show w.heap.size ≤ g2 from GE2.out)
    clear HB BK1 BK2 BK4 hcz hfz hcz4 hfz4 HOI HRI HOO HAI GEI GEO NIO GE1 GE2 GE4 HBW HMay HId CM CK HFA N14 N24 N41 NB
    generalize (w6.alloc (Obj.cells #[Value.slice (some { block := gO, off := 0 }) n CO] 24)) = wq at HCP ⊢
    generalize w6.heap.size = g6 at HCP ⊢
    go_loopw [43] (fun v43 wr => ∃ i : Nat, v43 = .int .i64 i ∧ i ≤ n ∧ Aside0 (∃ hsO, Cpy w wr m f n g2 g4 g6 gI CI gO CO hsI i hsO)) (fun v _ => n - (intOf v).toNat)
    case atStart => exact ⟨0, rfl, uV, HCP⟩
    case round =>
      clear HCP
      obtain ⟨i, rfl, hin, HCP⟩ := hrel
      obtain ⟨hsO, hCP⟩ := HCP.out
      have CP := Aside0.mk hCP
      clear hCP HCP
      by_cases hlt : i < n
      · obtain ⟨A', c', ef, CR⟩ := HFX.out i hlt
        have s1 : decide ((i : Int) < (n : Int)) = true := decide_eq_true uV
        have y6 : wr.cell? ⟨g6, 0, none⟩ = some (.slice (some ⟨gO, 0, none⟩) n CO) := blk_cell CP.out.b6 0
        have yO : wr.cell? ⟨gO, i, none⟩ = some (.slice A' n c') := by
          have h := CP.out.own.cell hlt
          simp only [if_neg (Nat.lt_irrefl i)] at h
          rw [h, ef]
        have zO : wr.frozen? ⟨gO, i, none⟩ = false := CP.out.own.frozen i
        have CRi := Aside0.mk CR
        have EF := Aside0.mk ef
        clear CR ef
        go_wp2
        go_region_with (go_at_call 69; go_must ((with_reducible refine (CRi.out _ ?side1).mono ?_); (case side1 => repeat (first | (with_reducible first | exact CP.out.below | apply below_alloc | apply pw_below_drewN | apply below_drew1) | exact CP.out.below)); rintro e w8 ⟨h, rfl, hrow, hge, hb⟩; have CQ := Aside0.mk (Cpy.step (m := m) (i := i) (f := f) (hsO := hsO) (hsI := hsI) (g2 := g2) (g4 := g4) (g6 := g6) (gI := gI) (CI := CI) (gO := gO) (CO := CO) (W0 := w) (n := n) (by (with_reducible repeat (first | refine Cpy.drewN ?_ _ | refine Cpy.drew ?_)); exact CP.out) hb hrow hge); have CW := Aside0.mk (Cpy.below' (m := m) (i := i) (f := f) (hsO := hsO) (hsI := hsI) (g2 := g2) (g4 := g4) (g6 := g6) (gI := gI) (CI := CI) (gO := gO) (CO := CO) (W0 := w) (n := n) (by (with_reducible repeat (first | refine Cpy.drewN ?_ _ | refine Cpy.drew ?_)); exact CP.out) hb); have y6 : w8.cell? ⟨g6, 0, none⟩ = some (.slice (some ⟨gO, 0, none⟩) n CO) := blk_cell CW.out.b6 0; have yO : w8.cell? ⟨gO, i, none⟩ = some (.slice A' n c') := (by have h_ := CW.out.own.cell hlt; simp only [if_neg (Nat.lt_irrefl i)] at h_; rw [h_, EF.out]); have zO : w8.frozen? ⟨gO, i, none⟩ = false := CW.out.own.frozen i; clear hb hrow hge))
        all_goals (go_wp2; go_roundw)
        all_goals (first
          | exact ⟨i + 1, uU, uV, ⟨_, by (with_reducible repeat (first | refine Cpy.drewN ?_ _ | refine Cpy.drew ?_)); exact CQ.out⟩⟩
          | (simp only [intOf]; omega))
      · obtain rfl : n = i := by omega
        clear HFX hlt hin
        have s1 : decide ((n : Int) < (n : Int)) = false := decide_eq_false uV
        have y6 : wr.cell? ⟨g6, 0, none⟩ = some (.slice (some ⟨gO, 0, none⟩) n CO) := blk_cell CP.out.b6 0
        have y4 : wr.cell? ⟨g4, 0, none⟩ = some (.slice (some ⟨gI, 0, none⟩) n CI) := blk_cell CP.out.b4 0
        go_wp2_with (first
          | ((with_reducible refine gate_dst (N := 58) rfl ?_); refine box_event uW (N := 58) uW (cs := #[.slice (some ⟨gO, 0, none⟩) n CO, .slice (some ⟨gI, 0, none⟩) n CI]) (t := 91) uL ?_; intro pg hg w9 hbox hb;
             have n0_ := Aside0.mk (show ∃ hs v, Elim w w9 n g2 g6 pg (gs2 gO gI) (gs2 CO CI) hs v ∧ Stands n m 0 v from ⟨_, _, Cpy.pair CP.out hb hbox, Stands.start n m _ rfl rfl⟩);
             have y6' : w9.cell? ⟨g6, 0, none⟩ = some (.slice (some ⟨gO, 0, none⟩) n CO) := blk_cell (CP.out.below' hb).b6 0;
             clear y6 y4 CP hb hbox hg; have y6 := y6'; clear y6'; have HES := n0_; clear n0_))
        go_loopw [62] (fun v62 wr => ∃ c : Nat, v62 = .int .i64 c ∧ c ≤ n ∧ Aside0 (∃ hs v, Elim w wr n g2 g6 pg (gs2 gO gI) (gs2 CO CI) hs v ∧ Stands n m c v)) (fun v _ => n - (intOf v).toNat)
        case atStart => exact ⟨0, rfl, uV, HES⟩
        case round =>
          clear HES y6 s1
          obtain ⟨c, rfl, hcn, HES⟩ := hrel
          obtain ⟨hs, v, hE, hS⟩ := HES.out
          have HE := Aside0.mk hE
          have HS := Aside0.mk hS
          clear hE hS HES
          by_cases hlt : c < n
          · have s1 : decide ((c : Int) < (n : Int)) = true := decide_eq_true uV
            go_wp2_with fail
            refine (elim_pivot m c h2 hlt HE.out HS.out).mono ?_
            clear HE HS
            rintro e w10 hpe
            obtain ⟨hs, v, rfl, hE, hT⟩ | ⟨hz, rfl, hs, v, hE⟩ := hpe
            · have HE := Aside0.mk hE
              have HT := Aside0.mk hT
              clear hE hT
              have s2 : decide ((0 : Int) < 2) = true := rfl
              have x1 : w10.cell? ⟨pg, 0, none⟩ = some (.slice (some ⟨gO, 0, none⟩) n CO) := pair_cell HE.out.pair (t := 0) uV
              obtain ⟨hd, hhd⟩ : ∃ x, x = hs 0 c := ⟨_, rfl⟩
              obtain ⟨y, hy⟩ : ∃ x, x = v 0 c c := ⟨_, rfl⟩
              have x2 : w10.cell? ⟨gO, c, none⟩ = some (.slice (some ⟨hd.1, 0, none⟩) n hd.2) := by rw [hhd]; exact (HE.out.two.out 0 uV).cell hlt
              have x3 : w10.cell? ⟨hd.1, c, none⟩ = some (.int .i64 (toI y)) := by rw [hhd, hy]; exact (HE.out.two.row 0 c uV hlt).cell hlt
              have HI : Aside0 (GGf.gf_Inv.f 20 (toI y) = some (toI (fi y), 0)) := ⟨GfsGf.ginv_f uV y (by rw [hy]; exact HT.out.1)⟩
              have HY := Aside0.mk hy
              clear hy hhd
              go_wp2_with fail
              (with_reducible refine (GGf.gf_Inv.calls 20 _ _ _ _ HI.out).mono ?_)
              rintro e w11 ⟨rfl, ⟨nd, rfl⟩⟩
              go_wp2_with fail
              refine (elim_scale c (fi y) h2 hlt (Elim.drewN HE.out _)).mono ?_
              rintro e w12 ⟨rfl, hE⟩
              have n1_ := Aside0.mk hE
              have n2_ := Aside0.mk (show Within n m c 0 (scaled v c (fi y) 2 0) by rw [HY.out]; exact HT.out.2)
              clear HE HT HY HI x1 x2 x3 hE
              generalize (scaled v c (fi y) 2 0) = v at n1_ n2_
              have y6 : w12.cell? ⟨g6, 0, none⟩ = some (.slice (some ⟨gO, 0, none⟩) n CO) := blk_cell n1_.out.b6 0
              go_wp2_with fail
              have HEW : Aside0 (∃ v, Elim w w12 n g2 g6 pg (gs2 gO gI) (gs2 CO CI) hs v ∧ Within n m c 0 v) := ⟨_, n1_.out, n2_.out⟩
              clear n1_ n2_ y6
              go_loopw [92] (fun v92 wr => ∃ b : Nat, v92 = .int .i64 b ∧ b ≤ n ∧ Aside0 (∃ v, Elim w wr n g2 g6 pg (gs2 gO gI) (gs2 CO CI) hs v ∧ Within n m c b v)) (fun v _ => n - (intOf v).toNat)
              case atStart => exact ⟨0, rfl, uV, HEW⟩
              case round =>
                clear HEW
                obtain ⟨b, rfl, hbn, HEW⟩ := hrel
                obtain ⟨v, hE, hW⟩ := HEW.out
                have HE := Aside0.mk hE
                have HW := Aside0.mk hW
                clear hE hW HEW
                by_cases hltb : b < n
                · have s3 : decide ((b : Int) < (n : Int)) = true := decide_eq_true uV
                  by_cases hbc : b = c
                  · have s4 : ((b : Int) != (c : Int)) = false := by simp [hbc]
                    have HBC := Aside0.mk hbc
                    clear hbc
                    go_wp2
                    go_roundw
                    case rel => exact ⟨b + 1, uU, uV, ⟨v, HE.out, by have h := HW.out; rw [HBC.out] at h ⊢; exact h.skip⟩⟩
                    case measure => simp only [intOf]; omega
                  · have s4 : ((b : Int) != (c : Int)) = true := bne_iff_ne.mpr (fun e => hbc uV)
                    have HBC := Aside0.mk hbc
                    clear hbc
                    have x1 : wr.cell? ⟨pg, 0, none⟩ = some (.slice (some ⟨gO, 0, none⟩) n CO) := pair_cell HE.out.pair (t := 0) uV
                    obtain ⟨hd, hhd⟩ : ∃ x, x = hs 0 b := ⟨_, rfl⟩
                    obtain ⟨y, hy⟩ : ∃ x, x = v 0 b c := ⟨_, rfl⟩
                    have x2 : wr.cell? ⟨gO, b, none⟩ = some (.slice (some ⟨hd.1, 0, none⟩) n hd.2) := by rw [hhd]; exact (HE.out.two.out 0 uV).cell hltb
                    have x3 : wr.cell? ⟨hd.1, c, none⟩ = some (.int .i64 (toI y)) := by rw [hhd, hy]; exact (HE.out.two.row 0 b uV hltb).cell hlt
                    have HY := Aside0.mk hy
                    clear hy hhd
                    go_wp2_with fail
                    refine (elim_clear c b y h2 hlt hltb (fun e => HBC.out e.symm) HE.out).mono ?_
                    rintro e w13 ⟨rfl, hE⟩
                    have n1_ := Aside0.mk hE
                    have n2_ := Aside0.mk (show Within n m c (b + 1) (cleared v c b y 2 0) by rw [HY.out]; exact HW.out.clear hlt HBC.out)
                    clear HE HW HY x1 x2 x3 hE
                    go_wp2
                    go_roundw
                    case rel => exact ⟨b + 1, uU, uV, ⟨_, n1_.out, n2_.out⟩⟩
                    case measure => simp only [intOf]; omega
                · have HNB := Aside0.mk (show b = n by omega)
                  have s3 : decide ((b : Int) < (n : Int)) = false := decide_eq_false uV
                  go_wp2
                  go_roundw
                  case rel => exact ⟨c + 1, uU, uV, ⟨_, _, HE.out, by have h := HW.out; rw [HNB.out] at h; exact h.next⟩⟩
                  case measure => simp only [intOf]; omega
            · have HE := Aside0.mk hE
              have HZ := Aside0.mk hz
              clear hE hz
              have z2 : w10.cell? ⟨g2, 0, none⟩ = some (.slice none 0 0) := blk_cell HE.out.b2 0
              have f2 : w10.frozen? ⟨g2, 0, none⟩ = false := blk_frozen HE.out.b2 0
              go_wp2
              refine bodyPost_ret (results_ct rfl _ _ g2 24 #[.slice none 0 0] (0, 0) _ rfl (blk_put HE.out.b2 0 _ rfl) Try.underlying24 rfl uT) rfl ?_
              exact ⟨below_set HE.out.below GN2.out, .inr ⟨HZ.out, rfl⟩⟩
          · obtain rfl : n = c := by omega
            have s1 : decide ((n : Int) < (n : Int)) = false := decide_eq_false uV
            have y2 := pair_cell HE.out.pair (t := 1) uV
            have z2 : wr.cell? ⟨g2, 0, none⟩ = some (.slice none 0 0) := blk_cell HE.out.b2 0
            have f2 : wr.frozen? ⟨g2, 0, none⟩ = false := blk_frozen HE.out.b2 0
            go_wp2
            refine bodyPost_ret (results_ct rfl _ _ g2 24 #[.slice (some ⟨gI, 0, none⟩) n CI] (0, 0) _ rfl (blk_put HE.out.b2 0 _ rfl) Try.underlying24 rfl uT) rfl ?_
            have hfar := HE.out.two.far (p := ⟨g2, 0, none⟩) (fun t ht => (blk_ne HE.out.b2 (HE.out.two.out t ht).blk.choose_spec uZ).symm) (fun t i ht hi => (blk_ne HE.out.b2 (HE.out.two.row t i ht hi).blk.choose_spec uZ).symm) (.slice (some ⟨gI, 0, none⟩) n CI)
            refine ⟨below_set HE.out.below GN2.out, .inl ⟨v 1, _, HS.out.done.1, HS.out.done.2, rfl, ?_⟩⟩
            exact S_of_mat (HE.out.gN 1 uV) (hfar.out 1 uV) (fun i hi => ⟨hfar.row 1 i uV hi, HE.out.rN 1 i uV hi⟩) (fun i j hi hj e => (HE.out.two.apart 1 i 1 j uV hi uV hj e).2)
end Go.Proofs.Ytaahnicjjpddjaa.Pr
/- The inverse of what is no square matrix: the call's walk, by hand; and the call's contract at every matrix. No condition. -/
namespace Go.Proofs.Ytaahnicjjpddjaa.Pr
open Go.RowKit Go.Proofs.YtaahnicjjpddjaaW.PrintWords Go.Proofs.YtaahnicjjpddjaaW.PrintLast Go.Proofs.YtaahnicjjpddjaaW.PrintMore Go.Proofs.Ytaahnicjjpddjaa.Fld Go.Proofs.Ytaahnicjjpddjaa.Mat Go.Proofs.Ytaahnicjjpddjaa.Fn
set_option linter.unusedSimpArgs false
def inv_T1 : Bool × List (List Nat × List Nat) := (true, [([], []), ([0], [0]), ([1], [1]), ([2, 1], [2]), ([3], [3]), ([4, 3], [3, 4]), ([5, 3], [3, 5]), ([3], [3]), ([7, 3], [3, 7]), ([8, 3], [3, 8]), ([9, 3], [3, 9]), ([10, 3], [3, 10]), ([6, 11, 3], [3, 6, 11]), ([3, 12], [3, 12])])
def inv_B1 : List Nat := [0, 1, 3, 7, 15, 31, 63, 15, 143, 399, 911, 1935, 4095, 8191]
theorem inv_tab1 : rtab .any (opsOf Try.f40 1) = inv_T1 := by kernel_rfl
theorem inv_bits1 : waitsOk inv_T1.2 inv_B1 = true := by kernel_rfl
def NoEnd (w : World) (e : Ending) (w' : World) : Prop := e = .returned (.tuple #[.agg #[.slice none 0 0], .int .i64 400]) ∧ Below w.heap.size w w'
set_option maxHeartbeats 2000000 in
set_option maxRecDepth 100000 in
theorem invert_no1 (A0 : Option Addr) (c0 n : Nat) (l0 : List (List Int)) (w : World) (hl : n = l0.length) (hr : Kd.C (Kd.slice 3 (Kd.int .i64)) w A0 n l0) (hc : n ≤ c0) (h : mayB l0 = false) :
    Calls Try.prog 40 #[.agg #[.slice A0 n c0]] w (NoEnd w) := by
  have hu24 := Try.underlying24
  have HR := Aside0.mk hr
  have HB := Aside0.mk (Below.refl w.heap.size w)
  have CM : ∀ W, Kd.C (Kd.slice 3 (Kd.int .i64)) W A0 n l0 → Calls Try.prog 36 #[.agg #[.slice A0 n c0]] W fun e w' => e = .returned (.bool false) ∧ Below W.heap.size W w' := by
    intro W hW
    subst hl
    exact GBase.matrix_May.calls 21 A0 c0 l0 false W hW hc (by rw [may_f uV, h])
  clear hr hl h
  go_enter Try.func40, Try.ntmps40
  go_wp2_with (first
    | ((with_reducible refine gate_dst (N := 1) rfl ?_); refine box_event uW (N := 1) uW (cs := #[.slice A0 n c0]) (t := 24) uL ?_; intro g1 hg w1 hbox hb;
       have n0_ := Aside0.mk (below_step ul hb); have n1_ := Aside0.mk (hbox); have n2_ := Aside0.mk ((nB hg HB));
       clear HB; have HB := n0_; have BK1 := n1_; have GE1 := n2_; clear n0_ n1_ n2_; clear hb hbox hg; have hcz := (blk_cell BK1.out 0); have hfz := blk_frozen BK1.out 0)
    | ((with_reducible refine gate_dst (N := 2) rfl ?_); refine box_event uW (N := 2) uW (cs := #[.slice none 0 0]) (t := 24) uL ?_; intro g2 hg w2 hbox hb;
       have n0_ := Aside0.mk (below_step ul hb); have n1_ := Aside0.mk (hbox); have n2_ := Aside0.mk ((nB hg HB)); have n3_ := Aside0.mk (blk_below BK1.out hb); have n4_ := Aside0.mk (uK : g1 ≠ g2);
       clear HB BK1 hcz hfz; have HB := n0_; have BK2 := n1_; have GE2 := n2_; have BK1 := n3_; have NB := n4_; clear n0_ n1_ n2_ n3_ n4_; clear hb hbox hg; have hcz := (blk_cell BK1.out 0); have hfz := blk_frozen BK1.out 0))
  replace BK1 := mk0 (blk_drew BK1.out)
  replace BK2 := mk0 (blk_drew BK2.out)
  replace HB := mk0 (below_drew1 HB.out)
  clear hcz hfz
  refine start_ (n := 14) (S := fun w' => w'.cell? ⟨g1, 0, none⟩ = some (.slice A0 n c0)) (ds := []) (bz 14 0) uT rfl rfl ((blk_cell BK1.out 0).trans rfl) (fun hHeld => ?_); refine with_tabW inv_tab1 inv_bits1 (fun HT_ HW_ => ?_)
  generalize w2.drew = w42 at BK1 BK2 HB hHeld ⊢
  refine pT1 0 14 (bz 14 1) HT_.out HW_.out hHeld ?_
  refine one_ (i := 1) (N := some 15) (bz 14 3) rfl rfl (pO HT_.out) uZ (fun K hK => ?_)
  refine goes_ Try.func36 uT rfl #[.agg #[.slice A0 n c0]] uW rfl rfl uY ?_
  (with_reducible refine (CM _ ?side1).mono ?_)
  (case side1 => exact cB (Kd.C_below HR.out HB.out))
  rintro e w43 ⟨rfl, hb⟩
  refine ⟨_, rfl, ?_⟩
  replace BK1 := bK BK1 hb
  replace BK2 := bK BK2 hb
  replace HB := mk0 (below_step ul hb)
  clear hb
  refine hK.out _ _ ((blk_cell BK1.out 0).trans rfl) (fun hHeld => ?_)
  clear hK K
  refine pM (some 15) ?_
  refine pU 2 16 (bz 14 7) HT_.out ?_
  refine pU 3 17 (bz 14 15) HT_.out ?_
  refine pN 4 18 (bz 14 31) HT_.out ?_
  refine pN 5 19 (bz 14 63) HT_.out ?_
  refine pN 6 20 (bz 14 127) HT_.out ?_
  refine pN 7 21 (bz 14 255) HT_.out ?_
  refine pN 8 22 (bz 14 511) HT_.out ?_
  refine pN 9 23 (bz 14 1023) HT_.out ?_
  refine pN 10 24 (bz 14 2047) HT_.out ?_
  refine pN 11 25 (bz 14 4095) HT_.out ?_
  refine pN 12 26 (bz 14 8191) HT_.out ?_
  refine pU 13 27 (bz 14 16383) HT_.out ?_
  refine done_ (done_of HT_.out uT) ?_
  have hcz := (blk_cell BK2.out 0)
  have hfz := blk_frozen BK2.out 0
  go_wp2
  refine bodyPost_ret (results_ct rfl _ _ g2 24 #[.slice none 0 0] (0, 0) _ rfl ux Try.underlying24 rfl uT) rfl ?_
  exact ⟨rfl, below_set HB.out GE2.out⟩
set_option maxHeartbeats 2000000 in
set_option maxRecDepth 100000 in
theorem invert_no2 (A0 : Option Addr) (c0 n k : Nat) (l0 : List (List Int)) (w : World) (hl : n = l0.length) (hk : k = cols l0) (hr : Kd.C (Kd.slice 3 (Kd.int .i64)) w A0 n l0) (hc : n ≤ c0) (h : mayB l0 = true) (hne : n ≠ k) :
    Calls Try.prog 40 #[.agg #[.slice A0 n c0]] w (NoEnd w) := by
  have hu24 := Try.underlying24
  have HR := Aside0.mk hr
  have HB := Aside0.mk (Below.refl w.heap.size w)
  have h1 := (may_fmat h).1
  have CM : ∀ W, Kd.C (Kd.slice 3 (Kd.int .i64)) W A0 n l0 → Calls Try.prog 36 #[.agg #[.slice A0 n c0]] W fun e w' => e = .returned (.bool true) ∧ Below W.heap.size W w' := by
    intro W hW
    subst hl
    exact GBase.matrix_May.calls 21 A0 c0 l0 true W hW hc (by rw [may_f uV, h])
  obtain ⟨ad, R0, d0, e0, x0, _, _⟩ := GBase.at_L1 hr 0 uV uV
  have e1 : (GBase.rd_L1 l0 0).length = k := by rw [hk, show (0 : Int) = ((0 : Nat) : Int) from rfl, rdL _ 0 uV, cols_get _ uV]
  rw [e1, show ad.add (0 : Int).toNat = ad from add0 ad] at x0
  have q0 : decide ((0 : Int) < (n : Int)) = true := decide_eq_true uV
  have q1 : ((n : Int) != (k : Int)) = true := bne_iff_ne.mpr uV
  have r0 := eq_true (show (0 : Int) < (n : Int) by omega)
  have r1 := eq_true (show 0 < n by omega)
  have q2 : decide (0 < n) = true := decide_eq_true uV
  have HX := Aside0.mk x0
  subst e0
  clear hr hl hk h hne h1 e1 x0
  go_enter Try.func40, Try.ntmps40
  go_wp2_with (first
    | ((with_reducible refine gate_dst (N := 1) rfl ?_); refine box_event uW (N := 1) uW (cs := #[.slice (some ad) n c0]) (t := 24) uL ?_; intro g1 hg w1 hbox hb;
       have n0_ := Aside0.mk (below_step ul hb); have n1_ := Aside0.mk (hbox); have n2_ := Aside0.mk ((nB hg HB));
       clear HB; have HB := n0_; have BK1 := n1_; have GE1 := n2_; clear n0_ n1_ n2_; clear hb hbox hg; have hcz := (blk_cell BK1.out 0); have hfz := blk_frozen BK1.out 0)
    | ((with_reducible refine gate_dst (N := 2) rfl ?_); refine box_event uW (N := 2) uW (cs := #[.slice none 0 0]) (t := 24) uL ?_; intro g2 hg w2 hbox hb;
       have n0_ := Aside0.mk (below_step ul hb); have n1_ := Aside0.mk (hbox); have n2_ := Aside0.mk ((nB hg HB)); have n3_ := Aside0.mk (blk_below BK1.out hb); have n4_ := Aside0.mk (uK : g1 ≠ g2);
       clear HB BK1 hcz hfz; have HB := n0_; have BK2 := n1_; have GE2 := n2_; have BK1 := n3_; have NB := n4_; clear n0_ n1_ n2_ n3_ n4_; clear hb hbox hg; have hcz := (blk_cell BK1.out 0); have hfz := blk_frozen BK1.out 0))
  go_cut [27] (fun v27 wc => v27 = .bool true ∧ Aside0 (wc.heap[g2]? = some (.cells #[.slice none 0 0] 24 (0, 0))) ∧ Aside0 (Below w.heap.size w wc))
  case first =>
    go_region_with (go_at_call 36; (with_reducible refine (CM _ ?side1).mono ?_); (case side1 => exact cB (Kd.C_below HR.out HB.out)); rintro e w3 ⟨rfl, hb⟩; have n0_ := Aside0.mk (below_step ul hb); have n1_ := Aside0.mk (blk_below (bB BK1.out) hb); have n2_ := Aside0.mk (blk_below (bB BK2.out) hb); have x0' := pw_cell_below n0_.out HX.out; clear HB BK1 BK2 hcz hfz; have HB := n0_; have BK1 := n1_; have BK2 := n2_; clear n0_ n1_ n2_ hb; have hcz := (blk_cell BK1.out 0); have hfz := blk_frozen BK1.out 0)
    all_goals (go_wp2; go_meet)
    all_goals (exact ⟨rfl, ⟨bB BK2.out⟩, ⟨ul⟩⟩)
  case rest =>
    clear BK1 BK2 HB hcz hfz
    obtain ⟨rfl, BK2, HB⟩ := hcut
    have hcz := (blk_cell BK2.out 0)
    have hfz := blk_frozen BK2.out 0
    go_wp2
    refine bodyPost_ret (results_ct rfl _ _ g2 24 #[.slice none 0 0] (0, 0) _ rfl ux Try.underlying24 rfl uT) rfl ?_
    exact ⟨rfl, below_set HB.out GE2.out⟩
open Classical in
/-- the inverse, where there is one. -/
noncomputable def invF (m : List (List Int)) : List (List Int) × Int :=
  if mayB m = true ∧ m.length = cols m then
    if h : ∃ y, eqM m.length (mm m.length y (ent m)) delta then (fmat (Classical.choose h) m.length m.length, 0) else ([], 401)
  else ([], 400)
theorem invF_no {m : List (List Int)} (h : ¬ (mayB m = true ∧ m.length = cols m)) : invF m = ([], 400) := by unfold invF; rw [if_neg h]
theorem eqM_congr_r {n : Nat} {a b b' : Nat → Nat → F} (h : eqM n b b') : eqM n (mm n a b) (mm n a b') := mm_eq (eqM.refl n a) h
theorem fmat_ents (m : Nat → Nat → F) (n : Nat) : eqM n (ent (fmat m n n)) m := fun i j hi hj => fmat_ent m n n i j hi hj
theorem invF_sing {n : Nat} {m : Nat → Nat → F} (h1 : 1 ≤ n) (h2 : n ≤ 12) (h : ∀ z, ¬ eqM n (mm n z m) delta) : invF (fmat m n n) = ([], 401) := by
  unfold invF
  rw [if_pos ⟨fmat_may m n n h1 h2 h1 h2, by rw [fmat_length, fmat_cols _ _ _ uV]⟩, dif_neg]
  rintro ⟨y, hy⟩
  rw [fmat_length] at hy
  exact h y ((eqM_congr_r (fmat_ents m n)).symm.trans hy)
theorem invF_inv {n : Nat} {m y : Nat → Nat → F} (h1 : 1 ≤ n) (h2 : n ≤ 12) (hy : eqM n (mm n y m) delta) (hy' : eqM n (mm n m y) delta) : invF (fmat m n n) = (fmat y n n, 0) := by
  unfold invF
  have hex : ∃ y, eqM (fmat m n n).length (mm (fmat m n n).length y (ent (fmat m n n))) delta := ⟨y, by rw [fmat_length]; exact (eqM_congr_r (fmat_ents m n)).trans hy⟩
  rw [if_pos ⟨fmat_may m n n h1 h2 h1 h2, by rw [fmat_length, fmat_cols _ _ _ uV]⟩, dif_pos hex]
  have hs := Classical.choose_spec hex
  generalize Classical.choose hex = z at hs
  rw [fmat_length] at hs ⊢
  have hz : eqM n (mm n z m) delta := (eqM_congr_r (fmat_ents m n)).symm.trans hs
  rw [fmat_congr z y n n (inverse_one hz hy')]
noncomputable def inv.f (m : List (List Int)) : Option (List (List Int) × Int) := some (invF m)
theorem inv.calls (A0_0 : Option Addr) (c0_0 : Nat) (l0_0 : List (List Int)) (r1 : List (List Int)) (r2 : Int) (w : World) (hr0_0 : Kd.C (Kd.slice 3 (Kd.int .i64)) w A0_0 l0_0.length l0_0) (hc0_0 : l0_0.length ≤ c0_0) (h : inv.f l0_0 = some (r1, r2)) :
    Calls Try.prog 40 #[.agg #[.slice A0_0 l0_0.length c0_0]] w fun e w' => ∃ v0_ : Value, e = .returned (.tuple #[.agg #[v0_], .int .i64 r2]) ∧ Kd.S (Kd.slice 3 (Kd.int .i64)) 25 w' w.heap.size (fun _ => True) v0_ r1 ∧ Below w.heap.size w w' := by
  have h := Option.some.inj h
  by_cases hm : mayB l0_0 = true
  · by_cases hs : l0_0.length = cols l0_0
    · obtain ⟨hb, he⟩ := may_fmat hm
      rw [← hs] at he
      obtain ⟨n, hn⟩ : ∃ n, n = l0_0.length := ⟨_, rfl⟩
      obtain ⟨m, hme⟩ : ∃ m, m = ent l0_0 := ⟨_, rfl⟩
      rw [← hn, ← hme] at he
      rw [← hn] at hr0_0 hc0_0 hb ⊢
      rw [he] at hr0_0 h
      refine (invert_walk A0_0 c0_0 n m w hb.1 hb.2.1 hr0_0 hc0_0).mono ?_
      rintro e w' ⟨hB, ⟨y, v0, hy, hy', rfl, hS⟩ | ⟨hz, rfl⟩⟩
      · rw [invF_inv hb.1 hb.2.1 hy hy'] at h
        simp only [Prod.mk.injEq] at h
        obtain ⟨rfl, rfl⟩ := h
        exact ⟨v0, rfl, hS, hB⟩
      · rw [invF_sing hb.1 hb.2.1 hz] at h
        simp only [Prod.mk.injEq] at h
        obtain ⟨rfl, rfl⟩ := h
        exact ⟨_, rfl, Kd.S_nil _ _ _ _ _, hB⟩
    · rw [invF_no (fun e => hs e.2)] at h
      simp only [Prod.mk.injEq] at h
      obtain ⟨rfl, rfl⟩ := h
      refine (invert_no2 A0_0 c0_0 _ _ l0_0 w rfl rfl hr0_0 hc0_0 hm hs).mono ?_
      rintro e w' ⟨rfl, hB⟩
      exact ⟨_, rfl, Kd.S_nil _ _ _ _ _, hB⟩
  · rw [invF_no (fun e => hm e.1)] at h
    simp only [Prod.mk.injEq] at h
    obtain ⟨rfl, rfl⟩ := h
    refine (invert_no1 A0_0 c0_0 _ l0_0 w rfl hr0_0 hc0_0 (Bool.eq_false_iff.mpr hm)).mono ?_
    rintro e w' ⟨rfl, hB⟩
    exact ⟨_, rfl, Kd.S_nil _ _ _ _ _, hB⟩
end Go.Proofs.Ytaahnicjjpddjaa.Pr
/- What the inverse comes to: either one, from both sides, or none; and by hand. Plain algebra; no condition. -/
namespace Go.Proofs.Ytaahnicjjpddjaa.Pr
open Go.RowKit Go.Proofs.YtaahnicjjpddjaaW.PrintWords Go.Proofs.YtaahnicjjpddjaaW.PrintLast Go.Proofs.YtaahnicjjpddjaaW.PrintMore Go.Proofs.Ytaahnicjjpddjaa.Fld Go.Proofs.Ytaahnicjjpddjaa.Mat Go.Proofs.Ytaahnicjjpddjaa.Fn
theorem clear_all {n : Nat} {m : Nat → Nat → F} {c : Nat} (hc : c < n) (b : Nat) : ∀ {v : Nat → Nat → Nat → F}, Within n m c 0 v → ∃ v', Within n m c b v' := by
  induction b with
  | zero => exact fun {v} h => ⟨v, h⟩
  | succ b ih =>
    intro v h
    obtain ⟨v', h'⟩ := ih h
    by_cases e : b = c
    · subst e; exact ⟨v', h'.skip⟩
    · exact ⟨_, h'.clear hc e⟩
theorem turn_all {n : Nat} {m : Nat → Nat → F} {c : Nat} {v : Nat → Nat → Nat → F} (h : Stands n m c v) (hc : c < n) : (∃ v', Stands n m (c + 1) v') ∨ ∀ z, ¬ eqM n (mm n z m) delta := by
  by_cases hz : ∀ k, c ≤ k → k < n → v 0 k c = 0#8
  · exact .inr (h.singular hc hz)
  · obtain ⟨i, hi⟩ := Classical.not_forall.1 hz
    obtain ⟨hci, hi⟩ := Classical.not_imp.1 hi
    obtain ⟨hin, hi⟩ := Classical.not_imp.1 hi
    obtain ⟨v', h'⟩ := clear_all hc n (h.turn hc hin hci hi)
    exact .inl ⟨v', h'.next⟩
theorem stand_all (n : Nat) (m : Nat → Nat → F) (c : Nat) (hc : c ≤ n) : (∃ v, Stands n m c v) ∨ ∀ z, ¬ eqM n (mm n z m) delta := by
  induction c with
  | zero => exact .inl ⟨v2 m delta, Stands.start n m _ rfl rfl⟩
  | succ c ih =>
    rcases ih uV with ⟨v, h⟩ | h
    · exact turn_all h uV
    · exact .inr h
/-- a matrix has an inverse from both sides, or none from the left. -/
theorem inverse_or (n : Nat) (m : Nat → Nat → F) : (∃ y, eqM n (mm n y m) delta ∧ eqM n (mm n m y) delta) ∨ ∀ z, ¬ eqM n (mm n z m) delta := by
  rcases stand_all n m n (Nat.le_refl _) with ⟨v, h⟩ | h
  · exact .inl ⟨_, h.done⟩
  · exact .inr h
/-- .. or none from the right. -/
theorem left_of_right {n : Nat} {m z : Nat → Nat → F} (h : eqM n (mm n m z) delta) : eqM n (mm n z m) delta := by
  rcases inverse_or n z with ⟨y, h1, h2⟩ | h1
  · have e : eqM n m y := inverse_one h h2
    exact (mm_eq (eqM.refl n z) e).trans h2
  · exact absurd h (h1 m)
theorem right_of_left {n : Nat} {m z : Nat → Nat → F} (h : eqM n (mm n z m) delta) : eqM n (mm n m z) delta := left_of_right h
theorem inv_ok {n : Nat} {A y : Nat → Nat → F} (h1 : 1 ≤ n) (h2 : n ≤ 12) (h : eqM n (mm n y A) delta) : inv.f (fmat A n n) = some (fmat y n n, 0) := by
  show some (invF _) = _
  rw [invF_inv h1 h2 h (right_of_left h)]
end Go.Proofs.Ytaahnicjjpddjaa.Pr
