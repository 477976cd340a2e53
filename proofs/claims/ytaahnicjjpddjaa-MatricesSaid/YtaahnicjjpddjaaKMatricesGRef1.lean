/- Functions of the program as Lean functions, each with a proof that its call comes to what the function says. No condition. -/
import Derived.Test.YtaahnicjjpddjaaKMatricesGRef0
namespace Go.Proofs.Ytaahnicjjpddjaa.GRef
open Go.Proofs.Ytaahnicjjpddjaa.Fn
open Go.Proofs.Ytaahnicjjpddjaa
open Go.RowKit Go.Proofs.YtaahnicjjpddjaaW.PrintWords Go.Proofs.YtaahnicjjpddjaaW.PrintLast Go.Proofs.YtaahnicjjpddjaaW.PrintMore
attribute [local go_sem] max2_int min2_int max_two min_two max_three min_three max_four min_four   -- for this text's walks alone
set_option linter.unusedVariables false
set_option linter.unusedSimpArgs false
def ossuarylaw0_CopyMatrix.l0 : Nat → Int → List (List Int) → List (List Int) → Option ((List (List Int)))
 | 0, _, _, _ => none
 | k + 1, x4, x102000, x104000 => if x4 < (x102000.length : Int) then ((some (([] : List Int) : List Int)).bind fun y104 => (if 0 ≤ x4 then (if y104.length + (rd_L2 x102000 x4).length < 17592186044416 then (if x104000.length < 5864062014805 then (ossuarylaw0_CopyMatrix.l0 k (wrap64 (x4 + 1)) x102000 (x104000 ++ [(y104 ++ (rd_L2 x102000 x4))])) else (none)) else (none)) else (none))) else (some x104000)
def ossuarylaw0_CopyMatrix.f (k : Nat) (l0_0 : List (List Int)) : Option ((List (List Int))) := ossuarylaw0_CopyMatrix.l0 k 0 l0_0 ([] : List (List Int))
theorem ossuarylaw0_CopyMatrix.mono_l : ∀ k, (∀ y0 y1 y2, LeO (ossuarylaw0_CopyMatrix.l0 k y0 y1 y2) (ossuarylaw0_CopyMatrix.l0 (k + 1) y0 y1 y2))
 | 0 => fun _ _ _ r h => by simp [ossuarylaw0_CopyMatrix.l0] at h
 | k + 1 => by
  have ih0 := ossuarylaw0_CopyMatrix.mono_l k
  ·intro y0 y1 y2
   unfold ossuarylaw0_CopyMatrix.l0
   repeat' with_reducible first | exact ih0 _ _ _ | exact LeO.refl _ | exact LeO.none _ | refine LeO.ite ?_ ?_ | refine LeO.bind ?_ (fun _ => ?_)
theorem ossuarylaw0_CopyMatrix.mono : ∀ a0 k, LeO (ossuarylaw0_CopyMatrix.f k a0) (ossuarylaw0_CopyMatrix.f (k + 1) a0) := by
 intro a0 k
 have ih0 := ossuarylaw0_CopyMatrix.mono_l k
 unfold ossuarylaw0_CopyMatrix.f
 repeat' with_reducible first | exact ih0 _ _ _ | exact LeO.refl _ | exact LeO.none _ | refine LeO.ite ?_ ?_ | refine LeO.bind ?_ (fun _ => ?_)
def ossuarylaw0_CopyMatrix.T5 : Bool × List (List Nat × List Nat) := (true, [([], []), ([0], [0]), ([], []), ([], []), ([3], [3]), ([], []), ([4, 5], [4, 5]), ([6], [6]), ([2, 7], [2, 7]), ([8], [8]), ([1, 9, 8], [1, 9]), ([0, 1, 2, 3, 4, 5, 6, 7, 8, 9, 10], []), ([11, 10, 10, 0, 1, 2, 3, 4, 5, 6, 7, 8, 9, 10], [10, 11])])
def ossuarylaw0_CopyMatrix.B5 : List Nat := [0, 1, 0, 0, 8, 0, 56, 120, 252, 508, 1023, 2047, 4095]
theorem ossuarylaw0_CopyMatrix.tab5 : rtab .any (opsOf Try.f27 5) = ossuarylaw0_CopyMatrix.T5 := by kernel_rfl
theorem ossuarylaw0_CopyMatrix.bits5 : waitsOk ossuarylaw0_CopyMatrix.T5.2 ossuarylaw0_CopyMatrix.B5 = true := by kernel_rfl
set_option maxHeartbeats 8000000 in
set_option maxRecDepth 100000 in
theorem ossuarylaw0_CopyMatrix.calls (k : Nat) (A0_0 : Option Addr) (c0_0 : Nat) (l0_0 : List (List Int)) (r : List (List Int)) (w : World) (hr0_0 : Kd.C (Kd.slice 3 (Kd.int .i64)) w A0_0 l0_0.length l0_0) (hc0_0 : l0_0.length ≤ c0_0) (h : ossuarylaw0_CopyMatrix.f k l0_0 = some r) :
  Calls Try.prog 27 #[.agg #[.slice A0_0 l0_0.length c0_0]] w fun e w' => ∃ v0_ : Value, e = .returned (.agg #[v0_]) ∧ Kd.S (Kd.slice 3 (Kd.int .i64)) 25 w' w.heap.size (fun _ => True) v0_ r ∧ Below w.heap.size w w' := by
 have hu24 := Try.underlying24
 have HR0_0 := mk0 hr0_0
 have HC0_0 := mk0 hc0_0
 clear hr0_0 hc0_0
 have HB := mk0 (Below.refl w.heap.size w)
 have H : (ossuarylaw0_CopyMatrix.l0 k 0 l0_0 ([] : List (List Int))) = some r := h
 clear h
 have H' := mk0 H
 clear H
 go_enter Try.func27, Try.ntmps27
 go_wp2_with (first | ((with_reducible refine gate_dst (N := 1) rfl ?_); refine box_event uT (N := 1) uT (cs := #[.slice A0_0 l0_0.length c0_0]) (t := 24) uK ?_; intro gb101 hg w2 hbox hb; have BK101 := mk0 (hbox); have GW101 := mk0 (nB hg HB); have GE101 := mk0 (nB hg HB); replace HB := mk0 (below_step uy hb); clear hb hbox hg) | ((with_reducible refine gate_dst (N := 2) rfl ?_); refine box_event uT (N := 2) uT (cs := #[.slice none 0 0]) (t := 24) uK ?_; intro gb102 hg w3 hbox hb; have BK102 := mk0 (hbox); have GW102 := mk0 (nB hg HB); have GE102 := mk0 (nB hg HB); replace HB := mk0 (below_step ul hb); have NB101_102 := mk0 (nF hg BK101.out); have NB102_101 := mk0 (nE hg BK101.out); replace BK101 := bK BK101 hb; clear hb hbox hg) | ((with_reducible refine gate_dst (N := 3) rfl ?_); refine box_event uT (N := 3) uT (cs := #[.slice none 0 0]) (t := 24) uK ?_; intro gb103 hg w4 hbox hb; have BK103 := mk0 (hbox); have GW103 := mk0 (nB hg HB); have GE103 := mk0 (nB hg HB); replace HB := mk0 (below_step ul hb); have NB101_103 := mk0 (nF hg BK101.out); have NB103_101 := mk0 (nE hg BK101.out); replace BK101 := bK BK101 hb; have NB102_103 := mk0 (nF hg BK102.out); have NB103_102 := mk0 (nE hg BK102.out); replace BK102 := bK BK102 hb; clear hb hbox hg))
 go_loopg [4] k (fun kq v4 w' => ∃ (x4_1 : Int) (x104000_1 : List (List Int)) (u104000 : Value), v4 = .int .i64 x4_1 ∧ Aside0 (ossuarylaw0_CopyMatrix.l0 kq x4_1 l0_0 x104000_1 = some r) ∧ Aside0 (kq ≤ k) ∧ Aside0 (Kd.S (Kd.slice 3 (Kd.int .i64)) 25 w' w.heap.size (fun _ => True) u104000 x104000_1) ∧ Aside0 (w'.heap[gb101]? = some (.cells #[(.slice A0_0 l0_0.length c0_0)] 24 (0, 0))) ∧ Aside0 (w'.heap[gb102]? = some (.cells #[(.slice none 0 0)] 24 (0, 0))) ∧ Aside0 (w'.heap[gb103]? = some (.cells #[u104000] 24 (0, 0))) ∧ Aside0 (Below w.heap.size w w'))
 case atStart => exact ⟨(0), (([] : List (List Int))), (.slice none 0 0), uJ, H', ⟨Nat.le_refl _⟩, ⟨uh⟩, ⟨bB BK101.out⟩, ⟨bB BK102.out⟩, ⟨bB BK103.out⟩, ⟨ul⟩⟩
 case round =>
  clear H'
  try clear c2
  try clear p2
  obtain ⟨x4_1, x104000_1, u104000, rfl, HA, HK1, HO_104000, BK101, BK102, BK103, HB⟩ := hrel
  cases gk with
  | zero => exact absurd HA.out (by simp [ossuarylaw0_CopyMatrix.l0])
  | succ k1 =>
   have H := HA.out
   clear HA
   simp only [ossuarylaw0_CopyMatrix.l0] at H
   by_cases c5 : x4_1 < (l0_0.length : Int)
   ·rw [if_pos c5] at H
    have c5b0 : decide (x4_1 < (l0_0.length : Int)) = true := decide_eq_true c5
    clear c5
    obtain ⟨y104, hy104⟩ : ∃ y_ : List Int, y_ = (([] : List Int)) := ⟨_, rfl⟩
    replace H : (if 0 ≤ x4_1 then (if y104.length + (rd_L2 l0_0 x4_1).length < 17592186044416 then (if x104000_1.length < 5864062014805 then (ossuarylaw0_CopyMatrix.l0 k1 (wrap64 (x4_1 + 1)) l0_0 (x104000_1 ++ [(y104 ++ (rd_L2 l0_0 x4_1))])) else (none)) else (none)) else (none)) = some r := by first | (rw [hy104]; with_reducible exact H) | (have H2_ := (Option.bind_some _ _).symm.trans H; rw [hy104]; with_reducible exact H2_) | (have H2_ := (Option.bind_some _ _).symm.trans H; with_reducible exact H2_) | with_reducible exact H | (rw [hy104]; exact H) | exact H
    have Ny104 := mk0 hy104
    clear hy104
    by_cases c6 : 0 ≤ x4_1
    ·rw [if_pos c6] at H
     have c6b0 : decide (0 ≤ x4_1) = true := decide_eq_true c6
     clear c6
     by_cases c7 : y104.length + (rd_L2 l0_0 x4_1).length < 17592186044416
     ·rw [if_pos c7] at H
      have LMc7 := mk0 c7
      clear c7
      obtain ⟨y108, hy108⟩ : ∃ y_ : List Int, y_ = (y104 ++ (rd_L2 l0_0 x4_1)) := ⟨_, rfl⟩
      replace H : (if x104000_1.length < 5864062014805 then (ossuarylaw0_CopyMatrix.l0 k1 (wrap64 (x4_1 + 1)) l0_0 (x104000_1 ++ [y108])) else (none)) = some r := by first | (rw [hy108]; with_reducible exact H) | (have H2_ := (Option.bind_some _ _).symm.trans H; rw [hy108]; with_reducible exact H2_) | (have H2_ := (Option.bind_some _ _).symm.trans H; with_reducible exact H2_) | with_reducible exact H | (rw [hy108]; exact H) | exact H
      have Ny108 := mk0 hy108
      clear hy108
      by_cases c8 : x104000_1.length < 5864062014805
      ·rw [if_pos c8] at H
       have LMc8 := mk0 c8
       clear c8
       obtain ⟨y111, hy111⟩ : ∃ y_ : List (List Int), y_ = (x104000_1 ++ [y108]) := ⟨_, rfl⟩
       replace H : (ossuarylaw0_CopyMatrix.l0 k1 (wrap64 (x4_1 + 1)) l0_0 y111) = some r := by first | (rw [hy111]; with_reducible exact H) | (have H2_ := (Option.bind_some _ _).symm.trans H; rw [hy111]; with_reducible exact H2_) | (have H2_ := (Option.bind_some _ _).symm.trans H; with_reducible exact H2_) | with_reducible exact H | (rw [hy111]; exact H) | exact H
       have Ny111 := mk0 hy111
       clear hy111
       have H' := mk0 H
       clear H
       have hnb9 := NB101_102.out
       have hnc9 := NB102_101.out
       have hnb10 := NB101_103.out
       have hnc10 := NB103_101.out
       have hcz11_0 : wr.cell? ⟨gb101, 0, none⟩ = some (.slice A0_0 l0_0.length c0_0) := (blk_cell BK101.out 0).trans rfl
       have hfz11_0 := blk_frozen BK101.out 0
       try go_wp2
       replace HO_104000 := mk0 (Kd.S_drew HO_104000.out)
       replace BK101 := mk0 (blk_drew BK101.out)
       replace BK102 := mk0 (blk_drew BK102.out)
       replace BK103 := mk0 (blk_drew BK103.out)
       replace HB := mk0 (below_drew1 HB.out)
       have p107 : 0 ≤ (x4_1 : Int) := of_decide_eq_true uI
       have q107 : x4_1 < (l0_0.length : Int) := of_decide_eq_true uI
       obtain ⟨ad107, A107_0, c107_0, e107, hx107_0, hl107_0, hi107_0⟩ := at_L2 HR0_0.out x4_1 p107 q107
       have hw107_0 := hx107_0
       cases e107
       replace hx107_0 := (HB.out.cell (World.block_lt_of_cell? w _ hx107_0)).trans hx107_0
       have HR107_0 := mk0 hi107_0
       have HC107_0 := mk0 hl107_0
       clear hi107_0 hl107_0
       replace p107 := eq_true p107
       replace q107 := eq_true q107
       refine start_ (n := 13) (S := fun w' => w'.cell? ⟨gb103, 0, none⟩ = some (u104000) ∧ w'.cell? ⟨gb101, 0, none⟩ = some (.slice (some ad107) l0_0.length c0_0) ∧ w'.cell? (ad107.add (x4_1).toNat) = some (.slice A107_0 (rd_L2 l0_0 x4_1).length c107_0)) (ds := [12]) (bz 13 0) uP rfl rfl ⟨(blk_cell BK103.out 0).trans rfl, (blk_cell BK101.out 0).trans rfl, ((HB.out.cell (World.block_lt_of_cell? w _ hw107_0)).trans hw107_0)⟩ (fun hHeld => ?_); refine with_tabW ossuarylaw0_CopyMatrix.tab5 ossuarylaw0_CopyMatrix.bits5 (fun HT_ HW_ => ?_)
       generalize wr.drew = w12 at HO_104000 BK101 BK102 BK103 HB HR107_0 hx107_0 hHeld ⊢
       refine pU 0 12 (bz 13 1) HT_.out ?_
       refine pU 3 15 (bz 13 9) HT_.out ?_
       refine pU 5 17 (bz 13 41) HT_.out ?_
       refine pT3 1 13 (bz 13 43) HT_.out HW_.out hHeld ?_
       refine pT3 4 16 (bz 13 59) HT_.out HW_.out hHeld ?_
       refine pU 6 18 (bz 13 123) HT_.out ?_
       refine pT3 7 19 (bz 13 251) HT_.out HW_.out hHeld ?_
       refine one_ (i := 2) (N := some 14) (bz 13 255) rfl rfl (pO HT_.out) uQ (fun K hK => ?_)
       refine Kd.R_lit_step (Kd.int .i64) _ 3 ?hg (N := 14) ?hd (xs := ([] : List Int)) (inner := []) (ok := fun _ => True) (okp := fun _ => True) ?hr ?hp (fun _ hk => hk) trivial (Below.refl _ _) (Nat.le_refl _) uS ?_; (case hd => rfl); (case hg => rfl); (case hr => first | (go_simp; done) | (go_simp; rfl)); (case hp => exact (Reps.none _ _))
       intro v105 w13 ho14 hb hg_ hnew_
       clear hg_ hnew_
       (first | rw [← Ny104.out] at ho14 | (simp only [Int.reduceToNat] at ho14; rw [← Ny104.out] at ho14))
       replace HO_104000 := mk0 (Kd.S_elder' (sB HO_104000.out) (Kd.R_base ho14) hb)
       have HO106 := mk0 (Kd.R_lower ho14 (below_size ul))
       replace BK101 := bK BK101 hb
       replace BK102 := bK BK102 hb
       replace BK103 := bK BK103 hb
       replace HB := mk0 (below_step ul hb)
       clear hb ho14
       refine hK.out _ _ ⟨(blk_cell BK103.out 0).trans rfl, (blk_cell BK101.out 0).trans rfl, ((HB.out.cell (World.block_lt_of_cell? w _ hw107_0)).trans hw107_0)⟩ (fun hHeld => ?_)
       clear hK K
       refine pM (some 14) ?_
       refine one_ (i := 8) (N := some 20) (bz 13 511) rfl rfl (pO HT_.out) uQ (fun K hK => ?_)
       refine Kd.R_append_rows_step (Kd.int .i64) (w0 := w) w.heap.size uT (.tmp 14) (.tmp 19) 25 3 (.int .i64 0) 8 rfl Try.underlying25 info3 rfl uQ uR v105 y104 (rd_L2 l0_0 x4_1) _ _ _ (fun _ => True) (fun _ => False) rfl rfl ?aO ?aR (fun _ _ h => h) (fun _ h => h.elim) ?aF ?aB ?aS ?aL ?_
       (case aR => repeat (first | exact (Kd.C_below HR107_0.out HB.out) | (with_reducible refine Kd.C_alloc ?_ _) | (with_reducible refine Kd.C_drewN ?_ _) | (with_reducible refine Kd.C_drew ?_)))
       (case aB => exact ul)
       (case aF => exact (fun _ _ => trivial))
       (case aO => exact (rB HO106.out))
       (case aS => exact (below_size ul))
       (case aL => have := LMc7.out; omega)
       intro v109 w15 ho hb hg hat
       rw [← Ny108.out] at ho
       replace HO_104000 := mk0 (Kd.S_after (ok := (fun _ => True)) (sB HO_104000.out) hg hat)
       replace BK101 := mk0 (blk_grown (g := gb101) (o := .cells #[.slice (some ad107) l0_0.length c0_0] 24 (0, 0)) (bB BK101.out) hg (Kd.R_ne HO106.out BK101.out uQ))
       replace BK102 := mk0 (blk_grown (g := gb102) (o := .cells #[.slice none 0 0] 24 (0, 0)) (bB BK102.out) hg (Kd.R_ne HO106.out BK102.out uQ))
       replace BK103 := mk0 (blk_grown (g := gb103) (o := .cells #[u104000] 24 (0, 0)) (bB BK103.out) hg (Kd.R_ne HO106.out BK103.out uQ))
       replace HB := mk0 (hb)
       have HO110 := mk0 (ho)
       clear HO106 ho hb hg hat
       obtain ⟨Ao17, co17, eo17⟩ := Kd.R_slice HO110.out
       (first | subst eo17 | (injection eo17 with f1_ f2_ f3_; have f4_ := f1_.symm; have f5_ := f3_.symm; clear f1_ f2_ f3_; subst f4_; subst f5_))
       refine hK.out _ _ ⟨(blk_cell BK103.out 0).trans rfl, (blk_cell BK101.out 0).trans rfl, ((HB.out.cell (World.block_lt_of_cell? w _ hw107_0)).trans hw107_0)⟩ (fun hHeld => ?_)
       clear hK K
       refine pM (some 20) ?_
       refine one_ (i := 9) (N := some 21) (bz 13 1023) rfl rfl (pO HT_.out) uQ (fun K hK => ?_)
       refine value_ (w1 := ?_) (v := ?_) uT rfl ?_ ?_
       rotate_left 2
       ·go_simp
        constructor
        ·rfl
        ·rfl
       refine hK.out _ _ ⟨(blk_cell (blk_alloc BK103.out _) 0).trans rfl, (blk_cell (blk_alloc BK101.out _) 0).trans rfl, (World.cell?_alloc_lt _ _ _ (World.block_lt_of_cell? _ _ (((HB.out.cell (World.block_lt_of_cell? w _ hw107_0)).trans hw107_0)))).trans (((HB.out.cell (World.block_lt_of_cell? w _ hw107_0)).trans hw107_0))⟩ (fun hHeld => ?_)
       clear hK K
       refine pM (some 21) ?_
       refine one_ (i := 10) (N := some 22) (bz 13 2047) rfl rfl (pO HT_.out) uQ (fun K hK => ?_)
       refine Kd.S_append_step (Kd.slice 3 (Kd.int .i64)) (w0 := w) w.heap.size uT (.tmp 13) (.tmp 21) 22 25 (.slice none 0 0) 24 rfl Try.underlying22 info25 rfl uQ uR u104000 x104000_1 y108 [.slice Ao17 y108.length co17] (fun _ => True) (fun k_ => some k_ = (.slice Ao17 y108.length co17 : Value).ownBlock) rfl rfl ?aP (fun k_ hk_ => ((Kd.R_mono (ok' := fun k_ => ((fun _ => True)) k_ ∧ some k_ ≠ (u104000 : Value).ownBlock) (Kd.R_apart' (HO110.out) (Kd.S_typed HO_104000.out) uQ) (fun k_ hk => ⟨trivial, hk.2⟩))).1 k_ hk_.symm) ?aF ?aO ?aB ?aS ?aL ?_
       (case aP => exact Kd.M_row (Kd.R_mono (Kd.R_tight rfl (Kd.R_mono (ok' := fun k_ => ((fun _ => True)) k_ ∧ some k_ ≠ (u104000 : Value).ownBlock) (Kd.R_apart' (HO110.out) (Kd.S_typed HO_104000.out) uQ) (fun k_ hk => ⟨trivial, hk.2⟩))) (fun _ h_ => h_)))
       (case aB => exact ul)
       (case aF => exact (fun _ _ => trivial))
       (case aO => exact (by (with_reducible repeat (first | apply sA | apply sN | apply sD)); exact Kd.S_mono HO_104000.out (fun k_ hk => ⟨trivial, fun e_ => hk.2 e_⟩)))
       (case aS => exact (below_size ul))
       (case aL => have := LMc8.out; omega)
       intro v112 w16 ho hb hg hat
       rw [← Ny111.out] at ho
       replace BK101 := mk0 (blk_grown (g := gb101) (o := .cells #[.slice (some ad107) l0_0.length c0_0] 24 (0, 0)) (bB BK101.out) hg (Kd.S_ne HO_104000.out BK101.out uQ))
       replace BK102 := mk0 (blk_grown (g := gb102) (o := .cells #[.slice none 0 0] 24 (0, 0)) (bB BK102.out) hg (Kd.S_ne HO_104000.out BK102.out uQ))
       replace BK103 := mk0 (blk_grown (g := gb103) (o := .cells #[u104000] 24 (0, 0)) (bB BK103.out) hg (Kd.S_ne HO_104000.out BK103.out uQ))
       replace HB := mk0 (hb)
       have HO113 := mk0 (ho)
       clear HO_104000 HO110 ho hb hg hat
       obtain ⟨Ao18, co18, eo18⟩ := Kd.S_slice HO113.out
       (first | subst eo18 | (injection eo18 with f1_ f2_ f3_; have f4_ := f1_.symm; have f5_ := f3_.symm; clear f1_ f2_ f3_; subst f4_; subst f5_))
       refine hK.out _ _ ⟨(blk_cell BK103.out 0).trans rfl, (blk_cell BK101.out 0).trans rfl, ((HB.out.cell (World.block_lt_of_cell? w _ hw107_0)).trans hw107_0)⟩ (fun hHeld => ?_)
       clear hK K
       refine pM (some 22) ?_
       refine pU 11 23 (bz 13 4095) HT_.out ?_
       refine last_ (i := 12) (N := none) (bz 13 8191) rfl rfl (pO HT_.out) uQ (fun K hK => ?_)
       have hs19 : w16.cell? ⟨gb103, 0, none⟩ = some (u104000) := (blk_cell BK103.out 0).trans rfl
       have hfs19 := blk_frozen BK103.out 0
       have hns19_0 := NB101_103.out
       have hns19_1 := NB102_103.out
       have hms19_0 := NB103_101.out
       have hms19_1 := NB103_102.out
       refine skip_ (w1 := ?_) uT rfl ?_ ?_
       rotate_left
       ·go_simp
        rfl
       refine hK.out _ _ ?_
       clear hK K
       refine done_ (done_of HT_.out uP) ?_
       try go_wp2
       go_roundg k1
       case measure => have := HK1.out; omega
       case rel => exact ⟨(wrap64 (x4_1 + 1)), (y111), (.slice Ao18 y111.length co18), uJ, H', ⟨uO⟩, ⟨by (with_reducible repeat (first | apply sA | apply sN | apply sD)); exact Kd.S_mono (Kd.S_far (p := ⟨gb103, 0, none⟩) (Kd.S_types HO113.out BK103.out uQ) (fun _ hk => hk.2) (.slice Ao18 y111.length co18)) (fun _ hk => trivial)⟩, ⟨by refine bB ?_; refine blk_far ?_ NB101_103.out _; refine bB ?_; exact BK101.out⟩, ⟨by refine bB ?_; refine blk_far ?_ NB102_103.out _; refine bB ?_; exact BK102.out⟩, ⟨by refine bB ?_; refine blk_put (cs := #[u104000]) ?_ 0 _ rfl; refine bB ?_; exact BK103.out⟩, ⟨ul⟩⟩
      ·rw [if_neg c8] at H
       exact absurd H uS
     ·rw [if_neg c7] at H
      exact absurd H uS
    ·rw [if_neg c6] at H
     exact absurd H uS
   ·rw [if_neg c5] at H
    have c5b0 : decide (x4_1 < (l0_0.length : Int)) = false := decide_eq_false c5
    clear c5
    obtain rfl := Option.some.inj H
    have hnb20 := NB101_102.out
    have hnc20 := NB102_101.out
    have hnb21 := NB101_103.out
    have hnc21 := NB103_101.out
    have hcz22_0 : wr.cell? ⟨gb101, 0, none⟩ = some (.slice A0_0 l0_0.length c0_0) := (blk_cell BK101.out 0).trans rfl
    have hfz22_0 := blk_frozen BK101.out 0
    have hnb23 := NB103_102.out
    have hnc23 := NB102_103.out
    have hcz24_0 : wr.cell? ⟨gb103, 0, none⟩ = some (u104000) := (blk_cell BK103.out 0).trans rfl
    have hfz24_0 := blk_frozen BK103.out 0
    obtain ⟨Ao25, co25, eo25⟩ := Kd.S_slice HO_104000.out
    subst eo25
    have hcz26_0 : wr.cell? ⟨gb102, 0, none⟩ = some (.slice none 0 0) := (blk_cell BK102.out 0).trans rfl
    have hfz26_0 := blk_frozen BK102.out 0
    go_wp2
    refine bodyPost_ret (results_cell_row rfl _ _ gb102 24 #[.slice Ao25 x104000_1.length co25] (0, 0) _ rfl (by refine bB ?_; refine blk_put (cs := #[.slice none 0 0]) ?_ 0 _ rfl; refine bB ?_; exact BK102.out) Try.underlying24 rfl uP) rfl ?_
    exact ⟨_, uD, by (with_reducible repeat (first | apply sA | apply sN | apply sD)); exact Kd.S_mono (Kd.S_far (p := ⟨gb102, 0, none⟩) (Kd.S_types HO_104000.out BK102.out uQ) (fun _ hk => hk.2) (.slice Ao25 x104000_1.length co25)) (fun _ hk => trivial), ul⟩
def ossuaryref1_byteNum.f (a0 : Int) : Option (Bool) := if a0 ≥ 0 then (some (decide (a0 ≤ 255))) else (some false)
set_option maxHeartbeats 8000000 in
set_option maxRecDepth 100000 in
theorem ossuaryref1_byteNum.calls (a0 : Int) (r : Bool) (w : World) (h : ossuaryref1_byteNum.f a0 = some r) :
  Calls Try.prog 75 #[.int .i64 a0] w fun e w' => e = .returned (.bool r) ∧ Drawn0 w w' := by
 have H : (if a0 ≥ 0 then (some (decide (a0 ≤ 255))) else (some false)) = some r := h
 clear h
 by_cases c2 : a0 ≥ 0
 ·rw [if_pos c2] at H
  have c2b0 : decide (0 ≤ a0) = true := decide_eq_true c2
  clear c2
  obtain rfl := Option.some.inj H
  go_enter Try.func75, Try.ntmps75
  go_wp2
  go_ret
  exact ⟨uJ, uH⟩
 ·rw [if_neg c2] at H
  have c2b0 : decide (0 ≤ a0) = false := decide_eq_false c2
  clear c2
  obtain rfl := Option.some.inj H
  go_enter Try.func75, Try.ntmps75
  go_wp2
  go_ret
  exact ⟨uJ, uH⟩
end Go.Proofs.Ytaahnicjjpddjaa.GRef
