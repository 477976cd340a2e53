/- Functions of the program as Lean functions, each with a proof that its call comes to what the function says. No condition. -/
import Derived.Test.YtaahnicjjpddjaaKMatricesGRef2
namespace Go.Proofs.Ytaahnicjjpddjaa.GRef
open Go.Proofs.Ytaahnicjjpddjaa.Fn
open Go.Proofs.Ytaahnicjjpddjaa
open Go.RowKit Go.Proofs.YtaahnicjjpddjaaW.PrintWords Go.Proofs.YtaahnicjjpddjaaW.PrintLast Go.Proofs.YtaahnicjjpddjaaW.PrintMore
attribute [local go_sem] max2_int min2_int max_two min_two max_three min_three max_four min_four   -- for this text's walks alone
set_option linter.unusedVariables false
set_option linter.unusedSimpArgs false
mutual
def ossuaryref1_Pick.j0 : Nat → List Int → Bool → List (List Int) → Option ((List (List Int)) × Int)
 | 0, _, _, _ => none
 | k + 1, x1, x20, x159000 => if x20 = true then (some (([] : List (List Int)), 300)) else (ossuaryref1_Pick.l0 k x1 0 x159000 ([] : List (List Int)))
def ossuaryref1_Pick.l0 : Nat → List Int → Int → List (List Int) → List (List Int) → Option ((List (List Int)) × Int)
 | 0, _, _, _, _ => none
 | k + 1, x1, x7, x159000, x162000 => if x7 < (x1.length : Int) then (if 0 ≤ x7 then (if (rd x1 x7) < 0 then (some (([] : List (List Int)), 300)) else (if (rd x1 x7) ≥ (x159000.length : Int) then (some (([] : List (List Int)), 300)) else ((some (([] : List Int) : List Int)).bind fun y164 => (if 0 ≤ (rd x1 x7) then (if (rd x1 x7) < (x159000.length : Int) then (if y164.length + (rd_L2 x159000 (rd x1 x7)).length < 17592186044416 then (if x162000.length < 5864062014805 then (ossuaryref1_Pick.l0 k x1 (wrap64 (x7 + 1)) x159000 (x162000 ++ [(y164 ++ (rd_L2 x159000 (rd x1 x7)))])) else (none)) else (none)) else (none)) else (none))))) else (none)) else (some (x162000, 0))
end
def ossuaryref1_Pick.f (k : Nat) (l0_0 : List (List Int)) (l1 : List Int) : Option ((List (List Int)) × Int) := (ossuaryref1_MatrixMay.f k l0_0).bind fun t160 => (if t160 = true then (if (l1.length : Int) < 1 then (ossuaryref1_Pick.j0 k l1 true l0_0) else (ossuaryref1_Pick.j0 k l1 (decide ((l1.length : Int) > 12)) l0_0)) else (ossuaryref1_Pick.j0 k l1 true l0_0))
theorem ossuaryref1_Pick.mono_l : ∀ k, (∀ y0 y1 y2, LeO (ossuaryref1_Pick.j0 k y0 y1 y2) (ossuaryref1_Pick.j0 (k + 1) y0 y1 y2)) ∧ (∀ y0 y1 y2 y3, LeO (ossuaryref1_Pick.l0 k y0 y1 y2 y3) (ossuaryref1_Pick.l0 (k + 1) y0 y1 y2 y3))
 | 0 => ⟨fun _ _ _ r h => by simp [ossuaryref1_Pick.j0] at h, fun _ _ _ _ r h => by simp [ossuaryref1_Pick.l0] at h⟩
 | k + 1 => by
  obtain ⟨ih0, ih1⟩ := ossuaryref1_Pick.mono_l k
  refine ⟨?_, ?_⟩
  ·intro y0 y1 y2
   unfold ossuaryref1_Pick.j0
   repeat' with_reducible first | exact ih0 _ _ _ | exact ih1 _ _ _ _ | exact ossuaryref1_MatrixMay.mono _ _ | exact LeO.refl _ | exact LeO.none _ | refine LeO.ite ?_ ?_ | refine LeO.bind ?_ (fun _ => ?_)
  ·intro y0 y1 y2 y3
   unfold ossuaryref1_Pick.l0
   repeat' with_reducible first | exact ih0 _ _ _ | exact ih1 _ _ _ _ | exact ossuaryref1_MatrixMay.mono _ _ | exact LeO.refl _ | exact LeO.none _ | refine LeO.ite ?_ ?_ | refine LeO.bind ?_ (fun _ => ?_)
theorem ossuaryref1_Pick.mono : ∀ a0 a1 k, LeO (ossuaryref1_Pick.f k a0 a1) (ossuaryref1_Pick.f (k + 1) a0 a1) := by
 intro a0 a1 k
 obtain ⟨ih0, ih1⟩ := ossuaryref1_Pick.mono_l k
 unfold ossuaryref1_Pick.f
 repeat' with_reducible first | exact ih0 _ _ _ | exact ih1 _ _ _ _ | exact ossuaryref1_MatrixMay.mono _ _ | exact LeO.refl _ | exact LeO.none _ | refine LeO.ite ?_ ?_ | refine LeO.bind ?_ (fun _ => ?_)
def ossuaryref1_Pick.T7 : Bool × List (List Nat × List Nat) := (true, [([], []), ([], []), ([0, 1], [0, 1]), ([2], [2]), ([3], [3]), ([4], [4]), ([5], [5]), ([5], [5]), ([6, 7, 5], [5, 6, 7]), ([8, 5], [5, 8]), ([5], [5]), ([10, 5], [5, 10]), ([11, 5], [5, 11]), ([9, 12, 5], [5, 9, 12]), ([5, 13], [5, 13])])
def ossuaryref1_Pick.B7 : List Nat := [0, 0, 3, 7, 15, 31, 63, 63, 255, 511, 63, 1087, 3135, 8191, 16383]
theorem ossuaryref1_Pick.tab7 : rtab .any (opsOf Try.f31 7) = ossuaryref1_Pick.T7 := by kernel_rfl
theorem ossuaryref1_Pick.bits7 : waitsOk ossuaryref1_Pick.T7.2 ossuaryref1_Pick.B7 = true := by kernel_rfl
def ossuaryref1_Pick.T9 : Bool × List (List Nat × List Nat) := (true, [([], []), ([0], [0]), ([], []), ([], []), ([3], [3]), ([], []), ([], []), ([5, 6], [5, 6]), ([7], [7]), ([4, 8], [4, 8]), ([9], [9]), ([2, 10], [2, 10]), ([11], [11]), ([1, 12, 11], [1, 12]), ([0, 1, 2, 3, 4, 5, 6, 7, 8, 9, 10, 11, 12, 13], []), ([14, 13, 13, 0, 1, 2, 3, 4, 5, 6, 7, 8, 9, 10, 11, 12, 13], [13, 14])])
def ossuaryref1_Pick.B9 : List Nat := [0, 1, 0, 0, 8, 0, 0, 96, 224, 504, 1016, 2044, 4092, 8191, 16383, 32767]
theorem ossuaryref1_Pick.tab9 : rtab .any (opsOf Try.f31 9) = ossuaryref1_Pick.T9 := by kernel_rfl
theorem ossuaryref1_Pick.bits9 : waitsOk ossuaryref1_Pick.T9.2 ossuaryref1_Pick.B9 = true := by kernel_rfl
set_option maxHeartbeats 8000000 in
set_option maxRecDepth 100000 in
theorem ossuaryref1_Pick.calls (k : Nat) (A0_0 : Option Addr) (c0_0 : Nat) (l0_0 : List (List Int)) (A1 : Option Addr) (c1 : Nat) (l1 : List Int) (r1 : List (List Int)) (r2 : Int) (w : World) (hr0_0 : Kd.C (Kd.slice 3 (Kd.int .i64)) w A0_0 l0_0.length l0_0) (hc0_0 : l0_0.length ≤ c0_0) (hr1 : Kd.C (Kd.int .i64) w A1 l1.length l1) (hc1 : l1.length ≤ c1) (h : ossuaryref1_Pick.f k l0_0 l1 = some (r1, r2)) :
  Calls Try.prog 31 #[.agg #[.slice A0_0 l0_0.length c0_0], .slice A1 l1.length c1] w fun e w' => ∃ v0_ : Value, e = .returned (.tuple #[.agg #[v0_], .int .i64 r2]) ∧ Kd.S (Kd.slice 3 (Kd.int .i64)) 25 w' w.heap.size (fun _ => True) v0_ r1 ∧ Below w.heap.size w w' := by
 have hu24 := Try.underlying24
 have HR0_0 := mk0 hr0_0
 have HC0_0 := mk0 hc0_0
 clear hr0_0 hc0_0
 have HR1 := mk0 hr1
 have HC1 := mk0 hc1
 clear hr1 hc1
 have HB := mk0 (Below.refl w.heap.size w)
 have H : ((ossuaryref1_MatrixMay.f k l0_0).bind fun t160 => (if t160 = true then (if (l1.length : Int) < 1 then (ossuaryref1_Pick.j0 k l1 true l0_0) else (ossuaryref1_Pick.j0 k l1 (decide ((l1.length : Int) > 12)) l0_0)) else (ossuaryref1_Pick.j0 k l1 true l0_0))) = some (r1, r2) := h
 clear h
 have HC3 := mk0 H
 clear H
 go_enter Try.func31, Try.ntmps31
 go_upto_region 1 with (first | ((with_reducible refine gate_dst (N := 2) rfl ?_); (try (refine gate_guard uT ?_; dsimp only)); refine box_event uT (N := 2) uT (cs := #[.slice A0_0 l0_0.length c0_0]) (t := 24) uK ?_; intro gb158 hg w4 hbox hb; have BK158 := mk0 (hbox); have GW158 := mk0 (nB hg HB); have GE158 := mk0 (nB hg HB); replace HB := mk0 (below_step uy hb); clear hb hbox hg) | ((with_reducible refine gate_dst (N := 4) rfl ?_); (try (refine gate_guard uT ?_; dsimp only)); refine box_event uT (N := 4) uT (cs := #[.slice none 0 0]) (t := 24) uK ?_; intro gb159 hg w5 hbox hb; have BK159 := mk0 (hbox); have GW159 := mk0 (nB hg HB); have GE159 := mk0 (nB hg HB); replace HB := mk0 (below_step ul hb); have NB158_159 := mk0 (nF hg BK158.out); have NB159_158 := mk0 (nE hg BK158.out); replace BK158 := bK BK158 hb; clear hb hbox hg))
 (try simp only [Act.put, List.setIfInBounds_toArray, List.set_cons_zero, List.set_cons_succ])
 go_cut [20] (fun v20 wc => ∃ (kq : Nat) (x20_2 : Bool), v20 = .bool x20_2 ∧ Aside0 (ossuaryref1_Pick.j0 kq l1 x20_2 l0_0 = some (r1, r2)) ∧ Aside0 (kq ≤ k) ∧ Aside0 (wc.heap[gb158]? = some (.cells #[(.slice A0_0 l0_0.length c0_0)] 24 (0, 0))) ∧ Aside0 (wc.heap[gb159]? = some (.cells #[(.slice none 0 0)] 24 (0, 0))) ∧ Aside0 (Below w.heap.size w wc))
 case first =>
  have H := HC3.out
  clear HC3
  replace H := Option.bind_eq_some_iff.mp H
  obtain ⟨t160, A60, H⟩ := H
  replace H : (if t160 = true then (if (l1.length : Int) < 1 then (ossuaryref1_Pick.j0 k l1 true l0_0) else (ossuaryref1_Pick.j0 k l1 (decide ((l1.length : Int) > 12)) l0_0)) else (ossuaryref1_Pick.j0 k l1 true l0_0)) = some (r1, r2) := H
  have A6 := mk0 A60
  clear A60
  by_cases c7 : t160 = true
  ·subst c7
   have H1 : (if (l1.length : Int) < 1 then (ossuaryref1_Pick.j0 k l1 true l0_0) else (ossuaryref1_Pick.j0 k l1 (decide ((l1.length : Int) > 12)) l0_0)) = some (r1, r2) := by rw [if_pos rfl] at H; exact H
   clear H
   have H := H1
   clear H1
   by_cases c8 : (l1.length : Int) < 1
   ·rw [if_pos c8] at H
    have c8b0 : decide ((l1.length : Int) < 1) = true := decide_eq_true c8
    have c8b1 : decide (l1.length < 1) = true := decide_eq_true uR
    clear c8
    (first | rw [c8b0] | (simp only [i64_w, i32_w]; rw [c8b0]) | skip)
    have H' := mk0 H
    clear H
    have hnb9 := NB158_159.out
    have hnc9 := NB159_158.out
    have hcz10_0 : w5.cell? ⟨gb158, 0, none⟩ = some (.slice A0_0 l0_0.length c0_0) := (blk_cell BK158.out 0).trans rfl
    have hfz10_0 := blk_frozen BK158.out 0
    go_wp2_with (first | ((with_reducible refine gate_callee (f := 37) rfl ?_); refine goesL_ (some 9) rfl rfl Try.func37 uP rfl #[.agg #[.slice A0_0 l0_0.length c0_0]] rfl ui ?_; (with_reducible refine (ossuaryref1_MatrixMay.calls k _ _ l0_0 true _ ?side1 ?side2 A6.out).mono ?_); (case side1 => exact cB (Kd.C_below HR0_0.out HB.out)); (case side2 => exact HC0_0.out); rintro e w11 ⟨rfl, hb⟩; refine ⟨_, rfl, ?_⟩; replace BK158 := bK BK158 hb; replace BK159 := bK BK159 hb; replace HB := mk0 (below_step ul hb); (try clear hb)))
    go_meet
    case rel => exact ⟨_, (true), uJ, H', ⟨uL⟩, ⟨bB BK158.out⟩, ⟨bB BK159.out⟩, ⟨ul⟩⟩
   ·rw [if_neg c8] at H
    have c8b0 : decide ((l1.length : Int) < 1) = false := decide_eq_false c8
    have c8b1 : decide (l1.length < 1) = false := decide_eq_false uR
    clear c8
    (first | rw [c8b0] | (simp only [i64_w, i32_w]; rw [c8b0]) | skip)
    have H' := mk0 H
    clear H
    have hnb12 := NB158_159.out
    have hnc12 := NB159_158.out
    have hcz13_0 : w5.cell? ⟨gb158, 0, none⟩ = some (.slice A0_0 l0_0.length c0_0) := (blk_cell BK158.out 0).trans rfl
    have hfz13_0 := blk_frozen BK158.out 0
    go_wp2_with (first | ((with_reducible refine gate_callee (f := 37) rfl ?_); refine goesL_ (some 9) rfl rfl Try.func37 uP rfl #[.agg #[.slice A0_0 l0_0.length c0_0]] rfl ui ?_; (with_reducible refine (ossuaryref1_MatrixMay.calls k _ _ l0_0 true _ ?side1 ?side2 A6.out).mono ?_); (case side1 => exact cB (Kd.C_below HR0_0.out HB.out)); (case side2 => exact HC0_0.out); rintro e w14 ⟨rfl, hb⟩; refine ⟨_, rfl, ?_⟩; replace BK158 := bK BK158 hb; replace BK159 := bK BK159 hb; replace HB := mk0 (below_step ul hb); (try clear hb)))
    go_meet
    case rel => exact ⟨_, (decide ((l1.length : Int) > 12)), uJ, H', ⟨uL⟩, ⟨bB BK158.out⟩, ⟨bB BK159.out⟩, ⟨ul⟩⟩
  ·replace c7 := Bool.eq_false_iff.mpr c7
   subst c7
   have H1 : (ossuaryref1_Pick.j0 k l1 true l0_0) = some (r1, r2) := by rw [if_neg (show ¬ (false = true) by decide)] at H; exact H
   clear H
   have H := H1
   clear H1
   have H' := mk0 H
   clear H
   have hnb15 := NB158_159.out
   have hnc15 := NB159_158.out
   have hcz16_0 : w5.cell? ⟨gb158, 0, none⟩ = some (.slice A0_0 l0_0.length c0_0) := (blk_cell BK158.out 0).trans rfl
   have hfz16_0 := blk_frozen BK158.out 0
   go_wp2_with (first | ((with_reducible refine gate_callee (f := 37) rfl ?_); refine goesL_ (some 9) rfl rfl Try.func37 uP rfl #[.agg #[.slice A0_0 l0_0.length c0_0]] rfl ui ?_; (with_reducible refine (ossuaryref1_MatrixMay.calls k _ _ l0_0 false _ ?side1 ?side2 A6.out).mono ?_); (case side1 => exact cB (Kd.C_below HR0_0.out HB.out)); (case side2 => exact HC0_0.out); rintro e w17 ⟨rfl, hb⟩; refine ⟨_, rfl, ?_⟩; replace BK158 := bK BK158 hb; replace BK159 := bK BK159 hb; replace HB := mk0 (below_step ul hb); (try clear hb)))
   go_meet
   case rel => exact ⟨_, (true), uJ, H', ⟨uL⟩, ⟨bB BK158.out⟩, ⟨bB BK159.out⟩, ⟨ul⟩⟩
 case rest =>
  clear HC3
  try clear c1
  try clear p2
  try clear c3
  try clear c7
  try clear c8
  try clear c8b0
  try clear c8b1
  try clear c9
  try clear c12
  try clear c15
  try clear hcz10_0
  try clear hcz13_0
  try clear hcz16_0
  try clear hfz10_0
  try clear hfz13_0
  try clear hfz16_0
  obtain ⟨kq, x20_2, rfl, HA, HJ2, BK158, BK159, HB⟩ := hcut
  cases kq with
  | zero => exact absurd HA.out (by simp [ossuaryref1_Pick.j0])
  | succ kj2 =>
   have H := HA.out
   clear HA
   simp only [ossuaryref1_Pick.j0] at H
   by_cases c18 : x20_2 = true
   ·subst c18
    have H1 : (some (([] : List (List Int)), 300)) = some (r1, r2) := by rw [if_pos rfl] at H; exact H
    clear H
    have H := H1
    clear H1
    simp only [Option.some.injEq, Prod.mk.injEq] at H
    obtain ⟨rfl, rfl⟩ := H
    have hnb19 := NB159_158.out
    have hnc19 := NB158_159.out
    have hcz20_0 : wc.cell? ⟨gb159, 0, none⟩ = some (.slice none 0 0) := (blk_cell BK159.out 0).trans rfl
    have hfz20_0 := blk_frozen BK159.out 0
    go_wp2
    refine bodyPost_ret (results_ct rfl _ _ gb159 24 #[.slice none 0 0] (0, 0) _ rfl uB Try.underlying24 rfl uP) rfl ?_
    exact ⟨_, uD, uh, ul⟩
   ·replace c18 := Bool.eq_false_iff.mpr c18
    subst c18
    have H1 : (ossuaryref1_Pick.l0 kj2 l1 0 l0_0 ([] : List (List Int))) = some (r1, r2) := by rw [if_neg (show ¬ (false = true) by decide)] at H; exact H
    clear H
    have H := H1
    clear H1
    have H' := mk0 H
    clear H
    go_wp2_with (first | ((with_reducible refine gate_dst (N := 6) rfl ?_); (try (refine gate_guard uT ?_; dsimp only)); refine box_event uT (N := 6) uT (cs := #[.slice none 0 0]) (t := 24) uK ?_; intro gb161 hg w21 hbox hb; have BK161 := mk0 (hbox); have GW161 := mk0 (nB hg HB); have GE161 := mk0 (nB hg HB); replace HB := mk0 (below_step ul hb); have NB158_161 := mk0 (nF hg BK158.out); have NB161_158 := mk0 (nE hg BK158.out); replace BK158 := bK BK158 hb; have NB159_161 := mk0 (nF hg BK159.out); have NB161_159 := mk0 (nE hg BK159.out); replace BK159 := bK BK159 hb; clear hb hbox hg))
    go_loopg [7] kj2 (fun kq v7 w' => ∃ (x7_2 : Int) (x162000_2 : List (List Int)) (u162000 : Value), v7 = .int .i64 x7_2 ∧ Aside0 (ossuaryref1_Pick.l0 kq l1 x7_2 l0_0 x162000_2 = some (r1, r2)) ∧ Aside0 (kq ≤ kj2) ∧ Aside0 (Kd.S (Kd.slice 3 (Kd.int .i64)) 25 w' w.heap.size (fun _ => True) u162000 x162000_2) ∧ Aside0 (w'.heap[gb158]? = some (.cells #[(.slice A0_0 l0_0.length c0_0)] 24 (0, 0))) ∧ Aside0 (w'.heap[gb159]? = some (.cells #[(.slice none 0 0)] 24 (0, 0))) ∧ Aside0 (w'.heap[gb161]? = some (.cells #[u162000] 24 (0, 0))) ∧ Aside0 (Below w.heap.size w w'))
    case atStart => exact ⟨(0), (([] : List (List Int))), (.slice none 0 0), uJ, H', ⟨Nat.le_refl _⟩, ⟨uh⟩, ⟨bB BK158.out⟩, ⟨bB BK159.out⟩, ⟨bB BK161.out⟩, ⟨ul⟩⟩
    case round =>
     clear H'
     try clear c1
     try clear p2
     try clear c3
     try clear c7
     try clear c8
     try clear c8b0
     try clear c8b1
     try clear c9
     try clear c12
     try clear c15
     try clear c18
     try clear c19
     try clear hcz10_0
     try clear hcz13_0
     try clear hcz16_0
     try clear hcz20_0
     try clear hfz10_0
     try clear hfz13_0
     try clear hfz16_0
     try clear hfz20_0
     try clear p2
     obtain ⟨x7_2, x162000_2, u162000, rfl, HA, HK2, HO_162000, BK158, BK159, BK161, HB⟩ := hrel
     cases gk with
     | zero => exact absurd HA.out (by simp [ossuaryref1_Pick.l0])
     | succ k2 =>
      have H := HA.out
      clear HA
      simp only [ossuaryref1_Pick.l0] at H
      by_cases c22 : x7_2 < (l1.length : Int)
      ·rw [if_pos c22] at H
       have c22b0 : decide (x7_2 < (l1.length : Int)) = true := decide_eq_true c22
       clear c22
       by_cases c23 : 0 ≤ x7_2
       ·rw [if_pos c23] at H
        have c23b0 : decide (0 ≤ x7_2) = true := decide_eq_true c23
        clear c23
        by_cases c24 : (rd l1 x7_2) < 0
        ·rw [if_pos c24] at H
         have c24b0 : decide ((rd l1 x7_2) < 0) = true := decide_eq_true c24
         clear c24
         simp only [Option.some.injEq, Prod.mk.injEq] at H
         obtain ⟨rfl, rfl⟩ := H
         try go_wp2
         replace HO_162000 := mk0 (Kd.S_drew HO_162000.out)
         replace BK158 := mk0 (blk_drew BK158.out)
         replace BK159 := mk0 (blk_drew BK159.out)
         replace BK161 := mk0 (blk_drew BK161.out)
         replace HB := mk0 (below_drew1 HB.out)
         have p162 : 0 ≤ (x7_2 : Int) := of_decide_eq_true uI
         have q162 : x7_2 < (l1.length : Int) := of_decide_eq_true uI
         obtain ⟨ad162, e162, hx162_0⟩ := Kd.at_int HR1.out x7_2 p162 q162
         have hw162_0 := hx162_0
         cases e162
         replace hx162_0 := (HB.out.cell (World.block_lt_of_cell? w _ hx162_0)).trans hx162_0
         replace p162 := eq_true p162
         replace q162 := eq_true q162
         refine start_ (n := 15) (S := fun w' => w'.cell? (ad162.add (x7_2).toNat) = some (.int .i64 (rd l1 x7_2))) (ds := []) (bz 15 0) uP rfl rfl (((HB.out.cell (World.block_lt_of_cell? w _ hw162_0)).trans hw162_0)) (fun hHeld => ?_); refine with_tabW ossuaryref1_Pick.tab7 ossuaryref1_Pick.bits7 (fun HT_ HW_ => ?_)
         generalize wr.drew = w25 at HO_162000 BK158 BK159 BK161 HB hx162_0 hHeld ⊢
         refine pU 0 28 (bz 15 1) HT_.out ?_
         refine pU 1 29 (bz 15 3) HT_.out ?_
         refine pU 2 30 (bz 15 7) HT_.out ?_
         refine pT1 3 31 (bz 15 15) HT_.out HW_.out hHeld ?_
         refine pU 4 32 (bz 15 31) HT_.out ?_
         refine pU 5 33 (bz 15 63) HT_.out ?_
         refine pN 6 34 (bz 15 127) HT_.out ?_
         refine pN 7 35 (bz 15 255) HT_.out ?_
         refine pN 8 36 (bz 15 511) HT_.out ?_
         refine pN 9 37 (bz 15 1023) HT_.out ?_
         refine pN 10 38 (bz 15 2047) HT_.out ?_
         refine pN 11 39 (bz 15 4095) HT_.out ?_
         refine pN 12 40 (bz 15 8191) HT_.out ?_
         refine pN 13 41 (bz 15 16383) HT_.out ?_
         refine pU 14 42 (bz 15 32767) HT_.out ?_
         refine done_ (done_of HT_.out uP) ?_
         have hnb26 := NB159_158.out
         have hnc26 := NB158_159.out
         have hnb27 := NB159_161.out
         have hnc27 := NB161_159.out
         have hcz28_0 : w25.cell? ⟨gb159, 0, none⟩ = some (.slice none 0 0) := (blk_cell BK159.out 0).trans rfl
         have hfz28_0 := blk_frozen BK159.out 0
         try go_wp2
         refine bodyPost_ret (results_ct rfl _ _ gb159 24 #[.slice none 0 0] (0, 0) _ rfl uB Try.underlying24 rfl uP) rfl ?_
         exact ⟨_, uD, uh, ul⟩
        ·rw [if_neg c24] at H
         have c24b0 : decide ((rd l1 x7_2) < 0) = false := decide_eq_false c24
         clear c24
         by_cases c29 : (rd l1 x7_2) ≥ (l0_0.length : Int)
         ·rw [if_pos c29] at H
          have c29b0 : decide ((l0_0.length : Int) ≤ (rd l1 x7_2)) = true := decide_eq_true c29
          clear c29
          simp only [Option.some.injEq, Prod.mk.injEq] at H
          obtain ⟨rfl, rfl⟩ := H
          try go_wp2
          replace HO_162000 := mk0 (Kd.S_drew HO_162000.out)
          replace BK158 := mk0 (blk_drew BK158.out)
          replace BK159 := mk0 (blk_drew BK159.out)
          replace BK161 := mk0 (blk_drew BK161.out)
          replace HB := mk0 (below_drew1 HB.out)
          have p162 : 0 ≤ (x7_2 : Int) := of_decide_eq_true uI
          have q162 : x7_2 < (l1.length : Int) := of_decide_eq_true uI
          obtain ⟨ad162, e162, hx162_0⟩ := Kd.at_int HR1.out x7_2 p162 q162
          have hw162_0 := hx162_0
          cases e162
          replace hx162_0 := (HB.out.cell (World.block_lt_of_cell? w _ hx162_0)).trans hx162_0
          replace p162 := eq_true p162
          replace q162 := eq_true q162
          have p163 : 0 ≤ (x7_2 : Int) := of_decide_eq_true uI
          have q163 : x7_2 < (l1.length : Int) := of_decide_eq_true uI
          obtain ⟨ad163, e163, hx163_0⟩ := Kd.at_int HR1.out x7_2 p163 q163
          have hw163_0 := hx163_0
          obtain rfl : ad162 = ad163 := (by injection e163)
          replace hx163_0 := (HB.out.cell (World.block_lt_of_cell? w _ hx163_0)).trans hx163_0
          replace p163 := eq_true p163
          replace q163 := eq_true q163
          refine start_ (n := 15) (S := fun w' => w'.cell? ⟨gb158, 0, none⟩ = some (.slice A0_0 l0_0.length c0_0) ∧ w'.cell? (ad162.add (x7_2).toNat) = some (.int .i64 (rd l1 x7_2)) ∧ w'.cell? (ad162.add (x7_2).toNat) = some (.int .i64 (rd l1 x7_2))) (ds := []) (bz 15 0) uP rfl rfl ⟨(blk_cell BK158.out 0).trans rfl, ((HB.out.cell (World.block_lt_of_cell? w _ hw162_0)).trans hw162_0), ((HB.out.cell (World.block_lt_of_cell? w _ hw163_0)).trans hw163_0)⟩ (fun hHeld => ?_); refine with_tabW ossuaryref1_Pick.tab7 ossuaryref1_Pick.bits7 (fun HT_ HW_ => ?_)
          generalize wr.drew = w30 at HO_162000 BK158 BK159 BK161 HB hx162_0 hx163_0 hHeld ⊢
          refine pU 0 28 (bz 15 1) HT_.out ?_
          refine pU 1 29 (bz 15 3) HT_.out ?_
          refine pU 2 30 (bz 15 7) HT_.out ?_
          refine pT3 3 31 (bz 15 15) HT_.out HW_.out hHeld ?_
          refine pU 4 32 (bz 15 31) HT_.out ?_
          refine pU 5 33 (bz 15 63) HT_.out ?_
          refine pU 6 34 (bz 15 127) HT_.out ?_
          refine pU 7 35 (bz 15 255) HT_.out ?_
          refine pU 8 36 (bz 15 511) HT_.out ?_
          refine pU 10 38 (bz 15 1535) HT_.out ?_
          refine pT3 9 37 (bz 15 2047) HT_.out HW_.out hHeld ?_
          refine pT3 11 39 (bz 15 4095) HT_.out HW_.out hHeld ?_
          refine pU 12 40 (bz 15 8191) HT_.out ?_
          refine pU 13 41 (bz 15 16383) HT_.out ?_
          refine pU 14 42 (bz 15 32767) HT_.out ?_
          refine done_ (done_of HT_.out uP) ?_
          have hnb31 := NB159_158.out
          have hnc31 := NB158_159.out
          have hnb32 := NB159_161.out
          have hnc32 := NB161_159.out
          have hcz33_0 : w30.cell? ⟨gb159, 0, none⟩ = some (.slice none 0 0) := (blk_cell BK159.out 0).trans rfl
          have hfz33_0 := blk_frozen BK159.out 0
          try go_wp2
          refine bodyPost_ret (results_ct rfl _ _ gb159 24 #[.slice none 0 0] (0, 0) _ rfl uB Try.underlying24 rfl uP) rfl ?_
          exact ⟨_, uD, uh, ul⟩
         ·rw [if_neg c29] at H
          have c29b0 : decide ((l0_0.length : Int) ≤ (rd l1 x7_2)) = false := decide_eq_false c29
          clear c29
          obtain ⟨y164, hy164⟩ : ∃ y_ : List Int, y_ = (([] : List Int)) := ⟨_, rfl⟩
          replace H : (if 0 ≤ (rd l1 x7_2) then (if (rd l1 x7_2) < (l0_0.length : Int) then (if y164.length + (rd_L2 l0_0 (rd l1 x7_2)).length < 17592186044416 then (if x162000_2.length < 5864062014805 then (ossuaryref1_Pick.l0 k2 l1 (wrap64 (x7_2 + 1)) l0_0 (x162000_2 ++ [(y164 ++ (rd_L2 l0_0 (rd l1 x7_2)))])) else (none)) else (none)) else (none)) else (none)) = some (r1, r2) := by first | (rw [hy164]; with_reducible exact H) | (have H2_ := (Option.bind_some _ _).symm.trans H; rw [hy164]; with_reducible exact H2_) | (have H2_ := (Option.bind_some _ _).symm.trans H; with_reducible exact H2_) | with_reducible exact H | (rw [hy164]; exact H) | exact H
          have Ny164 := mk0 hy164
          clear hy164
          by_cases c34 : 0 ≤ (rd l1 x7_2)
          ·rw [if_pos c34] at H
           have c34b0 : decide (0 ≤ (rd l1 x7_2)) = true := decide_eq_true c34
           clear c34
           by_cases c35 : (rd l1 x7_2) < (l0_0.length : Int)
           ·rw [if_pos c35] at H
            have c35b0 : decide ((rd l1 x7_2) < (l0_0.length : Int)) = true := decide_eq_true c35
            clear c35
            by_cases c36 : y164.length + (rd_L2 l0_0 (rd l1 x7_2)).length < 17592186044416
            ·rw [if_pos c36] at H
             have LMc36 := mk0 c36
             clear c36
             obtain ⟨y169, hy169⟩ : ∃ y_ : List Int, y_ = (y164 ++ (rd_L2 l0_0 (rd l1 x7_2))) := ⟨_, rfl⟩
             replace H : (if x162000_2.length < 5864062014805 then (ossuaryref1_Pick.l0 k2 l1 (wrap64 (x7_2 + 1)) l0_0 (x162000_2 ++ [y169])) else (none)) = some (r1, r2) := by first | (rw [hy169]; with_reducible exact H) | (have H2_ := (Option.bind_some _ _).symm.trans H; rw [hy169]; with_reducible exact H2_) | (have H2_ := (Option.bind_some _ _).symm.trans H; with_reducible exact H2_) | with_reducible exact H | (rw [hy169]; exact H) | exact H
             have Ny169 := mk0 hy169
             clear hy169
             by_cases c37 : x162000_2.length < 5864062014805
             ·rw [if_pos c37] at H
              have LMc37 := mk0 c37
              clear c37
              obtain ⟨y172, hy172⟩ : ∃ y_ : List (List Int), y_ = (x162000_2 ++ [y169]) := ⟨_, rfl⟩
              replace H : (ossuaryref1_Pick.l0 k2 l1 (wrap64 (x7_2 + 1)) l0_0 y172) = some (r1, r2) := by first | (rw [hy172]; with_reducible exact H) | (have H2_ := (Option.bind_some _ _).symm.trans H; rw [hy172]; with_reducible exact H2_) | (have H2_ := (Option.bind_some _ _).symm.trans H; with_reducible exact H2_) | with_reducible exact H | (rw [hy172]; exact H) | exact H
              have Ny172 := mk0 hy172
              clear hy172
              have H' := mk0 H
              clear H
              try go_wp2
              replace HO_162000 := mk0 (Kd.S_drew HO_162000.out)
              replace BK158 := mk0 (blk_drew BK158.out)
              replace BK159 := mk0 (blk_drew BK159.out)
              replace BK161 := mk0 (blk_drew BK161.out)
              replace HB := mk0 (below_drew1 HB.out)
              have p162 : 0 ≤ (x7_2 : Int) := of_decide_eq_true uI
              have q162 : x7_2 < (l1.length : Int) := of_decide_eq_true uI
              obtain ⟨ad162, e162, hx162_0⟩ := Kd.at_int HR1.out x7_2 p162 q162
              have hw162_0 := hx162_0
              cases e162
              replace hx162_0 := (HB.out.cell (World.block_lt_of_cell? w _ hx162_0)).trans hx162_0
              replace p162 := eq_true p162
              replace q162 := eq_true q162
              have p163 : 0 ≤ (x7_2 : Int) := of_decide_eq_true uI
              have q163 : x7_2 < (l1.length : Int) := of_decide_eq_true uI
              obtain ⟨ad163, e163, hx163_0⟩ := Kd.at_int HR1.out x7_2 p163 q163
              have hw163_0 := hx163_0
              obtain rfl : ad162 = ad163 := (by injection e163)
              replace hx163_0 := (HB.out.cell (World.block_lt_of_cell? w _ hx163_0)).trans hx163_0
              replace p163 := eq_true p163
              replace q163 := eq_true q163
              refine start_ (n := 15) (S := fun w' => w'.cell? ⟨gb158, 0, none⟩ = some (.slice A0_0 l0_0.length c0_0) ∧ w'.cell? (ad162.add (x7_2).toNat) = some (.int .i64 (rd l1 x7_2)) ∧ w'.cell? (ad162.add (x7_2).toNat) = some (.int .i64 (rd l1 x7_2))) (ds := []) (bz 15 0) uP rfl rfl ⟨(blk_cell BK158.out 0).trans rfl, ((HB.out.cell (World.block_lt_of_cell? w _ hw162_0)).trans hw162_0), ((HB.out.cell (World.block_lt_of_cell? w _ hw163_0)).trans hw163_0)⟩ (fun hHeld => ?_); refine with_tabW ossuaryref1_Pick.tab7 ossuaryref1_Pick.bits7 (fun HT_ HW_ => ?_)
              generalize wr.drew = w38 at HO_162000 BK158 BK159 BK161 HB hx162_0 hx163_0 hHeld ⊢
              refine pU 0 28 (bz 15 1) HT_.out ?_
              refine pU 1 29 (bz 15 3) HT_.out ?_
              refine pU 2 30 (bz 15 7) HT_.out ?_
              refine pT3 3 31 (bz 15 15) HT_.out HW_.out hHeld ?_
              refine pU 4 32 (bz 15 31) HT_.out ?_
              refine pU 5 33 (bz 15 63) HT_.out ?_
              refine pU 6 34 (bz 15 127) HT_.out ?_
              refine pU 7 35 (bz 15 255) HT_.out ?_
              refine pU 8 36 (bz 15 511) HT_.out ?_
              refine pU 10 38 (bz 15 1535) HT_.out ?_
              refine pT3 9 37 (bz 15 2047) HT_.out HW_.out hHeld ?_
              refine pT3 11 39 (bz 15 4095) HT_.out HW_.out hHeld ?_
              refine pU 12 40 (bz 15 8191) HT_.out ?_
              refine pU 13 41 (bz 15 16383) HT_.out ?_
              refine pU 14 42 (bz 15 32767) HT_.out ?_
              refine done_ (done_of HT_.out uP) ?_
              try go_wp2
              replace HO_162000 := mk0 (Kd.S_drew HO_162000.out)
              replace BK158 := mk0 (blk_drew BK158.out)
              replace BK159 := mk0 (blk_drew BK159.out)
              replace BK161 := mk0 (blk_drew BK161.out)
              replace HB := mk0 (below_drew1 HB.out)
              have p167 : 0 ≤ (x7_2 : Int) := of_decide_eq_true uI
              have q167 : x7_2 < (l1.length : Int) := of_decide_eq_true uI
              obtain ⟨ad167, e167, hx167_0⟩ := Kd.at_int HR1.out x7_2 p167 q167
              have hw167_0 := hx167_0
              obtain rfl : ad162 = ad167 := (by injection e167)
              replace hx167_0 := (HB.out.cell (World.block_lt_of_cell? w _ hx167_0)).trans hx167_0
              replace p167 := eq_true p167
              replace q167 := eq_true q167
              have p168 : 0 ≤ ((rd l1 x7_2) : Int) := of_decide_eq_true uI
              have q168 : (rd l1 x7_2) < (l0_0.length : Int) := of_decide_eq_true uI
              obtain ⟨ad168, A168_0, c168_0, e168, hx168_0, hl168_0, hi168_0⟩ := at_L2 HR0_0.out (rd l1 x7_2) p168 q168
              have hw168_0 := hx168_0
              cases e168
              replace hx168_0 := (HB.out.cell (World.block_lt_of_cell? w _ hx168_0)).trans hx168_0
              have HR168_0 := mk0 hi168_0
              have HC168_0 := mk0 hl168_0
              clear hi168_0 hl168_0
              replace p168 := eq_true p168
              replace q168 := eq_true q168
              refine start_ (n := 16) (S := fun w' => w'.cell? ⟨gb161, 0, none⟩ = some (u162000) ∧ w'.cell? ⟨gb158, 0, none⟩ = some (.slice (some ad168) l0_0.length c0_0) ∧ w'.cell? (ad162.add (x7_2).toNat) = some (.int .i64 (rd l1 x7_2)) ∧ w'.cell? (ad168.add ((rd l1 x7_2)).toNat) = some (.slice A168_0 (rd_L2 l0_0 (rd l1 x7_2)).length c168_0)) (ds := [15]) (bz 16 0) uP rfl rfl ⟨(blk_cell BK161.out 0).trans rfl, (blk_cell BK158.out 0).trans rfl, ((HB.out.cell (World.block_lt_of_cell? w _ hw167_0)).trans hw167_0), ((HB.out.cell (World.block_lt_of_cell? w _ hw168_0)).trans hw168_0)⟩ (fun hHeld => ?_); refine with_tabW ossuaryref1_Pick.tab9 ossuaryref1_Pick.bits9 (fun HT_ HW_ => ?_)
              generalize w38.drew = w39 at HO_162000 BK158 BK159 BK161 HB HR168_0 hx167_0 hx168_0 hHeld ⊢
              refine pU 0 44 (bz 16 1) HT_.out ?_
              refine pU 3 47 (bz 16 9) HT_.out ?_
              refine pU 5 49 (bz 16 41) HT_.out ?_
              refine pU 6 50 (bz 16 105) HT_.out ?_
              refine pU 7 51 (bz 16 233) HT_.out ?_
              refine pT4 1 45 (bz 16 235) HT_.out HW_.out hHeld ?_
              refine pT4 4 48 (bz 16 251) HT_.out HW_.out hHeld ?_
              refine pT4 8 52 (bz 16 507) HT_.out HW_.out hHeld ?_
              refine pU 9 53 (bz 16 1019) HT_.out ?_
              refine pT4 10 54 (bz 16 2043) HT_.out HW_.out hHeld ?_
              refine one_ (i := 2) (N := some 46) (bz 16 2047) rfl rfl (pO HT_.out) uQ (fun K hK => ?_)
              refine Kd.R_lit_step (Kd.int .i64) _ 3 ?hg (N := 46) ?hd (xs := ([] : List Int)) (inner := []) (ok := fun _ => True) (okp := fun _ => True) ?hr ?hp (fun _ hk => hk) trivial (Below.refl _ _) (Nat.le_refl _) uS ?_; (case hd => rfl); (case hg => rfl); (case hr => first | (go_simp; done) | (go_simp; rfl)); (case hp => exact (Reps.none _ _))
              intro v165 w40 ho41 hb hg_ hnew_
              clear hg_ hnew_
              (first | rw [← Ny164.out] at ho41 | (simp only [Int.reduceToNat] at ho41; rw [← Ny164.out] at ho41))
              replace HO_162000 := mk0 (Kd.S_elder' (sB HO_162000.out) (Kd.R_base ho41) hb)
              have HO166 := mk0 (Kd.R_lower ho41 (below_size ul))
              replace BK158 := bK BK158 hb
              replace BK159 := bK BK159 hb
              replace BK161 := bK BK161 hb
              replace HB := mk0 (below_step ul hb)
              clear hb ho41
              refine hK.out _ _ ⟨(blk_cell BK161.out 0).trans rfl, (blk_cell BK158.out 0).trans rfl, ((HB.out.cell (World.block_lt_of_cell? w _ hw167_0)).trans hw167_0), ((HB.out.cell (World.block_lt_of_cell? w _ hw168_0)).trans hw168_0)⟩ (fun hHeld => ?_)
              clear hK K
              refine pM (some 46) ?_
              refine one_ (i := 11) (N := some 55) (bz 16 4095) rfl rfl (pO HT_.out) uQ (fun K hK => ?_)
              refine Kd.R_append_rows_step (Kd.int .i64) (w0 := w) w.heap.size uT (.tmp 46) (.tmp 54) 25 3 (.int .i64 0) 8 rfl Try.underlying25 info3 rfl uQ uR v165 y164 (rd_L2 l0_0 (rd l1 x7_2)) _ _ _ (fun _ => True) (fun _ => False) rfl rfl ?aO ?aR (fun _ _ h => h) (fun _ h => h.elim) ?aF ?aB ?aS ?aL ?_
              (case aR => repeat (first | exact (Kd.C_below HR168_0.out HB.out) | (with_reducible refine Kd.C_alloc ?_ _) | (with_reducible refine Kd.C_drewN ?_ _) | (with_reducible refine Kd.C_drew ?_)))
              (case aB => exact ul)
              (case aF => exact (fun _ _ => trivial))
              (case aO => exact (rB HO166.out))
              (case aS => exact (below_size ul))
              (case aL => have := LMc36.out; omega)
              intro v170 w42 ho hb hg hat
              rw [← Ny169.out] at ho
              replace HO_162000 := mk0 (Kd.S_after (ok := (fun _ => True)) (sB HO_162000.out) hg hat)
              replace BK158 := mk0 (blk_grown (g := gb158) (o := .cells #[.slice (some ad168) l0_0.length c0_0] 24 (0, 0)) (bB BK158.out) hg (Kd.R_ne HO166.out BK158.out uQ))
              replace BK159 := mk0 (blk_grown (g := gb159) (o := .cells #[.slice none 0 0] 24 (0, 0)) (bB BK159.out) hg (Kd.R_ne HO166.out BK159.out uQ))
              replace BK161 := mk0 (blk_grown (g := gb161) (o := .cells #[u162000] 24 (0, 0)) (bB BK161.out) hg (Kd.R_ne HO166.out BK161.out uQ))
              replace HB := mk0 (hb)
              have HO171 := mk0 (ho)
              clear HO166 ho hb hg hat
              obtain ⟨Ao44, co44, eo44⟩ := Kd.R_slice HO171.out
              (first | subst eo44 | (injection eo44 with f1_ f2_ f3_; have f4_ := f1_.symm; have f5_ := f3_.symm; clear f1_ f2_ f3_; subst f4_; subst f5_))
              refine hK.out _ _ ⟨(blk_cell BK161.out 0).trans rfl, (blk_cell BK158.out 0).trans rfl, ((HB.out.cell (World.block_lt_of_cell? w _ hw167_0)).trans hw167_0), ((HB.out.cell (World.block_lt_of_cell? w _ hw168_0)).trans hw168_0)⟩ (fun hHeld => ?_)
              clear hK K
              refine pM (some 55) ?_
              refine one_ (i := 12) (N := some 56) (bz 16 8191) rfl rfl (pO HT_.out) uQ (fun K hK => ?_)
              refine value_ (w1 := ?_) (v := ?_) uT rfl ?_ ?_
              rotate_left 2
              ·go_simp
               constructor
               ·rfl
               ·rfl
              refine hK.out _ _ ⟨(blk_cell (blk_alloc BK161.out _) 0).trans rfl, (blk_cell (blk_alloc BK158.out _) 0).trans rfl, (World.cell?_alloc_lt _ _ _ (World.block_lt_of_cell? _ _ (((HB.out.cell (World.block_lt_of_cell? w _ hw167_0)).trans hw167_0)))).trans (((HB.out.cell (World.block_lt_of_cell? w _ hw167_0)).trans hw167_0)), (World.cell?_alloc_lt _ _ _ (World.block_lt_of_cell? _ _ (((HB.out.cell (World.block_lt_of_cell? w _ hw168_0)).trans hw168_0)))).trans (((HB.out.cell (World.block_lt_of_cell? w _ hw168_0)).trans hw168_0))⟩ (fun hHeld => ?_)
              clear hK K
              refine pM (some 56) ?_
              refine one_ (i := 13) (N := some 57) (bz 16 16383) rfl rfl (pO HT_.out) uQ (fun K hK => ?_)
              refine Kd.S_append_step (Kd.slice 3 (Kd.int .i64)) (w0 := w) w.heap.size uT (.tmp 45) (.tmp 56) 22 25 (.slice none 0 0) 24 rfl Try.underlying22 info25 rfl uQ uR u162000 x162000_2 y169 [.slice Ao44 y169.length co44] (fun _ => True) (fun k_ => some k_ = (.slice Ao44 y169.length co44 : Value).ownBlock) rfl rfl ?aP (fun k_ hk_ => ((Kd.R_mono (ok' := fun k_ => ((fun _ => True)) k_ ∧ some k_ ≠ (u162000 : Value).ownBlock) (Kd.R_apart' (HO171.out) (Kd.S_typed HO_162000.out) uQ) (fun k_ hk => ⟨trivial, hk.2⟩))).1 k_ hk_.symm) ?aF ?aO ?aB ?aS ?aL ?_
              (case aP => exact Kd.M_row (Kd.R_mono (Kd.R_tight rfl (Kd.R_mono (ok' := fun k_ => ((fun _ => True)) k_ ∧ some k_ ≠ (u162000 : Value).ownBlock) (Kd.R_apart' (HO171.out) (Kd.S_typed HO_162000.out) uQ) (fun k_ hk => ⟨trivial, hk.2⟩))) (fun _ h_ => h_)))
              (case aB => exact ul)
              (case aF => exact (fun _ _ => trivial))
              (case aO => exact (by (with_reducible repeat (first | apply sA | apply sN | apply sD)); exact Kd.S_mono HO_162000.out (fun k_ hk => ⟨trivial, fun e_ => hk.2 e_⟩)))
              (case aS => exact (below_size ul))
              (case aL => have := LMc37.out; omega)
              intro v173 w43 ho hb hg hat
              rw [← Ny172.out] at ho
              replace BK158 := mk0 (blk_grown (g := gb158) (o := .cells #[.slice (some ad168) l0_0.length c0_0] 24 (0, 0)) (bB BK158.out) hg (Kd.S_ne HO_162000.out BK158.out uQ))
              replace BK159 := mk0 (blk_grown (g := gb159) (o := .cells #[.slice none 0 0] 24 (0, 0)) (bB BK159.out) hg (Kd.S_ne HO_162000.out BK159.out uQ))
              replace BK161 := mk0 (blk_grown (g := gb161) (o := .cells #[u162000] 24 (0, 0)) (bB BK161.out) hg (Kd.S_ne HO_162000.out BK161.out uQ))
              replace HB := mk0 (hb)
              have HO174 := mk0 (ho)
              clear HO_162000 HO171 ho hb hg hat
              obtain ⟨Ao45, co45, eo45⟩ := Kd.S_slice HO174.out
              (first | subst eo45 | (injection eo45 with f1_ f2_ f3_; have f4_ := f1_.symm; have f5_ := f3_.symm; clear f1_ f2_ f3_; subst f4_; subst f5_))
              refine hK.out _ _ ⟨(blk_cell BK161.out 0).trans rfl, (blk_cell BK158.out 0).trans rfl, ((HB.out.cell (World.block_lt_of_cell? w _ hw167_0)).trans hw167_0), ((HB.out.cell (World.block_lt_of_cell? w _ hw168_0)).trans hw168_0)⟩ (fun hHeld => ?_)
              clear hK K
              refine pM (some 57) ?_
              refine pU 14 58 (bz 16 32767) HT_.out ?_
              refine last_ (i := 15) (N := none) (bz 16 65535) rfl rfl (pO HT_.out) uQ (fun K hK => ?_)
              have hs46 : w43.cell? ⟨gb161, 0, none⟩ = some (u162000) := (blk_cell BK161.out 0).trans rfl
              have hfs46 := blk_frozen BK161.out 0
              have hns46_0 := NB158_161.out
              have hns46_1 := NB159_161.out
              have hms46_0 := NB161_158.out
              have hms46_1 := NB161_159.out
              refine skip_ (w1 := ?_) uT rfl ?_ ?_
              rotate_left
              ·go_simp
               rfl
              refine hK.out _ _ ?_
              clear hK K
              refine done_ (done_of HT_.out uP) ?_
              try go_wp2
              go_roundg k2
              case measure => have := HJ2.out; have := HK2.out; omega
              case rel => exact ⟨(wrap64 (x7_2 + 1)), (y172), (.slice Ao45 y172.length co45), uJ, H', ⟨by have := HJ2.out; have := HK2.out; omega⟩, ⟨by (with_reducible repeat (first | apply sA | apply sN | apply sD)); exact Kd.S_mono (Kd.S_far (p := ⟨gb161, 0, none⟩) (Kd.S_types HO174.out BK161.out uQ) (fun _ hk => hk.2) (.slice Ao45 y172.length co45)) (fun _ hk => trivial)⟩, ⟨by refine bB ?_; refine blk_far ?_ NB158_161.out _; refine bB ?_; exact BK158.out⟩, ⟨by refine bB ?_; refine blk_far ?_ NB159_161.out _; refine bB ?_; exact BK159.out⟩, ⟨by refine bB ?_; refine blk_put (cs := #[u162000]) ?_ 0 _ rfl; refine bB ?_; exact BK161.out⟩, ⟨ul⟩⟩
             ·rw [if_neg c37] at H
              exact absurd H uS
            ·rw [if_neg c36] at H
             exact absurd H uS
           ·rw [if_neg c35] at H
            exact absurd H uS
          ·rw [if_neg c34] at H
           exact absurd H uS
       ·rw [if_neg c23] at H
        exact absurd H uS
      ·rw [if_neg c22] at H
       have c22b0 : decide (x7_2 < (l1.length : Int)) = false := decide_eq_false c22
       clear c22
       simp only [Option.some.injEq, Prod.mk.injEq] at H
       obtain ⟨rfl, rfl⟩ := H
       have hnb47 := NB161_158.out
       have hnc47 := NB158_161.out
       have hnb48 := NB161_159.out
       have hnc48 := NB159_161.out
       have hcz49_0 : wr.cell? ⟨gb161, 0, none⟩ = some (u162000) := (blk_cell BK161.out 0).trans rfl
       have hfz49_0 := blk_frozen BK161.out 0
       obtain ⟨Ao50, co50, eo50⟩ := Kd.S_slice HO_162000.out
       subst eo50
       have hnb51 := NB159_158.out
       have hnc51 := NB158_159.out
       have hcz52_0 : wr.cell? ⟨gb159, 0, none⟩ = some (.slice none 0 0) := (blk_cell BK159.out 0).trans rfl
       have hfz52_0 := blk_frozen BK159.out 0
       go_wp2
       refine bodyPost_ret (results_ct rfl _ _ gb159 24 #[.slice Ao50 x162000_2.length co50] (0, 0) _ rfl uB Try.underlying24 rfl uP) rfl ?_
       exact ⟨_, uD, by (with_reducible repeat (first | apply sA | apply sN | apply sD)); exact Kd.S_mono (Kd.S_far (p := ⟨gb159, 0, none⟩) (Kd.S_types HO_162000.out BK159.out uQ) (fun _ hk => hk.2) (.slice Ao50 x162000_2.length co50)) (fun _ hk => trivial), ul⟩
end Go.Proofs.Ytaahnicjjpddjaa.GRef
