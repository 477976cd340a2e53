/- Functions of the program as Lean functions, each with a proof that its call comes to what the function says. No condition. -/
import Derived.Test.YtaahnicjjpddjaaKMatricesGRef1
namespace Go.Proofs.Ytaahnicjjpddjaa.GRef
open Go.Proofs.Ytaahnicjjpddjaa.Fn
open Go.Proofs.Ytaahnicjjpddjaa
open Go.RowKit Go.Proofs.YtaahnicjjpddjaaW.PrintWords Go.Proofs.YtaahnicjjpddjaaW.PrintLast Go.Proofs.YtaahnicjjpddjaaW.PrintMore
attribute [local go_sem] max2_int min2_int max_two min_two max_three min_three max_four min_four   -- for this text's walks alone
set_option linter.unusedVariables false
set_option linter.unusedSimpArgs false
mutual
def ossuaryref1_MatrixMay.j0 : Nat → Bool → List (List Int) → Option (Bool)
 | 0, _, _ => none
 | k + 1, x15, x122000 => if x15 = true then (some false) else (if 0 < (x122000.length : Int) then (if ((rd_L2 x122000 0).length : Int) < 1 then (ossuaryref1_MatrixMay.j1 k ((rd_L2 x122000 0).length : Int) true x122000) else (ossuaryref1_MatrixMay.j1 k ((rd_L2 x122000 0).length : Int) (decide (((rd_L2 x122000 0).length : Int) > 12)) x122000)) else (none))
def ossuaryref1_MatrixMay.j1 : Nat → Int → Bool → List (List Int) → Option (Bool)
 | 0, _, _, _ => none
 | k + 1, x3, x26, x122000 => if x26 = true then (some false) else (ossuaryref1_MatrixMay.l0 k x3 0 x122000)
def ossuaryref1_MatrixMay.l0 : Nat → Int → Int → List (List Int) → Option (Bool)
 | 0, _, _, _ => none
 | k + 1, x3, x4, x122000 => if x4 < (x122000.length : Int) then (if 0 ≤ x4 then (if ((rd_L2 x122000 x4).length : Int) = x3 then (ossuaryref1_MatrixMay.l1 k x3 x4 0 x122000) else (some false)) else (none)) else (some true)
def ossuaryref1_MatrixMay.l1 : Nat → Int → Int → Int → List (List Int) → Option (Bool)
 | 0, _, _, _, _ => none
 | k + 1, x3, x4, x5, x122000 => if x5 < x3 then (if 0 ≤ x4 then (if x4 < (x122000.length : Int) then (if 0 ≤ x5 then (if x5 < ((rd_L2 x122000 x4).length : Int) then ((ossuaryref1_byteNum.f (rd (rd_L2 x122000 x4) x5)).bind fun t126 => (if t126 = true then (ossuaryref1_MatrixMay.l1 k x3 x4 (wrap64 (x5 + 1)) x122000) else (some false))) else (none)) else (none)) else (none)) else (none)) else (ossuaryref1_MatrixMay.l0 k x3 (wrap64 (x4 + 1)) x122000)
end
def ossuaryref1_MatrixMay.f (k : Nat) (l0_0 : List (List Int)) : Option (Bool) := if (l0_0.length : Int) < 1 then (ossuaryref1_MatrixMay.j0 k true l0_0) else (ossuaryref1_MatrixMay.j0 k (decide ((l0_0.length : Int) > 12)) l0_0)
theorem ossuaryref1_MatrixMay.mono_l : ∀ k, (∀ y0 y1, LeO (ossuaryref1_MatrixMay.j0 k y0 y1) (ossuaryref1_MatrixMay.j0 (k + 1) y0 y1)) ∧ (∀ y0 y1 y2, LeO (ossuaryref1_MatrixMay.j1 k y0 y1 y2) (ossuaryref1_MatrixMay.j1 (k + 1) y0 y1 y2)) ∧ (∀ y0 y1 y2, LeO (ossuaryref1_MatrixMay.l0 k y0 y1 y2) (ossuaryref1_MatrixMay.l0 (k + 1) y0 y1 y2)) ∧ (∀ y0 y1 y2 y3, LeO (ossuaryref1_MatrixMay.l1 k y0 y1 y2 y3) (ossuaryref1_MatrixMay.l1 (k + 1) y0 y1 y2 y3))
 | 0 => ⟨fun _ _ r h => by simp [ossuaryref1_MatrixMay.j0] at h, fun _ _ _ r h => by simp [ossuaryref1_MatrixMay.j1] at h, fun _ _ _ r h => by simp [ossuaryref1_MatrixMay.l0] at h, fun _ _ _ _ r h => by simp [ossuaryref1_MatrixMay.l1] at h⟩
 | k + 1 => by
  obtain ⟨ih0, ih1, ih2, ih3⟩ := ossuaryref1_MatrixMay.mono_l k
  refine ⟨?_, ?_, ?_, ?_⟩
  ·intro y0 y1
   unfold ossuaryref1_MatrixMay.j0
   repeat' with_reducible first | exact ih0 _ _ | exact ih1 _ _ _ | exact ih2 _ _ _ | exact ih3 _ _ _ _ | exact LeO.refl _ | exact LeO.none _ | refine LeO.ite ?_ ?_ | refine LeO.bind ?_ (fun _ => ?_)
  ·intro y0 y1 y2
   unfold ossuaryref1_MatrixMay.j1
   repeat' with_reducible first | exact ih0 _ _ | exact ih1 _ _ _ | exact ih2 _ _ _ | exact ih3 _ _ _ _ | exact LeO.refl _ | exact LeO.none _ | refine LeO.ite ?_ ?_ | refine LeO.bind ?_ (fun _ => ?_)
  ·intro y0 y1 y2
   unfold ossuaryref1_MatrixMay.l0
   repeat' with_reducible first | exact ih0 _ _ | exact ih1 _ _ _ | exact ih2 _ _ _ | exact ih3 _ _ _ _ | exact LeO.refl _ | exact LeO.none _ | refine LeO.ite ?_ ?_ | refine LeO.bind ?_ (fun _ => ?_)
  ·intro y0 y1 y2 y3
   unfold ossuaryref1_MatrixMay.l1
   repeat' with_reducible first | exact ih0 _ _ | exact ih1 _ _ _ | exact ih2 _ _ _ | exact ih3 _ _ _ _ | exact LeO.refl _ | exact LeO.none _ | refine LeO.ite ?_ ?_ | refine LeO.bind ?_ (fun _ => ?_)
theorem ossuaryref1_MatrixMay.mono : ∀ a0 k, LeO (ossuaryref1_MatrixMay.f k a0) (ossuaryref1_MatrixMay.f (k + 1) a0) := by
 intro a0 k
 obtain ⟨ih0, ih1, ih2, ih3⟩ := ossuaryref1_MatrixMay.mono_l k
 unfold ossuaryref1_MatrixMay.f
 repeat' with_reducible first | exact ih0 _ _ | exact ih1 _ _ _ | exact ih2 _ _ _ | exact ih3 _ _ _ _ | exact LeO.refl _ | exact LeO.none _ | refine LeO.ite ?_ ?_ | refine LeO.bind ?_ (fun _ => ?_)
set_option maxHeartbeats 8000000 in
set_option maxRecDepth 100000 in
theorem ossuaryref1_MatrixMay.calls (k : Nat) (A0_0 : Option Addr) (c0_0 : Nat) (l0_0 : List (List Int)) (r : Bool) (w : World) (hr0_0 : Kd.C (Kd.slice 3 (Kd.int .i64)) w A0_0 l0_0.length l0_0) (hc0_0 : l0_0.length ≤ c0_0) (h : ossuaryref1_MatrixMay.f k l0_0 = some r) :
  Calls Try.prog 37 #[.agg #[.slice A0_0 l0_0.length c0_0]] w fun e w' => e = .returned (.bool r) ∧ Below w.heap.size w w' := by
 have hu24 := Try.underlying24
 have HR0_0 := mk0 hr0_0
 have HC0_0 := mk0 hc0_0
 clear hr0_0 hc0_0
 have HB := mk0 (Below.refl w.heap.size w)
 have H : (if (l0_0.length : Int) < 1 then (ossuaryref1_MatrixMay.j0 k true l0_0) else (ossuaryref1_MatrixMay.j0 k (decide ((l0_0.length : Int) > 12)) l0_0)) = some r := h
 clear h
 have HC2 := mk0 H
 clear H
 go_enter Try.func37, Try.ntmps37
 go_upto_region 1 with (first | ((with_reducible refine gate_dst (N := 1) rfl ?_); (try (refine gate_guard uT ?_; dsimp only)); refine box_event uT (N := 1) uT (cs := #[.slice A0_0 l0_0.length c0_0]) (t := 24) uK ?_; intro gb121 hg w3 hbox hb; have BK121 := mk0 (hbox); have GW121 := mk0 (nB hg HB); have GE121 := mk0 (nB hg HB); replace HB := mk0 (below_step uy hb); clear hb hbox hg))
 (try simp only [Act.put, List.setIfInBounds_toArray, List.set_cons_zero, List.set_cons_succ])
 go_cut [15] (fun v15 wc => ∃ (kq : Nat) (x15_1 : Bool), v15 = .bool x15_1 ∧ Aside0 (ossuaryref1_MatrixMay.j0 kq x15_1 l0_0 = some r) ∧ Aside0 (kq ≤ k) ∧ Aside0 (wc.heap[gb121]? = some (.cells #[(.slice A0_0 l0_0.length c0_0)] 24 (0, 0))) ∧ Aside0 (Below w.heap.size w wc))
 case first =>
  have H := HC2.out
  clear HC2
  by_cases c4 : (l0_0.length : Int) < 1
  ·rw [if_pos c4] at H
   have c4b0 : decide ((l0_0.length : Int) < 1) = true := decide_eq_true c4
   have c4b1 : decide (l0_0.length < 1) = true := decide_eq_true uR
   clear c4
   (first | rw [c4b0] | (simp only [i64_w, i32_w]; rw [c4b0]) | skip)
   have H' := mk0 H
   clear H
   have hcz5_0 : w3.cell? ⟨gb121, 0, none⟩ = some (.slice A0_0 l0_0.length c0_0) := (blk_cell BK121.out 0).trans rfl
   have hfz5_0 := blk_frozen BK121.out 0
   go_wp2
   go_meet
   case rel => exact ⟨_, (true), uJ, H', ⟨uL⟩, ⟨bB BK121.out⟩, ⟨ul⟩⟩
  ·rw [if_neg c4] at H
   have c4b0 : decide ((l0_0.length : Int) < 1) = false := decide_eq_false c4
   have c4b1 : decide (l0_0.length < 1) = false := decide_eq_false uR
   clear c4
   (first | rw [c4b0] | (simp only [i64_w, i32_w]; rw [c4b0]) | skip)
   have H' := mk0 H
   clear H
   have hcz6_0 : w3.cell? ⟨gb121, 0, none⟩ = some (.slice A0_0 l0_0.length c0_0) := (blk_cell BK121.out 0).trans rfl
   have hfz6_0 := blk_frozen BK121.out 0
   go_wp2
   go_meet
   case rel => exact ⟨_, (decide ((l0_0.length : Int) > 12)), uJ, H', ⟨uL⟩, ⟨bB BK121.out⟩, ⟨ul⟩⟩
 case rest =>
  clear HC2
  try clear p2
  try clear c3
  try clear c4
  try clear c4b0
  try clear c4b1
  try clear hcz5_0
  try clear hcz6_0
  try clear hfz5_0
  try clear hfz6_0
  obtain ⟨kq, x15_1, rfl, HA, HJ1, BK121, HB⟩ := hcut
  cases kq with
  | zero => exact absurd HA.out (by simp [ossuaryref1_MatrixMay.j0])
  | succ kj1 =>
   have H := HA.out
   clear HA
   simp only [ossuaryref1_MatrixMay.j0] at H
   by_cases c7 : x15_1 = true
   ·subst c7
    have H1 : (some false) = some r := by rw [if_pos rfl] at H; exact H
    clear H
    have H := H1
    clear H1
    obtain rfl := Option.some.inj H
    go_wp2
    go_ret
    exact ⟨uD, ul⟩
   ·replace c7 := Bool.eq_false_iff.mpr c7
    subst c7
    have H1 : (if 0 < (l0_0.length : Int) then (if ((rd_L2 l0_0 0).length : Int) < 1 then (ossuaryref1_MatrixMay.j1 kj1 ((rd_L2 l0_0 0).length : Int) true l0_0) else (ossuaryref1_MatrixMay.j1 kj1 ((rd_L2 l0_0 0).length : Int) (decide (((rd_L2 l0_0 0).length : Int) > 12)) l0_0)) else (none)) = some r := by rw [if_neg (show ¬ (false = true) by decide)] at H; exact H
    clear H
    have H := H1
    clear H1
    by_cases c8 : 0 < (l0_0.length : Int)
    ·rw [if_pos c8] at H
     have c8b0 : decide (0 < (l0_0.length : Int)) = true := decide_eq_true c8
     have c8b1 : decide (0 < l0_0.length) = true := decide_eq_true uR
     clear c8
     have HC9 := mk0 H
     clear H
     have hcz10_0 : wc.cell? ⟨gb121, 0, none⟩ = some (.slice A0_0 l0_0.length c0_0) := (blk_cell BK121.out 0).trans rfl
     have hfz10_0 := blk_frozen BK121.out 0
     have p122 : 0 ≤ (0 : Int) := uR
     have q122 : 0 < (l0_0.length : Int) := of_decide_eq_true uI
     obtain ⟨ad122, A122_0, c122_0, e122, hx122_0, hl122_0, hi122_0⟩ := at_L2 HR0_0.out 0 p122 q122
     cases e122
     have qi122 : (0 < l0_0.length) = True := eq_true uR
     (try rw [show ((0 : Int)).toNat = 0 from rfl] at hx122_0)
     (try rw [Addr.add_zero'] at hx122_0)
     replace hx122_0 := (HB.out.cell (World.block_lt_of_cell? w _ hx122_0)).trans hx122_0
     have HR122_0 := mk0 hi122_0
     have HC122_0 := mk0 hl122_0
     clear hi122_0 hl122_0
     replace p122 := eq_true p122
     replace q122 := eq_true q122
     go_upto_region 4 with (fail)
     go_cut [26] (fun v26 wc => ∃ (kq : Nat) (x26_8 : Bool), v26 = .bool x26_8 ∧ Aside0 (ossuaryref1_MatrixMay.j1 kq ((rd_L2 l0_0 0).length : Int) x26_8 l0_0 = some r) ∧ Aside0 (kq ≤ kj1) ∧ Aside0 (wc.heap[gb121]? = some (.cells #[(.slice (some ad122) l0_0.length c0_0)] 24 (0, 0))) ∧ Aside0 (Below w.heap.size w wc))
     case first =>
      have H := HC9.out
      clear HC9
      by_cases c11 : ((rd_L2 l0_0 0).length : Int) < 1
      ·rw [if_pos c11] at H
       have c11b0 : decide (((rd_L2 l0_0 0).length : Int) < 1) = true := decide_eq_true c11
       have c11b1 : decide ((rd_L2 l0_0 0).length < 1) = true := decide_eq_true uR
       clear c11
       (first | rw [c11b0] | (simp only [i64_w, i32_w]; rw [c11b0]) | skip)
       have H' := mk0 H
       clear H
       go_wp2
       go_meet
       case rel => exact ⟨_, (true), uJ, H', ⟨by have := HJ1.out; first | omega | exact Nat.le_refl _⟩, ⟨bB BK121.out⟩, ⟨ul⟩⟩
      ·rw [if_neg c11] at H
       have c11b0 : decide (((rd_L2 l0_0 0).length : Int) < 1) = false := decide_eq_false c11
       have c11b1 : decide ((rd_L2 l0_0 0).length < 1) = false := decide_eq_false uR
       clear c11
       (first | rw [c11b0] | (simp only [i64_w, i32_w]; rw [c11b0]) | skip)
       have H' := mk0 H
       clear H
       go_wp2
       go_meet
       case rel => exact ⟨_, (decide (((rd_L2 l0_0 0).length : Int) > 12)), uJ, H', ⟨by have := HJ1.out; first | omega | exact Nat.le_refl _⟩, ⟨bB BK121.out⟩, ⟨ul⟩⟩
     case rest =>
      clear HC9
      try clear c1
      try clear p1
      try clear q1
      try clear hx1
      try clear qi1
      try clear p2
      try clear c3
      try clear c4
      try clear c4b0
      try clear c4b1
      try clear c7
      try clear c8
      try clear c8b0
      try clear c8b1
      try clear c11
      try clear c11b0
      try clear c11b1
      try clear hcz10_0
      try clear hcz5_0
      try clear hcz6_0
      try clear hfz10_0
      try clear hfz5_0
      try clear hfz6_0
      try clear hx122_0
      try clear p122
      try clear p2
      try clear q122
      obtain ⟨kq, x26_8, rfl, HA, HJ8, BK121, HB⟩ := hcut
      cases kq with
      | zero => exact absurd HA.out (by simp [ossuaryref1_MatrixMay.j1])
      | succ kj8 =>
       have H := HA.out
       clear HA
       simp only [ossuaryref1_MatrixMay.j1] at H
       by_cases c12 : x26_8 = true
       ·subst c12
        have H1 : (some false) = some r := by rw [if_pos rfl] at H; exact H
        clear H
        have H := H1
        clear H1
        obtain rfl := Option.some.inj H
        go_wp2
        go_ret
        exact ⟨uD, ul⟩
       ·replace c12 := Bool.eq_false_iff.mpr c12
        subst c12
        have H1 : (ossuaryref1_MatrixMay.l0 kj8 ((rd_L2 l0_0 0).length : Int) 0 l0_0) = some r := by rw [if_neg (show ¬ (false = true) by decide)] at H; exact H
        clear H
        have H := H1
        clear H1
        have H' := mk0 H
        clear H
        go_wp2
        go_loopg [4] kj8 (fun kq v4 w' => ∃ (x4_3 : Int), v4 = .int .i64 x4_3 ∧ Aside0 (ossuaryref1_MatrixMay.l0 kq ((rd_L2 l0_0 0).length : Int) x4_3 l0_0 = some r) ∧ Aside0 (kq ≤ kj8) ∧ Aside0 (w'.heap[gb121]? = some (.cells #[(.slice (some ad122) l0_0.length c0_0)] 24 (0, 0))) ∧ Aside0 (Below w.heap.size w w'))
        case atStart => exact ⟨(0), uJ, H', ⟨Nat.le_refl _⟩, ⟨bB BK121.out⟩, ⟨ul⟩⟩
        case round =>
         clear H'
         try clear c1
         try clear p1
         try clear q1
         try clear hx1
         try clear qi1
         try clear p2
         try clear c3
         try clear c4
         try clear c4b0
         try clear c4b1
         try clear c7
         try clear c8
         try clear c8b0
         try clear c8b1
         try clear c11
         try clear c11b0
         try clear c11b1
         try clear c12
         try clear p12
         try clear q12
         try clear hx12
         try clear qi12
         try clear hcz10_0
         try clear hcz5_0
         try clear hcz6_0
         try clear hfz10_0
         try clear hfz5_0
         try clear hfz6_0
         try clear hx122_0
         try clear p1
         try clear p122
         try clear p2
         try clear q1
         try clear q122
         obtain ⟨x4_3, rfl, HA, HK3, BK121, HB⟩ := hrel
         cases gk with
         | zero => exact absurd HA.out (by simp [ossuaryref1_MatrixMay.l0])
         | succ k3 =>
          have H := HA.out
          clear HA
          simp only [ossuaryref1_MatrixMay.l0] at H
          by_cases c13 : x4_3 < (l0_0.length : Int)
          ·rw [if_pos c13] at H
           have c13b0 : decide (x4_3 < (l0_0.length : Int)) = true := decide_eq_true c13
           clear c13
           by_cases c14 : 0 ≤ x4_3
           ·rw [if_pos c14] at H
            have c14b0 : decide (0 ≤ x4_3) = true := decide_eq_true c14
            clear c14
            by_cases c15 : ((rd_L2 l0_0 x4_3).length : Int) = ((rd_L2 l0_0 0).length : Int)
            ·rw [if_pos c15] at H
             have c15b0 : (((rd_L2 l0_0 x4_3).length : Int) == ((rd_L2 l0_0 0).length : Int)) = true := beq_iff_eq.mpr c15
             have c15b1 : (((rd_L2 l0_0 x4_3).length : Int) != ((rd_L2 l0_0 0).length : Int)) = false := bne_eq_false_iff_eq.mpr c15
             have c15b2 : ((rd_L2 l0_0 x4_3).length == (rd_L2 l0_0 0).length) = true := by first | simpa using c15 | (simp at c15 ⊢; omega)
             clear c15
             have H' := mk0 H
             clear H
             have hcz16_0 : wr.cell? ⟨gb121, 0, none⟩ = some (.slice (some ad122) l0_0.length c0_0) := (blk_cell BK121.out 0).trans rfl
             have hfz16_0 := blk_frozen BK121.out 0
             have p123 : 0 ≤ (x4_3 : Int) := of_decide_eq_true uI
             have q123 : x4_3 < (l0_0.length : Int) := of_decide_eq_true uI
             obtain ⟨ad123, A123_0, c123_0, e123, hx123_0, hl123_0, hi123_0⟩ := at_L2 HR0_0.out x4_3 p123 q123
             obtain rfl : ad122 = ad123 := (by injection e123)
             replace hx123_0 := (HB.out.cell (World.block_lt_of_cell? w _ hx123_0)).trans hx123_0
             have HR123_0 := mk0 hi123_0
             have HC123_0 := mk0 hl123_0
             clear hi123_0 hl123_0
             replace p123 := eq_true p123
             replace q123 := eq_true q123
             go_wp2
             go_loopg [5] k3 (fun kq v5 w' => ∃ (x5_4 : Int), v5 = .int .i64 x5_4 ∧ Aside0 (ossuaryref1_MatrixMay.l1 kq ((rd_L2 l0_0 0).length : Int) x4_3 x5_4 l0_0 = some r) ∧ Aside0 (kq ≤ k3) ∧ Aside0 (w'.heap[gb121]? = some (.cells #[(.slice (some ad122) l0_0.length c0_0)] 24 (0, 0))) ∧ Aside0 (Below w.heap.size w w'))
             case atStart => exact ⟨(0), uJ, H', ⟨Nat.le_refl _⟩, ⟨bB BK121.out⟩, ⟨ul⟩⟩
             case round =>
              clear H'
              try clear c1
              try clear p1
              try clear q1
              try clear hx1
              try clear qi1
              try clear p2
              try clear c3
              try clear c4
              try clear c4b0
              try clear c4b1
              try clear c7
              try clear c8
              try clear c8b0
              try clear c8b1
              try clear c11
              try clear c11b0
              try clear c11b1
              try clear c12
              try clear p12
              try clear q12
              try clear hx12
              try clear qi12
              try clear c13
              try clear c13b0
              try clear c14
              try clear c14b0
              try clear c15
              try clear c15b0
              try clear c15b1
              try clear c15b2
              try clear hcz10_0
              try clear hcz16_0
              try clear hcz5_0
              try clear hcz6_0
              try clear hfz10_0
              try clear hfz16_0
              try clear hfz5_0
              try clear hfz6_0
              try clear hx122_0
              try clear hx123_0
              try clear p1
              try clear p12
              try clear p122
              try clear p123
              try clear p2
              try clear q1
              try clear q12
              try clear q122
              try clear q123
              obtain ⟨x5_4, rfl, HA, HK4, BK121, HB⟩ := hrel
              cases gk with
              | zero => exact absurd HA.out (by simp [ossuaryref1_MatrixMay.l1])
              | succ k4 =>
               have H := HA.out
               clear HA
               simp only [ossuaryref1_MatrixMay.l1] at H
               by_cases c17 : x5_4 < ((rd_L2 l0_0 0).length : Int)
               ·rw [if_pos c17] at H
                have c17b0 : decide (x5_4 < ((rd_L2 l0_0 0).length : Int)) = true := decide_eq_true c17
                clear c17
                by_cases c18 : 0 ≤ x4_3
                ·rw [if_pos c18] at H
                 have c18b0 : decide (0 ≤ x4_3) = true := decide_eq_true c18
                 clear c18
                 by_cases c19 : x4_3 < (l0_0.length : Int)
                 ·rw [if_pos c19] at H
                  have c19b0 : decide (x4_3 < (l0_0.length : Int)) = true := decide_eq_true c19
                  clear c19
                  by_cases c20 : 0 ≤ x5_4
                  ·rw [if_pos c20] at H
                   have c20b0 : decide (0 ≤ x5_4) = true := decide_eq_true c20
                   clear c20
                   by_cases c21 : x5_4 < ((rd_L2 l0_0 x4_3).length : Int)
                   ·rw [if_pos c21] at H
                    have c21b0 : decide (x5_4 < ((rd_L2 l0_0 x4_3).length : Int)) = true := decide_eq_true c21
                    clear c21
                    replace H := Option.bind_eq_some_iff.mp H
                    obtain ⟨t126, A220, H⟩ := H
                    replace H : (if t126 = true then (ossuaryref1_MatrixMay.l1 k4 ((rd_L2 l0_0 0).length : Int) x4_3 (wrap64 (x5_4 + 1)) l0_0) else (some false)) = some r := H
                    have A22 := mk0 A220
                    clear A220
                    by_cases c23 : t126 = true
                    ·subst c23
                     have H1 : (ossuaryref1_MatrixMay.l1 k4 ((rd_L2 l0_0 0).length : Int) x4_3 (wrap64 (x5_4 + 1)) l0_0) = some r := by rw [if_pos rfl] at H; exact H
                     clear H
                     have H := H1
                     clear H1
                     have H' := mk0 H
                     clear H
                     have hcz24_0 : wr.cell? ⟨gb121, 0, none⟩ = some (.slice (some ad122) l0_0.length c0_0) := (blk_cell BK121.out 0).trans rfl
                     have hfz24_0 := blk_frozen BK121.out 0
                     have p124 : 0 ≤ (x4_3 : Int) := of_decide_eq_true uI
                     have q124 : x4_3 < (l0_0.length : Int) := of_decide_eq_true uI
                     obtain ⟨ad124, A124_0, c124_0, e124, hx124_0, hl124_0, hi124_0⟩ := at_L2 HR0_0.out x4_3 p124 q124
                     obtain rfl : ad122 = ad124 := (by injection e124)
                     replace hx124_0 := (HB.out.cell (World.block_lt_of_cell? w _ hx124_0)).trans hx124_0
                     have HR124_0 := mk0 hi124_0
                     have HC124_0 := mk0 hl124_0
                     clear hi124_0 hl124_0
                     replace p124 := eq_true p124
                     replace q124 := eq_true q124
                     have p125 : 0 ≤ (x5_4 : Int) := of_decide_eq_true uI
                     have q125 : x5_4 < ((rd_L2 l0_0 x4_3).length : Int) := of_decide_eq_true uI
                     obtain ⟨ad125, e125, hx125_0⟩ := Kd.at_int HR124_0.out x5_4 p125 q125
                     cases e125
                     replace hx125_0 := (HB.out.cell (World.block_lt_of_cell? w _ hx125_0)).trans hx125_0
                     replace p125 := eq_true p125
                     replace q125 := eq_true q125
                     go_wp2_with (first | ((with_reducible refine gate_callee (f := 75) rfl ?_); refine goesL_ (some 55) rfl rfl Try.func75 uP rfl #[.int .i64 (rd (rd_L2 l0_0 x4_3) x5_4)] rfl ui ?_; (with_reducible refine (ossuaryref1_byteNum.calls (rd (rd_L2 l0_0 x4_3) x5_4) true _ A22.out).mono ?_); rintro e w' ⟨rfl, ⟨nd, rfl⟩⟩; refine ⟨_, rfl, ?_⟩))
                     go_roundg k4
                     case measure => have := HJ1.out; have := HJ8.out; have := HK3.out; have := HK4.out; omega
                     case rel => exact ⟨(wrap64 (x5_4 + 1)), uJ, H', ⟨by have := HJ1.out; have := HJ8.out; have := HK3.out; have := HK4.out; omega⟩, ⟨bB BK121.out⟩, ⟨ul⟩⟩
                    ·replace c23 := Bool.eq_false_iff.mpr c23
                     subst c23
                     have H1 : (some false) = some r := by rw [if_neg (show ¬ (false = true) by decide)] at H; exact H
                     clear H
                     have H := H1
                     clear H1
                     obtain rfl := Option.some.inj H
                     have hcz25_0 : wr.cell? ⟨gb121, 0, none⟩ = some (.slice (some ad122) l0_0.length c0_0) := (blk_cell BK121.out 0).trans rfl
                     have hfz25_0 := blk_frozen BK121.out 0
                     have p124 : 0 ≤ (x4_3 : Int) := of_decide_eq_true uI
                     have q124 : x4_3 < (l0_0.length : Int) := of_decide_eq_true uI
                     obtain ⟨ad124, A124_0, c124_0, e124, hx124_0, hl124_0, hi124_0⟩ := at_L2 HR0_0.out x4_3 p124 q124
                     obtain rfl : ad122 = ad124 := (by injection e124)
                     replace hx124_0 := (HB.out.cell (World.block_lt_of_cell? w _ hx124_0)).trans hx124_0
                     have HR124_0 := mk0 hi124_0
                     have HC124_0 := mk0 hl124_0
                     clear hi124_0 hl124_0
                     replace p124 := eq_true p124
                     replace q124 := eq_true q124
                     have p125 : 0 ≤ (x5_4 : Int) := of_decide_eq_true uI
                     have q125 : x5_4 < ((rd_L2 l0_0 x4_3).length : Int) := of_decide_eq_true uI
                     obtain ⟨ad125, e125, hx125_0⟩ := Kd.at_int HR124_0.out x5_4 p125 q125
                     cases e125
                     replace hx125_0 := (HB.out.cell (World.block_lt_of_cell? w _ hx125_0)).trans hx125_0
                     replace p125 := eq_true p125
                     replace q125 := eq_true q125
                     go_wp2_with (first | ((with_reducible refine gate_callee (f := 75) rfl ?_); refine goesL_ (some 55) rfl rfl Try.func75 uP rfl #[.int .i64 (rd (rd_L2 l0_0 x4_3) x5_4)] rfl ui ?_; (with_reducible refine (ossuaryref1_byteNum.calls (rd (rd_L2 l0_0 x4_3) x5_4) false _ A22.out).mono ?_); rintro e w' ⟨rfl, ⟨nd, rfl⟩⟩; refine ⟨_, rfl, ?_⟩))
                     go_ret
                     exact ⟨uD, ul⟩
                   ·rw [if_neg c21] at H
                    exact absurd H uS
                  ·rw [if_neg c20] at H
                   exact absurd H uS
                 ·rw [if_neg c19] at H
                  exact absurd H uS
                ·rw [if_neg c18] at H
                 exact absurd H uS
               ·rw [if_neg c17] at H
                have c17b0 : decide (x5_4 < ((rd_L2 l0_0 0).length : Int)) = false := decide_eq_false c17
                clear c17
                have H' := mk0 H
                clear H
                go_wp2
                go_roundg k4
                case measure => have := HJ1.out; have := HJ8.out; have := HK3.out; have := HK4.out; omega
                case rel => exact ⟨(wrap64 (x4_3 + 1)), uJ, H', ⟨by have := HJ1.out; have := HJ8.out; have := HK3.out; have := HK4.out; omega⟩, ⟨bB BK121.out⟩, ⟨ul⟩⟩
            ·rw [if_neg c15] at H
             have c15b0 : (((rd_L2 l0_0 x4_3).length : Int) == ((rd_L2 l0_0 0).length : Int)) = false := beq_eq_false_iff_ne.mpr c15
             have c15b1 : (((rd_L2 l0_0 x4_3).length : Int) != ((rd_L2 l0_0 0).length : Int)) = true := bne_iff_ne.mpr c15
             have c15b2 : ((rd_L2 l0_0 x4_3).length == (rd_L2 l0_0 0).length) = false := by first | simpa using c15 | (simp at c15 ⊢; omega)
             obtain rfl := Option.some.inj H
             have hcz26_0 : wr.cell? ⟨gb121, 0, none⟩ = some (.slice (some ad122) l0_0.length c0_0) := (blk_cell BK121.out 0).trans rfl
             have hfz26_0 := blk_frozen BK121.out 0
             have p123 : 0 ≤ (x4_3 : Int) := of_decide_eq_true uI
             have q123 : x4_3 < (l0_0.length : Int) := of_decide_eq_true uI
             obtain ⟨ad123, A123_0, c123_0, e123, hx123_0, hl123_0, hi123_0⟩ := at_L2 HR0_0.out x4_3 p123 q123
             obtain rfl : ad122 = ad123 := (by injection e123)
             replace hx123_0 := (HB.out.cell (World.block_lt_of_cell? w _ hx123_0)).trans hx123_0
             have HR123_0 := mk0 hi123_0
             have HC123_0 := mk0 hl123_0
             clear hi123_0 hl123_0
             replace p123 := eq_true p123
             replace q123 := eq_true q123
             go_wp2
             go_ret
             exact ⟨uD, ul⟩
           ·rw [if_neg c14] at H
            exact absurd H uS
          ·rw [if_neg c13] at H
           have c13b0 : decide (x4_3 < (l0_0.length : Int)) = false := decide_eq_false c13
           clear c13
           obtain rfl := Option.some.inj H
           have hcz27_0 : wr.cell? ⟨gb121, 0, none⟩ = some (.slice (some ad122) l0_0.length c0_0) := (blk_cell BK121.out 0).trans rfl
           have hfz27_0 := blk_frozen BK121.out 0
           go_wp2
           go_ret
           exact ⟨uD, ul⟩
    ·rw [if_neg c8] at H
     exact absurd H uS
end Go.Proofs.Ytaahnicjjpddjaa.GRef
