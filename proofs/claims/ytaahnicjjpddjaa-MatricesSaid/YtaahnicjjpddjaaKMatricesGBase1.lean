/- Functions of the program as Lean functions, each with a proof that its call comes to what the function says. No condition. -/
import Derived.Test.YtaahnicjjpddjaaKMatricesGBase0
namespace Go.Proofs.Ytaahnicjjpddjaa.GBase
open Go.Proofs.Ytaahnicjjpddjaa.Fn
open Go.RowKit Go.Proofs.YtaahnicjjpddjaaW.PrintWords Go.Proofs.YtaahnicjjpddjaaW.PrintLast
set_option linter.unusedVariables false
set_option linter.unusedSimpArgs false
def matrix_size.f (a0 : Int) : Option (Bool) := if a0 ≥ 1 then (some (decide (a0 ≤ 12))) else (some false)
set_option maxHeartbeats 8000000 in
set_option maxRecDepth 100000 in
theorem matrix_size.calls (a0 : Int) (r : Bool) (w : World) (h : matrix_size.f a0 = some r) :
  Calls Try.prog 68 #[.int .i64 a0] w fun e w' => e = .returned (.bool r) ∧ Drawn0 w w' := by
 have H : (if a0 ≥ 1 then (some (decide (a0 ≤ 12))) else (some false)) = some r := h
 clear h
 by_cases c2 : a0 ≥ 1
 ·rw [if_pos c2] at H
  have c2b0 : decide (1 ≤ a0) = true := decide_eq_true c2
  clear c2
  obtain rfl := Option.some.inj H
  go_enter Try.func68, Try.ntmps68
  go_wp2
  go_ret
  exact ⟨uJ, uH⟩
 ·rw [if_neg c2] at H
  have c2b0 : decide (1 ≤ a0) = false := decide_eq_false c2
  clear c2
  obtain rfl := Option.some.inj H
  go_enter Try.func68, Try.ntmps68
  go_wp2
  go_ret
  exact ⟨uJ, uH⟩
mutual
def matrix_May.j0 : Nat → Bool → List (List Int) → Option (Bool)
 | 0, _, _ => none
 | k + 1, x18, x102000 => if x18 = true then (some false) else (matrix_May.l0 k x102000 (x102000.length : Int) 0 x102000)
def matrix_May.l0 : Nat → List (List Int) → Int → Int → List (List Int) → Option (Bool)
 | 0, _, _, _, _ => none
 | k + 1, x20, x21, x22, x102000 => if x22 < x21 then (if 0 ≤ x22 then (if x22 < (x20.length : Int) then (if 0 < (x102000.length : Int) then (if ((rd_L1 x20 x22).length : Int) = ((rd_L1 x102000 0).length : Int) then ((containsBad.f (rd_L1 x20 x22)).bind fun t107 => (if t107 = true then (some false) else (matrix_May.l0 k x20 x21 (wrap64 (x22 + 1)) x102000))) else (some false)) else (none)) else (none)) else (none)) else (some true)
end
def matrix_May.f (k : Nat) (l0_0 : List (List Int)) : Option (Bool) := (matrix_size.f (l0_0.length : Int)).bind fun t102 => (if t102 = true then (if 0 < (l0_0.length : Int) then ((matrix_size.f ((rd_L1 l0_0 0).length : Int)).bind fun t104 => (matrix_May.j0 k (!t104) l0_0)) else (none)) else (matrix_May.j0 k true l0_0))
theorem matrix_May.mono_l : ∀ k, (∀ y0 y1, LeO (matrix_May.j0 k y0 y1) (matrix_May.j0 (k + 1) y0 y1)) ∧ (∀ y0 y1 y2 y3, LeO (matrix_May.l0 k y0 y1 y2 y3) (matrix_May.l0 (k + 1) y0 y1 y2 y3))
 | 0 => ⟨fun _ _ r h => by simp [matrix_May.j0] at h, fun _ _ _ _ r h => by simp [matrix_May.l0] at h⟩
 | k + 1 => by
  obtain ⟨ih0, ih1⟩ := matrix_May.mono_l k
  refine ⟨?_, ?_⟩
  ·intro y0 y1
   unfold matrix_May.j0
   repeat' with_reducible first | exact ih0 _ _ | exact ih1 _ _ _ _ | exact LeO.refl _ | exact LeO.none _ | refine LeO.ite ?_ ?_ | refine LeO.bind ?_ (fun _ => ?_)
  ·intro y0 y1 y2 y3
   unfold matrix_May.l0
   repeat' with_reducible first | exact ih0 _ _ | exact ih1 _ _ _ _ | exact LeO.refl _ | exact LeO.none _ | refine LeO.ite ?_ ?_ | refine LeO.bind ?_ (fun _ => ?_)
theorem matrix_May.mono : ∀ a0 k, LeO (matrix_May.f k a0) (matrix_May.f (k + 1) a0) := by
 intro a0 k
 obtain ⟨ih0, ih1⟩ := matrix_May.mono_l k
 unfold matrix_May.f
 repeat' with_reducible first | exact ih0 _ _ | exact ih1 _ _ _ _ | exact LeO.refl _ | exact LeO.none _ | refine LeO.ite ?_ ?_ | refine LeO.bind ?_ (fun _ => ?_)
set_option maxHeartbeats 8000000 in
set_option maxRecDepth 100000 in
theorem matrix_May.calls (k : Nat) (A0_0 : Option Addr) (c0_0 : Nat) (l0_0 : List (List Int)) (r : Bool) (w : World) (hr0_0 : Kd.C (Kd.slice 3 (Kd.int .i64)) w A0_0 l0_0.length l0_0) (hc0_0 : l0_0.length ≤ c0_0) (h : matrix_May.f k l0_0 = some r) :
  Calls Try.prog 36 #[.agg #[.slice A0_0 l0_0.length c0_0]] w fun e w' => e = .returned (.bool r) ∧ Below w.heap.size w w' := by
 have hu24 := Try.underlying24
 have HR0_0 := mk0 hr0_0
 have HC0_0 := mk0 hc0_0
 clear hr0_0 hc0_0
 have HB := mk0 (Below.refl w.heap.size w)
 have H : ((matrix_size.f (l0_0.length : Int)).bind fun t102 => (if t102 = true then (if 0 < (l0_0.length : Int) then ((matrix_size.f ((rd_L1 l0_0 0).length : Int)).bind fun t104 => (matrix_May.j0 k (!t104) l0_0)) else (none)) else (matrix_May.j0 k true l0_0))) = some r := h
 clear h
 have HC2 := mk0 H
 clear H
 go_enter Try.func36, Try.ntmps36
 go_upto_region 1 with (first | ((with_reducible refine gate_dst (N := 1) rfl ?_); (try (refine gate_guard uT ?_; dsimp only)); refine box_event uT (N := 1) uT (cs := #[.slice A0_0 l0_0.length c0_0]) (t := 24) uK ?_; intro gb101 hg w3 hbox hb; have BK101 := mk0 (hbox); have GW101 := mk0 (nB hg HB); have GE101 := mk0 (nB hg HB); replace HB := mk0 (below_step uy hb); clear hb hbox hg))
 (try simp only [Act.put, List.setIfInBounds_toArray, List.set_cons_zero, List.set_cons_succ])
 go_cut [18] (fun v18 wc => ∃ (kq : Nat) (x18_1 : Bool), v18 = .bool x18_1 ∧ Aside0 (matrix_May.j0 kq x18_1 l0_0 = some r) ∧ Aside0 (kq ≤ k) ∧ Aside0 (wc.heap[gb101]? = some (.cells #[(.slice A0_0 l0_0.length c0_0)] 24 (0, 0))) ∧ Aside0 (Below w.heap.size w wc))
 case first =>
  have H := HC2.out
  clear HC2
  replace H := Option.bind_eq_some_iff.mp H
  obtain ⟨t102, A40, H⟩ := H
  replace H : (if t102 = true then (if 0 < (l0_0.length : Int) then ((matrix_size.f ((rd_L1 l0_0 0).length : Int)).bind fun t104 => (matrix_May.j0 k (!t104) l0_0)) else (none)) else (matrix_May.j0 k true l0_0)) = some r := H
  have A4 := mk0 A40
  clear A40
  by_cases c5 : t102 = true
  ·subst c5
   have H1 : (if 0 < (l0_0.length : Int) then ((matrix_size.f ((rd_L1 l0_0 0).length : Int)).bind fun t104 => (matrix_May.j0 k (!t104) l0_0)) else (none)) = some r := by rw [if_pos rfl] at H; exact H
   clear H
   have H := H1
   clear H1
   by_cases c6 : 0 < (l0_0.length : Int)
   ·rw [if_pos c6] at H
    have c6b0 : decide (0 < (l0_0.length : Int)) = true := decide_eq_true c6
    have c6b1 : decide (0 < l0_0.length) = true := decide_eq_true uR
    clear c6
    (first | rw [c6b0] | (simp only [i64_w, i32_w]; rw [c6b0]) | skip)
    replace H := Option.bind_eq_some_iff.mp H
    obtain ⟨t104, A70, H⟩ := H
    replace H : (matrix_May.j0 k (!t104) l0_0) = some r := H
    have A7 := mk0 A70
    clear A70
    have H' := mk0 H
    clear H
    have hcz8_0 : w3.cell? ⟨gb101, 0, none⟩ = some (.slice A0_0 l0_0.length c0_0) := (blk_cell BK101.out 0).trans rfl
    have hfz8_0 := blk_frozen BK101.out 0
    go_wp2_with (first | ((with_reducible refine gCa (f := 68) rfl ?_); refine goesL_ (some 8) rfl rfl Try.func68 uP rfl #[.int .i64 (l0_0.length : Int)] rfl ui ?_; (with_reducible refine (matrix_size.calls (l0_0.length : Int) true _ A4.out).mono ?_); rintro e w' ⟨rfl, ⟨nd, rfl⟩⟩; refine ⟨_, rfl, ?_⟩; have p103 : 0 ≤ (0 : Int) := uR; have q103 : 0 < (l0_0.length : Int) := of_decide_eq_true uI; obtain ⟨ad103, A103_0, c103_0, e103, hx103_0, hl103_0, hi103_0⟩ := at_L1 HR0_0.out 0 p103 q103; cases e103; have qi103 : (0 < l0_0.length) = True := eq_true uR; (try rw [show ((0 : Int)).toNat = 0 from rfl] at hx103_0); (try rw [Addr.add_zero'] at hx103_0); replace hx103_0 := (HB.out.cell (World.block_lt_of_cell? w _ hx103_0)).trans hx103_0; have HR103_0 := mk0 hi103_0; have HC103_0 := mk0 hl103_0; clear hi103_0 hl103_0; replace p103 := eq_true p103; replace q103 := eq_true q103) | (go_at_call 68; (with_reducible refine (matrix_size.calls ((rd_L1 l0_0 0).length : Int) t104 _ A7.out).mono ?_); rintro e w' ⟨rfl, ⟨nd, rfl⟩⟩))
    go_meet
    case rel => exact ⟨_, (!t104), uJ, H', ⟨uL⟩, ⟨bB BK101.out⟩, ⟨ul⟩⟩
   ·rw [if_neg c6] at H
    exact absurd H uS
  ·replace c5 := Bool.eq_false_iff.mpr c5
   subst c5
   have H1 : (matrix_May.j0 k true l0_0) = some r := by rw [if_neg (show ¬ (false = true) by decide)] at H; exact H
   clear H
   have H := H1
   clear H1
   have H' := mk0 H
   clear H
   have hcz9_0 : w3.cell? ⟨gb101, 0, none⟩ = some (.slice A0_0 l0_0.length c0_0) := (blk_cell BK101.out 0).trans rfl
   have hfz9_0 := blk_frozen BK101.out 0
   go_wp2_with (first | ((with_reducible refine gCa (f := 68) rfl ?_); refine goesL_ (some 8) rfl rfl Try.func68 uP rfl #[.int .i64 (l0_0.length : Int)] rfl ui ?_; (with_reducible refine (matrix_size.calls (l0_0.length : Int) false _ A4.out).mono ?_); rintro e w' ⟨rfl, ⟨nd, rfl⟩⟩; refine ⟨_, rfl, ?_⟩))
   go_meet
   case rel => exact ⟨_, (true), uJ, H', ⟨uL⟩, ⟨bB BK101.out⟩, ⟨ul⟩⟩
 case rest =>
  clear HC2
  try clear c1
  try clear p1
  try clear q1
  try clear hx1
  try clear qi1
  try clear p2
  try clear c3
  try clear c5
  try clear c6
  try clear c6b0
  try clear c6b1
  try clear hcz8_0
  try clear hcz9_0
  try clear hfz8_0
  try clear hfz9_0
  try clear hx103_0
  try clear p103
  try clear q103
  obtain ⟨kq, x18_1, rfl, HA, HJ1, BK101, HB⟩ := hcut
  cases kq with
  | zero => exact absurd HA.out (by simp [matrix_May.j0])
  | succ kj1 =>
   have H := HA.out
   clear HA
   simp only [matrix_May.j0] at H
   by_cases c10 : x18_1 = true
   ·subst c10
    have H1 : (some false) = some r := by rw [if_pos rfl] at H; exact H
    clear H
    have H := H1
    clear H1
    obtain rfl := Option.some.inj H
    go_wp2
    go_ret
    exact ⟨uD, ul⟩
   ·replace c10 := Bool.eq_false_iff.mpr c10
    subst c10
    have H1 : (matrix_May.l0 kj1 l0_0 (l0_0.length : Int) 0 l0_0) = some r := by rw [if_neg (show ¬ (false = true) by decide)] at H; exact H
    clear H
    have H := H1
    clear H1
    have H' := mk0 H
    clear H
    have hcz11_0 : wc.cell? ⟨gb101, 0, none⟩ = some (.slice A0_0 l0_0.length c0_0) := (blk_cell BK101.out 0).trans rfl
    have hfz11_0 := blk_frozen BK101.out 0
    go_wp2
    go_loopg [22] kj1 (fun kq v22 w' => ∃ (x22_2 : Int), v22 = .int .i64 x22_2 ∧ Aside0 (matrix_May.l0 kq l0_0 (l0_0.length : Int) x22_2 l0_0 = some r) ∧ Aside0 (kq ≤ kj1) ∧ Aside0 (w'.heap[gb101]? = some (.cells #[(.slice A0_0 l0_0.length c0_0)] 24 (0, 0))) ∧ Aside0 (Below w.heap.size w w'))
    case atStart => exact ⟨(0), uJ, H', ⟨Nat.le_refl _⟩, ⟨bB BK101.out⟩, ⟨ul⟩⟩
    case round =>
     clear H'
     try clear c1
     try clear p1
     try clear q1
     try clear hx1
     try clear qi1
     try clear p2
     try clear c3
     try clear c5
     try clear c6
     try clear c6b0
     try clear c6b1
     try clear c10
     try clear p10
     try clear q10
     try clear hx10
     try clear qi10
     try clear hcz11_0
     try clear hcz8_0
     try clear hcz9_0
     try clear hfz11_0
     try clear hfz8_0
     try clear hfz9_0
     try clear hx103_0
     try clear p1
     try clear p103
     try clear p2
     try clear q1
     try clear q103
     obtain ⟨x22_2, rfl, HA, HK2, BK101, HB⟩ := hrel
     cases gk with
     | zero => exact absurd HA.out (by simp [matrix_May.l0])
     | succ k2 =>
      have H := HA.out
      clear HA
      simp only [matrix_May.l0] at H
      by_cases c12 : x22_2 < (l0_0.length : Int)
      ·rw [if_pos c12] at H
       have c12b0 : decide (x22_2 < (l0_0.length : Int)) = true := decide_eq_true c12
       clear c12
       by_cases c13 : 0 ≤ x22_2
       ·rw [if_pos c13] at H
        have c13b0 : decide (0 ≤ x22_2) = true := decide_eq_true c13
        clear c13
        by_cases c14 : x22_2 < (l0_0.length : Int)
        ·rw [if_pos c14] at H
         have c14b0 : decide (x22_2 < (l0_0.length : Int)) = true := decide_eq_true c14
         clear c14
         by_cases c15 : 0 < (l0_0.length : Int)
         ·rw [if_pos c15] at H
          have c15b0 : decide (0 < (l0_0.length : Int)) = true := decide_eq_true c15
          have c15b1 : decide (0 < l0_0.length) = true := decide_eq_true uR
          clear c15
          by_cases c16 : ((rd_L1 l0_0 x22_2).length : Int) = ((rd_L1 l0_0 0).length : Int)
          ·rw [if_pos c16] at H
           have c16b0 : (((rd_L1 l0_0 x22_2).length : Int) == ((rd_L1 l0_0 0).length : Int)) = true := beq_iff_eq.mpr c16
           have c16b1 : (((rd_L1 l0_0 x22_2).length : Int) != ((rd_L1 l0_0 0).length : Int)) = false := bne_eq_false_iff_eq.mpr c16
           have c16b2 : ((rd_L1 l0_0 x22_2).length == (rd_L1 l0_0 0).length) = true := by first | simpa using c16 | (simp at c16 ⊢; omega)
           clear c16
           replace H := Option.bind_eq_some_iff.mp H
           obtain ⟨t107, A170, H⟩ := H
           replace H : (if t107 = true then (some false) else (matrix_May.l0 k2 l0_0 (l0_0.length : Int) (wrap64 (x22_2 + 1)) l0_0)) = some r := H
           have A17 := mk0 A170
           clear A170
           by_cases c18 : t107 = true
           ·subst c18
            have H1 : (some false) = some r := by rw [if_pos rfl] at H; exact H
            clear H
            have H := H1
            clear H1
            obtain rfl := Option.some.inj H
            have p105 : 0 ≤ (x22_2 : Int) := of_decide_eq_true uI
            have q105 : x22_2 < (l0_0.length : Int) := of_decide_eq_true uI
            obtain ⟨ad105, A105_0, c105_0, e105, hx105_0, hl105_0, hi105_0⟩ := at_L1 HR0_0.out x22_2 p105 q105
            cases e105
            replace hx105_0 := (HB.out.cell (World.block_lt_of_cell? w _ hx105_0)).trans hx105_0
            have HR105_0 := mk0 hi105_0
            have HC105_0 := mk0 hl105_0
            clear hi105_0 hl105_0
            replace p105 := eq_true p105
            replace q105 := eq_true q105
            have hcz19_0 : wr.cell? ⟨gb101, 0, none⟩ = some (.slice (some ad105) l0_0.length c0_0) := (blk_cell BK101.out 0).trans rfl
            have hfz19_0 := blk_frozen BK101.out 0
            have p106 : 0 ≤ (0 : Int) := uR
            have q106 : 0 < (l0_0.length : Int) := of_decide_eq_true uI
            obtain ⟨ad106, A106_0, c106_0, e106, hx106_0, hl106_0, hi106_0⟩ := at_L1 HR0_0.out 0 p106 q106
            obtain rfl : ad105 = ad106 := (by injection e106)
            have qi106 : (0 < l0_0.length) = True := eq_true uR
            (try rw [show ((0 : Int)).toNat = 0 from rfl] at hx106_0)
            (try rw [Addr.add_zero'] at hx106_0)
            replace hx106_0 := (HB.out.cell (World.block_lt_of_cell? w _ hx106_0)).trans hx106_0
            have HR106_0 := mk0 hi106_0
            have HC106_0 := mk0 hl106_0
            clear hi106_0 hl106_0
            replace p106 := eq_true p106
            replace q106 := eq_true q106
            go_wp2_with (first | (go_at_call 72; (with_reducible refine (containsBad.calls _ _ (rd_L1 l0_0 x22_2) true _ ?side1 ?side2 A17.out).mono ?_); (case side1 => exact cB (Kd.C_below HR105_0.out HB.out)); (case side2 => exact HC105_0.out); rintro e w' ⟨rfl, ⟨nd, rfl⟩⟩))
            go_ret
            exact ⟨uD, ul⟩
           ·replace c18 := Bool.eq_false_iff.mpr c18
            subst c18
            have H1 : (matrix_May.l0 k2 l0_0 (l0_0.length : Int) (wrap64 (x22_2 + 1)) l0_0) = some r := by rw [if_neg (show ¬ (false = true) by decide)] at H; exact H
            clear H
            have H := H1
            clear H1
            have H' := mk0 H
            clear H
            have p105 : 0 ≤ (x22_2 : Int) := of_decide_eq_true uI
            have q105 : x22_2 < (l0_0.length : Int) := of_decide_eq_true uI
            obtain ⟨ad105, A105_0, c105_0, e105, hx105_0, hl105_0, hi105_0⟩ := at_L1 HR0_0.out x22_2 p105 q105
            cases e105
            replace hx105_0 := (HB.out.cell (World.block_lt_of_cell? w _ hx105_0)).trans hx105_0
            have HR105_0 := mk0 hi105_0
            have HC105_0 := mk0 hl105_0
            clear hi105_0 hl105_0
            replace p105 := eq_true p105
            replace q105 := eq_true q105
            have hcz20_0 : wr.cell? ⟨gb101, 0, none⟩ = some (.slice (some ad105) l0_0.length c0_0) := (blk_cell BK101.out 0).trans rfl
            have hfz20_0 := blk_frozen BK101.out 0
            have p106 : 0 ≤ (0 : Int) := uR
            have q106 : 0 < (l0_0.length : Int) := of_decide_eq_true uI
            obtain ⟨ad106, A106_0, c106_0, e106, hx106_0, hl106_0, hi106_0⟩ := at_L1 HR0_0.out 0 p106 q106
            obtain rfl : ad105 = ad106 := (by injection e106)
            have qi106 : (0 < l0_0.length) = True := eq_true uR
            (try rw [show ((0 : Int)).toNat = 0 from rfl] at hx106_0)
            (try rw [Addr.add_zero'] at hx106_0)
            replace hx106_0 := (HB.out.cell (World.block_lt_of_cell? w _ hx106_0)).trans hx106_0
            have HR106_0 := mk0 hi106_0
            have HC106_0 := mk0 hl106_0
            clear hi106_0 hl106_0
            replace p106 := eq_true p106
            replace q106 := eq_true q106
            go_wp2_with (first | (go_at_call 72; (with_reducible refine (containsBad.calls _ _ (rd_L1 l0_0 x22_2) false _ ?side1 ?side2 A17.out).mono ?_); (case side1 => exact cB (Kd.C_below HR105_0.out HB.out)); (case side2 => exact HC105_0.out); rintro e w' ⟨rfl, ⟨nd, rfl⟩⟩))
            go_roundg k2
            case measure => have := HJ1.out; have := HK2.out; omega
            case rel => exact ⟨(wrap64 (x22_2 + 1)), uJ, H', ⟨by have := HJ1.out; have := HK2.out; omega⟩, ⟨bB BK101.out⟩, ⟨ul⟩⟩
          ·rw [if_neg c16] at H
           have c16b0 : (((rd_L1 l0_0 x22_2).length : Int) == ((rd_L1 l0_0 0).length : Int)) = false := beq_eq_false_iff_ne.mpr c16
           have c16b1 : (((rd_L1 l0_0 x22_2).length : Int) != ((rd_L1 l0_0 0).length : Int)) = true := bne_iff_ne.mpr c16
           have c16b2 : ((rd_L1 l0_0 x22_2).length == (rd_L1 l0_0 0).length) = false := by first | simpa using c16 | (simp at c16 ⊢; omega)
           obtain rfl := Option.some.inj H
           have p105 : 0 ≤ (x22_2 : Int) := of_decide_eq_true uI
           have q105 : x22_2 < (l0_0.length : Int) := of_decide_eq_true uI
           obtain ⟨ad105, A105_0, c105_0, e105, hx105_0, hl105_0, hi105_0⟩ := at_L1 HR0_0.out x22_2 p105 q105
           cases e105
           replace hx105_0 := (HB.out.cell (World.block_lt_of_cell? w _ hx105_0)).trans hx105_0
           have HR105_0 := mk0 hi105_0
           have HC105_0 := mk0 hl105_0
           clear hi105_0 hl105_0
           replace p105 := eq_true p105
           replace q105 := eq_true q105
           have hcz21_0 : wr.cell? ⟨gb101, 0, none⟩ = some (.slice (some ad105) l0_0.length c0_0) := (blk_cell BK101.out 0).trans rfl
           have hfz21_0 := blk_frozen BK101.out 0
           have p106 : 0 ≤ (0 : Int) := uR
           have q106 : 0 < (l0_0.length : Int) := of_decide_eq_true uI
           obtain ⟨ad106, A106_0, c106_0, e106, hx106_0, hl106_0, hi106_0⟩ := at_L1 HR0_0.out 0 p106 q106
           obtain rfl : ad105 = ad106 := (by injection e106)
           have qi106 : (0 < l0_0.length) = True := eq_true uR
           (try rw [show ((0 : Int)).toNat = 0 from rfl] at hx106_0)
           (try rw [Addr.add_zero'] at hx106_0)
           replace hx106_0 := (HB.out.cell (World.block_lt_of_cell? w _ hx106_0)).trans hx106_0
           have HR106_0 := mk0 hi106_0
           have HC106_0 := mk0 hl106_0
           clear hi106_0 hl106_0
           replace p106 := eq_true p106
           replace q106 := eq_true q106
           go_wp2
           go_ret
           exact ⟨uD, ul⟩
         ·rw [if_neg c15] at H
          exact absurd H uS
        ·rw [if_neg c14] at H
         exact absurd H uS
       ·rw [if_neg c13] at H
        exact absurd H uS
      ·rw [if_neg c12] at H
       have c12b0 : decide (x22_2 < (l0_0.length : Int)) = false := decide_eq_false c12
       clear c12
       obtain rfl := Option.some.inj H
       go_wp2
       go_ret
       exact ⟨uD, ul⟩
def matrix_Identity.f (k : Nat) (a0 : Int) : Option ((List (List Int)) × Int) := (matrix_size.f a0).bind fun t116 => (if t116 = true then ((madeId.f k a0 a0).bind fun t117 => (some (t117, 0))) else (some (([] : List (List Int)), 300)))
theorem matrix_Identity.mono : ∀ a0 k, LeO (matrix_Identity.f k a0) (matrix_Identity.f (k + 1) a0) := by
 intro a0 k
 unfold matrix_Identity.f
 repeat' with_reducible first | exact madeId.mono _ _ _ | exact LeO.refl _ | exact LeO.none _ | refine LeO.ite ?_ ?_ | refine LeO.bind ?_ (fun _ => ?_)
set_option maxHeartbeats 8000000 in
set_option maxRecDepth 100000 in
theorem matrix_Identity.calls (k : Nat) (a0 : Int) (r1 : List (List Int)) (r2 : Int) (w : World) (h : matrix_Identity.f k a0 = some (r1, r2)) :
  Calls Try.prog 32 #[.int .i64 a0] w fun e w' => ∃ v0_ : Value, e = .returned (.tuple #[.agg #[v0_], .int .i64 r2]) ∧ Kd.S (Kd.slice 3 (Kd.int .i64)) 25 w' w.heap.size (fun _ => True) v0_ r1 ∧ Below w.heap.size w w' := by
 have hu24 := Try.underlying24
 have HB := mk0 (Below.refl w.heap.size w)
 have H : ((matrix_size.f a0).bind fun t116 => (if t116 = true then ((madeId.f k a0 a0).bind fun t117 => (some (t117, 0))) else (some (([] : List (List Int)), 300)))) = some (r1, r2) := h
 clear h
 replace H := Option.bind_eq_some_iff.mp H
 obtain ⟨t116, A20, H⟩ := H
 replace H : (if t116 = true then ((madeId.f k a0 a0).bind fun t117 => (some (t117, 0))) else (some (([] : List (List Int)), 300))) = some (r1, r2) := H
 have A2 := mk0 A20
 clear A20
 by_cases c3 : t116 = true
 ·subst c3
  have H1 : ((madeId.f k a0 a0).bind fun t117 => (some (t117, 0))) = some (r1, r2) := by rw [if_pos rfl] at H; exact H
  clear H
  have H := H1
  clear H1
  replace H := Option.bind_eq_some_iff.mp H
  obtain ⟨t117, A40, H⟩ := H
  replace H : (some (t117, 0)) = some (r1, r2) := H
  have A4 := mk0 A40
  clear A40
  simp only [Option.some.injEq, Prod.mk.injEq] at H
  obtain ⟨rfl, rfl⟩ := H
  go_enter Try.func32, Try.ntmps32
  go_wp2_with (first | ((with_reducible refine gate_dst (N := 2) rfl ?_); refine box_event uT (N := 2) uT (cs := #[.slice none 0 0]) (t := 24) uK ?_; intro gb115 hg w5 hbox hb; have BK115 := mk0 (hbox); have GW115 := mk0 (nB hg HB); have GE115 := mk0 (nB hg HB); replace HB := mk0 (below_step uy hb); clear hb hbox hg) | ((with_reducible refine gCa (f := 68) rfl ?_); refine goesL_ (some 5) rfl rfl Try.func68 uP rfl #[.int .i64 a0] rfl ui ?_; (with_reducible refine (matrix_size.calls a0 true _ A2.out).mono ?_); rintro e w' ⟨rfl, ⟨nd, rfl⟩⟩; refine ⟨_, rfl, ?_⟩; (try (rw [dSe w5]; generalize hq_ : World.drewN w5 _ = w5; have n0_ : Aside0 (w5.heap[gb115]? = some (.cells #[.slice none 0 0] 24 (0, 0))) := ⟨by rw [← hq_]; exact (bB BK115.out)⟩; have n1_ : Aside0 (Below w.heap.size w w5) := ⟨by rw [← hq_]; exact ul⟩; clear BK115 HB hq_; have BK115 := n0_; have HB := n1_; clear n0_ n1_))) | ((with_reducible refine gCa (f := 63) rfl ?_); refine goesL_ (some 10) rfl rfl Try.func63 uP rfl #[.int .i64 a0, .int .i64 a0, .func (.func 70) #[] #[]] rfl ui ?_; (with_reducible refine (madeId.calls k a0 a0 t117 _ A4.out).mono ?_); rintro e w6 ⟨v118, rfl, ho0, hb⟩; refine ⟨_, rfl, ?_⟩; have HO119 := mk0 (Kd.S_lower ho0 (below_size ul)); replace BK115 := bK BK115 hb; replace HB := mk0 (below_step ul hb); (try clear hb); (try clear hb2); (try clear hk); (try clear hi); (try clear ho0); obtain ⟨Ao7, co7, eo7⟩ := Kd.S_slice HO119.out; subst eo7; have hcz8_0 : w6.cell? ⟨gb115, 0, none⟩ = some (.slice none 0 0) := (blk_cell BK115.out 0).trans rfl; have hfz8_0 := blk_frozen BK115.out 0))
  refine bodyPost_ret (results_ct rfl _ _ gb115 24 #[.slice Ao7 t117.length co7] (0, 0) _ rfl uz Try.underlying24 rfl uP) rfl ?_
  exact ⟨_, uD, by (with_reducible repeat (first | apply sA | apply sN | apply sD)); exact Kd.S_mono (Kd.S_far (p := ⟨gb115, 0, none⟩) (Kd.S_types HO119.out BK115.out uQ) (fun _ hk => hk.2) (.slice Ao7 t117.length co7)) (fun _ hk => trivial), ul⟩
 ·replace c3 := Bool.eq_false_iff.mpr c3
  subst c3
  have H1 : (some (([] : List (List Int)), 300)) = some (r1, r2) := by rw [if_neg (show ¬ (false = true) by decide)] at H; exact H
  clear H
  have H := H1
  clear H1
  simp only [Option.some.injEq, Prod.mk.injEq] at H
  obtain ⟨rfl, rfl⟩ := H
  go_enter Try.func32, Try.ntmps32
  go_wp2_with (first | ((with_reducible refine gate_dst (N := 2) rfl ?_); refine box_event uT (N := 2) uT (cs := #[.slice none 0 0]) (t := 24) uK ?_; intro gb115 hg w9 hbox hb; have BK115 := mk0 (hbox); have GW115 := mk0 (nB hg HB); have GE115 := mk0 (nB hg HB); replace HB := mk0 (below_step uy hb); clear hb hbox hg) | ((with_reducible refine gCa (f := 68) rfl ?_); refine goesL_ (some 5) rfl rfl Try.func68 uP rfl #[.int .i64 a0] rfl ui ?_; (with_reducible refine (matrix_size.calls a0 false _ A2.out).mono ?_); rintro e w' ⟨rfl, ⟨nd, rfl⟩⟩; refine ⟨_, rfl, ?_⟩; (try (rw [dSe w9]; generalize hq_ : World.drewN w9 _ = w9; have n0_ : Aside0 (w9.heap[gb115]? = some (.cells #[.slice none 0 0] 24 (0, 0))) := ⟨by rw [← hq_]; exact (bB BK115.out)⟩; have n1_ : Aside0 (Below w.heap.size w w9) := ⟨by rw [← hq_]; exact ul⟩; clear BK115 HB hq_; have BK115 := n0_; have HB := n1_; clear n0_ n1_)); have hcz10_0 : w9.cell? ⟨gb115, 0, none⟩ = some (.slice none 0 0) := (blk_cell BK115.out 0).trans rfl; have hfz10_0 := blk_frozen BK115.out 0))
  refine bodyPost_ret (results_ct rfl _ _ gb115 24 #[.slice none 0 0] (0, 0) _ rfl uz Try.underlying24 rfl uP) rfl ?_
  exact ⟨_, uD, uh, ul⟩
def ossuarylaw0_SameInts.l0 : Nat → List Int → List Int → Int → Option (Bool)
 | 0, _, _, _ => none
 | k + 1, x0, x1, x5 => if x5 < (x0.length : Int) then (if 0 ≤ x5 then (if x5 < (x1.length : Int) then (if (rd x0 x5) = (rd x1 x5) then (ossuarylaw0_SameInts.l0 k x0 x1 (wrap64 (x5 + 1))) else (some false)) else (none)) else (none)) else (some true)
def ossuarylaw0_SameInts.f (k : Nat) (l0 : List Int) (l1 : List Int) : Option (Bool) := if (l0.length : Int) = (l1.length : Int) then (ossuarylaw0_SameInts.l0 k l0 l1 0) else (some false)
theorem ossuarylaw0_SameInts.mono_l : ∀ k, (∀ y0 y1 y2, LeO (ossuarylaw0_SameInts.l0 k y0 y1 y2) (ossuarylaw0_SameInts.l0 (k + 1) y0 y1 y2))
 | 0 => fun _ _ _ r h => by simp [ossuarylaw0_SameInts.l0] at h
 | k + 1 => by
  have ih0 := ossuarylaw0_SameInts.mono_l k
  ·intro y0 y1 y2
   unfold ossuarylaw0_SameInts.l0
   repeat' with_reducible first | exact ih0 _ _ _ | exact LeO.refl _ | exact LeO.none _ | refine LeO.ite ?_ ?_ | refine LeO.bind ?_ (fun _ => ?_)
theorem ossuarylaw0_SameInts.mono : ∀ a0 a1 k, LeO (ossuarylaw0_SameInts.f k a0 a1) (ossuarylaw0_SameInts.f (k + 1) a0 a1) := by
 intro a0 a1 k
 have ih0 := ossuarylaw0_SameInts.mono_l k
 unfold ossuarylaw0_SameInts.f
 repeat' with_reducible first | exact ih0 _ _ _ | exact LeO.refl _ | exact LeO.none _ | refine LeO.ite ?_ ?_ | refine LeO.bind ?_ (fun _ => ?_)
set_option maxHeartbeats 8000000 in
set_option maxRecDepth 100000 in
theorem ossuarylaw0_SameInts.calls (k : Nat) (A0 : Option Addr) (c0 : Nat) (l0 : List Int) (A1 : Option Addr) (c1 : Nat) (l1 : List Int) (r : Bool) (w : World) (hr0 : Kd.C (Kd.int .i64) w A0 l0.length l0) (hc0 : l0.length ≤ c0) (hr1 : Kd.C (Kd.int .i64) w A1 l1.length l1) (hc1 : l1.length ≤ c1) (h : ossuarylaw0_SameInts.f k l0 l1 = some r) :
  Calls Try.prog 71 #[.slice A0 l0.length c0, .slice A1 l1.length c1] w fun e w' => e = .returned (.bool r) ∧ Drawn0 w w' := by
 have HR0 := mk0 hr0
 have HC0 := mk0 hc0
 clear hr0 hc0
 have HR1 := mk0 hr1
 have HC1 := mk0 hc1
 clear hr1 hc1
 have H : (if (l0.length : Int) = (l1.length : Int) then (ossuarylaw0_SameInts.l0 k l0 l1 0) else (some false)) = some r := h
 clear h
 by_cases c3 : (l0.length : Int) = (l1.length : Int)
 ·rw [if_pos c3] at H
  have c3b0 : ((l0.length : Int) == (l1.length : Int)) = true := beq_iff_eq.mpr c3
  have c3b1 : ((l0.length : Int) != (l1.length : Int)) = false := bne_eq_false_iff_eq.mpr c3
  have c3b2 : (l0.length == l1.length) = true := by first | simpa using c3 | (simp at c3 ⊢; omega)
  clear c3
  have H' := mk0 H
  clear H
  go_enter Try.func71, Try.ntmps71
  go_wp2
  repeat (go_quiet (fail); try go_wp2)
  go_loopg [5] k (fun kq v5 w' => ∃ (x5_1 : Int), v5 = .int .i64 x5_1 ∧ Aside0 (ossuarylaw0_SameInts.l0 kq l0 l1 x5_1 = some r) ∧ Aside0 (kq ≤ k) ∧ Drawn0 w w')
  case atStart => exact ⟨(0), uJ, H', ⟨Nat.le_refl _⟩, uH⟩
  case round =>
   clear H'
   try clear c1
   try clear p2
   try clear c3
   try clear c3b0
   try clear c3b1
   try clear c3b2
   obtain ⟨x5_1, rfl, HA, HK1, ⟨m1, rfl⟩⟩ := hrel
   cases gk with
   | zero => exact absurd HA.out (by simp [ossuarylaw0_SameInts.l0])
   | succ k1 =>
    have H := HA.out
    clear HA
    simp only [ossuarylaw0_SameInts.l0] at H
    by_cases c4 : x5_1 < (l0.length : Int)
    ·rw [if_pos c4] at H
     have c4b0 : decide (x5_1 < (l0.length : Int)) = true := decide_eq_true c4
     clear c4
     by_cases c5 : 0 ≤ x5_1
     ·rw [if_pos c5] at H
      have c5b0 : decide (0 ≤ x5_1) = true := decide_eq_true c5
      clear c5
      by_cases c6 : x5_1 < (l1.length : Int)
      ·rw [if_pos c6] at H
       have c6b0 : decide (x5_1 < (l1.length : Int)) = true := decide_eq_true c6
       clear c6
       by_cases c7 : (rd l0 x5_1) = (rd l1 x5_1)
       ·rw [if_pos c7] at H
        have c7b0 : ((rd l0 x5_1) == (rd l1 x5_1)) = true := beq_iff_eq.mpr c7
        have c7b1 : ((rd l0 x5_1) != (rd l1 x5_1)) = false := bne_eq_false_iff_eq.mpr c7
        clear c7
        have H' := mk0 H
        clear H
        have p120 : 0 ≤ (x5_1 : Int) := of_decide_eq_true uI
        have q120 : x5_1 < (l0.length : Int) := of_decide_eq_true uI
        obtain ⟨ad120, e120, hx120_0⟩ := Kd.at_int HR0.out x5_1 p120 q120
        cases e120
        replace p120 := eq_true p120
        replace q120 := eq_true q120
        have p121 : 0 ≤ (x5_1 : Int) := of_decide_eq_true uI
        have q121 : x5_1 < (l1.length : Int) := of_decide_eq_true uI
        obtain ⟨ad121, e121, hx121_0⟩ := Kd.at_int HR1.out x5_1 p121 q121
        cases e121
        replace p121 := eq_true p121
        replace q121 := eq_true q121
        go_wp2
        repeat (go_quiet (fail); try go_wp2)
        go_roundg k1
        case measure => have := HK1.out; omega
        case rel => exact ⟨(wrap64 (x5_1 + 1)), uJ, H', ⟨uO⟩, uH⟩
       ·rw [if_neg c7] at H
        have c7b0 : ((rd l0 x5_1) == (rd l1 x5_1)) = false := beq_eq_false_iff_ne.mpr c7
        have c7b1 : ((rd l0 x5_1) != (rd l1 x5_1)) = true := bne_iff_ne.mpr c7
        obtain rfl := Option.some.inj H
        have p120 : 0 ≤ (x5_1 : Int) := of_decide_eq_true uI
        have q120 : x5_1 < (l0.length : Int) := of_decide_eq_true uI
        obtain ⟨ad120, e120, hx120_0⟩ := Kd.at_int HR0.out x5_1 p120 q120
        cases e120
        replace p120 := eq_true p120
        replace q120 := eq_true q120
        have p121 : 0 ≤ (x5_1 : Int) := of_decide_eq_true uI
        have q121 : x5_1 < (l1.length : Int) := of_decide_eq_true uI
        obtain ⟨ad121, e121, hx121_0⟩ := Kd.at_int HR1.out x5_1 p121 q121
        cases e121
        replace p121 := eq_true p121
        replace q121 := eq_true q121
        go_wp2
        repeat (go_quiet (fail); try go_wp2)
        go_ret
        exact ⟨uJ, uH⟩
      ·rw [if_neg c6] at H
       exact absurd H uS
     ·rw [if_neg c5] at H
      exact absurd H uS
    ·rw [if_neg c4] at H
     have c4b0 : decide (x5_1 < (l0.length : Int)) = false := decide_eq_false c4
     clear c4
     obtain rfl := Option.some.inj H
     go_wp2
     repeat (go_quiet (fail); try go_wp2)
     go_ret
     exact ⟨uJ, uH⟩
 ·rw [if_neg c3] at H
  have c3b0 : ((l0.length : Int) == (l1.length : Int)) = false := beq_eq_false_iff_ne.mpr c3
  have c3b1 : ((l0.length : Int) != (l1.length : Int)) = true := bne_iff_ne.mpr c3
  have c3b2 : (l0.length == l1.length) = false := by first | simpa using c3 | (simp at c3 ⊢; omega)
  obtain rfl := Option.some.inj H
  go_enter Try.func71, Try.ntmps71
  go_wp2
  repeat (go_quiet (fail); try go_wp2)
  go_ret
  exact ⟨uJ, uH⟩
def ossuarylaw0_SameMatrix.l0 : Nat → Int → List (List Int) → List (List Int) → Option (Bool)
 | 0, _, _, _ => none
 | k + 1, x5, x123000, x124000 => if x5 < (x123000.length : Int) then (if 0 ≤ x5 then (if x5 < (x124000.length : Int) then ((ossuarylaw0_SameInts.f k (rd_L1 x123000 x5) (rd_L1 x124000 x5)).bind fun t126 => (if t126 = true then (ossuarylaw0_SameMatrix.l0 k (wrap64 (x5 + 1)) x123000 x124000) else (some false))) else (none)) else (none)) else (some true)
def ossuarylaw0_SameMatrix.f (k : Nat) (l0_0 : List (List Int)) (l1_0 : List (List Int)) : Option (Bool) := if (l0_0.length : Int) = (l1_0.length : Int) then (ossuarylaw0_SameMatrix.l0 k 0 l0_0 l1_0) else (some false)
theorem ossuarylaw0_SameMatrix.mono_l : ∀ k, (∀ y0 y1 y2, LeO (ossuarylaw0_SameMatrix.l0 k y0 y1 y2) (ossuarylaw0_SameMatrix.l0 (k + 1) y0 y1 y2))
 | 0 => fun _ _ _ r h => by simp [ossuarylaw0_SameMatrix.l0] at h
 | k + 1 => by
  have ih0 := ossuarylaw0_SameMatrix.mono_l k
  ·intro y0 y1 y2
   unfold ossuarylaw0_SameMatrix.l0
   repeat' with_reducible first | exact ih0 _ _ _ | exact ossuarylaw0_SameInts.mono _ _ _ | exact LeO.refl _ | exact LeO.none _ | refine LeO.ite ?_ ?_ | refine LeO.bind ?_ (fun _ => ?_)
theorem ossuarylaw0_SameMatrix.mono : ∀ a0 a1 k, LeO (ossuarylaw0_SameMatrix.f k a0 a1) (ossuarylaw0_SameMatrix.f (k + 1) a0 a1) := by
 intro a0 a1 k
 have ih0 := ossuarylaw0_SameMatrix.mono_l k
 unfold ossuarylaw0_SameMatrix.f
 repeat' with_reducible first | exact ih0 _ _ _ | exact ossuarylaw0_SameInts.mono _ _ _ | exact LeO.refl _ | exact LeO.none _ | refine LeO.ite ?_ ?_ | refine LeO.bind ?_ (fun _ => ?_)
set_option maxHeartbeats 8000000 in
set_option maxRecDepth 100000 in
theorem ossuarylaw0_SameMatrix.calls (k : Nat) (A0_0 : Option Addr) (c0_0 : Nat) (l0_0 : List (List Int)) (A1_0 : Option Addr) (c1_0 : Nat) (l1_0 : List (List Int)) (r : Bool) (w : World) (hr0_0 : Kd.C (Kd.slice 3 (Kd.int .i64)) w A0_0 l0_0.length l0_0) (hc0_0 : l0_0.length ≤ c0_0) (hr1_0 : Kd.C (Kd.slice 3 (Kd.int .i64)) w A1_0 l1_0.length l1_0) (hc1_0 : l1_0.length ≤ c1_0) (h : ossuarylaw0_SameMatrix.f k l0_0 l1_0 = some r) :
  Calls Try.prog 34 #[.agg #[.slice A0_0 l0_0.length c0_0], .agg #[.slice A1_0 l1_0.length c1_0]] w fun e w' => e = .returned (.bool r) ∧ Below w.heap.size w w' := by
 have hu24 := Try.underlying24
 have HR0_0 := mk0 hr0_0
 have HC0_0 := mk0 hc0_0
 clear hr0_0 hc0_0
 have HR1_0 := mk0 hr1_0
 have HC1_0 := mk0 hc1_0
 clear hr1_0 hc1_0
 have HB := mk0 (Below.refl w.heap.size w)
 have H : (if (l0_0.length : Int) = (l1_0.length : Int) then (ossuarylaw0_SameMatrix.l0 k 0 l0_0 l1_0) else (some false)) = some r := h
 clear h
 by_cases c3 : (l0_0.length : Int) = (l1_0.length : Int)
 ·rw [if_pos c3] at H
  have c3b0 : ((l0_0.length : Int) == (l1_0.length : Int)) = true := beq_iff_eq.mpr c3
  have c3b1 : ((l0_0.length : Int) != (l1_0.length : Int)) = false := bne_eq_false_iff_eq.mpr c3
  have c3b2 : (l0_0.length == l1_0.length) = true := by first | simpa using c3 | (simp at c3 ⊢; omega)
  clear c3
  have H' := mk0 H
  clear H
  go_enter Try.func34, Try.ntmps34
  go_wp2_with (first | ((with_reducible refine gate_dst (N := 2) rfl ?_); refine box_event uT (N := 2) uT (cs := #[.slice A0_0 l0_0.length c0_0]) (t := 24) uK ?_; intro gb122 hg w4 hbox hb; have BK122 := mk0 (hbox); have GW122 := mk0 (nB hg HB); have GE122 := mk0 (nB hg HB); replace HB := mk0 (below_step uy hb); clear hb hbox hg) | ((with_reducible refine gate_dst (N := 3) rfl ?_); refine box_event uT (N := 3) uT (cs := #[.slice A1_0 l1_0.length c1_0]) (t := 24) uK ?_; intro gb123 hg w5 hbox hb; have BK123 := mk0 (hbox); have GW123 := mk0 (nB hg HB); have GE123 := mk0 (nB hg HB); replace HB := mk0 (below_step ul hb); have NB122_123 := mk0 (nF hg BK122.out); have NB123_122 := mk0 (nE hg BK122.out); replace BK122 := bK BK122 hb; clear hb hbox hg; have hnb6 := NB122_123.out; have hnc6 := NB123_122.out; have hcz7_0 : w5.cell? ⟨gb122, 0, none⟩ = some (.slice A0_0 l0_0.length c0_0) := (blk_cell BK122.out 0).trans rfl; have hfz7_0 := blk_frozen BK122.out 0; have hcz8_0 : w5.cell? ⟨gb123, 0, none⟩ = some (.slice A1_0 l1_0.length c1_0) := (blk_cell BK123.out 0).trans rfl; have hfz8_0 := blk_frozen BK123.out 0))
  repeat (go_quiet (first | ((with_reducible refine gate_dst (N := 2) rfl ?_); refine box_event uT (N := 2) uT (cs := #[.slice A0_0 l0_0.length c0_0]) (t := 24) uK ?_; intro gb122 hg w4 hbox hb; have BK122 := mk0 (hbox); have GW122 := mk0 (nB hg HB); have GE122 := mk0 (nB hg HB); replace HB := mk0 (below_step uy hb); clear hb hbox hg) | ((with_reducible refine gate_dst (N := 3) rfl ?_); refine box_event uT (N := 3) uT (cs := #[.slice A1_0 l1_0.length c1_0]) (t := 24) uK ?_; intro gb123 hg w5 hbox hb; have BK123 := mk0 (hbox); have GW123 := mk0 (nB hg HB); have GE123 := mk0 (nB hg HB); replace HB := mk0 (below_step ul hb); have NB122_123 := mk0 (nF hg BK122.out); have NB123_122 := mk0 (nE hg BK122.out); replace BK122 := bK BK122 hb; clear hb hbox hg; have hnb6 := NB122_123.out; have hnc6 := NB123_122.out; have hcz7_0 : w5.cell? ⟨gb122, 0, none⟩ = some (.slice A0_0 l0_0.length c0_0) := (blk_cell BK122.out 0).trans rfl; have hfz7_0 := blk_frozen BK122.out 0; have hcz8_0 : w5.cell? ⟨gb123, 0, none⟩ = some (.slice A1_0 l1_0.length c1_0) := (blk_cell BK123.out 0).trans rfl; have hfz8_0 := blk_frozen BK123.out 0)); try go_wp2_with (first | ((with_reducible refine gate_dst (N := 2) rfl ?_); refine box_event uT (N := 2) uT (cs := #[.slice A0_0 l0_0.length c0_0]) (t := 24) uK ?_; intro gb122 hg w4 hbox hb; have BK122 := mk0 (hbox); have GW122 := mk0 (nB hg HB); have GE122 := mk0 (nB hg HB); replace HB := mk0 (below_step uy hb); clear hb hbox hg) | ((with_reducible refine gate_dst (N := 3) rfl ?_); refine box_event uT (N := 3) uT (cs := #[.slice A1_0 l1_0.length c1_0]) (t := 24) uK ?_; intro gb123 hg w5 hbox hb; have BK123 := mk0 (hbox); have GW123 := mk0 (nB hg HB); have GE123 := mk0 (nB hg HB); replace HB := mk0 (below_step ul hb); have NB122_123 := mk0 (nF hg BK122.out); have NB123_122 := mk0 (nE hg BK122.out); replace BK122 := bK BK122 hb; clear hb hbox hg; have hnb6 := NB122_123.out; have hnc6 := NB123_122.out; have hcz7_0 : w5.cell? ⟨gb122, 0, none⟩ = some (.slice A0_0 l0_0.length c0_0) := (blk_cell BK122.out 0).trans rfl; have hfz7_0 := blk_frozen BK122.out 0; have hcz8_0 : w5.cell? ⟨gb123, 0, none⟩ = some (.slice A1_0 l1_0.length c1_0) := (blk_cell BK123.out 0).trans rfl; have hfz8_0 := blk_frozen BK123.out 0)))
  go_loopg [5] k (fun kq v5 w' => ∃ (x5_1 : Int), v5 = .int .i64 x5_1 ∧ Aside0 (ossuarylaw0_SameMatrix.l0 kq x5_1 l0_0 l1_0 = some r) ∧ Aside0 (kq ≤ k) ∧ Aside0 (w'.heap[gb122]? = some (.cells #[(.slice A0_0 l0_0.length c0_0)] 24 (0, 0))) ∧ Aside0 (w'.heap[gb123]? = some (.cells #[(.slice A1_0 l1_0.length c1_0)] 24 (0, 0))) ∧ Aside0 (Below w.heap.size w w'))
  case atStart => exact ⟨(0), uJ, H', ⟨Nat.le_refl _⟩, ⟨bB BK122.out⟩, ⟨bB BK123.out⟩, ⟨ul⟩⟩
  case round =>
   clear H'
   try clear c1
   try clear p2
   try clear c3
   try clear c3b0
   try clear c3b1
   try clear c3b2
   try clear c6
   try clear hcz7_0
   try clear hcz8_0
   try clear hfz7_0
   try clear hfz8_0
   obtain ⟨x5_1, rfl, HA, HK1, BK122, BK123, HB⟩ := hrel
   cases gk with
   | zero => exact absurd HA.out (by simp [ossuarylaw0_SameMatrix.l0])
   | succ k1 =>
    have H := HA.out
    clear HA
    simp only [ossuarylaw0_SameMatrix.l0] at H
    by_cases c9 : x5_1 < (l0_0.length : Int)
    ·rw [if_pos c9] at H
     have c9b0 : decide (x5_1 < (l0_0.length : Int)) = true := decide_eq_true c9
     clear c9
     by_cases c10 : 0 ≤ x5_1
     ·rw [if_pos c10] at H
      have c10b0 : decide (0 ≤ x5_1) = true := decide_eq_true c10
      clear c10
      by_cases c11 : x5_1 < (l1_0.length : Int)
      ·rw [if_pos c11] at H
       have c11b0 : decide (x5_1 < (l1_0.length : Int)) = true := decide_eq_true c11
       clear c11
       replace H := Option.bind_eq_some_iff.mp H
       obtain ⟨t126, A120, H⟩ := H
       replace H : (if t126 = true then (ossuarylaw0_SameMatrix.l0 k1 (wrap64 (x5_1 + 1)) l0_0 l1_0) else (some false)) = some r := H
       have A12 := mk0 A120
       clear A120
       by_cases c13 : t126 = true
       ·subst c13
        have H1 : (ossuarylaw0_SameMatrix.l0 k1 (wrap64 (x5_1 + 1)) l0_0 l1_0) = some r := by rw [if_pos rfl] at H; exact H
        clear H
        have H := H1
        clear H1
        have H' := mk0 H
        clear H
        have hnb14 := NB122_123.out
        have hnc14 := NB123_122.out
        have hcz15_0 : wr.cell? ⟨gb122, 0, none⟩ = some (.slice A0_0 l0_0.length c0_0) := (blk_cell BK122.out 0).trans rfl
        have hfz15_0 := blk_frozen BK122.out 0
        have p124 : 0 ≤ (x5_1 : Int) := of_decide_eq_true uI
        have q124 : x5_1 < (l0_0.length : Int) := of_decide_eq_true uI
        obtain ⟨ad124, A124_0, c124_0, e124, hx124_0, hl124_0, hi124_0⟩ := at_L1 HR0_0.out x5_1 p124 q124
        cases e124
        replace hx124_0 := (HB.out.cell (World.block_lt_of_cell? w _ hx124_0)).trans hx124_0
        have HR124_0 := mk0 hi124_0
        have HC124_0 := mk0 hl124_0
        clear hi124_0 hl124_0
        replace p124 := eq_true p124
        replace q124 := eq_true q124
        have hcz16_0 : wr.cell? ⟨gb123, 0, none⟩ = some (.slice A1_0 l1_0.length c1_0) := (blk_cell BK123.out 0).trans rfl
        have hfz16_0 := blk_frozen BK123.out 0
        have p125 : 0 ≤ (x5_1 : Int) := of_decide_eq_true uI
        have q125 : x5_1 < (l1_0.length : Int) := of_decide_eq_true uI
        obtain ⟨ad125, A125_0, c125_0, e125, hx125_0, hl125_0, hi125_0⟩ := at_L1 HR1_0.out x5_1 p125 q125
        cases e125
        replace hx125_0 := (HB.out.cell (World.block_lt_of_cell? w _ hx125_0)).trans hx125_0
        have HR125_0 := mk0 hi125_0
        have HC125_0 := mk0 hl125_0
        clear hi125_0 hl125_0
        replace p125 := eq_true p125
        replace q125 := eq_true q125
        go_wp2_with (first | (go_at_call 71; (with_reducible refine (ossuarylaw0_SameInts.calls k1 _ _ (rd_L1 l0_0 x5_1) _ _ (rd_L1 l1_0 x5_1) true _ ?side1 ?side2 ?side3 ?side4 A12.out).mono ?_); (case side1 => exact cB (Kd.C_below HR124_0.out HB.out)); (case side2 => exact HC124_0.out); (case side3 => exact cB (Kd.C_below HR125_0.out HB.out)); (case side4 => exact HC125_0.out); rintro e w' ⟨rfl, ⟨nd, rfl⟩⟩; (try first | exact ⟨rfl, _, World.drewN_drewN _ _ _⟩ | exact ⟨rfl, _, Eq.trans (World.drewN_drewN _ _ _) (congrArg (World.drewN _) (Nat.add_assoc _ _ _))⟩)))
        repeat (go_quiet (first | (go_at_call 71; (with_reducible refine (ossuarylaw0_SameInts.calls k1 _ _ (rd_L1 l0_0 x5_1) _ _ (rd_L1 l1_0 x5_1) true _ ?side1 ?side2 ?side3 ?side4 A12.out).mono ?_); (case side1 => exact cB (Kd.C_below HR124_0.out HB.out)); (case side2 => exact HC124_0.out); (case side3 => exact cB (Kd.C_below HR125_0.out HB.out)); (case side4 => exact HC125_0.out); rintro e w' ⟨rfl, ⟨nd, rfl⟩⟩; (try first | exact ⟨rfl, _, World.drewN_drewN _ _ _⟩ | exact ⟨rfl, _, Eq.trans (World.drewN_drewN _ _ _) (congrArg (World.drewN _) (Nat.add_assoc _ _ _))⟩))); try go_wp2_with (first | (go_at_call 71; (with_reducible refine (ossuarylaw0_SameInts.calls k1 _ _ (rd_L1 l0_0 x5_1) _ _ (rd_L1 l1_0 x5_1) true _ ?side1 ?side2 ?side3 ?side4 A12.out).mono ?_); (case side1 => exact cB (Kd.C_below HR124_0.out HB.out)); (case side2 => exact HC124_0.out); (case side3 => exact cB (Kd.C_below HR125_0.out HB.out)); (case side4 => exact HC125_0.out); rintro e w' ⟨rfl, ⟨nd, rfl⟩⟩; (try first | exact ⟨rfl, _, World.drewN_drewN _ _ _⟩ | exact ⟨rfl, _, Eq.trans (World.drewN_drewN _ _ _) (congrArg (World.drewN _) (Nat.add_assoc _ _ _))⟩))))
        go_roundg k1
        case measure => have := HK1.out; omega
        case rel => exact ⟨(wrap64 (x5_1 + 1)), uJ, H', ⟨uO⟩, ⟨bB BK122.out⟩, ⟨bB BK123.out⟩, ⟨ul⟩⟩
       ·replace c13 := Bool.eq_false_iff.mpr c13
        subst c13
        have H1 : (some false) = some r := by rw [if_neg (show ¬ (false = true) by decide)] at H; exact H
        clear H
        have H := H1
        clear H1
        obtain rfl := Option.some.inj H
        have hnb17 := NB122_123.out
        have hnc17 := NB123_122.out
        have hcz18_0 : wr.cell? ⟨gb122, 0, none⟩ = some (.slice A0_0 l0_0.length c0_0) := (blk_cell BK122.out 0).trans rfl
        have hfz18_0 := blk_frozen BK122.out 0
        have p124 : 0 ≤ (x5_1 : Int) := of_decide_eq_true uI
        have q124 : x5_1 < (l0_0.length : Int) := of_decide_eq_true uI
        obtain ⟨ad124, A124_0, c124_0, e124, hx124_0, hl124_0, hi124_0⟩ := at_L1 HR0_0.out x5_1 p124 q124
        cases e124
        replace hx124_0 := (HB.out.cell (World.block_lt_of_cell? w _ hx124_0)).trans hx124_0
        have HR124_0 := mk0 hi124_0
        have HC124_0 := mk0 hl124_0
        clear hi124_0 hl124_0
        replace p124 := eq_true p124
        replace q124 := eq_true q124
        have hcz19_0 : wr.cell? ⟨gb123, 0, none⟩ = some (.slice A1_0 l1_0.length c1_0) := (blk_cell BK123.out 0).trans rfl
        have hfz19_0 := blk_frozen BK123.out 0
        have p125 : 0 ≤ (x5_1 : Int) := of_decide_eq_true uI
        have q125 : x5_1 < (l1_0.length : Int) := of_decide_eq_true uI
        obtain ⟨ad125, A125_0, c125_0, e125, hx125_0, hl125_0, hi125_0⟩ := at_L1 HR1_0.out x5_1 p125 q125
        cases e125
        replace hx125_0 := (HB.out.cell (World.block_lt_of_cell? w _ hx125_0)).trans hx125_0
        have HR125_0 := mk0 hi125_0
        have HC125_0 := mk0 hl125_0
        clear hi125_0 hl125_0
        replace p125 := eq_true p125
        replace q125 := eq_true q125
        go_wp2_with (first | (go_at_call 71; (with_reducible refine (ossuarylaw0_SameInts.calls k1 _ _ (rd_L1 l0_0 x5_1) _ _ (rd_L1 l1_0 x5_1) false _ ?side1 ?side2 ?side3 ?side4 A12.out).mono ?_); (case side1 => exact cB (Kd.C_below HR124_0.out HB.out)); (case side2 => exact HC124_0.out); (case side3 => exact cB (Kd.C_below HR125_0.out HB.out)); (case side4 => exact HC125_0.out); rintro e w' ⟨rfl, ⟨nd, rfl⟩⟩; (try first | exact ⟨rfl, _, World.drewN_drewN _ _ _⟩ | exact ⟨rfl, _, Eq.trans (World.drewN_drewN _ _ _) (congrArg (World.drewN _) (Nat.add_assoc _ _ _))⟩)))
        repeat (go_quiet (first | (go_at_call 71; (with_reducible refine (ossuarylaw0_SameInts.calls k1 _ _ (rd_L1 l0_0 x5_1) _ _ (rd_L1 l1_0 x5_1) false _ ?side1 ?side2 ?side3 ?side4 A12.out).mono ?_); (case side1 => exact cB (Kd.C_below HR124_0.out HB.out)); (case side2 => exact HC124_0.out); (case side3 => exact cB (Kd.C_below HR125_0.out HB.out)); (case side4 => exact HC125_0.out); rintro e w' ⟨rfl, ⟨nd, rfl⟩⟩; (try first | exact ⟨rfl, _, World.drewN_drewN _ _ _⟩ | exact ⟨rfl, _, Eq.trans (World.drewN_drewN _ _ _) (congrArg (World.drewN _) (Nat.add_assoc _ _ _))⟩))); try go_wp2_with (first | (go_at_call 71; (with_reducible refine (ossuarylaw0_SameInts.calls k1 _ _ (rd_L1 l0_0 x5_1) _ _ (rd_L1 l1_0 x5_1) false _ ?side1 ?side2 ?side3 ?side4 A12.out).mono ?_); (case side1 => exact cB (Kd.C_below HR124_0.out HB.out)); (case side2 => exact HC124_0.out); (case side3 => exact cB (Kd.C_below HR125_0.out HB.out)); (case side4 => exact HC125_0.out); rintro e w' ⟨rfl, ⟨nd, rfl⟩⟩; (try first | exact ⟨rfl, _, World.drewN_drewN _ _ _⟩ | exact ⟨rfl, _, Eq.trans (World.drewN_drewN _ _ _) (congrArg (World.drewN _) (Nat.add_assoc _ _ _))⟩))))
        go_ret
        exact ⟨uD, ul⟩
      ·rw [if_neg c11] at H
       exact absurd H uS
     ·rw [if_neg c10] at H
      exact absurd H uS
    ·rw [if_neg c9] at H
     have c9b0 : decide (x5_1 < (l0_0.length : Int)) = false := decide_eq_false c9
     clear c9
     obtain rfl := Option.some.inj H
     have hnb20 := NB122_123.out
     have hnc20 := NB123_122.out
     have hcz21_0 : wr.cell? ⟨gb122, 0, none⟩ = some (.slice A0_0 l0_0.length c0_0) := (blk_cell BK122.out 0).trans rfl
     have hfz21_0 := blk_frozen BK122.out 0
     go_wp2
     repeat (go_quiet (fail); try go_wp2)
     go_ret
     exact ⟨uD, ul⟩
 ·rw [if_neg c3] at H
  have c3b0 : ((l0_0.length : Int) == (l1_0.length : Int)) = false := beq_eq_false_iff_ne.mpr c3
  have c3b1 : ((l0_0.length : Int) != (l1_0.length : Int)) = true := bne_iff_ne.mpr c3
  have c3b2 : (l0_0.length == l1_0.length) = false := by first | simpa using c3 | (simp at c3 ⊢; omega)
  obtain rfl := Option.some.inj H
  go_enter Try.func34, Try.ntmps34
  go_wp2_with (first | ((with_reducible refine gate_dst (N := 2) rfl ?_); refine box_event uT (N := 2) uT (cs := #[.slice A0_0 l0_0.length c0_0]) (t := 24) uK ?_; intro gb122 hg w22 hbox hb; have BK122 := mk0 (hbox); have GW122 := mk0 (nB hg HB); have GE122 := mk0 (nB hg HB); replace HB := mk0 (below_step uy hb); clear hb hbox hg) | ((with_reducible refine gate_dst (N := 3) rfl ?_); refine box_event uT (N := 3) uT (cs := #[.slice A1_0 l1_0.length c1_0]) (t := 24) uK ?_; intro gb123 hg w23 hbox hb; have BK123 := mk0 (hbox); have GW123 := mk0 (nB hg HB); have GE123 := mk0 (nB hg HB); replace HB := mk0 (below_step ul hb); have NB122_123 := mk0 (nF hg BK122.out); have NB123_122 := mk0 (nE hg BK122.out); replace BK122 := bK BK122 hb; clear hb hbox hg; have hnb24 := NB122_123.out; have hnc24 := NB123_122.out; have hcz25_0 : w23.cell? ⟨gb122, 0, none⟩ = some (.slice A0_0 l0_0.length c0_0) := (blk_cell BK122.out 0).trans rfl; have hfz25_0 := blk_frozen BK122.out 0; have hcz26_0 : w23.cell? ⟨gb123, 0, none⟩ = some (.slice A1_0 l1_0.length c1_0) := (blk_cell BK123.out 0).trans rfl; have hfz26_0 := blk_frozen BK123.out 0))
  repeat (go_quiet (first | ((with_reducible refine gate_dst (N := 2) rfl ?_); refine box_event uT (N := 2) uT (cs := #[.slice A0_0 l0_0.length c0_0]) (t := 24) uK ?_; intro gb122 hg w22 hbox hb; have BK122 := mk0 (hbox); have GW122 := mk0 (nB hg HB); have GE122 := mk0 (nB hg HB); replace HB := mk0 (below_step uy hb); clear hb hbox hg) | ((with_reducible refine gate_dst (N := 3) rfl ?_); refine box_event uT (N := 3) uT (cs := #[.slice A1_0 l1_0.length c1_0]) (t := 24) uK ?_; intro gb123 hg w23 hbox hb; have BK123 := mk0 (hbox); have GW123 := mk0 (nB hg HB); have GE123 := mk0 (nB hg HB); replace HB := mk0 (below_step ul hb); have NB122_123 := mk0 (nF hg BK122.out); have NB123_122 := mk0 (nE hg BK122.out); replace BK122 := bK BK122 hb; clear hb hbox hg; have hnb24 := NB122_123.out; have hnc24 := NB123_122.out; have hcz25_0 : w23.cell? ⟨gb122, 0, none⟩ = some (.slice A0_0 l0_0.length c0_0) := (blk_cell BK122.out 0).trans rfl; have hfz25_0 := blk_frozen BK122.out 0; have hcz26_0 : w23.cell? ⟨gb123, 0, none⟩ = some (.slice A1_0 l1_0.length c1_0) := (blk_cell BK123.out 0).trans rfl; have hfz26_0 := blk_frozen BK123.out 0)); try go_wp2_with (first | ((with_reducible refine gate_dst (N := 2) rfl ?_); refine box_event uT (N := 2) uT (cs := #[.slice A0_0 l0_0.length c0_0]) (t := 24) uK ?_; intro gb122 hg w22 hbox hb; have BK122 := mk0 (hbox); have GW122 := mk0 (nB hg HB); have GE122 := mk0 (nB hg HB); replace HB := mk0 (below_step uy hb); clear hb hbox hg) | ((with_reducible refine gate_dst (N := 3) rfl ?_); refine box_event uT (N := 3) uT (cs := #[.slice A1_0 l1_0.length c1_0]) (t := 24) uK ?_; intro gb123 hg w23 hbox hb; have BK123 := mk0 (hbox); have GW123 := mk0 (nB hg HB); have GE123 := mk0 (nB hg HB); replace HB := mk0 (below_step ul hb); have NB122_123 := mk0 (nF hg BK122.out); have NB123_122 := mk0 (nE hg BK122.out); replace BK122 := bK BK122 hb; clear hb hbox hg; have hnb24 := NB122_123.out; have hnc24 := NB123_122.out; have hcz25_0 : w23.cell? ⟨gb122, 0, none⟩ = some (.slice A0_0 l0_0.length c0_0) := (blk_cell BK122.out 0).trans rfl; have hfz25_0 := blk_frozen BK122.out 0; have hcz26_0 : w23.cell? ⟨gb123, 0, none⟩ = some (.slice A1_0 l1_0.length c1_0) := (blk_cell BK123.out 0).trans rfl; have hfz26_0 := blk_frozen BK123.out 0)))
  go_ret
  exact ⟨uD, ul⟩
def ossuarylaw0_Num.f (a0 : Int) : Option (Int) := some a0
set_option maxHeartbeats 8000000 in
set_option maxRecDepth 100000 in
theorem ossuarylaw0_Num.calls (a0 : Int) (r : Int) (w : World) (h : ossuarylaw0_Num.f a0 = some r) :
  Calls Try.prog 35 #[.int .i64 a0] w fun e w' => e = .returned (.int .i64 r) ∧ Drawn0 w w' := by
 have H : (some a0) = some r := h
 clear h
 obtain rfl := Option.some.inj H
 go_enter Try.func35, Try.ntmps35
 go_wp2
 go_ret
 exact ⟨uJ, uH⟩
end Go.Proofs.Ytaahnicjjpddjaa.GBase
