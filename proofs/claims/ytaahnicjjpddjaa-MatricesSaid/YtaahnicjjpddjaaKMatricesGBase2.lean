/- Functions of the program as Lean functions, each with a proof that its call comes to what the function says. No condition. -/
import Derived.Test.YtaahnicjjpddjaaKMatricesGBase1
namespace Go.Proofs.Ytaahnicjjpddjaa.GBase
open Go.Proofs.Ytaahnicjjpddjaa.Fn
open Go.RowKit Go.Proofs.YtaahnicjjpddjaaW.PrintWords Go.Proofs.YtaahnicjjpddjaaW.PrintLast
set_option linter.unusedVariables false
set_option linter.unusedSimpArgs false
mutual
def matrix_Pick.j0 : Nat → List Int → Bool → List (List Int) → Option ((List (List Int)) × Int)
 | 0, _, _, _ => none
 | k + 1, x1, x17, x128000 => if x17 = true then (some (([] : List (List Int)), 300)) else (matrix_Pick.l0 k x1 (x1.length : Int) 0 x128000 ([] : List (List Int)))
def matrix_Pick.l0 : Nat → List Int → Int → Int → List (List Int) → List (List Int) → Option ((List (List Int)) × Int)
 | 0, _, _, _, _, _ => none
 | k + 1, x19, x20, x21, x128000, x132000 => if x21 < x20 then (if 0 ≤ x21 then (if x21 < (x19.length : Int) then (if (rd x19 x21) < 0 then (some (([] : List (List Int)), 300)) else (if (rd x19 x21) ≥ (x128000.length : Int) then (some (([] : List (List Int)), 300)) else (if 0 ≤ (rd x19 x21) then (if (rd x19 x21) < (x128000.length : Int) then ((cloneInts.f (rd_L1 x128000 (rd x19 x21))).bind fun t134 => (if x132000.length < 5864062014805 then (matrix_Pick.l0 k x19 x20 (wrap64 (x21 + 1)) x128000 (x132000 ++ [t134])) else (none))) else (none)) else (none)))) else (none)) else (none)) else (some (x132000, 0))
end
def matrix_Pick.f (k : Nat) (l0_0 : List (List Int)) (l1 : List Int) : Option ((List (List Int)) × Int) := (matrix_May.f k l0_0).bind fun t129 => (if t129 = true then ((matrix_size.f (l1.length : Int)).bind fun t130 => (matrix_Pick.j0 k l1 (!t130) l0_0)) else (matrix_Pick.j0 k l1 true l0_0))
theorem matrix_Pick.mono_l : ∀ k, (∀ y0 y1 y2, LeO (matrix_Pick.j0 k y0 y1 y2) (matrix_Pick.j0 (k + 1) y0 y1 y2)) ∧ (∀ y0 y1 y2 y3 y4, LeO (matrix_Pick.l0 k y0 y1 y2 y3 y4) (matrix_Pick.l0 (k + 1) y0 y1 y2 y3 y4))
 | 0 => ⟨fun _ _ _ r h => by simp [matrix_Pick.j0] at h, fun _ _ _ _ _ r h => by simp [matrix_Pick.l0] at h⟩
 | k + 1 => by
  obtain ⟨ih0, ih1⟩ := matrix_Pick.mono_l k
  refine ⟨?_, ?_⟩
  ·intro y0 y1 y2
   unfold matrix_Pick.j0
   repeat' with_reducible first | exact ih0 _ _ _ | exact ih1 _ _ _ _ _ | exact matrix_May.mono _ _ | exact LeO.refl _ | exact LeO.none _ | refine LeO.ite ?_ ?_ | refine LeO.bind ?_ (fun _ => ?_)
  ·intro y0 y1 y2 y3 y4
   unfold matrix_Pick.l0
   repeat' with_reducible first | exact ih0 _ _ _ | exact ih1 _ _ _ _ _ | exact matrix_May.mono _ _ | exact LeO.refl _ | exact LeO.none _ | refine LeO.ite ?_ ?_ | refine LeO.bind ?_ (fun _ => ?_)
theorem matrix_Pick.mono : ∀ a0 a1 k, LeO (matrix_Pick.f k a0 a1) (matrix_Pick.f (k + 1) a0 a1) := by
 intro a0 a1 k
 obtain ⟨ih0, ih1⟩ := matrix_Pick.mono_l k
 unfold matrix_Pick.f
 repeat' with_reducible first | exact ih0 _ _ _ | exact ih1 _ _ _ _ _ | exact matrix_May.mono _ _ | exact LeO.refl _ | exact LeO.none _ | refine LeO.ite ?_ ?_ | refine LeO.bind ?_ (fun _ => ?_)
def matrix_Pick.T9 : Bool × List (List Nat × List Nat) := (true, [([], []), ([0], [0]), ([], []), ([2], [2]), ([], []), ([3, 4], [3, 4]), ([5], [5]), ([6], [6]), ([7], [7]), ([1, 8, 7], [1, 8]), ([0, 1, 2, 3, 4, 5, 6, 7, 8, 9], []), ([10, 9, 9, 0, 1, 2, 3, 4, 5, 6, 7, 8, 9], [9, 10])])
def matrix_Pick.B9 : List Nat := [0, 1, 0, 4, 0, 28, 60, 124, 252, 511, 1023, 2047]
theorem matrix_Pick.tab9 : rtab .any (opsOf Try.f30 9) = matrix_Pick.T9 := by kernel_rfl
theorem matrix_Pick.bits9 : waitsOk matrix_Pick.T9.2 matrix_Pick.B9 = true := by kernel_rfl
set_option maxHeartbeats 8000000 in
set_option maxRecDepth 100000 in
theorem matrix_Pick.calls (k : Nat) (A0_0 : Option Addr) (c0_0 : Nat) (l0_0 : List (List Int)) (A1 : Option Addr) (c1 : Nat) (l1 : List Int) (r1 : List (List Int)) (r2 : Int) (w : World) (hr0_0 : Kd.C (Kd.slice 3 (Kd.int .i64)) w A0_0 l0_0.length l0_0) (hc0_0 : l0_0.length ≤ c0_0) (hr1 : Kd.C (Kd.int .i64) w A1 l1.length l1) (hc1 : l1.length ≤ c1) (h : matrix_Pick.f k l0_0 l1 = some (r1, r2)) :
  Calls Try.prog 30 #[.agg #[.slice A0_0 l0_0.length c0_0], .slice A1 l1.length c1] w fun e w' => ∃ v0_ : Value, e = .returned (.tuple #[.agg #[v0_], .int .i64 r2]) ∧ Kd.S (Kd.slice 3 (Kd.int .i64)) 25 w' w.heap.size (fun _ => True) v0_ r1 ∧ Below w.heap.size w w' := by
 have hu24 := Try.underlying24
 have HR0_0 := mk0 hr0_0
 have HC0_0 := mk0 hc0_0
 clear hr0_0 hc0_0
 have HR1 := mk0 hr1
 have HC1 := mk0 hc1
 clear hr1 hc1
 have HB := mk0 (Below.refl w.heap.size w)
 have H : ((matrix_May.f k l0_0).bind fun t129 => (if t129 = true then ((matrix_size.f (l1.length : Int)).bind fun t130 => (matrix_Pick.j0 k l1 (!t130) l0_0)) else (matrix_Pick.j0 k l1 true l0_0))) = some (r1, r2) := h
 clear h
 have HC3 := mk0 H
 clear H
 go_enter Try.func30, Try.ntmps30
 go_upto_region 1 with (first | ((with_reducible refine gate_dst (N := 2) rfl ?_); (try (refine gate_guard uT ?_; dsimp only)); refine box_event uT (N := 2) uT (cs := #[.slice A0_0 l0_0.length c0_0]) (t := 24) uK ?_; intro gb127 hg w4 hbox hb; have BK127 := mk0 (hbox); have GW127 := mk0 (nB hg HB); have GE127 := mk0 (nB hg HB); replace HB := mk0 (below_step uy hb); clear hb hbox hg) | ((with_reducible refine gate_dst (N := 4) rfl ?_); (try (refine gate_guard uT ?_; dsimp only)); refine box_event uT (N := 4) uT (cs := #[.slice none 0 0]) (t := 24) uK ?_; intro gb128 hg w5 hbox hb; have BK128 := mk0 (hbox); have GW128 := mk0 (nB hg HB); have GE128 := mk0 (nB hg HB); replace HB := mk0 (below_step ul hb); have NB127_128 := mk0 (nF hg BK127.out); have NB128_127 := mk0 (nE hg BK127.out); replace BK127 := bK BK127 hb; clear hb hbox hg))
 (try simp only [Act.put, List.setIfInBounds_toArray, List.set_cons_zero, List.set_cons_succ])
 go_cut [17] (fun v17 wc => ∃ (kq : Nat) (x17_2 : Bool), v17 = .bool x17_2 ∧ Aside0 (matrix_Pick.j0 kq l1 x17_2 l0_0 = some (r1, r2)) ∧ Aside0 (kq ≤ k) ∧ Aside0 (wc.heap[gb127]? = some (.cells #[(.slice A0_0 l0_0.length c0_0)] 24 (0, 0))) ∧ Aside0 (wc.heap[gb128]? = some (.cells #[(.slice none 0 0)] 24 (0, 0))) ∧ Aside0 (Below w.heap.size w wc))
 case first =>
  have H := HC3.out
  clear HC3
  replace H := Option.bind_eq_some_iff.mp H
  obtain ⟨t129, A60, H⟩ := H
  replace H : (if t129 = true then ((matrix_size.f (l1.length : Int)).bind fun t130 => (matrix_Pick.j0 k l1 (!t130) l0_0)) else (matrix_Pick.j0 k l1 true l0_0)) = some (r1, r2) := H
  have A6 := mk0 A60
  clear A60
  by_cases c7 : t129 = true
  ·subst c7
   have H1 : ((matrix_size.f (l1.length : Int)).bind fun t130 => (matrix_Pick.j0 k l1 (!t130) l0_0)) = some (r1, r2) := by rw [if_pos rfl] at H; exact H
   clear H
   have H := H1
   clear H1
   replace H := Option.bind_eq_some_iff.mp H
   obtain ⟨t130, A80, H⟩ := H
   replace H : (matrix_Pick.j0 k l1 (!t130) l0_0) = some (r1, r2) := H
   have A8 := mk0 A80
   clear A80
   have H' := mk0 H
   clear H
   have hnb9 := NB127_128.out
   have hnc9 := NB128_127.out
   have hcz10_0 : w5.cell? ⟨gb127, 0, none⟩ = some (.slice A0_0 l0_0.length c0_0) := (blk_cell BK127.out 0).trans rfl
   have hfz10_0 := blk_frozen BK127.out 0
   go_wp2_with (first | ((with_reducible refine gCa (f := 36) rfl ?_); refine goesL_ (some 10) rfl rfl Try.func36 uP rfl #[.agg #[.slice A0_0 l0_0.length c0_0]] rfl ui ?_; (with_reducible refine (matrix_May.calls k _ _ l0_0 true _ ?side1 ?side2 A6.out).mono ?_); (case side1 => exact cB (Kd.C_below HR0_0.out HB.out)); (case side2 => exact HC0_0.out); rintro e w11 ⟨rfl, hb⟩; refine ⟨_, rfl, ?_⟩; replace BK127 := bK BK127 hb; replace BK128 := bK BK128 hb; replace HB := mk0 (below_step ul hb); (try clear hb)) | (go_at_call 68; (with_reducible refine (matrix_size.calls (l1.length : Int) t130 _ A8.out).mono ?_); rintro e w' ⟨rfl, ⟨nd, rfl⟩⟩))
   go_meet
   case rel => exact ⟨_, (!t130), uJ, H', ⟨uL⟩, ⟨bB BK127.out⟩, ⟨bB BK128.out⟩, ⟨ul⟩⟩
  ·replace c7 := Bool.eq_false_iff.mpr c7
   subst c7
   have H1 : (matrix_Pick.j0 k l1 true l0_0) = some (r1, r2) := by rw [if_neg (show ¬ (false = true) by decide)] at H; exact H
   clear H
   have H := H1
   clear H1
   have H' := mk0 H
   clear H
   have hnb12 := NB127_128.out
   have hnc12 := NB128_127.out
   have hcz13_0 : w5.cell? ⟨gb127, 0, none⟩ = some (.slice A0_0 l0_0.length c0_0) := (blk_cell BK127.out 0).trans rfl
   have hfz13_0 := blk_frozen BK127.out 0
   go_wp2_with (first | ((with_reducible refine gCa (f := 36) rfl ?_); refine goesL_ (some 10) rfl rfl Try.func36 uP rfl #[.agg #[.slice A0_0 l0_0.length c0_0]] rfl ui ?_; (with_reducible refine (matrix_May.calls k _ _ l0_0 false _ ?side1 ?side2 A6.out).mono ?_); (case side1 => exact cB (Kd.C_below HR0_0.out HB.out)); (case side2 => exact HC0_0.out); rintro e w14 ⟨rfl, hb⟩; refine ⟨_, rfl, ?_⟩; replace BK127 := bK BK127 hb; replace BK128 := bK BK128 hb; replace HB := mk0 (below_step ul hb); (try clear hb)))
   go_meet
   case rel => exact ⟨_, (true), uJ, H', ⟨uL⟩, ⟨bB BK127.out⟩, ⟨bB BK128.out⟩, ⟨ul⟩⟩
 case rest =>
  clear HC3
  try clear c1
  try clear p2
  try clear c3
  try clear c7
  try clear c9
  try clear c12
  try clear hcz10_0
  try clear hcz13_0
  try clear hfz10_0
  try clear hfz13_0
  obtain ⟨kq, x17_2, rfl, HA, HJ2, BK127, BK128, HB⟩ := hcut
  cases kq with
  | zero => exact absurd HA.out (by simp [matrix_Pick.j0])
  | succ kj2 =>
   have H := HA.out
   clear HA
   simp only [matrix_Pick.j0] at H
   by_cases c15 : x17_2 = true
   ·subst c15
    have H1 : (some (([] : List (List Int)), 300)) = some (r1, r2) := by rw [if_pos rfl] at H; exact H
    clear H
    have H := H1
    clear H1
    simp only [Option.some.injEq, Prod.mk.injEq] at H
    obtain ⟨rfl, rfl⟩ := H
    have hnb16 := NB128_127.out
    have hnc16 := NB127_128.out
    have hcz17_0 : wc.cell? ⟨gb128, 0, none⟩ = some (.slice none 0 0) := (blk_cell BK128.out 0).trans rfl
    have hfz17_0 := blk_frozen BK128.out 0
    go_wp2
    refine bodyPost_ret (results_ct rfl _ _ gb128 24 #[.slice none 0 0] (0, 0) _ rfl uC Try.underlying24 rfl uP) rfl ?_
    exact ⟨_, uD, uh, ul⟩
   ·replace c15 := Bool.eq_false_iff.mpr c15
    subst c15
    have H1 : (matrix_Pick.l0 kj2 l1 (l1.length : Int) 0 l0_0 ([] : List (List Int))) = some (r1, r2) := by rw [if_neg (show ¬ (false = true) by decide)] at H; exact H
    clear H
    have H := H1
    clear H1
    have H' := mk0 H
    clear H
    go_wp2_with (first | ((with_reducible refine gate_dst (N := 6) rfl ?_); (try (refine gate_guard uT ?_; dsimp only)); refine box_event uT (N := 6) uT (cs := #[.slice none 0 0]) (t := 24) uK ?_; intro gb131 hg w18 hbox hb; have BK131 := mk0 (hbox); have GW131 := mk0 (nB hg HB); have GE131 := mk0 (nB hg HB); replace HB := mk0 (below_step ul hb); have NB127_131 := mk0 (nF hg BK127.out); have NB131_127 := mk0 (nE hg BK127.out); replace BK127 := bK BK127 hb; have NB128_131 := mk0 (nF hg BK128.out); have NB131_128 := mk0 (nE hg BK128.out); replace BK128 := bK BK128 hb; clear hb hbox hg))
    go_loopg [21] kj2 (fun kq v21 w' => ∃ (x21_2 : Int) (x132000_2 : List (List Int)) (u132000 : Value), v21 = .int .i64 x21_2 ∧ Aside0 (matrix_Pick.l0 kq l1 (l1.length : Int) x21_2 l0_0 x132000_2 = some (r1, r2)) ∧ Aside0 (kq ≤ kj2) ∧ Aside0 (Kd.S (Kd.slice 3 (Kd.int .i64)) 25 w' w.heap.size (fun _ => True) u132000 x132000_2) ∧ Aside0 (w'.heap[gb127]? = some (.cells #[(.slice A0_0 l0_0.length c0_0)] 24 (0, 0))) ∧ Aside0 (w'.heap[gb128]? = some (.cells #[(.slice none 0 0)] 24 (0, 0))) ∧ Aside0 (w'.heap[gb131]? = some (.cells #[u132000] 24 (0, 0))) ∧ Aside0 (Below w.heap.size w w'))
    case atStart => exact ⟨(0), (([] : List (List Int))), (.slice none 0 0), uJ, H', ⟨Nat.le_refl _⟩, ⟨uh⟩, ⟨bB BK127.out⟩, ⟨bB BK128.out⟩, ⟨bB BK131.out⟩, ⟨ul⟩⟩
    case round =>
     clear H'
     try clear c1
     try clear p2
     try clear c3
     try clear c7
     try clear c9
     try clear c12
     try clear c15
     try clear c16
     try clear hcz10_0
     try clear hcz13_0
     try clear hcz17_0
     try clear hfz10_0
     try clear hfz13_0
     try clear hfz17_0
     try clear p2
     obtain ⟨x21_2, x132000_2, u132000, rfl, HA, HK2, HO_132000, BK127, BK128, BK131, HB⟩ := hrel
     cases gk with
     | zero => exact absurd HA.out (by simp [matrix_Pick.l0])
     | succ k2 =>
      have H := HA.out
      clear HA
      simp only [matrix_Pick.l0] at H
      by_cases c19 : x21_2 < (l1.length : Int)
      ·rw [if_pos c19] at H
       have c19b0 : decide (x21_2 < (l1.length : Int)) = true := decide_eq_true c19
       clear c19
       by_cases c20 : 0 ≤ x21_2
       ·rw [if_pos c20] at H
        have c20b0 : decide (0 ≤ x21_2) = true := decide_eq_true c20
        clear c20
        by_cases c21 : x21_2 < (l1.length : Int)
        ·rw [if_pos c21] at H
         have c21b0 : decide (x21_2 < (l1.length : Int)) = true := decide_eq_true c21
         clear c21
         by_cases c22 : (rd l1 x21_2) < 0
         ·rw [if_pos c22] at H
          have c22b0 : decide ((rd l1 x21_2) < 0) = true := decide_eq_true c22
          clear c22
          simp only [Option.some.injEq, Prod.mk.injEq] at H
          obtain ⟨rfl, rfl⟩ := H
          have p132 : 0 ≤ (x21_2 : Int) := of_decide_eq_true uI
          have q132 : x21_2 < (l1.length : Int) := of_decide_eq_true uI
          obtain ⟨ad132, e132, hx132_0⟩ := Kd.at_int HR1.out x21_2 p132 q132
          cases e132
          replace hx132_0 := (HB.out.cell (World.block_lt_of_cell? w _ hx132_0)).trans hx132_0
          replace p132 := eq_true p132
          replace q132 := eq_true q132
          have hnb23 := NB128_127.out
          have hnc23 := NB127_128.out
          have hnb24 := NB128_131.out
          have hnc24 := NB131_128.out
          have hcz25_0 : wr.cell? ⟨gb128, 0, none⟩ = some (.slice none 0 0) := (blk_cell BK128.out 0).trans rfl
          have hfz25_0 := blk_frozen BK128.out 0
          go_wp2
          refine bodyPost_ret (results_ct rfl _ _ gb128 24 #[.slice none 0 0] (0, 0) _ rfl uC Try.underlying24 rfl uP) rfl ?_
          exact ⟨_, uD, uh, ul⟩
         ·rw [if_neg c22] at H
          have c22b0 : decide ((rd l1 x21_2) < 0) = false := decide_eq_false c22
          clear c22
          by_cases c26 : (rd l1 x21_2) ≥ (l0_0.length : Int)
          ·rw [if_pos c26] at H
           have c26b0 : decide ((l0_0.length : Int) ≤ (rd l1 x21_2)) = true := decide_eq_true c26
           clear c26
           simp only [Option.some.injEq, Prod.mk.injEq] at H
           obtain ⟨rfl, rfl⟩ := H
           have p132 : 0 ≤ (x21_2 : Int) := of_decide_eq_true uI
           have q132 : x21_2 < (l1.length : Int) := of_decide_eq_true uI
           obtain ⟨ad132, e132, hx132_0⟩ := Kd.at_int HR1.out x21_2 p132 q132
           cases e132
           replace hx132_0 := (HB.out.cell (World.block_lt_of_cell? w _ hx132_0)).trans hx132_0
           replace p132 := eq_true p132
           replace q132 := eq_true q132
           have hnb27 := NB127_128.out
           have hnc27 := NB128_127.out
           have hnb28 := NB127_131.out
           have hnc28 := NB131_127.out
           have hcz29_0 : wr.cell? ⟨gb127, 0, none⟩ = some (.slice A0_0 l0_0.length c0_0) := (blk_cell BK127.out 0).trans rfl
           have hfz29_0 := blk_frozen BK127.out 0
           have hnb30 := NB128_131.out
           have hnc30 := NB131_128.out
           have hcz31_0 : wr.cell? ⟨gb128, 0, none⟩ = some (.slice none 0 0) := (blk_cell BK128.out 0).trans rfl
           have hfz31_0 := blk_frozen BK128.out 0
           go_wp2
           refine bodyPost_ret (results_ct rfl _ _ gb128 24 #[.slice none 0 0] (0, 0) _ rfl uC Try.underlying24 rfl uP) rfl ?_
           exact ⟨_, uD, uh, ul⟩
          ·rw [if_neg c26] at H
           have c26b0 : decide ((l0_0.length : Int) ≤ (rd l1 x21_2)) = false := decide_eq_false c26
           clear c26
           by_cases c32 : 0 ≤ (rd l1 x21_2)
           ·rw [if_pos c32] at H
            have c32b0 : decide (0 ≤ (rd l1 x21_2)) = true := decide_eq_true c32
            clear c32
            by_cases c33 : (rd l1 x21_2) < (l0_0.length : Int)
            ·rw [if_pos c33] at H
             have c33b0 : decide ((rd l1 x21_2) < (l0_0.length : Int)) = true := decide_eq_true c33
             clear c33
             replace H := Option.bind_eq_some_iff.mp H
             obtain ⟨t134, A340, H⟩ := H
             replace H : (if x132000_2.length < 5864062014805 then (matrix_Pick.l0 k2 l1 (l1.length : Int) (wrap64 (x21_2 + 1)) l0_0 (x132000_2 ++ [t134])) else (none)) = some (r1, r2) := H
             have A34 := mk0 A340
             clear A340
             by_cases c35 : x132000_2.length < 5864062014805
             ·rw [if_pos c35] at H
              have LMc35 := mk0 c35
              clear c35
              obtain ⟨y137, hy137⟩ : ∃ y_ : List (List Int), y_ = (x132000_2 ++ [t134]) := ⟨_, rfl⟩
              replace H : (matrix_Pick.l0 k2 l1 (l1.length : Int) (wrap64 (x21_2 + 1)) l0_0 y137) = some (r1, r2) := by first | (rw [hy137]; with_reducible exact H) | (have H2_ := (Option.bind_some _ _).symm.trans H; rw [hy137]; with_reducible exact H2_) | (have H2_ := (Option.bind_some _ _).symm.trans H; with_reducible exact H2_) | with_reducible exact H | (rw [hy137]; exact H) | exact H
              have Ny137 := mk0 hy137
              clear hy137
              have H' := mk0 H
              clear H
              have p132 : 0 ≤ (x21_2 : Int) := of_decide_eq_true uI
              have q132 : x21_2 < (l1.length : Int) := of_decide_eq_true uI
              obtain ⟨ad132, e132, hx132_0⟩ := Kd.at_int HR1.out x21_2 p132 q132
              cases e132
              replace hx132_0 := (HB.out.cell (World.block_lt_of_cell? w _ hx132_0)).trans hx132_0
              replace p132 := eq_true p132
              replace q132 := eq_true q132
              have hnb36 := NB127_128.out
              have hnc36 := NB128_127.out
              have hnb37 := NB127_131.out
              have hnc37 := NB131_127.out
              have hcz38_0 : wr.cell? ⟨gb127, 0, none⟩ = some (.slice A0_0 l0_0.length c0_0) := (blk_cell BK127.out 0).trans rfl
              have hfz38_0 := blk_frozen BK127.out 0
              try go_wp2
              replace HO_132000 := mk0 (Kd.S_drew HO_132000.out)
              replace BK127 := mk0 (blk_drew BK127.out)
              replace BK128 := mk0 (blk_drew BK128.out)
              replace BK131 := mk0 (blk_drew BK131.out)
              replace HB := mk0 (below_drew1 HB.out)
              have p133 : 0 ≤ ((rd l1 x21_2) : Int) := of_decide_eq_true uI
              have q133 : (rd l1 x21_2) < (l0_0.length : Int) := of_decide_eq_true uI
              obtain ⟨ad133, A133_0, c133_0, e133, hx133_0, hl133_0, hi133_0⟩ := at_L1 HR0_0.out (rd l1 x21_2) p133 q133
              have hw133_0 := hx133_0
              cases e133
              replace hx133_0 := (HB.out.cell (World.block_lt_of_cell? w _ hx133_0)).trans hx133_0
              have HR133_0 := mk0 hi133_0
              have HC133_0 := mk0 hl133_0
              clear hi133_0 hl133_0
              replace p133 := eq_true p133
              replace q133 := eq_true q133
              refine start_ (n := 12) (S := fun w' => w'.cell? ⟨gb131, 0, none⟩ = some (u132000) ∧ w'.cell? ⟨gb127, 0, none⟩ = some (.slice (some ad133) l0_0.length c0_0) ∧ w'.cell? (ad133.add ((rd l1 x21_2)).toNat) = some (.slice A133_0 (rd_L1 l0_0 (rd l1 x21_2)).length c133_0)) (ds := [11]) (bz 12 0) uP rfl rfl ⟨(blk_cell BK131.out 0).trans rfl, (blk_cell BK127.out 0).trans rfl, ((HB.out.cell (World.block_lt_of_cell? w _ hw133_0)).trans hw133_0)⟩ (fun hHeld => ?_); refine with_tabW matrix_Pick.tab9 matrix_Pick.bits9 (fun HT_ HW_ => ?_)
              generalize wr.drew = w39 at HO_132000 BK127 BK128 BK131 HB HR133_0 hx133_0 hHeld ⊢
              refine pU 0 35 (bz 12 1) HT_.out ?_
              refine pU 2 37 (bz 12 5) HT_.out ?_
              refine pU 4 39 (bz 12 21) HT_.out ?_
              refine pT3 1 36 (bz 12 23) HT_.out HW_.out hHeld ?_
              refine pT3 3 38 (bz 12 31) HT_.out HW_.out hHeld ?_
              refine pU 5 40 (bz 12 63) HT_.out ?_
              refine pT3 6 41 (bz 12 127) HT_.out HW_.out hHeld ?_
              refine one_ (i := 7) (N := some 42) (bz 12 255) rfl rfl (pO HT_.out) uQ (fun K hK => ?_)
              refine goes_ Try.func69 uP rfl #[.slice A133_0 (rd_L1 l0_0 (rd l1 x21_2)).length c133_0] uT rfl rfl ui ?_
              with_reducible refine (cloneInts.calls _ _ (rd_L1 l0_0 (rd l1 x21_2)) t134 _ ?side1 ?side2 A34.out).mono ?_
              (case side1 => exact cB (Kd.C_below HR133_0.out HB.out))
              (case side2 => exact HC133_0.out)
              rintro e w40 ⟨v135, rfl, ho0, hb⟩
              refine ⟨_, rfl, ?_⟩
              replace HO_132000 := mk0 (Kd.S_elder' (sB HO_132000.out) (Kd.R_base ho0) hb)
              have HO136 := mk0 (Kd.R_lower ho0 (below_size ul))
              replace BK127 := bK BK127 hb
              replace BK128 := bK BK128 hb
              replace BK131 := bK BK131 hb
              replace HB := mk0 (below_step ul hb)
              (try clear hb)
              (try clear hb2)
              (try clear hk)
              (try clear hi)
              (try clear ho0)
              obtain ⟨Ao42, co42, eo42⟩ := Kd.R_slice HO136.out
              (first | subst eo42 | (injection eo42 with f1_ f2_ f3_; have f4_ := f1_.symm; have f5_ := f3_.symm; clear f1_ f2_ f3_; subst f4_; subst f5_))
              refine hK.out _ _ ⟨(blk_cell BK131.out 0).trans rfl, (blk_cell BK127.out 0).trans rfl, ((HB.out.cell (World.block_lt_of_cell? w _ hw133_0)).trans hw133_0)⟩ (fun hHeld => ?_)
              clear hK K
              refine pM (some 42) ?_
              refine one_ (i := 8) (N := some 43) (bz 12 511) rfl rfl (pO HT_.out) uQ (fun K hK => ?_)
              refine value_ (w1 := ?_) (v := ?_) uT rfl ?_ ?_
              rotate_left 2
              ·go_simp
               constructor
               ·rfl
               ·rfl
              refine hK.out _ _ ⟨(blk_cell (blk_alloc BK131.out _) 0).trans rfl, (blk_cell (blk_alloc BK127.out _) 0).trans rfl, (World.cell?_alloc_lt _ _ _ (World.block_lt_of_cell? _ _ (((HB.out.cell (World.block_lt_of_cell? w _ hw133_0)).trans hw133_0)))).trans (((HB.out.cell (World.block_lt_of_cell? w _ hw133_0)).trans hw133_0))⟩ (fun hHeld => ?_)
              clear hK K
              refine pM (some 43) ?_
              refine one_ (i := 9) (N := some 44) (bz 12 1023) rfl rfl (pO HT_.out) uQ (fun K hK => ?_)
              refine Kd.S_append_step (Kd.slice 3 (Kd.int .i64)) (w0 := w) w.heap.size uT (.tmp 36) (.tmp 43) 22 25 (.slice none 0 0) 24 rfl Try.underlying22 info25 rfl uQ uR u132000 x132000_2 t134 [.slice Ao42 t134.length co42] (fun _ => True) (fun k_ => some k_ = (.slice Ao42 t134.length co42 : Value).ownBlock) rfl rfl ?aP (fun k_ hk_ => ((Kd.R_mono (ok' := fun k_ => ((fun _ => True)) k_ ∧ some k_ ≠ (u132000 : Value).ownBlock) (Kd.R_apart' (HO136.out) (Kd.S_typed HO_132000.out) uQ) (fun k_ hk => ⟨trivial, hk.2⟩))).1 k_ hk_.symm) ?aF ?aO ?aB ?aS ?aL ?_
              (case aP => exact Kd.M_row (Kd.R_mono (Kd.R_tight rfl (Kd.R_mono (ok' := fun k_ => ((fun _ => True)) k_ ∧ some k_ ≠ (u132000 : Value).ownBlock) (Kd.R_apart' (HO136.out) (Kd.S_typed HO_132000.out) uQ) (fun k_ hk => ⟨trivial, hk.2⟩))) (fun _ h_ => h_)))
              (case aB => exact ul)
              (case aF => exact (fun _ _ => trivial))
              (case aO => exact (by (with_reducible repeat (first | apply sA | apply sN | apply sD)); exact Kd.S_mono HO_132000.out (fun k_ hk => ⟨trivial, fun e_ => hk.2 e_⟩)))
              (case aS => exact (below_size ul))
              (case aL => have := LMc35.out; omega)
              intro v138 w41 ho hb hg hat
              rw [← Ny137.out] at ho
              replace BK127 := mk0 (blk_grown (g := gb127) (o := .cells #[.slice (some ad133) l0_0.length c0_0] 24 (0, 0)) (bB BK127.out) hg (Kd.S_ne HO_132000.out BK127.out uQ))
              replace BK128 := mk0 (blk_grown (g := gb128) (o := .cells #[.slice none 0 0] 24 (0, 0)) (bB BK128.out) hg (Kd.S_ne HO_132000.out BK128.out uQ))
              replace BK131 := mk0 (blk_grown (g := gb131) (o := .cells #[u132000] 24 (0, 0)) (bB BK131.out) hg (Kd.S_ne HO_132000.out BK131.out uQ))
              replace HB := mk0 (hb)
              have HO139 := mk0 (ho)
              clear HO_132000 HO136 ho hb hg hat
              obtain ⟨Ao43, co43, eo43⟩ := Kd.S_slice HO139.out
              (first | subst eo43 | (injection eo43 with f1_ f2_ f3_; have f4_ := f1_.symm; have f5_ := f3_.symm; clear f1_ f2_ f3_; subst f4_; subst f5_))
              refine hK.out _ _ ⟨(blk_cell BK131.out 0).trans rfl, (blk_cell BK127.out 0).trans rfl, ((HB.out.cell (World.block_lt_of_cell? w _ hw133_0)).trans hw133_0)⟩ (fun hHeld => ?_)
              clear hK K
              refine pM (some 44) ?_
              refine pU 10 45 (bz 12 2047) HT_.out ?_
              refine last_ (i := 11) (N := none) (bz 12 4095) rfl rfl (pO HT_.out) uQ (fun K hK => ?_)
              have hs44 : w41.cell? ⟨gb131, 0, none⟩ = some (u132000) := (blk_cell BK131.out 0).trans rfl
              have hfs44 := blk_frozen BK131.out 0
              have hns44_0 := NB127_131.out
              have hns44_1 := NB128_131.out
              have hms44_0 := NB131_127.out
              have hms44_1 := NB131_128.out
              refine skip_ (w1 := ?_) uT rfl ?_ ?_
              rotate_left
              ·go_simp
               rfl
              refine hK.out _ _ ?_
              clear hK K
              refine done_ (done_of HT_.out uP) ?_
              try go_wp2
              go_roundg k2
              case measure => have := HJ2.out; have := HK2.out; omega
              case rel => exact ⟨(wrap64 (x21_2 + 1)), (y137), (.slice Ao43 y137.length co43), uJ, H', ⟨by have := HJ2.out; have := HK2.out; omega⟩, ⟨by (with_reducible repeat (first | apply sA | apply sN | apply sD)); exact Kd.S_mono (Kd.S_far (p := ⟨gb131, 0, none⟩) (Kd.S_types HO139.out BK131.out uQ) (fun _ hk => hk.2) (.slice Ao43 y137.length co43)) (fun _ hk => trivial)⟩, ⟨by refine bB ?_; refine blk_far ?_ NB127_131.out _; refine bB ?_; exact BK127.out⟩, ⟨by refine bB ?_; refine blk_far ?_ NB128_131.out _; refine bB ?_; exact BK128.out⟩, ⟨by refine bB ?_; refine blk_put (cs := #[u132000]) ?_ 0 _ rfl; refine bB ?_; exact BK131.out⟩, ⟨ul⟩⟩
             ·rw [if_neg c35] at H
              exact absurd H uS
            ·rw [if_neg c33] at H
             exact absurd H uS
           ·rw [if_neg c32] at H
            exact absurd H uS
        ·rw [if_neg c21] at H
         exact absurd H uS
       ·rw [if_neg c20] at H
        exact absurd H uS
      ·rw [if_neg c19] at H
       have c19b0 : decide (x21_2 < (l1.length : Int)) = false := decide_eq_false c19
       clear c19
       simp only [Option.some.injEq, Prod.mk.injEq] at H
       obtain ⟨rfl, rfl⟩ := H
       have hnb45 := NB131_127.out
       have hnc45 := NB127_131.out
       have hnb46 := NB131_128.out
       have hnc46 := NB128_131.out
       have hcz47_0 : wr.cell? ⟨gb131, 0, none⟩ = some (u132000) := (blk_cell BK131.out 0).trans rfl
       have hfz47_0 := blk_frozen BK131.out 0
       obtain ⟨Ao48, co48, eo48⟩ := Kd.S_slice HO_132000.out
       subst eo48
       have hnb49 := NB128_127.out
       have hnc49 := NB127_128.out
       have hcz50_0 : wr.cell? ⟨gb128, 0, none⟩ = some (.slice none 0 0) := (blk_cell BK128.out 0).trans rfl
       have hfz50_0 := blk_frozen BK128.out 0
       go_wp2
       refine bodyPost_ret (results_ct rfl _ _ gb128 24 #[.slice Ao48 x132000_2.length co48] (0, 0) _ rfl uC Try.underlying24 rfl uP) rfl ?_
       exact ⟨_, uD, by (with_reducible repeat (first | apply sA | apply sN | apply sD)); exact Kd.S_mono (Kd.S_far (p := ⟨gb128, 0, none⟩) (Kd.S_types HO_132000.out BK128.out uQ) (fun _ hk => hk.2) (.slice Ao48 x132000_2.length co48)) (fun _ hk => trivial), ul⟩
end Go.Proofs.Ytaahnicjjpddjaa.GBase
