/- Functions of the program as Lean functions, each with a proof that its call comes to what the function says. No condition. -/
import Derived.Test.YtaahnicjjpddjaaKMatricesGMulF0
namespace Go.Proofs.Ytaahnicjjpddjaa.GMulF
open Go.Proofs.Ytaahnicjjpddjaa.Fn
open Go.Proofs.Ytaahnicjjpddjaa
open Go.RowKit Go.Proofs.YtaahnicjjpddjaaW.PrintWords Go.Proofs.YtaahnicjjpddjaaW.PrintLast
set_option linter.unusedVariables false
set_option linter.unusedSimpArgs false
def matrix_Mul.f (k : Nat) (l0_0 : List (List Int)) (l1_0 : List (List Int)) : Option ((List (List Int)) × Int) := (GBase.matrix_May.f k l0_0).bind fun t104 => (if t104 = true then ((GBase.matrix_May.f k l1_0).bind fun t105 => (if t105 = true then (if 0 < (l0_0.length : Int) then (if ((rd_L1 l0_0 0).length : Int) = (l1_0.length : Int) then (if 0 < (l1_0.length : Int) then ((mulMade.f k (l0_0.length : Int) ((rd_L1 l1_0 0).length : Int) l0_0 l1_0).bind fun t108 => (some (t108, 0))) else (none)) else (some (([] : List (List Int)), 300))) else (none)) else (some (([] : List (List Int)), 300)))) else (some (([] : List (List Int)), 300)))
theorem matrix_Mul.mono : ∀ a0 a1 k, LeO (matrix_Mul.f k a0 a1) (matrix_Mul.f (k + 1) a0 a1) := by
 intro a0 a1 k
 unfold matrix_Mul.f
 repeat' with_reducible first | exact GBase.matrix_May.mono _ _ | exact mulMade.mono _ _ _ _ _ | exact LeO.refl _ | exact LeO.none _ | refine LeO.ite ?_ ?_ | refine LeO.bind ?_ (fun _ => ?_)
def matrix_Mul.T1 : Bool × List (List Nat × List Nat) := (true, [([], []), ([0], [0]), ([1], [1]), ([2, 1], [2]), ([3], [3]), ([4, 3, 3], [3, 4]), ([5, 3], [3, 5]), ([3, 6], [3, 6]), ([7, 5], [7]), ([8], [8]), ([9, 8], [8, 9]), ([10, 8], [8, 10]), ([11, 8], [8, 11]), ([12, 8], [8, 12]), ([8], [8]), ([14, 8], [8, 14]), ([15, 8], [8, 15]), ([13, 16, 8], [8, 13, 16]), ([8, 17], [8, 17])])
def matrix_Mul.B1 : List Nat := [0, 1, 3, 7, 15, 31, 63, 127, 255, 511, 1023, 2047, 4095, 8191, 511, 16895, 49663, 131071, 262143]
theorem matrix_Mul.tab1 : rtab .any (opsOf Try.f28 1) = matrix_Mul.T1 := by kernel_rfl
theorem matrix_Mul.bits1 : waitsOk matrix_Mul.T1.2 matrix_Mul.B1 = true := by kernel_rfl
def matrix_Mul.T3 : Bool × List (List Nat × List Nat) := (true, [([], []), ([0], [0]), ([1], [1]), ([], []), ([3], [3]), ([4], [4]), ([5], [5]), ([6], [6]), ([], []), ([2, 7, 8], [2, 7, 8]), ([9, 9, 0, 1, 2, 3, 4, 5, 6, 7, 8, 9], [9]), ([10, 0, 1, 2, 3, 4, 5, 6, 7, 8, 9, 10], [])])
def matrix_Mul.B3 : List Nat := [0, 1, 3, 0, 8, 24, 56, 120, 0, 511, 1023, 2047]
theorem matrix_Mul.tab3 : rtab .any (opsOf Try.f28 3) = matrix_Mul.T3 := by kernel_rfl
theorem matrix_Mul.bits3 : waitsOk matrix_Mul.T3.2 matrix_Mul.B3 = true := by kernel_rfl
set_option maxHeartbeats 8000000 in
set_option maxRecDepth 100000 in
theorem matrix_Mul.calls (k : Nat) (A0_0 : Option Addr) (c0_0 : Nat) (l0_0 : List (List Int)) (A1_0 : Option Addr) (c1_0 : Nat) (l1_0 : List (List Int)) (r1 : List (List Int)) (r2 : Int) (w : World) (hr0_0 : Kd.C (Kd.slice 3 (Kd.int .i64)) w A0_0 l0_0.length l0_0) (hc0_0 : l0_0.length ≤ c0_0) (hr1_0 : Kd.C (Kd.slice 3 (Kd.int .i64)) w A1_0 l1_0.length l1_0) (hc1_0 : l1_0.length ≤ c1_0) (h : matrix_Mul.f k l0_0 l1_0 = some (r1, r2)) :
  Calls Try.prog 28 #[.agg #[.slice A0_0 l0_0.length c0_0], .agg #[.slice A1_0 l1_0.length c1_0]] w fun e w' => ∃ v0_ : Value, e = .returned (.tuple #[.agg #[v0_], .int .i64 r2]) ∧ Kd.S (Kd.slice 3 (Kd.int .i64)) 25 w' w.heap.size (fun _ => True) v0_ r1 ∧ Below w.heap.size w w' := by
 have hmf : ∀ (fn : Fn) (first cap : Array Value) (w : World), (Instr.makeFunc fn first cap).run Try.prog w = .ok (.func fn first cap) w := fun _ _ _ _ => rfl
 have hu24 := Try.underlying24
 have HR0_0 := mk0 hr0_0
 have HC0_0 := mk0 hc0_0
 clear hr0_0 hc0_0
 have HR1_0 := mk0 hr1_0
 have HC1_0 := mk0 hc1_0
 clear hr1_0 hc1_0
 have HB := mk0 (Below.refl w.heap.size w)
 have H : ((GBase.matrix_May.f k l0_0).bind fun t104 => (if t104 = true then ((GBase.matrix_May.f k l1_0).bind fun t105 => (if t105 = true then (if 0 < (l0_0.length : Int) then (if ((rd_L1 l0_0 0).length : Int) = (l1_0.length : Int) then (if 0 < (l1_0.length : Int) then ((mulMade.f k (l0_0.length : Int) ((rd_L1 l1_0 0).length : Int) l0_0 l1_0).bind fun t108 => (some (t108, 0))) else (none)) else (some (([] : List (List Int)), 300))) else (none)) else (some (([] : List (List Int)), 300)))) else (some (([] : List (List Int)), 300)))) = some (r1, r2) := h
 clear h
 replace H := Option.bind_eq_some_iff.mp H
 obtain ⟨t104, A30, H⟩ := H
 replace H : (if t104 = true then ((GBase.matrix_May.f k l1_0).bind fun t105 => (if t105 = true then (if 0 < (l0_0.length : Int) then (if ((rd_L1 l0_0 0).length : Int) = (l1_0.length : Int) then (if 0 < (l1_0.length : Int) then ((mulMade.f k (l0_0.length : Int) ((rd_L1 l1_0 0).length : Int) l0_0 l1_0).bind fun t108 => (some (t108, 0))) else (none)) else (some (([] : List (List Int)), 300))) else (none)) else (some (([] : List (List Int)), 300)))) else (some (([] : List (List Int)), 300))) = some (r1, r2) := H
 have A3 := mk0 A30
 clear A30
 by_cases c4 : t104 = true
 ·subst c4
  have H1 : ((GBase.matrix_May.f k l1_0).bind fun t105 => (if t105 = true then (if 0 < (l0_0.length : Int) then (if ((rd_L1 l0_0 0).length : Int) = (l1_0.length : Int) then (if 0 < (l1_0.length : Int) then ((mulMade.f k (l0_0.length : Int) ((rd_L1 l1_0 0).length : Int) l0_0 l1_0).bind fun t108 => (some (t108, 0))) else (none)) else (some (([] : List (List Int)), 300))) else (none)) else (some (([] : List (List Int)), 300)))) = some (r1, r2) := by rw [if_pos rfl] at H; exact H
  clear H
  have H := H1
  clear H1
  replace H := Option.bind_eq_some_iff.mp H
  obtain ⟨t105, A50, H⟩ := H
  replace H : (if t105 = true then (if 0 < (l0_0.length : Int) then (if ((rd_L1 l0_0 0).length : Int) = (l1_0.length : Int) then (if 0 < (l1_0.length : Int) then ((mulMade.f k (l0_0.length : Int) ((rd_L1 l1_0 0).length : Int) l0_0 l1_0).bind fun t108 => (some (t108, 0))) else (none)) else (some (([] : List (List Int)), 300))) else (none)) else (some (([] : List (List Int)), 300))) = some (r1, r2) := H
  have A5 := mk0 A50
  clear A50
  by_cases c6 : t105 = true
  ·subst c6
   have H1 : (if 0 < (l0_0.length : Int) then (if ((rd_L1 l0_0 0).length : Int) = (l1_0.length : Int) then (if 0 < (l1_0.length : Int) then ((mulMade.f k (l0_0.length : Int) ((rd_L1 l1_0 0).length : Int) l0_0 l1_0).bind fun t108 => (some (t108, 0))) else (none)) else (some (([] : List (List Int)), 300))) else (none)) = some (r1, r2) := by rw [if_pos rfl] at H; exact H
   clear H
   have H := H1
   clear H1
   by_cases c7 : 0 < (l0_0.length : Int)
   ·rw [if_pos c7] at H
    have c7b0 : decide (0 < (l0_0.length : Int)) = true := decide_eq_true c7
    have c7b1 : decide (0 < l0_0.length) = true := decide_eq_true uR
    clear c7
    by_cases c8 : ((rd_L1 l0_0 0).length : Int) = (l1_0.length : Int)
    ·rw [if_pos c8] at H
     have c8b0 : (((rd_L1 l0_0 0).length : Int) == (l1_0.length : Int)) = true := beq_iff_eq.mpr c8
     have c8b1 : (((rd_L1 l0_0 0).length : Int) != (l1_0.length : Int)) = false := bne_eq_false_iff_eq.mpr c8
     have c8b2 : ((rd_L1 l0_0 0).length == l1_0.length) = true := by first | simpa using c8 | (simp at c8 ⊢; omega)
     clear c8
     by_cases c9 : 0 < (l1_0.length : Int)
     ·rw [if_pos c9] at H
      have c9b0 : decide (0 < (l1_0.length : Int)) = true := decide_eq_true c9
      have c9b1 : decide (0 < l1_0.length) = true := decide_eq_true uR
      clear c9
      replace H := Option.bind_eq_some_iff.mp H
      obtain ⟨t108, A100, H⟩ := H
      replace H : (some (t108, 0)) = some (r1, r2) := H
      have A10 := mk0 A100
      clear A100
      simp only [Option.some.injEq, Prod.mk.injEq] at H
      obtain ⟨rfl, rfl⟩ := H
      go_enter Try.func28, Try.ntmps28
      try go_wp2_with (first | ((with_reducible refine gate_dst (N := 2) rfl ?_); (try (refine gate_guard uT ?_; dsimp only)); refine box_event uT (N := 2) uT (cs := #[.slice A0_0 l0_0.length c0_0]) (t := 24) uK ?_; intro gb101 hg w11 hbox hb; have BK101 := mk0 (hbox); have GW101 := mk0 (nB hg HB); have GE101 := mk0 (nB hg HB); replace HB := mk0 (below_step uy hb); clear hb hbox hg) | ((with_reducible refine gate_dst (N := 3) rfl ?_); (try (refine gate_guard uT ?_; dsimp only)); refine box_event uT (N := 3) uT (cs := #[.slice A1_0 l1_0.length c1_0]) (t := 24) uK ?_; intro gb102 hg w12 hbox hb; have BK102 := mk0 (hbox); have GW102 := mk0 (nB hg HB); have GE102 := mk0 (nB hg HB); replace HB := mk0 (below_step ul hb); have NB101_102 := mk0 (nF hg BK101.out); have NB102_101 := mk0 (nE hg BK101.out); replace BK101 := bK BK101 hb; clear hb hbox hg) | ((with_reducible refine gate_dst (N := 4) rfl ?_); (try (refine gate_guard uT ?_; dsimp only)); refine box_event uT (N := 4) uT (cs := #[.slice none 0 0]) (t := 24) uK ?_; intro gb103 hg w13 hbox hb; have BK103 := mk0 (hbox); have GW103 := mk0 (nB hg HB); have GE103 := mk0 (nB hg HB); replace HB := mk0 (below_step ul hb); have NB101_103 := mk0 (nF hg BK101.out); have NB103_101 := mk0 (nE hg BK101.out); replace BK101 := bK BK101 hb; have NB102_103 := mk0 (nF hg BK102.out); have NB103_102 := mk0 (nE hg BK102.out); replace BK102 := bK BK102 hb; clear hb hbox hg))
      replace BK101 := mk0 (blk_drew BK101.out)
      replace BK102 := mk0 (blk_drew BK102.out)
      replace BK103 := mk0 (blk_drew BK103.out)
      replace HB := mk0 (below_drew1 HB.out)
      have p106 : 0 ≤ (0 : Int) := uR
      have q106 : 0 < (l0_0.length : Int) := of_decide_eq_true uI
      obtain ⟨ad106, A106_0, c106_0, e106, hx106_0, hl106_0, hi106_0⟩ := at_L1 HR0_0.out 0 p106 q106
      have hw106_0 := hx106_0
      (try rw [show ((0 : Int)).toNat = 0 from rfl] at hw106_0)
      (try rw [show 0 * 1 = 0 from rfl] at hw106_0)
      (try rw [Addr.add_zero'] at hw106_0)
      cases e106
      have qi106 : (0 < l0_0.length) = True := eq_true uR
      (try rw [show ((0 : Int)).toNat = 0 from rfl] at hx106_0)
      (try rw [Addr.add_zero'] at hx106_0)
      replace hx106_0 := (HB.out.cell (World.block_lt_of_cell? w _ hx106_0)).trans hx106_0
      have HR106_0 := mk0 hi106_0
      have HC106_0 := mk0 hl106_0
      clear hi106_0 hl106_0
      replace p106 := eq_true p106
      replace q106 := eq_true q106
      refine start_ (n := 19) (S := fun w' => w'.cell? ⟨gb101, 0, none⟩ = some (.slice (some ad106) l0_0.length c0_0) ∧ w'.cell? ⟨gb102, 0, none⟩ = some (.slice A1_0 l1_0.length c1_0) ∧ w'.cell? ad106 = some (.slice A106_0 (rd_L1 l0_0 0).length c106_0)) (ds := []) (bz 19 0) uP rfl rfl ⟨(blk_cell BK101.out 0).trans rfl, (blk_cell BK102.out 0).trans rfl, ((HB.out.cell (World.block_lt_of_cell? w _ hw106_0)).trans hw106_0)⟩ (fun hHeld => ?_); refine with_tabW matrix_Mul.tab1 matrix_Mul.bits1 (fun HT_ HW_ => ?_)
      generalize w13.drew = w14 at BK101 BK102 BK103 HB HR106_0 hx106_0 hHeld ⊢
      refine pT3 0 6 (bz 19 1) HT_.out HW_.out hHeld ?_
      refine one_ (i := 1) (N := some 7) (bz 19 3) rfl rfl (pO HT_.out) uQ (fun K hK => ?_)
      refine goes_ Try.func36 uP rfl #[.agg #[.slice (some ad106) l0_0.length c0_0]] uT rfl rfl ui ?_
      with_reducible refine (GBase.matrix_May.calls k _ _ l0_0 true _ ?side1 ?side2 A3.out).mono ?_
      (case side1 => exact cB (Kd.C_below HR0_0.out HB.out))
      (case side2 => exact HC0_0.out)
      rintro e w15 ⟨rfl, hb⟩
      refine ⟨_, rfl, ?_⟩
      replace BK101 := bK BK101 hb
      replace BK102 := bK BK102 hb
      replace BK103 := bK BK103 hb
      replace HB := mk0 (below_step ul hb)
      (try clear hb)
      (try clear hb2)
      (try clear hk)
      (try clear hi)
      refine hK.out _ _ ⟨(blk_cell BK101.out 0).trans rfl, (blk_cell BK102.out 0).trans rfl, ((HB.out.cell (World.block_lt_of_cell? w _ hw106_0)).trans hw106_0)⟩ (fun hHeld => ?_)
      clear hK K
      refine pM (some 7) ?_
      refine pU 2 8 (bz 19 7) HT_.out ?_
      refine pU 3 9 (bz 19 15) HT_.out ?_
      refine pT3 4 10 (bz 19 31) HT_.out HW_.out hHeld ?_
      refine one_ (i := 5) (N := some 11) (bz 19 63) rfl rfl (pO HT_.out) uQ (fun K hK => ?_)
      refine goes_ Try.func36 uP rfl #[.agg #[.slice A1_0 l1_0.length c1_0]] uT rfl rfl ui ?_
      with_reducible refine (GBase.matrix_May.calls k _ _ l1_0 true _ ?side1 ?side2 A5.out).mono ?_
      (case side1 => exact cB (Kd.C_below HR1_0.out HB.out))
      (case side2 => exact HC1_0.out)
      rintro e w16 ⟨rfl, hb⟩
      refine ⟨_, rfl, ?_⟩
      replace BK101 := bK BK101 hb
      replace BK102 := bK BK102 hb
      replace BK103 := bK BK103 hb
      replace HB := mk0 (below_step ul hb)
      (try clear hb)
      (try clear hb2)
      (try clear hk)
      (try clear hi)
      refine hK.out _ _ ⟨(blk_cell BK101.out 0).trans rfl, (blk_cell BK102.out 0).trans rfl, ((HB.out.cell (World.block_lt_of_cell? w _ hw106_0)).trans hw106_0)⟩ (fun hHeld => ?_)
      clear hK K
      refine pM (some 11) ?_
      refine pU 6 12 (bz 19 127) HT_.out ?_
      refine pU 7 13 (bz 19 255) HT_.out ?_
      refine pU 8 14 (bz 19 511) HT_.out ?_
      refine pU 9 15 (bz 19 1023) HT_.out ?_
      refine pU 14 20 (bz 19 17407) HT_.out ?_
      refine pT3 10 16 (bz 19 18431) HT_.out HW_.out hHeld ?_
      refine pU 11 17 (bz 19 20479) HT_.out ?_
      refine pT3 12 18 (bz 19 24575) HT_.out HW_.out hHeld ?_
      refine pU 13 19 (bz 19 32767) HT_.out ?_
      refine pT3 15 21 (bz 19 65535) HT_.out HW_.out hHeld ?_
      refine pU 16 22 (bz 19 131071) HT_.out ?_
      refine pU 17 23 (bz 19 262143) HT_.out ?_
      refine pU 18 24 (bz 19 524287) HT_.out ?_
      refine done_ (done_of HT_.out uP) ?_
      try go_wp2
      replace BK101 := mk0 (blk_drew BK101.out)
      replace BK102 := mk0 (blk_drew BK102.out)
      replace BK103 := mk0 (blk_drew BK103.out)
      replace HB := mk0 (below_drew1 HB.out)
      have p107 : 0 ≤ (0 : Int) := uR
      have q107 : 0 < (l1_0.length : Int) := of_decide_eq_true uI
      obtain ⟨ad107, A107_0, c107_0, e107, hx107_0, hl107_0, hi107_0⟩ := at_L1 HR1_0.out 0 p107 q107
      have hw107_0 := hx107_0
      (try rw [show ((0 : Int)).toNat = 0 from rfl] at hw107_0)
      (try rw [show 0 * 1 = 0 from rfl] at hw107_0)
      (try rw [Addr.add_zero'] at hw107_0)
      cases e107
      have qi107 : (0 < l1_0.length) = True := eq_true uR
      (try rw [show ((0 : Int)).toNat = 0 from rfl] at hx107_0)
      (try rw [Addr.add_zero'] at hx107_0)
      replace hx107_0 := (HB.out.cell (World.block_lt_of_cell? w _ hx107_0)).trans hx107_0
      have HR107_0 := mk0 hi107_0
      have HC107_0 := mk0 hl107_0
      clear hi107_0 hl107_0
      replace p107 := eq_true p107
      replace q107 := eq_true q107
      refine start_ (n := 12) (S := fun w' => w'.cell? ⟨gb101, 0, none⟩ = some (.slice (some ad106) l0_0.length c0_0) ∧ w'.cell? ⟨gb102, 0, none⟩ = some (.slice (some ad107) l1_0.length c1_0) ∧ w'.cell? ad107 = some (.slice A107_0 (rd_L1 l1_0 0).length c107_0)) (ds := []) (bz 12 0) uP rfl rfl ⟨(blk_cell BK101.out 0).trans rfl, (blk_cell BK102.out 0).trans rfl, ((HB.out.cell (World.block_lt_of_cell? w _ hw107_0)).trans hw107_0)⟩ (fun hHeld => ?_); refine with_tabW matrix_Mul.tab3 matrix_Mul.bits3 (fun HT_ HW_ => ?_)
      generalize w16.drew = w17 at BK101 BK102 BK103 HB HR107_0 hx107_0 hHeld ⊢
      refine pU 0 26 (bz 12 1) HT_.out ?_
      refine pU 3 29 (bz 12 9) HT_.out ?_
      refine pU 8 34 (bz 12 265) HT_.out ?_
      refine pT3 1 27 (bz 12 267) HT_.out HW_.out hHeld ?_
      refine pU 2 28 (bz 12 271) HT_.out ?_
      refine pT3 4 30 (bz 12 287) HT_.out HW_.out hHeld ?_
      refine pU 5 31 (bz 12 319) HT_.out ?_
      refine pT3 6 32 (bz 12 383) HT_.out HW_.out hHeld ?_
      refine pU 7 33 (bz 12 511) HT_.out ?_
      refine one_ (i := 9) (N := some 35) (bz 12 1023) rfl rfl (pO HT_.out) uQ (fun K hK => ?_)
      refine goes_ Try.func63 uP rfl #[.int .i64 (l0_0.length : Int), .int .i64 ((rd_L1 l1_0 0).length : Int), .func (.func 64) #[] #[.pointer (some ⟨gb101, 0, none⟩), .pointer (some ⟨gb102, 0, none⟩)]] uT rfl rfl ui ?_
      refine (mulMade.callsP k (l0_0.length : Int) ((rd_L1 l1_0 0).length : Int) (some ad106) c0_0 l0_0 (some ad107) c1_0 l1_0 t108 gb101 gb102 _ ?side1 ?side2 ?side3 ?side4 (bB BK101.out) (bB BK102.out) A10.out).mono ?_
      (case side1 => exact cB (Kd.C_below HR0_0.out HB.out))
      (case side2 => exact HC0_0.out)
      (case side3 => exact cB (Kd.C_below HR1_0.out HB.out))
      (case side4 => exact HC1_0.out)
      rintro e w18 ⟨v109, rfl, ho0, hb⟩
      refine ⟨_, rfl, ?_⟩
      have HO110 := mk0 (Kd.S_lower ho0 (below_size ul))
      replace BK101 := bK BK101 hb
      replace BK102 := bK BK102 hb
      replace BK103 := bK BK103 hb
      replace HB := mk0 (below_step ul hb)
      (try clear hb)
      (try clear hb2)
      (try clear hk)
      (try clear hi)
      (try clear ho0)
      obtain ⟨Ao19, co19, eo19⟩ := Kd.S_slice HO110.out
      (first | subst eo19 | (injection eo19 with f1_ f2_ f3_; have f4_ := f1_.symm; have f5_ := f3_.symm; clear f1_ f2_ f3_; subst f4_; subst f5_))
      refine hK.out _ _ ⟨(blk_cell BK101.out 0).trans rfl, (blk_cell BK102.out 0).trans rfl, ((HB.out.cell (World.block_lt_of_cell? w _ hw107_0)).trans hw107_0)⟩ (fun hHeld => ?_)
      clear hK K
      refine pM (some 35) ?_
      refine one_ (i := 10) (N := none) (bz 12 2047) rfl rfl (pO HT_.out) uQ (fun K hK => ?_)
      have hs20 : w18.cell? ⟨gb103, 0, none⟩ = some (.slice none 0 0) := (blk_cell BK103.out 0).trans rfl
      have hfs20 := blk_frozen BK103.out 0
      have hns20_0 := NB101_103.out
      have hns20_1 := NB102_103.out
      have hms20_0 := NB103_101.out
      have hms20_1 := NB103_102.out
      refine skip_ (w1 := ?_) uT rfl ?_ ?_
      rotate_left
      ·go_simp
       rfl
      refine hK.out _ _ ⟨((cell_far (p := ⟨gb103, _, none⟩) NB101_103.out _).trans (hHeld.1)), ((cell_far (p := ⟨gb103, _, none⟩) NB102_103.out _).trans (hHeld.2.1)), ((cell_far (p := ⟨gb103, _, none⟩) (by first | exact Nat.ne_of_lt (Nat.lt_of_lt_of_le uE GW103.out) | (rw [add_block]; exact Nat.ne_of_lt (Nat.lt_of_lt_of_le uE GW103.out)) | (show (Addr.add _ _).block ≠ _; rw [add_block]; exact Nat.ne_of_lt (Nat.lt_of_lt_of_le uE GW103.out)) | (dsimp only; exact Nat.ne_of_lt (Nat.lt_of_lt_of_le uE GW103.out))) _).trans (hHeld.2.2))⟩ (fun hHeld => ?_)
      clear hK K
      refine pU 11 5 (bz 12 4095) HT_.out ?_
      refine done_ (done_of HT_.out uP) ?_
      try go_wp2
      refine bodyPost_ret (results_ct rfl _ _ gb103 24 #[.slice Ao19 t108.length co19] (0, 0) _ rfl uA Try.underlying24 rfl uP) rfl ?_
      exact ⟨_, uD, by (with_reducible repeat (first | apply sA | apply sN | apply sD)); exact Kd.S_mono (Kd.S_far (p := ⟨gb103, 0, none⟩) (Kd.S_types HO110.out BK103.out uQ) (fun _ hk => hk.2) (.slice Ao19 t108.length co19)) (fun _ hk => trivial), ul⟩
     ·rw [if_neg c9] at H
      exact absurd H uS
    ·rw [if_neg c8] at H
     have c8b0 : (((rd_L1 l0_0 0).length : Int) == (l1_0.length : Int)) = false := beq_eq_false_iff_ne.mpr c8
     have c8b1 : (((rd_L1 l0_0 0).length : Int) != (l1_0.length : Int)) = true := bne_iff_ne.mpr c8
     have c8b2 : ((rd_L1 l0_0 0).length == l1_0.length) = false := by first | simpa using c8 | (simp at c8 ⊢; omega)
     simp only [Option.some.injEq, Prod.mk.injEq] at H
     obtain ⟨rfl, rfl⟩ := H
     go_enter Try.func28, Try.ntmps28
     try go_wp2_with (first | ((with_reducible refine gate_dst (N := 2) rfl ?_); (try (refine gate_guard uT ?_; dsimp only)); refine box_event uT (N := 2) uT (cs := #[.slice A0_0 l0_0.length c0_0]) (t := 24) uK ?_; intro gb101 hg w21 hbox hb; have BK101 := mk0 (hbox); have GW101 := mk0 (nB hg HB); have GE101 := mk0 (nB hg HB); replace HB := mk0 (below_step uy hb); clear hb hbox hg) | ((with_reducible refine gate_dst (N := 3) rfl ?_); (try (refine gate_guard uT ?_; dsimp only)); refine box_event uT (N := 3) uT (cs := #[.slice A1_0 l1_0.length c1_0]) (t := 24) uK ?_; intro gb102 hg w22 hbox hb; have BK102 := mk0 (hbox); have GW102 := mk0 (nB hg HB); have GE102 := mk0 (nB hg HB); replace HB := mk0 (below_step ul hb); have NB101_102 := mk0 (nF hg BK101.out); have NB102_101 := mk0 (nE hg BK101.out); replace BK101 := bK BK101 hb; clear hb hbox hg) | ((with_reducible refine gate_dst (N := 4) rfl ?_); (try (refine gate_guard uT ?_; dsimp only)); refine box_event uT (N := 4) uT (cs := #[.slice none 0 0]) (t := 24) uK ?_; intro gb103 hg w23 hbox hb; have BK103 := mk0 (hbox); have GW103 := mk0 (nB hg HB); have GE103 := mk0 (nB hg HB); replace HB := mk0 (below_step ul hb); have NB101_103 := mk0 (nF hg BK101.out); have NB103_101 := mk0 (nE hg BK101.out); replace BK101 := bK BK101 hb; have NB102_103 := mk0 (nF hg BK102.out); have NB103_102 := mk0 (nE hg BK102.out); replace BK102 := bK BK102 hb; clear hb hbox hg))
     replace BK101 := mk0 (blk_drew BK101.out)
     replace BK102 := mk0 (blk_drew BK102.out)
     replace BK103 := mk0 (blk_drew BK103.out)
     replace HB := mk0 (below_drew1 HB.out)
     have p106 : 0 ≤ (0 : Int) := uR
     have q106 : 0 < (l0_0.length : Int) := of_decide_eq_true uI
     obtain ⟨ad106, A106_0, c106_0, e106, hx106_0, hl106_0, hi106_0⟩ := at_L1 HR0_0.out 0 p106 q106
     have hw106_0 := hx106_0
     (try rw [show ((0 : Int)).toNat = 0 from rfl] at hw106_0)
     (try rw [show 0 * 1 = 0 from rfl] at hw106_0)
     (try rw [Addr.add_zero'] at hw106_0)
     cases e106
     have qi106 : (0 < l0_0.length) = True := eq_true uR
     (try rw [show ((0 : Int)).toNat = 0 from rfl] at hx106_0)
     (try rw [Addr.add_zero'] at hx106_0)
     replace hx106_0 := (HB.out.cell (World.block_lt_of_cell? w _ hx106_0)).trans hx106_0
     have HR106_0 := mk0 hi106_0
     have HC106_0 := mk0 hl106_0
     clear hi106_0 hl106_0
     replace p106 := eq_true p106
     replace q106 := eq_true q106
     refine start_ (n := 19) (S := fun w' => w'.cell? ⟨gb101, 0, none⟩ = some (.slice (some ad106) l0_0.length c0_0) ∧ w'.cell? ⟨gb102, 0, none⟩ = some (.slice A1_0 l1_0.length c1_0) ∧ w'.cell? ad106 = some (.slice A106_0 (rd_L1 l0_0 0).length c106_0)) (ds := []) (bz 19 0) uP rfl rfl ⟨(blk_cell BK101.out 0).trans rfl, (blk_cell BK102.out 0).trans rfl, ((HB.out.cell (World.block_lt_of_cell? w _ hw106_0)).trans hw106_0)⟩ (fun hHeld => ?_); refine with_tabW matrix_Mul.tab1 matrix_Mul.bits1 (fun HT_ HW_ => ?_)
     generalize w23.drew = w24 at BK101 BK102 BK103 HB HR106_0 hx106_0 hHeld ⊢
     refine pT3 0 6 (bz 19 1) HT_.out HW_.out hHeld ?_
     refine one_ (i := 1) (N := some 7) (bz 19 3) rfl rfl (pO HT_.out) uQ (fun K hK => ?_)
     refine goes_ Try.func36 uP rfl #[.agg #[.slice (some ad106) l0_0.length c0_0]] uT rfl rfl ui ?_
     with_reducible refine (GBase.matrix_May.calls k _ _ l0_0 true _ ?side1 ?side2 A3.out).mono ?_
     (case side1 => exact cB (Kd.C_below HR0_0.out HB.out))
     (case side2 => exact HC0_0.out)
     rintro e w25 ⟨rfl, hb⟩
     refine ⟨_, rfl, ?_⟩
     replace BK101 := bK BK101 hb
     replace BK102 := bK BK102 hb
     replace BK103 := bK BK103 hb
     replace HB := mk0 (below_step ul hb)
     (try clear hb)
     (try clear hb2)
     (try clear hk)
     (try clear hi)
     refine hK.out _ _ ⟨(blk_cell BK101.out 0).trans rfl, (blk_cell BK102.out 0).trans rfl, ((HB.out.cell (World.block_lt_of_cell? w _ hw106_0)).trans hw106_0)⟩ (fun hHeld => ?_)
     clear hK K
     refine pM (some 7) ?_
     refine pU 2 8 (bz 19 7) HT_.out ?_
     refine pU 3 9 (bz 19 15) HT_.out ?_
     refine pT3 4 10 (bz 19 31) HT_.out HW_.out hHeld ?_
     refine one_ (i := 5) (N := some 11) (bz 19 63) rfl rfl (pO HT_.out) uQ (fun K hK => ?_)
     refine goes_ Try.func36 uP rfl #[.agg #[.slice A1_0 l1_0.length c1_0]] uT rfl rfl ui ?_
     with_reducible refine (GBase.matrix_May.calls k _ _ l1_0 true _ ?side1 ?side2 A5.out).mono ?_
     (case side1 => exact cB (Kd.C_below HR1_0.out HB.out))
     (case side2 => exact HC1_0.out)
     rintro e w26 ⟨rfl, hb⟩
     refine ⟨_, rfl, ?_⟩
     replace BK101 := bK BK101 hb
     replace BK102 := bK BK102 hb
     replace BK103 := bK BK103 hb
     replace HB := mk0 (below_step ul hb)
     (try clear hb)
     (try clear hb2)
     (try clear hk)
     (try clear hi)
     refine hK.out _ _ ⟨(blk_cell BK101.out 0).trans rfl, (blk_cell BK102.out 0).trans rfl, ((HB.out.cell (World.block_lt_of_cell? w _ hw106_0)).trans hw106_0)⟩ (fun hHeld => ?_)
     clear hK K
     refine pM (some 11) ?_
     refine pU 6 12 (bz 19 127) HT_.out ?_
     refine pU 7 13 (bz 19 255) HT_.out ?_
     refine pU 8 14 (bz 19 511) HT_.out ?_
     refine pU 9 15 (bz 19 1023) HT_.out ?_
     refine pU 14 20 (bz 19 17407) HT_.out ?_
     refine pT3 10 16 (bz 19 18431) HT_.out HW_.out hHeld ?_
     refine pU 11 17 (bz 19 20479) HT_.out ?_
     refine pT3 12 18 (bz 19 24575) HT_.out HW_.out hHeld ?_
     refine pU 13 19 (bz 19 32767) HT_.out ?_
     refine pT3 15 21 (bz 19 65535) HT_.out HW_.out hHeld ?_
     refine pU 16 22 (bz 19 131071) HT_.out ?_
     refine pU 17 23 (bz 19 262143) HT_.out ?_
     refine pU 18 24 (bz 19 524287) HT_.out ?_
     refine done_ (done_of HT_.out uP) ?_
     have hnb27 := NB103_101.out
     have hnc27 := NB101_103.out
     have hnb28 := NB103_102.out
     have hnc28 := NB102_103.out
     have hcz29_0 : w26.cell? ⟨gb103, 0, none⟩ = some (.slice none 0 0) := (blk_cell BK103.out 0).trans rfl
     have hfz29_0 := blk_frozen BK103.out 0
     try go_wp2
     refine bodyPost_ret (results_ct rfl _ _ gb103 24 #[.slice none 0 0] (0, 0) _ rfl uA Try.underlying24 rfl uP) rfl ?_
     exact ⟨_, uD, uh, ul⟩
   ·rw [if_neg c7] at H
    exact absurd H uS
  ·replace c6 := Bool.eq_false_iff.mpr c6
   subst c6
   have H1 : (some (([] : List (List Int)), 300)) = some (r1, r2) := by rw [if_neg (show ¬ (false = true) by decide)] at H; exact H
   clear H
   have H := H1
   clear H1
   simp only [Option.some.injEq, Prod.mk.injEq] at H
   obtain ⟨rfl, rfl⟩ := H
   go_enter Try.func28, Try.ntmps28
   try go_wp2_with (first | ((with_reducible refine gate_dst (N := 2) rfl ?_); (try (refine gate_guard uT ?_; dsimp only)); refine box_event uT (N := 2) uT (cs := #[.slice A0_0 l0_0.length c0_0]) (t := 24) uK ?_; intro gb101 hg w30 hbox hb; have BK101 := mk0 (hbox); have GW101 := mk0 (nB hg HB); have GE101 := mk0 (nB hg HB); replace HB := mk0 (below_step uy hb); clear hb hbox hg) | ((with_reducible refine gate_dst (N := 3) rfl ?_); (try (refine gate_guard uT ?_; dsimp only)); refine box_event uT (N := 3) uT (cs := #[.slice A1_0 l1_0.length c1_0]) (t := 24) uK ?_; intro gb102 hg w31 hbox hb; have BK102 := mk0 (hbox); have GW102 := mk0 (nB hg HB); have GE102 := mk0 (nB hg HB); replace HB := mk0 (below_step ul hb); have NB101_102 := mk0 (nF hg BK101.out); have NB102_101 := mk0 (nE hg BK101.out); replace BK101 := bK BK101 hb; clear hb hbox hg) | ((with_reducible refine gate_dst (N := 4) rfl ?_); (try (refine gate_guard uT ?_; dsimp only)); refine box_event uT (N := 4) uT (cs := #[.slice none 0 0]) (t := 24) uK ?_; intro gb103 hg w32 hbox hb; have BK103 := mk0 (hbox); have GW103 := mk0 (nB hg HB); have GE103 := mk0 (nB hg HB); replace HB := mk0 (below_step ul hb); have NB101_103 := mk0 (nF hg BK101.out); have NB103_101 := mk0 (nE hg BK101.out); replace BK101 := bK BK101 hb; have NB102_103 := mk0 (nF hg BK102.out); have NB103_102 := mk0 (nE hg BK102.out); replace BK102 := bK BK102 hb; clear hb hbox hg))
   replace BK101 := mk0 (blk_drew BK101.out)
   replace BK102 := mk0 (blk_drew BK102.out)
   replace BK103 := mk0 (blk_drew BK103.out)
   replace HB := mk0 (below_drew1 HB.out)
   refine start_ (n := 19) (S := fun w' => w'.cell? ⟨gb101, 0, none⟩ = some (.slice A0_0 l0_0.length c0_0) ∧ w'.cell? ⟨gb102, 0, none⟩ = some (.slice A1_0 l1_0.length c1_0)) (ds := []) (bz 19 0) uP rfl rfl ⟨(blk_cell BK101.out 0).trans rfl, (blk_cell BK102.out 0).trans rfl⟩ (fun hHeld => ?_); refine with_tabW matrix_Mul.tab1 matrix_Mul.bits1 (fun HT_ HW_ => ?_)
   generalize w32.drew = w33 at BK101 BK102 BK103 HB hHeld ⊢
   refine pT2 0 6 (bz 19 1) HT_.out HW_.out hHeld ?_
   refine one_ (i := 1) (N := some 7) (bz 19 3) rfl rfl (pO HT_.out) uQ (fun K hK => ?_)
   refine goes_ Try.func36 uP rfl #[.agg #[.slice A0_0 l0_0.length c0_0]] uT rfl rfl ui ?_
   with_reducible refine (GBase.matrix_May.calls k _ _ l0_0 true _ ?side1 ?side2 A3.out).mono ?_
   (case side1 => exact cB (Kd.C_below HR0_0.out HB.out))
   (case side2 => exact HC0_0.out)
   rintro e w34 ⟨rfl, hb⟩
   refine ⟨_, rfl, ?_⟩
   replace BK101 := bK BK101 hb
   replace BK102 := bK BK102 hb
   replace BK103 := bK BK103 hb
   replace HB := mk0 (below_step ul hb)
   (try clear hb)
   (try clear hb2)
   (try clear hk)
   (try clear hi)
   refine hK.out _ _ ⟨(blk_cell BK101.out 0).trans rfl, (blk_cell BK102.out 0).trans rfl⟩ (fun hHeld => ?_)
   clear hK K
   refine pM (some 7) ?_
   refine pU 2 8 (bz 19 7) HT_.out ?_
   refine pU 3 9 (bz 19 15) HT_.out ?_
   refine pT2 4 10 (bz 19 31) HT_.out HW_.out hHeld ?_
   refine one_ (i := 5) (N := some 11) (bz 19 63) rfl rfl (pO HT_.out) uQ (fun K hK => ?_)
   refine goes_ Try.func36 uP rfl #[.agg #[.slice A1_0 l1_0.length c1_0]] uT rfl rfl ui ?_
   with_reducible refine (GBase.matrix_May.calls k _ _ l1_0 false _ ?side1 ?side2 A5.out).mono ?_
   (case side1 => exact cB (Kd.C_below HR1_0.out HB.out))
   (case side2 => exact HC1_0.out)
   rintro e w35 ⟨rfl, hb⟩
   refine ⟨_, rfl, ?_⟩
   replace BK101 := bK BK101 hb
   replace BK102 := bK BK102 hb
   replace BK103 := bK BK103 hb
   replace HB := mk0 (below_step ul hb)
   (try clear hb)
   (try clear hb2)
   (try clear hk)
   (try clear hi)
   refine hK.out _ _ ⟨(blk_cell BK101.out 0).trans rfl, (blk_cell BK102.out 0).trans rfl⟩ (fun hHeld => ?_)
   clear hK K
   refine pM (some 11) ?_
   refine pU 6 12 (bz 19 127) HT_.out ?_
   refine pU 7 13 (bz 19 255) HT_.out ?_
   refine pU 8 14 (bz 19 511) HT_.out ?_
   refine pN 9 15 (bz 19 1023) HT_.out ?_
   refine pN 10 16 (bz 19 2047) HT_.out ?_
   refine pN 11 17 (bz 19 4095) HT_.out ?_
   refine pN 12 18 (bz 19 8191) HT_.out ?_
   refine pN 13 19 (bz 19 16383) HT_.out ?_
   refine pN 14 20 (bz 19 32767) HT_.out ?_
   refine pN 15 21 (bz 19 65535) HT_.out ?_
   refine pN 16 22 (bz 19 131071) HT_.out ?_
   refine pN 17 23 (bz 19 262143) HT_.out ?_
   refine pU 18 24 (bz 19 524287) HT_.out ?_
   refine done_ (done_of HT_.out uP) ?_
   have hnb36 := NB103_101.out
   have hnc36 := NB101_103.out
   have hnb37 := NB103_102.out
   have hnc37 := NB102_103.out
   have hcz38_0 : w35.cell? ⟨gb103, 0, none⟩ = some (.slice none 0 0) := (blk_cell BK103.out 0).trans rfl
   have hfz38_0 := blk_frozen BK103.out 0
   try go_wp2
   refine bodyPost_ret (results_ct rfl _ _ gb103 24 #[.slice none 0 0] (0, 0) _ rfl uA Try.underlying24 rfl uP) rfl ?_
   exact ⟨_, uD, uh, ul⟩
 ·replace c4 := Bool.eq_false_iff.mpr c4
  subst c4
  have H1 : (some (([] : List (List Int)), 300)) = some (r1, r2) := by rw [if_neg (show ¬ (false = true) by decide)] at H; exact H
  clear H
  have H := H1
  clear H1
  simp only [Option.some.injEq, Prod.mk.injEq] at H
  obtain ⟨rfl, rfl⟩ := H
  go_enter Try.func28, Try.ntmps28
  try go_wp2_with (first | ((with_reducible refine gate_dst (N := 2) rfl ?_); (try (refine gate_guard uT ?_; dsimp only)); refine box_event uT (N := 2) uT (cs := #[.slice A0_0 l0_0.length c0_0]) (t := 24) uK ?_; intro gb101 hg w39 hbox hb; have BK101 := mk0 (hbox); have GW101 := mk0 (nB hg HB); have GE101 := mk0 (nB hg HB); replace HB := mk0 (below_step uy hb); clear hb hbox hg) | ((with_reducible refine gate_dst (N := 3) rfl ?_); (try (refine gate_guard uT ?_; dsimp only)); refine box_event uT (N := 3) uT (cs := #[.slice A1_0 l1_0.length c1_0]) (t := 24) uK ?_; intro gb102 hg w40 hbox hb; have BK102 := mk0 (hbox); have GW102 := mk0 (nB hg HB); have GE102 := mk0 (nB hg HB); replace HB := mk0 (below_step ul hb); have NB101_102 := mk0 (nF hg BK101.out); have NB102_101 := mk0 (nE hg BK101.out); replace BK101 := bK BK101 hb; clear hb hbox hg) | ((with_reducible refine gate_dst (N := 4) rfl ?_); (try (refine gate_guard uT ?_; dsimp only)); refine box_event uT (N := 4) uT (cs := #[.slice none 0 0]) (t := 24) uK ?_; intro gb103 hg w41 hbox hb; have BK103 := mk0 (hbox); have GW103 := mk0 (nB hg HB); have GE103 := mk0 (nB hg HB); replace HB := mk0 (below_step ul hb); have NB101_103 := mk0 (nF hg BK101.out); have NB103_101 := mk0 (nE hg BK101.out); replace BK101 := bK BK101 hb; have NB102_103 := mk0 (nF hg BK102.out); have NB103_102 := mk0 (nE hg BK102.out); replace BK102 := bK BK102 hb; clear hb hbox hg))
  replace BK101 := mk0 (blk_drew BK101.out)
  replace BK102 := mk0 (blk_drew BK102.out)
  replace BK103 := mk0 (blk_drew BK103.out)
  replace HB := mk0 (below_drew1 HB.out)
  refine start_ (n := 19) (S := fun w' => w'.cell? ⟨gb101, 0, none⟩ = some (.slice A0_0 l0_0.length c0_0)) (ds := []) (bz 19 0) uP rfl rfl ((blk_cell BK101.out 0).trans rfl) (fun hHeld => ?_); refine with_tabW matrix_Mul.tab1 matrix_Mul.bits1 (fun HT_ HW_ => ?_)
  generalize w41.drew = w42 at BK101 BK102 BK103 HB hHeld ⊢
  refine pT1 0 6 (bz 19 1) HT_.out HW_.out hHeld ?_
  refine one_ (i := 1) (N := some 7) (bz 19 3) rfl rfl (pO HT_.out) uQ (fun K hK => ?_)
  refine goes_ Try.func36 uP rfl #[.agg #[.slice A0_0 l0_0.length c0_0]] uT rfl rfl ui ?_
  with_reducible refine (GBase.matrix_May.calls k _ _ l0_0 false _ ?side1 ?side2 A3.out).mono ?_
  (case side1 => exact cB (Kd.C_below HR0_0.out HB.out))
  (case side2 => exact HC0_0.out)
  rintro e w43 ⟨rfl, hb⟩
  refine ⟨_, rfl, ?_⟩
  replace BK101 := bK BK101 hb
  replace BK102 := bK BK102 hb
  replace BK103 := bK BK103 hb
  replace HB := mk0 (below_step ul hb)
  (try clear hb)
  (try clear hb2)
  (try clear hk)
  (try clear hi)
  refine hK.out _ _ ((blk_cell BK101.out 0).trans rfl) (fun hHeld => ?_)
  clear hK K
  refine pM (some 7) ?_
  refine pU 2 8 (bz 19 7) HT_.out ?_
  refine pU 3 9 (bz 19 15) HT_.out ?_
  refine pN 4 10 (bz 19 31) HT_.out ?_
  refine pN 5 11 (bz 19 63) HT_.out ?_
  refine pN 6 12 (bz 19 127) HT_.out ?_
  refine pU 7 13 (bz 19 255) HT_.out ?_
  refine pU 8 14 (bz 19 511) HT_.out ?_
  refine pN 9 15 (bz 19 1023) HT_.out ?_
  refine pN 10 16 (bz 19 2047) HT_.out ?_
  refine pN 11 17 (bz 19 4095) HT_.out ?_
  refine pN 12 18 (bz 19 8191) HT_.out ?_
  refine pN 13 19 (bz 19 16383) HT_.out ?_
  refine pN 14 20 (bz 19 32767) HT_.out ?_
  refine pN 15 21 (bz 19 65535) HT_.out ?_
  refine pN 16 22 (bz 19 131071) HT_.out ?_
  refine pN 17 23 (bz 19 262143) HT_.out ?_
  refine pU 18 24 (bz 19 524287) HT_.out ?_
  refine done_ (done_of HT_.out uP) ?_
  have hnb44 := NB103_101.out
  have hnc44 := NB101_103.out
  have hnb45 := NB103_102.out
  have hnc45 := NB102_103.out
  have hcz46_0 : w43.cell? ⟨gb103, 0, none⟩ = some (.slice none 0 0) := (blk_cell BK103.out 0).trans rfl
  have hfz46_0 := blk_frozen BK103.out 0
  try go_wp2
  refine bodyPost_ret (results_ct rfl _ _ gb103 24 #[.slice none 0 0] (0, 0) _ rfl uA Try.underlying24 rfl uP) rfl ?_
  exact ⟨_, uD, uh, ul⟩
end Go.Proofs.Ytaahnicjjpddjaa.GMulF
