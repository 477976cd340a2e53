/- Functions of the program as Lean functions, each with a proof that its call comes to what the function says. No condition. -/
import Derived.Test.YtaahnicjjpddjaaKMatricesGRef2
import Derived.Test.YtaahnicjjpddjaaKMatricesGRef3
namespace Go.Proofs.Ytaahnicjjpddjaa.GRef
open Go.Proofs.Ytaahnicjjpddjaa.Fn
open Go.Proofs.Ytaahnicjjpddjaa
open Go.RowKit Go.Proofs.YtaahnicjjpddjaaW.PrintWords Go.Proofs.YtaahnicjjpddjaaW.PrintLast Go.Proofs.YtaahnicjjpddjaaW.PrintMore
attribute [local go_sem] max2_int min2_int max_two min_two max_three min_three max_four min_four   -- for this text's walks alone
set_option linter.unusedVariables false
set_option linter.unusedSimpArgs false
mutual
def ossuaryref1_MulMatrix.j0 : Nat → Bool → List (List Int) → List (List Int) → Option ((List (List Int)) × Int)
 | 0, _, _, _ => none
 | k + 1, x28, x136000, x137000 => if x28 = true then (some (([] : List (List Int)), 300)) else (if 0 < (x137000.length : Int) then ((ossuaryref1_blank.f k (x136000.length : Int) ((rd_L2 x137000 0).length : Int)).bind fun t142 => (ossuaryref1_MulMatrix.l0 k 0 x136000 x137000 t142)) else (none))
def ossuaryref1_MulMatrix.l0 : Nat → Int → List (List Int) → List (List Int) → List (List Int) → Option ((List (List Int)) × Int)
 | 0, _, _, _, _ => none
 | k + 1, x7, x136000, x137000, x146000 => if x7 < (x146000.length : Int) then (ossuaryref1_MulMatrix.l1 k x7 0 x136000 x137000 x146000) else (some (x146000, 0))
def ossuaryref1_MulMatrix.l1 : Nat → Int → Int → List (List Int) → List (List Int) → List (List Int) → Option ((List (List Int)) × Int)
 | 0, _, _, _, _, _ => none
 | k + 1, x7, x8, x136000, x137000, x146000 => if 0 ≤ x7 then (if x7 < (x146000.length : Int) then (if x8 < ((rd_L2 x146000 x7).length : Int) then (ossuaryref1_MulMatrix.l2 k x7 x8 0 x136000 x137000 x146000) else (ossuaryref1_MulMatrix.l0 k (wrap64 (x7 + 1)) x136000 x137000 x146000)) else (none)) else (none)
def ossuaryref1_MulMatrix.l2 : Nat → Int → Int → Int → List (List Int) → List (List Int) → List (List Int) → Option ((List (List Int)) × Int)
 | 0, _, _, _, _, _, _ => none
 | k + 1, x7, x8, x9, x136000, x137000, x146000 => if x9 < (x137000.length : Int) then (if 0 ≤ x7 then (if x7 < (x146000.length : Int) then (if 0 ≤ x8 then (if x8 < ((rd_L2 x146000 x7).length : Int) then (if x7 < (x136000.length : Int) then (if 0 ≤ x9 then (if x9 < ((rd_L2 x136000 x7).length : Int) then (if x8 < ((rd_L2 x137000 x9).length : Int) then ((ossuaryref1_mul.f k (rd (rd_L2 x136000 x7) x9) (rd (rd_L2 x137000 x9) x8)).bind fun t154 => (ossuaryref1_MulMatrix.l2 k x7 x8 (wrap64 (x9 + 1)) x136000 x137000 (x146000.set (x7 : Int).toNat ((rd_L2 x146000 x7).set (x8 : Int).toNat (Go.bits .xor .i64 (rd (rd_L2 x146000 x7) x8) t154))))) else (none)) else (none)) else (none)) else (none)) else (none)) else (none)) else (none)) else (none)) else (ossuaryref1_MulMatrix.l1 k x7 (wrap64 (x8 + 1)) x136000 x137000 x146000)
end
def ossuaryref1_MulMatrix.f (k : Nat) (l0_0 : List (List Int)) (l1_0 : List (List Int)) : Option ((List (List Int)) × Int) := (ossuaryref1_MatrixMay.f k l0_0).bind fun t138 => (if t138 = true then ((ossuaryref1_MatrixMay.f k l1_0).bind fun t139 => (if t139 = true then (if 0 < (l0_0.length : Int) then (ossuaryref1_MulMatrix.j0 k (((rd_L2 l0_0 0).length : Int) != (l1_0.length : Int)) l0_0 l1_0) else (none)) else (ossuaryref1_MulMatrix.j0 k true l0_0 l1_0))) else (ossuaryref1_MulMatrix.j0 k true l0_0 l1_0))
theorem ossuaryref1_MulMatrix.mono_l : ∀ k, (∀ y0 y1 y2, LeO (ossuaryref1_MulMatrix.j0 k y0 y1 y2) (ossuaryref1_MulMatrix.j0 (k + 1) y0 y1 y2)) ∧ (∀ y0 y1 y2 y3, LeO (ossuaryref1_MulMatrix.l0 k y0 y1 y2 y3) (ossuaryref1_MulMatrix.l0 (k + 1) y0 y1 y2 y3)) ∧ (∀ y0 y1 y2 y3 y4, LeO (ossuaryref1_MulMatrix.l1 k y0 y1 y2 y3 y4) (ossuaryref1_MulMatrix.l1 (k + 1) y0 y1 y2 y3 y4)) ∧ (∀ y0 y1 y2 y3 y4 y5, LeO (ossuaryref1_MulMatrix.l2 k y0 y1 y2 y3 y4 y5) (ossuaryref1_MulMatrix.l2 (k + 1) y0 y1 y2 y3 y4 y5))
 | 0 => ⟨fun _ _ _ r h => by simp [ossuaryref1_MulMatrix.j0] at h, fun _ _ _ _ r h => by simp [ossuaryref1_MulMatrix.l0] at h, fun _ _ _ _ _ r h => by simp [ossuaryref1_MulMatrix.l1] at h, fun _ _ _ _ _ _ r h => by simp [ossuaryref1_MulMatrix.l2] at h⟩
 | k + 1 => by
  obtain ⟨ih0, ih1, ih2, ih3⟩ := ossuaryref1_MulMatrix.mono_l k
  refine ⟨?_, ?_, ?_, ?_⟩
  ·intro y0 y1 y2
   unfold ossuaryref1_MulMatrix.j0
   repeat' with_reducible first | exact ih0 _ _ _ | exact ih1 _ _ _ _ | exact ih2 _ _ _ _ _ | exact ih3 _ _ _ _ _ _ | exact ossuaryref1_MatrixMay.mono _ _ | exact ossuaryref1_blank.mono _ _ _ | exact ossuaryref1_mul.mono _ _ _ | exact LeO.refl _ | exact LeO.none _ | refine LeO.ite ?_ ?_ | refine LeO.bind ?_ (fun _ => ?_)
  ·intro y0 y1 y2 y3
   unfold ossuaryref1_MulMatrix.l0
   repeat' with_reducible first | exact ih0 _ _ _ | exact ih1 _ _ _ _ | exact ih2 _ _ _ _ _ | exact ih3 _ _ _ _ _ _ | exact ossuaryref1_MatrixMay.mono _ _ | exact ossuaryref1_blank.mono _ _ _ | exact ossuaryref1_mul.mono _ _ _ | exact LeO.refl _ | exact LeO.none _ | refine LeO.ite ?_ ?_ | refine LeO.bind ?_ (fun _ => ?_)
  ·intro y0 y1 y2 y3 y4
   unfold ossuaryref1_MulMatrix.l1
   repeat' with_reducible first | exact ih0 _ _ _ | exact ih1 _ _ _ _ | exact ih2 _ _ _ _ _ | exact ih3 _ _ _ _ _ _ | exact ossuaryref1_MatrixMay.mono _ _ | exact ossuaryref1_blank.mono _ _ _ | exact ossuaryref1_mul.mono _ _ _ | exact LeO.refl _ | exact LeO.none _ | refine LeO.ite ?_ ?_ | refine LeO.bind ?_ (fun _ => ?_)
  ·intro y0 y1 y2 y3 y4 y5
   unfold ossuaryref1_MulMatrix.l2
   repeat' with_reducible first | exact ih0 _ _ _ | exact ih1 _ _ _ _ | exact ih2 _ _ _ _ _ | exact ih3 _ _ _ _ _ _ | exact ossuaryref1_MatrixMay.mono _ _ | exact ossuaryref1_blank.mono _ _ _ | exact ossuaryref1_mul.mono _ _ _ | exact LeO.refl _ | exact LeO.none _ | refine LeO.ite ?_ ?_ | refine LeO.bind ?_ (fun _ => ?_)
theorem ossuaryref1_MulMatrix.mono : ∀ a0 a1 k, LeO (ossuaryref1_MulMatrix.f k a0 a1) (ossuaryref1_MulMatrix.f (k + 1) a0 a1) := by
 intro a0 a1 k
 obtain ⟨ih0, ih1, ih2, ih3⟩ := ossuaryref1_MulMatrix.mono_l k
 unfold ossuaryref1_MulMatrix.f
 repeat' with_reducible first | exact ih0 _ _ _ | exact ih1 _ _ _ _ | exact ih2 _ _ _ _ _ | exact ih3 _ _ _ _ _ _ | exact ossuaryref1_MatrixMay.mono _ _ | exact ossuaryref1_blank.mono _ _ _ | exact ossuaryref1_mul.mono _ _ _ | exact LeO.refl _ | exact LeO.none _ | refine LeO.ite ?_ ?_ | refine LeO.bind ?_ (fun _ => ?_)
def ossuaryref1_MulMatrix.T1 : Bool × List (List Nat × List Nat) := (true, [([], []), ([0], [0]), ([1], [1]), ([2, 1], [2]), ([3], [3]), ([4, 3, 3], [3, 4]), ([5, 3], [3, 5]), ([3, 6], [3, 6]), ([7, 5], [7]), ([8], [8]), ([9, 8], [8, 9]), ([10, 8], [8, 10]), ([11, 8], [8, 11]), ([12, 8], [8, 12]), ([8], [8]), ([14, 8], [8, 14]), ([15, 8], [8, 15]), ([13, 16, 8], [8, 13, 16]), ([8, 17], [8, 17])])
def ossuaryref1_MulMatrix.B1 : List Nat := [0, 1, 3, 7, 15, 31, 63, 127, 255, 511, 1023, 2047, 4095, 8191, 511, 16895, 49663, 131071, 262143]
theorem ossuaryref1_MulMatrix.tab1 : rtab .any (opsOf Try.f29 1) = ossuaryref1_MulMatrix.T1 := by kernel_rfl
theorem ossuaryref1_MulMatrix.bits1 : waitsOk ossuaryref1_MulMatrix.T1.2 ossuaryref1_MulMatrix.B1 = true := by kernel_rfl
def ossuaryref1_MulMatrix.T3 : Bool × List (List Nat × List Nat) := (true, [([], []), ([0], [0]), ([1], [1]), ([], []), ([3], [3]), ([4], [4]), ([5], [5]), ([6], [6]), ([2, 7], [2, 7]), ([], []), ([9, 8, 8, 0, 1, 2, 3, 4, 5, 6, 7, 8, 9], [8, 9])])
def ossuaryref1_MulMatrix.B3 : List Nat := [0, 1, 3, 0, 8, 24, 56, 120, 255, 0, 1023]
theorem ossuaryref1_MulMatrix.tab3 : rtab .any (opsOf Try.f29 3) = ossuaryref1_MulMatrix.T3 := by kernel_rfl
theorem ossuaryref1_MulMatrix.bits3 : waitsOk ossuaryref1_MulMatrix.T3.2 ossuaryref1_MulMatrix.B3 = true := by kernel_rfl
def ossuaryref1_MulMatrix.T13 : Bool × List (List Nat × List Nat) := (true, [([], []), ([0], [0]), ([], []), ([1, 2], [1, 2]), ([3], [3]), ([], []), ([], []), ([6], [6]), ([], []), ([7, 8], [7, 8]), ([9], [9]), ([], []), ([10, 11], [10, 11]), ([12], [12]), ([], []), ([14], [14]), ([], []), ([15, 16], [15, 16]), ([17], [17]), ([], []), ([18, 19], [18, 19]), ([20], [20]), ([], []), ([22], [22]), ([], []), ([23, 24], [23, 24]), ([25], [25]), ([], []), ([26, 27], [26, 27]), ([28], [28]), ([21, 29], [21, 29]), ([13, 30], [13, 30]), ([4, 5, 0, 1, 2, 3, 4, 5, 6, 7, 8, 9, 10, 11, 12, 13, 14, 15, 16, 17, 18, 19, 20, 21, 22, 23, 24, 25, 26, 27, 28, 29, 30, 31], [4, 5]), ([32, 31, 30, 0, 1, 2, 3, 4, 5, 6, 7, 8, 9, 10, 11, 12, 13, 14, 15, 16, 17, 18, 19, 20, 21, 22, 23, 24, 25, 26, 27, 28, 29, 30, 31], [31, 32])])
def ossuaryref1_MulMatrix.B13 : List Nat := [0, 1, 0, 7, 15, 0, 0, 64, 0, 448, 960, 0, 4032, 8128, 0, 16384, 0, 114688, 245760, 0, 1032192, 2080768, 0, 4194304, 0, 29360128, 62914560, 0, 264241152, 532676608, 1073725440, 2147483584, 4294967295, 8589934591]
theorem ossuaryref1_MulMatrix.tab13 : rtab .any (opsOf Try.f29 13) = ossuaryref1_MulMatrix.T13 := by kernel_rfl
theorem ossuaryref1_MulMatrix.bits13 : waitsOk ossuaryref1_MulMatrix.T13.2 ossuaryref1_MulMatrix.B13 = true := by kernel_rfl
set_option maxHeartbeats 8000000 in
set_option maxRecDepth 100000 in
theorem ossuaryref1_MulMatrix.calls (k : Nat) (A0_0 : Option Addr) (c0_0 : Nat) (l0_0 : List (List Int)) (A1_0 : Option Addr) (c1_0 : Nat) (l1_0 : List (List Int)) (r1 : List (List Int)) (r2 : Int) (w : World) (hr0_0 : Kd.C (Kd.slice 3 (Kd.int .i64)) w A0_0 l0_0.length l0_0) (hc0_0 : l0_0.length ≤ c0_0) (hr1_0 : Kd.C (Kd.slice 3 (Kd.int .i64)) w A1_0 l1_0.length l1_0) (hc1_0 : l1_0.length ≤ c1_0) (h : ossuaryref1_MulMatrix.f k l0_0 l1_0 = some (r1, r2)) :
  Calls Try.prog 29 #[.agg #[.slice A0_0 l0_0.length c0_0], .agg #[.slice A1_0 l1_0.length c1_0]] w fun e w' => ∃ v0_ : Value, e = .returned (.tuple #[.agg #[v0_], .int .i64 r2]) ∧ Kd.S (Kd.slice 3 (Kd.int .i64)) 25 w' w.heap.size (fun _ => True) v0_ r1 ∧ Below w.heap.size w w' := by
 have hu24 := Try.underlying24
 have HR0_0 := mk0 hr0_0
 have HC0_0 := mk0 hc0_0
 clear hr0_0 hc0_0
 have HR1_0 := mk0 hr1_0
 have HC1_0 := mk0 hc1_0
 clear hr1_0 hc1_0
 have HB := mk0 (Below.refl w.heap.size w)
 have H : ((ossuaryref1_MatrixMay.f k l0_0).bind fun t138 => (if t138 = true then ((ossuaryref1_MatrixMay.f k l1_0).bind fun t139 => (if t139 = true then (if 0 < (l0_0.length : Int) then (ossuaryref1_MulMatrix.j0 k (((rd_L2 l0_0 0).length : Int) != (l1_0.length : Int)) l0_0 l1_0) else (none)) else (ossuaryref1_MulMatrix.j0 k true l0_0 l1_0))) else (ossuaryref1_MulMatrix.j0 k true l0_0 l1_0))) = some (r1, r2) := h
 clear h
 have HC3 := mk0 H
 clear H
 go_enter Try.func29, Try.ntmps29
 go_upto_region 1 with (first | ((with_reducible refine gate_dst (N := 2) rfl ?_); (try (refine gate_guard uT ?_; dsimp only)); refine box_event uT (N := 2) uT (cs := #[.slice A0_0 l0_0.length c0_0]) (t := 24) uK ?_; intro gb135 hg w4 hbox hb; have BK135 := mk0 (hbox); have GW135 := mk0 (nB hg HB); have GE135 := mk0 (nB hg HB); replace HB := mk0 (below_step uy hb); clear hb hbox hg) | ((with_reducible refine gate_dst (N := 3) rfl ?_); (try (refine gate_guard uT ?_; dsimp only)); refine box_event uT (N := 3) uT (cs := #[.slice A1_0 l1_0.length c1_0]) (t := 24) uK ?_; intro gb136 hg w5 hbox hb; have BK136 := mk0 (hbox); have GW136 := mk0 (nB hg HB); have GE136 := mk0 (nB hg HB); replace HB := mk0 (below_step ul hb); have NB135_136 := mk0 (nF hg BK135.out); have NB136_135 := mk0 (nE hg BK135.out); replace BK135 := bK BK135 hb; clear hb hbox hg) | ((with_reducible refine gate_dst (N := 4) rfl ?_); (try (refine gate_guard uT ?_; dsimp only)); refine box_event uT (N := 4) uT (cs := #[.slice none 0 0]) (t := 24) uK ?_; intro gb137 hg w6 hbox hb; have BK137 := mk0 (hbox); have GW137 := mk0 (nB hg HB); have GE137 := mk0 (nB hg HB); replace HB := mk0 (below_step ul hb); have NB135_137 := mk0 (nF hg BK135.out); have NB137_135 := mk0 (nE hg BK135.out); replace BK135 := bK BK135 hb; have NB136_137 := mk0 (nF hg BK136.out); have NB137_136 := mk0 (nE hg BK136.out); replace BK136 := bK BK136 hb; clear hb hbox hg))
 (try simp only [Act.put, List.setIfInBounds_toArray, List.set_cons_zero, List.set_cons_succ])
 go_cut [28] (fun v28 wc => ∃ (kq : Nat) (x28_2 : Bool), v28 = .bool x28_2 ∧ Aside0 (ossuaryref1_MulMatrix.j0 kq x28_2 l0_0 l1_0 = some (r1, r2)) ∧ Aside0 (kq ≤ k) ∧ Aside0 (wc.heap[gb135]? = some (.cells #[(.slice A0_0 l0_0.length c0_0)] 24 (0, 0))) ∧ Aside0 (wc.heap[gb136]? = some (.cells #[(.slice A1_0 l1_0.length c1_0)] 24 (0, 0))) ∧ Aside0 (wc.heap[gb137]? = some (.cells #[(.slice none 0 0)] 24 (0, 0))) ∧ Aside0 (Below w.heap.size w wc))
 case first =>
  have H := HC3.out
  clear HC3
  replace H := Option.bind_eq_some_iff.mp H
  obtain ⟨t138, A70, H⟩ := H
  replace H : (if t138 = true then ((ossuaryref1_MatrixMay.f k l1_0).bind fun t139 => (if t139 = true then (if 0 < (l0_0.length : Int) then (ossuaryref1_MulMatrix.j0 k (((rd_L2 l0_0 0).length : Int) != (l1_0.length : Int)) l0_0 l1_0) else (none)) else (ossuaryref1_MulMatrix.j0 k true l0_0 l1_0))) else (ossuaryref1_MulMatrix.j0 k true l0_0 l1_0)) = some (r1, r2) := H
  have A7 := mk0 A70
  clear A70
  by_cases c8 : t138 = true
  ·subst c8
   have H1 : ((ossuaryref1_MatrixMay.f k l1_0).bind fun t139 => (if t139 = true then (if 0 < (l0_0.length : Int) then (ossuaryref1_MulMatrix.j0 k (((rd_L2 l0_0 0).length : Int) != (l1_0.length : Int)) l0_0 l1_0) else (none)) else (ossuaryref1_MulMatrix.j0 k true l0_0 l1_0))) = some (r1, r2) := by rw [if_pos rfl] at H; exact H
   clear H
   have H := H1
   clear H1
   replace H := Option.bind_eq_some_iff.mp H
   obtain ⟨t139, A90, H⟩ := H
   replace H : (if t139 = true then (if 0 < (l0_0.length : Int) then (ossuaryref1_MulMatrix.j0 k (((rd_L2 l0_0 0).length : Int) != (l1_0.length : Int)) l0_0 l1_0) else (none)) else (ossuaryref1_MulMatrix.j0 k true l0_0 l1_0)) = some (r1, r2) := H
   have A9 := mk0 A90
   clear A90
   by_cases c10 : t139 = true
   ·subst c10
    have H1 : (if 0 < (l0_0.length : Int) then (ossuaryref1_MulMatrix.j0 k (((rd_L2 l0_0 0).length : Int) != (l1_0.length : Int)) l0_0 l1_0) else (none)) = some (r1, r2) := by rw [if_pos rfl] at H; exact H
    clear H
    have H := H1
    clear H1
    by_cases c11 : 0 < (l0_0.length : Int)
    ·rw [if_pos c11] at H
     have c11b0 : decide (0 < (l0_0.length : Int)) = true := decide_eq_true c11
     have c11b1 : decide (0 < l0_0.length) = true := decide_eq_true uR
     clear c11
     (first | rw [c11b0] | (simp only [i64_w, i32_w]; rw [c11b0]) | skip)
     have H' := mk0 H
     clear H
     try go_wp2
     replace BK135 := mk0 (blk_drew BK135.out)
     replace BK136 := mk0 (blk_drew BK136.out)
     replace BK137 := mk0 (blk_drew BK137.out)
     replace HB := mk0 (below_drew1 HB.out)
     have p140 : 0 ≤ (0 : Int) := uR
     have q140 : 0 < (l0_0.length : Int) := of_decide_eq_true uI
     obtain ⟨ad140, A140_0, c140_0, e140, hx140_0, hl140_0, hi140_0⟩ := at_L2 HR0_0.out 0 p140 q140
     have hw140_0 := hx140_0
     (try rw [show ((0 : Int)).toNat = 0 from rfl] at hw140_0)
     (try rw [show 0 * 1 = 0 from rfl] at hw140_0)
     (try rw [Addr.add_zero'] at hw140_0)
     cases e140
     have qi140 : (0 < l0_0.length) = True := eq_true uR
     (try rw [show ((0 : Int)).toNat = 0 from rfl] at hx140_0)
     (try rw [Addr.add_zero'] at hx140_0)
     replace hx140_0 := (HB.out.cell (World.block_lt_of_cell? w _ hx140_0)).trans hx140_0
     have HR140_0 := mk0 hi140_0
     have HC140_0 := mk0 hl140_0
     clear hi140_0 hl140_0
     replace p140 := eq_true p140
     replace q140 := eq_true q140
     refine start_ (n := 19) (S := fun w' => w'.cell? ⟨gb135, 0, none⟩ = some (.slice (some ad140) l0_0.length c0_0) ∧ w'.cell? ⟨gb136, 0, none⟩ = some (.slice A1_0 l1_0.length c1_0) ∧ w'.cell? ad140 = some (.slice A140_0 (rd_L2 l0_0 0).length c140_0)) (ds := []) (bz 19 0) uP rfl rfl ⟨(blk_cell BK135.out 0).trans rfl, (blk_cell BK136.out 0).trans rfl, ((HB.out.cell (World.block_lt_of_cell? w _ hw140_0)).trans hw140_0)⟩ (fun hHeld => ?_); refine with_tabW ossuaryref1_MulMatrix.tab1 ossuaryref1_MulMatrix.bits1 (fun HT_ HW_ => ?_)
     generalize w6.drew = w12 at BK135 BK136 BK137 HB HR140_0 hx140_0 hHeld ⊢
     refine pT3 0 10 (bz 19 1) HT_.out HW_.out hHeld ?_
     refine one_ (i := 1) (N := some 11) (bz 19 3) rfl rfl (pO HT_.out) uQ (fun K hK => ?_)
     refine goes_ Try.func37 uP rfl #[.agg #[.slice (some ad140) l0_0.length c0_0]] uT rfl rfl ui ?_
     with_reducible refine (ossuaryref1_MatrixMay.calls k _ _ l0_0 true _ ?side1 ?side2 A7.out).mono ?_
     (case side1 => exact cB (Kd.C_below HR0_0.out HB.out))
     (case side2 => exact HC0_0.out)
     rintro e w13 ⟨rfl, hb⟩
     refine ⟨_, rfl, ?_⟩
     replace BK135 := bK BK135 hb
     replace BK136 := bK BK136 hb
     replace BK137 := bK BK137 hb
     replace HB := mk0 (below_step ul hb)
     (try clear hb)
     (try clear hb2)
     (try clear hk)
     (try clear hi)
     refine hK.out _ _ ⟨(blk_cell BK135.out 0).trans rfl, (blk_cell BK136.out 0).trans rfl, ((HB.out.cell (World.block_lt_of_cell? w _ hw140_0)).trans hw140_0)⟩ (fun hHeld => ?_)
     clear hK K
     refine pM (some 11) ?_
     refine pU 2 12 (bz 19 7) HT_.out ?_
     refine pU 3 13 (bz 19 15) HT_.out ?_
     refine pT3 4 14 (bz 19 31) HT_.out HW_.out hHeld ?_
     refine one_ (i := 5) (N := some 15) (bz 19 63) rfl rfl (pO HT_.out) uQ (fun K hK => ?_)
     refine goes_ Try.func37 uP rfl #[.agg #[.slice A1_0 l1_0.length c1_0]] uT rfl rfl ui ?_
     with_reducible refine (ossuaryref1_MatrixMay.calls k _ _ l1_0 true _ ?side1 ?side2 A9.out).mono ?_
     (case side1 => exact cB (Kd.C_below HR1_0.out HB.out))
     (case side2 => exact HC1_0.out)
     rintro e w14 ⟨rfl, hb⟩
     refine ⟨_, rfl, ?_⟩
     replace BK135 := bK BK135 hb
     replace BK136 := bK BK136 hb
     replace BK137 := bK BK137 hb
     replace HB := mk0 (below_step ul hb)
     (try clear hb)
     (try clear hb2)
     (try clear hk)
     (try clear hi)
     refine hK.out _ _ ⟨(blk_cell BK135.out 0).trans rfl, (blk_cell BK136.out 0).trans rfl, ((HB.out.cell (World.block_lt_of_cell? w _ hw140_0)).trans hw140_0)⟩ (fun hHeld => ?_)
     clear hK K
     refine pM (some 15) ?_
     refine pU 6 16 (bz 19 127) HT_.out ?_
     refine pU 7 17 (bz 19 255) HT_.out ?_
     refine pU 8 18 (bz 19 511) HT_.out ?_
     refine pU 9 19 (bz 19 1023) HT_.out ?_
     refine pU 14 24 (bz 19 17407) HT_.out ?_
     refine pT3 10 20 (bz 19 18431) HT_.out HW_.out hHeld ?_
     refine pU 11 21 (bz 19 20479) HT_.out ?_
     refine pT3 12 22 (bz 19 24575) HT_.out HW_.out hHeld ?_
     refine pU 13 23 (bz 19 32767) HT_.out ?_
     refine pT3 15 25 (bz 19 65535) HT_.out HW_.out hHeld ?_
     refine pU 16 26 (bz 19 131071) HT_.out ?_
     refine pU 17 27 (bz 19 262143) HT_.out ?_
     refine pU 18 28 (bz 19 524287) HT_.out ?_
     refine done_ (done_of HT_.out uP) ?_
     try go_wp2
     go_meet
     case rel => exact ⟨_, ((((rd_L2 l0_0 0).length : Int) != (l1_0.length : Int))), uJ, H', ⟨uL⟩, ⟨bB BK135.out⟩, ⟨bB BK136.out⟩, ⟨bB BK137.out⟩, ⟨ul⟩⟩
    ·rw [if_neg c11] at H
     exact absurd H uS
   ·replace c10 := Bool.eq_false_iff.mpr c10
    subst c10
    have H1 : (ossuaryref1_MulMatrix.j0 k true l0_0 l1_0) = some (r1, r2) := by rw [if_neg (show ¬ (false = true) by decide)] at H; exact H
    clear H
    have H := H1
    clear H1
    have H' := mk0 H
    clear H
    try go_wp2
    replace BK135 := mk0 (blk_drew BK135.out)
    replace BK136 := mk0 (blk_drew BK136.out)
    replace BK137 := mk0 (blk_drew BK137.out)
    replace HB := mk0 (below_drew1 HB.out)
    refine start_ (n := 19) (S := fun w' => w'.cell? ⟨gb135, 0, none⟩ = some (.slice A0_0 l0_0.length c0_0) ∧ w'.cell? ⟨gb136, 0, none⟩ = some (.slice A1_0 l1_0.length c1_0)) (ds := []) (bz 19 0) uP rfl rfl ⟨(blk_cell BK135.out 0).trans rfl, (blk_cell BK136.out 0).trans rfl⟩ (fun hHeld => ?_); refine with_tabW ossuaryref1_MulMatrix.tab1 ossuaryref1_MulMatrix.bits1 (fun HT_ HW_ => ?_)
    generalize w6.drew = w15 at BK135 BK136 BK137 HB hHeld ⊢
    refine pT2 0 10 (bz 19 1) HT_.out HW_.out hHeld ?_
    refine one_ (i := 1) (N := some 11) (bz 19 3) rfl rfl (pO HT_.out) uQ (fun K hK => ?_)
    refine goes_ Try.func37 uP rfl #[.agg #[.slice A0_0 l0_0.length c0_0]] uT rfl rfl ui ?_
    with_reducible refine (ossuaryref1_MatrixMay.calls k _ _ l0_0 true _ ?side1 ?side2 A7.out).mono ?_
    (case side1 => exact cB (Kd.C_below HR0_0.out HB.out))
    (case side2 => exact HC0_0.out)
    rintro e w16 ⟨rfl, hb⟩
    refine ⟨_, rfl, ?_⟩
    replace BK135 := bK BK135 hb
    replace BK136 := bK BK136 hb
    replace BK137 := bK BK137 hb
    replace HB := mk0 (below_step ul hb)
    (try clear hb)
    (try clear hb2)
    (try clear hk)
    (try clear hi)
    refine hK.out _ _ ⟨(blk_cell BK135.out 0).trans rfl, (blk_cell BK136.out 0).trans rfl⟩ (fun hHeld => ?_)
    clear hK K
    refine pM (some 11) ?_
    refine pU 2 12 (bz 19 7) HT_.out ?_
    refine pU 3 13 (bz 19 15) HT_.out ?_
    refine pT2 4 14 (bz 19 31) HT_.out HW_.out hHeld ?_
    refine one_ (i := 5) (N := some 15) (bz 19 63) rfl rfl (pO HT_.out) uQ (fun K hK => ?_)
    refine goes_ Try.func37 uP rfl #[.agg #[.slice A1_0 l1_0.length c1_0]] uT rfl rfl ui ?_
    with_reducible refine (ossuaryref1_MatrixMay.calls k _ _ l1_0 false _ ?side1 ?side2 A9.out).mono ?_
    (case side1 => exact cB (Kd.C_below HR1_0.out HB.out))
    (case side2 => exact HC1_0.out)
    rintro e w17 ⟨rfl, hb⟩
    refine ⟨_, rfl, ?_⟩
    replace BK135 := bK BK135 hb
    replace BK136 := bK BK136 hb
    replace BK137 := bK BK137 hb
    replace HB := mk0 (below_step ul hb)
    (try clear hb)
    (try clear hb2)
    (try clear hk)
    (try clear hi)
    refine hK.out _ _ ⟨(blk_cell BK135.out 0).trans rfl, (blk_cell BK136.out 0).trans rfl⟩ (fun hHeld => ?_)
    clear hK K
    refine pM (some 15) ?_
    refine pU 6 16 (bz 19 127) HT_.out ?_
    refine pU 7 17 (bz 19 255) HT_.out ?_
    refine pU 8 18 (bz 19 511) HT_.out ?_
    refine pN 9 19 (bz 19 1023) HT_.out ?_
    refine pN 10 20 (bz 19 2047) HT_.out ?_
    refine pN 11 21 (bz 19 4095) HT_.out ?_
    refine pN 12 22 (bz 19 8191) HT_.out ?_
    refine pN 13 23 (bz 19 16383) HT_.out ?_
    refine pN 14 24 (bz 19 32767) HT_.out ?_
    refine pN 15 25 (bz 19 65535) HT_.out ?_
    refine pN 16 26 (bz 19 131071) HT_.out ?_
    refine pN 17 27 (bz 19 262143) HT_.out ?_
    refine pU 18 28 (bz 19 524287) HT_.out ?_
    refine done_ (done_of HT_.out uP) ?_
    try go_wp2
    go_meet
    case rel => exact ⟨_, (true), uJ, H', ⟨uL⟩, ⟨bB BK135.out⟩, ⟨bB BK136.out⟩, ⟨bB BK137.out⟩, ⟨ul⟩⟩
  ·replace c8 := Bool.eq_false_iff.mpr c8
   subst c8
   have H1 : (ossuaryref1_MulMatrix.j0 k true l0_0 l1_0) = some (r1, r2) := by rw [if_neg (show ¬ (false = true) by decide)] at H; exact H
   clear H
   have H := H1
   clear H1
   have H' := mk0 H
   clear H
   try go_wp2
   replace BK135 := mk0 (blk_drew BK135.out)
   replace BK136 := mk0 (blk_drew BK136.out)
   replace BK137 := mk0 (blk_drew BK137.out)
   replace HB := mk0 (below_drew1 HB.out)
   refine start_ (n := 19) (S := fun w' => w'.cell? ⟨gb135, 0, none⟩ = some (.slice A0_0 l0_0.length c0_0)) (ds := []) (bz 19 0) uP rfl rfl ((blk_cell BK135.out 0).trans rfl) (fun hHeld => ?_); refine with_tabW ossuaryref1_MulMatrix.tab1 ossuaryref1_MulMatrix.bits1 (fun HT_ HW_ => ?_)
   generalize w6.drew = w18 at BK135 BK136 BK137 HB hHeld ⊢
   refine pT1 0 10 (bz 19 1) HT_.out HW_.out hHeld ?_
   refine one_ (i := 1) (N := some 11) (bz 19 3) rfl rfl (pO HT_.out) uQ (fun K hK => ?_)
   refine goes_ Try.func37 uP rfl #[.agg #[.slice A0_0 l0_0.length c0_0]] uT rfl rfl ui ?_
   with_reducible refine (ossuaryref1_MatrixMay.calls k _ _ l0_0 false _ ?side1 ?side2 A7.out).mono ?_
   (case side1 => exact cB (Kd.C_below HR0_0.out HB.out))
   (case side2 => exact HC0_0.out)
   rintro e w19 ⟨rfl, hb⟩
   refine ⟨_, rfl, ?_⟩
   replace BK135 := bK BK135 hb
   replace BK136 := bK BK136 hb
   replace BK137 := bK BK137 hb
   replace HB := mk0 (below_step ul hb)
   (try clear hb)
   (try clear hb2)
   (try clear hk)
   (try clear hi)
   refine hK.out _ _ ((blk_cell BK135.out 0).trans rfl) (fun hHeld => ?_)
   clear hK K
   refine pM (some 11) ?_
   refine pU 2 12 (bz 19 7) HT_.out ?_
   refine pU 3 13 (bz 19 15) HT_.out ?_
   refine pN 4 14 (bz 19 31) HT_.out ?_
   refine pN 5 15 (bz 19 63) HT_.out ?_
   refine pN 6 16 (bz 19 127) HT_.out ?_
   refine pU 7 17 (bz 19 255) HT_.out ?_
   refine pU 8 18 (bz 19 511) HT_.out ?_
   refine pN 9 19 (bz 19 1023) HT_.out ?_
   refine pN 10 20 (bz 19 2047) HT_.out ?_
   refine pN 11 21 (bz 19 4095) HT_.out ?_
   refine pN 12 22 (bz 19 8191) HT_.out ?_
   refine pN 13 23 (bz 19 16383) HT_.out ?_
   refine pN 14 24 (bz 19 32767) HT_.out ?_
   refine pN 15 25 (bz 19 65535) HT_.out ?_
   refine pN 16 26 (bz 19 131071) HT_.out ?_
   refine pN 17 27 (bz 19 262143) HT_.out ?_
   refine pU 18 28 (bz 19 524287) HT_.out ?_
   refine done_ (done_of HT_.out uP) ?_
   try go_wp2
   go_meet
   case rel => exact ⟨_, (true), uJ, H', ⟨uL⟩, ⟨bB BK135.out⟩, ⟨bB BK136.out⟩, ⟨bB BK137.out⟩, ⟨ul⟩⟩
 case rest =>
  clear HC3
  try clear c1
  try clear p1
  try clear q1
  try clear hx1
  try clear qi1
  try clear p2
  try clear c3
  try clear c8
  try clear c10
  try clear c11
  try clear c11b0
  try clear c11b1
  try clear c14
  try clear p14
  try clear q14
  try clear hx14
  try clear qi14
  try clear hx140_0
  try clear p140
  try clear q140
  obtain ⟨kq, x28_2, rfl, HA, HJ2, BK135, BK136, BK137, HB⟩ := hcut
  cases kq with
  | zero => exact absurd HA.out (by simp [ossuaryref1_MulMatrix.j0])
  | succ kj2 =>
   have H := HA.out
   clear HA
   simp only [ossuaryref1_MulMatrix.j0] at H
   by_cases c20 : x28_2 = true
   ·subst c20
    have H1 : (some (([] : List (List Int)), 300)) = some (r1, r2) := by rw [if_pos rfl] at H; exact H
    clear H
    have H := H1
    clear H1
    simp only [Option.some.injEq, Prod.mk.injEq] at H
    obtain ⟨rfl, rfl⟩ := H
    have hnb21 := NB137_135.out
    have hnc21 := NB135_137.out
    have hnb22 := NB137_136.out
    have hnc22 := NB136_137.out
    have hcz23_0 : wc.cell? ⟨gb137, 0, none⟩ = some (.slice none 0 0) := (blk_cell BK137.out 0).trans rfl
    have hfz23_0 := blk_frozen BK137.out 0
    go_wp2
    refine bodyPost_ret (results_ct rfl _ _ gb137 24 #[.slice none 0 0] (0, 0) _ rfl (by refine bB ?_; refine blk_put (cs := #[.slice none 0 0]) ?_ 0 _ rfl; refine bB ?_; exact BK137.out) Try.underlying24 rfl uP) rfl ?_
    exact ⟨_, uD, uh, ul⟩
   ·replace c20 := Bool.eq_false_iff.mpr c20
    subst c20
    have H1 : (if 0 < (l1_0.length : Int) then ((ossuaryref1_blank.f kj2 (l0_0.length : Int) ((rd_L2 l1_0 0).length : Int)).bind fun t142 => (ossuaryref1_MulMatrix.l0 kj2 0 l0_0 l1_0 t142)) else (none)) = some (r1, r2) := by rw [if_neg (show ¬ (false = true) by decide)] at H; exact H
    clear H
    have H := H1
    clear H1
    by_cases c24 : 0 < (l1_0.length : Int)
    ·rw [if_pos c24] at H
     have c24b0 : decide (0 < (l1_0.length : Int)) = true := decide_eq_true c24
     have c24b1 : decide (0 < l1_0.length) = true := decide_eq_true uR
     clear c24
     replace H := Option.bind_eq_some_iff.mp H
     obtain ⟨t142, A250, H⟩ := H
     replace H : (ossuaryref1_MulMatrix.l0 kj2 0 l0_0 l1_0 t142) = some (r1, r2) := H
     have A25 := mk0 A250
     clear A250
     have H' := mk0 H
     clear H
     try go_wp2
     replace BK135 := mk0 (blk_drew BK135.out)
     replace BK136 := mk0 (blk_drew BK136.out)
     replace BK137 := mk0 (blk_drew BK137.out)
     replace HB := mk0 (below_drew1 HB.out)
     have p141 : 0 ≤ (0 : Int) := uR
     have q141 : 0 < (l1_0.length : Int) := of_decide_eq_true uI
     obtain ⟨ad141, A141_0, c141_0, e141, hx141_0, hl141_0, hi141_0⟩ := at_L2 HR1_0.out 0 p141 q141
     have hw141_0 := hx141_0
     (try rw [show ((0 : Int)).toNat = 0 from rfl] at hw141_0)
     (try rw [show 0 * 1 = 0 from rfl] at hw141_0)
     (try rw [Addr.add_zero'] at hw141_0)
     cases e141
     have qi141 : (0 < l1_0.length) = True := eq_true uR
     (try rw [show ((0 : Int)).toNat = 0 from rfl] at hx141_0)
     (try rw [Addr.add_zero'] at hx141_0)
     replace hx141_0 := (HB.out.cell (World.block_lt_of_cell? w _ hx141_0)).trans hx141_0
     have HR141_0 := mk0 hi141_0
     have HC141_0 := mk0 hl141_0
     clear hi141_0 hl141_0
     replace p141 := eq_true p141
     replace q141 := eq_true q141
     refine start_ (n := 11) (S := fun w' => w'.cell? ⟨gb135, 0, none⟩ = some (.slice A0_0 l0_0.length c0_0) ∧ w'.cell? ⟨gb136, 0, none⟩ = some (.slice (some ad141) l1_0.length c1_0) ∧ w'.cell? ad141 = some (.slice A141_0 (rd_L2 l1_0 0).length c141_0)) (ds := []) (bz 11 0) uP rfl rfl ⟨(blk_cell BK135.out 0).trans rfl, (blk_cell BK136.out 0).trans rfl, ((HB.out.cell (World.block_lt_of_cell? w _ hw141_0)).trans hw141_0)⟩ (fun hHeld => ?_); refine with_tabW ossuaryref1_MulMatrix.tab3 ossuaryref1_MulMatrix.bits3 (fun HT_ HW_ => ?_)
     generalize wc.drew = w26 at BK135 BK136 BK137 HB HR141_0 hx141_0 hHeld ⊢
     refine pU 0 30 (bz 11 1) HT_.out ?_
     refine pU 3 33 (bz 11 9) HT_.out ?_
     refine pT3 1 31 (bz 11 11) HT_.out HW_.out hHeld ?_
     refine pU 2 32 (bz 11 15) HT_.out ?_
     refine pT3 4 34 (bz 11 31) HT_.out HW_.out hHeld ?_
     refine pU 5 35 (bz 11 63) HT_.out ?_
     refine pT3 6 36 (bz 11 127) HT_.out HW_.out hHeld ?_
     refine pU 7 37 (bz 11 255) HT_.out ?_
     refine join_ (σ := Value × Nat) 1 (bz 11 1023) (fun s_ => [(38, .agg #[s_.1]), (6, .pointer (some ⟨s_.2, 0, none⟩))]) (fun s_ w' => (w'.cell? ⟨gb135, 0, none⟩ = some (.slice A0_0 l0_0.length c0_0) ∧ w'.cell? ⟨gb136, 0, none⟩ = some (.slice (some ad141) l1_0.length c1_0) ∧ w'.cell? ad141 = some (.slice A141_0 (rd_L2 l1_0 0).length c141_0)) ∧ (Kd.S (Kd.slice 3 (Kd.int .i64)) 25 w' w.heap.size (fun _ => True) s_.1 t142) ∧ (w'.heap[gb135]? = some (.cells #[.slice A0_0 l0_0.length c0_0] 24 (0, 0))) ∧ (w'.heap[gb136]? = some (.cells #[.slice (some ad141) l1_0.length c1_0] 24 (0, 0))) ∧ (w'.heap[gb137]? = some (.cells #[.slice none 0 0] 24 (0, 0))) ∧ (w'.heap[s_.2]? = some (.cells #[.slice none 0 0] 24 (0, 0))) ∧ (w.heap.size ≤ s_.2) ∧ (w.heap.size ≤ s_.2) ∧ (gb135 ≠ s_.2) ∧ (s_.2 ≠ gb135) ∧ (gb136 ≠ s_.2) ∧ (s_.2 ≠ gb136) ∧ (gb137 ≠ s_.2) ∧ (s_.2 ≠ gb137) ∧ (Below w.heap.size w w')) ?_ ?_
     rotate_left
     ·intro hCont
      refine two_ (i := 8) (j := 9) (Ni := some 38) (Nj := some 6) (bz 11 511) (bz 11 767) rfl rfl rfl rfl (two_of HT_.out uP) uQ uQ (fun K hK => ?_) (fun K hK => ?_)
      ·skip
       refine goes_ Try.func66 uP rfl #[.int .i64 (l0_0.length : Int), .int .i64 ((rd_L2 l1_0 0).length : Int)] uT rfl rfl ui ?_
       with_reducible refine (ossuaryref1_blank.calls kj2 (l0_0.length : Int) ((rd_L2 l1_0 0).length : Int) t142 _ A25.out).mono ?_
       rintro e w27 ⟨v143, rfl, ho0, hb⟩
       refine ⟨_, rfl, ?_⟩
       have HO144 := mk0 (Kd.S_lower ho0 (below_size ul))
       replace BK135 := bK BK135 hb
       replace BK136 := bK BK136 hb
       replace BK137 := bK BK137 hb
       replace HB := mk0 (below_step ul hb)
       (try clear hb)
       (try clear hb2)
       (try clear hk)
       (try clear hi)
       (try clear ho0)
       refine hK.out _ _ ⟨(blk_cell BK135.out 0).trans rfl, (blk_cell BK136.out 0).trans rfl, ((HB.out.cell (World.block_lt_of_cell? w _ hw141_0)).trans hw141_0)⟩ (fun hHeld => ?_)
       clear hK K
       refine pM (some 38) ?_
       refine one_ (i := 9) (N := some 6) (bz 11 1023) rfl rfl (pO HT_.out) uQ (fun K hK => ?_)
       refine box_step uT (N := 6) uT (cs := #[.slice none 0 0]) (t := 24) uK ?_
       intro gb145 hg w28 hbox hb
       replace HO144 := mk0 (Kd.S_below (sB HO144.out) hb)
       have BK145 := mk0 (hbox)
       have GW145 := mk0 (nB hg HB)
       have GE145 := mk0 (nB hg HB)
       replace HB := mk0 (below_step ul hb)
       have NB135_145 := mk0 (nF hg BK135.out)
       have NB145_135 := mk0 (nE hg BK135.out)
       replace BK135 := bK BK135 hb
       have NB136_145 := mk0 (nF hg BK136.out)
       have NB145_136 := mk0 (nE hg BK136.out)
       replace BK136 := bK BK136 hb
       have NB137_145 := mk0 (nF hg BK137.out)
       have NB145_137 := mk0 (nE hg BK137.out)
       replace BK137 := bK BK137 hb
       clear hb hbox hg
       refine hK.out _ _ ⟨(blk_cell BK135.out 0).trans rfl, (blk_cell BK136.out 0).trans rfl, ((HB.out.cell (World.block_lt_of_cell? w _ hw141_0)).trans hw141_0)⟩ (fun hHeld => ?_)
       clear hK K
       refine pM (some 6) ?_
       exact norm_ (by simp only [putAll, Act.put, List.setIfInBounds_toArray, List.set_cons_zero, List.set_cons_succ]) (hCont (v143, gb145) _ ⟨hHeld, (sB HO144.out), (bB BK135.out), (bB BK136.out), (bB BK137.out), (bB BK145.out), GW145.out, GE145.out, NB135_145.out, NB145_135.out, NB136_145.out, NB145_136.out, NB137_145.out, NB145_137.out, ul⟩)
      ·skip
       refine box_step uT (N := 6) uT (cs := #[.slice none 0 0]) (t := 24) uK ?_
       intro gb145 hg w27 hbox hb
       have BK145 := mk0 (hbox)
       have GW145 := mk0 (nB hg HB)
       have GE145 := mk0 (nB hg HB)
       replace HB := mk0 (below_step ul hb)
       have NB135_145 := mk0 (nF hg BK135.out)
       have NB145_135 := mk0 (nE hg BK135.out)
       replace BK135 := bK BK135 hb
       have NB136_145 := mk0 (nF hg BK136.out)
       have NB145_136 := mk0 (nE hg BK136.out)
       replace BK136 := bK BK136 hb
       have NB137_145 := mk0 (nF hg BK137.out)
       have NB145_137 := mk0 (nE hg BK137.out)
       replace BK137 := bK BK137 hb
       clear hb hbox hg
       refine hK.out _ _ ⟨(blk_cell BK135.out 0).trans rfl, (blk_cell BK136.out 0).trans rfl, ((HB.out.cell (World.block_lt_of_cell? w _ hw141_0)).trans hw141_0)⟩ (fun hHeld => ?_)
       clear hK K
       refine pM (some 6) ?_
       refine one_ (i := 8) (N := some 38) (bz 11 1023) rfl rfl (pO HT_.out) uQ (fun K hK => ?_)
       refine goes_ Try.func66 uP rfl #[.int .i64 (l0_0.length : Int), .int .i64 ((rd_L2 l1_0 0).length : Int)] uT rfl rfl ui ?_
       with_reducible refine (ossuaryref1_blank.calls kj2 (l0_0.length : Int) ((rd_L2 l1_0 0).length : Int) t142 _ A25.out).mono ?_
       rintro e w28 ⟨v143, rfl, ho0, hb⟩
       refine ⟨_, rfl, ?_⟩
       have HO144 := mk0 (Kd.S_lower ho0 (below_size ul))
       replace BK135 := bK BK135 hb
       replace BK136 := bK BK136 hb
       replace BK137 := bK BK137 hb
       replace BK145 := bK BK145 hb
       replace HB := mk0 (below_step ul hb)
       (try clear hb)
       (try clear hb2)
       (try clear hk)
       (try clear hi)
       (try clear ho0)
       refine hK.out _ _ ⟨(blk_cell BK135.out 0).trans rfl, (blk_cell BK136.out 0).trans rfl, ((HB.out.cell (World.block_lt_of_cell? w _ hw141_0)).trans hw141_0)⟩ (fun hHeld => ?_)
       clear hK K
       refine pM (some 38) ?_
       exact norm_ (by simp only [putAll, Act.put, List.setIfInBounds_toArray, List.set_cons_zero, List.set_cons_succ]) (hCont (v143, gb145) _ ⟨hHeld, (sB HO144.out), (bB BK135.out), (bB BK136.out), (bB BK137.out), (bB BK145.out), GW145.out, GE145.out, NB135_145.out, NB145_135.out, NB136_145.out, NB145_136.out, NB137_145.out, NB145_137.out, ul⟩)
     rintro ⟨v143, gb145⟩ w29 ⟨hS_, h0_, h1_, h2_, h3_, h4_, h5_, h6_, h7_, h8_, h9_, h10_, h11_, h12_, h13_⟩
     have n0_ : Aside0 (Kd.S (Kd.slice 3 (Kd.int .i64)) 25 w29 w.heap.size (fun _ => True) v143 t142) := ⟨h0_⟩
     have n1_ : Aside0 (w29.heap[gb135]? = some (.cells #[.slice A0_0 l0_0.length c0_0] 24 (0, 0))) := ⟨h1_⟩
     have n2_ : Aside0 (w29.heap[gb136]? = some (.cells #[.slice (some ad141) l1_0.length c1_0] 24 (0, 0))) := ⟨h2_⟩
     have n3_ : Aside0 (w29.heap[gb137]? = some (.cells #[.slice none 0 0] 24 (0, 0))) := ⟨h3_⟩
     have n4_ : Aside0 (w29.heap[gb145]? = some (.cells #[.slice none 0 0] 24 (0, 0))) := ⟨h4_⟩
     have n5_ : Aside0 (w.heap.size ≤ gb145) := ⟨h5_⟩
     have n6_ : Aside0 (w.heap.size ≤ gb145) := ⟨h6_⟩
     have n7_ : Aside0 (gb135 ≠ gb145) := ⟨h7_⟩
     have n8_ : Aside0 (gb145 ≠ gb135) := ⟨h8_⟩
     have n9_ : Aside0 (gb136 ≠ gb145) := ⟨h9_⟩
     have n10_ : Aside0 (gb145 ≠ gb136) := ⟨h10_⟩
     have n11_ : Aside0 (gb137 ≠ gb145) := ⟨h11_⟩
     have n12_ : Aside0 (gb145 ≠ gb137) := ⟨h12_⟩
     have n13_ : Aside0 (Below w.heap.size w w29) := ⟨h13_⟩
     clear BK135 BK136 BK137 HB h0_ h1_ h2_ h3_ h4_ h5_ h6_ h7_ h8_ h9_ h10_ h11_ h12_ h13_
     have HO144 := n0_
     have BK135 := n1_
     have BK136 := n2_
     have BK137 := n3_
     have BK145 := n4_
     have GW145 := n5_
     have GE145 := n6_
     have NB135_145 := n7_
     have NB145_135 := n8_
     have NB136_145 := n9_
     have NB145_136 := n10_
     have NB137_145 := n11_
     have NB145_137 := n12_
     have HB := n13_
     clear n0_ n1_ n2_ n3_ n4_ n5_ n6_ n7_ n8_ n9_ n10_ n11_ n12_ n13_
     have hHeld : w29.cell? ⟨gb135, 0, none⟩ = some (.slice A0_0 l0_0.length c0_0) ∧ w29.cell? ⟨gb136, 0, none⟩ = some (.slice (some ad141) l1_0.length c1_0) ∧ w29.cell? ad141 = some (.slice A141_0 (rd_L2 l1_0 0).length c141_0) := hS_
     obtain ⟨Ao30, co30, eo30⟩ := Kd.S_slice HO144.out
     (first | subst eo30 | (injection eo30 with f1_ f2_ f3_; have f4_ := f1_.symm; have f5_ := f3_.symm; clear f1_ f2_ f3_; subst f4_; subst f5_))
     refine norm_ (a' := ?_) ?_ ?_
     rotate_left
     ·simp only [putAll, Act.put, List.setIfInBounds_toArray, List.set_cons_zero, List.set_cons_succ]
      rfl
     refine one_ (i := 10) (N := none) (bz 11 2047) rfl rfl (pO HT_.out) uQ (fun K hK => ?_)
     have hs31 : w29.cell? ⟨gb145, 0, none⟩ = some (.slice none 0 0) := (blk_cell BK145.out 0).trans rfl
     have hfs31 := blk_frozen BK145.out 0
     have hns31_0 := NB135_145.out
     have hns31_1 := NB136_145.out
     have hns31_2 := NB137_145.out
     have hms31_0 := NB145_135.out
     have hms31_1 := NB145_136.out
     have hms31_2 := NB145_137.out
     refine skip_ (w1 := ?_) uT rfl ?_ ?_
     rotate_left
     ·go_simp
      rfl
     refine hK.out _ _ ⟨((cell_far (p := ⟨gb145, _, none⟩) NB135_145.out _).trans (hHeld.1)), ((cell_far (p := ⟨gb145, _, none⟩) NB136_145.out _).trans (hHeld.2.1)), ((cell_far (p := ⟨gb145, _, none⟩) (by first | exact Nat.ne_of_lt (Nat.lt_of_lt_of_le uF GW145.out) | (rw [add_block]; exact Nat.ne_of_lt (Nat.lt_of_lt_of_le uF GW145.out)) | (show (Addr.add _ _).block ≠ _; rw [add_block]; exact Nat.ne_of_lt (Nat.lt_of_lt_of_le uF GW145.out)) | (dsimp only; exact Nat.ne_of_lt (Nat.lt_of_lt_of_le uF GW145.out))) _).trans (hHeld.2.2))⟩ (fun hHeld => ?_)
     clear hK K
     refine done_ (done_of HT_.out uP) ?_
     try go_wp2
     go_loopg [7] kj2 (fun kq v7 w' => ∃ (x7_2 : Int) (x146000_2 : List (List Int)) (u146000 : Value), v7 = .int .i64 x7_2 ∧ Aside0 (ossuaryref1_MulMatrix.l0 kq x7_2 l0_0 l1_0 x146000_2 = some (r1, r2)) ∧ Aside0 (kq ≤ kj2) ∧ Aside0 (Kd.S (Kd.slice 3 (Kd.int .i64)) 25 w' w.heap.size (fun _ => True) u146000 x146000_2) ∧ Aside0 (w'.heap[gb135]? = some (.cells #[(.slice A0_0 l0_0.length c0_0)] 24 (0, 0))) ∧ Aside0 (w'.heap[gb136]? = some (.cells #[(.slice (some ad141) l1_0.length c1_0)] 24 (0, 0))) ∧ Aside0 (w'.heap[gb137]? = some (.cells #[(.slice none 0 0)] 24 (0, 0))) ∧ Aside0 (w'.heap[gb145]? = some (.cells #[u146000] 24 (0, 0))) ∧ Aside0 (Below w.heap.size w w'))
     case atStart => exact ⟨(0), (t142), (.slice Ao30 t142.length co30), uJ, H', ⟨Nat.le_refl _⟩, ⟨by (with_reducible repeat (first | apply sA | apply sN | apply sD)); exact Kd.S_mono (Kd.S_far (p := ⟨gb145, 0, none⟩) (Kd.S_types HO144.out BK145.out uQ) (fun _ hk => hk.2) (.slice Ao30 t142.length co30)) (fun _ hk => trivial)⟩, ⟨by refine bB ?_; refine blk_far ?_ NB135_145.out _; refine bB ?_; exact BK135.out⟩, ⟨by refine bB ?_; refine blk_far ?_ NB136_145.out _; refine bB ?_; exact BK136.out⟩, ⟨by refine bB ?_; refine blk_far ?_ NB137_145.out _; refine bB ?_; exact BK137.out⟩, ⟨by refine bB ?_; refine blk_put (cs := #[.slice none 0 0]) ?_ 0 _ rfl; refine bB ?_; exact BK145.out⟩, ⟨ul⟩⟩
     case round =>
      clear H'
      try clear c1
      try clear p1
      try clear q1
      try clear hx1
      try clear qi1
      try clear c2
      try clear p2
      try clear c3
      try clear c6
      try clear c8
      try clear c10
      try clear c11
      try clear c11b0
      try clear c11b1
      try clear c14
      try clear p14
      try clear q14
      try clear hx14
      try clear qi14
      try clear c20
      try clear c21
      try clear c22
      try clear c24
      try clear c24b0
      try clear c24b1
      try clear hcz23_0
      try clear hfz23_0
      try clear hx140_0
      try clear hx141_0
      try clear p1
      try clear p14
      try clear p140
      try clear p141
      try clear p2
      try clear q1
      try clear q14
      try clear q140
      try clear q141
      obtain ⟨x7_2, x146000_2, u146000, rfl, HA, HK2, HO_146000, BK135, BK136, BK137, BK145, HB⟩ := hrel
      cases gk with
      | zero => exact absurd HA.out (by simp [ossuaryref1_MulMatrix.l0])
      | succ k2 =>
       have H := HA.out
       clear HA
       simp only [ossuaryref1_MulMatrix.l0] at H
       by_cases c32 : x7_2 < (x146000_2.length : Int)
       ·rw [if_pos c32] at H
        have c32b0 : decide (x7_2 < (x146000_2.length : Int)) = true := decide_eq_true c32
        clear c32
        have H' := mk0 H
        clear H
        have hnb33 := NB145_135.out
        have hnc33 := NB135_145.out
        have hnb34 := NB145_136.out
        have hnc34 := NB136_145.out
        have hnb35 := NB145_137.out
        have hnc35 := NB137_145.out
        have hcz36_0 : wr.cell? ⟨gb145, 0, none⟩ = some (u146000) := (blk_cell BK145.out 0).trans rfl
        have hfz36_0 := blk_frozen BK145.out 0
        obtain ⟨Ao37, co37, eo37⟩ := Kd.S_slice HO_146000.out
        subst eo37
        go_wp2
        go_loopg [8] k2 (fun kq v8 w' => ∃ (x8_3 : Int) (x146000_3 : List (List Int)) (u146000 : Value), v8 = .int .i64 x8_3 ∧ Aside0 (ossuaryref1_MulMatrix.l1 kq x7_2 x8_3 l0_0 l1_0 x146000_3 = some (r1, r2)) ∧ Aside0 (kq ≤ k2) ∧ Aside0 (Kd.S (Kd.slice 3 (Kd.int .i64)) 25 w' w.heap.size (fun _ => True) u146000 x146000_3) ∧ Aside0 (w'.heap[gb135]? = some (.cells #[(.slice A0_0 l0_0.length c0_0)] 24 (0, 0))) ∧ Aside0 (w'.heap[gb136]? = some (.cells #[(.slice (some ad141) l1_0.length c1_0)] 24 (0, 0))) ∧ Aside0 (w'.heap[gb137]? = some (.cells #[(.slice none 0 0)] 24 (0, 0))) ∧ Aside0 (w'.heap[gb145]? = some (.cells #[u146000] 24 (0, 0))) ∧ Aside0 (Below w.heap.size w w'))
        case atStart => exact ⟨(0), (x146000_2), (.slice Ao37 x146000_2.length co37), uJ, H', ⟨Nat.le_refl _⟩, ⟨sB HO_146000.out⟩, ⟨bB BK135.out⟩, ⟨bB BK136.out⟩, ⟨bB BK137.out⟩, ⟨bB BK145.out⟩, ⟨ul⟩⟩
        case round =>
         clear H'
         try clear c1
         try clear p1
         try clear q1
         try clear hx1
         try clear qi1
         try clear c2
         try clear p2
         try clear c3
         try clear c6
         try clear c8
         try clear c10
         try clear c11
         try clear c11b0
         try clear c11b1
         try clear c14
         try clear p14
         try clear q14
         try clear hx14
         try clear qi14
         try clear c20
         try clear c21
         try clear c22
         try clear c24
         try clear c24b0
         try clear c24b1
         try clear c32
         try clear c32b0
         try clear c33
         try clear c34
         try clear c35
         try clear c37
         try clear hcz23_0
         try clear hcz36_0
         try clear hfz23_0
         try clear hfz36_0
         try clear hx140_0
         try clear hx141_0
         try clear p1
         try clear p14
         try clear p140
         try clear p141
         try clear p2
         try clear q1
         try clear q14
         try clear q140
         try clear q141
         obtain ⟨x8_3, x146000_3, u146000, rfl, HA, HK3, HO_146000, BK135, BK136, BK137, BK145, HB⟩ := hrel
         cases gk with
         | zero => exact absurd HA.out (by simp [ossuaryref1_MulMatrix.l1])
         | succ k3 =>
          have H := HA.out
          clear HA
          simp only [ossuaryref1_MulMatrix.l1] at H
          by_cases c38 : 0 ≤ x7_2
          ·rw [if_pos c38] at H
           have c38b0 : decide (0 ≤ x7_2) = true := decide_eq_true c38
           clear c38
           by_cases c39 : x7_2 < (x146000_3.length : Int)
           ·rw [if_pos c39] at H
            have c39b0 : decide (x7_2 < (x146000_3.length : Int)) = true := decide_eq_true c39
            clear c39
            by_cases c40 : x8_3 < ((rd_L2 x146000_3 x7_2).length : Int)
            ·rw [if_pos c40] at H
             have c40b0 : decide (x8_3 < ((rd_L2 x146000_3 x7_2).length : Int)) = true := decide_eq_true c40
             clear c40
             have H' := mk0 H
             clear H
             have hnb41 := NB145_135.out
             have hnc41 := NB135_145.out
             have hnb42 := NB145_136.out
             have hnc42 := NB136_145.out
             have hnb43 := NB145_137.out
             have hnc43 := NB137_145.out
             have hcz44_0 : wr.cell? ⟨gb145, 0, none⟩ = some (u146000) := (blk_cell BK145.out 0).trans rfl
             have hfz44_0 := blk_frozen BK145.out 0
             obtain ⟨Ao45, co45, eo45⟩ := Kd.S_slice HO_146000.out
             subst eo45
             have p146 : 0 ≤ (x7_2 : Int) := of_decide_eq_true uI
             have q146 : x7_2 < (x146000_3.length : Int) := of_decide_eq_true uI
             obtain ⟨ad146, A146_0, c146_0, e146, hx146_0, hl146_0, hi146_0⟩ := at_L2 (Kd.S_reads' HO_146000.out).2.2 x7_2 p146 q146
             cases e146
             obtain ⟨ce146, hce146, hMe146, hcc146⟩ := Kd.S_get HO_146000.out [] x7_2 p146 (by first | exact q146 | exact of_decide_eq_true uI | (have e_ := (Kd.S_reads' HO_146000.out).1; omega))
             obtain ⟨ve146_0, rfl, ge146_0⟩ := hMe146
             have hv146_0 := hcc146 0 _ rfl
             rw [Nat.add_zero, show ((Kd.slice 3 (Kd.int .i64))).sz = 1 from rfl, Nat.mul_one] at hv146_0
             replace hv146_0 := Option.some.inj (hv146_0.symm.trans hx146_0)
             rw [hv146_0] at ge146_0
             have HL146_0 := mk0 (show Kd.R (Kd.int .i64) 3 _ _ _ _ (rd_L2 x146000_3 x7_2) from ge146_0)
             clear hv146_0 ge146_0
             have HX146_0 := mk0 hx146_0
             clear hcc146 hce146
             have HR146_0 := mk0 hi146_0
             have HC146_0 := mk0 hl146_0
             clear hi146_0 hl146_0
             replace p146 := eq_true p146
             replace q146 := eq_true q146
             go_wp2
             go_loopg [9] k3 (fun kq v9 w' => ∃ (x9_4 : Int) (x146000_4 : List (List Int)) (u146000 : Value), v9 = .int .i64 x9_4 ∧ Aside0 (ossuaryref1_MulMatrix.l2 kq x7_2 x8_3 x9_4 l0_0 l1_0 x146000_4 = some (r1, r2)) ∧ Aside0 (kq ≤ k3) ∧ Aside0 (Kd.S (Kd.slice 3 (Kd.int .i64)) 25 w' w.heap.size (fun _ => True) u146000 x146000_4) ∧ Aside0 (w'.heap[gb135]? = some (.cells #[(.slice A0_0 l0_0.length c0_0)] 24 (0, 0))) ∧ Aside0 (w'.heap[gb136]? = some (.cells #[(.slice (some ad141) l1_0.length c1_0)] 24 (0, 0))) ∧ Aside0 (w'.heap[gb137]? = some (.cells #[(.slice none 0 0)] 24 (0, 0))) ∧ Aside0 (w'.heap[gb145]? = some (.cells #[u146000] 24 (0, 0))) ∧ Aside0 (Below w.heap.size w w'))
             case atStart => exact ⟨(0), (x146000_3), (.slice (some ad146) x146000_3.length co45), uJ, H', ⟨Nat.le_refl _⟩, ⟨sB HO_146000.out⟩, ⟨bB BK135.out⟩, ⟨bB BK136.out⟩, ⟨bB BK137.out⟩, ⟨bB BK145.out⟩, ⟨ul⟩⟩
             case round =>
              clear H'
              try clear c1
              try clear p1
              try clear q1
              try clear hx1
              try clear qi1
              try clear c2
              try clear p2
              try clear c3
              try clear c4
              try clear c6
              try clear c8
              try clear c10
              try clear c11
              try clear c11b0
              try clear c11b1
              try clear c14
              try clear p14
              try clear q14
              try clear hx14
              try clear qi14
              try clear c20
              try clear c21
              try clear c22
              try clear c24
              try clear c24b0
              try clear c24b1
              try clear c32
              try clear c32b0
              try clear c33
              try clear c34
              try clear c35
              try clear c37
              try clear c38
              try clear c38b0
              try clear c39
              try clear c39b0
              try clear c40
              try clear c40b0
              try clear c41
              try clear c42
              try clear c43
              try clear hcz23_0
              try clear hcz36_0
              try clear hcz44_0
              try clear hfz23_0
              try clear hfz36_0
              try clear hfz44_0
              try clear hx140_0
              try clear hx141_0
              try clear hx146_0
              try clear p1
              try clear p14
              try clear p140
              try clear p141
              try clear p146
              try clear p2
              try clear q1
              try clear q14
              try clear q140
              try clear q141
              try clear q146
              obtain ⟨x9_4, x146000_4, u146000, rfl, HA, HK4, HO_146000, BK135, BK136, BK137, BK145, HB⟩ := hrel
              cases gk with
              | zero => exact absurd HA.out (by simp [ossuaryref1_MulMatrix.l2])
              | succ k4 =>
               have H := HA.out
               clear HA
               simp only [ossuaryref1_MulMatrix.l2] at H
               by_cases c46 : x9_4 < (l1_0.length : Int)
               ·rw [if_pos c46] at H
                have c46b0 : decide (x9_4 < (l1_0.length : Int)) = true := decide_eq_true c46
                clear c46
                by_cases c47 : 0 ≤ x7_2
                ·rw [if_pos c47] at H
                 have c47b0 : decide (0 ≤ x7_2) = true := decide_eq_true c47
                 clear c47
                 by_cases c48 : x7_2 < (x146000_4.length : Int)
                 ·rw [if_pos c48] at H
                  have c48b0 : decide (x7_2 < (x146000_4.length : Int)) = true := decide_eq_true c48
                  clear c48
                  by_cases c49 : 0 ≤ x8_3
                  ·rw [if_pos c49] at H
                   have c49b0 : decide (0 ≤ x8_3) = true := decide_eq_true c49
                   clear c49
                   by_cases c50 : x8_3 < ((rd_L2 x146000_4 x7_2).length : Int)
                   ·rw [if_pos c50] at H
                    have c50b0 : decide (x8_3 < ((rd_L2 x146000_4 x7_2).length : Int)) = true := decide_eq_true c50
                    clear c50
                    by_cases c51 : x7_2 < (l0_0.length : Int)
                    ·rw [if_pos c51] at H
                     have c51b0 : decide (x7_2 < (l0_0.length : Int)) = true := decide_eq_true c51
                     clear c51
                     by_cases c52 : 0 ≤ x9_4
                     ·rw [if_pos c52] at H
                      have c52b0 : decide (0 ≤ x9_4) = true := decide_eq_true c52
                      clear c52
                      by_cases c53 : x9_4 < ((rd_L2 l0_0 x7_2).length : Int)
                      ·rw [if_pos c53] at H
                       have c53b0 : decide (x9_4 < ((rd_L2 l0_0 x7_2).length : Int)) = true := decide_eq_true c53
                       clear c53
                       by_cases c54 : x8_3 < ((rd_L2 l1_0 x9_4).length : Int)
                       ·rw [if_pos c54] at H
                        have c54b0 : decide (x8_3 < ((rd_L2 l1_0 x9_4).length : Int)) = true := decide_eq_true c54
                        clear c54
                        replace H := Option.bind_eq_some_iff.mp H
                        obtain ⟨t154, A550, H⟩ := H
                        replace H : (ossuaryref1_MulMatrix.l2 k4 x7_2 x8_3 (wrap64 (x9_4 + 1)) l0_0 l1_0 (x146000_4.set (x7_2 : Int).toNat ((rd_L2 x146000_4 x7_2).set (x8_3 : Int).toNat (Go.bits .xor .i64 (rd (rd_L2 x146000_4 x7_2) x8_3) t154)))) = some (r1, r2) := H
                        have A55 := mk0 A550
                        clear A550
                        obtain ⟨y155, hy155⟩ : ∃ y_ : List Int, y_ = ((rd_L2 x146000_4 x7_2).set (x8_3 : Int).toNat (Go.bits .xor .i64 (rd (rd_L2 x146000_4 x7_2) x8_3) t154)) := ⟨_, rfl⟩
                        replace H : (ossuaryref1_MulMatrix.l2 k4 x7_2 x8_3 (wrap64 (x9_4 + 1)) l0_0 l1_0 (x146000_4.set (x7_2 : Int).toNat y155)) = some (r1, r2) := by first | (rw [hy155]; with_reducible exact H) | (have H2_ := (Option.bind_some _ _).symm.trans H; rw [hy155]; with_reducible exact H2_) | (have H2_ := (Option.bind_some _ _).symm.trans H; with_reducible exact H2_) | with_reducible exact H | (rw [hy155]; exact H) | exact H
                        have Ny155 := mk0 hy155
                        clear hy155
                        obtain ⟨y157, hy157⟩ : ∃ y_ : List (List Int), y_ = (x146000_4.set (x7_2 : Int).toNat y155) := ⟨_, rfl⟩
                        replace H : (ossuaryref1_MulMatrix.l2 k4 x7_2 x8_3 (wrap64 (x9_4 + 1)) l0_0 l1_0 y157) = some (r1, r2) := by first | (rw [hy157]; with_reducible exact H) | (have H2_ := (Option.bind_some _ _).symm.trans H; rw [hy157]; with_reducible exact H2_) | (have H2_ := (Option.bind_some _ _).symm.trans H; with_reducible exact H2_) | with_reducible exact H | (rw [hy157]; exact H) | exact H
                        have Ny157 := mk0 hy157
                        clear hy157
                        have H' := mk0 H
                        clear H
                        have hnb57 := NB136_135.out
                        have hnc57 := NB135_136.out
                        have hnb58 := NB136_137.out
                        have hnc58 := NB137_136.out
                        have hnb59 := NB136_145.out
                        have hnc59 := NB145_136.out
                        have hcz60_0 : wr.cell? ⟨gb136, 0, none⟩ = some (.slice (some ad141) l1_0.length c1_0) := (blk_cell BK136.out 0).trans rfl
                        have hfz60_0 := blk_frozen BK136.out 0
                        try go_wp2
                        replace HO_146000 := mk0 (Kd.S_drew HO_146000.out)
                        replace BK135 := mk0 (blk_drew BK135.out)
                        replace BK136 := mk0 (blk_drew BK136.out)
                        replace BK137 := mk0 (blk_drew BK137.out)
                        replace BK145 := mk0 (blk_drew BK145.out)
                        replace HB := mk0 (below_drew1 HB.out)
                        obtain ⟨Ao62, co62, eo62⟩ := Kd.S_slice HO_146000.out
                        (first | subst eo62 | (injection eo62 with f1_ f2_ f3_; have f4_ := f1_.symm; have f5_ := f3_.symm; clear f1_ f2_ f3_; subst f4_; subst f5_))
                        have p147 : 0 ≤ (x7_2 : Int) := of_decide_eq_true uI
                        have q147 : x7_2 < (x146000_4.length : Int) := of_decide_eq_true uI
                        obtain ⟨ad147, A147_0, c147_0, e147, hx147_0, hl147_0, hi147_0⟩ := at_L2 (Kd.S_reads' HO_146000.out).2.2 x7_2 p147 q147
                        cases e147
                        obtain ⟨ce147, hce147, hMe147, hcc147⟩ := Kd.S_get HO_146000.out [] x7_2 p147 (by first | exact q147 | exact of_decide_eq_true uI | (have e_ := (Kd.S_reads' HO_146000.out).1; omega))
                        obtain ⟨ve147_0, rfl, ge147_0⟩ := hMe147
                        have hv147_0 := hcc147 0 _ rfl
                        rw [Nat.add_zero, show ((Kd.slice 3 (Kd.int .i64))).sz = 1 from rfl, Nat.mul_one] at hv147_0
                        replace hv147_0 := Option.some.inj (hv147_0.symm.trans hx147_0)
                        rw [hv147_0] at ge147_0
                        have HL147_0 := mk0 (show Kd.R (Kd.int .i64) 3 _ _ _ _ (rd_L2 x146000_4 x7_2) from ge147_0)
                        clear hv147_0 ge147_0
                        have HX147_0 := mk0 hx147_0
                        clear hcc147 hce147
                        have HR147_0 := mk0 hi147_0
                        have HC147_0 := mk0 hl147_0
                        clear hi147_0 hl147_0
                        replace p147 := eq_true p147
                        replace q147 := eq_true q147
                        have p148 : 0 ≤ (x7_2 : Int) := of_decide_eq_true uI
                        have q148 : x7_2 < (x146000_4.length : Int) := of_decide_eq_true uI
                        obtain ⟨ad148, A148_0, c148_0, e148, hx148_0, hl148_0, hi148_0⟩ := at_L2 (Kd.S_reads' HO_146000.out).2.2 x7_2 p148 q148
                        obtain rfl : ad147 = ad148 := (by injection e148)
                        obtain ⟨ce148, hce148, hMe148, hcc148⟩ := Kd.S_get HO_146000.out [] x7_2 p148 (by first | exact q148 | exact of_decide_eq_true uI | (have e_ := (Kd.S_reads' HO_146000.out).1; omega))
                        obtain ⟨ve148_0, rfl, ge148_0⟩ := hMe148
                        have hv148_0 := hcc148 0 _ rfl
                        rw [Nat.add_zero, show ((Kd.slice 3 (Kd.int .i64))).sz = 1 from rfl, Nat.mul_one] at hv148_0
                        replace hv148_0 := Option.some.inj (hv148_0.symm.trans hx148_0)
                        rw [hv148_0] at ge148_0
                        have HL148_0 := mk0 (show Kd.R (Kd.int .i64) 3 _ _ _ _ (rd_L2 x146000_4 x7_2) from ge148_0)
                        clear hv148_0 ge148_0
                        have HX148_0 := mk0 hx148_0
                        clear hcc148 hce148
                        have HR148_0 := mk0 hi148_0
                        have HC148_0 := mk0 hl148_0
                        clear hi148_0 hl148_0
                        replace p148 := eq_true p148
                        replace q148 := eq_true q148
                        have ea_ := Option.some.inj (hx147_0.symm.trans hx148_0)
                        injection ea_ with ea_ en_ ec_
                        subst ea_
                        subst ec_
                        clear en_
                        have p149 : 0 ≤ (x8_3 : Int) := of_decide_eq_true uI
                        have q149 : x8_3 < ((rd_L2 x146000_4 x7_2).length : Int) := of_decide_eq_true uI
                        obtain ⟨ad149, e149, hx149_0⟩ := Kd.at_int (by repeat (first | (with_reducible exact HR148_0.out) | (with_reducible refine Kd.C_alloc ?_ _) | (with_reducible refine Kd.C_drewN ?_ _) | (with_reducible refine Kd.C_drew ?_) | exact HR148_0.out)) x8_3 p149 q149
                        cases e149
                        replace p149 := eq_true p149
                        replace q149 := eq_true q149
                        have p150 : 0 ≤ (x7_2 : Int) := of_decide_eq_true uI
                        have q150 : x7_2 < (l0_0.length : Int) := of_decide_eq_true uI
                        obtain ⟨ad150, A150_0, c150_0, e150, hx150_0, hl150_0, hi150_0⟩ := at_L2 HR0_0.out x7_2 p150 q150
                        have hw150_0 := hx150_0
                        cases e150
                        replace hx150_0 := (HB.out.cell (World.block_lt_of_cell? w _ hx150_0)).trans hx150_0
                        have HR150_0 := mk0 hi150_0
                        have HC150_0 := mk0 hl150_0
                        clear hi150_0 hl150_0
                        replace p150 := eq_true p150
                        replace q150 := eq_true q150
                        have p151 : 0 ≤ (x9_4 : Int) := of_decide_eq_true uI
                        have q151 : x9_4 < ((rd_L2 l0_0 x7_2).length : Int) := of_decide_eq_true uI
                        obtain ⟨ad151, e151, hx151_0⟩ := Kd.at_int HR150_0.out x9_4 p151 q151
                        have hw151_0 := hx151_0
                        cases e151
                        replace hx151_0 := (HB.out.cell (World.block_lt_of_cell? w _ hx151_0)).trans hx151_0
                        replace p151 := eq_true p151
                        replace q151 := eq_true q151
                        have p152 : 0 ≤ (x9_4 : Int) := of_decide_eq_true uI
                        have q152 : x9_4 < (l1_0.length : Int) := of_decide_eq_true uI
                        obtain ⟨ad152, A152_0, c152_0, e152, hx152_0, hl152_0, hi152_0⟩ := at_L2 HR1_0.out x9_4 p152 q152
                        have hw152_0 := hx152_0
                        obtain rfl : ad141 = ad152 := (by injection e152)
                        replace hx152_0 := (HB.out.cell (World.block_lt_of_cell? w _ hx152_0)).trans hx152_0
                        have HR152_0 := mk0 hi152_0
                        have HC152_0 := mk0 hl152_0
                        clear hi152_0 hl152_0
                        replace p152 := eq_true p152
                        replace q152 := eq_true q152
                        have p153 : 0 ≤ (x8_3 : Int) := of_decide_eq_true uI
                        have q153 : x8_3 < ((rd_L2 l1_0 x9_4).length : Int) := of_decide_eq_true uI
                        obtain ⟨ad153, e153, hx153_0⟩ := Kd.at_int HR152_0.out x8_3 p153 q153
                        have hw153_0 := hx153_0
                        cases e153
                        replace hx153_0 := (HB.out.cell (World.block_lt_of_cell? w _ hx153_0)).trans hx153_0
                        replace p153 := eq_true p153
                        replace q153 := eq_true q153
                        refine start_ (n := 34) (S := fun w' => w'.cell? ⟨gb145, 0, none⟩ = some (.slice (some ad147) x146000_4.length co62) ∧ w'.cell? ⟨gb135, 0, none⟩ = some (.slice (some ad150) l0_0.length c0_0) ∧ w'.cell? ⟨gb136, 0, none⟩ = some (.slice (some ad141) l1_0.length c1_0) ∧ w'.cell? (ad147.add (x7_2).toNat) = some (.slice (some ad149) (rd_L2 x146000_4 x7_2).length c147_0) ∧ w'.cell? (ad147.add (x7_2).toNat) = some (.slice (some ad149) (rd_L2 x146000_4 x7_2).length c147_0) ∧ w'.cell? (ad149.add (x8_3).toNat) = some (.int .i64 (rd (rd_L2 x146000_4 x7_2) x8_3)) ∧ w'.cell? (ad150.add (x7_2).toNat) = some (.slice (some ad151) (rd_L2 l0_0 x7_2).length c150_0) ∧ w'.cell? (ad151.add (x9_4).toNat) = some (.int .i64 (rd (rd_L2 l0_0 x7_2) x9_4)) ∧ w'.cell? (ad141.add (x9_4).toNat) = some (.slice (some ad153) (rd_L2 l1_0 x9_4).length c152_0) ∧ w'.cell? (ad153.add (x8_3).toNat) = some (.int .i64 (rd (rd_L2 l1_0 x9_4) x8_3))) (ds := [33]) (bz 34 0) uP rfl rfl ⟨(blk_cell BK145.out 0).trans rfl, (blk_cell BK135.out 0).trans rfl, (blk_cell BK136.out 0).trans rfl, hx147_0, hx148_0, hx149_0, ((HB.out.cell (World.block_lt_of_cell? w _ hw150_0)).trans hw150_0), ((HB.out.cell (World.block_lt_of_cell? w _ hw151_0)).trans hw151_0), ((HB.out.cell (World.block_lt_of_cell? w _ hw152_0)).trans hw152_0), ((HB.out.cell (World.block_lt_of_cell? w _ hw153_0)).trans hw153_0)⟩ (fun hHeld => ?_); refine with_tabW ossuaryref1_MulMatrix.tab13 ossuaryref1_MulMatrix.bits13 (fun HT_ HW_ => ?_)
                        generalize wr.drew = w61 at HO_146000 BK135 BK136 BK137 BK145 HB HL147_0 HL148_0 HR147_0 HR148_0 HR150_0 HR152_0 HX147_0 HX148_0 hx147_0 hx148_0 hx149_0 hx150_0 hx151_0 hx152_0 hx153_0 hHeld ⊢
                        refine pU 0 63 (bz 34 1) HT_.out ?_
                        refine pU 2 65 (bz 34 5) HT_.out ?_
                        refine pU 5 68 (bz 34 37) HT_.out ?_
                        refine pU 6 69 (bz 34 101) HT_.out ?_
                        refine pU 8 71 (bz 34 357) HT_.out ?_
                        refine pU 11 74 (bz 34 2405) HT_.out ?_
                        refine pU 14 77 (bz 34 18789) HT_.out ?_
                        refine pU 16 79 (bz 34 84325) HT_.out ?_
                        refine pU 19 82 (bz 34 608613) HT_.out ?_
                        refine pU 22 85 (bz 34 4802917) HT_.out ?_
                        refine pU 24 87 (bz 34 21580133) HT_.out ?_
                        refine pU 27 90 (bz 34 155797861) HT_.out ?_
                        refine pT10 1 64 (bz 34 155797863) HT_.out HW_.out hHeld ?_
                        refine pU 3 66 (bz 34 155797871) HT_.out ?_
                        refine pT10 4 67 (bz 34 155797887) HT_.out HW_.out hHeld ?_
                        refine pT10 7 70 (bz 34 155798015) HT_.out HW_.out hHeld ?_
                        refine pU 9 72 (bz 34 155798527) HT_.out ?_
                        refine pT10 10 73 (bz 34 155799551) HT_.out HW_.out hHeld ?_
                        refine pU 12 75 (bz 34 155803647) HT_.out ?_
                        refine pT10 13 76 (bz 34 155811839) HT_.out HW_.out hHeld ?_
                        refine pT10 15 78 (bz 34 155844607) HT_.out HW_.out hHeld ?_
                        refine pU 17 80 (bz 34 155975679) HT_.out ?_
                        refine pT10 18 81 (bz 34 156237823) HT_.out HW_.out hHeld ?_
                        refine pU 20 83 (bz 34 157286399) HT_.out ?_
                        refine pT10 21 84 (bz 34 159383551) HT_.out HW_.out hHeld ?_
                        refine pT10 23 86 (bz 34 167772159) HT_.out HW_.out hHeld ?_
                        refine pU 25 88 (bz 34 201326591) HT_.out ?_
                        refine pT10 26 89 (bz 34 268435455) HT_.out HW_.out hHeld ?_
                        refine pU 28 91 (bz 34 536870911) HT_.out ?_
                        refine pT10 29 92 (bz 34 1073741823) HT_.out HW_.out hHeld ?_
                        refine one_ (i := 30) (N := some 93) (bz 34 2147483647) rfl rfl (pO HT_.out) uQ (fun K hK => ?_)
                        refine goes_ Try.func67 uP rfl #[.int .i64 (rd (rd_L2 l0_0 x7_2) x9_4), .int .i64 (rd (rd_L2 l1_0 x9_4) x8_3)] uT rfl rfl ui ?_
                        with_reducible refine (ossuaryref1_mul.calls k4 (rd (rd_L2 l0_0 x7_2) x9_4) (rd (rd_L2 l1_0 x9_4) x8_3) t154 _ A55.out).mono ?_
                        rintro e w' ⟨rfl, ⟨nd, rfl⟩⟩
                        refine ⟨_, rfl, ?_⟩
                        have p56 : 0 ≤ (x8_3 : Int) := of_decide_eq_true uI
                        have q56 : (x8_3 : Int) < (((rd_L2 x146000_4 x7_2).length : Int) : Int) := of_decide_eq_true uI
                        obtain ⟨go56, co56, eo56, gb56, gl56, cl56, HG56⟩ := Kd.R_form HL147_0.out uR
                        (first | cases eo56 | (injection eo56 with ea_ en_ ec_; (first | subst ea_ | (injection ea_ with ea_; subst ea_)); subst ec_; clear en_))
                        have GB56 := mk0 gb56
                        have GG56 := mk0 HG56
                        clear gb56 gl56 HG56
                        (first | simp only [add_plain] at hx149_0 | skip)
                        obtain ⟨hx56_0, hf56_0⟩ := Kd.R_celln 0 HL147_0.out (x8_3 : Int) p56 q56
                        replace p56 := eq_true p56
                        replace q56 := eq_true q56
                        have hq63 : (x7_2 : Int) < (x146000_4.length : Int) := (by have h_ : (x7_2 : Int) < ((x146000_4.length : Int) : Int) := of_decide_eq_true uI; first | exact h_ | (have e_ := (Kd.S_reads' HO_146000.out).1; omega) | simpa only [List.length_set, List.length_set] using h_)
                        obtain ⟨oki63, ce63, hcl63, hM63, hcc63, hok63, hbk63⟩ := Kd.S_borrow HO_146000.out [] (x7_2 : Int) (of_decide_eq_true uI) hq63
                        obtain ⟨ve63_0, rfl, ge63_0⟩ := hM63
                        have hv63 := hcc63 0 _ rfl
                        rw [Nat.add_zero, show ((Kd.slice 3 (Kd.int .i64))).sz = 1 from rfl, Nat.mul_one] at hv63
                        replace hv63 := Option.some.inj (hv63.symm.trans HX147_0.out)
                        subst hv63
                        clear hcc63 hcl63
                        replace ge63_0 := (show Kd.R (Kd.int .i64) 3 _ _ _ _ (rd_L2 x146000_4 x7_2) from ge63_0)
                        have HP63 := Kd.R_putg ge63_0 (x8_3 : Int) (Go.bits .xor .i64 (rd (rd_L2 x146000_4 x7_2) x8_3) t154)
                        rw [← Ny155.out] at HP63
                        have HS63 := hbk63 HP63.2 (fun k_ e_ => by injection e_ with e_; subst e_; exact ge63_0.1 _ rfl) (x' := y155) (Kd.M_row HP63.1)
                        rw [← Ny157.out] at HS63
                        have HQ63 := mk0 HS63
                        clear HP63 HS63 hbk63 hok63
                        refine hK.out _ _ ⟨(blk_cell BK145.out 0).trans rfl, (blk_cell BK135.out 0).trans rfl, (blk_cell BK136.out 0).trans rfl, hHeld.2.2.2.1, hHeld.2.2.2.2.1, hHeld.2.2.2.2.2.1, ((HB.out.cell (World.block_lt_of_cell? w _ hw150_0)).trans hw150_0), ((HB.out.cell (World.block_lt_of_cell? w _ hw151_0)).trans hw151_0), ((HB.out.cell (World.block_lt_of_cell? w _ hw152_0)).trans hw152_0), ((HB.out.cell (World.block_lt_of_cell? w _ hw153_0)).trans hw153_0)⟩ (fun hHeld => ?_)
                        clear hK K
                        refine pM (some 93) ?_
                        refine pU 31 94 (bz 34 4294967295) HT_.out ?_
                        refine pU 32 95 (bz 34 8589934591) HT_.out ?_
                        refine last_ (i := 33) (N := none) (bz 34 17179869183) rfl rfl (pO HT_.out) uQ (fun K hK => ?_)
                        refine skip_ (w1 := ?_) uT rfl ?_ ?_
                        rotate_left
                        ·go_simp
                         rfl
                        refine hK.out _ _ ?_
                        clear hK K
                        refine done_ (done_of HT_.out uP) ?_
                        try go_wp2
                        go_roundg k4
                        case measure => have := HJ2.out; have := HK2.out; have := HK3.out; have := HK4.out; omega
                        case rel => exact ⟨(wrap64 (x9_4 + 1)), (y157), (.slice (some ad147) x146000_4.length co62), uJ, H', ⟨by have := HJ2.out; have := HK2.out; have := HK3.out; have := HK4.out; omega⟩, ⟨sB HQ63.out⟩, ⟨by refine bB ?_; refine blk_far ?_ (by have h_ := Kd.R_ne HL147_0.out BK135.out uQ; intro e_; exact h_ (by rw [e_]; rfl)) _; refine bB ?_; exact BK135.out⟩, ⟨by refine bB ?_; refine blk_far ?_ (by have h_ := Kd.R_ne HL147_0.out BK136.out uQ; intro e_; exact h_ (by rw [e_]; rfl)) _; refine bB ?_; exact BK136.out⟩, ⟨by refine bB ?_; refine blk_far ?_ (by have h_ := Kd.R_ne HL147_0.out BK137.out uQ; intro e_; exact h_ (by rw [e_]; rfl)) _; refine bB ?_; exact BK137.out⟩, ⟨by refine bB ?_; refine blk_far ?_ (by have h_ := Kd.R_ne HL147_0.out BK145.out uQ; intro e_; exact h_ (by rw [e_]; rfl)) _; refine bB ?_; exact BK145.out⟩, ⟨by repeat (first | (with_reducible first | exact HB.out | apply lA | apply lN | apply lD | refine below_set ?_ GB56.out | refine below_set ?_ GE135.out | refine below_set ?_ GE136.out | refine below_set ?_ GE137.out | refine below_set ?_ GE145.out) | exact HB.out)⟩⟩
                       ·rw [if_neg c54] at H
                        exact absurd H uS
                      ·rw [if_neg c53] at H
                       exact absurd H uS
                     ·rw [if_neg c52] at H
                      exact absurd H uS
                    ·rw [if_neg c51] at H
                     exact absurd H uS
                   ·rw [if_neg c50] at H
                    exact absurd H uS
                  ·rw [if_neg c49] at H
                   exact absurd H uS
                 ·rw [if_neg c48] at H
                  exact absurd H uS
                ·rw [if_neg c47] at H
                 exact absurd H uS
               ·rw [if_neg c46] at H
                have c46b0 : decide (x9_4 < (l1_0.length : Int)) = false := decide_eq_false c46
                clear c46
                have H' := mk0 H
                clear H
                have hnb65 := NB136_135.out
                have hnc65 := NB135_136.out
                have hnb66 := NB136_137.out
                have hnc66 := NB137_136.out
                have hnb67 := NB136_145.out
                have hnc67 := NB145_136.out
                have hcz68_0 : wr.cell? ⟨gb136, 0, none⟩ = some (.slice (some ad141) l1_0.length c1_0) := (blk_cell BK136.out 0).trans rfl
                have hfz68_0 := blk_frozen BK136.out 0
                go_wp2
                go_roundg k4
                case measure => have := HJ2.out; have := HK2.out; have := HK3.out; have := HK4.out; omega
                case rel => exact ⟨(wrap64 (x8_3 + 1)), (x146000_4), (u146000), uJ, H', ⟨by have := HJ2.out; have := HK2.out; have := HK3.out; have := HK4.out; omega⟩, ⟨sB HO_146000.out⟩, ⟨bB BK135.out⟩, ⟨bB BK136.out⟩, ⟨bB BK137.out⟩, ⟨bB BK145.out⟩, ⟨ul⟩⟩
            ·rw [if_neg c40] at H
             have c40b0 : decide (x8_3 < ((rd_L2 x146000_3 x7_2).length : Int)) = false := decide_eq_false c40
             clear c40
             have H' := mk0 H
             clear H
             have hnb69 := NB145_135.out
             have hnc69 := NB135_145.out
             have hnb70 := NB145_136.out
             have hnc70 := NB136_145.out
             have hnb71 := NB145_137.out
             have hnc71 := NB137_145.out
             have hcz72_0 : wr.cell? ⟨gb145, 0, none⟩ = some (u146000) := (blk_cell BK145.out 0).trans rfl
             have hfz72_0 := blk_frozen BK145.out 0
             obtain ⟨Ao73, co73, eo73⟩ := Kd.S_slice HO_146000.out
             subst eo73
             have p146 : 0 ≤ (x7_2 : Int) := of_decide_eq_true uI
             have q146 : x7_2 < (x146000_3.length : Int) := of_decide_eq_true uI
             obtain ⟨ad146, A146_0, c146_0, e146, hx146_0, hl146_0, hi146_0⟩ := at_L2 (Kd.S_reads' HO_146000.out).2.2 x7_2 p146 q146
             cases e146
             obtain ⟨ce146, hce146, hMe146, hcc146⟩ := Kd.S_get HO_146000.out [] x7_2 p146 (by first | exact q146 | exact of_decide_eq_true uI | (have e_ := (Kd.S_reads' HO_146000.out).1; omega))
             obtain ⟨ve146_0, rfl, ge146_0⟩ := hMe146
             have hv146_0 := hcc146 0 _ rfl
             rw [Nat.add_zero, show ((Kd.slice 3 (Kd.int .i64))).sz = 1 from rfl, Nat.mul_one] at hv146_0
             replace hv146_0 := Option.some.inj (hv146_0.symm.trans hx146_0)
             rw [hv146_0] at ge146_0
             have HL146_0 := mk0 (show Kd.R (Kd.int .i64) 3 _ _ _ _ (rd_L2 x146000_3 x7_2) from ge146_0)
             clear hv146_0 ge146_0
             have HX146_0 := mk0 hx146_0
             clear hcc146 hce146
             have HR146_0 := mk0 hi146_0
             have HC146_0 := mk0 hl146_0
             clear hi146_0 hl146_0
             replace p146 := eq_true p146
             replace q146 := eq_true q146
             go_wp2
             go_roundg k3
             case measure => have := HJ2.out; have := HK2.out; have := HK3.out; omega
             case rel => exact ⟨(wrap64 (x7_2 + 1)), (x146000_3), (.slice (some ad146) x146000_3.length co73), uJ, H', ⟨by have := HJ2.out; have := HK2.out; have := HK3.out; omega⟩, ⟨sB HO_146000.out⟩, ⟨bB BK135.out⟩, ⟨bB BK136.out⟩, ⟨bB BK137.out⟩, ⟨bB BK145.out⟩, ⟨ul⟩⟩
           ·rw [if_neg c39] at H
            exact absurd H uS
          ·rw [if_neg c38] at H
           exact absurd H uS
       ·rw [if_neg c32] at H
        have c32b0 : decide (x7_2 < (x146000_2.length : Int)) = false := decide_eq_false c32
        clear c32
        simp only [Option.some.injEq, Prod.mk.injEq] at H
        obtain ⟨rfl, rfl⟩ := H
        have hnb74 := NB145_135.out
        have hnc74 := NB135_145.out
        have hnb75 := NB145_136.out
        have hnc75 := NB136_145.out
        have hnb76 := NB145_137.out
        have hnc76 := NB137_145.out
        have hcz77_0 : wr.cell? ⟨gb145, 0, none⟩ = some (u146000) := (blk_cell BK145.out 0).trans rfl
        have hfz77_0 := blk_frozen BK145.out 0
        obtain ⟨Ao78, co78, eo78⟩ := Kd.S_slice HO_146000.out
        subst eo78
        have hnb79 := NB137_135.out
        have hnc79 := NB135_137.out
        have hnb80 := NB137_136.out
        have hnc80 := NB136_137.out
        have hcz81_0 : wr.cell? ⟨gb137, 0, none⟩ = some (.slice none 0 0) := (blk_cell BK137.out 0).trans rfl
        have hfz81_0 := blk_frozen BK137.out 0
        go_wp2
        refine bodyPost_ret (results_ct rfl _ _ gb137 24 #[.slice Ao78 x146000_2.length co78] (0, 0) _ rfl (by refine bB ?_; refine blk_put (cs := #[.slice none 0 0]) ?_ 0 _ rfl; refine bB ?_; exact BK137.out) Try.underlying24 rfl uP) rfl ?_
        exact ⟨_, uD, by (with_reducible repeat (first | apply sA | apply sN | apply sD)); exact Kd.S_mono (Kd.S_far (p := ⟨gb137, 0, none⟩) (Kd.S_types HO_146000.out BK137.out uQ) (fun _ hk => hk.2) (.slice Ao78 x146000_2.length co78)) (fun _ hk => trivial), ul⟩
    ·rw [if_neg c24] at H
     exact absurd H uS
end Go.Proofs.Ytaahnicjjpddjaa.GRef
