/- Functions of the program as Lean functions, each with a proof that its call comes to what the function says. No condition. -/
import Derived.Test.YtaahnicjjpddjaaKRebuildsGRenc1
namespace Go.Proofs.Ytaahnicjjpddjaa.GRenc
open Go.Proofs.Ytaahnicjjpddjaa.Fn
open Go.Proofs.Ytaahnicjjpddjaa
open Go.RowKit Go.Proofs.YtaahnicjjpddjaaW.PrintWords Go.Proofs.YtaahnicjjpddjaaW.PrintLast
set_option linter.unusedVariables false
set_option linter.unusedSimpArgs false
mutual
noncomputable def ossuaryref1_Decode.j0 : Nat → List ByteArray → List Bool → Bool → Int → Int → Option (List ByteArray × Int)
 | 0, _, _, _, _, _ => none
 | k + 1, x1, x2, x40, x119000, x119001 => if x40 = true then (some (([] : List ByteArray), 700)) else (ossuaryref1_Decode.l0 k x1 x2 ([] : List Int) ([] : List ByteArray) 0 x119000 x119001)
noncomputable def ossuaryref1_Decode.l0 : Nat → List ByteArray → List Bool → List Int → List ByteArray → Int → Int → Int → Option (List ByteArray × Int)
 | 0, _, _, _, _, _, _, _ => none
 | k + 1, x1, x2, x8, x9, x10, x119000, x119001 => if x10 < (x2.length : Int) then (if 0 ≤ x10 then (if rdOf false x2 x10 = true then (if x8.length < 17592186044416 then (if x10 < (x1.length : Int) then (if x9.length < 8796093022208 then (ossuaryref1_Decode.l0 k x1 x2 (x8 ++ [x10]) (x9 ++ [rdOf ByteArray.empty x1 x10]) (wrap64 (x10 + 1)) x119000 x119001) else (none)) else (none)) else (none)) else (ossuaryref1_Decode.l0 k x1 x2 x8 x9 (wrap64 (x10 + 1)) x119000 x119001)) else (none)) else ((GRef.ossuaryref1_alike.f k x9).bind fun t128 => (if t128 = true then (if (x8.length : Int) < x119000 then (some (([] : List ByteArray), 701)) else ((GRgen.ossuaryref1_Gen.f k x119000 x119001).bind fun bt129 => (if 0 ≤ x119000 then (if x119000 ≤ (x8.length : Int) then ((GRef.ossuaryref1_Pick.f k bt129.1 (x8.take (x119000 : Int).toNat)).bind fun bt138 => ((Pr.inv.f bt138.1).bind fun bt143 => (ossuaryref1_Decode.l1 k x9 ([] : List ByteArray) 0 x119000 x119001 bt143.1))) else (none)) else (none)))) else (some (([] : List ByteArray), 700))))
noncomputable def ossuaryref1_Decode.l1 : Nat → List ByteArray → List ByteArray → Int → Int → Int → List (List Int) → Option (List ByteArray × Int)
 | 0, _, _, _, _, _, _ => none
 | k + 1, x9, x17, x18, x119000, x119001, x148000 => if x18 < x119000 then (if 0 ≤ x18 then (if x18 < (x148000.length : Int) then (if 0 ≤ x119000 then (if x119000 ≤ (x9.length : Int) then ((GRef.ossuaryref1_Combine.f k (rd_L1 x148000 x18) (x9.take (x119000 : Int).toNat)).bind fun bt153 => (if x17.length < 8796093022208 then (ossuaryref1_Decode.l1 k x9 (x17 ++ [bt153.1]) (wrap64 (x18 + 1)) x119000 x119001 x148000) else (none))) else (none)) else (none)) else (none)) else (none)) else (some (x17, 0))
end
noncomputable def ossuaryref1_Decode.f (k : Nat) (a0_0 : Int) (a0_1 : Int) (l1 : List ByteArray) (l2 : List Bool) : Option (List ByteArray × Int) := (GRef.ossuaryref1_ShapeMay.f a0_0 a0_1).bind fun t119 => (if t119 = true then (if (l1.length : Int) = (wrap64 (a0_0 + a0_1)) then (ossuaryref1_Decode.j0 k l1 l2 ((l2.length : Int) != (l1.length : Int)) a0_0 a0_1) else (ossuaryref1_Decode.j0 k l1 l2 true a0_0 a0_1)) else (ossuaryref1_Decode.j0 k l1 l2 true a0_0 a0_1))
theorem ossuaryref1_Decode.mono_l : ∀ k, (∀ y0 y1 y2 y3 y4, LeO (ossuaryref1_Decode.j0 k y0 y1 y2 y3 y4) (ossuaryref1_Decode.j0 (k + 1) y0 y1 y2 y3 y4)) ∧ (∀ y0 y1 y2 y3 y4 y5 y6, LeO (ossuaryref1_Decode.l0 k y0 y1 y2 y3 y4 y5 y6) (ossuaryref1_Decode.l0 (k + 1) y0 y1 y2 y3 y4 y5 y6)) ∧ (∀ y0 y1 y2 y3 y4 y5, LeO (ossuaryref1_Decode.l1 k y0 y1 y2 y3 y4 y5) (ossuaryref1_Decode.l1 (k + 1) y0 y1 y2 y3 y4 y5))
 | 0 => ⟨fun _ _ _ _ _ r h => by simp [ossuaryref1_Decode.j0] at h, fun _ _ _ _ _ _ _ r h => by simp [ossuaryref1_Decode.l0] at h, fun _ _ _ _ _ _ r h => by simp [ossuaryref1_Decode.l1] at h⟩
 | k + 1 => by
  obtain ⟨ih0, ih1, ih2⟩ := ossuaryref1_Decode.mono_l k
  refine ⟨?_, ?_, ?_⟩
  ·intro y0 y1 y2 y3 y4
   unfold ossuaryref1_Decode.j0
   repeat' with_reducible first | exact ih0 _ _ _ _ _ | exact ih1 _ _ _ _ _ _ _ | exact ih2 _ _ _ _ _ _ | exact GRef.ossuaryref1_Combine.mono _ _ _ | exact GRef.ossuaryref1_Pick.mono _ _ _ | exact GRef.ossuaryref1_alike.mono _ _ | exact GRgen.ossuaryref1_Gen.mono _ _ _ | exact LeO.refl _ | exact LeO.none _ | refine LeO.ite ?_ ?_ | refine LeO.bind ?_ (fun _ => ?_)
  ·intro y0 y1 y2 y3 y4 y5 y6
   unfold ossuaryref1_Decode.l0
   repeat' with_reducible first | exact ih0 _ _ _ _ _ | exact ih1 _ _ _ _ _ _ _ | exact ih2 _ _ _ _ _ _ | exact GRef.ossuaryref1_Combine.mono _ _ _ | exact GRef.ossuaryref1_Pick.mono _ _ _ | exact GRef.ossuaryref1_alike.mono _ _ | exact GRgen.ossuaryref1_Gen.mono _ _ _ | exact LeO.refl _ | exact LeO.none _ | refine LeO.ite ?_ ?_ | refine LeO.bind ?_ (fun _ => ?_)
  ·intro y0 y1 y2 y3 y4 y5
   unfold ossuaryref1_Decode.l1
   repeat' with_reducible first | exact ih0 _ _ _ _ _ | exact ih1 _ _ _ _ _ _ _ | exact ih2 _ _ _ _ _ _ | exact GRef.ossuaryref1_Combine.mono _ _ _ | exact GRef.ossuaryref1_Pick.mono _ _ _ | exact GRef.ossuaryref1_alike.mono _ _ | exact GRgen.ossuaryref1_Gen.mono _ _ _ | exact LeO.refl _ | exact LeO.none _ | refine LeO.ite ?_ ?_ | refine LeO.bind ?_ (fun _ => ?_)
theorem ossuaryref1_Decode.mono : ∀ a0 a1 a2 a3 k, LeO (ossuaryref1_Decode.f k a0 a1 a2 a3) (ossuaryref1_Decode.f (k + 1) a0 a1 a2 a3) := by
 intro a0 a1 a2 a3 k
 obtain ⟨ih0, ih1, ih2⟩ := ossuaryref1_Decode.mono_l k
 unfold ossuaryref1_Decode.f
 repeat' with_reducible first | exact ih0 _ _ _ _ _ | exact ih1 _ _ _ _ _ _ _ | exact ih2 _ _ _ _ _ _ | exact GRef.ossuaryref1_Combine.mono _ _ _ | exact GRef.ossuaryref1_Pick.mono _ _ _ | exact GRef.ossuaryref1_alike.mono _ _ | exact GRgen.ossuaryref1_Gen.mono _ _ _ | exact LeO.refl _ | exact LeO.none _ | refine LeO.ite ?_ ?_ | refine LeO.bind ?_ (fun _ => ?_)
noncomputable def ossuaryref1_Decode.T16 : Bool × List (List Nat × List Nat) := (true, [([], []), ([], []), ([], []), ([2], [2]), ([1, 3], [1, 3]), ([0, 4], [0, 4]), ([5], [5]), ([6], [6]), ([6], [6]), ([], []), ([9, 7, 5, 0, 1, 2, 3, 4, 5, 6, 7, 9], [7, 9]), ([8, 10, 0, 1, 2, 3, 4, 5, 6, 7, 8, 9, 10], [8])])
noncomputable def ossuaryref1_Decode.B16 : List Nat := [0, 0, 0, 4, 14, 31, 63, 127, 127, 0, 767, 2047]
theorem ossuaryref1_Decode.tab16 : rtab .any (opsOf Try.f54 16) = ossuaryref1_Decode.T16 := by kernel_rfl
theorem ossuaryref1_Decode.bits16 : waitsOk ossuaryref1_Decode.T16.2 ossuaryref1_Decode.B16 = true := by kernel_rfl
noncomputable def ossuaryref1_Decode.T22 : Bool × List (List Nat × List Nat) := (true, [([], []), ([0], [0]), ([], []), ([1, 2], [1, 2]), ([3], [3]), ([], []), ([], []), ([6], [6]), ([5, 7], [5, 7]), ([4, 8], [4, 8]), ([9], [9]), ([10], [10]), ([10], [10]), ([11, 9, 0, 1, 2, 3, 4, 5, 6, 7, 8, 9, 10, 11], [11]), ([12, 13, 0, 1, 2, 3, 4, 5, 6, 7, 8, 9, 10, 11, 12, 13], [12])])
noncomputable def ossuaryref1_Decode.B22 : List Nat := [0, 1, 0, 7, 15, 0, 0, 64, 224, 511, 1023, 2047, 2047, 4095, 16383]
theorem ossuaryref1_Decode.tab22 : rtab .any (opsOf Try.f54 22) = ossuaryref1_Decode.T22 := by kernel_rfl
theorem ossuaryref1_Decode.bits22 : waitsOk ossuaryref1_Decode.T22.2 ossuaryref1_Decode.B22 = true := by kernel_rfl
set_option maxHeartbeats 8000000 in
set_option maxRecDepth 100000 in
theorem ossuaryref1_Decode.calls (k : Nat) (a0_0 : Int) (a0_1 : Int) (A1 : Option Addr) (c1 : Nat) (l1 : List ByteArray) (A2 : Option Addr) (c2 : Nat) (l2 : List Bool) (r1 : List ByteArray) (r2 : Int) (w : World) (hr1 : Kd.C Kd.string w A1 l1.length l1) (hc1 : l1.length ≤ c1) (hr2 : Kd.C Kd.bool w A2 l2.length l2) (hc2 : l2.length ≤ c2) (h : ossuaryref1_Decode.f k a0_0 a0_1 l1 l2 = some (r1, r2)) :
  Calls Try.prog 54 #[.agg #[.int .i64 a0_0, .int .i64 a0_1], .slice A1 l1.length c1, .slice A2 l2.length c2] w fun e w' => ∃ v0_ : Value, e = .returned (.tuple #[v0_, .int .i64 r2]) ∧ Kd.R Kd.string 9 w' w.heap.size (fun _ => True) v0_ r1 ∧ Below w.heap.size w w' := by
 have hu51 := Try.underlying51
 have hu24 := Try.underlying24
 have HR1 := mk0 hr1
 have HC1 := mk0 hc1
 clear hr1 hc1
 have HR2 := mk0 hr2
 have HC2 := mk0 hc2
 clear hr2 hc2
 have HB := mk0 (Below.refl w.heap.size w)
 have H : ((GRef.ossuaryref1_ShapeMay.f a0_0 a0_1).bind fun t119 => (if t119 = true then (if (l1.length : Int) = (wrap64 (a0_0 + a0_1)) then (ossuaryref1_Decode.j0 k l1 l2 ((l2.length : Int) != (l1.length : Int)) a0_0 a0_1) else (ossuaryref1_Decode.j0 k l1 l2 true a0_0 a0_1)) else (ossuaryref1_Decode.j0 k l1 l2 true a0_0 a0_1))) = some (r1, r2) := h
 clear h
 have HC4 := mk0 H
 clear H
 go_enter Try.func54, Try.ntmps54
 go_upto_region 1 with (first | ((with_reducible refine gate_dst (N := 3) rfl ?_); (try (refine gate_guard uY ?_; dsimp only)); refine box_event uY (N := 3) uY (cs := #[.int .i64 a0_0, .int .i64 a0_1]) (t := 51) uM ?_; intro gb118 hg w5 hbox hb; have BK118 := mk0 (hbox); have GW118 := mk0 (nB hg HB); have GE118 := mk0 (nB hg HB); replace HB := mk0 (below_step ut hb); clear hb hbox hg))
 (try simp only [Act.put, List.setIfInBounds_toArray, List.set_cons_zero, List.set_cons_succ])
 go_cut [40] (fun v40 wc => ∃ (kq : Nat) (x40_3 : Bool), v40 = .bool x40_3 ∧ Aside0 (ossuaryref1_Decode.j0 kq l1 l2 x40_3 a0_0 a0_1 = some (r1, r2)) ∧ Aside0 (kq ≤ k) ∧ Aside0 (wc.heap[gb118]? = some (.cells #[.int .i64 a0_0, .int .i64 a0_1] 51 (0, 0))) ∧ Aside0 (Below w.heap.size w wc))
 case first =>
  have H := HC4.out
  clear HC4
  replace H := Option.bind_eq_some_iff.mp H
  obtain ⟨t119, A60, H⟩ := H
  replace H : (if t119 = true then (if (l1.length : Int) = (wrap64 (a0_0 + a0_1)) then (ossuaryref1_Decode.j0 k l1 l2 ((l2.length : Int) != (l1.length : Int)) a0_0 a0_1) else (ossuaryref1_Decode.j0 k l1 l2 true a0_0 a0_1)) else (ossuaryref1_Decode.j0 k l1 l2 true a0_0 a0_1)) = some (r1, r2) := H
  have A6 := mk0 A60
  clear A60
  by_cases c7 : t119 = true
  ·subst c7
   have H1 : (if (l1.length : Int) = (wrap64 (a0_0 + a0_1)) then (ossuaryref1_Decode.j0 k l1 l2 ((l2.length : Int) != (l1.length : Int)) a0_0 a0_1) else (ossuaryref1_Decode.j0 k l1 l2 true a0_0 a0_1)) = some (r1, r2) := by rw [if_pos rfl] at H; exact H
   clear H
   have H := H1
   clear H1
   by_cases c8 : (l1.length : Int) = (wrap64 (a0_0 + a0_1))
   ·rw [if_pos c8] at H
    have c8b0 : ((l1.length : Int) == (wrap64 (a0_0 + a0_1))) = true := beq_iff_eq.mpr c8
    have c8b1 : ((l1.length : Int) != (wrap64 (a0_0 + a0_1))) = false := bne_eq_false_iff_eq.mpr c8
    clear c8
    (first | rw [c8b0] | (simp only [i64_w, i32_w]; rw [c8b0]) | skip)
    have H' := mk0 H
    clear H
    have hcz9_0 : w5.cell? ⟨gb118, 0, none⟩ = some (.int .i64 a0_0) := (blk_cell BK118.out 0).trans rfl
    have hcz9_1 : w5.cell? ⟨gb118, 1, none⟩ = some (.int .i64 a0_1) := (blk_cell BK118.out 1).trans rfl
    have hfz9_0 := blk_frozen BK118.out 0
    have hfz9_1 := blk_frozen BK118.out 1
    go_wp2_with (first | ((with_reducible refine gCa (f := 46) rfl ?_); refine goesL_ (some 22) rfl rfl Try.func46 uV rfl #[.agg #[.int .i64 a0_0, .int .i64 a0_1]] rfl uk ?_; (with_reducible refine (GRef.ossuaryref1_ShapeMay.calls a0_0 a0_1 true _ A6.out).mono ?_); rintro e w10 ⟨rfl, hb⟩; refine ⟨_, rfl, ?_⟩; replace BK118 := bK BK118 hb; replace HB := mk0 (below_step uZ hb); (try clear hb); have hcz11_0 : w10.cell? ⟨gb118, 0, none⟩ = some (.int .i64 a0_0) := (blk_cell BK118.out 0).trans rfl; have hcz11_1 : w10.cell? ⟨gb118, 1, none⟩ = some (.int .i64 a0_1) := (blk_cell BK118.out 1).trans rfl; have hfz11_0 := blk_frozen BK118.out 0; have hfz11_1 := blk_frozen BK118.out 1))
    go_meet
    case rel => exact ⟨_, (((l2.length : Int) != (l1.length : Int))), uK, H', ⟨uP⟩, ⟨bB BK118.out⟩, ⟨uZ⟩⟩
   ·rw [if_neg c8] at H
    have c8b0 : ((l1.length : Int) == (wrap64 (a0_0 + a0_1))) = false := beq_eq_false_iff_ne.mpr c8
    have c8b1 : ((l1.length : Int) != (wrap64 (a0_0 + a0_1))) = true := bne_iff_ne.mpr c8
    (first | rw [c8b0] | (simp only [i64_w, i32_w]; rw [c8b0]) | skip)
    have H' := mk0 H
    clear H
    have hcz12_0 : w5.cell? ⟨gb118, 0, none⟩ = some (.int .i64 a0_0) := (blk_cell BK118.out 0).trans rfl
    have hcz12_1 : w5.cell? ⟨gb118, 1, none⟩ = some (.int .i64 a0_1) := (blk_cell BK118.out 1).trans rfl
    have hfz12_0 := blk_frozen BK118.out 0
    have hfz12_1 := blk_frozen BK118.out 1
    go_wp2_with (first | ((with_reducible refine gCa (f := 46) rfl ?_); refine goesL_ (some 22) rfl rfl Try.func46 uV rfl #[.agg #[.int .i64 a0_0, .int .i64 a0_1]] rfl uk ?_; (with_reducible refine (GRef.ossuaryref1_ShapeMay.calls a0_0 a0_1 true _ A6.out).mono ?_); rintro e w13 ⟨rfl, hb⟩; refine ⟨_, rfl, ?_⟩; replace BK118 := bK BK118 hb; replace HB := mk0 (below_step uZ hb); (try clear hb); have hcz14_0 : w13.cell? ⟨gb118, 0, none⟩ = some (.int .i64 a0_0) := (blk_cell BK118.out 0).trans rfl; have hcz14_1 : w13.cell? ⟨gb118, 1, none⟩ = some (.int .i64 a0_1) := (blk_cell BK118.out 1).trans rfl; have hfz14_0 := blk_frozen BK118.out 0; have hfz14_1 := blk_frozen BK118.out 1))
    go_meet
    case rel => exact ⟨_, (true), uK, H', ⟨uP⟩, ⟨bB BK118.out⟩, ⟨uZ⟩⟩
  ·replace c7 := Bool.eq_false_iff.mpr c7
   subst c7
   have H1 : (ossuaryref1_Decode.j0 k l1 l2 true a0_0 a0_1) = some (r1, r2) := by rw [if_neg (show ¬ (false = true) by decide)] at H; exact H
   clear H
   have H := H1
   clear H1
   have H' := mk0 H
   clear H
   have hcz15_0 : w5.cell? ⟨gb118, 0, none⟩ = some (.int .i64 a0_0) := (blk_cell BK118.out 0).trans rfl
   have hcz15_1 : w5.cell? ⟨gb118, 1, none⟩ = some (.int .i64 a0_1) := (blk_cell BK118.out 1).trans rfl
   have hfz15_0 := blk_frozen BK118.out 0
   have hfz15_1 := blk_frozen BK118.out 1
   go_wp2_with (first | ((with_reducible refine gCa (f := 46) rfl ?_); refine goesL_ (some 22) rfl rfl Try.func46 uV rfl #[.agg #[.int .i64 a0_0, .int .i64 a0_1]] rfl uk ?_; (with_reducible refine (GRef.ossuaryref1_ShapeMay.calls a0_0 a0_1 false _ A6.out).mono ?_); rintro e w16 ⟨rfl, hb⟩; refine ⟨_, rfl, ?_⟩; replace BK118 := bK BK118 hb; replace HB := mk0 (below_step uZ hb); (try clear hb)))
   go_meet
   case rel => exact ⟨_, (true), uK, H', ⟨uP⟩, ⟨bB BK118.out⟩, ⟨uZ⟩⟩
 case rest =>
  clear HC4
  try clear c1
  try clear c2
  try clear p2
  try clear c4
  try clear c5
  try clear p6
  try clear c7
  try clear c8
  try clear c8b0
  try clear c8b1
  try clear hcz11_0
  try clear hcz11_1
  try clear hcz12_0
  try clear hcz12_1
  try clear hcz14_0
  try clear hcz14_1
  try clear hcz15_0
  try clear hcz15_1
  try clear hcz9_0
  try clear hcz9_1
  try clear hfz11_0
  try clear hfz11_1
  try clear hfz12_0
  try clear hfz12_1
  try clear hfz14_0
  try clear hfz14_1
  try clear hfz15_0
  try clear hfz15_1
  try clear hfz9_0
  try clear hfz9_1
  obtain ⟨kq, x40_3, rfl, HA, HJ3, BK118, HB⟩ := hcut
  cases kq with
  | zero => exact absurd HA.out (by simp [ossuaryref1_Decode.j0])
  | succ kj3 =>
   have H := HA.out
   clear HA
   simp only [ossuaryref1_Decode.j0] at H
   by_cases c17 : x40_3 = true
   ·subst c17
    have H1 : (some (([] : List ByteArray), 700)) = some (r1, r2) := by rw [if_pos rfl] at H; exact H
    clear H
    have H := H1
    clear H1
    simp only [Option.some.injEq, Prod.mk.injEq] at H
    obtain ⟨rfl, rfl⟩ := H
    go_wp2
    go_ret2
    exact ⟨_, uA, ui, uZ⟩
   ·replace c17 := Bool.eq_false_iff.mpr c17
    subst c17
    have H1 : (ossuaryref1_Decode.l0 kj3 l1 l2 ([] : List Int) ([] : List ByteArray) 0 a0_0 a0_1) = some (r1, r2) := by rw [if_neg (show ¬ (false = true) by decide)] at H; exact H
    clear H
    have H := H1
    clear H1
    have H' := mk0 H
    clear H
    go_wp2
    go_loopg [8, 9, 10] kj3 (fun kq v8 v9 v10 w' => ∃ (x8_2 : List Int) (x9_2 : List ByteArray) (x10_2 : Int), v10 = .int .i64 x10_2 ∧ Aside0 (ossuaryref1_Decode.l0 kq l1 l2 x8_2 x9_2 x10_2 a0_0 a0_1 = some (r1, r2)) ∧ Aside0 (kq ≤ kj3) ∧ Aside0 (Kd.R (Kd.int .i64) 3 w' w.heap.size (fun _ => True) v8 x8_2) ∧ Aside0 (Kd.R Kd.string 9 w' w.heap.size (fun _ => True) v9 x9_2) ∧ Aside0 (w'.heap[gb118]? = some (.cells #[.int .i64 a0_0, .int .i64 a0_1] 51 (0, 0))) ∧ Aside0 (Below w.heap.size w w'))
    case atStart => exact ⟨(([] : List Int)), (([] : List ByteArray)), (0), uK, H', ⟨Nat.le_refl _⟩, ⟨ui⟩, ⟨ui⟩, ⟨bB BK118.out⟩, ⟨uZ⟩⟩
    case round =>
     clear H'
     try clear c1
     try clear c2
     try clear p2
     try clear c4
     try clear c5
     try clear p6
     try clear c7
     try clear c8
     try clear c8b0
     try clear c8b1
     try clear c17
     try clear hcz11_0
     try clear hcz11_1
     try clear hcz12_0
     try clear hcz12_1
     try clear hcz14_0
     try clear hcz14_1
     try clear hcz15_0
     try clear hcz15_1
     try clear hcz9_0
     try clear hcz9_1
     try clear hfz11_0
     try clear hfz11_1
     try clear hfz12_0
     try clear hfz12_1
     try clear hfz14_0
     try clear hfz14_1
     try clear hfz15_0
     try clear hfz15_1
     try clear hfz9_0
     try clear hfz9_1
     try clear p2
     try clear p6
     obtain ⟨x8_2, x9_2, x10_2, rfl, HA, HK2, HO_8, HO_9, BK118, HB⟩ := hrel
     cases gk with
     | zero => exact absurd HA.out (by simp [ossuaryref1_Decode.l0])
     | succ k2 =>
      have H := HA.out
      clear HA
      simp only [ossuaryref1_Decode.l0] at H
      by_cases c18 : x10_2 < (l2.length : Int)
      ·rw [if_pos c18] at H
       have c18b0 : decide (x10_2 < (l2.length : Int)) = true := decide_eq_true c18
       clear c18
       by_cases c19 : 0 ≤ x10_2
       ·rw [if_pos c19] at H
        have c19b0 : decide (0 ≤ x10_2) = true := decide_eq_true c19
        clear c19
        obtain ⟨bq20, hbq20⟩ : ∃ b_ : Bool, b_ = (rdOf false l2 x10_2) := ⟨_, rfl⟩
        replace H : (if bq20 = true then (if x8_2.length < 17592186044416 then (if x10_2 < (l1.length : Int) then (if x9_2.length < 8796093022208 then (ossuaryref1_Decode.l0 k2 l1 l2 (x8_2 ++ [x10_2]) (x9_2 ++ [rdOf ByteArray.empty l1 x10_2]) (wrap64 (x10_2 + 1)) a0_0 a0_1) else (none)) else (none)) else (none)) else (ossuaryref1_Decode.l0 k2 l1 l2 x8_2 x9_2 (wrap64 (x10_2 + 1)) a0_0 a0_1)) = some (r1, r2) := by rw [← hbq20] at H; exact H
        have Nbq20 := mk0 hbq20
        clear hbq20
        by_cases c21 : bq20 = true
        ·subst c21
         have H1 : (if x8_2.length < 17592186044416 then (if x10_2 < (l1.length : Int) then (if x9_2.length < 8796093022208 then (ossuaryref1_Decode.l0 k2 l1 l2 (x8_2 ++ [x10_2]) (x9_2 ++ [rdOf ByteArray.empty l1 x10_2]) (wrap64 (x10_2 + 1)) a0_0 a0_1) else (none)) else (none)) else (none)) = some (r1, r2) := by rw [if_pos rfl] at H; exact H
         clear H
         have H := H1
         clear H1
         by_cases c22 : x8_2.length < 17592186044416
         ·rw [if_pos c22] at H
          have LMc22 := mk0 c22
          clear c22
          obtain ⟨y121, hy121⟩ : ∃ y_ : List Int, y_ = (x8_2 ++ [x10_2]) := ⟨_, rfl⟩
          replace H : (if x10_2 < (l1.length : Int) then (if x9_2.length < 8796093022208 then (ossuaryref1_Decode.l0 k2 l1 l2 y121 (x9_2 ++ [rdOf ByteArray.empty l1 x10_2]) (wrap64 (x10_2 + 1)) a0_0 a0_1) else (none)) else (none)) = some (r1, r2) := by first | (rw [hy121]; with_reducible exact H) | (have H2_ := (Option.bind_some _ _).symm.trans H; rw [hy121]; with_reducible exact H2_) | (have H2_ := (Option.bind_some _ _).symm.trans H; with_reducible exact H2_) | with_reducible exact H | (rw [hy121]; exact H) | exact H
          have Ny121 := mk0 hy121
          clear hy121
          by_cases c23 : x10_2 < (l1.length : Int)
          ·rw [if_pos c23] at H
           have c23b0 : decide (x10_2 < (l1.length : Int)) = true := decide_eq_true c23
           clear c23
           by_cases c24 : x9_2.length < 8796093022208
           ·rw [if_pos c24] at H
            have LMc24 := mk0 c24
            clear c24
            obtain ⟨y125, hy125⟩ : ∃ y_ : List ByteArray, y_ = (x9_2 ++ [rdOf ByteArray.empty l1 x10_2]) := ⟨_, rfl⟩
            replace H : (ossuaryref1_Decode.l0 k2 l1 l2 y121 y125 (wrap64 (x10_2 + 1)) a0_0 a0_1) = some (r1, r2) := by first | (rw [hy125]; with_reducible exact H) | (have H2_ := (Option.bind_some _ _).symm.trans H; rw [hy125]; with_reducible exact H2_) | (have H2_ := (Option.bind_some _ _).symm.trans H; with_reducible exact H2_) | with_reducible exact H | (rw [hy125]; exact H) | exact H
            have Ny125 := mk0 hy125
            clear hy125
            have H' := mk0 H
            clear H
            have p120 : 0 ≤ (x10_2 : Int) := of_decide_eq_true uJ
            have q120 : x10_2 < (l2.length : Int) := of_decide_eq_true uJ
            obtain ⟨ad120, e120, hx120_0⟩ := Kd.at_bool HR2.out x10_2 p120 q120
            (try rw [← Nbq20.out] at hx120_0)
            cases e120
            replace hx120_0 := (HB.out.cell (World.block_lt_of_cell? w _ hx120_0)).trans hx120_0
            replace p120 := eq_true p120
            replace q120 := eq_true q120
            go_wp2_with (first | ((with_reducible refine gBu (b := .append) (xs := #[.tmp 51, .tmp 53]) rfl ?_); (try (refine gate_guard uY ?_; dsimp only)); at_builtin; refine Kd.R_append (Kd.int .i64) (w0 := w) w.heap.size rfl (.tmp 51) (.tmp 53) 25 3 (.int .i64 0) 8 rfl Try.underlying25 info3 rfl q9 uX u8 x8_2 x10_2 [.int .i64 x10_2] (fun _ => True) (fun _ => False) rfl rfl ?aP (fun _ hk => hk.elim) ?aF ?aO ?aB ?aS ?aL ?_; (case aP => exact rfl); (case aB => exact uZ); (case aF => exact (fun _ _ => trivial)); (case aO => exact (rB HO_8.out)); (case aS => exact (below_size uZ)); (case aL => have := LMc22.out; omega); intro v122 w25 ho hb hg hat; rw [← Ny121.out] at ho; replace HO_9 := mk0 (Kd.R_over' (rB HO_9.out) (Kd.R_typed (rB HO_8.out)) q9 hg); replace BK118 := mk0 (blk_grown (g := gb118) (o := .cells #[.int .i64 a0_0, .int .i64 a0_1] 51 (0, 0)) (bB BK118.out) hg (Kd.R_ne HO_8.out BK118.out q9)); replace HB := mk0 (hb); have HO123 := mk0 (ho); clear HO_8; clear ho hb hg hat; have p124 : 0 ≤ (x10_2 : Int) := of_decide_eq_true uJ; have q124 : x10_2 < (l1.length : Int) := of_decide_eq_true uJ; obtain ⟨ad124, e124, hx124_0⟩ := Kd.at_string HR1.out x10_2 p124 q124; cases e124; replace hx124_0 := (HB.out.cell (World.block_lt_of_cell? w _ hx124_0)).trans hx124_0; replace p124 := eq_true p124; replace q124 := eq_true q124) | ((with_reducible refine gBu (b := .append) (xs := #[.tmp 55, .tmp 60]) rfl ?_); (try (refine gate_guard uY ?_; dsimp only)); at_builtin; refine Kd.R_append Kd.string (w0 := w) w.heap.size rfl (.tmp 55) (.tmp 60) 58 9 (.string ⟨#[]⟩) 16 rfl Try.underlying58 info9 rfl q9 uX u9 x9_2 (rdOf ByteArray.empty l1 x10_2) [.string (rdOf ByteArray.empty l1 x10_2)] (fun _ => True) (fun _ => False) rfl rfl ?aP (fun _ hk => hk.elim) ?aF ?aO ?aB ?aS ?aL ?_; (case aP => exact rfl); (case aB => exact uZ); (case aF => exact (fun _ _ => trivial)); (case aO => exact (rB HO_9.out)); (case aS => exact (below_size uZ)); (case aL => have := LMc24.out; omega); intro v126 w26 ho hb hg hat; rw [← Ny125.out] at ho; replace BK118 := mk0 (blk_grown (g := gb118) (o := .cells #[.int .i64 a0_0, .int .i64 a0_1] 51 (0, 0)) (bB BK118.out) hg (Kd.R_ne HO_9.out BK118.out q9)); replace HO123 := mk0 (Kd.R_over' (rB HO123.out) (Kd.R_typed (rB HO_9.out)) q9 hg); replace HB := mk0 (hb); have HO127 := mk0 (ho); clear HO_9; clear ho hb hg hat))
            go_roundg k2
            case measure => have := HJ3.out; have := HK2.out; omega
            case rel => exact ⟨(y121), (y125), (wrap64 (x10_2 + 1)), uK, H', ⟨by have := HJ3.out; have := HK2.out; omega⟩, ⟨rB HO123.out⟩, ⟨rB HO127.out⟩, ⟨bB BK118.out⟩, ⟨uZ⟩⟩
           ·rw [if_neg c24] at H
            exact absurd H qa
          ·rw [if_neg c23] at H
           exact absurd H qa
         ·rw [if_neg c22] at H
          exact absurd H qa
        ·replace c21 := Bool.eq_false_iff.mpr c21
         subst c21
         have H1 : (ossuaryref1_Decode.l0 k2 l1 l2 x8_2 x9_2 (wrap64 (x10_2 + 1)) a0_0 a0_1) = some (r1, r2) := by rw [if_neg (show ¬ (false = true) by decide)] at H; exact H
         clear H
         have H := H1
         clear H1
         have H' := mk0 H
         clear H
         have p120 : 0 ≤ (x10_2 : Int) := of_decide_eq_true uJ
         have q120 : x10_2 < (l2.length : Int) := of_decide_eq_true uJ
         obtain ⟨ad120, e120, hx120_0⟩ := Kd.at_bool HR2.out x10_2 p120 q120
         (try rw [← Nbq20.out] at hx120_0)
         cases e120
         replace hx120_0 := (HB.out.cell (World.block_lt_of_cell? w _ hx120_0)).trans hx120_0
         replace p120 := eq_true p120
         replace q120 := eq_true q120
         go_wp2
         go_roundg k2
         case measure => have := HJ3.out; have := HK2.out; omega
         case rel => exact ⟨(x8_2), (x9_2), (wrap64 (x10_2 + 1)), uK, H', ⟨by have := HJ3.out; have := HK2.out; omega⟩, ⟨rB HO_8.out⟩, ⟨rB HO_9.out⟩, ⟨bB BK118.out⟩, ⟨uZ⟩⟩
       ·rw [if_neg c19] at H
        exact absurd H qa
      ·rw [if_neg c18] at H
       have c18b0 : decide (x10_2 < (l2.length : Int)) = false := decide_eq_false c18
       clear c18
       replace H := Option.bind_eq_some_iff.mp H
       obtain ⟨t128, A270, H⟩ := H
       replace H : (if t128 = true then (if (x8_2.length : Int) < a0_0 then (some (([] : List ByteArray), 701)) else ((GRgen.ossuaryref1_Gen.f k2 a0_0 a0_1).bind fun bt129 => (if 0 ≤ a0_0 then (if a0_0 ≤ (x8_2.length : Int) then ((GRef.ossuaryref1_Pick.f k2 bt129.1 (x8_2.take (a0_0 : Int).toNat)).bind fun bt138 => ((Pr.inv.f bt138.1).bind fun bt143 => (ossuaryref1_Decode.l1 k2 x9_2 ([] : List ByteArray) 0 a0_0 a0_1 bt143.1))) else (none)) else (none)))) else (some (([] : List ByteArray), 700))) = some (r1, r2) := H
       have A27 := mk0 A270
       clear A270
       by_cases c28 : t128 = true
       ·subst c28
        have H1 : (if (x8_2.length : Int) < a0_0 then (some (([] : List ByteArray), 701)) else ((GRgen.ossuaryref1_Gen.f k2 a0_0 a0_1).bind fun bt129 => (if 0 ≤ a0_0 then (if a0_0 ≤ (x8_2.length : Int) then ((GRef.ossuaryref1_Pick.f k2 bt129.1 (x8_2.take (a0_0 : Int).toNat)).bind fun bt138 => ((Pr.inv.f bt138.1).bind fun bt143 => (ossuaryref1_Decode.l1 k2 x9_2 ([] : List ByteArray) 0 a0_0 a0_1 bt143.1))) else (none)) else (none)))) = some (r1, r2) := by rw [if_pos rfl] at H; exact H
        clear H
        have H := H1
        clear H1
        by_cases c29 : (x8_2.length : Int) < a0_0
        ·rw [if_pos c29] at H
         have c29b0 : decide ((x8_2.length : Int) < a0_0) = true := decide_eq_true c29
         clear c29
         simp only [Option.some.injEq, Prod.mk.injEq] at H
         obtain ⟨rfl, rfl⟩ := H
         obtain ⟨Ao30, co30, eo30⟩ := Kd.R_slice HO_9.out
         subst eo30
         go_wp2_with (first | ((with_reducible refine gCa (f := 91) rfl ?_); refine goesL_ (some 63) rfl rfl Try.func91 uV rfl #[.slice Ao30 x9_2.length co30] rfl uk ?_; (with_reducible refine (GRef.ossuaryref1_alike.calls k2 _ _ x9_2 true _ ?side1 ?side2 A27.out).mono ?_); (case side1 => exact cB (Kd.R_reads' HO_9.out).2.2); (case side2 => exact (Kd.R_reads' HO_9.out).2.1); rintro e w' ⟨rfl, ⟨nd, rfl⟩⟩; refine ⟨_, rfl, ?_⟩; obtain ⟨Ao31, co31, eo31⟩ := Kd.R_slice HO_8.out; subst eo31; have hcz32_0 : wr.cell? ⟨gb118, 0, none⟩ = some (.int .i64 a0_0) := (blk_cell BK118.out 0).trans rfl; have hcz32_1 : wr.cell? ⟨gb118, 1, none⟩ = some (.int .i64 a0_1) := (blk_cell BK118.out 1).trans rfl; have hfz32_0 := blk_frozen BK118.out 0; have hfz32_1 := blk_frozen BK118.out 1))
         go_ret2
         exact ⟨_, uA, ui, uZ⟩
        ·rw [if_neg c29] at H
         have c29b0 : decide ((x8_2.length : Int) < a0_0) = false := decide_eq_false c29
         clear c29
         replace H := Option.bind_eq_some_iff.mp H
         obtain ⟨⟨t129, t132⟩, A330, H⟩ := H
         replace H : (if 0 ≤ a0_0 then (if a0_0 ≤ (x8_2.length : Int) then ((GRef.ossuaryref1_Pick.f k2 t129 (x8_2.take (a0_0 : Int).toNat)).bind fun bt138 => ((Pr.inv.f bt138.1).bind fun bt143 => (ossuaryref1_Decode.l1 k2 x9_2 ([] : List ByteArray) 0 a0_0 a0_1 bt143.1))) else (none)) else (none)) = some (r1, r2) := H
         have A33 := mk0 A330
         clear A330
         by_cases c34 : 0 ≤ a0_0
         ·rw [if_pos c34] at H
          have c34b0 := eq_true c34
          have c34b1 : decide (0 ≤ a0_0) = true := decide_eq_true c34
          clear c34
          by_cases c35 : a0_0 ≤ (x8_2.length : Int)
          ·rw [if_pos c35] at H
           have c35b0 := eq_true c35
           have c35b1 : decide (a0_0 ≤ (x8_2.length : Int)) = true := decide_eq_true c35
           clear c35
           obtain ⟨y134, hy134⟩ : ∃ y_ : List Int, y_ = (x8_2.take (a0_0 : Int).toNat) := ⟨_, rfl⟩
           replace H : ((GRef.ossuaryref1_Pick.f k2 t129 y134).bind fun bt138 => ((Pr.inv.f bt138.1).bind fun bt143 => (ossuaryref1_Decode.l1 k2 x9_2 ([] : List ByteArray) 0 a0_0 a0_1 bt143.1))) = some (r1, r2) := by first | (rw [hy134]; with_reducible exact H) | (have H2_ := (Option.bind_some _ _).symm.trans H; rw [hy134]; with_reducible exact H2_) | (have H2_ := (Option.bind_some _ _).symm.trans H; with_reducible exact H2_) | with_reducible exact H | (rw [hy134]; exact H) | exact H
           have Ny134 := mk0 hy134
           clear hy134
           replace H := Option.bind_eq_some_iff.mp H
           obtain ⟨⟨t138, t141⟩, A360, H⟩ := H
           replace H : ((Pr.inv.f t138).bind fun bt143 => (ossuaryref1_Decode.l1 k2 x9_2 ([] : List ByteArray) 0 a0_0 a0_1 bt143.1)) = some (r1, r2) := H
           have A36 := mk0 A360
           clear A360
           replace H := Option.bind_eq_some_iff.mp H
           obtain ⟨⟨t143, t146⟩, A370, H⟩ := H
           replace H : (ossuaryref1_Decode.l1 k2 x9_2 ([] : List ByteArray) 0 a0_0 a0_1 t143) = some (r1, r2) := H
           have A37 := mk0 A370
           clear A370
           have H' := mk0 H
           clear H
           obtain ⟨Ao38, co38, eo38⟩ := Kd.R_slice HO_9.out
           subst eo38
           try go_wp2_with (first | ((with_reducible refine gCa (f := 91) rfl ?_); refine goesL_ (some 63) rfl rfl Try.func91 uV rfl #[.slice Ao38 x9_2.length co38] rfl uk ?_; (with_reducible refine (GRef.ossuaryref1_alike.calls k2 _ _ x9_2 true _ ?side1 ?side2 A27.out).mono ?_); (case side1 => exact cB (Kd.R_reads' HO_9.out).2.2); (case side2 => exact (Kd.R_reads' HO_9.out).2.1); rintro e w' ⟨rfl, ⟨nd, rfl⟩⟩; refine ⟨_, rfl, ?_⟩; (try (rw [dSe wr]; generalize hq_ : World.drewN wr _ = wr; have n0_ : Aside0 (Kd.R (Kd.int .i64) 3 wr w.heap.size (fun _ => True) u8 x8_2) := ⟨by rw [← hq_]; exact (rB HO_8.out)⟩; have n1_ : Aside0 (Kd.R Kd.string 9 wr w.heap.size (fun _ => True) (.slice Ao38 x9_2.length co38) x9_2) := ⟨by rw [← hq_]; exact (rB HO_9.out)⟩; have n2_ : Aside0 (wr.heap[gb118]? = some (.cells #[.int .i64 a0_0, .int .i64 a0_1] 51 (0, 0))) := ⟨by rw [← hq_]; exact (bB BK118.out)⟩; have n3_ : Aside0 (Below w.heap.size w wr) := ⟨uh⟩; clear HO_8 HO_9 BK118 HB hq_; have HO_8 := n0_; have HO_9 := n1_; have BK118 := n2_; have HB := n3_; clear n0_ n1_ n2_ n3_)); obtain ⟨Ao39, co39, eo39⟩ := Kd.R_slice HO_8.out; subst eo39; have hcz40_0 : wr.cell? ⟨gb118, 0, none⟩ = some (.int .i64 a0_0) := (blk_cell BK118.out 0).trans rfl; have hcz40_1 : wr.cell? ⟨gb118, 1, none⟩ = some (.int .i64 a0_1) := (blk_cell BK118.out 1).trans rfl; have hfz40_0 := blk_frozen BK118.out 0; have hfz40_1 := blk_frozen BK118.out 1) | ((with_reducible refine gCa (f := 44) rfl ?_); refine goesL_ (some 72) rfl rfl Try.func44 uV rfl #[.agg #[.int .i64 a0_0, .int .i64 a0_1]] rfl uk ?_; (with_reducible refine (GRgen.ossuaryref1_Gen.calls k2 a0_0 a0_1 t129 t132 _ A33.out).mono ?_); rintro e w41 ⟨v130, rfl, ho0, hb⟩; refine ⟨_, rfl, ?_⟩; replace HO_9 := mk0 (Kd.R_below (rB HO_9.out) hb); have HO131 := mk0 (Kd.S_lower (Kd.S_new' ho0 (Kd.R_lt (rB HO_8.out))) (below_size uZ)); replace HO_8 := mk0 (Kd.R_below (rB HO_8.out) hb); replace BK118 := bK BK118 hb; replace HB := mk0 (below_step uZ hb); (try clear hb); (try clear hb2); (try clear hk); (try clear hi); (try clear ho0)) | ((with_reducible refine gate_dst (N := 11) rfl ?_); (try (refine gate_guard uY ?_; dsimp only)); refine box_event uY (N := 11) uY (cs := #[.slice none 0 0]) (t := 24) uM ?_; intro gb133 hg w42 hbox hb; replace HO_8 := mk0 (Kd.R_below (rB HO_8.out) hb); replace HO_9 := mk0 (Kd.R_below (rB HO_9.out) hb); replace HO131 := mk0 (Kd.S_below (sB HO131.out) hb); have BK133 := mk0 (hbox); have GW133 := mk0 (nB hg HB); have GE133 := mk0 (nB hg HB); replace HB := mk0 (below_step uZ hb); have NB118_133 := mk0 (nF hg BK118.out); have NB133_118 := mk0 (nE hg BK118.out); replace BK118 := bK BK118 hb; clear hb hbox hg; obtain ⟨Ao43, co43, eo43⟩ := Kd.S_slice HO131.out; subst eo43; have hnb44 := NB133_118.out; have hnc44 := NB118_133.out; have hcz45_0 : w42.cell? ⟨gb133, 0, none⟩ = some (.slice none 0 0) := (blk_cell BK133.out 0).trans rfl; have hfz45_0 := blk_frozen BK133.out 0))
           have n0_ : Aside0 (Kd.R (Kd.int .i64) 3 (w42.setCell ⟨gb133, 0, none⟩ (.slice Ao43 t129.length co43)) w.heap.size (fun _ => True) (.slice Ao39 x8_2.length co39) x8_2) := ⟨by (with_reducible repeat (first | apply rA | apply rN | apply rD)); exact Kd.R_mono (Kd.R_far (p := ⟨gb133, 0, none⟩) (Kd.R_types HO_8.out BK133.out q9) (fun _ hk => hk.2) (.slice Ao43 t129.length co43)) (fun _ hk => trivial)⟩
           have n1_ : Aside0 (Kd.R Kd.string 9 (w42.setCell ⟨gb133, 0, none⟩ (.slice Ao43 t129.length co43)) w.heap.size (fun _ => True) (.slice Ao38 x9_2.length co38) x9_2) := ⟨by (with_reducible repeat (first | apply rA | apply rN | apply rD)); exact Kd.R_mono (Kd.R_far (p := ⟨gb133, 0, none⟩) (Kd.R_types HO_9.out BK133.out q9) (fun _ hk => hk.2) (.slice Ao43 t129.length co43)) (fun _ hk => trivial)⟩
           have n2_ : Aside0 (Kd.S (Kd.slice 3 (Kd.int .i64)) 25 (w42.setCell ⟨gb133, 0, none⟩ (.slice Ao43 t129.length co43)) w.heap.size (fun k_ => some k_ ≠ (.slice Ao39 x8_2.length co39 : Value).ownBlock) (.slice Ao43 t129.length co43) t129) := ⟨by (with_reducible repeat (first | apply sA | apply sN | apply sD)); exact Kd.S_mono (Kd.S_far (p := ⟨gb133, 0, none⟩) (Kd.S_types HO131.out BK133.out q9) (fun _ hk => hk.2) (.slice Ao43 t129.length co43)) (fun _ hk => hk.1.2)⟩
           have n3_ : Aside0 ((w42.setCell ⟨gb133, 0, none⟩ (.slice Ao43 t129.length co43)).heap[gb118]? = some (.cells #[.int .i64 a0_0, .int .i64 a0_1] 51 (0, 0))) := ⟨by refine bB ?_; refine blk_far ?_ NB118_133.out _; refine bB ?_; exact BK118.out⟩
           have n4_ : Aside0 ((w42.setCell ⟨gb133, 0, none⟩ (.slice Ao43 t129.length co43)).heap[gb133]? = some (.cells #[.slice Ao43 t129.length co43] 24 (0, 0))) := ⟨by refine bB ?_; refine blk_put (cs := #[.slice none 0 0]) ?_ 0 _ rfl; refine bB ?_; exact BK133.out⟩
           have n5_ : Aside0 (Below w.heap.size w (w42.setCell ⟨gb133, 0, none⟩ (.slice Ao43 t129.length co43))) := ⟨uZ⟩
           (try clear HO_8)
           (try clear HO_9)
           (try clear HO131)
           (try clear BK118)
           (try clear BK133)
           (try clear HB)
           generalize (w42.setCell ⟨gb133, 0, none⟩ (.slice Ao43 t129.length co43)) = w46 at n0_ n1_ n2_ n3_ n4_ n5_ ⊢
           have HO_8 := n0_
           have HO_9 := n1_
           have HO131 := n2_
           have BK118 := n3_
           have BK133 := n4_
           have HB := n5_
           clear n0_ n1_ n2_ n3_ n4_ n5_
           replace HO_8 := mk0 (Kd.R_drew HO_8.out)
           replace HO_9 := mk0 (Kd.R_drew HO_9.out)
           replace HO131 := mk0 (Kd.S_drew HO131.out)
           replace BK118 := mk0 (blk_drew BK118.out)
           replace BK133 := mk0 (blk_drew BK133.out)
           replace HB := mk0 (below_drew1 HB.out)
           have q48 : (a0_0 : Int) ≤ ((x8_2.length : Int) : Int) := of_decide_eq_true uJ
           obtain ⟨i048, hi048, _, hsz48, _⟩ := info_parts info3
           have hroom48 : x8_2.length ≤ co39 := (Kd.R_reads' HO_8.out).2.1
           have hC48 : Kd.C (Kd.int .i64) _ Ao39 x8_2.length x8_2 := (Kd.R_reads' HO_8.out).2.2
           have hcut48 := cut_to (P := Try.prog) 25 3 .i64 Try.underlying25 hi048 Ao39 x8_2.length co39 a0_0 (of_decide_eq_true uJ) q48 hroom48
           have hr48 := Kd.C_take (m := (a0_0 : Int).toNat) hC48 uX
           have hy48 : y134.length = (a0_0 : Int).toNat := (by rw [Ny134.out, List.length_take]; omega)
           rw [← Ny134.out] at hr48
           rw [← hy48] at hcut48
           have HR137 := mk0 hr48
           have HC137 := mk0 (show y134.length ≤ co39 from by omega)
           clear hr48 hC48 hroom48 hi048 hsz48
           have KY48 := mk0 hy48
           clear hy48
           have KL48 := mk0 (show (a0_0 : Int).toNat ≤ x8_2.length from by omega)
           replace q48 := eq_true q48
           refine start_ (n := 12) (S := fun w' => w'.cell? ⟨gb133, 0, none⟩ = some (.slice Ao43 t129.length co43) ∧ w'.cell? ⟨gb118, 0, none⟩ = some (.int .i64 a0_0) ∧ w'.cell? ⟨gb118, 1, none⟩ = some (.int .i64 a0_1)) (ds := []) (bz 12 0) uV rfl rfl ⟨(blk_cell BK133.out 0).trans rfl, (blk_cell BK118.out 0).trans rfl, (blk_cell BK118.out 1).trans rfl⟩ (fun hHeld => ?_); refine with_tabW ossuaryref1_Decode.tab16 ossuaryref1_Decode.bits16 (fun HT_ HW_ => ?_)
           generalize w46.drew = w47 at HO_8 HO_9 HO131 BK118 BK133 HB HR137 hHeld ⊢
           refine pU 1 77 (bz 12 2) HT_.out ?_
           refine pU 2 78 (bz 12 6) HT_.out ?_
           refine pT3 0 76 (bz 12 7) HT_.out HW_.out hHeld ?_
           refine pT3 3 79 (bz 12 15) HT_.out HW_.out hHeld ?_
           refine pU 4 80 (bz 12 31) HT_.out ?_
           refine join_ (σ := Value × Nat) 2 (bz 12 1023) (fun s_ => [(81, .tuple #[.agg #[s_.1], .int .i64 t141]), (13, .pointer (some ⟨s_.2, 0, none⟩)), (75, .tuple #[.agg #[s_.1], .int .i64 t141]), (82, .agg #[s_.1]), (83, .int .i64 t141)]) (fun s_ w' => (w'.cell? ⟨gb133, 0, none⟩ = some (.slice Ao43 t129.length co43) ∧ w'.cell? ⟨gb118, 0, none⟩ = some (.int .i64 a0_0) ∧ w'.cell? ⟨gb118, 1, none⟩ = some (.int .i64 a0_1)) ∧ (Kd.S (Kd.slice 3 (Kd.int .i64)) 25 w' w.heap.size (fun k_ => some k_ ≠ (s_.1 : Value).ownBlock ∧ some k_ ≠ (.slice Ao39 x8_2.length co39 : Value).ownBlock) (.slice Ao43 t129.length co43) t129) ∧ (Kd.S (Kd.slice 3 (Kd.int .i64)) 25 w' w.heap.size (fun k_ => some k_ ≠ (.slice Ao43 t129.length co43 : Value).ownBlock ∧ some k_ ≠ (.slice Ao39 x8_2.length co39 : Value).ownBlock) s_.1 t138) ∧ (Kd.R (Kd.int .i64) 3 w' w.heap.size (fun _ => True) (.slice Ao39 x8_2.length co39) x8_2) ∧ (Kd.R Kd.string 9 w' w.heap.size (fun _ => True) (.slice Ao38 x9_2.length co38) x9_2) ∧ (w'.heap[gb118]? = some (.cells #[.int .i64 a0_0, .int .i64 a0_1] 51 (0, 0))) ∧ (w'.heap[gb133]? = some (.cells #[.slice Ao43 t129.length co43] 24 (0, 0))) ∧ (w'.heap[s_.2]? = some (.cells #[.slice none 0 0] 24 (0, 0))) ∧ (w.heap.size ≤ s_.2) ∧ (w.heap.size ≤ s_.2) ∧ (gb118 ≠ s_.2) ∧ (s_.2 ≠ gb118) ∧ (gb133 ≠ s_.2) ∧ (s_.2 ≠ gb133) ∧ (Below w.heap.size w w')) ?_ ?_
           rotate_left
           ·intro hCont
            refine two_ (i := 5) (j := 9) (Ni := some 81) (Nj := some 13) (bz 12 63) (bz 12 543) rfl rfl rfl rfl (two_of HT_.out uV) q9 q9 (fun K hK => ?_) (fun K hK => ?_)
            ·skip
             refine goes_ Try.func31 uV rfl #[.agg #[.slice Ao43 t129.length co43], .slice Ao39 y134.length co39] uY rfl rfl uk ?_
             with_reducible refine (GRef.ossuaryref1_Pick.calls k2 _ _ t129 _ _ y134 t138 t141 _ ?side1 ?side2 ?side3 ?side4 A36.out).mono ?_
             (case side1 => exact cB (Kd.S_reads' HO131.out).2.2)
             (case side2 => exact (Kd.S_reads' HO131.out).2.1)
             (case side3 => repeat (first | exact ue | (with_reducible refine Kd.C_alloc ?_ _) | (with_reducible refine Kd.C_drewN ?_ _) | (with_reducible refine Kd.C_drew ?_)))
             (case side4 => exact HC137.out)
             rintro e w49 ⟨v139, rfl, ho0, hb⟩
             refine ⟨_, rfl, ?_⟩
             replace HO_9 := mk0 (Kd.R_below (rB HO_9.out) hb)
             have HO140 := mk0 (Kd.S_lower (Kd.S_new' (Kd.S_new' ho0 (Kd.R_lt (rB HO_8.out))) (Kd.S_lt (sB HO131.out))) (below_size uZ))
             replace HO_8 := mk0 (Kd.R_below (rB HO_8.out) hb)
             replace HO131 := mk0 (Kd.S_elder' (sB HO131.out) (Kd.S_base ho0) hb)
             replace BK118 := bK BK118 hb
             replace BK133 := bK BK133 hb
             replace HR137 := mk0 (Kd.C_below ue hb)
             replace HB := mk0 (below_step uZ hb)
             (try clear hb)
             (try clear hb2)
             (try clear hk)
             (try clear hi)
             (try clear ho0)
             refine hK.out _ _ ⟨(blk_cell BK133.out 0).trans rfl, (blk_cell BK118.out 0).trans rfl, (blk_cell BK118.out 1).trans rfl⟩ (fun hHeld => ?_)
             clear hK K
             refine pM (some 81) ?_
             refine pU 6 75 (bz 12 127) HT_.out ?_
             refine pU 7 82 (bz 12 255) HT_.out ?_
             refine pU 8 83 (bz 12 511) HT_.out ?_
             refine one_ (i := 9) (N := some 13) (bz 12 1023) rfl rfl (pO HT_.out) q9 (fun K hK => ?_)
             refine box_step uY (N := 13) uY (cs := #[.slice none 0 0]) (t := 24) uM ?_
             intro gb142 hg w50 hbox hb
             replace HO_8 := mk0 (Kd.R_below (rB HO_8.out) hb)
             replace HO_9 := mk0 (Kd.R_below (rB HO_9.out) hb)
             replace HO131 := mk0 (Kd.S_below (sB HO131.out) hb)
             replace HO140 := mk0 (Kd.S_below (sB HO140.out) hb)
             replace HR137 := mk0 (Kd.C_below ue hb)
             have BK142 := mk0 (hbox)
             have GW142 := mk0 (nB hg HB)
             have GE142 := mk0 (nB hg HB)
             replace HB := mk0 (below_step uZ hb)
             have NB118_142 := mk0 (nF hg BK118.out)
             have NB142_118 := mk0 (nE hg BK118.out)
             replace BK118 := bK BK118 hb
             have NB133_142 := mk0 (nF hg BK133.out)
             have NB142_133 := mk0 (nE hg BK133.out)
             replace BK133 := bK BK133 hb
             clear hb hbox hg
             refine hK.out _ _ ⟨(blk_cell BK133.out 0).trans rfl, (blk_cell BK118.out 0).trans rfl, (blk_cell BK118.out 1).trans rfl⟩ (fun hHeld => ?_)
             clear hK K
             refine pM (some 13) ?_
             exact norm_ uy (hCont (v139, gb142) _ ⟨hHeld, (by (with_reducible repeat (first | apply sA | apply sN | apply sD)); exact Kd.S_mono HO131.out (fun _ hk => ⟨hk.2, hk.1⟩)), (by (with_reducible repeat (first | apply sA | apply sN | apply sD)); exact Kd.S_mono HO140.out (fun _ hk => ⟨hk.2, hk.1.2⟩)), (rB HO_8.out), (rB HO_9.out), (bB BK118.out), (bB BK133.out), (bB BK142.out), GW142.out, GE142.out, NB118_142.out, NB142_118.out, NB133_142.out, NB142_133.out, uZ⟩)
            ·skip
             refine box_step uY (N := 13) uY (cs := #[.slice none 0 0]) (t := 24) uM ?_
             intro gb142 hg w49 hbox hb
             replace HO_8 := mk0 (Kd.R_below (rB HO_8.out) hb)
             replace HO_9 := mk0 (Kd.R_below (rB HO_9.out) hb)
             replace HO131 := mk0 (Kd.S_below (sB HO131.out) hb)
             replace HR137 := mk0 (Kd.C_below ue hb)
             have BK142 := mk0 (hbox)
             have GW142 := mk0 (nB hg HB)
             have GE142 := mk0 (nB hg HB)
             replace HB := mk0 (below_step uZ hb)
             have NB118_142 := mk0 (nF hg BK118.out)
             have NB142_118 := mk0 (nE hg BK118.out)
             replace BK118 := bK BK118 hb
             have NB133_142 := mk0 (nF hg BK133.out)
             have NB142_133 := mk0 (nE hg BK133.out)
             replace BK133 := bK BK133 hb
             clear hb hbox hg
             refine hK.out _ _ ⟨(blk_cell BK133.out 0).trans rfl, (blk_cell BK118.out 0).trans rfl, (blk_cell BK118.out 1).trans rfl⟩ (fun hHeld => ?_)
             clear hK K
             refine pM (some 13) ?_
             refine one_ (i := 5) (N := some 81) (bz 12 575) rfl rfl (pO HT_.out) q9 (fun K hK => ?_)
             refine goes_ Try.func31 uV rfl #[.agg #[.slice Ao43 t129.length co43], .slice Ao39 y134.length co39] uY rfl rfl uk ?_
             with_reducible refine (GRef.ossuaryref1_Pick.calls k2 _ _ t129 _ _ y134 t138 t141 _ ?side1 ?side2 ?side3 ?side4 A36.out).mono ?_
             (case side1 => exact cB (Kd.S_reads' HO131.out).2.2)
             (case side2 => exact (Kd.S_reads' HO131.out).2.1)
             (case side3 => repeat (first | exact ue | (with_reducible refine Kd.C_alloc ?_ _) | (with_reducible refine Kd.C_drewN ?_ _) | (with_reducible refine Kd.C_drew ?_)))
             (case side4 => exact HC137.out)
             rintro e w50 ⟨v139, rfl, ho0, hb⟩
             refine ⟨_, rfl, ?_⟩
             replace HO_9 := mk0 (Kd.R_below (rB HO_9.out) hb)
             have HO140 := mk0 (Kd.S_lower (Kd.S_new' (Kd.S_new' ho0 (Kd.R_lt (rB HO_8.out))) (Kd.S_lt (sB HO131.out))) (below_size uZ))
             replace HO_8 := mk0 (Kd.R_below (rB HO_8.out) hb)
             replace HO131 := mk0 (Kd.S_elder' (sB HO131.out) (Kd.S_base ho0) hb)
             replace BK118 := bK BK118 hb
             replace BK133 := bK BK133 hb
             replace HR137 := mk0 (Kd.C_below ue hb)
             replace BK142 := bK BK142 hb
             replace HB := mk0 (below_step uZ hb)
             (try clear hb)
             (try clear hb2)
             (try clear hk)
             (try clear hi)
             (try clear ho0)
             refine hK.out _ _ ⟨(blk_cell BK133.out 0).trans rfl, (blk_cell BK118.out 0).trans rfl, (blk_cell BK118.out 1).trans rfl⟩ (fun hHeld => ?_)
             clear hK K
             refine pM (some 81) ?_
             refine pU 6 75 (bz 12 639) HT_.out ?_
             refine pU 7 82 (bz 12 767) HT_.out ?_
             refine pU 8 83 (bz 12 1023) HT_.out ?_
             exact norm_ uy (hCont (v139, gb142) _ ⟨hHeld, (by (with_reducible repeat (first | apply sA | apply sN | apply sD)); exact Kd.S_mono HO131.out (fun _ hk => ⟨hk.2, hk.1⟩)), (by (with_reducible repeat (first | apply sA | apply sN | apply sD)); exact Kd.S_mono HO140.out (fun _ hk => ⟨hk.2, hk.1.2⟩)), (rB HO_8.out), (rB HO_9.out), (bB BK118.out), (bB BK133.out), (bB BK142.out), GW142.out, GE142.out, NB118_142.out, NB142_118.out, NB133_142.out, NB142_133.out, uZ⟩)
           rintro ⟨v139, gb142⟩ w51 ⟨hS_, h0_, h1_, h2_, h3_, h4_, h5_, h6_, h7_, h8_, h9_, h10_, h11_, h12_, h13_⟩
           have n0_ : Aside0 (Kd.S (Kd.slice 3 (Kd.int .i64)) 25 w51 w.heap.size (fun k_ => some k_ ≠ (v139 : Value).ownBlock ∧ some k_ ≠ (.slice Ao39 x8_2.length co39 : Value).ownBlock) (.slice Ao43 t129.length co43) t129) := ⟨h0_⟩
           have n1_ : Aside0 (Kd.S (Kd.slice 3 (Kd.int .i64)) 25 w51 w.heap.size (fun k_ => some k_ ≠ (.slice Ao43 t129.length co43 : Value).ownBlock ∧ some k_ ≠ (.slice Ao39 x8_2.length co39 : Value).ownBlock) v139 t138) := ⟨h1_⟩
           have n2_ : Aside0 (Kd.R (Kd.int .i64) 3 w51 w.heap.size (fun _ => True) (.slice Ao39 x8_2.length co39) x8_2) := ⟨h2_⟩
           have n3_ : Aside0 (Kd.R Kd.string 9 w51 w.heap.size (fun _ => True) (.slice Ao38 x9_2.length co38) x9_2) := ⟨h3_⟩
           have n4_ : Aside0 (w51.heap[gb118]? = some (.cells #[.int .i64 a0_0, .int .i64 a0_1] 51 (0, 0))) := ⟨h4_⟩
           have n5_ : Aside0 (w51.heap[gb133]? = some (.cells #[.slice Ao43 t129.length co43] 24 (0, 0))) := ⟨h5_⟩
           have n6_ : Aside0 (w51.heap[gb142]? = some (.cells #[.slice none 0 0] 24 (0, 0))) := ⟨h6_⟩
           have n7_ : Aside0 (w.heap.size ≤ gb142) := ⟨h7_⟩
           have n8_ : Aside0 (w.heap.size ≤ gb142) := ⟨h8_⟩
           have n9_ : Aside0 (gb118 ≠ gb142) := ⟨h9_⟩
           have n10_ : Aside0 (gb142 ≠ gb118) := ⟨h10_⟩
           have n11_ : Aside0 (gb133 ≠ gb142) := ⟨h11_⟩
           have n12_ : Aside0 (gb142 ≠ gb133) := ⟨h12_⟩
           have n13_ : Aside0 (Below w.heap.size w w51) := ⟨h13_⟩
           clear HO_8 HO_9 HO131 BK118 BK133 HB h0_ h1_ h2_ h3_ h4_ h5_ h6_ h7_ h8_ h9_ h10_ h11_ h12_ h13_
           have HO131 := n0_
           have HO140 := n1_
           have HO_8 := n2_
           have HO_9 := n3_
           have BK118 := n4_
           have BK133 := n5_
           have BK142 := n6_
           have GW142 := n7_
           have GE142 := n8_
           have NB118_142 := n9_
           have NB142_118 := n10_
           have NB133_142 := n11_
           have NB142_133 := n12_
           have HB := n13_
           clear n0_ n1_ n2_ n3_ n4_ n5_ n6_ n7_ n8_ n9_ n10_ n11_ n12_ n13_
           have hHeld : w51.cell? ⟨gb133, 0, none⟩ = some (.slice Ao43 t129.length co43) ∧ w51.cell? ⟨gb118, 0, none⟩ = some (.int .i64 a0_0) ∧ w51.cell? ⟨gb118, 1, none⟩ = some (.int .i64 a0_1) := hS_
           obtain ⟨Ao52, co52, eo52⟩ := Kd.S_slice HO140.out
           (first | subst eo52 | (injection eo52 with f1_ f2_ f3_; have f4_ := f1_.symm; have f5_ := f3_.symm; clear f1_ f2_ f3_; subst f4_; subst f5_))
           refine norm_ (a' := ?_) ?_ ?_
           rotate_left
           ·simp only [putAll, Act.put, List.setIfInBounds_toArray, List.set_cons_zero, List.set_cons_succ]
            rfl
           refine one_ (i := 10) (N := none) (bz 12 2047) rfl rfl (pO HT_.out) q9 (fun K hK => ?_)
           have hs53 : w51.cell? ⟨gb142, 0, none⟩ = some (.slice none 0 0) := (blk_cell BK142.out 0).trans rfl
           have hfs53 := blk_frozen BK142.out 0
           have hns53_0 := NB118_142.out
           have hns53_1 := NB133_142.out
           have hms53_0 := NB142_118.out
           have hms53_1 := NB142_133.out
           refine skip_ (w1 := ?_) uY rfl ?_ ?_
           rotate_left
           ·go_simp
            rfl
           refine hK.out _ _ ⟨((cell_far (p := ⟨gb142, _, none⟩) NB133_142.out _).trans (hHeld.1)), ((cell_far (p := ⟨gb142, _, none⟩) NB118_142.out _).trans (hHeld.2.1)), ((cell_far (p := ⟨gb142, _, none⟩) NB118_142.out _).trans (hHeld.2.2))⟩ (fun hHeld => ?_)
           clear hK K
           refine pU 11 14 (bz 12 4095) HT_.out ?_
           refine done_ (done_of HT_.out uV) ?_
           have hnb54 := NB142_118.out
           have hnc54 := NB118_142.out
           have hnb55 := NB142_133.out
           have hnc55 := NB133_142.out
           have hcz56_0 : w51.cell? ⟨gb142, 0, none⟩ = some (.slice none 0 0) := (blk_cell BK142.out 0).trans rfl
           have hfz56_0 := blk_frozen BK142.out 0
           try go_wp2_with (first | ((with_reducible refine gCa (f := 41) rfl ?_); refine goesL_ (some 86) rfl rfl Try.func41 uV rfl #[.agg #[.slice Ao52 t138.length co52]] rfl uk ?_; (with_reducible refine (Pr.rinv.calls _ _ t138 t143 t146 _ ?side1 ?side2 A37.out).mono ?_); (case side1 => refine (Kd.S_reads' (e := 25) (base := w.heap.size) (ok := fun k_ => (some k_ ≠ (.slice Ao43 t129.length co43 : Value).ownBlock ∧ some k_ ≠ (.slice Ao39 x8_2.length co39 : Value).ownBlock)) (n := t138.length) (c := co52) ?_).2.2; exact (by (with_reducible repeat (first | apply sA | apply sN | apply sD)); exact (Kd.S_mono (Kd.S_far (p := ⟨gb142, 0, none⟩) (Kd.S_types HO140.out BK142.out q9) (fun _ hk => hk.2) (.slice Ao52 t138.length co52)) (fun _ h_ => h_.1)))); (case side2 => exact (Kd.S_reads' HO140.out).2.1); rintro e w57 ⟨v144, rfl, ho0, hb⟩; refine ⟨_, rfl, ?_⟩; replace HO_9 := mk0 (Kd.R_below (by (with_reducible repeat (first | apply rA | apply rN | apply rD)); exact (Kd.R_mono (Kd.R_far (p := ⟨gb142, 0, none⟩) (Kd.R_types HO_9.out BK142.out q9) (fun _ hk => hk.2) (.slice Ao52 t138.length co52)) (fun _ h_ => h_.1))) hb); have HO145 := mk0 (Kd.S_lower (Kd.S_new' (Kd.S_new' (Kd.S_new' ho0 (Kd.R_lt (by (with_reducible repeat (first | apply rA | apply rN | apply rD)); exact (Kd.R_mono (Kd.R_far (p := ⟨gb142, 0, none⟩) (Kd.R_types HO_8.out BK142.out q9) (fun _ hk => hk.2) (.slice Ao52 t138.length co52)) (fun _ h_ => h_.1))))) (Kd.S_lt (by (with_reducible repeat (first | apply sA | apply sN | apply sD)); exact (Kd.S_mono (Kd.S_far (p := ⟨gb142, 0, none⟩) (Kd.S_types HO131.out BK142.out q9) (fun _ hk => hk.2) (.slice Ao52 t138.length co52)) (fun _ h_ => h_.1))))) (Kd.S_lt (by (with_reducible repeat (first | apply sA | apply sN | apply sD)); exact (Kd.S_mono (Kd.S_far (p := ⟨gb142, 0, none⟩) (Kd.S_types HO140.out BK142.out q9) (fun _ hk => hk.2) (.slice Ao52 t138.length co52)) (fun _ h_ => h_.1))))) (below_size uZ)); replace HO_8 := mk0 (Kd.R_below (by (with_reducible repeat (first | apply rA | apply rN | apply rD)); exact (Kd.R_mono (Kd.R_far (p := ⟨gb142, 0, none⟩) (Kd.R_types HO_8.out BK142.out q9) (fun _ hk => hk.2) (.slice Ao52 t138.length co52)) (fun _ h_ => h_.1))) hb); replace HO131 := mk0 (Kd.S_elder' (by (with_reducible repeat (first | apply sA | apply sN | apply sD)); exact (Kd.S_mono (Kd.S_far (p := ⟨gb142, 0, none⟩) (Kd.S_types HO131.out BK142.out q9) (fun _ hk => hk.2) (.slice Ao52 t138.length co52)) (fun _ h_ => h_.1))) (Kd.S_base ho0) hb); replace HO140 := mk0 (Kd.S_elder' (by (with_reducible repeat (first | apply sA | apply sN | apply sD)); exact (Kd.S_mono (Kd.S_far (p := ⟨gb142, 0, none⟩) (Kd.S_types HO140.out BK142.out q9) (fun _ hk => hk.2) (.slice Ao52 t138.length co52)) (fun _ h_ => h_.1))) (Kd.S_base ho0) hb); replace BK118 := mk0 (blk_below (g := gb118) (o := .cells #[.int .i64 a0_0, .int .i64 a0_1] 51 (0, 0)) (by refine bB ?_; refine blk_far ?_ NB118_142.out _; refine bB ?_; exact BK118.out) hb); replace BK133 := mk0 (blk_below (g := gb133) (o := .cells #[.slice Ao43 t129.length co43] 24 (0, 0)) (by refine bB ?_; refine blk_far ?_ NB133_142.out _; refine bB ?_; exact BK133.out) hb); replace BK142 := mk0 (blk_below (g := gb142) (o := .cells #[.slice Ao52 t138.length co52] 24 (0, 0)) (by refine bB ?_; refine blk_put (cs := #[.slice none 0 0]) ?_ 0 _ rfl; refine bB ?_; exact BK142.out) hb); replace HB := mk0 (below_step uZ hb); (try clear hb); (try clear hb2); (try clear hk); (try clear hi); (try clear ho0)) | ((with_reducible refine gate_dst (N := 15) rfl ?_); (try (refine gate_guard uY ?_; dsimp only)); refine box_event uY (N := 15) uY (cs := #[.slice none 0 0]) (t := 24) uM ?_; intro gb147 hg w58 hbox hb; replace HO_8 := mk0 (Kd.R_below (rB HO_8.out) hb); replace HO_9 := mk0 (Kd.R_below (rB HO_9.out) hb); replace HO131 := mk0 (Kd.S_below (sB HO131.out) hb); replace HO140 := mk0 (Kd.S_below (sB HO140.out) hb); replace HO145 := mk0 (Kd.S_below (sB HO145.out) hb); have BK147 := mk0 (hbox); have GW147 := mk0 (nB hg HB); have GE147 := mk0 (nB hg HB); replace HB := mk0 (below_step uZ hb); have NB118_147 := mk0 (nF hg BK118.out); have NB147_118 := mk0 (nE hg BK118.out); replace BK118 := bK BK118 hb; have NB133_147 := mk0 (nF hg BK133.out); have NB147_133 := mk0 (nE hg BK133.out); replace BK133 := bK BK133 hb; have NB142_147 := mk0 (nF hg BK142.out); have NB147_142 := mk0 (nE hg BK142.out); replace BK142 := bK BK142 hb; clear hb hbox hg; obtain ⟨Ao59, co59, eo59⟩ := Kd.S_slice HO145.out; subst eo59; have hnb60 := NB147_118.out; have hnc60 := NB118_147.out; have hnb61 := NB147_133.out; have hnc61 := NB133_147.out; have hnb62 := NB147_142.out; have hnc62 := NB142_147.out; have hcz63_0 : w58.cell? ⟨gb147, 0, none⟩ = some (.slice none 0 0) := (blk_cell BK147.out 0).trans rfl; have hfz63_0 := blk_frozen BK147.out 0))
           go_loopg [17, 18] k2 (fun kq v17 v18 w' => ∃ (x17_3 : List ByteArray) (x18_3 : Int), v18 = .int .i64 x18_3 ∧ Aside0 (ossuaryref1_Decode.l1 kq x9_2 x17_3 x18_3 a0_0 a0_1 t143 = some (r1, r2)) ∧ Aside0 (kq ≤ k2) ∧ Aside0 (Kd.R Kd.string 9 w' w.heap.size (fun k_ => some k_ ≠ (v17 : Value).ownBlock) (.slice Ao38 x9_2.length co38) x9_2) ∧ Aside0 (Kd.R Kd.string 9 w' w.heap.size (fun k_ => some k_ ≠ ((.slice Ao38 x9_2.length co38) : Value).ownBlock) v17 x17_3) ∧ Aside0 (Kd.S (Kd.slice 3 (Kd.int .i64)) 25 w' w.heap.size (fun k_ => some k_ ≠ ((.slice Ao52 t138.length co52) : Value).ownBlock ∧ some k_ ≠ ((.slice Ao59 t143.length co59) : Value).ownBlock) (.slice Ao43 t129.length co43) t129) ∧ Aside0 (Kd.S (Kd.slice 3 (Kd.int .i64)) 25 w' w.heap.size (fun k_ => some k_ ≠ ((.slice Ao43 t129.length co43) : Value).ownBlock ∧ some k_ ≠ ((.slice Ao59 t143.length co59) : Value).ownBlock) (.slice Ao52 t138.length co52) t138) ∧ Aside0 (Kd.S (Kd.slice 3 (Kd.int .i64)) 25 w' w.heap.size (fun k_ => some k_ ≠ ((.slice Ao43 t129.length co43) : Value).ownBlock ∧ some k_ ≠ ((.slice Ao52 t138.length co52) : Value).ownBlock) (.slice Ao59 t143.length co59) t143) ∧ Aside0 (w'.heap[gb118]? = some (.cells #[.int .i64 a0_0, .int .i64 a0_1] 51 (0, 0))) ∧ Aside0 (w'.heap[gb133]? = some (.cells #[(.slice Ao43 t129.length co43)] 24 (0, 0))) ∧ Aside0 (w'.heap[gb142]? = some (.cells #[(.slice Ao52 t138.length co52)] 24 (0, 0))) ∧ Aside0 (w'.heap[gb147]? = some (.cells #[(.slice Ao59 t143.length co59)] 24 (0, 0))) ∧ Aside0 (Below w.heap.size w w'))
           case atStart => exact ⟨(([] : List ByteArray)), (0), uK, H', ⟨Nat.le_refl _⟩, ⟨by (with_reducible repeat (first | apply rA | apply rN | apply rD)); exact Kd.R_mono (Kd.R_far (p := ⟨gb147, 0, none⟩) (Kd.R_types HO_9.out BK147.out q9) (fun _ hk => hk.2) (.slice Ao59 t143.length co59)) (fun _ hk => (by simp [Value.ownBlock]))⟩, ⟨ui⟩, ⟨by (with_reducible repeat (first | apply sA | apply sN | apply sD)); exact Kd.S_mono (Kd.S_far (p := ⟨gb147, 0, none⟩) (Kd.S_types HO131.out BK147.out q9) (fun _ hk => hk.2) (.slice Ao59 t143.length co59)) (fun _ hk => ⟨hk.1.1.1, hk.1.2⟩)⟩, ⟨by (with_reducible repeat (first | apply sA | apply sN | apply sD)); exact Kd.S_mono (Kd.S_far (p := ⟨gb147, 0, none⟩) (Kd.S_types HO140.out BK147.out q9) (fun _ hk => hk.2) (.slice Ao59 t143.length co59)) (fun _ hk => ⟨hk.1.1.1, hk.1.2⟩)⟩, ⟨by (with_reducible repeat (first | apply sA | apply sN | apply sD)); exact Kd.S_mono (Kd.S_far (p := ⟨gb147, 0, none⟩) (Kd.S_types HO145.out BK147.out q9) (fun _ hk => hk.2) (.slice Ao59 t143.length co59)) (fun _ hk => ⟨hk.1.1.2, hk.1.2⟩)⟩, ⟨by refine bB ?_; refine blk_far ?_ NB118_147.out _; refine bB ?_; exact BK118.out⟩, ⟨by refine bB ?_; refine blk_far ?_ NB133_147.out _; refine bB ?_; exact BK133.out⟩, ⟨by refine bB ?_; refine blk_far ?_ NB142_147.out _; refine bB ?_; exact BK142.out⟩, ⟨by refine bB ?_; refine blk_put (cs := #[.slice none 0 0]) ?_ 0 _ rfl; refine bB ?_; exact BK147.out⟩, ⟨uZ⟩⟩
           case round =>
            clear H'
            try clear c1
            try clear p1
            try clear q1
            try clear hx1
            try clear c2
            try clear p2
            try clear q2
            try clear c3
            try clear c4
            try clear q4
            try clear c5
            try clear c6
            try clear p6
            try clear c7
            try clear c8
            try clear c8b0
            try clear c8b1
            try clear c9
            try clear p12
            try clear q12
            try clear hx12
            try clear c17
            try clear c18
            try clear c18b0
            try clear c19
            try clear c19b0
            try clear q20
            try clear c21
            try clear c22
            try clear c23
            try clear c23b0
            try clear c24
            try clear c28
            try clear c29
            try clear c29b0
            try clear c31
            try clear c34
            try clear c34b0
            try clear c34b1
            try clear c35
            try clear c35b0
            try clear c35b1
            try clear c41
            try clear c44
            try clear q48
            try clear c54
            try clear c55
            try clear c60
            try clear c61
            try clear c62
            try clear hcz11_0
            try clear hcz11_1
            try clear hcz12_0
            try clear hcz12_1
            try clear hcz14_0
            try clear hcz14_1
            try clear hcz15_0
            try clear hcz15_1
            try clear hcz32_0
            try clear hcz32_1
            try clear hcz40_0
            try clear hcz40_1
            try clear hcz45_0
            try clear hcz56_0
            try clear hcz63_0
            try clear hcz9_0
            try clear hcz9_1
            try clear hfz11_0
            try clear hfz11_1
            try clear hfz12_0
            try clear hfz12_1
            try clear hfz14_0
            try clear hfz14_1
            try clear hfz15_0
            try clear hfz15_1
            try clear hfz32_0
            try clear hfz32_1
            try clear hfz40_0
            try clear hfz40_1
            try clear hfz45_0
            try clear hfz56_0
            try clear hfz63_0
            try clear hfz9_0
            try clear hfz9_1
            try clear hx120_0
            try clear hx124_0
            try clear p120
            try clear p124
            try clear p2
            try clear p6
            try clear q120
            try clear q124
            try clear q48
            obtain ⟨x17_3, x18_3, rfl, HA, HK3, HO_9, HO_17, HO_134000, HO_143000, HO_148000, BK118, BK133, BK142, BK147, HB⟩ := hrel
            cases gk with
            | zero => exact absurd HA.out (by simp [ossuaryref1_Decode.l1])
            | succ k3 =>
             have H := HA.out
             clear HA
             simp only [ossuaryref1_Decode.l1] at H
             by_cases c64 : x18_3 < a0_0
             ·rw [if_pos c64] at H
              have c64b0 : decide (x18_3 < a0_0) = true := decide_eq_true c64
              clear c64
              by_cases c65 : 0 ≤ x18_3
              ·rw [if_pos c65] at H
               have c65b0 : decide (0 ≤ x18_3) = true := decide_eq_true c65
               clear c65
               by_cases c66 : x18_3 < (t143.length : Int)
               ·rw [if_pos c66] at H
                have c66b0 : decide (x18_3 < (t143.length : Int)) = true := decide_eq_true c66
                clear c66
                by_cases c67 : 0 ≤ a0_0
                ·rw [if_pos c67] at H
                 have c67b0 := eq_true c67
                 have c67b1 : decide (0 ≤ a0_0) = true := decide_eq_true c67
                 clear c67
                 by_cases c68 : a0_0 ≤ (x9_2.length : Int)
                 ·rw [if_pos c68] at H
                  have c68b0 := eq_true c68
                  have c68b1 : decide (a0_0 ≤ (x9_2.length : Int)) = true := decide_eq_true c68
                  clear c68
                  obtain ⟨y149, hy149⟩ : ∃ y_ : List ByteArray, y_ = (x9_2.take (a0_0 : Int).toNat) := ⟨_, rfl⟩
                  replace H : ((GRef.ossuaryref1_Combine.f k3 (rd_L1 t143 x18_3) y149).bind fun bt153 => (if x17_3.length < 8796093022208 then (ossuaryref1_Decode.l1 k3 x9_2 (x17_3 ++ [bt153.1]) (wrap64 (x18_3 + 1)) a0_0 a0_1 t143) else (none))) = some (r1, r2) := by first | (rw [hy149]; with_reducible exact H) | (have H2_ := (Option.bind_some _ _).symm.trans H; rw [hy149]; with_reducible exact H2_) | (have H2_ := (Option.bind_some _ _).symm.trans H; with_reducible exact H2_) | with_reducible exact H | (rw [hy149]; exact H) | exact H
                  have Ny149 := mk0 hy149
                  clear hy149
                  replace H := Option.bind_eq_some_iff.mp H
                  obtain ⟨⟨t153, t154⟩, A690, H⟩ := H
                  replace H : (if x17_3.length < 8796093022208 then (ossuaryref1_Decode.l1 k3 x9_2 (x17_3 ++ [t153]) (wrap64 (x18_3 + 1)) a0_0 a0_1 t143) else (none)) = some (r1, r2) := H
                  have A69 := mk0 A690
                  clear A690
                  by_cases c70 : x17_3.length < 8796093022208
                  ·rw [if_pos c70] at H
                   have LMc70 := mk0 c70
                   clear c70
                   obtain ⟨y155, hy155⟩ : ∃ y_ : List ByteArray, y_ = (x17_3 ++ [t153]) := ⟨_, rfl⟩
                   replace H : (ossuaryref1_Decode.l1 k3 x9_2 y155 (wrap64 (x18_3 + 1)) a0_0 a0_1 t143) = some (r1, r2) := by first | (rw [hy155]; with_reducible exact H) | (have H2_ := (Option.bind_some _ _).symm.trans H; rw [hy155]; with_reducible exact H2_) | (have H2_ := (Option.bind_some _ _).symm.trans H; with_reducible exact H2_) | with_reducible exact H | (rw [hy155]; exact H) | exact H
                   have Ny155 := mk0 hy155
                   clear hy155
                   have H' := mk0 H
                   clear H
                   have hnb71 := NB118_133.out
                   have hnc71 := NB133_118.out
                   have hnb72 := NB118_142.out
                   have hnc72 := NB142_118.out
                   have hnb73 := NB118_147.out
                   have hnc73 := NB147_118.out
                   have hcz74_0 : wr.cell? ⟨gb118, 0, none⟩ = some (.int .i64 a0_0) := (blk_cell BK118.out 0).trans rfl
                   have hcz74_1 : wr.cell? ⟨gb118, 1, none⟩ = some (.int .i64 a0_1) := (blk_cell BK118.out 1).trans rfl
                   have hfz74_0 := blk_frozen BK118.out 0
                   have hfz74_1 := blk_frozen BK118.out 1
                   try go_wp2
                   replace HO_9 := mk0 (Kd.R_drew HO_9.out)
                   replace HO_17 := mk0 (Kd.R_drew HO_17.out)
                   replace HO_134000 := mk0 (Kd.S_drew HO_134000.out)
                   replace HO_143000 := mk0 (Kd.S_drew HO_143000.out)
                   replace HO_148000 := mk0 (Kd.S_drew HO_148000.out)
                   replace BK118 := mk0 (blk_drew BK118.out)
                   replace BK133 := mk0 (blk_drew BK133.out)
                   replace BK142 := mk0 (blk_drew BK142.out)
                   replace BK147 := mk0 (blk_drew BK147.out)
                   replace HB := mk0 (below_drew1 HB.out)
                   have p148 : 0 ≤ (x18_3 : Int) := of_decide_eq_true uJ
                   have q148 : x18_3 < (t143.length : Int) := of_decide_eq_true uJ
                   obtain ⟨ad148, A148_0, c148_0, e148, hx148_0, hl148_0, hi148_0⟩ := at_L1 (Kd.S_reads' HO_148000.out).2.2 x18_3 p148 q148
                   cases e148
                   obtain ⟨ce148, hce148, hMe148, hcc148⟩ := Kd.S_get HO_148000.out [] x18_3 p148 (by first | exact q148 | exact of_decide_eq_true uJ | (have e_ := (Kd.S_reads' HO_148000.out).1; omega))
                   obtain ⟨ve148_0, rfl, ge148_0⟩ := hMe148
                   have hv148_0 := hcc148 0 _ rfl
                   rw [Nat.add_zero, show ((Kd.slice 3 (Kd.int .i64))).sz = 1 from rfl, Nat.mul_one] at hv148_0
                   replace hv148_0 := Option.some.inj (hv148_0.symm.trans hx148_0)
                   rw [hv148_0] at ge148_0
                   have HL148_0 := mk0 (show Kd.R (Kd.int .i64) 3 _ _ _ _ (rd_L1 t143 x18_3) from ge148_0)
                   clear hv148_0 ge148_0 hcc148 hce148
                   have HR148_0 := mk0 hi148_0
                   have HC148_0 := mk0 hl148_0
                   clear hi148_0 hl148_0
                   replace p148 := eq_true p148
                   replace q148 := eq_true q148
                   have q76 : (a0_0 : Int) ≤ ((x9_2.length : Int) : Int) := of_decide_eq_true uJ
                   obtain ⟨i076, hi076, _, hsz76, _⟩ := info_parts info9
                   have hroom76 : x9_2.length ≤ co38 := (Kd.R_reads' HO_9.out).2.1
                   have hC76 : Kd.C Kd.string _ Ao38 x9_2.length x9_2 := (Kd.R_reads' HO_9.out).2.2
                   have hcut76 := cut_to (P := Try.prog) 58 9 .i64 Try.underlying58 hi076 Ao38 x9_2.length co38 a0_0 (of_decide_eq_true uJ) q76 hroom76
                   have hr76 := Kd.C_take (m := (a0_0 : Int).toNat) hC76 uX
                   have hy76 : y149.length = (a0_0 : Int).toNat := (by rw [Ny149.out, List.length_take]; omega)
                   rw [← Ny149.out] at hr76
                   rw [← hy76] at hcut76
                   have HR152 := mk0 hr76
                   have HC152 := mk0 (show y149.length ≤ co38 from by omega)
                   clear hr76 hC76 hroom76 hi076 hsz76
                   have KY76 := mk0 hy76
                   clear hy76
                   have KL76 := mk0 (show (a0_0 : Int).toNat ≤ x9_2.length from by omega)
                   replace q76 := eq_true q76
                   refine start_ (n := 15) (S := fun w' => w'.cell? ⟨gb147, 0, none⟩ = some (.slice (some ad148) t143.length co59) ∧ w'.cell? ⟨gb118, 0, none⟩ = some (.int .i64 a0_0) ∧ w'.cell? ⟨gb118, 1, none⟩ = some (.int .i64 a0_1) ∧ w'.cell? (ad148.add (x18_3).toNat) = some (.slice A148_0 (rd_L1 t143 x18_3).length c148_0)) (ds := []) (bz 15 0) uV rfl rfl ⟨(blk_cell BK147.out 0).trans rfl, (blk_cell BK118.out 0).trans rfl, (blk_cell BK118.out 1).trans rfl, hx148_0⟩ (fun hHeld => ?_); refine with_tabW ossuaryref1_Decode.tab22 ossuaryref1_Decode.bits22 (fun HT_ HW_ => ?_)
                   generalize wr.drew = w75 at HO_9 HO_17 HO_134000 HO_143000 HO_148000 BK118 BK133 BK142 BK147 HB HL148_0 HR148_0 HR152 hx148_0 hHeld ⊢
                   refine pU 0 96 (bz 15 1) HT_.out ?_
                   refine pU 2 98 (bz 15 5) HT_.out ?_
                   refine pU 5 101 (bz 15 37) HT_.out ?_
                   refine pU 6 102 (bz 15 101) HT_.out ?_
                   refine pT4 1 97 (bz 15 103) HT_.out HW_.out hHeld ?_
                   refine pU 3 99 (bz 15 111) HT_.out ?_
                   refine pT4 4 100 (bz 15 127) HT_.out HW_.out hHeld ?_
                   refine pT4 7 103 (bz 15 255) HT_.out HW_.out hHeld ?_
                   refine pU 8 104 (bz 15 511) HT_.out ?_
                   refine one_ (i := 9) (N := some 105) (bz 15 1023) rfl rfl (pO HT_.out) q9 (fun K hK => ?_)
                   refine goes_ Try.func58 uV rfl #[.slice A148_0 (rd_L1 t143 x18_3).length c148_0, .slice Ao38 y149.length co38] uY rfl rfl uk ?_
                   with_reducible refine (GRef.ossuaryref1_Combine.calls k3 _ _ (rd_L1 t143 x18_3) _ _ y149 t153 t154 _ ?side1 ?side2 ?side3 ?side4 A69.out).mono ?_
                   (case side1 => repeat (first | exact ua | (with_reducible refine Kd.C_alloc ?_ _) | (with_reducible refine Kd.C_drewN ?_ _) | (with_reducible refine Kd.C_drew ?_)))
                   (case side2 => exact HC148_0.out)
                   (case side3 => repeat (first | exact (by repeat (first | (with_reducible exact HR152.out) | (with_reducible refine Kd.C_alloc ?_ _) | (with_reducible refine Kd.C_drewN ?_ _) | (with_reducible refine Kd.C_drew ?_) | exact HR152.out)) | (with_reducible refine Kd.C_alloc ?_ _) | (with_reducible refine Kd.C_drewN ?_ _) | (with_reducible refine Kd.C_drew ?_)))
                   (case side4 => exact HC152.out)
                   rintro e w77 ⟨rfl, hb⟩
                   have HS3_ := (hb.cell (World.block_lt_of_cell? _ _ (hHeld.2.2.2))).trans (hHeld.2.2.2)
                   refine ⟨_, rfl, ?_⟩
                   replace HO_9 := mk0 (Kd.R_below (rB HO_9.out) hb)
                   replace HO_17 := mk0 (Kd.R_below (rB HO_17.out) hb)
                   replace HO_134000 := mk0 (Kd.S_below (sB HO_134000.out) hb)
                   replace HO_143000 := mk0 (Kd.S_below (sB HO_143000.out) hb)
                   replace HO_148000 := mk0 (Kd.S_below (sB HO_148000.out) hb)
                   replace HL148_0 := mk0 (Kd.R_below (rB HL148_0.out) hb)
                   replace BK118 := bK BK118 hb
                   replace BK133 := bK BK133 hb
                   replace BK142 := bK BK142 hb
                   replace BK147 := bK BK147 hb
                   replace HR148_0 := mk0 (Kd.C_below ua hb)
                   replace HR152 := mk0 (Kd.C_below (by repeat (first | (with_reducible exact HR152.out) | (with_reducible refine Kd.C_alloc ?_ _) | (with_reducible refine Kd.C_drewN ?_ _) | (with_reducible refine Kd.C_drew ?_) | exact HR152.out)) hb)
                   replace HB := mk0 (below_step uZ hb)
                   (try clear hb)
                   (try clear hb2)
                   (try clear hk)
                   (try clear hi)
                   refine hK.out _ _ ⟨(blk_cell BK147.out 0).trans rfl, (blk_cell BK118.out 0).trans rfl, (blk_cell BK118.out 1).trans rfl, HS3_⟩ (fun hHeld => ?_)
                   clear hK K
                   refine pM (some 105) ?_
                   refine pU 10 95 (bz 15 2047) HT_.out ?_
                   refine pU 11 106 (bz 15 4095) HT_.out ?_
                   refine pU 12 107 (bz 15 8191) HT_.out ?_
                   refine pU 13 19 (bz 15 16383) HT_.out ?_
                   refine pU 14 20 (bz 15 32767) HT_.out ?_
                   refine done_ (done_of HT_.out uV) ?_
                   try go_wp2_with (first | ((with_reducible refine gBu (b := .append) (xs := #[.tmp 108, .tmp 110]) rfl ?_); (try (refine gate_guard uY ?_; dsimp only)); at_builtin; refine Kd.R_append Kd.string (w0 := w) w.heap.size rfl (.tmp 108) (.tmp 110) 58 9 (.string ⟨#[]⟩) 16 rfl Try.underlying58 info9 rfl q9 uX u17 x17_3 t153 [.string t153] (fun k_ => some k_ ≠ (.slice Ao38 x9_2.length co38 : Value).ownBlock) (fun _ => False) rfl rfl ?aP (fun _ hk => hk.elim) ?aF ?aO ?aB ?aS ?aL ?_; (case aP => exact rfl); (case aB => exact uZ); (case aF => exact (fun k_ hk => Kd.fresh' (Kd.R_lt (rB HO_9.out)) k_ hk)); (case aO => exact (rB HO_17.out)); (case aS => exact (below_size uZ)); (case aL => have := LMc70.out; omega); intro v156 w78 ho hb hg hat; rw [← Ny155.out] at ho; replace HO_134000 := mk0 (Kd.S_over' (sB HO_134000.out) (Kd.R_typed (rB HO_17.out)) q9 hg); replace HO_143000 := mk0 (Kd.S_over' (sB HO_143000.out) (Kd.R_typed (rB HO_17.out)) q9 hg); replace HO_148000 := mk0 (Kd.S_over' (sB HO_148000.out) (Kd.R_typed (rB HO_17.out)) q9 hg); replace BK118 := mk0 (blk_grown (g := gb118) (o := .cells #[.int .i64 a0_0, .int .i64 a0_1] 51 (0, 0)) (bB BK118.out) hg (Kd.R_ne HO_17.out BK118.out q9)); replace BK133 := mk0 (blk_grown (g := gb133) (o := .cells #[.slice Ao43 t129.length co43] 24 (0, 0)) (bB BK133.out) hg (Kd.R_ne HO_17.out BK133.out q9)); replace BK142 := mk0 (blk_grown (g := gb142) (o := .cells #[.slice Ao52 t138.length co52] 24 (0, 0)) (bB BK142.out) hg (Kd.R_ne HO_17.out BK142.out q9)); replace BK147 := mk0 (blk_grown (g := gb147) (o := .cells #[.slice (some ad148) t143.length co59] 24 (0, 0)) (bB BK147.out) hg (Kd.R_ne HO_17.out BK147.out q9)); replace HL148_0 := mk0 (Kd.R_over' (rB HL148_0.out) (Kd.R_typed (rB HO_17.out)) q9 hg); replace HB := mk0 (hb); replace HR152 := mk0 ((show Kd.C Kd.string w78 Ao38 y149.length y149 from by rw [Ny149.out]; exact Kd.C_take (m := (a0_0 : Int).toNat) ((Kd.R_reads' (Kd.R_after (ok := (fun _ => True)) (by (with_reducible repeat (first | apply rA | apply rN | apply rD)); exact Kd.R_mono HO_9.out (fun _ hk => ⟨trivial, hk⟩)) hg hat)).2.2) KL76.out)); replace HO_9 := mk0 (Kd.R_after (ok := (fun _ => True)) (by (with_reducible repeat (first | apply rA | apply rN | apply rD)); exact Kd.R_mono HO_9.out (fun _ hk => ⟨trivial, hk⟩)) hg hat); have HO157 := mk0 (ho); clear HO_17; clear ho hb hg hat))
                   go_roundg k3
                   case measure => have := HJ3.out; have := HK2.out; have := HK3.out; omega
                   case rel => exact ⟨(y155), (wrap64 (x18_3 + 1)), uK, H', ⟨by have := HJ3.out; have := HK2.out; have := HK3.out; omega⟩, ⟨by (with_reducible repeat (first | apply rA | apply rN | apply rD)); exact Kd.R_mono HO_9.out (fun _ hk => hk.2)⟩, ⟨rB HO157.out⟩, ⟨sB HO_134000.out⟩, ⟨sB HO_143000.out⟩, ⟨sB HO_148000.out⟩, ⟨bB BK118.out⟩, ⟨bB BK133.out⟩, ⟨bB BK142.out⟩, ⟨bB BK147.out⟩, ⟨uZ⟩⟩
                  ·rw [if_neg c70] at H
                   exact absurd H qa
                 ·rw [if_neg c68] at H
                  exact absurd H qa
                ·rw [if_neg c67] at H
                 exact absurd H qa
               ·rw [if_neg c66] at H
                exact absurd H qa
              ·rw [if_neg c65] at H
               exact absurd H qa
             ·rw [if_neg c64] at H
              have c64b0 : decide (x18_3 < a0_0) = false := decide_eq_false c64
              clear c64
              simp only [Option.some.injEq, Prod.mk.injEq] at H
              obtain ⟨rfl, rfl⟩ := H
              have hnb79 := NB118_133.out
              have hnc79 := NB133_118.out
              have hnb80 := NB118_142.out
              have hnc80 := NB142_118.out
              have hnb81 := NB118_147.out
              have hnc81 := NB147_118.out
              have hcz82_0 : wr.cell? ⟨gb118, 0, none⟩ = some (.int .i64 a0_0) := (blk_cell BK118.out 0).trans rfl
              have hcz82_1 : wr.cell? ⟨gb118, 1, none⟩ = some (.int .i64 a0_1) := (blk_cell BK118.out 1).trans rfl
              have hfz82_0 := blk_frozen BK118.out 0
              have hfz82_1 := blk_frozen BK118.out 1
              go_wp2
              go_ret2
              exact ⟨_, uA, by (with_reducible repeat (first | apply rA | apply rN | apply rD)); exact Kd.R_mono HO_17.out (fun _ hk => trivial), uZ⟩
          ·rw [if_neg c35] at H
           exact absurd H qa
         ·rw [if_neg c34] at H
          exact absurd H qa
       ·replace c28 := Bool.eq_false_iff.mpr c28
        subst c28
        have H1 : (some (([] : List ByteArray), 700)) = some (r1, r2) := by rw [if_neg (show ¬ (false = true) by decide)] at H; exact H
        clear H
        have H := H1
        clear H1
        simp only [Option.some.injEq, Prod.mk.injEq] at H
        obtain ⟨rfl, rfl⟩ := H
        obtain ⟨Ao83, co83, eo83⟩ := Kd.R_slice HO_9.out
        subst eo83
        go_wp2_with (first | ((with_reducible refine gCa (f := 91) rfl ?_); refine goesL_ (some 63) rfl rfl Try.func91 uV rfl #[.slice Ao83 x9_2.length co83] rfl uk ?_; (with_reducible refine (GRef.ossuaryref1_alike.calls k2 _ _ x9_2 false _ ?side1 ?side2 A27.out).mono ?_); (case side1 => exact cB (Kd.R_reads' HO_9.out).2.2); (case side2 => exact (Kd.R_reads' HO_9.out).2.1); rintro e w' ⟨rfl, ⟨nd, rfl⟩⟩; refine ⟨_, rfl, ?_⟩))
        go_ret2
        exact ⟨_, uA, ui, uZ⟩
end Go.Proofs.Ytaahnicjjpddjaa.GRenc
