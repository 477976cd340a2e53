/- Functions of the program as Lean functions, each with a proof that its call comes to what the function says. No condition. -/
import Derived.Test.YtaahnicjjpddjaaKRebuildMendsGEnc0
namespace Go.Proofs.Ytaahnicjjpddjaa.GEnc
open Go.Proofs.Ytaahnicjjpddjaa.Fn
open Go.Proofs.Ytaahnicjjpddjaa
open Go.RowKit Go.Proofs.YtaahnicjjpddjaaW.PrintWords Go.Proofs.YtaahnicjjpddjaaW.PrintLast
set_option linter.unusedVariables false
set_option linter.unusedSimpArgs false
mutual
noncomputable def decode_Decode.j0 : Nat → List ByteArray → List Bool → Bool → Int → Int → List (List Int) → Option (List ByteArray × Int)
 | 0, _, _, _, _, _, _ => none
 | k + 1, x1, x2, x43, x124000, x124001, x129000 => if x43 = true then (some (([] : List ByteArray), 700)) else (decode_Decode.l0 k x1 ([] : List Int) ([] : List ByteArray) x2 (x2.length : Int) 0 x124000 x124001 x129000)
noncomputable def decode_Decode.l0 : Nat → List ByteArray → List Int → List ByteArray → List Bool → Int → Int → Int → Int → List (List Int) → Option (List ByteArray × Int)
 | 0, _, _, _, _, _, _, _, _, _ => none
 | k + 1, x1, x10, x11, x44, x45, x46, x124000, x124001, x129000 => if x46 < x45 then (if 0 ≤ x46 then (if x46 < (x44.length : Int) then (if rdOf false x44 x46 = true then ((some (([x46] : List Int) : List Int)).bind fun y131 => (if x10.length + y131.length < 17592186044416 then (if x46 < (x1.length : Int) then ((some (([rdOf ByteArray.empty x1 x46] : List ByteArray) : List ByteArray)).bind fun y138 => (if x11.length + y138.length < 8796093022208 then (decode_Decode.l0 k x1 (x10 ++ y131) (x11 ++ y138) x44 x45 (wrap64 (x46 + 1)) x124000 x124001 x129000) else (none))) else (none)) else (none))) else (decode_Decode.l0 k x1 x10 x11 x44 x45 (wrap64 (x46 + 1)) x124000 x124001 x129000)) else (none)) else (none)) else ((GVec.vec_Alike.f k x11).bind fun t144 => (if t144 = true then (if (x11.length : Int) < x124000 then (some (([] : List ByteArray), 701)) else (if 0 ≤ x124000 then (if x124000 ≤ (x10.length : Int) then ((GBase.matrix_Pick.f k x129000 (x10.take (x124000 : Int).toNat)).bind fun bt149 => ((Pr.inv.f bt149.1).bind fun bt154 => (decode_Decode.l1 k x11 ([] : List ByteArray) bt154.1 (bt154.1.length : Int) 0 x124000 x124001))) else (none)) else (none))) else (some (([] : List ByteArray), 700))))
noncomputable def decode_Decode.l1 : Nat → List ByteArray → List ByteArray → List (List Int) → Int → Int → Int → Int → Option (List ByteArray × Int)
 | 0, _, _, _, _, _, _, _ => none
 | k + 1, x11, x18, x89, x90, x91, x124000, x124001 => if x91 < x90 then (if 0 ≤ x91 then (if x91 < (x89.length : Int) then (if 0 ≤ x124000 then (if x124000 ≤ (x11.length : Int) then ((GVec.vec_Combine.f k (rd_L2 x89 x91) (x11.take (x124000 : Int).toNat)).bind fun bt164 => ((some (([bt164.1] : List ByteArray) : List ByteArray)).bind fun y166 => (if x18.length + y166.length < 8796093022208 then (decode_Decode.l1 k x11 (x18 ++ y166) x89 x90 (wrap64 (x91 + 1)) x124000 x124001) else (none)))) else (none)) else (none)) else (none)) else (none)) else (some (x18, 0))
end
noncomputable def decode_Decode.f (k : Nat) (a0_0 : Int) (a0_1 : Int) (l1 : List ByteArray) (l2 : List Bool) : Option (List ByteArray × Int) := (GGen.gen_Matrix.f k a0_0 a0_1).bind fun bt124 => (if bt124.2 = 0 then ((GGf.gen_All.f a0_0 a0_1).bind fun t129 => (if (l1.length : Int) = t129 then (decode_Decode.j0 k l1 l2 ((l2.length : Int) != (l1.length : Int)) a0_0 a0_1 bt124.1) else (decode_Decode.j0 k l1 l2 true a0_0 a0_1 bt124.1))) else (decode_Decode.j0 k l1 l2 true a0_0 a0_1 bt124.1))
theorem decode_Decode.mono_l : ∀ k, (∀ y0 y1 y2 y3 y4 y5, LeO (decode_Decode.j0 k y0 y1 y2 y3 y4 y5) (decode_Decode.j0 (k + 1) y0 y1 y2 y3 y4 y5)) ∧ (∀ y0 y1 y2 y3 y4 y5 y6 y7 y8, LeO (decode_Decode.l0 k y0 y1 y2 y3 y4 y5 y6 y7 y8) (decode_Decode.l0 (k + 1) y0 y1 y2 y3 y4 y5 y6 y7 y8)) ∧ (∀ y0 y1 y2 y3 y4 y5 y6, LeO (decode_Decode.l1 k y0 y1 y2 y3 y4 y5 y6) (decode_Decode.l1 (k + 1) y0 y1 y2 y3 y4 y5 y6))
 | 0 => ⟨fun _ _ _ _ _ _ r h => by simp [decode_Decode.j0] at h, fun _ _ _ _ _ _ _ _ _ r h => by simp [decode_Decode.l0] at h, fun _ _ _ _ _ _ _ r h => by simp [decode_Decode.l1] at h⟩
 | k + 1 => by
  obtain ⟨ih0, ih1, ih2⟩ := decode_Decode.mono_l k
  refine ⟨?_, ?_, ?_⟩
  ·intro y0 y1 y2 y3 y4 y5
   unfold decode_Decode.j0
   repeat' with_reducible first | exact ih0 _ _ _ _ _ _ | exact ih1 _ _ _ _ _ _ _ _ _ | exact ih2 _ _ _ _ _ _ _ | exact GBase.matrix_Pick.mono _ _ _ | exact GGen.gen_Matrix.mono _ _ _ | exact GVec.vec_Alike.mono _ _ | exact GVec.vec_Combine.mono _ _ _ | exact LeO.refl _ | exact LeO.none _ | refine LeO.ite ?_ ?_ | refine LeO.bind ?_ (fun _ => ?_)
  ·intro y0 y1 y2 y3 y4 y5 y6 y7 y8
   unfold decode_Decode.l0
   repeat' with_reducible first | exact ih0 _ _ _ _ _ _ | exact ih1 _ _ _ _ _ _ _ _ _ | exact ih2 _ _ _ _ _ _ _ | exact GBase.matrix_Pick.mono _ _ _ | exact GGen.gen_Matrix.mono _ _ _ | exact GVec.vec_Alike.mono _ _ | exact GVec.vec_Combine.mono _ _ _ | exact LeO.refl _ | exact LeO.none _ | refine LeO.ite ?_ ?_ | refine LeO.bind ?_ (fun _ => ?_)
  ·intro y0 y1 y2 y3 y4 y5 y6
   unfold decode_Decode.l1
   repeat' with_reducible first | exact ih0 _ _ _ _ _ _ | exact ih1 _ _ _ _ _ _ _ _ _ | exact ih2 _ _ _ _ _ _ _ | exact GBase.matrix_Pick.mono _ _ _ | exact GGen.gen_Matrix.mono _ _ _ | exact GVec.vec_Alike.mono _ _ | exact GVec.vec_Combine.mono _ _ _ | exact LeO.refl _ | exact LeO.none _ | refine LeO.ite ?_ ?_ | refine LeO.bind ?_ (fun _ => ?_)
theorem decode_Decode.mono : ∀ a0 a1 a2 a3 k, LeO (decode_Decode.f k a0 a1 a2 a3) (decode_Decode.f (k + 1) a0 a1 a2 a3) := by
 intro a0 a1 a2 a3 k
 obtain ⟨ih0, ih1, ih2⟩ := decode_Decode.mono_l k
 unfold decode_Decode.f
 repeat' with_reducible first | exact ih0 _ _ _ _ _ _ | exact ih1 _ _ _ _ _ _ _ _ _ | exact ih2 _ _ _ _ _ _ _ | exact GBase.matrix_Pick.mono _ _ _ | exact GGen.gen_Matrix.mono _ _ _ | exact GVec.vec_Alike.mono _ _ | exact GVec.vec_Combine.mono _ _ _ | exact LeO.refl _ | exact LeO.none _ | refine LeO.ite ?_ ?_ | refine LeO.bind ?_ (fun _ => ?_)
noncomputable def decode_Decode.T10 : Bool × List (List Nat × List Nat) := (true, [([], []), ([], []), ([1], [1]), ([0, 2], [0, 2]), ([], []), ([], []), ([], []), ([5, 6], [5, 6]), ([7], [7]), ([8], [8]), ([4, 9, 3], [4, 9]), ([3, 10, 0, 1, 2, 3], [0, 3]), ([10, 11, 0, 1, 2, 3, 4, 5, 6, 7, 8, 9, 10, 11], [4, 10])])
noncomputable def decode_Decode.B10 : List Nat := [0, 0, 2, 7, 0, 0, 0, 96, 224, 480, 1023, 2047, 4095]
theorem decode_Decode.tab10 : rtab .any (opsOf Try.f53 10) = decode_Decode.T10 := by kernel_rfl
theorem decode_Decode.bits10 : waitsOk decode_Decode.T10.2 decode_Decode.B10 = true := by kernel_rfl
noncomputable def decode_Decode.T16 : Bool × List (List Nat × List Nat) := (true, [([], []), ([], []), ([], []), ([2], [2]), ([1, 3], [1, 3]), ([0, 4], [0, 4]), ([5], [5]), ([6], [6]), ([6], [6]), ([], []), ([9, 7, 5, 0, 1, 2, 3, 4, 5, 6, 7, 9], [7, 9]), ([8, 10, 0, 1, 2, 3, 4, 5, 6, 7, 8, 9, 10], [8])])
noncomputable def decode_Decode.B16 : List Nat := [0, 0, 0, 4, 14, 31, 63, 127, 127, 0, 767, 2047]
theorem decode_Decode.tab16 : rtab .any (opsOf Try.f53 16) = decode_Decode.T16 := by kernel_rfl
theorem decode_Decode.bits16 : waitsOk decode_Decode.T16.2 decode_Decode.B16 = true := by kernel_rfl
set_option maxHeartbeats 8000000 in
set_option maxRecDepth 100000 in
theorem decode_Decode.calls (k : Nat) (a0_0 : Int) (a0_1 : Int) (A1 : Option Addr) (c1 : Nat) (l1 : List ByteArray) (A2 : Option Addr) (c2 : Nat) (l2 : List Bool) (r1 : List ByteArray) (r2 : Int) (w : World) (hr1 : Kd.C Kd.string w A1 l1.length l1) (hc1 : l1.length ≤ c1) (hr2 : Kd.C Kd.bool w A2 l2.length l2) (hc2 : l2.length ≤ c2) (h : decode_Decode.f k a0_0 a0_1 l1 l2 = some (r1, r2)) :
  Calls Try.prog 53 #[.agg #[.int .i64 a0_0, .int .i64 a0_1], .slice A1 l1.length c1, .slice A2 l2.length c2] w fun e w' => ∃ v0_ : Value, e = .returned (.tuple #[v0_, .int .i64 r2]) ∧ Kd.R Kd.string 9 w' w.heap.size (fun _ => True) v0_ r1 ∧ Below w.heap.size w w' := by
 have hu51 := Try.underlying51
 have hu24 := Try.underlying24
 have HR1 := mk0 hr1
 have HC1 := mk0 hc1
 clear hr1 hc1
 have HR2 := mk0 hr2
 have HC2 := mk0 hc2
 clear hr2 hc2
 have HB := mk0 (Below.refl w.heap.size w)
 have H : ((GGen.gen_Matrix.f k a0_0 a0_1).bind fun bt124 => (if bt124.2 = 0 then ((GGf.gen_All.f a0_0 a0_1).bind fun t129 => (if (l1.length : Int) = t129 then (decode_Decode.j0 k l1 l2 ((l2.length : Int) != (l1.length : Int)) a0_0 a0_1 bt124.1) else (decode_Decode.j0 k l1 l2 true a0_0 a0_1 bt124.1))) else (decode_Decode.j0 k l1 l2 true a0_0 a0_1 bt124.1))) = some (r1, r2) := h
 clear h
 replace H := Option.bind_eq_some_iff.mp H
 obtain ⟨⟨t124, t127⟩, A40, H⟩ := H
 replace H : (if t127 = 0 then ((GGf.gen_All.f a0_0 a0_1).bind fun t129 => (if (l1.length : Int) = t129 then (decode_Decode.j0 k l1 l2 ((l2.length : Int) != (l1.length : Int)) a0_0 a0_1 t124) else (decode_Decode.j0 k l1 l2 true a0_0 a0_1 t124))) else (decode_Decode.j0 k l1 l2 true a0_0 a0_1 t124)) = some (r1, r2) := H
 have A4 := mk0 A40
 clear A40
 have HC5 := mk0 H
 clear H
 go_enter Try.func53, Try.ntmps53
 go_upto_region 2 with (first | ((with_reducible refine gate_dst (N := 3) rfl ?_); (try (refine gate_guard uW ?_; dsimp only)); refine box_event uW (N := 3) uW (cs := #[.int .i64 a0_0, .int .i64 a0_1]) (t := 51) uL ?_; intro gb123 hg w6 hbox hb; have BK123 := mk0 (hbox); have GW123 := mk0 (nB hg HB); have GE123 := mk0 (nB hg HB); replace HB := mk0 (below_step ut hb); clear hb hbox hg; have hcz7_0 : w6.cell? ⟨gb123, 0, none⟩ = some (.int .i64 a0_0) := (blk_cell BK123.out 0).trans rfl; have hcz7_1 : w6.cell? ⟨gb123, 1, none⟩ = some (.int .i64 a0_1) := (blk_cell BK123.out 1).trans rfl; have hfz7_0 := blk_frozen BK123.out 0; have hfz7_1 := blk_frozen BK123.out 1) | ((with_reducible refine gCa (f := 43) rfl ?_); refine goesL_ (some 25) rfl rfl Try.func43 uT rfl #[.agg #[.int .i64 a0_0, .int .i64 a0_1]] rfl uk ?_; (with_reducible refine (GGen.gen_Matrix.calls k a0_0 a0_1 t124 t127 _ A4.out).mono ?_); rintro e w8 ⟨v125, rfl, ho0, hb⟩; refine ⟨_, rfl, ?_⟩; have HO126 := mk0 (Kd.S_lower ho0 (below_size uX)); replace BK123 := bK BK123 hb; replace HB := mk0 (below_step uX hb); (try clear hb); (try clear hb2); (try clear hk); (try clear hi); (try clear ho0)) | ((with_reducible refine gate_dst (N := 8) rfl ?_); (try (refine gate_guard uW ?_; dsimp only)); refine box_event uW (N := 8) uW (cs := #[.slice none 0 0]) (t := 24) uL ?_; intro gb128 hg w9 hbox hb; replace HO126 := mk0 (Kd.S_below (sB HO126.out) hb); have BK128 := mk0 (hbox); have GW128 := mk0 (nB hg HB); have GE128 := mk0 (nB hg HB); replace HB := mk0 (below_step uX hb); have NB123_128 := mk0 (nF hg BK123.out); have NB128_123 := mk0 (nE hg BK123.out); replace BK123 := bK BK123 hb; clear hb hbox hg; obtain ⟨Ao10, co10, eo10⟩ := Kd.S_slice HO126.out; subst eo10; have hnb11 := NB128_123.out; have hnc11 := NB123_128.out; have hcz12_0 : w9.cell? ⟨gb128, 0, none⟩ = some (.slice none 0 0) := (blk_cell BK128.out 0).trans rfl; have hfz12_0 := blk_frozen BK128.out 0))
 (try simp only [Act.put, List.setIfInBounds_toArray, List.set_cons_zero, List.set_cons_succ])
 go_cut [43] (fun v43 wc => ∃ (kq : Nat) (x43_4 : Bool), v43 = .bool x43_4 ∧ Aside0 (decode_Decode.j0 kq l1 l2 x43_4 a0_0 a0_1 t124 = some (r1, r2)) ∧ Aside0 (kq ≤ k) ∧ Aside0 (Kd.S (Kd.slice 3 (Kd.int .i64)) 25 wc w.heap.size (fun _ => True) (.slice Ao10 t124.length co10) t124) ∧ Aside0 (wc.heap[gb123]? = some (.cells #[.int .i64 a0_0, .int .i64 a0_1] 51 (0, 0))) ∧ Aside0 (wc.heap[gb128]? = some (.cells #[(.slice Ao10 t124.length co10)] 24 (0, 0))) ∧ Aside0 (Below w.heap.size w wc))
 case first =>
  have H := HC5.out
  clear HC5
  by_cases c13 : t127 = 0
  ·rw [if_pos c13] at H
   have c13b0 : (t127 == 0) = true := beq_iff_eq.mpr c13
   have c13b1 : (t127 != 0) = false := bne_eq_false_iff_eq.mpr c13
   clear c13
   (first | rw [c13b0] | (simp only [i64_w, i32_w]; rw [c13b0]) | skip)
   replace H := Option.bind_eq_some_iff.mp H
   obtain ⟨t129, A140, H⟩ := H
   replace H : (if (l1.length : Int) = t129 then (decode_Decode.j0 k l1 l2 ((l2.length : Int) != (l1.length : Int)) a0_0 a0_1 t124) else (decode_Decode.j0 k l1 l2 true a0_0 a0_1 t124)) = some (r1, r2) := H
   have A14 := mk0 A140
   clear A140
   by_cases c15 : (l1.length : Int) = t129
   ·rw [if_pos c15] at H
    have c15b0 : ((l1.length : Int) == t129) = true := beq_iff_eq.mpr c15
    have c15b1 : ((l1.length : Int) != t129) = false := bne_eq_false_iff_eq.mpr c15
    clear c15
    have H' := mk0 H
    clear H
    have hnb16 := NB123_128.out
    have hnc16 := NB128_123.out
    have hcz17_0 : w9.cell? ⟨gb123, 0, none⟩ = some (.int .i64 a0_0) := (blk_cell BK123.out 0).trans rfl
    have hcz17_1 : w9.cell? ⟨gb123, 1, none⟩ = some (.int .i64 a0_1) := (blk_cell BK123.out 1).trans rfl
    have hfz17_0 := blk_frozen BK123.out 0
    have hfz17_1 := blk_frozen BK123.out 1
    go_wp2_with (first | (go_at_call 86; (with_reducible refine (GGf.gen_All.calls a0_0 a0_1 t129 _ A14.out).mono ?_); rintro e w18 ⟨rfl, hb⟩; replace HO126 := mk0 (Kd.S_below (by (with_reducible repeat (first | apply sA | apply sN | apply sD)); exact (Kd.S_mono (Kd.S_far (p := ⟨gb128, 0, none⟩) (Kd.S_types HO126.out BK128.out uZ) (fun _ hk => hk.2) (.slice Ao10 t124.length co10)) (fun _ h_ => h_.1))) hb); replace BK123 := mk0 (blk_below (g := gb123) (o := .cells #[.int .i64 a0_0, .int .i64 a0_1] 51 (0, 0)) uD hb); replace BK128 := mk0 (blk_below (g := gb128) (o := .cells #[.slice Ao10 t124.length co10] 24 (0, 0)) uw hb); replace HB := mk0 (below_step uX hb); (try clear hb); (try clear hk)))
    go_meet
    case rel => exact ⟨_, (((l2.length : Int) != (l1.length : Int))), uJ, H', ⟨uO⟩, ⟨sB HO126.out⟩, ⟨bB BK123.out⟩, ⟨bB BK128.out⟩, ⟨uX⟩⟩
   ·rw [if_neg c15] at H
    have c15b0 : ((l1.length : Int) == t129) = false := beq_eq_false_iff_ne.mpr c15
    have c15b1 : ((l1.length : Int) != t129) = true := bne_iff_ne.mpr c15
    have H' := mk0 H
    clear H
    have hnb19 := NB123_128.out
    have hnc19 := NB128_123.out
    have hcz20_0 : w9.cell? ⟨gb123, 0, none⟩ = some (.int .i64 a0_0) := (blk_cell BK123.out 0).trans rfl
    have hcz20_1 : w9.cell? ⟨gb123, 1, none⟩ = some (.int .i64 a0_1) := (blk_cell BK123.out 1).trans rfl
    have hfz20_0 := blk_frozen BK123.out 0
    have hfz20_1 := blk_frozen BK123.out 1
    go_wp2_with (first | (go_at_call 86; (with_reducible refine (GGf.gen_All.calls a0_0 a0_1 t129 _ A14.out).mono ?_); rintro e w21 ⟨rfl, hb⟩; replace HO126 := mk0 (Kd.S_below (by (with_reducible repeat (first | apply sA | apply sN | apply sD)); exact (Kd.S_mono (Kd.S_far (p := ⟨gb128, 0, none⟩) (Kd.S_types HO126.out BK128.out uZ) (fun _ hk => hk.2) (.slice Ao10 t124.length co10)) (fun _ h_ => h_.1))) hb); replace BK123 := mk0 (blk_below (g := gb123) (o := .cells #[.int .i64 a0_0, .int .i64 a0_1] 51 (0, 0)) uD hb); replace BK128 := mk0 (blk_below (g := gb128) (o := .cells #[.slice Ao10 t124.length co10] 24 (0, 0)) uw hb); replace HB := mk0 (below_step uX hb); (try clear hb); (try clear hk)))
    go_meet
    case rel => exact ⟨_, (true), uJ, H', ⟨uO⟩, ⟨sB HO126.out⟩, ⟨bB BK123.out⟩, ⟨bB BK128.out⟩, ⟨uX⟩⟩
  ·rw [if_neg c13] at H
   have c13b0 : (t127 == 0) = false := beq_eq_false_iff_ne.mpr c13
   have c13b1 : (t127 != 0) = true := bne_iff_ne.mpr c13
   (first | rw [c13b0] | (simp only [i64_w, i32_w]; rw [c13b0]) | skip)
   have H' := mk0 H
   clear H
   go_wp2
   go_meet
   case rel => exact ⟨_, (true), uJ, H', ⟨uO⟩, ⟨by (with_reducible repeat (first | apply sA | apply sN | apply sD)); exact Kd.S_mono (Kd.S_far (p := ⟨gb128, 0, none⟩) (Kd.S_types HO126.out BK128.out uZ) (fun _ hk => hk.2) (.slice Ao10 t124.length co10)) (fun _ hk => trivial)⟩, ⟨uD⟩, ⟨uw⟩, ⟨uX⟩⟩
 case rest =>
  clear HC5
  try clear c1
  try clear c2
  try clear p2
  try clear c4
  try clear c5
  try clear c11
  try clear c13
  try clear c13b0
  try clear c13b1
  try clear c15
  try clear c15b0
  try clear c15b1
  try clear c16
  try clear c19
  try clear hcz12_0
  try clear hcz17_0
  try clear hcz17_1
  try clear hcz20_0
  try clear hcz20_1
  try clear hcz7_0
  try clear hcz7_1
  try clear hfz12_0
  try clear hfz17_0
  try clear hfz17_1
  try clear hfz20_0
  try clear hfz20_1
  try clear hfz7_0
  try clear hfz7_1
  obtain ⟨kq, x43_4, rfl, HA, HJ4, HO_129000, BK123, BK128, HB⟩ := hcut
  cases kq with
  | zero => exact absurd HA.out (by simp [decode_Decode.j0])
  | succ kj4 =>
   have H := HA.out
   clear HA
   simp only [decode_Decode.j0] at H
   by_cases c22 : x43_4 = true
   ·subst c22
    have H1 : (some (([] : List ByteArray), 700)) = some (r1, r2) := by rw [if_pos rfl] at H; exact H
    clear H
    have H := H1
    clear H1
    simp only [Option.some.injEq, Prod.mk.injEq] at H
    obtain ⟨rfl, rfl⟩ := H
    go_wp2
    go_ret2
    exact ⟨_, uz, ui, uX⟩
   ·replace c22 := Bool.eq_false_iff.mpr c22
    subst c22
    have H1 : (decode_Decode.l0 kj4 l1 ([] : List Int) ([] : List ByteArray) l2 (l2.length : Int) 0 a0_0 a0_1 t124) = some (r1, r2) := by rw [if_neg (show ¬ (false = true) by decide)] at H; exact H
    clear H
    have H := H1
    clear H1
    have H' := mk0 H
    clear H
    go_wp2
    go_loopg [10, 11, 46] kj4 (fun kq v10 v11 v46 w' => ∃ (x10_2 : List Int) (x11_2 : List ByteArray) (x46_2 : Int), v46 = .int .i64 x46_2 ∧ Aside0 (decode_Decode.l0 kq l1 x10_2 x11_2 l2 (l2.length : Int) x46_2 a0_0 a0_1 t124 = some (r1, r2)) ∧ Aside0 (kq ≤ kj4) ∧ Aside0 (Kd.R (Kd.int .i64) 3 w' w.heap.size (fun _ => True) v10 x10_2) ∧ Aside0 (Kd.R Kd.string 9 w' w.heap.size (fun _ => True) v11 x11_2) ∧ Aside0 (Kd.S (Kd.slice 3 (Kd.int .i64)) 25 w' w.heap.size (fun k_ => some k_ ≠ (v10 : Value).ownBlock) (.slice Ao10 t124.length co10) t124) ∧ Aside0 (w'.heap[gb123]? = some (.cells #[.int .i64 a0_0, .int .i64 a0_1] 51 (0, 0))) ∧ Aside0 (w'.heap[gb128]? = some (.cells #[(.slice Ao10 t124.length co10)] 24 (0, 0))) ∧ Aside0 (Below w.heap.size w w'))
    case atStart => exact ⟨(([] : List Int)), (([] : List ByteArray)), (0), uJ, H', ⟨Nat.le_refl _⟩, ⟨ui⟩, ⟨ui⟩, ⟨by (with_reducible repeat (first | apply sA | apply sN | apply sD)); exact Kd.S_mono HO_129000.out (fun _ hk => (by simp [Value.ownBlock]))⟩, ⟨bB BK123.out⟩, ⟨bB BK128.out⟩, ⟨uX⟩⟩
    case round =>
     clear H'
     try clear c1
     try clear c2
     try clear p2
     try clear c4
     try clear c5
     try clear c11
     try clear c13
     try clear c13b0
     try clear c13b1
     try clear c15
     try clear c15b0
     try clear c15b1
     try clear c16
     try clear c19
     try clear c22
     try clear hcz12_0
     try clear hcz17_0
     try clear hcz17_1
     try clear hcz20_0
     try clear hcz20_1
     try clear hcz7_0
     try clear hcz7_1
     try clear hfz12_0
     try clear hfz17_0
     try clear hfz17_1
     try clear hfz20_0
     try clear hfz20_1
     try clear hfz7_0
     try clear hfz7_1
     try clear p2
     obtain ⟨x10_2, x11_2, x46_2, rfl, HA, HK2, HO_10, HO_11, HO_129000, BK123, BK128, HB⟩ := hrel
     cases gk with
     | zero => exact absurd HA.out (by simp [decode_Decode.l0])
     | succ k2 =>
      have H := HA.out
      clear HA
      simp only [decode_Decode.l0] at H
      by_cases c23 : x46_2 < (l2.length : Int)
      ·rw [if_pos c23] at H
       have c23b0 : decide (x46_2 < (l2.length : Int)) = true := decide_eq_true c23
       clear c23
       by_cases c24 : 0 ≤ x46_2
       ·rw [if_pos c24] at H
        have c24b0 : decide (0 ≤ x46_2) = true := decide_eq_true c24
        clear c24
        by_cases c25 : x46_2 < (l2.length : Int)
        ·rw [if_pos c25] at H
         have c25b0 : decide (x46_2 < (l2.length : Int)) = true := decide_eq_true c25
         clear c25
         obtain ⟨bq26, hbq26⟩ : ∃ b_ : Bool, b_ = (rdOf false l2 x46_2) := ⟨_, rfl⟩
         replace H : (if bq26 = true then ((some (([x46_2] : List Int) : List Int)).bind fun y131 => (if x10_2.length + y131.length < 17592186044416 then (if x46_2 < (l1.length : Int) then ((some (([rdOf ByteArray.empty l1 x46_2] : List ByteArray) : List ByteArray)).bind fun y138 => (if x11_2.length + y138.length < 8796093022208 then (decode_Decode.l0 k2 l1 (x10_2 ++ y131) (x11_2 ++ y138) l2 (l2.length : Int) (wrap64 (x46_2 + 1)) a0_0 a0_1 t124) else (none))) else (none)) else (none))) else (decode_Decode.l0 k2 l1 x10_2 x11_2 l2 (l2.length : Int) (wrap64 (x46_2 + 1)) a0_0 a0_1 t124)) = some (r1, r2) := by rw [← hbq26] at H; exact H
         have Nbq26 := mk0 hbq26
         clear hbq26
         by_cases c27 : bq26 = true
         ·subst c27
          have H1 : ((some (([x46_2] : List Int) : List Int)).bind fun y131 => (if x10_2.length + y131.length < 17592186044416 then (if x46_2 < (l1.length : Int) then ((some (([rdOf ByteArray.empty l1 x46_2] : List ByteArray) : List ByteArray)).bind fun y138 => (if x11_2.length + y138.length < 8796093022208 then (decode_Decode.l0 k2 l1 (x10_2 ++ y131) (x11_2 ++ y138) l2 (l2.length : Int) (wrap64 (x46_2 + 1)) a0_0 a0_1 t124) else (none))) else (none)) else (none))) = some (r1, r2) := by rw [if_pos rfl] at H; exact H
          clear H
          have H := H1
          clear H1
          obtain ⟨y131, hy131⟩ : ∃ y_ : List Int, y_ = (([x46_2] : List Int)) := ⟨_, rfl⟩
          replace H : (if x10_2.length + y131.length < 17592186044416 then (if x46_2 < (l1.length : Int) then ((some (([rdOf ByteArray.empty l1 x46_2] : List ByteArray) : List ByteArray)).bind fun y138 => (if x11_2.length + y138.length < 8796093022208 then (decode_Decode.l0 k2 l1 (x10_2 ++ y131) (x11_2 ++ y138) l2 (l2.length : Int) (wrap64 (x46_2 + 1)) a0_0 a0_1 t124) else (none))) else (none)) else (none)) = some (r1, r2) := by first | (rw [hy131]; with_reducible exact H) | (have H2_ := (Option.bind_some _ _).symm.trans H; rw [hy131]; with_reducible exact H2_) | (have H2_ := (Option.bind_some _ _).symm.trans H; with_reducible exact H2_) | with_reducible exact H | (rw [hy131]; exact H) | exact H
          have Ny131 := mk0 hy131
          clear hy131
          by_cases c28 : x10_2.length + y131.length < 17592186044416
          ·rw [if_pos c28] at H
           have LMc28 := mk0 c28
           clear c28
           obtain ⟨y134, hy134⟩ : ∃ y_ : List Int, y_ = (x10_2 ++ y131) := ⟨_, rfl⟩
           replace H : (if x46_2 < (l1.length : Int) then ((some (([rdOf ByteArray.empty l1 x46_2] : List ByteArray) : List ByteArray)).bind fun y138 => (if x11_2.length + y138.length < 8796093022208 then (decode_Decode.l0 k2 l1 y134 (x11_2 ++ y138) l2 (l2.length : Int) (wrap64 (x46_2 + 1)) a0_0 a0_1 t124) else (none))) else (none)) = some (r1, r2) := by first | (rw [hy134]; with_reducible exact H) | (have H2_ := (Option.bind_some _ _).symm.trans H; rw [hy134]; with_reducible exact H2_) | (have H2_ := (Option.bind_some _ _).symm.trans H; with_reducible exact H2_) | with_reducible exact H | (rw [hy134]; exact H) | exact H
           have Ny134 := mk0 hy134
           clear hy134
           by_cases c29 : x46_2 < (l1.length : Int)
           ·rw [if_pos c29] at H
            have c29b0 : decide (x46_2 < (l1.length : Int)) = true := decide_eq_true c29
            clear c29
            obtain ⟨y138, hy138⟩ : ∃ y_ : List ByteArray, y_ = (([rdOf ByteArray.empty l1 x46_2] : List ByteArray)) := ⟨_, rfl⟩
            replace H : (if x11_2.length + y138.length < 8796093022208 then (decode_Decode.l0 k2 l1 y134 (x11_2 ++ y138) l2 (l2.length : Int) (wrap64 (x46_2 + 1)) a0_0 a0_1 t124) else (none)) = some (r1, r2) := by first | (rw [hy138]; with_reducible exact H) | (have H2_ := (Option.bind_some _ _).symm.trans H; rw [hy138]; with_reducible exact H2_) | (have H2_ := (Option.bind_some _ _).symm.trans H; with_reducible exact H2_) | with_reducible exact H | (rw [hy138]; exact H) | exact H
            have Ny138 := mk0 hy138
            clear hy138
            by_cases c30 : x11_2.length + y138.length < 8796093022208
            ·rw [if_pos c30] at H
             have LMc30 := mk0 c30
             clear c30
             obtain ⟨y141, hy141⟩ : ∃ y_ : List ByteArray, y_ = (x11_2 ++ y138) := ⟨_, rfl⟩
             replace H : (decode_Decode.l0 k2 l1 y134 y141 l2 (l2.length : Int) (wrap64 (x46_2 + 1)) a0_0 a0_1 t124) = some (r1, r2) := by first | (rw [hy141]; with_reducible exact H) | (have H2_ := (Option.bind_some _ _).symm.trans H; rw [hy141]; with_reducible exact H2_) | (have H2_ := (Option.bind_some _ _).symm.trans H; with_reducible exact H2_) | with_reducible exact H | (rw [hy141]; exact H) | exact H
             have Ny141 := mk0 hy141
             clear hy141
             have H' := mk0 H
             clear H
             have p130 : 0 ≤ (x46_2 : Int) := of_decide_eq_true uI
             have q130 : x46_2 < (l2.length : Int) := of_decide_eq_true uI
             obtain ⟨ad130, e130, hx130_0⟩ := Kd.at_bool HR2.out x46_2 p130 q130
             (try rw [← Nbq26.out] at hx130_0)
             cases e130
             replace hx130_0 := (HB.out.cell (World.block_lt_of_cell? w _ hx130_0)).trans hx130_0
             replace p130 := eq_true p130
             replace q130 := eq_true q130
             obtain ⟨Ao31, co31, eo31⟩ := Kd.R_slice HO_10.out
             subst eo31
             obtain ⟨Ao32, co32, eo32⟩ := Kd.R_slice HO_11.out
             subst eo32
             try go_wp2
             replace HO_10 := mk0 (Kd.R_drew HO_10.out)
             replace HO_11 := mk0 (Kd.R_drew HO_11.out)
             replace HO_129000 := mk0 (Kd.S_drew HO_129000.out)
             replace BK123 := mk0 (blk_drew BK123.out)
             replace BK128 := mk0 (blk_drew BK128.out)
             replace HB := mk0 (below_drew1 HB.out)
             have p137 : 0 ≤ (x46_2 : Int) := of_decide_eq_true uI
             have q137 : x46_2 < (l1.length : Int) := of_decide_eq_true uI
             obtain ⟨ad137, e137, hx137_0⟩ := Kd.at_string HR1.out x46_2 p137 q137
             have hw137_0 := hx137_0
             cases e137
             replace hx137_0 := (HB.out.cell (World.block_lt_of_cell? w _ hx137_0)).trans hx137_0
             replace p137 := eq_true p137
             replace q137 := eq_true q137
             refine start_ (n := 13) (S := fun w' => w'.cell? (ad137.add (x46_2).toNat) = some (.string (rdOf ByteArray.empty l1 x46_2))) (ds := []) (bz 13 0) uT rfl rfl (((HB.out.cell (World.block_lt_of_cell? w _ hw137_0)).trans hw137_0)) (fun hHeld => ?_); refine with_tabW decode_Decode.tab10 decode_Decode.bits10 (fun HT_ HW_ => ?_)
             generalize wr.drew = w33 at HO_10 HO_11 HO_129000 BK123 BK128 HB hx137_0 hHeld ⊢
             refine pU 0 52 (bz 13 1) HT_.out ?_
             refine pU 1 53 (bz 13 3) HT_.out ?_
             refine pU 4 56 (bz 13 19) HT_.out ?_
             refine pU 5 57 (bz 13 51) HT_.out ?_
             refine pU 6 58 (bz 13 115) HT_.out ?_
             refine pU 7 59 (bz 13 243) HT_.out ?_
             refine pT1 8 60 (bz 13 499) HT_.out HW_.out hHeld ?_
             refine join_ (σ := Value × Value × Value) 3 (bz 13 1023) (fun s_ => [(54, s_.1), (55, s_.2.1), (61, s_.2.2)]) (fun s_ w' => (w'.cell? (ad137.add (x46_2).toNat) = some (.string (rdOf ByteArray.empty l1 x46_2))) ∧ (Kd.R (Kd.int .i64) 3 w' w.heap.size (fun k_ => some k_ ≠ (s_.2.1 : Value).ownBlock) s_.1 y131) ∧ (Kd.R (Kd.int .i64) 3 w' w.heap.size (fun k_ => some k_ ≠ (s_.1 : Value).ownBlock) s_.2.1 y134) ∧ (Kd.R Kd.string 9 w' w.heap.size (fun k_ => some k_ ≠ (.slice Ao32 x11_2.length co32 : Value).ownBlock) s_.2.2 y138) ∧ (Kd.R Kd.string 9 w' w.heap.size (fun k_ => some k_ ≠ (s_.2.2 : Value).ownBlock) (.slice Ao32 x11_2.length co32) x11_2) ∧ (Kd.S (Kd.slice 3 (Kd.int .i64)) 25 w' w.heap.size (fun k_ => some k_ ≠ (s_.1 : Value).ownBlock ∧ some k_ ≠ (s_.2.1 : Value).ownBlock) (.slice Ao10 t124.length co10) t124) ∧ (w'.heap[gb123]? = some (.cells #[.int .i64 a0_0, .int .i64 a0_1] 51 (0, 0))) ∧ (w'.heap[gb128]? = some (.cells #[.slice Ao10 t124.length co10] 24 (0, 0))) ∧ (Below w.heap.size w w')) ?_ ?_
             rotate_left
             ·intro hCont
              refine two_ (i := 2) (j := 9) (Ni := some 54) (Nj := some 61) (bz 13 503) (bz 13 1011) rfl rfl rfl rfl (two_of HT_.out uT) uZ uZ (fun K hK => ?_) (fun K hK => ?_)
              ·skip
               refine Kd.R_lit_step (Kd.int .i64) _ 3 ?hg (N := 54) ?hd (xs := ([x46_2] : List Int)) (inner := [.int .i64 x46_2]) (ok := fun _ => True) (okp := fun _ => True) ?hr ?hp (fun _ hk => hk) trivial (Below.refl _ _) (Nat.le_refl _) qa ?_; (case hd => rfl); (case hg => rfl); (case hr => first | (go_simp; done) | (go_simp; rfl)); (case hp => exact (Reps.one (show Kd.M (Kd.int .i64) _ _ _ x46_2 [.int .i64 x46_2] from rfl) (Reps.none _ _)))
               intro v132 w34 ho35 hb hg_ hnew_
               clear hg_ hnew_
               (first | rw [← Ny131.out] at ho35 | (simp only [Int.reduceToNat] at ho35; rw [← Ny131.out] at ho35))
               replace HO_11 := mk0 (Kd.R_below (rB HO_11.out) hb)
               replace HO_129000 := mk0 (Kd.S_elder' (sB HO_129000.out) (Kd.R_base ho35) hb)
               have HO133 := mk0 (Kd.R_lower (Kd.R_new' ho35 (Kd.R_lt (rB HO_10.out))) (below_size uX))
               replace HO_10 := mk0 (Kd.R_elder' (rB HO_10.out) (Kd.R_base ho35) hb)
               replace BK123 := bK BK123 hb
               replace BK128 := bK BK128 hb
               replace HB := mk0 (below_step uX hb)
               clear hb ho35
               obtain ⟨Ao37, co37, eo37⟩ := Kd.R_slice HO133.out
               (first | subst eo37 | (injection eo37 with f1_ f2_ f3_; have f4_ := f1_.symm; have f5_ := f3_.symm; clear f1_ f2_ f3_; subst f4_; subst f5_))
               refine hK.out _ _ (((HB.out.cell (World.block_lt_of_cell? w _ hw137_0)).trans hw137_0)) (fun hHeld => ?_)
               clear hK K
               refine pM (some 54) ?_
               refine two_ (i := 3) (j := 9) (Ni := some 55) (Nj := some 61) (bz 13 511) (bz 13 1015) rfl rfl rfl rfl (two_of HT_.out uT) uZ uZ (fun K hK => ?_) (fun K hK => ?_)
               ·skip
                refine Kd.R_append_rows_step (Kd.int .i64) (w0 := w) w.heap.size uW (.tmp 52) (.tmp 54) 25 3 (.int .i64 0) 8 rfl Try.underlying25 info3 rfl uZ uV (.slice Ao31 x10_2.length co31) x10_2 y131 _ _ _ (fun k_ => some k_ ≠ (.slice Ao37 y131.length co37 : Value).ownBlock) (fun _ => False) rfl rfl ?aO ?aR (fun _ _ h => h) (fun _ h => h.elim) ?aF ?aB ?aS ?aL ?_
                (case aR => repeat (first | exact (Kd.R_reads' HO133.out).2.2 | (with_reducible refine Kd.C_alloc ?_ _) | (with_reducible refine Kd.C_drewN ?_ _) | (with_reducible refine Kd.C_drew ?_)))
                (case aB => exact uX)
                (case aF => exact (fun k_ hk => Kd.fresh' (Kd.R_lt (rB HO133.out)) k_ hk))
                (case aO => exact uo)
                (case aS => exact (below_size uX))
                (case aL => have := LMc28.out; omega)
                intro v135 w36 ho hb hg hat
                rw [← Ny134.out] at ho
                replace HO_11 := mk0 (Kd.R_over' (rB HO_11.out) (Kd.R_typed (rB HO_10.out)) uZ hg)
                replace HO_129000 := mk0 (Kd.S_after (ok := (fun k_ => some k_ ≠ (.slice Ao37 y131.length co37 : Value).ownBlock)) un hg hat)
                replace BK123 := mk0 (blk_grown (g := gb123) (o := .cells #[.int .i64 a0_0, .int .i64 a0_1] 51 (0, 0)) (bB BK123.out) hg (Kd.R_ne HO_10.out BK123.out uZ))
                replace BK128 := mk0 (blk_grown (g := gb128) (o := .cells #[.slice Ao10 t124.length co10] 24 (0, 0)) (bB BK128.out) hg (Kd.R_ne HO_10.out BK128.out uZ))
                replace HO133 := mk0 (Kd.R_after (ok := (fun _ => True)) (rB HO133.out) hg hat)
                replace HB := mk0 (hb)
                have HO136 := mk0 (ho)
                clear HO_10 ho hb hg hat
                refine hK.out _ _ (((HB.out.cell (World.block_lt_of_cell? w _ hw137_0)).trans hw137_0)) (fun hHeld => ?_)
                clear hK K
                refine pM (some 55) ?_
                refine one_ (i := 9) (N := some 61) (bz 13 1023) rfl rfl (pO HT_.out) uZ (fun K hK => ?_)
                refine Kd.R_lit_step Kd.string _ 9 ?hg (N := 61) ?hd (xs := ([rdOf ByteArray.empty l1 x46_2] : List ByteArray)) (inner := [.string (rdOf ByteArray.empty l1 x46_2)]) (ok := fun _ => True) (okp := fun _ => True) ?hr ?hp (fun _ hk => hk) trivial (Below.refl _ _) (Nat.le_refl _) qa ?_; (case hd => rfl); (case hg => rfl); (case hr => first | (go_simp; done) | (go_simp; rfl)); (case hp => exact (Reps.one (show Kd.M Kd.string _ _ _ (rdOf ByteArray.empty l1 x46_2) [.string (rdOf ByteArray.empty l1 x46_2)] from rfl) (Reps.none _ _)))
                intro v139 w38 ho39 hb hg_ hnew_
                clear hg_ hnew_
                (first | rw [← Ny138.out] at ho39 | (simp only [Int.reduceToNat] at ho39; rw [← Ny138.out] at ho39))
                replace HO_129000 := mk0 (Kd.S_below (sB HO_129000.out) hb)
                replace HO133 := mk0 (Kd.R_below (rB HO133.out) hb)
                replace HO136 := mk0 (Kd.R_below (rB HO136.out) hb)
                have HO140 := mk0 (Kd.R_lower (Kd.R_new' ho39 (Kd.R_lt (rB HO_11.out))) (below_size uX))
                replace HO_11 := mk0 (Kd.R_elder' (rB HO_11.out) (Kd.R_base ho39) hb)
                replace BK123 := bK BK123 hb
                replace BK128 := bK BK128 hb
                replace HB := mk0 (below_step uX hb)
                clear hb ho39
                refine hK.out _ _ (((HB.out.cell (World.block_lt_of_cell? w _ hw137_0)).trans hw137_0)) (fun hHeld => ?_)
                clear hK K
                refine pM (some 61) ?_
                exact norm_ uy (hCont (.slice Ao37 y131.length co37, v135, v139) _ ⟨hHeld, uq, (rB HO136.out), ur, us, (sB HO_129000.out), (bB BK123.out), (bB BK128.out), uX⟩)
               ·skip
                refine Kd.R_lit_step Kd.string _ 9 ?hg (N := 61) ?hd (xs := ([rdOf ByteArray.empty l1 x46_2] : List ByteArray)) (inner := [.string (rdOf ByteArray.empty l1 x46_2)]) (ok := fun _ => True) (okp := fun _ => True) ?hr ?hp (fun _ hk => hk) trivial (Below.refl _ _) (Nat.le_refl _) qa ?_; (case hd => rfl); (case hg => rfl); (case hr => first | (go_simp; done) | (go_simp; rfl)); (case hp => exact (Reps.one (show Kd.M Kd.string _ _ _ (rdOf ByteArray.empty l1 x46_2) [.string (rdOf ByteArray.empty l1 x46_2)] from rfl) (Reps.none _ _)))
                intro v139 w36 ho37 hb hg_ hnew_
                clear hg_ hnew_
                (first | rw [← Ny138.out] at ho37 | (simp only [Int.reduceToNat] at ho37; rw [← Ny138.out] at ho37))
                replace HO_10 := mk0 (Kd.R_below (rB HO_10.out) hb)
                replace HO_129000 := mk0 (Kd.S_below (sB HO_129000.out) hb)
                replace HO133 := mk0 (Kd.R_below (rB HO133.out) hb)
                have HO140 := mk0 (Kd.R_lower (Kd.R_new' ho37 (Kd.R_lt (rB HO_11.out))) (below_size uX))
                replace HO_11 := mk0 (Kd.R_elder' (rB HO_11.out) (Kd.R_base ho37) hb)
                replace BK123 := bK BK123 hb
                replace BK128 := bK BK128 hb
                replace HB := mk0 (below_step uX hb)
                clear hb ho37
                obtain ⟨Ao39, co39, eo39⟩ := Kd.R_slice HO133.out
                (first | subst eo39 | (injection eo39 with f1_ f2_ f3_; have f4_ := f1_.symm; have f5_ := f3_.symm; clear f1_ f2_ f3_; subst f4_; subst f5_))
                refine hK.out _ _ (((HB.out.cell (World.block_lt_of_cell? w _ hw137_0)).trans hw137_0)) (fun hHeld => ?_)
                clear hK K
                refine pM (some 61) ?_
                refine one_ (i := 3) (N := some 55) (bz 13 1023) rfl rfl (pO HT_.out) uZ (fun K hK => ?_)
                refine Kd.R_append_rows_step (Kd.int .i64) (w0 := w) w.heap.size uW (.tmp 52) (.tmp 54) 25 3 (.int .i64 0) 8 rfl Try.underlying25 info3 rfl uZ uV (.slice Ao31 x10_2.length co31) x10_2 y131 _ _ _ (fun k_ => some k_ ≠ (.slice Ao39 y131.length co39 : Value).ownBlock) (fun _ => False) rfl rfl ?aO ?aR (fun _ _ h => h) (fun _ h => h.elim) ?aF ?aB ?aS ?aL ?_
                (case aR => repeat (first | exact (Kd.R_reads' HO133.out).2.2 | (with_reducible refine Kd.C_alloc ?_ _) | (with_reducible refine Kd.C_drewN ?_ _) | (with_reducible refine Kd.C_drew ?_)))
                (case aB => exact uX)
                (case aF => exact (fun k_ hk => Kd.fresh' (Kd.R_lt (rB HO133.out)) k_ hk))
                (case aO => exact uo)
                (case aS => exact (below_size uX))
                (case aL => have := LMc28.out; omega)
                intro v135 w38 ho hb hg hat
                rw [← Ny134.out] at ho
                replace HO_11 := mk0 (Kd.R_over' (rB HO_11.out) (Kd.R_typed (rB HO_10.out)) uZ hg)
                replace HO_129000 := mk0 (Kd.S_after (ok := (fun k_ => some k_ ≠ (.slice Ao39 y131.length co39 : Value).ownBlock)) un hg hat)
                replace BK123 := mk0 (blk_grown (g := gb123) (o := .cells #[.int .i64 a0_0, .int .i64 a0_1] 51 (0, 0)) (bB BK123.out) hg (Kd.R_ne HO_10.out BK123.out uZ))
                replace BK128 := mk0 (blk_grown (g := gb128) (o := .cells #[.slice Ao10 t124.length co10] 24 (0, 0)) (bB BK128.out) hg (Kd.R_ne HO_10.out BK128.out uZ))
                replace HO133 := mk0 (Kd.R_after (ok := (fun _ => True)) (rB HO133.out) hg hat)
                replace HO140 := mk0 (Kd.R_over' (rB HO140.out) (Kd.R_typed (rB HO_10.out)) uZ hg)
                replace HB := mk0 (hb)
                have HO136 := mk0 (ho)
                clear HO_10 ho hb hg hat
                refine hK.out _ _ (((HB.out.cell (World.block_lt_of_cell? w _ hw137_0)).trans hw137_0)) (fun hHeld => ?_)
                clear hK K
                refine pM (some 55) ?_
                exact norm_ uy (hCont (.slice Ao39 y131.length co39, v135, v139) _ ⟨hHeld, uq, (rB HO136.out), ur, us, (sB HO_129000.out), (bB BK123.out), (bB BK128.out), uX⟩)
              ·skip
               refine Kd.R_lit_step Kd.string _ 9 ?hg (N := 61) ?hd (xs := ([rdOf ByteArray.empty l1 x46_2] : List ByteArray)) (inner := [.string (rdOf ByteArray.empty l1 x46_2)]) (ok := fun _ => True) (okp := fun _ => True) ?hr ?hp (fun _ hk => hk) trivial (Below.refl _ _) (Nat.le_refl _) qa ?_; (case hd => rfl); (case hg => rfl); (case hr => first | (go_simp; done) | (go_simp; rfl)); (case hp => exact (Reps.one (show Kd.M Kd.string _ _ _ (rdOf ByteArray.empty l1 x46_2) [.string (rdOf ByteArray.empty l1 x46_2)] from rfl) (Reps.none _ _)))
               intro v139 w34 ho35 hb hg_ hnew_
               clear hg_ hnew_
               (first | rw [← Ny138.out] at ho35 | (simp only [Int.reduceToNat] at ho35; rw [← Ny138.out] at ho35))
               replace HO_10 := mk0 (Kd.R_below (rB HO_10.out) hb)
               replace HO_129000 := mk0 (Kd.S_below (sB HO_129000.out) hb)
               have HO140 := mk0 (Kd.R_lower (Kd.R_new' ho35 (Kd.R_lt (rB HO_11.out))) (below_size uX))
               replace HO_11 := mk0 (Kd.R_elder' (rB HO_11.out) (Kd.R_base ho35) hb)
               replace BK123 := bK BK123 hb
               replace BK128 := bK BK128 hb
               replace HB := mk0 (below_step uX hb)
               clear hb ho35
               refine hK.out _ _ (((HB.out.cell (World.block_lt_of_cell? w _ hw137_0)).trans hw137_0)) (fun hHeld => ?_)
               clear hK K
               refine pM (some 61) ?_
               refine one_ (i := 2) (N := some 54) (bz 13 1015) rfl rfl (pO HT_.out) uZ (fun K hK => ?_)
               refine Kd.R_lit_step (Kd.int .i64) _ 3 ?hg (N := 54) ?hd (xs := ([x46_2] : List Int)) (inner := [.int .i64 x46_2]) (ok := fun _ => True) (okp := fun _ => True) ?hr ?hp (fun _ hk => hk) trivial (Below.refl _ _) (Nat.le_refl _) qa ?_; (case hd => rfl); (case hg => rfl); (case hr => first | (go_simp; done) | (go_simp; rfl)); (case hp => exact (Reps.one (show Kd.M (Kd.int .i64) _ _ _ x46_2 [.int .i64 x46_2] from rfl) (Reps.none _ _)))
               intro v132 w36 ho37 hb hg_ hnew_
               clear hg_ hnew_
               (first | rw [← Ny131.out] at ho37 | (simp only [Int.reduceToNat] at ho37; rw [← Ny131.out] at ho37))
               replace HO_11 := mk0 (Kd.R_below (rB HO_11.out) hb)
               replace HO_129000 := mk0 (Kd.S_elder' (sB HO_129000.out) (Kd.R_base ho37) hb)
               replace HO140 := mk0 (Kd.R_below (rB HO140.out) hb)
               have HO133 := mk0 (Kd.R_lower (Kd.R_new' ho37 (Kd.R_lt (rB HO_10.out))) (below_size uX))
               replace HO_10 := mk0 (Kd.R_elder' (rB HO_10.out) (Kd.R_base ho37) hb)
               replace BK123 := bK BK123 hb
               replace BK128 := bK BK128 hb
               replace HB := mk0 (below_step uX hb)
               clear hb ho37
               obtain ⟨Ao39, co39, eo39⟩ := Kd.R_slice HO133.out
               (first | subst eo39 | (injection eo39 with f1_ f2_ f3_; have f4_ := f1_.symm; have f5_ := f3_.symm; clear f1_ f2_ f3_; subst f4_; subst f5_))
               refine hK.out _ _ (((HB.out.cell (World.block_lt_of_cell? w _ hw137_0)).trans hw137_0)) (fun hHeld => ?_)
               clear hK K
               refine pM (some 54) ?_
               refine one_ (i := 3) (N := some 55) (bz 13 1023) rfl rfl (pO HT_.out) uZ (fun K hK => ?_)
               refine Kd.R_append_rows_step (Kd.int .i64) (w0 := w) w.heap.size uW (.tmp 52) (.tmp 54) 25 3 (.int .i64 0) 8 rfl Try.underlying25 info3 rfl uZ uV (.slice Ao31 x10_2.length co31) x10_2 y131 _ _ _ (fun k_ => some k_ ≠ (.slice Ao39 y131.length co39 : Value).ownBlock) (fun _ => False) rfl rfl ?aO ?aR (fun _ _ h => h) (fun _ h => h.elim) ?aF ?aB ?aS ?aL ?_
               (case aR => repeat (first | exact (Kd.R_reads' HO133.out).2.2 | (with_reducible refine Kd.C_alloc ?_ _) | (with_reducible refine Kd.C_drewN ?_ _) | (with_reducible refine Kd.C_drew ?_)))
               (case aB => exact uX)
               (case aF => exact (fun k_ hk => Kd.fresh' (Kd.R_lt (rB HO133.out)) k_ hk))
               (case aO => exact uo)
               (case aS => exact (below_size uX))
               (case aL => have := LMc28.out; omega)
               intro v135 w38 ho hb hg hat
               rw [← Ny134.out] at ho
               replace HO_11 := mk0 (Kd.R_over' (rB HO_11.out) (Kd.R_typed (rB HO_10.out)) uZ hg)
               replace HO_129000 := mk0 (Kd.S_after (ok := (fun k_ => some k_ ≠ (.slice Ao39 y131.length co39 : Value).ownBlock)) un hg hat)
               replace BK123 := mk0 (blk_grown (g := gb123) (o := .cells #[.int .i64 a0_0, .int .i64 a0_1] 51 (0, 0)) (bB BK123.out) hg (Kd.R_ne HO_10.out BK123.out uZ))
               replace BK128 := mk0 (blk_grown (g := gb128) (o := .cells #[.slice Ao10 t124.length co10] 24 (0, 0)) (bB BK128.out) hg (Kd.R_ne HO_10.out BK128.out uZ))
               replace HO140 := mk0 (Kd.R_over' (rB HO140.out) (Kd.R_typed (rB HO_10.out)) uZ hg)
               replace HO133 := mk0 (Kd.R_after (ok := (fun _ => True)) (rB HO133.out) hg hat)
               replace HB := mk0 (hb)
               have HO136 := mk0 (ho)
               clear HO_10 ho hb hg hat
               refine hK.out _ _ (((HB.out.cell (World.block_lt_of_cell? w _ hw137_0)).trans hw137_0)) (fun hHeld => ?_)
               clear hK K
               refine pM (some 55) ?_
               exact norm_ uy (hCont (.slice Ao39 y131.length co39, v135, v139) _ ⟨hHeld, uq, (rB HO136.out), ur, us, (sB HO_129000.out), (bB BK123.out), (bB BK128.out), uX⟩)
             rintro ⟨v132, v135, v139⟩ w40 ⟨hS_, h0_, h1_, h2_, h3_, h4_, h5_, h6_, h7_⟩
             have n0_ : Aside0 (Kd.R (Kd.int .i64) 3 w40 w.heap.size (fun k_ => some k_ ≠ (v135 : Value).ownBlock) v132 y131) := ⟨h0_⟩
             have n1_ : Aside0 (Kd.R (Kd.int .i64) 3 w40 w.heap.size (fun k_ => some k_ ≠ (v132 : Value).ownBlock) v135 y134) := ⟨h1_⟩
             have n2_ : Aside0 (Kd.R Kd.string 9 w40 w.heap.size (fun k_ => some k_ ≠ (.slice Ao32 x11_2.length co32 : Value).ownBlock) v139 y138) := ⟨h2_⟩
             have n3_ : Aside0 (Kd.R Kd.string 9 w40 w.heap.size (fun k_ => some k_ ≠ (v139 : Value).ownBlock) (.slice Ao32 x11_2.length co32) x11_2) := ⟨h3_⟩
             have n4_ : Aside0 (Kd.S (Kd.slice 3 (Kd.int .i64)) 25 w40 w.heap.size (fun k_ => some k_ ≠ (v132 : Value).ownBlock ∧ some k_ ≠ (v135 : Value).ownBlock) (.slice Ao10 t124.length co10) t124) := ⟨h4_⟩
             have n5_ : Aside0 (w40.heap[gb123]? = some (.cells #[.int .i64 a0_0, .int .i64 a0_1] 51 (0, 0))) := ⟨h5_⟩
             have n6_ : Aside0 (w40.heap[gb128]? = some (.cells #[.slice Ao10 t124.length co10] 24 (0, 0))) := ⟨h6_⟩
             have n7_ : Aside0 (Below w.heap.size w w40) := ⟨h7_⟩
             clear HO_10 HO_11 HO_129000 BK123 BK128 HB h0_ h1_ h2_ h3_ h4_ h5_ h6_ h7_
             have HO133 := n0_
             have HO136 := n1_
             have HO140 := n2_
             have HO_11 := n3_
             have HO_129000 := n4_
             have BK123 := n5_
             have BK128 := n6_
             have HB := n7_
             clear n0_ n1_ n2_ n3_ n4_ n5_ n6_ n7_
             have hHeld : w40.cell? (ad137.add (x46_2).toNat) = some (.string (rdOf ByteArray.empty l1 x46_2)) := hS_
             obtain ⟨Ao42, co42, eo42⟩ := Kd.R_slice HO140.out
             (first | subst eo42 | (injection eo42 with f1_ f2_ f3_; have f4_ := f1_.symm; have f5_ := f3_.symm; clear f1_ f2_ f3_; subst f4_; subst f5_))
             refine norm_ (a' := ?_) ?_ ?_
             rotate_left
             ·simp only [putAll, Act.put, List.setIfInBounds_toArray, List.set_cons_zero, List.set_cons_succ]
              rfl
             refine one_ (i := 10) (N := some 62) (bz 13 2047) rfl rfl (pO HT_.out) uZ (fun K hK => ?_)
             refine Kd.R_append_rows_step Kd.string (w0 := w) w.heap.size uW (.tmp 56) (.tmp 61) 58 9 (.string ⟨#[]⟩) 16 rfl Try.underlying58 info9 rfl uZ uV (.slice Ao32 x11_2.length co32) x11_2 y138 _ _ _ (fun k_ => some k_ ≠ (.slice Ao42 y138.length co42 : Value).ownBlock) (fun _ => False) rfl rfl ?aO ?aR (fun _ _ h => h) (fun _ h => h.elim) ?aF ?aB ?aS ?aL ?_
             (case aR => repeat (first | exact (Kd.R_reads' HO140.out).2.2 | (with_reducible refine Kd.C_alloc ?_ _) | (with_reducible refine Kd.C_drewN ?_ _) | (with_reducible refine Kd.C_drew ?_)))
             (case aB => exact uX)
             (case aF => exact (fun k_ hk => Kd.fresh' (Kd.R_lt (rB HO140.out)) k_ hk))
             (case aO => exact (rB HO_11.out))
             (case aS => exact (below_size uX))
             (case aL => have := LMc30.out; omega)
             intro v142 w41 ho hb hg hat
             rw [← Ny141.out] at ho
             replace HO_129000 := mk0 (Kd.S_over' (sB HO_129000.out) (Kd.R_typed (rB HO_11.out)) uZ hg)
             replace BK123 := mk0 (blk_grown (g := gb123) (o := .cells #[.int .i64 a0_0, .int .i64 a0_1] 51 (0, 0)) (bB BK123.out) hg (Kd.R_ne HO_11.out BK123.out uZ))
             replace BK128 := mk0 (blk_grown (g := gb128) (o := .cells #[.slice Ao10 t124.length co10] 24 (0, 0)) (bB BK128.out) hg (Kd.R_ne HO_11.out BK128.out uZ))
             replace HO133 := mk0 (Kd.R_over' (rB HO133.out) (Kd.R_typed (rB HO_11.out)) uZ hg)
             replace HO136 := mk0 (Kd.R_over' (rB HO136.out) (Kd.R_typed (rB HO_11.out)) uZ hg)
             replace HO140 := mk0 (Kd.R_after (ok := (fun _ => True)) (by (with_reducible repeat (first | apply rA | apply rN | apply rD)); exact Kd.R_mono HO140.out (fun _ hk => ⟨trivial, hk⟩)) hg hat)
             replace HB := mk0 (hb)
             have HO143 := mk0 (ho)
             clear HO_11 ho hb hg hat
             refine hK.out _ _ (((HB.out.cell (World.block_lt_of_cell? w _ hw137_0)).trans hw137_0)) (fun hHeld => ?_)
             clear hK K
             refine pM (some 62) ?_
             refine pU 11 10 (bz 13 4095) HT_.out ?_
             refine pU 12 11 (bz 13 8191) HT_.out ?_
             refine done_ (done_of HT_.out uT) ?_
             try go_wp2
             go_roundg k2
             case measure => have := HJ4.out; have := HK2.out; omega
             case rel => exact ⟨(y134), (y141), (wrap64 (x46_2 + 1)), uJ, H', ⟨by have := HJ4.out; have := HK2.out; omega⟩, ⟨by (with_reducible repeat (first | apply rA | apply rN | apply rD)); exact Kd.R_mono HO136.out (fun _ hk => trivial)⟩, ⟨by (with_reducible repeat (first | apply rA | apply rN | apply rD)); exact Kd.R_mono HO143.out (fun _ hk => trivial)⟩, ⟨by (with_reducible repeat (first | apply sA | apply sN | apply sD)); exact Kd.S_mono HO_129000.out (fun _ hk => hk.2)⟩, ⟨bB BK123.out⟩, ⟨bB BK128.out⟩, ⟨uX⟩⟩
            ·rw [if_neg c30] at H
             exact absurd H qa
           ·rw [if_neg c29] at H
            exact absurd H qa
          ·rw [if_neg c28] at H
           exact absurd H qa
         ·replace c27 := Bool.eq_false_iff.mpr c27
          subst c27
          have H1 : (decode_Decode.l0 k2 l1 x10_2 x11_2 l2 (l2.length : Int) (wrap64 (x46_2 + 1)) a0_0 a0_1 t124) = some (r1, r2) := by rw [if_neg (show ¬ (false = true) by decide)] at H; exact H
          clear H
          have H := H1
          clear H1
          have H' := mk0 H
          clear H
          have p130 : 0 ≤ (x46_2 : Int) := of_decide_eq_true uI
          have q130 : x46_2 < (l2.length : Int) := of_decide_eq_true uI
          obtain ⟨ad130, e130, hx130_0⟩ := Kd.at_bool HR2.out x46_2 p130 q130
          (try rw [← Nbq26.out] at hx130_0)
          cases e130
          replace hx130_0 := (HB.out.cell (World.block_lt_of_cell? w _ hx130_0)).trans hx130_0
          replace p130 := eq_true p130
          replace q130 := eq_true q130
          go_wp2
          go_roundg k2
          case measure => have := HJ4.out; have := HK2.out; omega
          case rel => exact ⟨(x10_2), (x11_2), (wrap64 (x46_2 + 1)), uJ, H', ⟨by have := HJ4.out; have := HK2.out; omega⟩, ⟨rB HO_10.out⟩, ⟨rB HO_11.out⟩, ⟨sB HO_129000.out⟩, ⟨bB BK123.out⟩, ⟨bB BK128.out⟩, ⟨uX⟩⟩
        ·rw [if_neg c25] at H
         exact absurd H qa
       ·rw [if_neg c24] at H
        exact absurd H qa
      ·rw [if_neg c23] at H
       have c23b0 : decide (x46_2 < (l2.length : Int)) = false := decide_eq_false c23
       clear c23
       replace H := Option.bind_eq_some_iff.mp H
       obtain ⟨t144, A430, H⟩ := H
       replace H : (if t144 = true then (if (x11_2.length : Int) < a0_0 then (some (([] : List ByteArray), 701)) else (if 0 ≤ a0_0 then (if a0_0 ≤ (x10_2.length : Int) then ((GBase.matrix_Pick.f k2 t124 (x10_2.take (a0_0 : Int).toNat)).bind fun bt149 => ((Pr.inv.f bt149.1).bind fun bt154 => (decode_Decode.l1 k2 x11_2 ([] : List ByteArray) bt154.1 (bt154.1.length : Int) 0 a0_0 a0_1))) else (none)) else (none))) else (some (([] : List ByteArray), 700))) = some (r1, r2) := H
       have A43 := mk0 A430
       clear A430
       by_cases c44 : t144 = true
       ·subst c44
        have H1 : (if (x11_2.length : Int) < a0_0 then (some (([] : List ByteArray), 701)) else (if 0 ≤ a0_0 then (if a0_0 ≤ (x10_2.length : Int) then ((GBase.matrix_Pick.f k2 t124 (x10_2.take (a0_0 : Int).toNat)).bind fun bt149 => ((Pr.inv.f bt149.1).bind fun bt154 => (decode_Decode.l1 k2 x11_2 ([] : List ByteArray) bt154.1 (bt154.1.length : Int) 0 a0_0 a0_1))) else (none)) else (none))) = some (r1, r2) := by rw [if_pos rfl] at H; exact H
        clear H
        have H := H1
        clear H1
        by_cases c45 : (x11_2.length : Int) < a0_0
        ·rw [if_pos c45] at H
         have c45b0 : decide ((x11_2.length : Int) < a0_0) = true := decide_eq_true c45
         clear c45
         simp only [Option.some.injEq, Prod.mk.injEq] at H
         obtain ⟨rfl, rfl⟩ := H
         obtain ⟨Ao46, co46, eo46⟩ := Kd.R_slice HO_11.out
         subst eo46
         go_wp2_with (first | ((with_reducible refine gCa (f := 89) rfl ?_); refine goesL_ (some 66) rfl rfl Try.func89 uT rfl #[.slice Ao46 x11_2.length co46] rfl uk ?_; (with_reducible refine (GVec.vec_Alike.calls k2 _ _ x11_2 true _ ?side1 ?side2 A43.out).mono ?_); (case side1 => exact cB (Kd.R_reads' HO_11.out).2.2); (case side2 => exact (Kd.R_reads' HO_11.out).2.1); rintro e w' ⟨rfl, ⟨nd, rfl⟩⟩; refine ⟨_, rfl, ?_⟩; have hnb47 := NB123_128.out; have hnc47 := NB128_123.out; have hcz48_0 : wr.cell? ⟨gb123, 0, none⟩ = some (.int .i64 a0_0) := (blk_cell BK123.out 0).trans rfl; have hcz48_1 : wr.cell? ⟨gb123, 1, none⟩ = some (.int .i64 a0_1) := (blk_cell BK123.out 1).trans rfl; have hfz48_0 := blk_frozen BK123.out 0; have hfz48_1 := blk_frozen BK123.out 1))
         go_ret2
         exact ⟨_, uz, ui, uX⟩
        ·rw [if_neg c45] at H
         have c45b0 : decide ((x11_2.length : Int) < a0_0) = false := decide_eq_false c45
         clear c45
         by_cases c49 : 0 ≤ a0_0
         ·rw [if_pos c49] at H
          have c49b0 := eq_true c49
          have c49b1 : decide (0 ≤ a0_0) = true := decide_eq_true c49
          clear c49
          by_cases c50 : a0_0 ≤ (x10_2.length : Int)
          ·rw [if_pos c50] at H
           have c50b0 := eq_true c50
           have c50b1 : decide (a0_0 ≤ (x10_2.length : Int)) = true := decide_eq_true c50
           clear c50
           obtain ⟨y145, hy145⟩ : ∃ y_ : List Int, y_ = (x10_2.take (a0_0 : Int).toNat) := ⟨_, rfl⟩
           replace H : ((GBase.matrix_Pick.f k2 t124 y145).bind fun bt149 => ((Pr.inv.f bt149.1).bind fun bt154 => (decode_Decode.l1 k2 x11_2 ([] : List ByteArray) bt154.1 (bt154.1.length : Int) 0 a0_0 a0_1))) = some (r1, r2) := by first | (rw [hy145]; with_reducible exact H) | (have H2_ := (Option.bind_some _ _).symm.trans H; rw [hy145]; with_reducible exact H2_) | (have H2_ := (Option.bind_some _ _).symm.trans H; with_reducible exact H2_) | with_reducible exact H | (rw [hy145]; exact H) | exact H
           have Ny145 := mk0 hy145
           clear hy145
           replace H := Option.bind_eq_some_iff.mp H
           obtain ⟨⟨t149, t152⟩, A510, H⟩ := H
           replace H : ((Pr.inv.f t149).bind fun bt154 => (decode_Decode.l1 k2 x11_2 ([] : List ByteArray) bt154.1 (bt154.1.length : Int) 0 a0_0 a0_1)) = some (r1, r2) := H
           have A51 := mk0 A510
           clear A510
           replace H := Option.bind_eq_some_iff.mp H
           obtain ⟨⟨t154, t157⟩, A520, H⟩ := H
           replace H : (decode_Decode.l1 k2 x11_2 ([] : List ByteArray) t154 (t154.length : Int) 0 a0_0 a0_1) = some (r1, r2) := H
           have A52 := mk0 A520
           clear A520
           have H' := mk0 H
           clear H
           obtain ⟨Ao53, co53, eo53⟩ := Kd.R_slice HO_11.out
           subst eo53
           try go_wp2_with (first | ((with_reducible refine gCa (f := 89) rfl ?_); refine goesL_ (some 66) rfl rfl Try.func89 uT rfl #[.slice Ao53 x11_2.length co53] rfl uk ?_; (with_reducible refine (GVec.vec_Alike.calls k2 _ _ x11_2 true _ ?side1 ?side2 A43.out).mono ?_); (case side1 => exact cB (Kd.R_reads' HO_11.out).2.2); (case side2 => exact (Kd.R_reads' HO_11.out).2.1); rintro e w' ⟨rfl, ⟨nd, rfl⟩⟩; refine ⟨_, rfl, ?_⟩; (try (rw [dSe wr]; generalize hq_ : World.drewN wr _ = wr; have n0_ : Aside0 (Kd.R (Kd.int .i64) 3 wr w.heap.size (fun _ => True) u10 x10_2) := ⟨by rw [← hq_]; exact (rB HO_10.out)⟩; have n1_ : Aside0 (Kd.R Kd.string 9 wr w.heap.size (fun _ => True) (.slice Ao53 x11_2.length co53) x11_2) := ⟨by rw [← hq_]; exact (rB HO_11.out)⟩; have n2_ : Aside0 (Kd.S (Kd.slice 3 (Kd.int .i64)) 25 wr w.heap.size (fun k_ => some k_ ≠ (u10 : Value).ownBlock) (.slice Ao10 t124.length co10) t124) := ⟨by rw [← hq_]; exact (sB HO_129000.out)⟩; have n3_ : Aside0 (wr.heap[gb123]? = some (.cells #[.int .i64 a0_0, .int .i64 a0_1] 51 (0, 0))) := ⟨by rw [← hq_]; exact (bB BK123.out)⟩; have n4_ : Aside0 (wr.heap[gb128]? = some (.cells #[.slice Ao10 t124.length co10] 24 (0, 0))) := ⟨by rw [← hq_]; exact (bB BK128.out)⟩; have n5_ : Aside0 (Below w.heap.size w wr) := ⟨uh⟩; clear HO_10 HO_11 HO_129000 BK123 BK128 HB hq_; have HO_10 := n0_; have HO_11 := n1_; have HO_129000 := n2_; have BK123 := n3_; have BK128 := n4_; have HB := n5_; clear n0_ n1_ n2_ n3_ n4_ n5_)); have hnb54 := NB123_128.out; have hnc54 := NB128_123.out; have hcz55_0 : wr.cell? ⟨gb123, 0, none⟩ = some (.int .i64 a0_0) := (blk_cell BK123.out 0).trans rfl; have hcz55_1 : wr.cell? ⟨gb123, 1, none⟩ = some (.int .i64 a0_1) := (blk_cell BK123.out 1).trans rfl; have hfz55_0 := blk_frozen BK123.out 0; have hfz55_1 := blk_frozen BK123.out 1))
           replace HO_10 := mk0 (Kd.R_drew HO_10.out)
           replace HO_11 := mk0 (Kd.R_drew HO_11.out)
           replace HO_129000 := mk0 (Kd.S_drew HO_129000.out)
           replace BK123 := mk0 (blk_drew BK123.out)
           replace BK128 := mk0 (blk_drew BK128.out)
           replace HB := mk0 (below_drew1 HB.out)
           obtain ⟨Ao58, co58, eo58⟩ := Kd.R_slice HO_10.out
           (first | subst eo58 | (injection eo58 with f1_ f2_ f3_; have f4_ := f1_.symm; have f5_ := f3_.symm; clear f1_ f2_ f3_; subst f4_; subst f5_))
           have q57 : (a0_0 : Int) ≤ ((x10_2.length : Int) : Int) := of_decide_eq_true uI
           obtain ⟨i057, hi057, _, hsz57, _⟩ := info_parts info3
           have hroom57 : x10_2.length ≤ co58 := (Kd.R_reads' HO_10.out).2.1
           have hC57 : Kd.C (Kd.int .i64) _ Ao58 x10_2.length x10_2 := (Kd.R_reads' HO_10.out).2.2
           have hcut57 := cut_to (P := Try.prog) 25 3 .i64 Try.underlying25 hi057 Ao58 x10_2.length co58 a0_0 (of_decide_eq_true uI) q57 hroom57
           have hr57 := Kd.C_take (m := (a0_0 : Int).toNat) hC57 uV
           have hy57 : y145.length = (a0_0 : Int).toNat := (by rw [Ny145.out, List.length_take]; omega)
           rw [← Ny145.out] at hr57
           rw [← hy57] at hcut57
           have HR148 := mk0 hr57
           have HC148 := mk0 (show y145.length ≤ co58 from by omega)
           clear hr57 hC57 hroom57 hi057 hsz57
           have KY57 := mk0 hy57
           clear hy57
           have KL57 := mk0 (show (a0_0 : Int).toNat ≤ x10_2.length from by omega)
           replace q57 := eq_true q57
           refine start_ (n := 12) (S := fun w' => w'.cell? ⟨gb128, 0, none⟩ = some (.slice Ao10 t124.length co10) ∧ w'.cell? ⟨gb123, 0, none⟩ = some (.int .i64 a0_0) ∧ w'.cell? ⟨gb123, 1, none⟩ = some (.int .i64 a0_1)) (ds := []) (bz 12 0) uT rfl rfl ⟨(blk_cell BK128.out 0).trans rfl, (blk_cell BK123.out 0).trans rfl, (blk_cell BK123.out 1).trans rfl⟩ (fun hHeld => ?_); refine with_tabW decode_Decode.tab16 decode_Decode.bits16 (fun HT_ HW_ => ?_)
           generalize wr.drew = w56 at HO_10 HO_11 HO_129000 BK123 BK128 HB HR148 hHeld ⊢
           refine pU 1 76 (bz 12 2) HT_.out ?_
           refine pU 2 77 (bz 12 6) HT_.out ?_
           refine pT3 0 75 (bz 12 7) HT_.out HW_.out hHeld ?_
           refine pT3 3 78 (bz 12 15) HT_.out HW_.out hHeld ?_
           refine pU 4 79 (bz 12 31) HT_.out ?_
           refine join_ (σ := Value × Nat) 2 (bz 12 1023) (fun s_ => [(80, .tuple #[.agg #[s_.1], .int .i64 t152]), (14, .pointer (some ⟨s_.2, 0, none⟩)), (74, .tuple #[.agg #[s_.1], .int .i64 t152]), (81, .agg #[s_.1]), (82, .int .i64 t152)]) (fun s_ w' => (w'.cell? ⟨gb128, 0, none⟩ = some (.slice Ao10 t124.length co10) ∧ w'.cell? ⟨gb123, 0, none⟩ = some (.int .i64 a0_0) ∧ w'.cell? ⟨gb123, 1, none⟩ = some (.int .i64 a0_1)) ∧ (Kd.S (Kd.slice 3 (Kd.int .i64)) 25 w' w.heap.size (fun k_ => some k_ ≠ (.slice Ao58 x10_2.length co58 : Value).ownBlock ∧ some k_ ≠ (.slice Ao10 t124.length co10 : Value).ownBlock) s_.1 t149) ∧ (Kd.R (Kd.int .i64) 3 w' w.heap.size (fun _ => True) (.slice Ao58 x10_2.length co58) x10_2) ∧ (Kd.R Kd.string 9 w' w.heap.size (fun _ => True) (.slice Ao53 x11_2.length co53) x11_2) ∧ (Kd.S (Kd.slice 3 (Kd.int .i64)) 25 w' w.heap.size (fun k_ => some k_ ≠ (s_.1 : Value).ownBlock ∧ some k_ ≠ (.slice Ao58 x10_2.length co58 : Value).ownBlock) (.slice Ao10 t124.length co10) t124) ∧ (w'.heap[gb123]? = some (.cells #[.int .i64 a0_0, .int .i64 a0_1] 51 (0, 0))) ∧ (w'.heap[gb128]? = some (.cells #[.slice Ao10 t124.length co10] 24 (0, 0))) ∧ (w'.heap[s_.2]? = some (.cells #[.slice none 0 0] 24 (0, 0))) ∧ (w.heap.size ≤ s_.2) ∧ (w.heap.size ≤ s_.2) ∧ (gb123 ≠ s_.2) ∧ (s_.2 ≠ gb123) ∧ (gb128 ≠ s_.2) ∧ (s_.2 ≠ gb128) ∧ (Below w.heap.size w w')) ?_ ?_
           rotate_left
           ·intro hCont
            refine two_ (i := 5) (j := 9) (Ni := some 80) (Nj := some 14) (bz 12 63) (bz 12 543) rfl rfl rfl rfl (two_of HT_.out uT) uZ uZ (fun K hK => ?_) (fun K hK => ?_)
            ·skip
             refine goes_ Try.func30 uT rfl #[.agg #[.slice Ao10 t124.length co10], .slice Ao58 y145.length co58] uW rfl rfl uk ?_
             with_reducible refine (GBase.matrix_Pick.calls k2 _ _ t124 _ _ y145 t149 t152 _ ?side1 ?side2 ?side3 ?side4 A51.out).mono ?_
             (case side1 => exact cB (Kd.S_reads' HO_129000.out).2.2)
             (case side2 => exact (Kd.S_reads' HO_129000.out).2.1)
             (case side3 => repeat (first | exact uf | (with_reducible refine Kd.C_alloc ?_ _) | (with_reducible refine Kd.C_drewN ?_ _) | (with_reducible refine Kd.C_drew ?_)))
             (case side4 => exact HC148.out)
             rintro e w59 ⟨v150, rfl, ho0, hb⟩
             refine ⟨_, rfl, ?_⟩
             replace HO_11 := mk0 (Kd.R_below (rB HO_11.out) hb)
             have HO151 := mk0 (Kd.S_lower (Kd.S_new' (Kd.S_new' ho0 (Kd.R_lt (rB HO_10.out))) (Kd.S_lt (sB HO_129000.out))) (below_size uX))
             replace HO_10 := mk0 (Kd.R_below (rB HO_10.out) hb)
             replace HO_129000 := mk0 (Kd.S_elder' (sB HO_129000.out) (Kd.S_base ho0) hb)
             replace BK123 := bK BK123 hb
             replace BK128 := bK BK128 hb
             replace HR148 := mk0 (Kd.C_below uf hb)
             replace HB := mk0 (below_step uX hb)
             (try clear hb)
             (try clear hb2)
             (try clear hk)
             (try clear hi)
             (try clear ho0)
             refine hK.out _ _ ⟨(blk_cell BK128.out 0).trans rfl, (blk_cell BK123.out 0).trans rfl, (blk_cell BK123.out 1).trans rfl⟩ (fun hHeld => ?_)
             clear hK K
             refine pM (some 80) ?_
             refine pU 6 74 (bz 12 127) HT_.out ?_
             refine pU 7 81 (bz 12 255) HT_.out ?_
             refine pU 8 82 (bz 12 511) HT_.out ?_
             refine one_ (i := 9) (N := some 14) (bz 12 1023) rfl rfl (pO HT_.out) uZ (fun K hK => ?_)
             refine box_step uW (N := 14) uW (cs := #[.slice none 0 0]) (t := 24) uL ?_
             intro gb153 hg w60 hbox hb
             replace HO_10 := mk0 (Kd.R_below (rB HO_10.out) hb)
             replace HO_11 := mk0 (Kd.R_below (rB HO_11.out) hb)
             replace HO_129000 := mk0 (Kd.S_below (sB HO_129000.out) hb)
             replace HO151 := mk0 (Kd.S_below (sB HO151.out) hb)
             replace HR148 := mk0 (Kd.C_below uf hb)
             have BK153 := mk0 (hbox)
             have GW153 := mk0 (nB hg HB)
             have GE153 := mk0 (nB hg HB)
             replace HB := mk0 (below_step uX hb)
             have NB123_153 := mk0 (nF hg BK123.out)
             have NB153_123 := mk0 (nE hg BK123.out)
             replace BK123 := bK BK123 hb
             have NB128_153 := mk0 (nF hg BK128.out)
             have NB153_128 := mk0 (nE hg BK128.out)
             replace BK128 := bK BK128 hb
             clear hb hbox hg
             refine hK.out _ _ ⟨(blk_cell BK128.out 0).trans rfl, (blk_cell BK123.out 0).trans rfl, (blk_cell BK123.out 1).trans rfl⟩ (fun hHeld => ?_)
             clear hK K
             refine pM (some 14) ?_
             exact norm_ uy (hCont (v150, gb153) _ ⟨hHeld, (by (with_reducible repeat (first | apply sA | apply sN | apply sD)); exact Kd.S_mono HO151.out (fun _ hk => ⟨hk.1.2, hk.2⟩)), (rB HO_10.out), (rB HO_11.out), un, (bB BK123.out), (bB BK128.out), (bB BK153.out), GW153.out, GE153.out, NB123_153.out, NB153_123.out, NB128_153.out, NB153_128.out, uX⟩)
            ·skip
             refine box_step uW (N := 14) uW (cs := #[.slice none 0 0]) (t := 24) uL ?_
             intro gb153 hg w59 hbox hb
             replace HO_10 := mk0 (Kd.R_below (rB HO_10.out) hb)
             replace HO_11 := mk0 (Kd.R_below (rB HO_11.out) hb)
             replace HO_129000 := mk0 (Kd.S_below (sB HO_129000.out) hb)
             replace HR148 := mk0 (Kd.C_below uf hb)
             have BK153 := mk0 (hbox)
             have GW153 := mk0 (nB hg HB)
             have GE153 := mk0 (nB hg HB)
             replace HB := mk0 (below_step uX hb)
             have NB123_153 := mk0 (nF hg BK123.out)
             have NB153_123 := mk0 (nE hg BK123.out)
             replace BK123 := bK BK123 hb
             have NB128_153 := mk0 (nF hg BK128.out)
             have NB153_128 := mk0 (nE hg BK128.out)
             replace BK128 := bK BK128 hb
             clear hb hbox hg
             refine hK.out _ _ ⟨(blk_cell BK128.out 0).trans rfl, (blk_cell BK123.out 0).trans rfl, (blk_cell BK123.out 1).trans rfl⟩ (fun hHeld => ?_)
             clear hK K
             refine pM (some 14) ?_
             refine one_ (i := 5) (N := some 80) (bz 12 575) rfl rfl (pO HT_.out) uZ (fun K hK => ?_)
             refine goes_ Try.func30 uT rfl #[.agg #[.slice Ao10 t124.length co10], .slice Ao58 y145.length co58] uW rfl rfl uk ?_
             with_reducible refine (GBase.matrix_Pick.calls k2 _ _ t124 _ _ y145 t149 t152 _ ?side1 ?side2 ?side3 ?side4 A51.out).mono ?_
             (case side1 => exact cB (Kd.S_reads' HO_129000.out).2.2)
             (case side2 => exact (Kd.S_reads' HO_129000.out).2.1)
             (case side3 => repeat (first | exact uf | (with_reducible refine Kd.C_alloc ?_ _) | (with_reducible refine Kd.C_drewN ?_ _) | (with_reducible refine Kd.C_drew ?_)))
             (case side4 => exact HC148.out)
             rintro e w60 ⟨v150, rfl, ho0, hb⟩
             refine ⟨_, rfl, ?_⟩
             replace HO_11 := mk0 (Kd.R_below (rB HO_11.out) hb)
             have HO151 := mk0 (Kd.S_lower (Kd.S_new' (Kd.S_new' ho0 (Kd.R_lt (rB HO_10.out))) (Kd.S_lt (sB HO_129000.out))) (below_size uX))
             replace HO_10 := mk0 (Kd.R_below (rB HO_10.out) hb)
             replace HO_129000 := mk0 (Kd.S_elder' (sB HO_129000.out) (Kd.S_base ho0) hb)
             replace BK123 := bK BK123 hb
             replace BK128 := bK BK128 hb
             replace HR148 := mk0 (Kd.C_below uf hb)
             replace BK153 := bK BK153 hb
             replace HB := mk0 (below_step uX hb)
             (try clear hb)
             (try clear hb2)
             (try clear hk)
             (try clear hi)
             (try clear ho0)
             refine hK.out _ _ ⟨(blk_cell BK128.out 0).trans rfl, (blk_cell BK123.out 0).trans rfl, (blk_cell BK123.out 1).trans rfl⟩ (fun hHeld => ?_)
             clear hK K
             refine pM (some 80) ?_
             refine pU 6 74 (bz 12 639) HT_.out ?_
             refine pU 7 81 (bz 12 767) HT_.out ?_
             refine pU 8 82 (bz 12 1023) HT_.out ?_
             exact norm_ uy (hCont (v150, gb153) _ ⟨hHeld, (by (with_reducible repeat (first | apply sA | apply sN | apply sD)); exact Kd.S_mono HO151.out (fun _ hk => ⟨hk.1.2, hk.2⟩)), (rB HO_10.out), (rB HO_11.out), un, (bB BK123.out), (bB BK128.out), (bB BK153.out), GW153.out, GE153.out, NB123_153.out, NB153_123.out, NB128_153.out, NB153_128.out, uX⟩)
           rintro ⟨v150, gb153⟩ w61 ⟨hS_, h0_, h1_, h2_, h3_, h4_, h5_, h6_, h7_, h8_, h9_, h10_, h11_, h12_, h13_⟩
           have n0_ : Aside0 (Kd.S (Kd.slice 3 (Kd.int .i64)) 25 w61 w.heap.size (fun k_ => some k_ ≠ (.slice Ao58 x10_2.length co58 : Value).ownBlock ∧ some k_ ≠ (.slice Ao10 t124.length co10 : Value).ownBlock) v150 t149) := ⟨h0_⟩
           have n1_ : Aside0 (Kd.R (Kd.int .i64) 3 w61 w.heap.size (fun _ => True) (.slice Ao58 x10_2.length co58) x10_2) := ⟨h1_⟩
           have n2_ : Aside0 (Kd.R Kd.string 9 w61 w.heap.size (fun _ => True) (.slice Ao53 x11_2.length co53) x11_2) := ⟨h2_⟩
           have n3_ : Aside0 (Kd.S (Kd.slice 3 (Kd.int .i64)) 25 w61 w.heap.size (fun k_ => some k_ ≠ (v150 : Value).ownBlock ∧ some k_ ≠ (.slice Ao58 x10_2.length co58 : Value).ownBlock) (.slice Ao10 t124.length co10) t124) := ⟨h3_⟩
           have n4_ : Aside0 (w61.heap[gb123]? = some (.cells #[.int .i64 a0_0, .int .i64 a0_1] 51 (0, 0))) := ⟨h4_⟩
           have n5_ : Aside0 (w61.heap[gb128]? = some (.cells #[.slice Ao10 t124.length co10] 24 (0, 0))) := ⟨h5_⟩
           have n6_ : Aside0 (w61.heap[gb153]? = some (.cells #[.slice none 0 0] 24 (0, 0))) := ⟨h6_⟩
           have n7_ : Aside0 (w.heap.size ≤ gb153) := ⟨h7_⟩
           have n8_ : Aside0 (w.heap.size ≤ gb153) := ⟨h8_⟩
           have n9_ : Aside0 (gb123 ≠ gb153) := ⟨h9_⟩
           have n10_ : Aside0 (gb153 ≠ gb123) := ⟨h10_⟩
           have n11_ : Aside0 (gb128 ≠ gb153) := ⟨h11_⟩
           have n12_ : Aside0 (gb153 ≠ gb128) := ⟨h12_⟩
           have n13_ : Aside0 (Below w.heap.size w w61) := ⟨h13_⟩
           clear HO_10 HO_11 HO_129000 BK123 BK128 HB h0_ h1_ h2_ h3_ h4_ h5_ h6_ h7_ h8_ h9_ h10_ h11_ h12_ h13_
           have HO151 := n0_
           have HO_10 := n1_
           have HO_11 := n2_
           have HO_129000 := n3_
           have BK123 := n4_
           have BK128 := n5_
           have BK153 := n6_
           have GW153 := n7_
           have GE153 := n8_
           have NB123_153 := n9_
           have NB153_123 := n10_
           have NB128_153 := n11_
           have NB153_128 := n12_
           have HB := n13_
           clear n0_ n1_ n2_ n3_ n4_ n5_ n6_ n7_ n8_ n9_ n10_ n11_ n12_ n13_
           have hHeld : w61.cell? ⟨gb128, 0, none⟩ = some (.slice Ao10 t124.length co10) ∧ w61.cell? ⟨gb123, 0, none⟩ = some (.int .i64 a0_0) ∧ w61.cell? ⟨gb123, 1, none⟩ = some (.int .i64 a0_1) := hS_
           obtain ⟨Ao62, co62, eo62⟩ := Kd.S_slice HO151.out
           (first | subst eo62 | (injection eo62 with f1_ f2_ f3_; have f4_ := f1_.symm; have f5_ := f3_.symm; clear f1_ f2_ f3_; subst f4_; subst f5_))
           refine norm_ (a' := ?_) ?_ ?_
           rotate_left
           ·simp only [putAll, Act.put, List.setIfInBounds_toArray, List.set_cons_zero, List.set_cons_succ]
            rfl
           refine one_ (i := 10) (N := none) (bz 12 2047) rfl rfl (pO HT_.out) uZ (fun K hK => ?_)
           have hs63 : w61.cell? ⟨gb153, 0, none⟩ = some (.slice none 0 0) := (blk_cell BK153.out 0).trans rfl
           have hfs63 := blk_frozen BK153.out 0
           have hns63_0 := NB123_153.out
           have hns63_1 := NB128_153.out
           have hms63_0 := NB153_123.out
           have hms63_1 := NB153_128.out
           refine skip_ (w1 := ?_) uW rfl ?_ ?_
           rotate_left
           ·go_simp
            rfl
           refine hK.out _ _ ⟨((cell_far (p := ⟨gb153, _, none⟩) NB128_153.out _).trans (hHeld.1)), ((cell_far (p := ⟨gb153, _, none⟩) NB123_153.out _).trans (hHeld.2.1)), ((cell_far (p := ⟨gb153, _, none⟩) NB123_153.out _).trans (hHeld.2.2))⟩ (fun hHeld => ?_)
           clear hK K
           refine pU 11 15 (bz 12 4095) HT_.out ?_
           refine done_ (done_of HT_.out uT) ?_
           have hnb64 := NB153_123.out
           have hnc64 := NB123_153.out
           have hnb65 := NB153_128.out
           have hnc65 := NB128_153.out
           have hcz66_0 : w61.cell? ⟨gb153, 0, none⟩ = some (.slice none 0 0) := (blk_cell BK153.out 0).trans rfl
           have hfz66_0 := blk_frozen BK153.out 0
           try go_wp2_with (first | ((with_reducible refine gCa (f := 40) rfl ?_); refine goesL_ (some 85) rfl rfl Try.func40 uT rfl #[.agg #[.slice Ao62 t149.length co62]] rfl uk ?_; (with_reducible refine (Pr.inv.calls _ _ t149 t154 t157 _ ?side1 ?side2 A52.out).mono ?_); (case side1 => refine (Kd.S_reads' (e := 25) (base := w.heap.size) (ok := fun k_ => (some k_ ≠ (.slice Ao58 x10_2.length co58 : Value).ownBlock ∧ some k_ ≠ (.slice Ao10 t124.length co10 : Value).ownBlock)) (n := t149.length) (c := co62) ?_).2.2; exact (by (with_reducible repeat (first | apply sA | apply sN | apply sD)); exact (Kd.S_mono (Kd.S_far (p := ⟨gb153, 0, none⟩) (Kd.S_types HO151.out BK153.out uZ) (fun _ hk => hk.2) (.slice Ao62 t149.length co62)) (fun _ h_ => h_.1)))); (case side2 => exact (Kd.S_reads' HO151.out).2.1); rintro e w67 ⟨v155, rfl, ho0, hb⟩; refine ⟨_, rfl, ?_⟩; replace HO_11 := mk0 (Kd.R_below (by (with_reducible repeat (first | apply rA | apply rN | apply rD)); exact (Kd.R_mono (Kd.R_far (p := ⟨gb153, 0, none⟩) (Kd.R_types HO_11.out BK153.out uZ) (fun _ hk => hk.2) (.slice Ao62 t149.length co62)) (fun _ h_ => h_.1))) hb); have HO156 := mk0 (Kd.S_lower (Kd.S_new' (Kd.S_new' (Kd.S_new' ho0 (Kd.R_lt (by (with_reducible repeat (first | apply rA | apply rN | apply rD)); exact (Kd.R_mono (Kd.R_far (p := ⟨gb153, 0, none⟩) (Kd.R_types HO_10.out BK153.out uZ) (fun _ hk => hk.2) (.slice Ao62 t149.length co62)) (fun _ h_ => h_.1))))) (Kd.S_lt (by (with_reducible repeat (first | apply sA | apply sN | apply sD)); exact (Kd.S_mono (Kd.S_far (p := ⟨gb153, 0, none⟩) (Kd.S_types HO_129000.out BK153.out uZ) (fun _ hk => hk.2) (.slice Ao62 t149.length co62)) (fun _ h_ => h_.1))))) (Kd.S_lt (by (with_reducible repeat (first | apply sA | apply sN | apply sD)); exact (Kd.S_mono (Kd.S_far (p := ⟨gb153, 0, none⟩) (Kd.S_types HO151.out BK153.out uZ) (fun _ hk => hk.2) (.slice Ao62 t149.length co62)) (fun _ h_ => h_.1))))) (below_size uX)); replace HO_10 := mk0 (Kd.R_below (by (with_reducible repeat (first | apply rA | apply rN | apply rD)); exact (Kd.R_mono (Kd.R_far (p := ⟨gb153, 0, none⟩) (Kd.R_types HO_10.out BK153.out uZ) (fun _ hk => hk.2) (.slice Ao62 t149.length co62)) (fun _ h_ => h_.1))) hb); replace HO_129000 := mk0 (Kd.S_elder' (by (with_reducible repeat (first | apply sA | apply sN | apply sD)); exact (Kd.S_mono (Kd.S_far (p := ⟨gb153, 0, none⟩) (Kd.S_types HO_129000.out BK153.out uZ) (fun _ hk => hk.2) (.slice Ao62 t149.length co62)) (fun _ h_ => h_.1))) (Kd.S_base ho0) hb); replace HO151 := mk0 (Kd.S_elder' (by (with_reducible repeat (first | apply sA | apply sN | apply sD)); exact (Kd.S_mono (Kd.S_far (p := ⟨gb153, 0, none⟩) (Kd.S_types HO151.out BK153.out uZ) (fun _ hk => hk.2) (.slice Ao62 t149.length co62)) (fun _ h_ => h_.1))) (Kd.S_base ho0) hb); replace BK123 := mk0 (blk_below (g := gb123) (o := .cells #[.int .i64 a0_0, .int .i64 a0_1] 51 (0, 0)) (by refine bB ?_; refine blk_far ?_ NB123_153.out _; refine bB ?_; exact BK123.out) hb); replace BK128 := mk0 (blk_below (g := gb128) (o := .cells #[.slice Ao10 t124.length co10] 24 (0, 0)) (by refine bB ?_; refine blk_far ?_ NB128_153.out _; refine bB ?_; exact BK128.out) hb); replace BK153 := mk0 (blk_below (g := gb153) (o := .cells #[.slice Ao62 t149.length co62] 24 (0, 0)) (by refine bB ?_; refine blk_put (cs := #[.slice none 0 0]) ?_ 0 _ rfl; refine bB ?_; exact BK153.out) hb); replace HB := mk0 (below_step uX hb); (try clear hb); (try clear hb2); (try clear hk); (try clear hi); (try clear ho0)) | ((with_reducible refine gate_dst (N := 16) rfl ?_); (try (refine gate_guard uW ?_; dsimp only)); refine box_event uW (N := 16) uW (cs := #[.slice none 0 0]) (t := 24) uL ?_; intro gb158 hg w68 hbox hb; replace HO_10 := mk0 (Kd.R_below (rB HO_10.out) hb); replace HO_11 := mk0 (Kd.R_below (rB HO_11.out) hb); replace HO_129000 := mk0 (Kd.S_below (sB HO_129000.out) hb); replace HO151 := mk0 (Kd.S_below (sB HO151.out) hb); replace HO156 := mk0 (Kd.S_below (sB HO156.out) hb); have BK158 := mk0 (hbox); have GW158 := mk0 (nB hg HB); have GE158 := mk0 (nB hg HB); replace HB := mk0 (below_step uX hb); have NB123_158 := mk0 (nF hg BK123.out); have NB158_123 := mk0 (nE hg BK123.out); replace BK123 := bK BK123 hb; have NB128_158 := mk0 (nF hg BK128.out); have NB158_128 := mk0 (nE hg BK128.out); replace BK128 := bK BK128 hb; have NB153_158 := mk0 (nF hg BK153.out); have NB158_153 := mk0 (nE hg BK153.out); replace BK153 := bK BK153 hb; clear hb hbox hg; obtain ⟨Ao69, co69, eo69⟩ := Kd.S_slice HO156.out; subst eo69; have hnb70 := NB158_123.out; have hnc70 := NB123_158.out; have hnb71 := NB158_128.out; have hnc71 := NB128_158.out; have hnb72 := NB158_153.out; have hnc72 := NB153_158.out; have hcz73_0 : w68.cell? ⟨gb158, 0, none⟩ = some (.slice none 0 0) := (blk_cell BK158.out 0).trans rfl; have hfz73_0 := blk_frozen BK158.out 0))
           go_loopg [18, 91] k2 (fun kq v18 v91 w' => ∃ (x18_3 : List ByteArray) (x91_3 : Int), v91 = .int .i64 x91_3 ∧ Aside0 (decode_Decode.l1 kq x11_2 x18_3 t154 (t154.length : Int) x91_3 a0_0 a0_1 = some (r1, r2)) ∧ Aside0 (kq ≤ k2) ∧ Aside0 (Kd.R Kd.string 9 w' w.heap.size (fun k_ => some k_ ≠ (v18 : Value).ownBlock) (.slice Ao53 x11_2.length co53) x11_2) ∧ Aside0 (Kd.R Kd.string 9 w' w.heap.size (fun k_ => some k_ ≠ ((.slice Ao53 x11_2.length co53) : Value).ownBlock) v18 x18_3) ∧ Aside0 (Kd.S (Kd.slice 3 (Kd.int .i64)) 25 w' w.heap.size (fun k_ => some k_ ≠ ((.slice Ao10 t124.length co10) : Value).ownBlock ∧ some k_ ≠ ((.slice Ao62 t149.length co62) : Value).ownBlock) (.slice Ao69 t154.length co69) t154) ∧ Aside0 (Kd.S (Kd.slice 3 (Kd.int .i64)) 25 w' w.heap.size (fun k_ => some k_ ≠ ((.slice Ao69 t154.length co69) : Value).ownBlock ∧ some k_ ≠ ((.slice Ao62 t149.length co62) : Value).ownBlock ∧ some k_ ≠ ((.slice Ao69 t154.length co69) : Value).ownBlock) (.slice Ao10 t124.length co10) t124) ∧ Aside0 (Kd.S (Kd.slice 3 (Kd.int .i64)) 25 w' w.heap.size (fun k_ => some k_ ≠ ((.slice Ao69 t154.length co69) : Value).ownBlock ∧ some k_ ≠ ((.slice Ao10 t124.length co10) : Value).ownBlock ∧ some k_ ≠ ((.slice Ao69 t154.length co69) : Value).ownBlock) (.slice Ao62 t149.length co62) t149) ∧ Aside0 (Kd.S (Kd.slice 3 (Kd.int .i64)) 25 w' w.heap.size (fun k_ => some k_ ≠ ((.slice Ao10 t124.length co10) : Value).ownBlock ∧ some k_ ≠ ((.slice Ao62 t149.length co62) : Value).ownBlock) (.slice Ao69 t154.length co69) t154) ∧ Aside0 (w'.heap[gb123]? = some (.cells #[.int .i64 a0_0, .int .i64 a0_1] 51 (0, 0))) ∧ Aside0 (w'.heap[gb128]? = some (.cells #[(.slice Ao10 t124.length co10)] 24 (0, 0))) ∧ Aside0 (w'.heap[gb153]? = some (.cells #[(.slice Ao62 t149.length co62)] 24 (0, 0))) ∧ Aside0 (w'.heap[gb158]? = some (.cells #[(.slice Ao69 t154.length co69)] 24 (0, 0))) ∧ Aside0 (Below w.heap.size w w'))
           case atStart => exact ⟨(([] : List ByteArray)), (0), uJ, H', ⟨Nat.le_refl _⟩, ⟨by (with_reducible repeat (first | apply rA | apply rN | apply rD)); exact Kd.R_mono (Kd.R_far (p := ⟨gb158, 0, none⟩) (Kd.R_types HO_11.out BK158.out uZ) (fun _ hk => hk.2) (.slice Ao69 t154.length co69)) (fun _ hk => (by simp [Value.ownBlock]))⟩, ⟨ui⟩, ⟨by (with_reducible repeat (first | apply sA | apply sN | apply sD)); exact Kd.S_mono (Kd.S_far (p := ⟨gb158, 0, none⟩) (Kd.S_types HO156.out BK158.out uZ) (fun _ hk => hk.2) (.slice Ao69 t154.length co69)) (fun _ hk => ⟨hk.1.1.2, hk.1.2⟩)⟩, ⟨by (with_reducible repeat (first | apply sA | apply sN | apply sD)); exact Kd.S_mono (Kd.S_far (p := ⟨gb158, 0, none⟩) (Kd.S_types HO_129000.out BK158.out uZ) (fun _ hk => hk.2) (.slice Ao69 t154.length co69)) (fun _ hk => ⟨hk.1.2, ⟨hk.1.1.1, hk.1.2⟩⟩)⟩, ⟨by (with_reducible repeat (first | apply sA | apply sN | apply sD)); exact Kd.S_mono (Kd.S_far (p := ⟨gb158, 0, none⟩) (Kd.S_types HO151.out BK158.out uZ) (fun _ hk => hk.2) (.slice Ao69 t154.length co69)) (fun _ hk => ⟨hk.1.2, ⟨hk.1.1.2, hk.1.2⟩⟩)⟩, ⟨by (with_reducible repeat (first | apply sA | apply sN | apply sD)); exact Kd.S_mono (Kd.S_far (p := ⟨gb158, 0, none⟩) (Kd.S_types HO156.out BK158.out uZ) (fun _ hk => hk.2) (.slice Ao69 t154.length co69)) (fun _ hk => ⟨hk.1.1.2, hk.1.2⟩)⟩, ⟨by refine bB ?_; refine blk_far ?_ NB123_158.out _; refine bB ?_; exact BK123.out⟩, ⟨by refine bB ?_; refine blk_far ?_ NB128_158.out _; refine bB ?_; exact BK128.out⟩, ⟨by refine bB ?_; refine blk_far ?_ NB153_158.out _; refine bB ?_; exact BK153.out⟩, ⟨by refine bB ?_; refine blk_put (cs := #[.slice none 0 0]) ?_ 0 _ rfl; refine bB ?_; exact BK158.out⟩, ⟨uX⟩⟩
           case round =>
            clear H'
            try clear p1
            try clear q1
            try clear hx1
            try clear c2
            try clear p2
            try clear q2
            try clear c3
            try clear c4
            try clear c5
            try clear q5
            try clear c6
            try clear p6
            try clear c7
            try clear c8
            try clear p13
            try clear q13
            try clear hx13
            try clear c23
            try clear c23b0
            try clear c24
            try clear c25
            try clear q26
            try clear c27
            try clear c28
            try clear c29
            try clear c30
            try clear c40
            try clear c44
            try clear c45
            try clear c45b0
            try clear c47
            try clear c49
            try clear c49b0
            try clear c49b1
            try clear c50
            try clear c50b0
            try clear c50b1
            try clear c54
            try clear q57
            try clear c64
            try clear p64
            try clear c65
            try clear c70
            try clear c71
            try clear c72
            try clear hcz48_0
            try clear hcz48_1
            try clear hcz55_0
            try clear hcz55_1
            try clear hcz66_0
            try clear hcz73_0
            try clear hfz48_0
            try clear hfz48_1
            try clear hfz55_0
            try clear hfz55_1
            try clear hfz66_0
            try clear hfz73_0
            try clear hx130_0
            try clear p130
            try clear q130
            try clear q57
            obtain ⟨x18_3, x91_3, rfl, HA, HK3, HO_11, HO_18, HO_89, HO_129000, HO_154000, HO_159000, BK123, BK128, BK153, BK158, HB⟩ := hrel
            cases gk with
            | zero => exact absurd HA.out (by simp [decode_Decode.l1])
            | succ k3 =>
             have H := HA.out
             clear HA
             simp only [decode_Decode.l1] at H
             by_cases c74 : x91_3 < (t154.length : Int)
             ·rw [if_pos c74] at H
              have c74b0 : decide (x91_3 < (t154.length : Int)) = true := decide_eq_true c74
              clear c74
              by_cases c75 : 0 ≤ x91_3
              ·rw [if_pos c75] at H
               have c75b0 : decide (0 ≤ x91_3) = true := decide_eq_true c75
               clear c75
               by_cases c76 : x91_3 < (t154.length : Int)
               ·rw [if_pos c76] at H
                have c76b0 : decide (x91_3 < (t154.length : Int)) = true := decide_eq_true c76
                clear c76
                by_cases c77 : 0 ≤ a0_0
                ·rw [if_pos c77] at H
                 have c77b0 := eq_true c77
                 have c77b1 : decide (0 ≤ a0_0) = true := decide_eq_true c77
                 clear c77
                 by_cases c78 : a0_0 ≤ (x11_2.length : Int)
                 ·rw [if_pos c78] at H
                  have c78b0 := eq_true c78
                  have c78b1 : decide (a0_0 ≤ (x11_2.length : Int)) = true := decide_eq_true c78
                  clear c78
                  obtain ⟨y160, hy160⟩ : ∃ y_ : List ByteArray, y_ = (x11_2.take (a0_0 : Int).toNat) := ⟨_, rfl⟩
                  replace H : ((GVec.vec_Combine.f k3 (rd_L2 t154 x91_3) y160).bind fun bt164 => ((some (([bt164.1] : List ByteArray) : List ByteArray)).bind fun y166 => (if x18_3.length + y166.length < 8796093022208 then (decode_Decode.l1 k3 x11_2 (x18_3 ++ y166) t154 (t154.length : Int) (wrap64 (x91_3 + 1)) a0_0 a0_1) else (none)))) = some (r1, r2) := by first | (rw [hy160]; with_reducible exact H) | (have H2_ := (Option.bind_some _ _).symm.trans H; rw [hy160]; with_reducible exact H2_) | (have H2_ := (Option.bind_some _ _).symm.trans H; with_reducible exact H2_) | with_reducible exact H | (rw [hy160]; exact H) | exact H
                  have Ny160 := mk0 hy160
                  clear hy160
                  replace H := Option.bind_eq_some_iff.mp H
                  obtain ⟨⟨t164, t165⟩, A790, H⟩ := H
                  replace H : ((some (([t164] : List ByteArray) : List ByteArray)).bind fun y166 => (if x18_3.length + y166.length < 8796093022208 then (decode_Decode.l1 k3 x11_2 (x18_3 ++ y166) t154 (t154.length : Int) (wrap64 (x91_3 + 1)) a0_0 a0_1) else (none))) = some (r1, r2) := H
                  have A79 := mk0 A790
                  clear A790
                  obtain ⟨y166, hy166⟩ : ∃ y_ : List ByteArray, y_ = (([t164] : List ByteArray)) := ⟨_, rfl⟩
                  replace H : (if x18_3.length + y166.length < 8796093022208 then (decode_Decode.l1 k3 x11_2 (x18_3 ++ y166) t154 (t154.length : Int) (wrap64 (x91_3 + 1)) a0_0 a0_1) else (none)) = some (r1, r2) := by first | (rw [hy166]; with_reducible exact H) | (have H2_ := (Option.bind_some _ _).symm.trans H; rw [hy166]; with_reducible exact H2_) | (have H2_ := (Option.bind_some _ _).symm.trans H; with_reducible exact H2_) | with_reducible exact H | (rw [hy166]; exact H) | exact H
                  have Ny166 := mk0 hy166
                  clear hy166
                  by_cases c80 : x18_3.length + y166.length < 8796093022208
                  ·rw [if_pos c80] at H
                   have LMc80 := mk0 c80
                   clear c80
                   obtain ⟨y169, hy169⟩ : ∃ y_ : List ByteArray, y_ = (x18_3 ++ y166) := ⟨_, rfl⟩
                   replace H : (decode_Decode.l1 k3 x11_2 y169 t154 (t154.length : Int) (wrap64 (x91_3 + 1)) a0_0 a0_1) = some (r1, r2) := by first | (rw [hy169]; with_reducible exact H) | (have H2_ := (Option.bind_some _ _).symm.trans H; rw [hy169]; with_reducible exact H2_) | (have H2_ := (Option.bind_some _ _).symm.trans H; with_reducible exact H2_) | with_reducible exact H | (rw [hy169]; exact H) | exact H
                   have Ny169 := mk0 hy169
                   clear hy169
                   have H' := mk0 H
                   clear H
                   have p159 : 0 ≤ (x91_3 : Int) := of_decide_eq_true uI
                   have q159 : x91_3 < (t154.length : Int) := of_decide_eq_true uI
                   obtain ⟨ad159, A159_0, c159_0, e159, hx159_0, hl159_0, hi159_0⟩ := at_L2 (Kd.S_reads' HO_89.out).2.2 x91_3 p159 q159
                   cases e159
                   obtain ⟨ce159, hce159, hMe159, hcc159⟩ := Kd.S_get HO_89.out [] x91_3 p159 (by first | exact q159 | exact of_decide_eq_true uI | (have e_ := (Kd.S_reads' HO_89.out).1; omega))
                   obtain ⟨ve159_0, rfl, ge159_0⟩ := hMe159
                   have hv159_0 := hcc159 0 _ rfl
                   rw [Nat.add_zero, show ((Kd.slice 3 (Kd.int .i64))).sz = 1 from rfl, Nat.mul_one] at hv159_0
                   replace hv159_0 := Option.some.inj (hv159_0.symm.trans hx159_0)
                   rw [hv159_0] at ge159_0
                   have HL159_0 := mk0 (show Kd.R (Kd.int .i64) 3 _ _ _ _ (rd_L2 t154 x91_3) from ge159_0)
                   clear hv159_0 ge159_0 hcc159 hce159
                   have HR159_0 := mk0 hi159_0
                   have HC159_0 := mk0 hl159_0
                   clear hi159_0 hl159_0
                   replace p159 := eq_true p159
                   replace q159 := eq_true q159
                   have hnb81 := NB123_128.out
                   have hnc81 := NB128_123.out
                   have hnb82 := NB123_153.out
                   have hnc82 := NB153_123.out
                   have hnb83 := NB123_158.out
                   have hnc83 := NB158_123.out
                   have hcz84_0 : wr.cell? ⟨gb123, 0, none⟩ = some (.int .i64 a0_0) := (blk_cell BK123.out 0).trans rfl
                   have hcz84_1 : wr.cell? ⟨gb123, 1, none⟩ = some (.int .i64 a0_1) := (blk_cell BK123.out 1).trans rfl
                   have hfz84_0 := blk_frozen BK123.out 0
                   have hfz84_1 := blk_frozen BK123.out 1
                   have q85 : (a0_0 : Int) ≤ ((x11_2.length : Int) : Int) := of_decide_eq_true uI
                   obtain ⟨i085, hi085, _, hsz85, _⟩ := info_parts info9
                   have hroom85 : x11_2.length ≤ co53 := (Kd.R_reads' HO_11.out).2.1
                   have hC85 : Kd.C Kd.string _ Ao53 x11_2.length x11_2 := (Kd.R_reads' HO_11.out).2.2
                   have hcut85 := cut_to (P := Try.prog) 58 9 .i64 Try.underlying58 hi085 Ao53 x11_2.length co53 a0_0 (of_decide_eq_true uI) q85 hroom85
                   have hr85 := Kd.C_take (m := (a0_0 : Int).toNat) hC85 uV
                   have hy85 : y160.length = (a0_0 : Int).toNat := (by rw [Ny160.out, List.length_take]; omega)
                   rw [← Ny160.out] at hr85
                   rw [← hy85] at hcut85
                   have HR163 := mk0 hr85
                   have HC163 := mk0 (show y160.length ≤ co53 from by omega)
                   clear hr85 hC85 hroom85 hi085 hsz85
                   have KY85 := mk0 hy85
                   clear hy85
                   have KL85 := mk0 (show (a0_0 : Int).toNat ≤ x11_2.length from by omega)
                   replace q85 := eq_true q85
                   go_wp2_with (first | ((with_reducible refine gCa (f := 90) rfl ?_); refine goesL_ (some 101) rfl rfl Try.func90 uT rfl #[.slice A159_0 (rd_L2 t154 x91_3).length c159_0, .slice Ao53 y160.length co53] rfl uk ?_; (with_reducible refine (GVec.vec_Combine.calls k3 _ _ (rd_L2 t154 x91_3) _ _ y160 t164 t165 _ ?side1 ?side2 ?side3 ?side4 A79.out).mono ?_); (case side1 => repeat (first | exact uc | (with_reducible refine Kd.C_alloc ?_ _) | (with_reducible refine Kd.C_drewN ?_ _) | (with_reducible refine Kd.C_drew ?_))); (case side2 => exact HC159_0.out); (case side3 => repeat (first | exact ug | (with_reducible refine Kd.C_alloc ?_ _) | (with_reducible refine Kd.C_drewN ?_ _) | (with_reducible refine Kd.C_drew ?_))); (case side4 => exact HC163.out); rintro e w86 ⟨rfl, hb⟩; refine ⟨_, rfl, ?_⟩; replace HO_11 := mk0 (Kd.R_below (rB HO_11.out) hb); replace HO_18 := mk0 (Kd.R_below (rB HO_18.out) hb); replace HO_89 := mk0 (Kd.S_below (sB HO_89.out) hb); replace HO_129000 := mk0 (Kd.S_below (sB HO_129000.out) hb); replace HO_154000 := mk0 (Kd.S_below (sB HO_154000.out) hb); replace HO_159000 := mk0 (Kd.S_below (sB HO_159000.out) hb); replace HL159_0 := mk0 (Kd.R_below (rB HL159_0.out) hb); replace BK123 := bK BK123 hb; replace BK128 := bK BK128 hb; replace BK153 := bK BK153 hb; replace BK158 := bK BK158 hb; replace HR159_0 := mk0 (Kd.C_below uc hb); replace HR163 := mk0 (Kd.C_below ug hb); replace HB := mk0 (below_step uX hb); (try clear hb); (try clear hk)) | ((with_reducible refine gate_dst (N := 106) rfl ?_); (try (refine gate_guard uW ?_; dsimp only)); refine Kd.R_lit Kd.string _ 9 ?hg (N := 106) ?hd (xs := ([t164] : List ByteArray)) (inner := [.string t164]) (ok := fun _ => True) (okp := fun _ => True) ?hr ?hp (fun _ hk => hk) trivial (Below.refl _ _) (Nat.le_refl _) qa ?_; (case hd => rfl); (case hg => rfl); (case hr => first | (go_simp; done) | (go_simp; rfl)); (case hp => exact (Reps.one (show Kd.M Kd.string _ _ _ t164 [.string t164] from rfl) (Reps.none _ _))); intro v167 w87 ho88 hb hg_ hnew_; clear hg_ hnew_; (first | rw [← Ny166.out] at ho88 | (simp only [Int.reduceToNat] at ho88; rw [← Ny166.out] at ho88)); replace HO_89 := mk0 (Kd.S_below (sB HO_89.out) hb); replace HO_129000 := mk0 (Kd.S_below (sB HO_129000.out) hb); replace HO_154000 := mk0 (Kd.S_below (sB HO_154000.out) hb); replace HO_159000 := mk0 (Kd.S_below (sB HO_159000.out) hb); replace HL159_0 := mk0 (Kd.R_below (rB HL159_0.out) hb); have HO168 := mk0 (Kd.R_lower (Kd.R_new' (Kd.R_new' ho88 (Kd.R_lt (rB HO_11.out))) (Kd.R_lt (rB HO_18.out))) (below_size uX)); replace HO_11 := mk0 (Kd.R_elder' (rB HO_11.out) (Kd.R_base ho88) hb); replace HO_18 := mk0 (Kd.R_elder' (rB HO_18.out) (Kd.R_base ho88) hb); replace BK123 := bK BK123 hb; replace BK128 := bK BK128 hb; replace BK153 := bK BK153 hb; replace BK158 := bK BK158 hb; replace HR159_0 := mk0 (Kd.C_below uc hb); replace HR163 := mk0 (Kd.C_below ug hb); replace HB := mk0 (below_step uX hb); clear hb ho88; obtain ⟨Ao90, co90, eo90⟩ := Kd.R_slice HO168.out; subst eo90) | ((with_reducible refine gBu (b := .append) (xs := #[.tmp 104, .tmp 106]) rfl ?_); (try (refine gate_guard uW ?_; dsimp only)); at_builtin; refine Kd.R_append_rows Kd.string (w0 := w) w.heap.size rfl (.tmp 104) (.tmp 106) 58 9 (.string ⟨#[]⟩) 16 rfl Try.underlying58 info9 rfl uZ uV u18 x18_3 y166 _ _ _ (fun k_ => some k_ ≠ (.slice Ao53 x11_2.length co53 : Value).ownBlock ∧ some k_ ≠ (.slice Ao90 y166.length co90 : Value).ownBlock) (fun _ => False) rfl rfl ?aO ?aR (fun _ _ h => h) (fun _ h => h.elim) ?aF ?aB ?aS ?aL ?_; (case aR => repeat (first | exact (Kd.R_reads' HO168.out).2.2 | (with_reducible refine Kd.C_alloc ?_ _) | (with_reducible refine Kd.C_drewN ?_ _) | (with_reducible refine Kd.C_drew ?_))); (case aB => exact uX); (case aF => exact (fun k_ hk => ⟨Kd.fresh' (Kd.R_lt (rB HO_11.out)) k_ hk, Kd.fresh' (Kd.R_lt (rB HO168.out)) k_ hk⟩)); (case aO => exact (rB HO_18.out)); (case aS => exact (below_size uX)); (case aL => have := LMc80.out; omega); intro v170 w89 ho hb hg hat; rw [← Ny169.out] at ho; replace HO_89 := mk0 (Kd.S_over' (sB HO_89.out) (Kd.R_typed (rB HO_18.out)) uZ hg); replace HO_129000 := mk0 (Kd.S_over' (sB HO_129000.out) (Kd.R_typed (rB HO_18.out)) uZ hg); replace HO_154000 := mk0 (Kd.S_over' (sB HO_154000.out) (Kd.R_typed (rB HO_18.out)) uZ hg); replace HO_159000 := mk0 (Kd.S_over' (sB HO_159000.out) (Kd.R_typed (rB HO_18.out)) uZ hg); replace BK123 := mk0 (blk_grown (g := gb123) (o := .cells #[.int .i64 a0_0, .int .i64 a0_1] 51 (0, 0)) (bB BK123.out) hg (Kd.R_ne HO_18.out BK123.out uZ)); replace BK128 := mk0 (blk_grown (g := gb128) (o := .cells #[.slice Ao10 t124.length co10] 24 (0, 0)) (bB BK128.out) hg (Kd.R_ne HO_18.out BK128.out uZ)); replace BK153 := mk0 (blk_grown (g := gb153) (o := .cells #[.slice Ao62 t149.length co62] 24 (0, 0)) (bB BK153.out) hg (Kd.R_ne HO_18.out BK153.out uZ)); replace BK158 := mk0 (blk_grown (g := gb158) (o := .cells #[.slice (some ad159) t154.length co69] 24 (0, 0)) (bB BK158.out) hg (Kd.R_ne HO_18.out BK158.out uZ)); replace HL159_0 := mk0 (Kd.R_over' (rB HL159_0.out) (Kd.R_typed (rB HO_18.out)) uZ hg); replace HO168 := mk0 (Kd.R_after (ok := (fun k_ => some k_ ≠ (.slice Ao53 x11_2.length co53 : Value).ownBlock)) (by (with_reducible repeat (first | apply rA | apply rN | apply rD)); exact Kd.R_mono HO168.out (fun _ hk => ⟨hk.1.2, hk.2⟩)) hg hat); replace HB := mk0 (hb); replace HR163 := mk0 ((show Kd.C Kd.string w89 Ao53 y160.length y160 from by rw [Ny160.out]; exact Kd.C_take (m := (a0_0 : Int).toNat) ((Kd.R_reads' (Kd.R_after (ok := (fun k_ => some k_ ≠ (.slice Ao90 y166.length co90 : Value).ownBlock)) (by (with_reducible repeat (first | apply rA | apply rN | apply rD)); exact Kd.R_mono HO_11.out (fun _ hk => ⟨hk.2, hk.1⟩)) hg hat)).2.2) KL85.out)); replace HO_11 := mk0 (Kd.R_after (ok := (fun k_ => some k_ ≠ (.slice Ao90 y166.length co90 : Value).ownBlock)) (by (with_reducible repeat (first | apply rA | apply rN | apply rD)); exact Kd.R_mono HO_11.out (fun _ hk => ⟨hk.2, hk.1⟩)) hg hat); have HO171 := mk0 (ho); clear HO_18; clear ho hb hg hat))
                   go_roundg k3
                   case measure => have := HJ4.out; have := HK2.out; have := HK3.out; omega
                   case rel => exact ⟨(y169), (wrap64 (x91_3 + 1)), uJ, H', ⟨by have := HJ4.out; have := HK2.out; have := HK3.out; omega⟩, ⟨us⟩, ⟨by (with_reducible repeat (first | apply rA | apply rN | apply rD)); exact Kd.R_mono HO171.out (fun _ hk => hk.1)⟩, ⟨sB HO_89.out⟩, ⟨sB HO_129000.out⟩, ⟨sB HO_154000.out⟩, ⟨sB HO_159000.out⟩, ⟨bB BK123.out⟩, ⟨bB BK128.out⟩, ⟨bB BK153.out⟩, ⟨bB BK158.out⟩, ⟨uX⟩⟩
                  ·rw [if_neg c80] at H
                   exact absurd H qa
                 ·rw [if_neg c78] at H
                  exact absurd H qa
                ·rw [if_neg c77] at H
                 exact absurd H qa
               ·rw [if_neg c76] at H
                exact absurd H qa
              ·rw [if_neg c75] at H
               exact absurd H qa
             ·rw [if_neg c74] at H
              have c74b0 : decide (x91_3 < (t154.length : Int)) = false := decide_eq_false c74
              clear c74
              simp only [Option.some.injEq, Prod.mk.injEq] at H
              obtain ⟨rfl, rfl⟩ := H
              go_wp2
              go_ret2
              exact ⟨_, uz, by (with_reducible repeat (first | apply rA | apply rN | apply rD)); exact Kd.R_mono HO_18.out (fun _ hk => trivial), uX⟩
          ·rw [if_neg c50] at H
           exact absurd H qa
         ·rw [if_neg c49] at H
          exact absurd H qa
       ·replace c44 := Bool.eq_false_iff.mpr c44
        subst c44
        have H1 : (some (([] : List ByteArray), 700)) = some (r1, r2) := by rw [if_neg (show ¬ (false = true) by decide)] at H; exact H
        clear H
        have H := H1
        clear H1
        simp only [Option.some.injEq, Prod.mk.injEq] at H
        obtain ⟨rfl, rfl⟩ := H
        obtain ⟨Ao91, co91, eo91⟩ := Kd.R_slice HO_11.out
        subst eo91
        go_wp2_with (first | ((with_reducible refine gCa (f := 89) rfl ?_); refine goesL_ (some 66) rfl rfl Try.func89 uT rfl #[.slice Ao91 x11_2.length co91] rfl uk ?_; (with_reducible refine (GVec.vec_Alike.calls k2 _ _ x11_2 false _ ?side1 ?side2 A43.out).mono ?_); (case side1 => exact cB (Kd.R_reads' HO_11.out).2.2); (case side2 => exact (Kd.R_reads' HO_11.out).2.1); rintro e w' ⟨rfl, ⟨nd, rfl⟩⟩; refine ⟨_, rfl, ?_⟩))
        go_ret2
        exact ⟨_, uz, ui, uX⟩
end Go.Proofs.Ytaahnicjjpddjaa.GEnc
