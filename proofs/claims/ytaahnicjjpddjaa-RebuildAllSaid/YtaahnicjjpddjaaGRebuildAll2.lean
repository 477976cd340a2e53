/- Functions of the program as Lean functions, each with a proof that its call comes to what the function says; written by wip/gen.py of our own repo. No condition. -/
import Derived.Test.YtaahnicjjpddjaaGRebuildAll0
import Derived.Test.YtaahnicjjpddjaaGRebuildAll1
namespace Go.Proofs.Ytaahnicjjpddjaa.GRebuildAll
open Go.Proofs.Ytaahnicjjpddjaa.Fn
open Go.Proofs.Ytaahnicjjpddjaa
open Go.RowKit Go.Proofs.YtaahnicjjpddjaaW.PrintWords Go.Proofs.YtaahnicjjpddjaaW.PrintLast
set_option linter.unusedVariables false
set_option linter.unusedSimpArgs false
def mn (a b : Int) : Int := if b < a then b else a   -- the smaller

/-! ### ossuarylaw8_RebuildAll: function 23 -/
mutual
noncomputable def ossuarylaw8_RebuildAll.l0 : Nat → ByteArray → List Int → Int → List ByteArray → Int → Int → Int → Option (Bool)
 | 0, _, _, _, _, _, _, _ => none
 | k + 1, x2, x3, x10, x11, x12, x140000, x140001 => if x12 < x140000 then (if 0 ≤ (wrap64 (x10 * x12)) then (if (wrap64 (x10 * x12)) ≤ (wrap64 ((wrap64 (x10 * x12)) + x10)) then (if (wrap64 ((wrap64 (x10 * x12)) + x10)) ≤ (x2.size : Int) then (if x11.length < 8796093022208 then (ossuarylaw8_RebuildAll.l0 k x2 x3 x10 (x11 ++ [x2.extract ((wrap64 (x10 * x12)) : Int).toNat ((wrap64 ((wrap64 (x10 * x12)) + x10)) : Int).toNat]) (wrap64 (x12 + 1)) x140000 x140001) else (none)) else (none)) else (none)) else (none)) else ((GEnc.encode_Encode.f k x140000 x140001 x11).bind fun bt143 => ((GBase.ossuarylaw0_Num.f bt143.2).bind fun t147 => (if t147 = 0 then (if x11.length + bt143.1.length < 8796093022208 then ((some (x11 ++ bt143.1 : List ByteArray)).bind fun y148 => (if (y148.length : Int) = (wrap64 (x140000 + x140001)) then ((some (([] : List ByteArray) : List ByteArray)).bind fun y151 => (if y151.length + y148.length < 8796093022208 then (if 0 ≤ (y148.length : Int) then (if ((y148.length : Int) : Int).toNat ≤ 281474976710656 then (ossuarylaw8_RebuildAll.l1 k x3 y148 (y151 ++ y148) (List.replicate ((y148.length : Int) : Int).toNat false) 0 x140000 x140001) else (none)) else (none)) else (none))) else (some false))) else (none)) else (some false))))
noncomputable def ossuarylaw8_RebuildAll.l1 : Nat → List Int → List ByteArray → List ByteArray → List Bool → Int → Int → Int → Option (Bool)
 | 0, _, _, _, _, _, _, _ => none
 | k + 1, x3, x11, x15, x16, x17, x140000, x140001 => if x17 < (x11.length : Int) then (if 0 ≤ x17 then (if x17 < (x16.length : Int) then (ossuarylaw8_RebuildAll.l1 k x3 x11 x15 (x16.set (x17 : Int).toNat true) (wrap64 (x17 + 1)) x140000 x140001) else (none)) else (none)) else (ossuarylaw8_RebuildAll.l2 k x3 x11 x15 x16 0 x140000 x140001)
noncomputable def ossuarylaw8_RebuildAll.l2 : Nat → List Int → List ByteArray → List ByteArray → List Bool → Int → Int → Int → Option (Bool)
 | 0, _, _, _, _, _, _, _ => none
 | k + 1, x3, x11, x15, x16, x18, x140000, x140001 => if x18 < (x3.length : Int) then (if x18 < x140001 then (if 0 ≤ x18 then (if (IntKind.u64.wrap ((x11.length : Int))) = 0 then (none) else (if 0 ≤ (wrap64 (Int.tmod (IntKind.u64.wrap (rd x3 x18)) (IntKind.u64.wrap ((x11.length : Int))))) then (if (wrap64 (Int.tmod (IntKind.u64.wrap (rd x3 x18)) (IntKind.u64.wrap ((x11.length : Int))))) < (x16.length : Int) then (if (wrap64 (Int.tmod (IntKind.u64.wrap (rd x3 x18)) (IntKind.u64.wrap ((x11.length : Int))))) < (x15.length : Int) then (ossuarylaw8_RebuildAll.l2 k x3 x11 (x15.set ((wrap64 (Int.tmod (IntKind.u64.wrap (rd x3 x18)) (IntKind.u64.wrap ((x11.length : Int))))) : Int).toNat (⟨#[103, 111, 110, 101]⟩ : ByteArray)) (x16.set ((wrap64 (Int.tmod (IntKind.u64.wrap (rd x3 x18)) (IntKind.u64.wrap ((x11.length : Int))))) : Int).toNat false) (wrap64 (x18 + 1)) x140000 x140001) else (none)) else (none)) else (none))) else (none)) else ((GEnc.rebuild_Rebuild.f k x140000 x140001 x15 x16).bind fun bt164 => ((GBase.ossuarylaw0_Num.f bt164.2).bind fun t168 => (if t168 = 0 then ((GVec.ossuarylaw0_SameTexts.f k bt164.1 x11).bind fun t169 => (some t169)) else (some false))))) else ((GEnc.rebuild_Rebuild.f k x140000 x140001 x15 x16).bind fun bt170 => ((GBase.ossuarylaw0_Num.f bt170.2).bind fun t174 => (if t174 = 0 then ((GVec.ossuarylaw0_SameTexts.f k bt170.1 x11).bind fun t175 => (some t175)) else (some false))))
end
noncomputable def ossuarylaw8_RebuildAll.f (k : Nat) (a0 : Int) (a1 : Int) (a2 : ByteArray) (l3 : List Int) : Option (Bool) := (ossuarylaw8_awake.f k).bind fun t138 => (if t138 = true then (if (wrap64 (1 + (wrap64 (Int.tmod (IntKind.u64.wrap (a0)) 4)))) = 0 then (none) else (ossuarylaw8_RebuildAll.l0 k a2 l3 (mn (wrap64 ((a2.size : Int) / (wrap64 (1 + (wrap64 (Int.tmod (IntKind.u64.wrap (a0)) 4)))))) 60) ([] : List ByteArray) 0 (wrap64 (1 + (wrap64 (Int.tmod (IntKind.u64.wrap (a0)) 4)))) (wrap64 (Int.tmod (IntKind.u64.wrap (a1)) 3)))) else (some false))
theorem ossuarylaw8_RebuildAll.mono_l : ∀ k, (∀ y0 y1 y2 y3 y4 y5 y6, LeO (ossuarylaw8_RebuildAll.l0 k y0 y1 y2 y3 y4 y5 y6) (ossuarylaw8_RebuildAll.l0 (k + 1) y0 y1 y2 y3 y4 y5 y6)) ∧ (∀ y0 y1 y2 y3 y4 y5 y6, LeO (ossuarylaw8_RebuildAll.l1 k y0 y1 y2 y3 y4 y5 y6) (ossuarylaw8_RebuildAll.l1 (k + 1) y0 y1 y2 y3 y4 y5 y6)) ∧ (∀ y0 y1 y2 y3 y4 y5 y6, LeO (ossuarylaw8_RebuildAll.l2 k y0 y1 y2 y3 y4 y5 y6) (ossuarylaw8_RebuildAll.l2 (k + 1) y0 y1 y2 y3 y4 y5 y6))
 | 0 => ⟨fun _ _ _ _ _ _ _ r h => by simp [ossuarylaw8_RebuildAll.l0] at h, fun _ _ _ _ _ _ _ r h => by simp [ossuarylaw8_RebuildAll.l1] at h, fun _ _ _ _ _ _ _ r h => by simp [ossuarylaw8_RebuildAll.l2] at h⟩
 | k + 1 => by
  obtain ⟨ih0, ih1, ih2⟩ := ossuarylaw8_RebuildAll.mono_l k
  refine ⟨?_, ?_, ?_⟩
  ·intro y0 y1 y2 y3 y4 y5 y6
   unfold ossuarylaw8_RebuildAll.l0
   repeat' first
   | (with_reducible exact ih0 _ _ _ _ _ _ _)
   | (with_reducible exact ih1 _ _ _ _ _ _ _)
   | (with_reducible exact ih2 _ _ _ _ _ _ _)
   | (with_reducible exact GEnc.encode_Encode.mono _ _ _ _)
   | (with_reducible exact GEnc.rebuild_Rebuild.mono _ _ _ _ _)
   | (with_reducible exact GVec.ossuarylaw0_SameTexts.mono _ _ _)
   | (with_reducible exact ossuarylaw8_awake.mono _)
   | (with_reducible exact LeO.refl _)
   | (with_reducible exact LeO.none _)
   | (with_reducible refine LeO.ite ?_ ?_)
   | (with_reducible refine LeO.bind ?_ (fun _ => ?_))
   | exact ih0 _ _ _ _ _ _ _
   | exact ih1 _ _ _ _ _ _ _
   | exact ih2 _ _ _ _ _ _ _
   | exact GEnc.encode_Encode.mono _ _ _ _
   | exact GEnc.rebuild_Rebuild.mono _ _ _ _ _
   | exact GVec.ossuarylaw0_SameTexts.mono _ _ _
   | exact ossuarylaw8_awake.mono _
   | exact LeO.none _
   | refine LeO.ite ?_ ?_
   | refine LeO.bind ?_ (fun _ => ?_)
  ·intro y0 y1 y2 y3 y4 y5 y6
   unfold ossuarylaw8_RebuildAll.l1
   repeat' first
   | (with_reducible exact ih0 _ _ _ _ _ _ _)
   | (with_reducible exact ih1 _ _ _ _ _ _ _)
   | (with_reducible exact ih2 _ _ _ _ _ _ _)
   | (with_reducible exact GEnc.encode_Encode.mono _ _ _ _)
   | (with_reducible exact GEnc.rebuild_Rebuild.mono _ _ _ _ _)
   | (with_reducible exact GVec.ossuarylaw0_SameTexts.mono _ _ _)
   | (with_reducible exact ossuarylaw8_awake.mono _)
   | (with_reducible exact LeO.refl _)
   | (with_reducible exact LeO.none _)
   | (with_reducible refine LeO.ite ?_ ?_)
   | (with_reducible refine LeO.bind ?_ (fun _ => ?_))
   | exact ih0 _ _ _ _ _ _ _
   | exact ih1 _ _ _ _ _ _ _
   | exact ih2 _ _ _ _ _ _ _
   | exact GEnc.encode_Encode.mono _ _ _ _
   | exact GEnc.rebuild_Rebuild.mono _ _ _ _ _
   | exact GVec.ossuarylaw0_SameTexts.mono _ _ _
   | exact ossuarylaw8_awake.mono _
   | exact LeO.none _
   | refine LeO.ite ?_ ?_
   | refine LeO.bind ?_ (fun _ => ?_)
  ·intro y0 y1 y2 y3 y4 y5 y6
   unfold ossuarylaw8_RebuildAll.l2
   repeat' first
   | (with_reducible exact ih0 _ _ _ _ _ _ _)
   | (with_reducible exact ih1 _ _ _ _ _ _ _)
   | (with_reducible exact ih2 _ _ _ _ _ _ _)
   | (with_reducible exact GEnc.encode_Encode.mono _ _ _ _)
   | (with_reducible exact GEnc.rebuild_Rebuild.mono _ _ _ _ _)
   | (with_reducible exact GVec.ossuarylaw0_SameTexts.mono _ _ _)
   | (with_reducible exact ossuarylaw8_awake.mono _)
   | (with_reducible exact LeO.refl _)
   | (with_reducible exact LeO.none _)
   | (with_reducible refine LeO.ite ?_ ?_)
   | (with_reducible refine LeO.bind ?_ (fun _ => ?_))
   | exact ih0 _ _ _ _ _ _ _
   | exact ih1 _ _ _ _ _ _ _
   | exact ih2 _ _ _ _ _ _ _
   | exact GEnc.encode_Encode.mono _ _ _ _
   | exact GEnc.rebuild_Rebuild.mono _ _ _ _ _
   | exact GVec.ossuarylaw0_SameTexts.mono _ _ _
   | exact ossuarylaw8_awake.mono _
   | exact LeO.none _
   | refine LeO.ite ?_ ?_
   | refine LeO.bind ?_ (fun _ => ?_)
theorem ossuarylaw8_RebuildAll.mono : ∀ a0 a1 a2 a3 k, LeO (ossuarylaw8_RebuildAll.f k a0 a1 a2 a3) (ossuarylaw8_RebuildAll.f (k + 1) a0 a1 a2 a3) := by
 intro a0 a1 a2 a3 k
 obtain ⟨ih0, ih1, ih2⟩ := ossuarylaw8_RebuildAll.mono_l k
 unfold ossuarylaw8_RebuildAll.f
 repeat' first
   | (with_reducible exact ih0 _ _ _ _ _ _ _)
   | (with_reducible exact ih1 _ _ _ _ _ _ _)
   | (with_reducible exact ih2 _ _ _ _ _ _ _)
   | (with_reducible exact GEnc.encode_Encode.mono _ _ _ _)
   | (with_reducible exact GEnc.rebuild_Rebuild.mono _ _ _ _ _)
   | (with_reducible exact GVec.ossuarylaw0_SameTexts.mono _ _ _)
   | (with_reducible exact ossuarylaw8_awake.mono _)
   | (with_reducible exact LeO.refl _)
   | (with_reducible exact LeO.none _)
   | (with_reducible refine LeO.ite ?_ ?_)
   | (with_reducible refine LeO.bind ?_ (fun _ => ?_))
   | exact ih0 _ _ _ _ _ _ _
   | exact ih1 _ _ _ _ _ _ _
   | exact ih2 _ _ _ _ _ _ _
   | exact GEnc.encode_Encode.mono _ _ _ _
   | exact GEnc.rebuild_Rebuild.mono _ _ _ _ _
   | exact GVec.ossuarylaw0_SameTexts.mono _ _ _
   | exact ossuarylaw8_awake.mono _
   | exact LeO.none _
   | refine LeO.ite ?_ ?_
   | refine LeO.bind ?_ (fun _ => ?_)
set_option maxHeartbeats 8000000 in
set_option maxRecDepth 100000 in
theorem ossuarylaw8_RebuildAll.calls (k : Nat) (a0 : Int) (a1 : Int) (a2 : ByteArray) (A3 : Option Addr) (c3 : Nat) (l3 : List Int) (r : Bool) (w : World) (hr3 : Kd.C (Kd.int .i64) w A3 l3.length l3) (hc3 : l3.length ≤ c3) (h : ossuarylaw8_RebuildAll.f k a0 a1 a2 l3 = some r) (hT : r = true := by rfl) :
  Calls Try.prog 23 #[.int .i64 a0, .int .i64 a1, .string a2, .slice A3 l3.length c3] w fun e w' => e = .returned (.bool r) ∧ Below w.heap.size w w' := by
 have HTrue := mk0 hT
 clear hT
 have hu51 := Try.underlying51
 have HR3 := mk0 hr3
 have HC3 := mk0 hc3
 clear hr3 hc3
 have HB := mk0 (Below.refl w.heap.size w)
 have H : ((ossuarylaw8_awake.f k).bind fun t138 => (if t138 = true then (if (wrap64 (1 + (wrap64 (Int.tmod (IntKind.u64.wrap (a0)) 4)))) = 0 then (none) else (ossuarylaw8_RebuildAll.l0 k a2 l3 (mn (wrap64 ((a2.size : Int) / (wrap64 (1 + (wrap64 (Int.tmod (IntKind.u64.wrap (a0)) 4)))))) 60) ([] : List ByteArray) 0 (wrap64 (1 + (wrap64 (Int.tmod (IntKind.u64.wrap (a0)) 4)))) (wrap64 (Int.tmod (IntKind.u64.wrap (a1)) 3)))) else (some false))) = some r := h
 clear h
 replace H := Option.bind_eq_some_iff.mp H
 obtain ⟨t138, A50, H⟩ := H
 replace H : (if t138 = true then (if (wrap64 (1 + (wrap64 (Int.tmod (IntKind.u64.wrap (a0)) 4)))) = 0 then (none) else (ossuarylaw8_RebuildAll.l0 k a2 l3 (mn (wrap64 ((a2.size : Int) / (wrap64 (1 + (wrap64 (Int.tmod (IntKind.u64.wrap (a0)) 4)))))) 60) ([] : List ByteArray) 0 (wrap64 (1 + (wrap64 (Int.tmod (IntKind.u64.wrap (a0)) 4)))) (wrap64 (Int.tmod (IntKind.u64.wrap (a1)) 3)))) else (some false)) = some r := H
 have A5 := mk0 A50
 clear A50
 by_cases c6 : t138 = true
 ·subst c6
  have H1 : (if (wrap64 (1 + (wrap64 (Int.tmod (IntKind.u64.wrap (a0)) 4)))) = 0 then (none) else (ossuarylaw8_RebuildAll.l0 k a2 l3 (mn (wrap64 ((a2.size : Int) / (wrap64 (1 + (wrap64 (Int.tmod (IntKind.u64.wrap (a0)) 4)))))) 60) ([] : List ByteArray) 0 (wrap64 (1 + (wrap64 (Int.tmod (IntKind.u64.wrap (a0)) 4)))) (wrap64 (Int.tmod (IntKind.u64.wrap (a1)) 3)))) = some r := by rw [if_pos rfl] at H; exact H
  clear H
  have H := H1
  clear H1
  by_cases c7 : (wrap64 (1 + (wrap64 (Int.tmod (IntKind.u64.wrap (a0)) 4)))) = 0
  ·rw [if_pos c7] at H
   exact absurd H (by simp)
  ·rw [if_neg c7] at H
   have c7b0 : ((wrap64 (1 + (wrap64 (Int.tmod (IntKind.u64.wrap (a0)) 4)))) == 0) = false := beq_eq_false_iff_ne.mpr c7
   have c7b1 : ((wrap64 (1 + (wrap64 (Int.tmod (IntKind.u64.wrap (a0)) 4)))) != 0) = true := bne_iff_ne.mpr c7
   obtain ⟨ji8, hji8⟩ : ∃ j_ : Int, (mn (wrap64 ((a2.size : Int) / (wrap64 (1 + (wrap64 (Int.tmod (IntKind.u64.wrap (a0)) 4)))))) 60) = j_ := ⟨_, rfl⟩
   replace H : (ossuarylaw8_RebuildAll.l0 k a2 l3 ji8 ([] : List ByteArray) 0 (wrap64 (1 + (wrap64 (Int.tmod (IntKind.u64.wrap (a0)) 4)))) (wrap64 (Int.tmod (IntKind.u64.wrap (a1)) 3))) = some r := by first | (rw [hji8] at H; exact H) | (simp only [hji8] at H ⊢; exact H)
   (try rw [hji8] at A5)
   (try (have hji8h : ji8 ≤ 60 := by (rw [← hji8]; unfold mn; (repeat' split) <;> omega)))
   (try (have hji8g : ji8 ≤ 64 := by omega))
   have hji8_ : (if 60 < (wrap64 ((a2.size : Int) / (wrap64 (1 + (wrap64 (Int.tmod (IntKind.u64.wrap (a0)) 4)))))) then 60 else (wrap64 ((a2.size : Int) / (wrap64 (1 + (wrap64 (Int.tmod (IntKind.u64.wrap (a0)) 4))))))) = ji8 := hji8
   have H' := mk0 H
   clear H
   go_enter Try.func23, Try.ntmps23
   go_wp2_with (first | ((with_reducible refine gCa (f := 61) rfl ?_); refine goesL_ (some 22) rfl rfl Try.func61 (by kernel_rfl) rfl #[] rfl (by (try simp only [List.map_toArray, List.map_cons, List.map_nil]); first | done | rfl | (simp only [List.length_drop, List.length_take]; rfl)) ?_; (with_reducible refine (ossuarylaw8_awake.calls k  true _ A5.out).mono ?_); rintro e w9 ⟨rfl, hb⟩; refine ⟨_, rfl, ?_⟩; have n0_ := mk0 (below_step (by repeat (first | (with_reducible first | exact HB.out | apply lA | apply lN | apply lD) | exact HB.out)) hb); clear HB; have HB := n0_; clear n0_; (try clear hb); (try clear hb2); (try clear hk); (try clear hi)) | ((with_reducible refine gate_dst (N := 9) rfl ?_); refine box_event ?hg (N := 9) ?hd (cs := #[.int .i64 0, .int .i64 0]) (t := 51) ?hr ?_; (case hd => rfl); (case hg => rfl); (case hr => first | (go_simp; done) | (go_simp; rfl)); intro gb139 hg w10 hbox hb; have n0_ := mk0 (below_step (by repeat (first | (with_reducible first | exact HB.out | apply lA | apply lN | apply lD) | exact HB.out)) hb); have n1_ := mk0 (hbox); have n2_ := mk0 ((by rw [hg]; exact (below_size (by repeat (first | (with_reducible first | exact HB.out | apply lA | apply lN | apply lD) | exact HB.out))) : w.heap.size ≤ gb139)); have n3_ := mk0 ((by rw [hg]; exact (below_size (by repeat (first | (with_reducible first | exact HB.out | apply lA | apply lN | apply lD) | exact HB.out))) : w.heap.size ≤ gb139)); clear HB; have HB := n0_; have BK139 := n1_; have GW139 := n2_; have GE139 := n3_; clear n0_ n1_ n2_ n3_; clear hb hbox hg; have hcz11_0 : w10.cell? ⟨gb139, 0, none⟩ = some (.int .i64 0) := (blk_cell BK139.out 0).trans rfl; have hcz11_1 : w10.cell? ⟨gb139, 1, none⟩ = some (.int .i64 0) := (blk_cell BK139.out 1).trans rfl; have hfz11_0 := blk_frozen BK139.out 0; have hfz11_1 := blk_frozen BK139.out 1))
   go_loopg [11, 12] k (fun kq v11 v12 w' => ∃ (x11_1 : List ByteArray) (x12_1 : Int), v12 = .int .i64 x12_1 ∧ Aside0 (ossuarylaw8_RebuildAll.l0 kq a2 l3 ji8 x11_1 x12_1 (wrap64 (1 + (wrap64 (Int.tmod (IntKind.u64.wrap (a0)) 4)))) (wrap64 (Int.tmod (IntKind.u64.wrap (a1)) 3)) = some r) ∧ Aside0 (kq ≤ k) ∧ Aside0 (Kd.R Kd.string 9 w' w.heap.size (fun _ => True) v11 x11_1) ∧ Aside0 (w'.heap[gb139]? = some (.cells #[.int .i64 (wrap64 (1 + (wrap64 (Int.tmod (IntKind.u64.wrap (a0)) 4)))), .int .i64 (wrap64 (Int.tmod (IntKind.u64.wrap (a1)) 3))] 51 (0, 0))) ∧ Aside0 (Below w.heap.size w w'))
   case atStart => exact ⟨(([] : List ByteArray)), (0), (by first | rfl | (simp; done) | (simp [*]; done)), H', ⟨Nat.le_refl _⟩, ⟨by first | exact Kd.R_nil _ _ _ _ _ | exact Kd.N_nil _ _ _ _ _ | exact Kd.V_nil _ _ _ _ _ | exact Kd.Q_nil _ _ _ _ _ | exact Kd.S_nil _ _ _ _ _⟩, ⟨by (with_reducible repeat (first | apply bN | apply bD | apply bA)); refine blk_put (cs := #[.int .i64 (wrap64 (1 + (wrap64 (Int.tmod (IntKind.u64.wrap (a0)) 4)))), .int .i64 0]) ?_ 1 _ rfl; (with_reducible repeat (first | apply bN | apply bD | apply bA)); refine blk_put (cs := #[.int .i64 0, .int .i64 0]) ?_ 0 _ rfl; (with_reducible repeat (first | apply bN | apply bD | apply bA)); exact BK139.out⟩, ⟨by repeat (first | (with_reducible first | exact HB.out | apply lA | apply lN | apply lD | refine lT ?_ ‹_›) | exact HB.out)⟩⟩
   case round =>
    clear H'
    try clear c2
    try clear p2
    try clear c3
    try clear c6
    try clear p6
    try clear c7
    try clear c7b0
    try clear c7b1
    try clear hcz11_0
    try clear hcz11_1
    try clear hfz11_0
    try clear hfz11_1
    obtain ⟨x11_1, x12_1, rfl, HA, HK1, HO_11, BK139, HB⟩ := hrel
    cases gk with
    | zero => exact absurd HA.out (by simp [ossuarylaw8_RebuildAll.l0])
    | succ k1 =>
     have H := HA.out
     clear HA
     simp only [ossuarylaw8_RebuildAll.l0] at H
     by_cases c12 : x12_1 < (wrap64 (1 + (wrap64 (Int.tmod (IntKind.u64.wrap (a0)) 4))))
     ·rw [if_pos c12] at H
      have c12b0 : decide (x12_1 < (wrap64 (1 + (wrap64 (Int.tmod (IntKind.u64.wrap (a0)) 4))))) = true := decide_eq_true c12
      clear c12
      obtain ⟨ji13, hji13⟩ : ∃ j_ : Int, (wrap64 (ji8 * x12_1)) = j_ := ⟨_, rfl⟩
      replace H : (if 0 ≤ (ji13) then (if (ji13) ≤ (wrap64 ((ji13) + ji8)) then (if (wrap64 ((ji13) + ji8)) ≤ (a2.size : Int) then (if x11_1.length < 8796093022208 then (ossuarylaw8_RebuildAll.l0 k1 a2 l3 ji8 (x11_1 ++ [a2.extract ((ji13) : Int).toNat ((wrap64 ((ji13) + ji8)) : Int).toNat]) (wrap64 (x12_1 + 1)) (wrap64 (1 + (wrap64 (Int.tmod (IntKind.u64.wrap (a0)) 4)))) (wrap64 (Int.tmod (IntKind.u64.wrap (a1)) 3))) else (none)) else (none)) else (none)) else (none)) = some r := by first | (rw [hji13] at H; exact H) | (simp only [hji13] at H ⊢; exact H)
      have hji13w : (IntKind.i64.wrap (ji8 * x12_1)) = ji13 := (i64_w _).trans hji13
      by_cases c14 : 0 ≤ (ji13)
      ·rw [if_pos c14] at H
       have c14b0 := eq_true c14
       have c14b1 : decide (0 ≤ (ji13)) = true := decide_eq_true c14
       clear c14
       by_cases c15 : (ji13) ≤ (wrap64 ((ji13) + ji8))
       ·rw [if_pos c15] at H
        have c15b0 := eq_true c15
        have c15b1 : decide ((ji13) ≤ (wrap64 ((ji13) + ji8))) = true := decide_eq_true c15
        by_cases c16 : (wrap64 ((ji13) + ji8)) ≤ (a2.size : Int)
        ·rw [if_pos c16] at H
         have c16b0 := eq_true c16
         have c16b1 : decide ((wrap64 ((ji13) + ji8)) ≤ (a2.size : Int)) = true := decide_eq_true c16
         by_cases c17 : x11_1.length < 8796093022208
         ·rw [if_pos c17] at H
          have LMc17 := mk0 c17
          clear c17
          obtain ⟨y140, hy140⟩ : ∃ y_ : List ByteArray, y_ = (x11_1 ++ [a2.extract ((ji13) : Int).toNat ((wrap64 ((ji13) + ji8)) : Int).toNat]) := ⟨_, rfl⟩
          replace H : (ossuarylaw8_RebuildAll.l0 k1 a2 l3 ji8 y140 (wrap64 (x12_1 + 1)) (wrap64 (1 + (wrap64 (Int.tmod (IntKind.u64.wrap (a0)) 4)))) (wrap64 (Int.tmod (IntKind.u64.wrap (a1)) 3))) = some r := by first | (rw [hy140]; with_reducible exact H) | (have H2_ := (Option.bind_some _ _).symm.trans H; rw [hy140]; with_reducible exact H2_) | (have H2_ := (Option.bind_some _ _).symm.trans H; with_reducible exact H2_) | with_reducible exact H | (rw [hy140]; exact H) | exact H
          have Ny140 := mk0 hy140
          clear hy140
          have H' := mk0 H
          clear H
          have hcz18_0 : wr.cell? ⟨gb139, 0, none⟩ = some (.int .i64 (wrap64 (1 + (wrap64 (Int.tmod (IntKind.u64.wrap (a0)) 4))))) := (blk_cell BK139.out 0).trans rfl
          have hcz18_1 : wr.cell? ⟨gb139, 1, none⟩ = some (.int .i64 (wrap64 (Int.tmod (IntKind.u64.wrap (a1)) 3))) := (blk_cell BK139.out 1).trans rfl
          have hfz18_0 := blk_frozen BK139.out 0
          have hfz18_1 := blk_frozen BK139.out 1
          go_wp2_with (first | ((with_reducible refine gBu (b := .append) (xs := #[.tmp 46, .tmp 57]) rfl ?_); at_builtin; refine Kd.R_append Kd.string (w0 := w) w.heap.size rfl (.tmp 46) (.tmp 57) 58 9 (.string ⟨#[]⟩) 16 rfl Try.underlying58 info9 rfl (by decide) (by omega) u11 x11_1 (a2.extract ((ji13) : Int).toNat ((wrap64 ((ji13) + ji8)) : Int).toNat) [.string (a2.extract ((ji13) : Int).toNat ((wrap64 ((ji13) + ji8)) : Int).toNat)] (fun _ => True) (fun _ => False) rfl rfl ?aP (fun _ hk => hk.elim) ?aF ?aO ?aB ?aS ?aL ?_; (case aP => exact rfl); (case aB => exact (by repeat (first | (with_reducible first | exact HB.out | apply lA | apply lN | apply lD | refine lT ?_ ‹_›) | exact HB.out))); (case aF => exact (fun _ _ => trivial)); (case aO => exact (by (with_reducible repeat (first | apply rA | apply rN | apply rD)); exact HO_11.out)); (case aS => exact (below_size (by repeat (first | (with_reducible first | exact HB.out | apply lA | apply lN | apply lD | refine lT ?_ ‹_›) | exact HB.out)))); (case aL => have := LMc17.out; omega); intro v141 w19 ho hb hg hat; rw [← Ny140.out] at ho; have n0_ := mk0 (blk_grown (g := gb139) (o := .cells #[.int .i64 (wrap64 (1 + (wrap64 (Int.tmod (IntKind.u64.wrap (a0)) 4)))), .int .i64 (wrap64 (Int.tmod (IntKind.u64.wrap (a1)) 3))] 51 (0, 0)) (by (with_reducible repeat (first | apply bN | apply bD | apply bA)); exact BK139.out) hg (Kd.R_ne HO_11.out BK139.out (by decide))); have n1_ := mk0 (hb); have n2_ := mk0 (ho); clear BK139; clear HB; clear HO_11; have BK139 := n0_; have HB := n1_; have HO142 := n2_; clear n0_ n1_ n2_; clear ho hb hg hat))
          go_roundg k1
          case measure => have := HK1.out; omega
          case rel => exact ⟨(y140), (wrap64 (x12_1 + 1)), (by first | rfl | (simp; done) | (simp [*]; done)), H', ⟨by have := HK1.out; omega⟩, ⟨by (with_reducible repeat (first | apply rA | apply rN | apply rD)); exact HO142.out⟩, ⟨by (with_reducible repeat (first | apply bN | apply bD | apply bA)); exact BK139.out⟩, ⟨by repeat (first | (with_reducible first | exact HB.out | apply lA | apply lN | apply lD | refine lT ?_ ‹_›) | exact HB.out)⟩⟩
         ·rw [if_neg c17] at H
          exact absurd H (by simp)
        ·rw [if_neg c16] at H
         exact absurd H (by simp)
       ·rw [if_neg c15] at H
        exact absurd H (by simp)
      ·rw [if_neg c14] at H
       exact absurd H (by simp)
     ·rw [if_neg c12] at H
      have c12b0 : decide (x12_1 < (wrap64 (1 + (wrap64 (Int.tmod (IntKind.u64.wrap (a0)) 4))))) = false := decide_eq_false c12
      clear c12
      replace H := Option.bind_eq_some_iff.mp H
      obtain ⟨⟨t143, t146⟩, A200, H⟩ := H
      replace H : ((GBase.ossuarylaw0_Num.f t146).bind fun t147 => (if t147 = 0 then (if x11_1.length + t143.length < 8796093022208 then ((some (x11_1 ++ t143 : List ByteArray)).bind fun y148 => (if (y148.length : Int) = (wrap64 ((wrap64 (1 + (wrap64 (Int.tmod (IntKind.u64.wrap (a0)) 4)))) + (wrap64 (Int.tmod (IntKind.u64.wrap (a1)) 3)))) then ((some (([] : List ByteArray) : List ByteArray)).bind fun y151 => (if y151.length + y148.length < 8796093022208 then (if 0 ≤ (y148.length : Int) then (if ((y148.length : Int) : Int).toNat ≤ 281474976710656 then (ossuarylaw8_RebuildAll.l1 k1 l3 y148 (y151 ++ y148) (List.replicate ((y148.length : Int) : Int).toNat false) 0 (wrap64 (1 + (wrap64 (Int.tmod (IntKind.u64.wrap (a0)) 4)))) (wrap64 (Int.tmod (IntKind.u64.wrap (a1)) 3))) else (none)) else (none)) else (none))) else (some false))) else (none)) else (some false))) = some r := H
      have A20 := mk0 A200
      clear A200
      replace H := Option.bind_eq_some_iff.mp H
      obtain ⟨t147, A210, H⟩ := H
      replace H : (if t147 = 0 then (if x11_1.length + t143.length < 8796093022208 then ((some (x11_1 ++ t143 : List ByteArray)).bind fun y148 => (if (y148.length : Int) = (wrap64 ((wrap64 (1 + (wrap64 (Int.tmod (IntKind.u64.wrap (a0)) 4)))) + (wrap64 (Int.tmod (IntKind.u64.wrap (a1)) 3)))) then ((some (([] : List ByteArray) : List ByteArray)).bind fun y151 => (if y151.length + y148.length < 8796093022208 then (if 0 ≤ (y148.length : Int) then (if ((y148.length : Int) : Int).toNat ≤ 281474976710656 then (ossuarylaw8_RebuildAll.l1 k1 l3 y148 (y151 ++ y148) (List.replicate ((y148.length : Int) : Int).toNat false) 0 (wrap64 (1 + (wrap64 (Int.tmod (IntKind.u64.wrap (a0)) 4)))) (wrap64 (Int.tmod (IntKind.u64.wrap (a1)) 3))) else (none)) else (none)) else (none))) else (some false))) else (none)) else (some false)) = some r := H
      have A21 := mk0 A210
      clear A210
      by_cases c22 : t147 = 0
      ·rw [if_pos c22] at H
       have c22b0 : (t147 == 0) = true := beq_iff_eq.mpr c22
       have c22b1 : (t147 != 0) = false := bne_eq_false_iff_eq.mpr c22
       clear c22
       by_cases c23 : x11_1.length + t143.length < 8796093022208
       ·rw [if_pos c23] at H
        have LMc23 := mk0 c23
        clear c23
        obtain ⟨y148, hy148⟩ : ∃ y_ : List ByteArray, y_ = (x11_1 ++ t143) := ⟨_, rfl⟩
        replace H : (if (y148.length : Int) = (wrap64 ((wrap64 (1 + (wrap64 (Int.tmod (IntKind.u64.wrap (a0)) 4)))) + (wrap64 (Int.tmod (IntKind.u64.wrap (a1)) 3)))) then ((some (([] : List ByteArray) : List ByteArray)).bind fun y151 => (if y151.length + y148.length < 8796093022208 then (if 0 ≤ (y148.length : Int) then (if ((y148.length : Int) : Int).toNat ≤ 281474976710656 then (ossuarylaw8_RebuildAll.l1 k1 l3 y148 (y151 ++ y148) (List.replicate ((y148.length : Int) : Int).toNat false) 0 (wrap64 (1 + (wrap64 (Int.tmod (IntKind.u64.wrap (a0)) 4)))) (wrap64 (Int.tmod (IntKind.u64.wrap (a1)) 3))) else (none)) else (none)) else (none))) else (some false)) = some r := by first | (rw [hy148]; with_reducible exact H) | (have H2_ := (Option.bind_some _ _).symm.trans H; rw [hy148]; with_reducible exact H2_) | (have H2_ := (Option.bind_some _ _).symm.trans H; with_reducible exact H2_) | with_reducible exact H | (rw [hy148]; exact H) | exact H
        have Ny148 := mk0 hy148
        clear hy148
        by_cases c24 : (y148.length : Int) = (wrap64 ((wrap64 (1 + (wrap64 (Int.tmod (IntKind.u64.wrap (a0)) 4)))) + (wrap64 (Int.tmod (IntKind.u64.wrap (a1)) 3))))
        ·rw [if_pos c24] at H
         have c24b0 : ((y148.length : Int) == (wrap64 ((wrap64 (1 + (wrap64 (Int.tmod (IntKind.u64.wrap (a0)) 4)))) + (wrap64 (Int.tmod (IntKind.u64.wrap (a1)) 3))))) = true := beq_iff_eq.mpr c24
         have c24b1 : ((y148.length : Int) != (wrap64 ((wrap64 (1 + (wrap64 (Int.tmod (IntKind.u64.wrap (a0)) 4)))) + (wrap64 (Int.tmod (IntKind.u64.wrap (a1)) 3))))) = false := bne_eq_false_iff_eq.mpr c24
         clear c24
         obtain ⟨y151, hy151⟩ : ∃ y_ : List ByteArray, y_ = (([] : List ByteArray)) := ⟨_, rfl⟩
         replace H : (if y151.length + y148.length < 8796093022208 then (if 0 ≤ (y148.length : Int) then (if ((y148.length : Int) : Int).toNat ≤ 281474976710656 then (ossuarylaw8_RebuildAll.l1 k1 l3 y148 (y151 ++ y148) (List.replicate ((y148.length : Int) : Int).toNat false) 0 (wrap64 (1 + (wrap64 (Int.tmod (IntKind.u64.wrap (a0)) 4)))) (wrap64 (Int.tmod (IntKind.u64.wrap (a1)) 3))) else (none)) else (none)) else (none)) = some r := by first | (rw [hy151]; with_reducible exact H) | (have H2_ := (Option.bind_some _ _).symm.trans H; rw [hy151]; with_reducible exact H2_) | (have H2_ := (Option.bind_some _ _).symm.trans H; with_reducible exact H2_) | with_reducible exact H | (rw [hy151]; exact H) | exact H
         have Ny151 := mk0 hy151
         clear hy151
         by_cases c25 : y151.length + y148.length < 8796093022208
         ·rw [if_pos c25] at H
          have LMc25 := mk0 c25
          clear c25
          obtain ⟨y154, hy154⟩ : ∃ y_ : List ByteArray, y_ = (y151 ++ y148) := ⟨_, rfl⟩
          replace H : (if 0 ≤ (y148.length : Int) then (if ((y148.length : Int) : Int).toNat ≤ 281474976710656 then (ossuarylaw8_RebuildAll.l1 k1 l3 y148 y154 (List.replicate ((y148.length : Int) : Int).toNat false) 0 (wrap64 (1 + (wrap64 (Int.tmod (IntKind.u64.wrap (a0)) 4)))) (wrap64 (Int.tmod (IntKind.u64.wrap (a1)) 3))) else (none)) else (none)) = some r := by first | (rw [hy154]; with_reducible exact H) | (have H2_ := (Option.bind_some _ _).symm.trans H; rw [hy154]; with_reducible exact H2_) | (have H2_ := (Option.bind_some _ _).symm.trans H; with_reducible exact H2_) | with_reducible exact H | (rw [hy154]; exact H) | exact H
          have Ny154 := mk0 hy154
          clear hy154
          by_cases c26 : 0 ≤ (y148.length : Int)
          ·rw [if_pos c26] at H
           have c26b0 := eq_true c26
           have c26b1 : decide (0 ≤ (y148.length : Int)) = true := decide_eq_true c26
           clear c26
           by_cases c27 : ((y148.length : Int) : Int).toNat ≤ 281474976710656
           ·rw [if_pos c27] at H
            have c27b0 := eq_true c27
            have c27b1 : decide (((y148.length : Int) : Int).toNat ≤ 281474976710656) = true := decide_eq_true c27
            clear c27
            obtain ⟨y157, hy157⟩ : ∃ y_ : List Bool, y_ = (List.replicate ((y148.length : Int) : Int).toNat false) := ⟨_, rfl⟩
            replace H : (ossuarylaw8_RebuildAll.l1 k1 l3 y148 y154 y157 0 (wrap64 (1 + (wrap64 (Int.tmod (IntKind.u64.wrap (a0)) 4)))) (wrap64 (Int.tmod (IntKind.u64.wrap (a1)) 3))) = some r := by first | (rw [hy157]; with_reducible exact H) | (have H2_ := (Option.bind_some _ _).symm.trans H; rw [hy157]; with_reducible exact H2_) | (have H2_ := (Option.bind_some _ _).symm.trans H; with_reducible exact H2_) | with_reducible exact H | (rw [hy157]; exact H) | exact H
            have Ny157 := mk0 hy157
            clear hy157
            have H' := mk0 H
            clear H
            have hcz28_0 : wr.cell? ⟨gb139, 0, none⟩ = some (.int .i64 (wrap64 (1 + (wrap64 (Int.tmod (IntKind.u64.wrap (a0)) 4))))) := (blk_cell BK139.out 0).trans rfl
            have hcz28_1 : wr.cell? ⟨gb139, 1, none⟩ = some (.int .i64 (wrap64 (Int.tmod (IntKind.u64.wrap (a1)) 3))) := (blk_cell BK139.out 1).trans rfl
            have hfz28_0 := blk_frozen BK139.out 0
            have hfz28_1 := blk_frozen BK139.out 1
            obtain ⟨Ao29, co29, eo29⟩ := Kd.R_slice HO_11.out
            subst eo29
            go_wp2_with (first | ((with_reducible refine gCa (f := 48) rfl ?_); refine goesL_ (some 62) rfl rfl Try.func48 (by kernel_rfl) rfl #[.agg #[.int .i64 (wrap64 (1 + (wrap64 (Int.tmod (IntKind.u64.wrap (a0)) 4)))), .int .i64 (wrap64 (Int.tmod (IntKind.u64.wrap (a1)) 3))], .slice Ao29 x11_1.length co29] rfl (by (try simp only [List.map_toArray, List.map_cons, List.map_nil]); first | done | rfl | (simp only [List.length_drop, List.length_take]; rfl)) ?_; (with_reducible refine (GEnc.encode_Encode.calls k1 (wrap64 (1 + (wrap64 (Int.tmod (IntKind.u64.wrap (a0)) 4)))) (wrap64 (Int.tmod (IntKind.u64.wrap (a1)) 3)) _ _ x11_1 t143 t146 _ ?side1 ?side2 A20.out).mono ?_); (case side1 => repeat (first | exact (Kd.R_reads' HO_11.out).2.2 | (with_reducible refine Kd.C_alloc ?_ _) | (with_reducible refine Kd.C_drewN ?_ _) | (with_reducible refine Kd.C_drew ?_))); (case side2 => exact (Kd.R_reads' HO_11.out).2.1); rintro e w30 ⟨v144, rfl, ho0, hb⟩; refine ⟨_, rfl, ?_⟩; have n0_ := mk0 (Kd.R_elder' (by (with_reducible repeat (first | apply rA | apply rN | apply rD)); exact HO_11.out) (Kd.R_base ho0) hb); have n1_ := mk0 (Kd.R_lower (Kd.R_new' ho0 (Kd.R_lt (by (with_reducible repeat (first | apply rA | apply rN | apply rD)); exact HO_11.out))) (below_size (by repeat (first | (with_reducible first | exact HB.out | apply lA | apply lN | apply lD | refine lT ?_ ‹_›) | exact HB.out)))); have n2_ := mk0 (blk_below (g := gb139) (o := .cells #[.int .i64 (wrap64 (1 + (wrap64 (Int.tmod (IntKind.u64.wrap (a0)) 4)))), .int .i64 (wrap64 (Int.tmod (IntKind.u64.wrap (a1)) 3))] 51 (0, 0)) (by (with_reducible repeat (first | apply bN | apply bD | apply bA)); exact BK139.out) hb); have n3_ := mk0 (below_step (by repeat (first | (with_reducible first | exact HB.out | apply lA | apply lN | apply lD | refine lT ?_ ‹_›) | exact HB.out)) hb); clear HO_11; clear BK139; clear HB; have HO_11 := n0_; have HO145 := n1_; have BK139 := n2_; have HB := n3_; clear n0_ n1_ n2_ n3_; (try clear hb); (try clear hb2); (try clear hk); (try clear hi); (try clear ho0)) | ((with_reducible refine gCa (f := 35) rfl ?_); refine goesL_ (some 66) rfl rfl Try.func35 (by kernel_rfl) rfl #[.int .i64 t146] rfl (by (try simp only [List.map_toArray, List.map_cons, List.map_nil]); first | done | rfl | (simp only [List.length_drop, List.length_take]; rfl)) ?_; (with_reducible refine (GBase.ossuarylaw0_Num.calls t146 t147 _ A21.out).mono ?_); rintro e w' ⟨rfl, ⟨nd, rfl⟩⟩; refine ⟨_, rfl, ?_⟩; obtain ⟨Ao32, co32, eo32⟩ := Kd.R_slice HO145.out; subst eo32) | ((with_reducible refine gBu (b := .append) (xs := #[.tmp 68, .tmp 69]) rfl ?_); at_builtin; refine Kd.R_append_rows Kd.string (w0 := w) w.heap.size rfl (.tmp 68) (.tmp 69) 58 9 (.string ⟨#[]⟩) 16 rfl Try.underlying58 info9 rfl (by decide) (by omega) (.slice Ao29 x11_1.length co29) x11_1 t143 _ _ _ (fun k_ => some k_ ≠ (.slice Ao32 t143.length co32 : Value).ownBlock) (fun _ => False) rfl rfl ?aO ?aR (fun _ _ h => h) (fun _ h => h.elim) ?aF ?aB ?aS ?aL ?_; (case aR => repeat (first | exact (Kd.R_reads' HO145.out).2.2 | (with_reducible refine Kd.C_alloc ?_ _) | (with_reducible refine Kd.C_drewN ?_ _) | (with_reducible refine Kd.C_drew ?_))); (case aB => exact (by repeat (first | (with_reducible first | exact HB.out | apply lA | apply lN | apply lD | refine lT ?_ ‹_›) | exact HB.out))); (case aF => exact (fun k_ hk => Kd.fresh' (Kd.R_lt (by (with_reducible repeat (first | apply rA | apply rN | apply rD)); exact HO145.out)) k_ hk)); (case aO => exact (by (with_reducible repeat (first | apply rA | apply rN | apply rD)); exact Kd.R_mono HO_11.out (fun _ hk => hk.2))); (case aS => exact (below_size (by repeat (first | (with_reducible first | exact HB.out | apply lA | apply lN | apply lD | refine lT ?_ ‹_›) | exact HB.out)))); (case aL => have := LMc23.out; omega); intro v149 w31 ho hb hg hat; rw [← Ny148.out] at ho; have n0_ := mk0 (blk_grown (g := gb139) (o := .cells #[.int .i64 (wrap64 (1 + (wrap64 (Int.tmod (IntKind.u64.wrap (a0)) 4)))), .int .i64 (wrap64 (Int.tmod (IntKind.u64.wrap (a1)) 3))] 51 (0, 0)) (by (with_reducible repeat (first | apply bN | apply bD | apply bA)); exact BK139.out) hg (Kd.R_ne HO_11.out BK139.out (by decide))); have n1_ := mk0 (Kd.R_after (ok := (fun _ => True)) (by (with_reducible repeat (first | apply rA | apply rN | apply rD)); exact HO145.out) hg hat); have n2_ := mk0 (hb); have n3_ := mk0 (ho); clear BK139; clear HO145; clear HB; clear HO_11; have BK139 := n0_; have HO145 := n1_; have HB := n2_; have HO150 := n3_; clear n0_ n1_ n2_ n3_; clear ho hb hg hat; obtain ⟨Ao33, co33, eo33⟩ := Kd.R_slice HO150.out; subst eo33; have hcz34_0 : w31.cell? ⟨gb139, 0, none⟩ = some (.int .i64 (wrap64 (1 + (wrap64 (Int.tmod (IntKind.u64.wrap (a0)) 4))))) := (blk_cell BK139.out 0).trans rfl; have hcz34_1 : w31.cell? ⟨gb139, 1, none⟩ = some (.int .i64 (wrap64 (Int.tmod (IntKind.u64.wrap (a1)) 3))) := (blk_cell BK139.out 1).trans rfl; have hfz34_0 := blk_frozen BK139.out 0; have hfz34_1 := blk_frozen BK139.out 1) | ((with_reducible refine gate_dst (N := 79) rfl ?_); refine Kd.R_lit Kd.string _ 9 ?hg (N := 79) ?hd (xs := ([] : List ByteArray)) (inner := []) (ok := fun _ => True) (okp := fun _ => True) ?hr ?hp (fun _ hk => hk) trivial (Below.refl _ _) (Nat.le_refl _) (by simp) ?_; (case hd => rfl); (case hg => rfl); (case hr => first | (go_simp; done) | (go_simp; rfl)); (case hp => exact (Reps.none _ _)); intro v152 w35 ho36 hb hg_ hnew_; clear hg_ hnew_; (first | rw [← Ny151.out] at ho36 | (simp only [Int.reduceToNat] at ho36; rw [← Ny151.out] at ho36)); have n0_ := mk0 (Kd.R_elder' (by (with_reducible repeat (first | apply rA | apply rN | apply rD)); exact HO145.out) (Kd.R_base ho36) hb); have n1_ := mk0 (Kd.R_elder' (by (with_reducible repeat (first | apply rA | apply rN | apply rD)); exact HO150.out) (Kd.R_base ho36) hb); have n2_ := mk0 (Kd.R_lower (Kd.R_new' (Kd.R_new' ho36 (Kd.R_lt (by (with_reducible repeat (first | apply rA | apply rN | apply rD)); exact HO145.out))) (Kd.R_lt (by (with_reducible repeat (first | apply rA | apply rN | apply rD)); exact HO150.out))) (below_size (by repeat (first | (with_reducible first | exact HB.out | apply lA | apply lN | apply lD | refine lT ?_ ‹_›) | exact HB.out)))); have n3_ := mk0 (blk_below (g := gb139) (o := .cells #[.int .i64 (wrap64 (1 + (wrap64 (Int.tmod (IntKind.u64.wrap (a0)) 4)))), .int .i64 (wrap64 (Int.tmod (IntKind.u64.wrap (a1)) 3))] 51 (0, 0)) (by (with_reducible repeat (first | apply bN | apply bD | apply bA)); exact BK139.out) hb); have n4_ := mk0 (below_step (by repeat (first | (with_reducible first | exact HB.out | apply lA | apply lN | apply lD | refine lT ?_ ‹_›) | exact HB.out)) hb); clear HO145; clear HO150; clear BK139; clear HB; have HO145 := n0_; have HO150 := n1_; have HO153 := n2_; have BK139 := n3_; have HB := n4_; clear n0_ n1_ n2_ n3_ n4_; clear hb ho36) | ((with_reducible refine gBu (b := .append) (xs := #[.tmp 79, .tmp 80]) rfl ?_); at_builtin; refine Kd.R_append_rows Kd.string (w0 := w) w.heap.size rfl (.tmp 79) (.tmp 80) 58 9 (.string ⟨#[]⟩) 16 rfl Try.underlying58 info9 rfl (by decide) (by omega) v152 y151 y148 _ _ _ (fun k_ => some k_ ≠ (.slice Ao32 t143.length co32 : Value).ownBlock ∧ some k_ ≠ (.slice Ao33 y148.length co33 : Value).ownBlock) (fun _ => False) rfl rfl ?aO ?aR (fun _ _ h => h) (fun _ h => h.elim) ?aF ?aB ?aS ?aL ?_; (case aR => repeat (first | exact (Kd.R_reads' HO150.out).2.2 | (with_reducible refine Kd.C_alloc ?_ _) | (with_reducible refine Kd.C_drewN ?_ _) | (with_reducible refine Kd.C_drew ?_))); (case aB => exact (by repeat (first | (with_reducible first | exact HB.out | apply lA | apply lN | apply lD | refine lT ?_ ‹_›) | exact HB.out))); (case aF => exact (fun k_ hk => ⟨Kd.fresh' (Kd.R_lt (by (with_reducible repeat (first | apply rA | apply rN | apply rD)); exact HO145.out)) k_ hk, Kd.fresh' (Kd.R_lt (by (with_reducible repeat (first | apply rA | apply rN | apply rD)); exact HO150.out)) k_ hk⟩)); (case aO => exact (by (with_reducible repeat (first | apply rA | apply rN | apply rD)); exact Kd.R_mono HO153.out (fun _ hk => ⟨hk.1.2, hk.2⟩))); (case aS => exact (below_size (by repeat (first | (with_reducible first | exact HB.out | apply lA | apply lN | apply lD | refine lT ?_ ‹_›) | exact HB.out)))); (case aL => have := LMc25.out; omega); intro v155 w37 ho hb hg hat; rw [← Ny154.out] at ho; have n0_ := mk0 (blk_grown (g := gb139) (o := .cells #[.int .i64 (wrap64 (1 + (wrap64 (Int.tmod (IntKind.u64.wrap (a0)) 4)))), .int .i64 (wrap64 (Int.tmod (IntKind.u64.wrap (a1)) 3))] 51 (0, 0)) (by (with_reducible repeat (first | apply bN | apply bD | apply bA)); exact BK139.out) hg (Kd.R_ne HO153.out BK139.out (by decide))); have n1_ := mk0 (Kd.R_after (ok := (fun k_ => some k_ ≠ (.slice Ao33 y148.length co33 : Value).ownBlock)) (by (with_reducible repeat (first | apply rA | apply rN | apply rD)); exact Kd.R_mono HO145.out (fun _ hk => ⟨hk.1.2, hk.2⟩)) hg hat); have n2_ := mk0 (Kd.R_after (ok := (fun k_ => some k_ ≠ (.slice Ao32 t143.length co32 : Value).ownBlock)) (by (with_reducible repeat (first | apply rA | apply rN | apply rD)); exact HO150.out) hg hat); have n3_ := mk0 (hb); have n4_ := mk0 (ho); clear BK139; clear HO145; clear HO150; clear HB; clear HO153; have BK139 := n0_; have HO145 := n1_; have HO150 := n2_; have HB := n3_; have HO156 := n4_; clear n0_ n1_ n2_ n3_ n4_; clear ho hb hg hat) | ((with_reducible refine gate_dst (N := 84) rfl ?_); refine Kd.R_make Kd.bool _ 4 rfl (N := 84) rfl 68 _ _ rfl (y148.length : Int) rfl rfl Try.underlying68 (.bool false) 1 info4 rfl (by decide) (by omega) false (ok := fun _ => True) (okp := fun _ => True) rfl (fun _ hk => hk) trivial (of_decide_eq_true (by first | (with_reducible assumption) | assumption)) (Nat.le_trans (Nat.mul_le_mul_right _ (of_decide_eq_true (by first | (with_reducible assumption) | assumption) : (y148.length : Int).toNat ≤ 281474976710656)) (by omega)) (Below.refl _ _) (Nat.le_refl _) ?_; intro v158 w38 ho39 hb hg_ hnew_; clear hg_ hnew_; (first | rw [← Ny157.out] at ho39 | (simp only [Int.reduceToNat] at ho39; rw [← Ny157.out] at ho39)); have n0_ := mk0 (Kd.R_below (by (with_reducible repeat (first | apply rA | apply rN | apply rD)); exact HO145.out) hb); have n1_ := mk0 (Kd.R_below (by (with_reducible repeat (first | apply rA | apply rN | apply rD)); exact HO150.out) hb); have n2_ := mk0 (Kd.R_below (by (with_reducible repeat (first | apply rA | apply rN | apply rD)); exact HO156.out) hb); have n3_ := mk0 (Kd.R_lower ho39 (below_size (by repeat (first | (with_reducible first | exact HB.out | apply lA | apply lN | apply lD | refine lT ?_ ‹_›) | exact HB.out)))); have n4_ := mk0 (blk_below (g := gb139) (o := .cells #[.int .i64 (wrap64 (1 + (wrap64 (Int.tmod (IntKind.u64.wrap (a0)) 4)))), .int .i64 (wrap64 (Int.tmod (IntKind.u64.wrap (a1)) 3))] 51 (0, 0)) (by (with_reducible repeat (first | apply bN | apply bD | apply bA)); exact BK139.out) hb); have n5_ := mk0 (below_step (by repeat (first | (with_reducible first | exact HB.out | apply lA | apply lN | apply lD | refine lT ?_ ‹_›) | exact HB.out)) hb); clear HO145; clear HO150; clear HO156; clear BK139; clear HB; have HO145 := n0_; have HO150 := n1_; have HO156 := n2_; have HO159 := n3_; have BK139 := n4_; have HB := n5_; clear n0_ n1_ n2_ n3_ n4_ n5_; clear hb ho39))
            go_loopg [17] k1 (fun kq v17 w' => ∃ (x16_2 : List Bool) (x17_2 : Int), v17 = .int .i64 x17_2 ∧ Aside0 (ossuarylaw8_RebuildAll.l1 kq l3 y148 y154 x16_2 x17_2 (wrap64 (1 + (wrap64 (Int.tmod (IntKind.u64.wrap (a0)) 4)))) (wrap64 (Int.tmod (IntKind.u64.wrap (a1)) 3)) = some r) ∧ Aside0 (kq ≤ k1) ∧ Aside0 (Kd.R Kd.string 9 w' w.heap.size (fun k_ => some k_ ≠ (v155 : Value).ownBlock) (.slice Ao33 y148.length co33) y148) ∧ Aside0 (Kd.R Kd.string 9 w' w.heap.size (fun k_ => some k_ ≠ ((.slice Ao33 y148.length co33) : Value).ownBlock) v155 y154) ∧ Aside0 (Kd.R Kd.bool 4 w' w.heap.size (fun _ => True) v158 x16_2) ∧ Aside0 (w'.heap[gb139]? = some (.cells #[.int .i64 (wrap64 (1 + (wrap64 (Int.tmod (IntKind.u64.wrap (a0)) 4)))), .int .i64 (wrap64 (Int.tmod (IntKind.u64.wrap (a1)) 3))] 51 (0, 0))) ∧ Aside0 (Below w.heap.size w w'))
            case atStart => exact ⟨(y157), (0), (by first | rfl | (simp; done) | (simp [*]; done)), H', ⟨Nat.le_refl _⟩, ⟨by (with_reducible repeat (first | apply rA | apply rN | apply rD)); exact Kd.R_mono HO150.out (fun _ hk => hk.2)⟩, ⟨by (with_reducible repeat (first | apply rA | apply rN | apply rD)); exact Kd.R_mono HO156.out (fun _ hk => hk.2)⟩, ⟨by (with_reducible repeat (first | apply rA | apply rN | apply rD)); exact HO159.out⟩, ⟨by (with_reducible repeat (first | apply bN | apply bD | apply bA)); exact BK139.out⟩, ⟨by repeat (first | (with_reducible first | exact HB.out | apply lA | apply lN | apply lD | refine lT ?_ ‹_›) | exact HB.out)⟩⟩
            case round =>
             clear H'
             try clear c1
             try clear c2
             try clear p2
             try clear c3
             try clear c4
             try clear c6
             try clear p6
             try clear c7
             try clear c7b0
             try clear c7b1
             try clear c12
             try clear c12b0
             try clear c14
             try clear c14b0
             try clear c14b1
             try clear c15
             try clear c15b0
             try clear c15b1
             try clear c16
             try clear c16b0
             try clear c16b1
             try clear c17
             try clear c22
             try clear c22b0
             try clear c22b1
             try clear c23
             try clear c24
             try clear c24b0
             try clear c24b1
             try clear c25
             try clear c26
             try clear c26b0
             try clear c26b1
             try clear c27
             try clear c27b0
             try clear c27b1
             try clear c35
             try clear hcz11_0
             try clear hcz11_1
             try clear hcz18_0
             try clear hcz18_1
             try clear hcz28_0
             try clear hcz28_1
             try clear hcz34_0
             try clear hcz34_1
             try clear hfz11_0
             try clear hfz11_1
             try clear hfz18_0
             try clear hfz18_1
             try clear hfz28_0
             try clear hfz28_1
             try clear hfz34_0
             try clear hfz34_1
             try clear p2
             try clear p6
             obtain ⟨x16_2, x17_2, rfl, HA, HK2, HO_11, HO_15, HO_16, BK139, HB⟩ := hrel
             cases gk with
             | zero => exact absurd HA.out (by simp [ossuarylaw8_RebuildAll.l1])
             | succ k2 =>
              have H := HA.out
              clear HA
              simp only [ossuarylaw8_RebuildAll.l1] at H
              by_cases c40 : x17_2 < (y148.length : Int)
              ·rw [if_pos c40] at H
               have c40b0 : decide (x17_2 < (y148.length : Int)) = true := decide_eq_true c40
               clear c40
               by_cases c41 : 0 ≤ x17_2
               ·rw [if_pos c41] at H
                have c41b0 : decide (0 ≤ x17_2) = true := decide_eq_true c41
                clear c41
                by_cases c42 : x17_2 < (x16_2.length : Int)
                ·rw [if_pos c42] at H
                 have c42b0 : decide (x17_2 < (x16_2.length : Int)) = true := decide_eq_true c42
                 clear c42
                 obtain ⟨y160, hy160⟩ : ∃ y_ : List Bool, y_ = (x16_2.set (x17_2 : Int).toNat true) := ⟨_, rfl⟩
                 replace H : (ossuarylaw8_RebuildAll.l1 k2 l3 y148 y154 y160 (wrap64 (x17_2 + 1)) (wrap64 (1 + (wrap64 (Int.tmod (IntKind.u64.wrap (a0)) 4)))) (wrap64 (Int.tmod (IntKind.u64.wrap (a1)) 3))) = some r := by first | (rw [hy160]; with_reducible exact H) | (have H2_ := (Option.bind_some _ _).symm.trans H; rw [hy160]; with_reducible exact H2_) | (have H2_ := (Option.bind_some _ _).symm.trans H; with_reducible exact H2_) | with_reducible exact H | (rw [hy160]; exact H) | exact H
                 have Ny160 := mk0 hy160
                 clear hy160
                 have H' := mk0 H
                 clear H
                 have p43 : 0 ≤ (x17_2 : Int) := of_decide_eq_true (by first | (with_reducible assumption) | assumption)
                 have q43 : (x17_2 : Int) < ((x16_2.length : Int) : Int) := of_decide_eq_true (by first | (with_reducible assumption) | assumption)
                 obtain ⟨go43, co43, eo43, gb43, gl43, cl43, HG43⟩ := Kd.R_form HO_16.out (by omega)
                 (first | cases eo43 | (injection eo43 with ea_ en_ ec_; (first | subst ea_ | (injection ea_ with ea_; subst ea_)); subst ec_; clear en_))
                 have GB43 := mk0 gb43
                 have GG43 := mk0 HG43
                 clear gb43 gl43 HG43
                 obtain ⟨hx43_0, hf43_0⟩ := Kd.R_celln false HO_16.out (x17_2 : Int) p43 q43
                 replace p43 := eq_true p43
                 replace q43 := eq_true q43
                 have HP44 := Kd.R_putg HO_16.out (x17_2 : Int) true
                 go_wp2_with (first | ((with_reducible refine gate_store (t := 4) (p := 93) rfl ?_); refine store_event (t := 4) (p := 93) (v := ?vo_w45) (w1 := (wr.setCell ⟨go43, (x17_2 : Int).toNat, none⟩ (.bool true))) ?hg ?ho ?hn ?hr ?_; (case ho => rfl); (case hg => rfl); (case hn => rfl); (case hr => first | (go_simp; done) | (go_simp; rfl)); intro w45 hw; have hg : wr.grownBy w45 (some go43) := (by rw [hw]; exact HP44.2); have hp_ : Kd.R Kd.bool 4 w45 w.heap.size (fun _ => True) (.slice (some ⟨go43, 0, none⟩) x16_2.length co43) y160 := (by rw [hw, Ny160.out]; exact HP44.1); clear HP44; have n0_ := mk0 (Kd.R_over' (v := (.slice (some ⟨go43, 0, none⟩) x16_2.length co43)) (by (with_reducible repeat (first | apply rA | apply rN | apply rD)); exact HO_11.out) (Kd.R_typed HO_16.out) (by decide) hg); have n1_ := mk0 (Kd.R_over' (v := (.slice (some ⟨go43, 0, none⟩) x16_2.length co43)) (by (with_reducible repeat (first | apply rA | apply rN | apply rD)); exact HO_15.out) (Kd.R_typed HO_16.out) (by decide) hg); have n2_ := mk0 (hp_); have n3_ := mk0 (blk_grown (g := gb139) (o := .cells #[.int .i64 (wrap64 (1 + (wrap64 (Int.tmod (IntKind.u64.wrap (a0)) 4)))), .int .i64 (wrap64 (Int.tmod (IntKind.u64.wrap (a1)) 3))] 51 (0, 0)) (by (with_reducible repeat (first | apply bN | apply bD | apply bA)); exact BK139.out) hg (Kd.R_ne HO_16.out BK139.out (by decide))); have n4_ := mk0 ((by rw [hw]; exact below_set (HB.out) GB43.out : Below w.heap.size w w45)); clear HO_11; clear HO_15; clear HO_16; clear BK139; clear HB; have HO_11 := n0_; have HO_15 := n1_; have HO_16 := n2_; have BK139 := n3_; have HB := n4_; clear n0_ n1_ n2_ n3_ n4_; clear hg hw hp_))
                 go_roundg k2
                 case measure => have := HK1.out; have := HK2.out; omega
                 case rel => exact ⟨(y160), (wrap64 (x17_2 + 1)), (by first | rfl | (simp; done) | (simp [*]; done)), H', ⟨by have := HK1.out; have := HK2.out; omega⟩, ⟨by (with_reducible repeat (first | apply rA | apply rN | apply rD)); exact HO_11.out⟩, ⟨by (with_reducible repeat (first | apply rA | apply rN | apply rD)); exact HO_15.out⟩, ⟨by (with_reducible repeat (first | apply rA | apply rN | apply rD)); exact HO_16.out⟩, ⟨by (with_reducible repeat (first | apply bN | apply bD | apply bA)); exact BK139.out⟩, ⟨by repeat (first | (with_reducible first | exact HB.out | apply lA | apply lN | apply lD | refine lT ?_ ‹_›) | exact HB.out)⟩⟩
                ·rw [if_neg c42] at H
                 exact absurd H (by simp)
               ·rw [if_neg c41] at H
                exact absurd H (by simp)
              ·rw [if_neg c40] at H
               have c40b0 : decide (x17_2 < (y148.length : Int)) = false := decide_eq_false c40
               clear c40
               have H' := mk0 H
               clear H
               go_wp2
               go_loopg [18] k2 (fun kq v18 w' => ∃ (x15_3 : List ByteArray) (x16_3 : List Bool) (x18_3 : Int), v18 = .int .i64 x18_3 ∧ Aside0 (ossuarylaw8_RebuildAll.l2 kq l3 y148 x15_3 x16_3 x18_3 (wrap64 (1 + (wrap64 (Int.tmod (IntKind.u64.wrap (a0)) 4)))) (wrap64 (Int.tmod (IntKind.u64.wrap (a1)) 3)) = some r) ∧ Aside0 (kq ≤ k2) ∧ Aside0 (Kd.R Kd.string 9 w' w.heap.size (fun k_ => some k_ ≠ (v155 : Value).ownBlock) (.slice Ao33 y148.length co33) y148) ∧ Aside0 (Kd.R Kd.string 9 w' w.heap.size (fun k_ => some k_ ≠ ((.slice Ao33 y148.length co33) : Value).ownBlock) v155 x15_3) ∧ Aside0 (Kd.R Kd.bool 4 w' w.heap.size (fun _ => True) v158 x16_3) ∧ Aside0 (w'.heap[gb139]? = some (.cells #[.int .i64 (wrap64 (1 + (wrap64 (Int.tmod (IntKind.u64.wrap (a0)) 4)))), .int .i64 (wrap64 (Int.tmod (IntKind.u64.wrap (a1)) 3))] 51 (0, 0))) ∧ Aside0 (Below w.heap.size w w'))
               case atStart => exact ⟨(y154), (x16_2), (0), (by first | rfl | (simp; done) | (simp [*]; done)), H', ⟨Nat.le_refl _⟩, ⟨by (with_reducible repeat (first | apply rA | apply rN | apply rD)); exact HO_11.out⟩, ⟨by (with_reducible repeat (first | apply rA | apply rN | apply rD)); exact HO_15.out⟩, ⟨by (with_reducible repeat (first | apply rA | apply rN | apply rD)); exact HO_16.out⟩, ⟨by (with_reducible repeat (first | apply bN | apply bD | apply bA)); exact BK139.out⟩, ⟨by repeat (first | (with_reducible first | exact HB.out | apply lA | apply lN | apply lD | refine lT ?_ ‹_›) | exact HB.out)⟩⟩
               case round =>
                clear H'
                try clear c1
                try clear c2
                try clear p2
                try clear c3
                try clear c4
                try clear p4
                try clear q4
                try clear hx4
                try clear hf4
                try clear c6
                try clear p6
                try clear c7
                try clear c7b0
                try clear c7b1
                try clear c12
                try clear c12b0
                try clear c14
                try clear c14b0
                try clear c14b1
                try clear c15
                try clear c15b0
                try clear c15b1
                try clear c16
                try clear c16b0
                try clear c16b1
                try clear c17
                try clear c22
                try clear c22b0
                try clear c22b1
                try clear c23
                try clear c24
                try clear c24b0
                try clear c24b1
                try clear c25
                try clear c26
                try clear c26b0
                try clear c26b1
                try clear c27
                try clear c27b0
                try clear c27b1
                try clear c35
                try clear c40
                try clear c40b0
                try clear c41
                try clear c41b0
                try clear c42
                try clear c42b0
                try clear p43
                try clear q43
                try clear hx43
                try clear hf43
                try clear hcz11_0
                try clear hcz11_1
                try clear hcz18_0
                try clear hcz18_1
                try clear hcz28_0
                try clear hcz28_1
                try clear hcz34_0
                try clear hcz34_1
                try clear hfz11_0
                try clear hfz11_1
                try clear hfz18_0
                try clear hfz18_1
                try clear hfz28_0
                try clear hfz28_1
                try clear hfz34_0
                try clear hfz34_1
                try clear hx43_0
                try clear p2
                try clear p43
                try clear p6
                try clear q43
                obtain ⟨x15_3, x16_3, x18_3, rfl, HA, HK3, HO_11, HO_15, HO_16, BK139, HB⟩ := hrel
                cases gk with
                | zero => exact absurd HA.out (by simp [ossuarylaw8_RebuildAll.l2])
                | succ k3 =>
                 have H := HA.out
                 clear HA
                 simp only [ossuarylaw8_RebuildAll.l2] at H
                 by_cases c46 : x18_3 < (l3.length : Int)
                 ·rw [if_pos c46] at H
                  have c46b0 : decide (x18_3 < (l3.length : Int)) = true := decide_eq_true c46
                  clear c46
                  by_cases c47 : x18_3 < (wrap64 (Int.tmod (IntKind.u64.wrap (a1)) 3))
                  ·rw [if_pos c47] at H
                   have c47b0 : decide (x18_3 < (wrap64 (Int.tmod (IntKind.u64.wrap (a1)) 3))) = true := decide_eq_true c47
                   clear c47
                   by_cases c48 : 0 ≤ x18_3
                   ·rw [if_pos c48] at H
                    have c48b0 : decide (0 ≤ x18_3) = true := decide_eq_true c48
                    clear c48
                    by_cases c49 : (IntKind.u64.wrap ((y148.length : Int))) = 0
                    ·rw [if_pos c49] at H
                     exact absurd H (by simp)
                    ·rw [if_neg c49] at H
                     have c49b0 : ((IntKind.u64.wrap ((y148.length : Int))) == 0) = false := beq_eq_false_iff_ne.mpr c49
                     have c49b1 : ((IntKind.u64.wrap ((y148.length : Int))) != 0) = true := bne_iff_ne.mpr c49
                     obtain ⟨ji50, hji50⟩ : ∃ j_ : Int, (wrap64 (Int.tmod (IntKind.u64.wrap (rd l3 x18_3)) (IntKind.u64.wrap ((y148.length : Int))))) = j_ := ⟨_, rfl⟩
                     replace H : (if 0 ≤ (ji50) then (if (ji50) < (x16_3.length : Int) then (if (ji50) < (x15_3.length : Int) then (ossuarylaw8_RebuildAll.l2 k3 l3 y148 (x15_3.set ((ji50) : Int).toNat (⟨#[103, 111, 110, 101]⟩ : ByteArray)) (x16_3.set ((ji50) : Int).toNat false) (wrap64 (x18_3 + 1)) (wrap64 (1 + (wrap64 (Int.tmod (IntKind.u64.wrap (a0)) 4)))) (wrap64 (Int.tmod (IntKind.u64.wrap (a1)) 3))) else (none)) else (none)) else (none)) = some r := by first | (rw [hji50] at H; exact H) | (simp only [hji50] at H ⊢; exact H)
                     have hji50w : (IntKind.i64.wrap (Int.tmod (IntKind.u64.wrap (rd l3 x18_3)) (IntKind.u64.wrap ((y148.length : Int))))) = ji50 := (i64_w _).trans hji50
                     by_cases c51 : 0 ≤ (ji50)
                     ·rw [if_pos c51] at H
                      have c51b0 : decide (0 ≤ (ji50)) = true := decide_eq_true c51
                      clear c51
                      by_cases c52 : (ji50) < (x16_3.length : Int)
                      ·rw [if_pos c52] at H
                       have c52b0 : decide ((ji50) < (x16_3.length : Int)) = true := decide_eq_true c52
                       clear c52
                       obtain ⟨y162, hy162⟩ : ∃ y_ : List Bool, y_ = (x16_3.set ((ji50) : Int).toNat false) := ⟨_, rfl⟩
                       replace H : (if (ji50) < (x15_3.length : Int) then (ossuarylaw8_RebuildAll.l2 k3 l3 y148 (x15_3.set ((ji50) : Int).toNat (⟨#[103, 111, 110, 101]⟩ : ByteArray)) y162 (wrap64 (x18_3 + 1)) (wrap64 (1 + (wrap64 (Int.tmod (IntKind.u64.wrap (a0)) 4)))) (wrap64 (Int.tmod (IntKind.u64.wrap (a1)) 3))) else (none)) = some r := by first | (rw [hy162]; with_reducible exact H) | (have H2_ := (Option.bind_some _ _).symm.trans H; rw [hy162]; with_reducible exact H2_) | (have H2_ := (Option.bind_some _ _).symm.trans H; with_reducible exact H2_) | with_reducible exact H | (rw [hy162]; exact H) | exact H
                       have Ny162 := mk0 hy162
                       clear hy162
                       by_cases c54 : (ji50) < (x15_3.length : Int)
                       ·rw [if_pos c54] at H
                        have c54b0 : decide ((ji50) < (x15_3.length : Int)) = true := decide_eq_true c54
                        clear c54
                        obtain ⟨y163, hy163⟩ : ∃ y_ : List ByteArray, y_ = (x15_3.set ((ji50) : Int).toNat (⟨#[103, 111, 110, 101]⟩ : ByteArray)) := ⟨_, rfl⟩
                        replace H : (ossuarylaw8_RebuildAll.l2 k3 l3 y148 y163 y162 (wrap64 (x18_3 + 1)) (wrap64 (1 + (wrap64 (Int.tmod (IntKind.u64.wrap (a0)) 4)))) (wrap64 (Int.tmod (IntKind.u64.wrap (a1)) 3))) = some r := by first | (rw [hy163]; with_reducible exact H) | (have H2_ := (Option.bind_some _ _).symm.trans H; rw [hy163]; with_reducible exact H2_) | (have H2_ := (Option.bind_some _ _).symm.trans H; with_reducible exact H2_) | with_reducible exact H | (rw [hy163]; exact H) | exact H
                        have Ny163 := mk0 hy163
                        clear hy163
                        have H' := mk0 H
                        clear H
                        have hcz56_0 : wr.cell? ⟨gb139, 0, none⟩ = some (.int .i64 (wrap64 (1 + (wrap64 (Int.tmod (IntKind.u64.wrap (a0)) 4))))) := (blk_cell BK139.out 0).trans rfl
                        have hcz56_1 : wr.cell? ⟨gb139, 1, none⟩ = some (.int .i64 (wrap64 (Int.tmod (IntKind.u64.wrap (a1)) 3))) := (blk_cell BK139.out 1).trans rfl
                        have hfz56_0 := blk_frozen BK139.out 0
                        have hfz56_1 := blk_frozen BK139.out 1
                        have p161 : 0 ≤ (x18_3 : Int) := of_decide_eq_true (by first | (with_reducible assumption) | assumption)
                        have q161 : x18_3 < (l3.length : Int) := of_decide_eq_true (by first | (with_reducible assumption) | assumption)
                        obtain ⟨ad161, e161, hx161_0⟩ := Kd.at_int HR3.out x18_3 p161 q161
                        cases e161
                        replace hx161_0 := (HB.out.cell (World.block_lt_of_cell? w _ hx161_0)).trans hx161_0
                        replace p161 := eq_true p161
                        replace q161 := eq_true q161
                        have p53 : 0 ≤ ((ji50) : Int) := of_decide_eq_true (by first | (with_reducible assumption) | assumption)
                        have q53 : ((ji50) : Int) < ((x16_3.length : Int) : Int) := of_decide_eq_true (by first | (with_reducible assumption) | assumption)
                        obtain ⟨go53, co53, eo53, gb53, gl53, cl53, HG53⟩ := Kd.R_form HO_16.out (by omega)
                        (first | cases eo53 | (injection eo53 with ea_ en_ ec_; (first | subst ea_ | (injection ea_ with ea_; subst ea_)); subst ec_; clear en_))
                        have GB53 := mk0 gb53
                        have GG53 := mk0 HG53
                        clear gb53 gl53 HG53
                        obtain ⟨hx53_0, hf53_0⟩ := Kd.R_celln false HO_16.out ((ji50) : Int) p53 q53
                        replace p53 := eq_true p53
                        replace q53 := eq_true q53
                        have HP57 := Kd.R_putg HO_16.out ((ji50) : Int) false
                        go_wp2_with (first | ((with_reducible refine gate_store (t := 4) (p := 118) rfl ?_); refine store_event (t := 4) (p := 118) (v := ?vo_w58) (w1 := (wr.setCell ⟨go53, ((ji50) : Int).toNat, none⟩ (.bool false))) ?hg ?ho ?hn ?hr ?_; (case ho => rfl); (case hg => rfl); (case hn => rfl); (case hr => first | (go_simp; done) | (go_simp; rfl)); intro w58 hw; have hg : wr.grownBy w58 (some go53) := (by rw [hw]; exact HP57.2); have hp_ : Kd.R Kd.bool 4 w58 w.heap.size (fun _ => True) (.slice (some ⟨go53, 0, none⟩) x16_3.length co53) y162 := (by rw [hw, Ny162.out]; exact HP57.1); clear HP57; have n0_ := mk0 (Kd.R_over' (v := (.slice (some ⟨go53, 0, none⟩) x16_3.length co53)) (by (with_reducible repeat (first | apply rA | apply rN | apply rD)); exact HO_11.out) (Kd.R_typed HO_16.out) (by decide) hg); have n1_ := mk0 (Kd.R_over' (v := (.slice (some ⟨go53, 0, none⟩) x16_3.length co53)) (by (with_reducible repeat (first | apply rA | apply rN | apply rD)); exact HO_15.out) (Kd.R_typed HO_16.out) (by decide) hg); have n2_ := mk0 (hp_); have n3_ := mk0 (blk_grown (g := gb139) (o := .cells #[.int .i64 (wrap64 (1 + (wrap64 (Int.tmod (IntKind.u64.wrap (a0)) 4)))), .int .i64 (wrap64 (Int.tmod (IntKind.u64.wrap (a1)) 3))] 51 (0, 0)) (by (with_reducible repeat (first | apply bN | apply bD | apply bA)); exact BK139.out) hg (Kd.R_ne HO_16.out BK139.out (by decide))); have n4_ := mk0 ((by rw [hw]; exact below_set (HB.out) GB53.out : Below w.heap.size w w58)); clear HO_11; clear HO_15; clear HO_16; clear BK139; clear HB; have HO_11 := n0_; have HO_15 := n1_; have HO_16 := n2_; have BK139 := n3_; have HB := n4_; clear n0_ n1_ n2_ n3_ n4_; clear hg hw hp_; have p55 : 0 ≤ ((ji50) : Int) := of_decide_eq_true (by first | (with_reducible assumption) | assumption); have q55 : ((ji50) : Int) < ((x15_3.length : Int) : Int) := of_decide_eq_true (by first | (with_reducible assumption) | assumption); obtain ⟨go55, co55, eo55, gb55, gl55, cl55, HG55⟩ := Kd.R_form HO_15.out (by omega); (first | cases eo55 | (injection eo55 with ea_ en_ ec_; (first | subst ea_ | (injection ea_ with ea_; subst ea_)); subst ec_; clear en_)); have GB55 := mk0 gb55; have GG55 := mk0 HG55; clear gb55 gl55 HG55; obtain ⟨hx55_0, hf55_0⟩ := Kd.R_celln (⟨#[]⟩ : ByteArray) HO_15.out ((ji50) : Int) p55 q55; replace p55 := eq_true p55; replace q55 := eq_true q55; obtain ⟨hy59_, hz59_⟩ := Kd.R_celln (⟨#[]⟩ : ByteArray) HO_15.out ((ji50) : Int) (of_decide_eq_true (by first | (with_reducible assumption) | assumption)) (of_decide_eq_true (by first | (with_reducible assumption) | assumption)); have HP59 := Kd.R_putg HO_15.out ((ji50) : Int) (⟨#[103, 111, 110, 101]⟩ : ByteArray)) | ((with_reducible refine gate_store (t := 9) (p := 121) rfl ?_); refine store_event (t := 9) (p := 121) (v := ?vo_w60) (w1 := (w58.setCell ⟨go55, ((ji50) : Int).toNat, none⟩ (.string (⟨#[103, 111, 110, 101]⟩ : ByteArray)))) ?hg ?ho ?hn ?hr ?_; (case ho => rfl); (case hg => rfl); (case hn => rfl); (case hr => first | (go_simp; done) | (go_simp; rfl)); intro w60 hw; have hg : w58.grownBy w60 (some go55) := (by rw [hw]; exact HP59.2); have hp_ : Kd.R Kd.string 9 w60 w.heap.size (fun k_ => some k_ ≠ (.slice Ao33 y148.length co33 : Value).ownBlock) (.slice (some ⟨go55, 0, none⟩) x15_3.length co55) y163 := (by rw [hw, Ny163.out]; exact HP59.1); clear HP59; have n0_ := mk0 (Kd.R_after (v := (.slice (some ⟨go55, 0, none⟩) x15_3.length co55)) (v1 := (.slice (some ⟨go55, 0, none⟩) x15_3.length co55)) (ok := (fun _ => True)) (by (with_reducible repeat (first | apply rA | apply rN | apply rD)); exact Kd.R_mono HO_11.out (fun _ hk => ⟨trivial, hk⟩)) hg (.inl rfl)); have n1_ := mk0 (hp_); have n2_ := mk0 (Kd.R_over' (v := (.slice (some ⟨go55, 0, none⟩) x15_3.length co55)) (by (with_reducible repeat (first | apply rA | apply rN | apply rD)); exact HO_16.out) (Kd.R_typed HO_15.out) (by decide) hg); have n3_ := mk0 (blk_grown (g := gb139) (o := .cells #[.int .i64 (wrap64 (1 + (wrap64 (Int.tmod (IntKind.u64.wrap (a0)) 4)))), .int .i64 (wrap64 (Int.tmod (IntKind.u64.wrap (a1)) 3))] 51 (0, 0)) (by (with_reducible repeat (first | apply bN | apply bD | apply bA)); exact BK139.out) hg (Kd.R_ne HO_15.out BK139.out (by decide))); have n4_ := mk0 ((by rw [hw]; exact below_set (HB.out) GB55.out : Below w.heap.size w w60)); clear HO_11; clear HO_15; clear HO_16; clear BK139; clear HB; have HO_11 := n0_; have HO_15 := n1_; have HO_16 := n2_; have BK139 := n3_; have HB := n4_; clear n0_ n1_ n2_ n3_ n4_; clear hg hw hp_))
                        go_roundg k3
                        case measure => have := HK1.out; have := HK2.out; have := HK3.out; omega
                        case rel => exact ⟨(y163), (y162), (wrap64 (x18_3 + 1)), (by first | rfl | (simp; done) | (simp [*]; done)), H', ⟨by have := HK1.out; have := HK2.out; have := HK3.out; omega⟩, ⟨by (with_reducible repeat (first | apply rA | apply rN | apply rD)); exact Kd.R_mono HO_11.out (fun _ hk => hk.2)⟩, ⟨by (with_reducible repeat (first | apply rA | apply rN | apply rD)); exact HO_15.out⟩, ⟨by (with_reducible repeat (first | apply rA | apply rN | apply rD)); exact HO_16.out⟩, ⟨by (with_reducible repeat (first | apply bN | apply bD | apply bA)); exact BK139.out⟩, ⟨by repeat (first | (with_reducible first | exact HB.out | apply lA | apply lN | apply lD | refine lT ?_ ‹_›) | exact HB.out)⟩⟩
                       ·rw [if_neg c54] at H
                        exact absurd H (by simp)
                      ·rw [if_neg c52] at H
                       exact absurd H (by simp)
                     ·rw [if_neg c51] at H
                      exact absurd H (by simp)
                   ·rw [if_neg c48] at H
                    exact absurd H (by simp)
                  ·rw [if_neg c47] at H
                   have c47b0 : decide (x18_3 < (wrap64 (Int.tmod (IntKind.u64.wrap (a1)) 3))) = false := decide_eq_false c47
                   clear c47
                   replace H := Option.bind_eq_some_iff.mp H
                   obtain ⟨⟨t164, t167⟩, A610, H⟩ := H
                   replace H : ((GBase.ossuarylaw0_Num.f t167).bind fun t168 => (if t168 = 0 then ((GVec.ossuarylaw0_SameTexts.f k3 t164 y148).bind fun t169 => (some t169)) else (some false))) = some r := H
                   have A61 := mk0 A610
                   clear A610
                   replace H := Option.bind_eq_some_iff.mp H
                   obtain ⟨t168, A620, H⟩ := H
                   replace H : (if t168 = 0 then ((GVec.ossuarylaw0_SameTexts.f k3 t164 y148).bind fun t169 => (some t169)) else (some false)) = some r := H
                   have A62 := mk0 A620
                   clear A620
                   by_cases c63 : t168 = 0
                   ·rw [if_pos c63] at H
                    have c63b0 : (t168 == 0) = true := beq_iff_eq.mpr c63
                    have c63b1 : (t168 != 0) = false := bne_eq_false_iff_eq.mpr c63
                    clear c63
                    replace H := Option.bind_eq_some_iff.mp H
                    obtain ⟨t169, A640, H⟩ := H
                    replace H : (some t169) = some r := H
                    have A64 := mk0 A640
                    clear A640
                    obtain rfl := Option.some.inj H
                    have hcz65_0 : wr.cell? ⟨gb139, 0, none⟩ = some (.int .i64 (wrap64 (1 + (wrap64 (Int.tmod (IntKind.u64.wrap (a0)) 4))))) := (blk_cell BK139.out 0).trans rfl
                    have hcz65_1 : wr.cell? ⟨gb139, 1, none⟩ = some (.int .i64 (wrap64 (Int.tmod (IntKind.u64.wrap (a1)) 3))) := (blk_cell BK139.out 1).trans rfl
                    have hfz65_0 := blk_frozen BK139.out 0
                    have hfz65_1 := blk_frozen BK139.out 1
                    obtain ⟨Ao66, co66, eo66⟩ := Kd.R_slice HO_15.out
                    subst eo66
                    obtain ⟨Ao67, co67, eo67⟩ := Kd.R_slice HO_16.out
                    subst eo67
                    go_wp2_with (first | ((with_reducible refine gCa (f := 59) rfl ?_); refine goesL_ (some 126) rfl rfl Try.func59 (by kernel_rfl) rfl #[.agg #[.int .i64 (wrap64 (1 + (wrap64 (Int.tmod (IntKind.u64.wrap (a0)) 4)))), .int .i64 (wrap64 (Int.tmod (IntKind.u64.wrap (a1)) 3))], .slice Ao66 x15_3.length co66, .slice Ao67 x16_3.length co67] rfl (by (try simp only [List.map_toArray, List.map_cons, List.map_nil]); first | done | rfl | (simp only [List.length_drop, List.length_take]; rfl)) ?_; (with_reducible refine (GEnc.rebuild_Rebuild.calls k3 (wrap64 (1 + (wrap64 (Int.tmod (IntKind.u64.wrap (a0)) 4)))) (wrap64 (Int.tmod (IntKind.u64.wrap (a1)) 3)) _ _ x15_3 _ _ x16_3 t164 t167 _ ?side1 ?side2 ?side3 ?side4 A61.out).mono ?_); (case side1 => repeat (first | exact (Kd.R_reads' HO_15.out).2.2 | (with_reducible refine Kd.C_alloc ?_ _) | (with_reducible refine Kd.C_drewN ?_ _) | (with_reducible refine Kd.C_drew ?_))); (case side2 => exact (Kd.R_reads' HO_15.out).2.1); (case side3 => repeat (first | exact (Kd.R_reads' HO_16.out).2.2 | (with_reducible refine Kd.C_alloc ?_ _) | (with_reducible refine Kd.C_drewN ?_ _) | (with_reducible refine Kd.C_drew ?_))); (case side4 => exact (Kd.R_reads' HO_16.out).2.1); rintro e w68 ⟨v165, rfl, ho0, hb⟩; refine ⟨_, rfl, ?_⟩; have n0_ := mk0 (Kd.R_elder' (by (with_reducible repeat (first | apply rA | apply rN | apply rD)); exact HO_11.out) (Kd.R_base ho0) hb); have n1_ := mk0 (Kd.R_elder' (by (with_reducible repeat (first | apply rA | apply rN | apply rD)); exact HO_15.out) (Kd.R_base ho0) hb); have n2_ := mk0 (Kd.R_below (by (with_reducible repeat (first | apply rA | apply rN | apply rD)); exact HO_16.out) hb); have n3_ := mk0 (Kd.R_lower (Kd.R_new' (Kd.R_new' ho0 (Kd.R_lt (by (with_reducible repeat (first | apply rA | apply rN | apply rD)); exact HO_11.out))) (Kd.R_lt (by (with_reducible repeat (first | apply rA | apply rN | apply rD)); exact HO_15.out))) (below_size (by repeat (first | (with_reducible first | exact HB.out | apply lA | apply lN | apply lD | refine lT ?_ ‹_›) | exact HB.out)))); have n4_ := mk0 (blk_below (g := gb139) (o := .cells #[.int .i64 (wrap64 (1 + (wrap64 (Int.tmod (IntKind.u64.wrap (a0)) 4)))), .int .i64 (wrap64 (Int.tmod (IntKind.u64.wrap (a1)) 3))] 51 (0, 0)) (by (with_reducible repeat (first | apply bN | apply bD | apply bA)); exact BK139.out) hb); have n5_ := mk0 (below_step (by repeat (first | (with_reducible first | exact HB.out | apply lA | apply lN | apply lD | refine lT ?_ ‹_›) | exact HB.out)) hb); clear HO_11; clear HO_15; clear HO_16; clear BK139; clear HB; have HO_11 := n0_; have HO_15 := n1_; have HO_16 := n2_; have HO166 := n3_; have BK139 := n4_; have HB := n5_; clear n0_ n1_ n2_ n3_ n4_ n5_; (try clear hb); (try clear hb2); (try clear hk); (try clear hi); (try clear ho0)) | ((with_reducible refine gCa (f := 35) rfl ?_); refine goesL_ (some 130) rfl rfl Try.func35 (by kernel_rfl) rfl #[.int .i64 t167] rfl (by (try simp only [List.map_toArray, List.map_cons, List.map_nil]); first | done | rfl | (simp only [List.length_drop, List.length_take]; rfl)) ?_; (with_reducible refine (GBase.ossuarylaw0_Num.calls t167 t168 _ A62.out).mono ?_); rintro e w' ⟨rfl, ⟨nd, rfl⟩⟩; refine ⟨_, rfl, ?_⟩; obtain ⟨Ao69, co69, eo69⟩ := Kd.R_slice HO166.out; subst eo69) | (go_at_call 50; (with_reducible refine (GVec.ossuarylaw0_SameTexts.calls k3 _ _ t164 _ _ y148 t169 _ ?side1 ?side2 ?side3 ?side4 A64.out).mono ?_); (case side1 => repeat (first | exact (Kd.R_reads' HO166.out).2.2 | (with_reducible refine Kd.C_alloc ?_ _) | (with_reducible refine Kd.C_drewN ?_ _) | (with_reducible refine Kd.C_drew ?_))); (case side2 => exact (Kd.R_reads' HO166.out).2.1); (case side3 => repeat (first | exact (Kd.R_reads' HO_11.out).2.2 | (with_reducible refine Kd.C_alloc ?_ _) | (with_reducible refine Kd.C_drewN ?_ _) | (with_reducible refine Kd.C_drew ?_))); (case side4 => exact (Kd.R_reads' HO_11.out).2.1); rintro e w' ⟨rfl, ⟨nd, rfl⟩⟩))
                    go_ret
                    exact ⟨by first | rfl | (simp [errW_none, errW_some] <;> rfl) | (simp only [← hji8]; first | rfl | (simp [errW_none, errW_some] <;> rfl)) | (simp [*, errW_none, errW_some] <;> rfl), by repeat (first | (with_reducible first | exact HB.out | apply lA | apply lN | apply lD | refine lT ?_ ‹_›) | exact HB.out)⟩
                   ·rw [if_neg c63] at H
                    have c63b0 : (t168 == 0) = false := beq_eq_false_iff_ne.mpr c63
                    have c63b1 : (t168 != 0) = true := bne_iff_ne.mpr c63
                    exact absurd ((Option.some.inj H).trans HTrue.out) (by decide)
                 ·rw [if_neg c46] at H
                  have c46b0 : decide (x18_3 < (l3.length : Int)) = false := decide_eq_false c46
                  clear c46
                  replace H := Option.bind_eq_some_iff.mp H
                  obtain ⟨⟨t170, t173⟩, A700, H⟩ := H
                  replace H : ((GBase.ossuarylaw0_Num.f t173).bind fun t174 => (if t174 = 0 then ((GVec.ossuarylaw0_SameTexts.f k3 t170 y148).bind fun t175 => (some t175)) else (some false))) = some r := H
                  have A70 := mk0 A700
                  clear A700
                  replace H := Option.bind_eq_some_iff.mp H
                  obtain ⟨t174, A710, H⟩ := H
                  replace H : (if t174 = 0 then ((GVec.ossuarylaw0_SameTexts.f k3 t170 y148).bind fun t175 => (some t175)) else (some false)) = some r := H
                  have A71 := mk0 A710
                  clear A710
                  by_cases c72 : t174 = 0
                  ·rw [if_pos c72] at H
                   have c72b0 : (t174 == 0) = true := beq_iff_eq.mpr c72
                   have c72b1 : (t174 != 0) = false := bne_eq_false_iff_eq.mpr c72
                   clear c72
                   replace H := Option.bind_eq_some_iff.mp H
                   obtain ⟨t175, A730, H⟩ := H
                   replace H : (some t175) = some r := H
                   have A73 := mk0 A730
                   clear A730
                   obtain rfl := Option.some.inj H
                   have hcz74_0 : wr.cell? ⟨gb139, 0, none⟩ = some (.int .i64 (wrap64 (1 + (wrap64 (Int.tmod (IntKind.u64.wrap (a0)) 4))))) := (blk_cell BK139.out 0).trans rfl
                   have hcz74_1 : wr.cell? ⟨gb139, 1, none⟩ = some (.int .i64 (wrap64 (Int.tmod (IntKind.u64.wrap (a1)) 3))) := (blk_cell BK139.out 1).trans rfl
                   have hfz74_0 := blk_frozen BK139.out 0
                   have hfz74_1 := blk_frozen BK139.out 1
                   obtain ⟨Ao75, co75, eo75⟩ := Kd.R_slice HO_15.out
                   subst eo75
                   obtain ⟨Ao76, co76, eo76⟩ := Kd.R_slice HO_16.out
                   subst eo76
                   go_wp2_with (first | ((with_reducible refine gCa (f := 59) rfl ?_); refine goesL_ (some 126) rfl rfl Try.func59 (by kernel_rfl) rfl #[.agg #[.int .i64 (wrap64 (1 + (wrap64 (Int.tmod (IntKind.u64.wrap (a0)) 4)))), .int .i64 (wrap64 (Int.tmod (IntKind.u64.wrap (a1)) 3))], .slice Ao75 x15_3.length co75, .slice Ao76 x16_3.length co76] rfl (by (try simp only [List.map_toArray, List.map_cons, List.map_nil]); first | done | rfl | (simp only [List.length_drop, List.length_take]; rfl)) ?_; (with_reducible refine (GEnc.rebuild_Rebuild.calls k3 (wrap64 (1 + (wrap64 (Int.tmod (IntKind.u64.wrap (a0)) 4)))) (wrap64 (Int.tmod (IntKind.u64.wrap (a1)) 3)) _ _ x15_3 _ _ x16_3 t170 t173 _ ?side1 ?side2 ?side3 ?side4 A70.out).mono ?_); (case side1 => repeat (first | exact (Kd.R_reads' HO_15.out).2.2 | (with_reducible refine Kd.C_alloc ?_ _) | (with_reducible refine Kd.C_drewN ?_ _) | (with_reducible refine Kd.C_drew ?_))); (case side2 => exact (Kd.R_reads' HO_15.out).2.1); (case side3 => repeat (first | exact (Kd.R_reads' HO_16.out).2.2 | (with_reducible refine Kd.C_alloc ?_ _) | (with_reducible refine Kd.C_drewN ?_ _) | (with_reducible refine Kd.C_drew ?_))); (case side4 => exact (Kd.R_reads' HO_16.out).2.1); rintro e w77 ⟨v171, rfl, ho0, hb⟩; refine ⟨_, rfl, ?_⟩; have n0_ := mk0 (Kd.R_elder' (by (with_reducible repeat (first | apply rA | apply rN | apply rD)); exact HO_11.out) (Kd.R_base ho0) hb); have n1_ := mk0 (Kd.R_elder' (by (with_reducible repeat (first | apply rA | apply rN | apply rD)); exact HO_15.out) (Kd.R_base ho0) hb); have n2_ := mk0 (Kd.R_below (by (with_reducible repeat (first | apply rA | apply rN | apply rD)); exact HO_16.out) hb); have n3_ := mk0 (Kd.R_lower (Kd.R_new' (Kd.R_new' ho0 (Kd.R_lt (by (with_reducible repeat (first | apply rA | apply rN | apply rD)); exact HO_11.out))) (Kd.R_lt (by (with_reducible repeat (first | apply rA | apply rN | apply rD)); exact HO_15.out))) (below_size (by repeat (first | (with_reducible first | exact HB.out | apply lA | apply lN | apply lD | refine lT ?_ ‹_›) | exact HB.out)))); have n4_ := mk0 (blk_below (g := gb139) (o := .cells #[.int .i64 (wrap64 (1 + (wrap64 (Int.tmod (IntKind.u64.wrap (a0)) 4)))), .int .i64 (wrap64 (Int.tmod (IntKind.u64.wrap (a1)) 3))] 51 (0, 0)) (by (with_reducible repeat (first | apply bN | apply bD | apply bA)); exact BK139.out) hb); have n5_ := mk0 (below_step (by repeat (first | (with_reducible first | exact HB.out | apply lA | apply lN | apply lD | refine lT ?_ ‹_›) | exact HB.out)) hb); clear HO_11; clear HO_15; clear HO_16; clear BK139; clear HB; have HO_11 := n0_; have HO_15 := n1_; have HO_16 := n2_; have HO172 := n3_; have BK139 := n4_; have HB := n5_; clear n0_ n1_ n2_ n3_ n4_ n5_; (try clear hb); (try clear hb2); (try clear hk); (try clear hi); (try clear ho0)) | ((with_reducible refine gCa (f := 35) rfl ?_); refine goesL_ (some 130) rfl rfl Try.func35 (by kernel_rfl) rfl #[.int .i64 t173] rfl (by (try simp only [List.map_toArray, List.map_cons, List.map_nil]); first | done | rfl | (simp only [List.length_drop, List.length_take]; rfl)) ?_; (with_reducible refine (GBase.ossuarylaw0_Num.calls t173 t174 _ A71.out).mono ?_); rintro e w' ⟨rfl, ⟨nd, rfl⟩⟩; refine ⟨_, rfl, ?_⟩; obtain ⟨Ao78, co78, eo78⟩ := Kd.R_slice HO172.out; subst eo78) | (go_at_call 50; (with_reducible refine (GVec.ossuarylaw0_SameTexts.calls k3 _ _ t170 _ _ y148 t175 _ ?side1 ?side2 ?side3 ?side4 A73.out).mono ?_); (case side1 => repeat (first | exact (Kd.R_reads' HO172.out).2.2 | (with_reducible refine Kd.C_alloc ?_ _) | (with_reducible refine Kd.C_drewN ?_ _) | (with_reducible refine Kd.C_drew ?_))); (case side2 => exact (Kd.R_reads' HO172.out).2.1); (case side3 => repeat (first | exact (Kd.R_reads' HO_11.out).2.2 | (with_reducible refine Kd.C_alloc ?_ _) | (with_reducible refine Kd.C_drewN ?_ _) | (with_reducible refine Kd.C_drew ?_))); (case side4 => exact (Kd.R_reads' HO_11.out).2.1); rintro e w' ⟨rfl, ⟨nd, rfl⟩⟩))
                   go_ret
                   exact ⟨by first | rfl | (simp [errW_none, errW_some] <;> rfl) | (simp only [← hji8]; first | rfl | (simp [errW_none, errW_some] <;> rfl)) | (simp [*, errW_none, errW_some] <;> rfl), by repeat (first | (with_reducible first | exact HB.out | apply lA | apply lN | apply lD | refine lT ?_ ‹_›) | exact HB.out)⟩
                  ·rw [if_neg c72] at H
                   have c72b0 : (t174 == 0) = false := beq_eq_false_iff_ne.mpr c72
                   have c72b1 : (t174 != 0) = true := bne_iff_ne.mpr c72
                   exact absurd ((Option.some.inj H).trans HTrue.out) (by decide)
           ·rw [if_neg c27] at H
            exact absurd H (by simp)
          ·rw [if_neg c26] at H
           exact absurd H (by simp)
         ·rw [if_neg c25] at H
          exact absurd H (by simp)
        ·rw [if_neg c24] at H
         have c24b0 : ((y148.length : Int) == (wrap64 ((wrap64 (1 + (wrap64 (Int.tmod (IntKind.u64.wrap (a0)) 4)))) + (wrap64 (Int.tmod (IntKind.u64.wrap (a1)) 3))))) = false := beq_eq_false_iff_ne.mpr c24
         have c24b1 : ((y148.length : Int) != (wrap64 ((wrap64 (1 + (wrap64 (Int.tmod (IntKind.u64.wrap (a0)) 4)))) + (wrap64 (Int.tmod (IntKind.u64.wrap (a1)) 3))))) = true := bne_iff_ne.mpr c24
         exact absurd ((Option.some.inj H).trans HTrue.out) (by decide)
       ·rw [if_neg c23] at H
        exact absurd H (by simp)
      ·rw [if_neg c22] at H
       have c22b0 : (t147 == 0) = false := beq_eq_false_iff_ne.mpr c22
       have c22b1 : (t147 != 0) = true := bne_iff_ne.mpr c22
       exact absurd ((Option.some.inj H).trans HTrue.out) (by decide)
 ·replace c6 := Bool.eq_false_iff.mpr c6
  subst c6
  have H1 : (some false) = some r := by rw [if_neg (show ¬ (false = true) by decide)] at H; exact H
  clear H
  have H := H1
  clear H1
  exact absurd ((Option.some.inj H).trans HTrue.out) (by decide)

/-- THE ONE PURE STATEMENT of ossuarylaw8_RebuildAll: yours. -/
noncomputable def ossuarylaw8_RebuildAll.Pure : Prop := ∀ (a0 : Int) (a1 : Int) (a2 : ByteArray) (l3 : List Int), (Lit.int .i64 a0).wf = true → (Lit.int .i64 a1).wf = true → a2.size ≤ 140737488351232 → l3.length ≤ maxLen → l3.length * 8 ≤ 140737488351232 → (∀ x ∈ l3, (Lit.int .i64 x).wf = true) → ∃ k, ossuarylaw8_RebuildAll.f k a0 a1 a2 l3 = some true
theorem ossuarylaw8_RebuildAll.walk (P : ossuarylaw8_RebuildAll.Pure) (a0 : Int) (a1 : Int) (a2 : ByteArray) (a3 : Option Addr) (len3 cap3 : Nat) (z3 : List Int) (w : World) (w0 : (Lit.int .i64 a0).wf = true) (w1 : (Lit.int .i64 a1).wf = true) (w2 : a2.size ≤ 140737488351232) (w3 : (a3 = none ∧ len3 = 0 ∧ cap3 = 0 ∧ z3 = []) ∨ ∃ x, a3 = some x ∧ len3 ≤ cap3 ∧ cap3 ≤ maxLen ∧ z3.length = cap3 ∧ (∀ i, i < z3.length → w.cell? (x.add i) = some (.int .i64 (z3.getD i 0))) ∧ ∀ n ∈ z3, (Lit.int .i64 n).wf = true) (y3 : len3 * 8 ≤ 140737488351232) :
  Calls Try.prog 23 #[.int .i64 a0, .int .i64 a1, .string a2, .slice a3 len3 cap3] w fun e w' => e = .returned (.bool true) ∧ Below w.heap.size w w' := by
 obtain ⟨l3, rfl, hr3, hm3, hw3, hc3⟩ := ReadsInt.ofRowC w3
 obtain ⟨k, h⟩ := P a0 a1 a2 l3 w0 w1 w2 hm3 y3 hw3
 refine (ossuarylaw8_RebuildAll.calls k a0 a1 a2 _ _ l3 true w (Kd.C_of_reads (d := (0 : Int)) (h1 := fun _ => rfl) hr3) hc3 h).mono ?_
 rintro e w' ⟨rfl, hd⟩
 exact ⟨rfl, hd⟩

end Go.Proofs.Ytaahnicjjpddjaa.GRebuildAll
