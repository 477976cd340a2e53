/- Functions of the program as Lean functions, each with a proof that its call comes to what the function says; written by wip/gen.py of our own repo. No condition. -/
import Derived.Test.YtaahnicjjpddjaaKRebuildMendsGRebuildMends1
namespace Go.Proofs.Ytaahnicjjpddjaa.GRebuildMends
open Go.Proofs.Ytaahnicjjpddjaa.Fn
open Go.Proofs.Ytaahnicjjpddjaa
open Go.RowKit Go.Proofs.YtaahnicjjpddjaaW.PrintWords Go.Proofs.YtaahnicjjpddjaaW.PrintLast
set_option linter.unusedVariables false
set_option linter.unusedSimpArgs false
def mn (a b : Int) : Int := if b < a then b else a   -- the smaller
mutual
noncomputable def ossuarylaw8_RebuildMends.l0 : Nat → ByteArray → Int → Int → Int → List ByteArray → Int → Int → Int → Option (Bool)
 | 0, _, _, _, _, _, _, _, _ => none
 | k + 1, x1, x2, x3, x10, x11, x12, x140000, x140001 => if x12 < x140000 then (if 0 ≤ (wrap64 (x10 * x12)) then (if (wrap64 (x10 * x12)) ≤ (wrap64 ((wrap64 (x10 * x12)) + x10)) then (if (wrap64 ((wrap64 (x10 * x12)) + x10)) ≤ (x1.size : Int) then (if x11.length < 8796093022208 then (ossuarylaw8_RebuildMends.l0 k x1 x2 x3 x10 (x11 ++ [x1.extract ((wrap64 (x10 * x12)) : Int).toNat ((wrap64 ((wrap64 (x10 * x12)) + x10)) : Int).toNat]) (wrap64 (x12 + 1)) x140000 x140001) else (none)) else (none)) else (none)) else (none)) else ((GRenc.ossuaryref1_Encode.f k x140000 x140001 x11).bind fun bt143 => (if bt143.2 = 0 then (if x11.length + bt143.1.length < 8796093022208 then ((some (x11 ++ bt143.1 : List ByteArray)).bind fun y147 => (if 0 ≤ (y147.length : Int) then (if ((y147.length : Int) : Int).toNat ≤ 281474976710656 then (ossuarylaw8_RebuildMends.l1 k x2 x3 x10 y147 (List.replicate ((y147.length : Int) : Int).toNat false) 0 x140000 x140001) else (none)) else (none))) else (none)) else (some false)))
noncomputable def ossuarylaw8_RebuildMends.l1 : Nat → Int → Int → Int → List ByteArray → List Bool → Int → Int → Int → Option (Bool)
 | 0, _, _, _, _, _, _, _, _ => none
 | k + 1, x2, x3, x10, x11, x15, x16, x140000, x140001 => if x16 < (x11.length : Int) then (if 0 ≤ x16 then (if x16 < (x15.length : Int) then (ossuarylaw8_RebuildMends.l1 k x2 x3 x10 x11 (x15.set (x16 : Int).toNat true) (wrap64 (x16 + 1)) x140000 x140001) else (none)) else (none)) else ((some (([] : List ByteArray) : List ByteArray)).bind fun y154 => (if y154.length + x11.length < 8796093022208 then ((some (y154 ++ x11 : List ByteArray)).bind fun y157 => (if x10 > 0 then (if 0 ≤ (wrap64 (x140000 + (Go.bits .and .i64 x2 1))) then (if (wrap64 (x140000 + (Go.bits .and .i64 x2 1))) < (y157.length : Int) then (if (IntKind.u64.wrap (x10)) = 0 then (none) else (if 0 ≤ (wrap64 (Int.tmod (IntKind.u64.wrap (x3)) (IntKind.u64.wrap (x10)))) then (if (wrap64 (Int.tmod (IntKind.u64.wrap (x3)) (IntKind.u64.wrap (x10)))) < ((rdOf ByteArray.empty y157 (wrap64 (x140000 + (Go.bits .and .i64 x2 1)))).size : Int) then ((GEnc.rebuild_Rebuild.f k x140000 x140001 (y157.set ((wrap64 (x140000 + (Go.bits .and .i64 x2 1))) : Int).toNat (Pr.mendF x3 (wrap64 (Int.tmod (IntKind.u64.wrap (x3)) (IntKind.u64.wrap (x10)))) (rdOf ByteArray.empty y157 (wrap64 (x140000 + (Go.bits .and .i64 x2 1)))))) x15).bind fun bt162 => ((GBase.ossuarylaw0_Num.f bt162.2).bind fun t166 => (if t166 = 0 then ((GVec.ossuarylaw0_SameTexts.f k bt162.1 x11).bind fun t167 => (some t167)) else (some false)))) else (none)) else (none))) else (none)) else (none)) else ((GEnc.rebuild_Rebuild.f k x140000 x140001 y157 x15).bind fun bt168 => ((GBase.ossuarylaw0_Num.f bt168.2).bind fun t172 => (if t172 = 0 then ((GVec.ossuarylaw0_SameTexts.f k bt168.1 x11).bind fun t173 => (some t173)) else (some false)))))) else (none)))
end
noncomputable def ossuarylaw8_RebuildMends.f (k : Nat) (a0 : Int) (a1 : ByteArray) (a2 : Int) (a3 : Int) : Option (Bool) := (ossuarylaw8_awake.f k).bind fun t138 => (if t138 = true then (if (wrap64 (1 + (wrap64 (Int.tmod (IntKind.u64.wrap (a0)) 4)))) = 0 then (none) else (ossuarylaw8_RebuildMends.l0 k a1 a2 a3 (mn (wrap64 ((a1.size : Int) / (wrap64 (1 + (wrap64 (Int.tmod (IntKind.u64.wrap (a0)) 4)))))) 60) ([] : List ByteArray) 0 (wrap64 (1 + (wrap64 (Int.tmod (IntKind.u64.wrap (a0)) 4)))) 2)) else (some false))
theorem ossuarylaw8_RebuildMends.mono_l : ∀ k, (∀ y0 y1 y2 y3 y4 y5 y6 y7, LeO (ossuarylaw8_RebuildMends.l0 k y0 y1 y2 y3 y4 y5 y6 y7) (ossuarylaw8_RebuildMends.l0 (k + 1) y0 y1 y2 y3 y4 y5 y6 y7)) ∧ (∀ y0 y1 y2 y3 y4 y5 y6 y7, LeO (ossuarylaw8_RebuildMends.l1 k y0 y1 y2 y3 y4 y5 y6 y7) (ossuarylaw8_RebuildMends.l1 (k + 1) y0 y1 y2 y3 y4 y5 y6 y7))
 | 0 => ⟨fun _ _ _ _ _ _ _ _ r h => by simp [ossuarylaw8_RebuildMends.l0] at h, fun _ _ _ _ _ _ _ _ r h => by simp [ossuarylaw8_RebuildMends.l1] at h⟩
 | k + 1 => by
  obtain ⟨ih0, ih1⟩ := ossuarylaw8_RebuildMends.mono_l k
  refine ⟨?_, ?_⟩
  ·intro y0 y1 y2 y3 y4 y5 y6 y7
   unfold ossuarylaw8_RebuildMends.l0
   repeat' first
   | (with_reducible exact ih0 _ _ _ _ _ _ _ _)
   | (with_reducible exact ih1 _ _ _ _ _ _ _ _)
   | (with_reducible exact GEnc.rebuild_Rebuild.mono _ _ _ _ _)
   | (with_reducible exact GRenc.ossuaryref1_Encode.mono _ _ _ _)
   | (with_reducible exact GVec.ossuarylaw0_SameTexts.mono _ _ _)
   | (with_reducible exact ossuarylaw8_awake.mono _)
   | (with_reducible exact LeO.refl _)
   | (with_reducible exact LeO.none _)
   | (with_reducible refine LeO.ite ?_ ?_)
   | (with_reducible refine LeO.bind ?_ (fun _ => ?_))
   | exact ih0 _ _ _ _ _ _ _ _
   | exact ih1 _ _ _ _ _ _ _ _
   | exact GEnc.rebuild_Rebuild.mono _ _ _ _ _
   | exact GRenc.ossuaryref1_Encode.mono _ _ _ _
   | exact GVec.ossuarylaw0_SameTexts.mono _ _ _
   | exact ossuarylaw8_awake.mono _
   | exact LeO.none _
   | refine LeO.ite ?_ ?_
   | refine LeO.bind ?_ (fun _ => ?_)
  ·intro y0 y1 y2 y3 y4 y5 y6 y7
   unfold ossuarylaw8_RebuildMends.l1
   repeat' first
   | (with_reducible exact ih0 _ _ _ _ _ _ _ _)
   | (with_reducible exact ih1 _ _ _ _ _ _ _ _)
   | (with_reducible exact GEnc.rebuild_Rebuild.mono _ _ _ _ _)
   | (with_reducible exact GRenc.ossuaryref1_Encode.mono _ _ _ _)
   | (with_reducible exact GVec.ossuarylaw0_SameTexts.mono _ _ _)
   | (with_reducible exact ossuarylaw8_awake.mono _)
   | (with_reducible exact LeO.refl _)
   | (with_reducible exact LeO.none _)
   | (with_reducible refine LeO.ite ?_ ?_)
   | (with_reducible refine LeO.bind ?_ (fun _ => ?_))
   | exact ih0 _ _ _ _ _ _ _ _
   | exact ih1 _ _ _ _ _ _ _ _
   | exact GEnc.rebuild_Rebuild.mono _ _ _ _ _
   | exact GRenc.ossuaryref1_Encode.mono _ _ _ _
   | exact GVec.ossuarylaw0_SameTexts.mono _ _ _
   | exact ossuarylaw8_awake.mono _
   | exact LeO.none _
   | refine LeO.ite ?_ ?_
   | refine LeO.bind ?_ (fun _ => ?_)
theorem ossuarylaw8_RebuildMends.mono : ∀ a0 a1 a2 a3 k, LeO (ossuarylaw8_RebuildMends.f k a0 a1 a2 a3) (ossuarylaw8_RebuildMends.f (k + 1) a0 a1 a2 a3) := by
 intro a0 a1 a2 a3 k
 obtain ⟨ih0, ih1⟩ := ossuarylaw8_RebuildMends.mono_l k
 unfold ossuarylaw8_RebuildMends.f
 repeat' first
   | (with_reducible exact ih0 _ _ _ _ _ _ _ _)
   | (with_reducible exact ih1 _ _ _ _ _ _ _ _)
   | (with_reducible exact GEnc.rebuild_Rebuild.mono _ _ _ _ _)
   | (with_reducible exact GRenc.ossuaryref1_Encode.mono _ _ _ _)
   | (with_reducible exact GVec.ossuarylaw0_SameTexts.mono _ _ _)
   | (with_reducible exact ossuarylaw8_awake.mono _)
   | (with_reducible exact LeO.refl _)
   | (with_reducible exact LeO.none _)
   | (with_reducible refine LeO.ite ?_ ?_)
   | (with_reducible refine LeO.bind ?_ (fun _ => ?_))
   | exact ih0 _ _ _ _ _ _ _ _
   | exact ih1 _ _ _ _ _ _ _ _
   | exact GEnc.rebuild_Rebuild.mono _ _ _ _ _
   | exact GRenc.ossuaryref1_Encode.mono _ _ _ _
   | exact GVec.ossuarylaw0_SameTexts.mono _ _ _
   | exact ossuarylaw8_awake.mono _
   | exact LeO.none _
   | refine LeO.ite ?_ ?_
   | refine LeO.bind ?_ (fun _ => ?_)
set_option maxHeartbeats 8000000 in
set_option maxRecDepth 100000 in
theorem ossuarylaw8_RebuildMends.calls (k : Nat) (a0 : Int) (a1 : ByteArray) (a2 : Int) (a3 : Int) (r : Bool) (w : World) (h : ossuarylaw8_RebuildMends.f k a0 a1 a2 a3 = some r) (hT : r = true := by rfl) :
  Calls Try.prog 24 #[.int .i64 a0, .string a1, .int .i64 a2, .int .i64 a3] w fun e w' => e = .returned (.bool r) ∧ Below w.heap.size w w' := by
 have HTrue := mk0 hT
 clear hT
 have hu51 := Try.underlying51
 have HB := mk0 (Below.refl w.heap.size w)
 have H : ((ossuarylaw8_awake.f k).bind fun t138 => (if t138 = true then (if (wrap64 (1 + (wrap64 (Int.tmod (IntKind.u64.wrap (a0)) 4)))) = 0 then (none) else (ossuarylaw8_RebuildMends.l0 k a1 a2 a3 (mn (wrap64 ((a1.size : Int) / (wrap64 (1 + (wrap64 (Int.tmod (IntKind.u64.wrap (a0)) 4)))))) 60) ([] : List ByteArray) 0 (wrap64 (1 + (wrap64 (Int.tmod (IntKind.u64.wrap (a0)) 4)))) 2)) else (some false))) = some r := h
 clear h
 replace H := Option.bind_eq_some_iff.mp H
 obtain ⟨t138, A50, H⟩ := H
 replace H : (if t138 = true then (if (wrap64 (1 + (wrap64 (Int.tmod (IntKind.u64.wrap (a0)) 4)))) = 0 then (none) else (ossuarylaw8_RebuildMends.l0 k a1 a2 a3 (mn (wrap64 ((a1.size : Int) / (wrap64 (1 + (wrap64 (Int.tmod (IntKind.u64.wrap (a0)) 4)))))) 60) ([] : List ByteArray) 0 (wrap64 (1 + (wrap64 (Int.tmod (IntKind.u64.wrap (a0)) 4)))) 2)) else (some false)) = some r := H
 have A5 := mk0 A50
 clear A50
 by_cases c6 : t138 = true
 ·subst c6
  have H1 : (if (wrap64 (1 + (wrap64 (Int.tmod (IntKind.u64.wrap (a0)) 4)))) = 0 then (none) else (ossuarylaw8_RebuildMends.l0 k a1 a2 a3 (mn (wrap64 ((a1.size : Int) / (wrap64 (1 + (wrap64 (Int.tmod (IntKind.u64.wrap (a0)) 4)))))) 60) ([] : List ByteArray) 0 (wrap64 (1 + (wrap64 (Int.tmod (IntKind.u64.wrap (a0)) 4)))) 2)) = some r := by rw [if_pos rfl] at H; exact H
  clear H
  have H := H1
  clear H1
  by_cases c7 : (wrap64 (1 + (wrap64 (Int.tmod (IntKind.u64.wrap (a0)) 4)))) = 0
  ·rw [if_pos c7] at H
   exact absurd H (by simp)
  ·rw [if_neg c7] at H
   have c7b0 : ((wrap64 (1 + (wrap64 (Int.tmod (IntKind.u64.wrap (a0)) 4)))) == 0) = false := beq_eq_false_iff_ne.mpr c7
   have c7b1 : ((wrap64 (1 + (wrap64 (Int.tmod (IntKind.u64.wrap (a0)) 4)))) != 0) = true := bne_iff_ne.mpr c7
   obtain ⟨ji8, hji8⟩ : ∃ j_ : Int, (mn (wrap64 ((a1.size : Int) / (wrap64 (1 + (wrap64 (Int.tmod (IntKind.u64.wrap (a0)) 4)))))) 60) = j_ := ⟨_, rfl⟩
   replace H : (ossuarylaw8_RebuildMends.l0 k a1 a2 a3 ji8 ([] : List ByteArray) 0 (wrap64 (1 + (wrap64 (Int.tmod (IntKind.u64.wrap (a0)) 4)))) 2) = some r := by first | (rw [hji8] at H; exact H) | (simp only [hji8] at H ⊢; exact H)
   (try rw [hji8] at A5)
   (try (have hji8h : ji8 ≤ 60 := by (rw [← hji8]; unfold mn; (repeat' split) <;> omega)))
   (try (have hji8g : ji8 ≤ 64 := by omega))
   have hji8_ : (if 60 < (wrap64 ((a1.size : Int) / (wrap64 (1 + (wrap64 (Int.tmod (IntKind.u64.wrap (a0)) 4)))))) then 60 else (wrap64 ((a1.size : Int) / (wrap64 (1 + (wrap64 (Int.tmod (IntKind.u64.wrap (a0)) 4))))))) = ji8 := hji8
   have H' := mk0 H
   clear H
   go_enter Try.func24, Try.ntmps24
   go_wp2_with (first | ((with_reducible refine gCa (f := 61) rfl ?_); refine goesL_ (some 22) rfl rfl Try.func61 (by kernel_rfl) rfl #[] rfl (by (try simp only [List.map_toArray, List.map_cons, List.map_nil]); first | done | rfl | (simp only [List.length_drop, List.length_take]; rfl)) ?_; (with_reducible refine (ossuarylaw8_awake.calls k  true _ A5.out).mono ?_); rintro e w9 ⟨rfl, hb⟩; refine ⟨_, rfl, ?_⟩; have n0_ := mk0 (below_step (by repeat (first | (with_reducible first | exact HB.out | apply lA | apply lN | apply lD) | exact HB.out)) hb); clear HB; have HB := n0_; clear n0_; (try clear hb); (try clear hb2); (try clear hk); (try clear hi)) | ((with_reducible refine gate_dst (N := 9) rfl ?_); refine box_event ?hg (N := 9) ?hd (cs := #[.int .i64 0, .int .i64 0]) (t := 51) ?hr ?_; (case hd => rfl); (case hg => rfl); (case hr => first | (go_simp; done) | (go_simp; rfl)); intro gb139 hg w10 hbox hb; have n0_ := mk0 (below_step (by repeat (first | (with_reducible first | exact HB.out | apply lA | apply lN | apply lD) | exact HB.out)) hb); have n1_ := mk0 (hbox); have n2_ := mk0 ((by rw [hg]; exact (below_size (by repeat (first | (with_reducible first | exact HB.out | apply lA | apply lN | apply lD) | exact HB.out))) : w.heap.size ≤ gb139)); have n3_ := mk0 ((by rw [hg]; exact (below_size (by repeat (first | (with_reducible first | exact HB.out | apply lA | apply lN | apply lD) | exact HB.out))) : w.heap.size ≤ gb139)); clear HB; have HB := n0_; have BK139 := n1_; have GW139 := n2_; have GE139 := n3_; clear n0_ n1_ n2_ n3_; clear hb hbox hg; have hcz11_0 : w10.cell? ⟨gb139, 0, none⟩ = some (.int .i64 0) := (blk_cell BK139.out 0).trans rfl; have hcz11_1 : w10.cell? ⟨gb139, 1, none⟩ = some (.int .i64 0) := (blk_cell BK139.out 1).trans rfl; have hfz11_0 := blk_frozen BK139.out 0; have hfz11_1 := blk_frozen BK139.out 1))
   go_loopg [11, 12] k (fun kq v11 v12 w' => ∃ (x11_1 : List ByteArray) (x12_1 : Int), v12 = .int .i64 x12_1 ∧ Aside0 (ossuarylaw8_RebuildMends.l0 kq a1 a2 a3 ji8 x11_1 x12_1 (wrap64 (1 + (wrap64 (Int.tmod (IntKind.u64.wrap (a0)) 4)))) 2 = some r) ∧ Aside0 (kq ≤ k) ∧ Aside0 (Kd.R Kd.string 9 w' w.heap.size (fun _ => True) v11 x11_1) ∧ Aside0 (w'.heap[gb139]? = some (.cells #[.int .i64 (wrap64 (1 + (wrap64 (Int.tmod (IntKind.u64.wrap (a0)) 4)))), .int .i64 2] 51 (0, 0))) ∧ Aside0 (Below w.heap.size w w'))
   case atStart => exact ⟨(([] : List ByteArray)), (0), (by first | rfl | (simp; done) | (simp [*]; done)), H', ⟨Nat.le_refl _⟩, ⟨by first | exact Kd.R_nil _ _ _ _ _ | exact Kd.N_nil _ _ _ _ _ | exact Kd.V_nil _ _ _ _ _ | exact Kd.Q_nil _ _ _ _ _ | exact Kd.S_nil _ _ _ _ _⟩, ⟨by (with_reducible repeat (first | apply bN | apply bD | apply bA)); refine blk_put (cs := #[.int .i64 (wrap64 (1 + (wrap64 (Int.tmod (IntKind.u64.wrap (a0)) 4)))), .int .i64 0]) ?_ 1 _ rfl; (with_reducible repeat (first | apply bN | apply bD | apply bA)); refine blk_put (cs := #[.int .i64 0, .int .i64 0]) ?_ 0 _ rfl; (with_reducible repeat (first | apply bN | apply bD | apply bA)); exact BK139.out⟩, ⟨by repeat (first | (with_reducible first | exact HB.out | apply lA | apply lN | apply lD | refine lT ?_ ‹_›) | exact HB.out)⟩⟩
   case round =>
    clear H'
    try clear c2
    try clear p2
    try clear c6
    try clear p6
    try clear c7
    try clear c7b0
    try clear c7b1
    try clear hcz11_0
    try clear hcz11_1
    try clear hfz11_0
    try clear hfz11_1
    obtain ⟨x11_1, x12_1, rfl, HA, HK1, HO_11, BK139, HB⟩ := hrel
    cases gk with
    | zero => exact absurd HA.out (by simp [ossuarylaw8_RebuildMends.l0])
    | succ k1 =>
     have H := HA.out
     clear HA
     simp only [ossuarylaw8_RebuildMends.l0] at H
     by_cases c12 : x12_1 < (wrap64 (1 + (wrap64 (Int.tmod (IntKind.u64.wrap (a0)) 4))))
     ·rw [if_pos c12] at H
      have c12b0 : decide (x12_1 < (wrap64 (1 + (wrap64 (Int.tmod (IntKind.u64.wrap (a0)) 4))))) = true := decide_eq_true c12
      clear c12
      obtain ⟨ji13, hji13⟩ : ∃ j_ : Int, (wrap64 (ji8 * x12_1)) = j_ := ⟨_, rfl⟩
      replace H : (if 0 ≤ (ji13) then (if (ji13) ≤ (wrap64 ((ji13) + ji8)) then (if (wrap64 ((ji13) + ji8)) ≤ (a1.size : Int) then (if x11_1.length < 8796093022208 then (ossuarylaw8_RebuildMends.l0 k1 a1 a2 a3 ji8 (x11_1 ++ [a1.extract ((ji13) : Int).toNat ((wrap64 ((ji13) + ji8)) : Int).toNat]) (wrap64 (x12_1 + 1)) (wrap64 (1 + (wrap64 (Int.tmod (IntKind.u64.wrap (a0)) 4)))) 2) else (none)) else (none)) else (none)) else (none)) = some r := by first | (rw [hji13] at H; exact H) | (simp only [hji13] at H ⊢; exact H)
      have hji13w : (IntKind.i64.wrap (ji8 * x12_1)) = ji13 := (i64_w _).trans hji13
      by_cases c14 : 0 ≤ (ji13)
      ·rw [if_pos c14] at H
       have c14b0 := eq_true c14
       have c14b1 : decide (0 ≤ (ji13)) = true := decide_eq_true c14
       clear c14
       by_cases c15 : (ji13) ≤ (wrap64 ((ji13) + ji8))
       ·rw [if_pos c15] at H
        have c15b0 := eq_true c15
        have c15b1 : decide ((ji13) ≤ (wrap64 ((ji13) + ji8))) = true := decide_eq_true c15
        by_cases c16 : (wrap64 ((ji13) + ji8)) ≤ (a1.size : Int)
        ·rw [if_pos c16] at H
         have c16b0 := eq_true c16
         have c16b1 : decide ((wrap64 ((ji13) + ji8)) ≤ (a1.size : Int)) = true := decide_eq_true c16
         by_cases c17 : x11_1.length < 8796093022208
         ·rw [if_pos c17] at H
          have LMc17 := mk0 c17
          clear c17
          obtain ⟨y140, hy140⟩ : ∃ y_ : List ByteArray, y_ = (x11_1 ++ [a1.extract ((ji13) : Int).toNat ((wrap64 ((ji13) + ji8)) : Int).toNat]) := ⟨_, rfl⟩
          replace H : (ossuarylaw8_RebuildMends.l0 k1 a1 a2 a3 ji8 y140 (wrap64 (x12_1 + 1)) (wrap64 (1 + (wrap64 (Int.tmod (IntKind.u64.wrap (a0)) 4)))) 2) = some r := by first | (rw [hy140]; with_reducible exact H) | (have H2_ := (Option.bind_some _ _).symm.trans H; rw [hy140]; with_reducible exact H2_) | (have H2_ := (Option.bind_some _ _).symm.trans H; with_reducible exact H2_) | with_reducible exact H | (rw [hy140]; exact H) | exact H
          have Ny140 := mk0 hy140
          clear hy140
          have H' := mk0 H
          clear H
          have hcz18_0 : wr.cell? ⟨gb139, 0, none⟩ = some (.int .i64 (wrap64 (1 + (wrap64 (Int.tmod (IntKind.u64.wrap (a0)) 4))))) := (blk_cell BK139.out 0).trans rfl
          have hcz18_1 : wr.cell? ⟨gb139, 1, none⟩ = some (.int .i64 2) := (blk_cell BK139.out 1).trans rfl
          have hfz18_0 := blk_frozen BK139.out 0
          have hfz18_1 := blk_frozen BK139.out 1
          go_wp2_with (first | ((with_reducible refine gBu (b := .append) (xs := #[.tmp 42, .tmp 53]) rfl ?_); at_builtin; refine Kd.R_append Kd.string (w0 := w) w.heap.size rfl (.tmp 42) (.tmp 53) 58 9 (.string ⟨#[]⟩) 16 rfl Try.underlying58 info9 rfl (by decide) (by omega) u11 x11_1 (a1.extract ((ji13) : Int).toNat ((wrap64 ((ji13) + ji8)) : Int).toNat) [.string (a1.extract ((ji13) : Int).toNat ((wrap64 ((ji13) + ji8)) : Int).toNat)] (fun _ => True) (fun _ => False) rfl rfl ?aP (fun _ hk => hk.elim) ?aF ?aO ?aB ?aS ?aL ?_; (case aP => exact rfl); (case aB => exact (by repeat (first | (with_reducible first | exact HB.out | apply lA | apply lN | apply lD | refine lT ?_ ‹_›) | exact HB.out))); (case aF => exact (fun _ _ => trivial)); (case aO => exact (by (with_reducible repeat (first | apply rA | apply rN | apply rD)); exact HO_11.out)); (case aS => exact (below_size (by repeat (first | (with_reducible first | exact HB.out | apply lA | apply lN | apply lD | refine lT ?_ ‹_›) | exact HB.out)))); (case aL => have := LMc17.out; omega); intro v141 w19 ho hb hg hat; rw [← Ny140.out] at ho; have n0_ := mk0 (blk_grown (g := gb139) (o := .cells #[.int .i64 (wrap64 (1 + (wrap64 (Int.tmod (IntKind.u64.wrap (a0)) 4)))), .int .i64 2] 51 (0, 0)) (by (with_reducible repeat (first | apply bN | apply bD | apply bA)); exact BK139.out) hg (Kd.R_ne HO_11.out BK139.out (by decide))); have n1_ := mk0 (hb); have n2_ := mk0 (ho); clear BK139; clear HB; clear HO_11; have BK139 := n0_; have HB := n1_; have HO142 := n2_; clear n0_ n1_ n2_; clear ho hb hg hat))
          go_roundg k1
          case measure => have := HK1.out; omega
          case rel => exact ⟨(y140), (wrap64 (x12_1 + 1)), (by first | rfl | (simp; done) | (simp [*]; done)), H', ⟨by have := HK1.out; omega⟩, ⟨by (with_reducible repeat (first | apply rA | apply rN | apply rD)); exact HO142.out⟩, ⟨by (with_reducible repeat (first | apply bN | apply bD | apply bA)); exact BK139.out⟩, ⟨by repeat (first | (with_reducible first | exact HB.out | apply lA | apply lN | apply lD | refine lT ?_ ‹_›) | exact HB.out)⟩⟩
         ·rw [if_neg c17] at H
          exact absurd H (by simp)
        ·rw [if_neg c16] at H
         exact absurd H (by simp)
       ·rw [if_neg c15] at H
        exact absurd H (by simp)
      ·rw [if_neg c14] at H
       exact absurd H (by simp)
     ·rw [if_neg c12] at H
      have c12b0 : decide (x12_1 < (wrap64 (1 + (wrap64 (Int.tmod (IntKind.u64.wrap (a0)) 4))))) = false := decide_eq_false c12
      clear c12
      replace H := Option.bind_eq_some_iff.mp H
      obtain ⟨⟨t143, t146⟩, A200, H⟩ := H
      replace H : (if t146 = 0 then (if x11_1.length + t143.length < 8796093022208 then ((some (x11_1 ++ t143 : List ByteArray)).bind fun y147 => (if 0 ≤ (y147.length : Int) then (if ((y147.length : Int) : Int).toNat ≤ 281474976710656 then (ossuarylaw8_RebuildMends.l1 k1 a2 a3 ji8 y147 (List.replicate ((y147.length : Int) : Int).toNat false) 0 (wrap64 (1 + (wrap64 (Int.tmod (IntKind.u64.wrap (a0)) 4)))) 2) else (none)) else (none))) else (none)) else (some false)) = some r := H
      have A20 := mk0 A200
      clear A200
      by_cases c21 : t146 = 0
      ·rw [if_pos c21] at H
       have c21b0 : (t146 == 0) = true := beq_iff_eq.mpr c21
       have c21b1 : (t146 != 0) = false := bne_eq_false_iff_eq.mpr c21
       clear c21
       by_cases c22 : x11_1.length + t143.length < 8796093022208
       ·rw [if_pos c22] at H
        have LMc22 := mk0 c22
        clear c22
        obtain ⟨y147, hy147⟩ : ∃ y_ : List ByteArray, y_ = (x11_1 ++ t143) := ⟨_, rfl⟩
        replace H : (if 0 ≤ (y147.length : Int) then (if ((y147.length : Int) : Int).toNat ≤ 281474976710656 then (ossuarylaw8_RebuildMends.l1 k1 a2 a3 ji8 y147 (List.replicate ((y147.length : Int) : Int).toNat false) 0 (wrap64 (1 + (wrap64 (Int.tmod (IntKind.u64.wrap (a0)) 4)))) 2) else (none)) else (none)) = some r := by first | (rw [hy147]; with_reducible exact H) | (have H2_ := (Option.bind_some _ _).symm.trans H; rw [hy147]; with_reducible exact H2_) | (have H2_ := (Option.bind_some _ _).symm.trans H; with_reducible exact H2_) | with_reducible exact H | (rw [hy147]; exact H) | exact H
        have Ny147 := mk0 hy147
        clear hy147
        by_cases c23 : 0 ≤ (y147.length : Int)
        ·rw [if_pos c23] at H
         have c23b0 := eq_true c23
         have c23b1 : decide (0 ≤ (y147.length : Int)) = true := decide_eq_true c23
         clear c23
         by_cases c24 : ((y147.length : Int) : Int).toNat ≤ 281474976710656
         ·rw [if_pos c24] at H
          have c24b0 := eq_true c24
          have c24b1 : decide (((y147.length : Int) : Int).toNat ≤ 281474976710656) = true := decide_eq_true c24
          clear c24
          obtain ⟨y150, hy150⟩ : ∃ y_ : List Bool, y_ = (List.replicate ((y147.length : Int) : Int).toNat false) := ⟨_, rfl⟩
          replace H : (ossuarylaw8_RebuildMends.l1 k1 a2 a3 ji8 y147 y150 0 (wrap64 (1 + (wrap64 (Int.tmod (IntKind.u64.wrap (a0)) 4)))) 2) = some r := by first | (rw [hy150]; with_reducible exact H) | (have H2_ := (Option.bind_some _ _).symm.trans H; rw [hy150]; with_reducible exact H2_) | (have H2_ := (Option.bind_some _ _).symm.trans H; with_reducible exact H2_) | with_reducible exact H | (rw [hy150]; exact H) | exact H
          have Ny150 := mk0 hy150
          clear hy150
          have H' := mk0 H
          clear H
          have hcz25_0 : wr.cell? ⟨gb139, 0, none⟩ = some (.int .i64 (wrap64 (1 + (wrap64 (Int.tmod (IntKind.u64.wrap (a0)) 4))))) := (blk_cell BK139.out 0).trans rfl
          have hcz25_1 : wr.cell? ⟨gb139, 1, none⟩ = some (.int .i64 2) := (blk_cell BK139.out 1).trans rfl
          have hfz25_0 := blk_frozen BK139.out 0
          have hfz25_1 := blk_frozen BK139.out 1
          obtain ⟨Ao26, co26, eo26⟩ := Kd.R_slice HO_11.out
          subst eo26
          go_wp2_with (first | ((with_reducible refine gCa (f := 49) rfl ?_); refine goesL_ (some 58) rfl rfl Try.func49 (by kernel_rfl) rfl #[.agg #[.int .i64 (wrap64 (1 + (wrap64 (Int.tmod (IntKind.u64.wrap (a0)) 4)))), .int .i64 2], .slice Ao26 x11_1.length co26] rfl (by (try simp only [List.map_toArray, List.map_cons, List.map_nil]); first | done | rfl | (simp only [List.length_drop, List.length_take]; rfl)) ?_; (with_reducible refine (GRenc.ossuaryref1_Encode.calls k1 (wrap64 (1 + (wrap64 (Int.tmod (IntKind.u64.wrap (a0)) 4)))) 2 _ _ x11_1 t143 t146 _ ?side1 ?side2 A20.out).mono ?_); (case side1 => repeat (first | exact (Kd.R_reads' HO_11.out).2.2 | (with_reducible refine Kd.C_alloc ?_ _) | (with_reducible refine Kd.C_drewN ?_ _) | (with_reducible refine Kd.C_drew ?_))); (case side2 => exact (Kd.R_reads' HO_11.out).2.1); rintro e w27 ⟨v144, rfl, ho0, hb⟩; refine ⟨_, rfl, ?_⟩; have n0_ := mk0 (Kd.R_elder' (by (with_reducible repeat (first | apply rA | apply rN | apply rD)); exact HO_11.out) (Kd.R_base ho0) hb); have n1_ := mk0 (Kd.R_lower (Kd.R_new' ho0 (Kd.R_lt (by (with_reducible repeat (first | apply rA | apply rN | apply rD)); exact HO_11.out))) (below_size (by repeat (first | (with_reducible first | exact HB.out | apply lA | apply lN | apply lD | refine lT ?_ ‹_›) | exact HB.out)))); have n2_ := mk0 (blk_below (g := gb139) (o := .cells #[.int .i64 (wrap64 (1 + (wrap64 (Int.tmod (IntKind.u64.wrap (a0)) 4)))), .int .i64 2] 51 (0, 0)) (by (with_reducible repeat (first | apply bN | apply bD | apply bA)); exact BK139.out) hb); have n3_ := mk0 (below_step (by repeat (first | (with_reducible first | exact HB.out | apply lA | apply lN | apply lD | refine lT ?_ ‹_›) | exact HB.out)) hb); clear HO_11; clear BK139; clear HB; have HO_11 := n0_; have HO145 := n1_; have BK139 := n2_; have HB := n3_; clear n0_ n1_ n2_ n3_; (try clear hb); (try clear hb2); (try clear hk); (try clear hi); (try clear ho0); obtain ⟨Ao29, co29, eo29⟩ := Kd.R_slice HO145.out; subst eo29) | ((with_reducible refine gBu (b := .append) (xs := #[.tmp 63, .tmp 64]) rfl ?_); at_builtin; refine Kd.R_append_rows Kd.string (w0 := w) w.heap.size rfl (.tmp 63) (.tmp 64) 58 9 (.string ⟨#[]⟩) 16 rfl Try.underlying58 info9 rfl (by decide) (by omega) (.slice Ao26 x11_1.length co26) x11_1 t143 _ _ _ (fun k_ => some k_ ≠ (.slice Ao29 t143.length co29 : Value).ownBlock) (fun _ => False) rfl rfl ?aO ?aR (fun _ _ h => h) (fun _ h => h.elim) ?aF ?aB ?aS ?aL ?_; (case aR => repeat (first | exact (Kd.R_reads' HO145.out).2.2 | (with_reducible refine Kd.C_alloc ?_ _) | (with_reducible refine Kd.C_drewN ?_ _) | (with_reducible refine Kd.C_drew ?_))); (case aB => exact (by repeat (first | (with_reducible first | exact HB.out | apply lA | apply lN | apply lD | refine lT ?_ ‹_›) | exact HB.out))); (case aF => exact (fun k_ hk => Kd.fresh' (Kd.R_lt (by (with_reducible repeat (first | apply rA | apply rN | apply rD)); exact HO145.out)) k_ hk)); (case aO => exact (by (with_reducible repeat (first | apply rA | apply rN | apply rD)); exact Kd.R_mono HO_11.out (fun _ hk => hk.2))); (case aS => exact (below_size (by repeat (first | (with_reducible first | exact HB.out | apply lA | apply lN | apply lD | refine lT ?_ ‹_›) | exact HB.out)))); (case aL => have := LMc22.out; omega); intro v148 w28 ho hb hg hat; rw [← Ny147.out] at ho; have n0_ := mk0 (blk_grown (g := gb139) (o := .cells #[.int .i64 (wrap64 (1 + (wrap64 (Int.tmod (IntKind.u64.wrap (a0)) 4)))), .int .i64 2] 51 (0, 0)) (by (with_reducible repeat (first | apply bN | apply bD | apply bA)); exact BK139.out) hg (Kd.R_ne HO_11.out BK139.out (by decide))); have n1_ := mk0 (Kd.R_after (ok := (fun _ => True)) (by (with_reducible repeat (first | apply rA | apply rN | apply rD)); exact HO145.out) hg hat); have n2_ := mk0 (hb); have n3_ := mk0 (ho); clear BK139; clear HO145; clear HB; clear HO_11; have BK139 := n0_; have HO145 := n1_; have HB := n2_; have HO149 := n3_; clear n0_ n1_ n2_ n3_; clear ho hb hg hat; obtain ⟨Ao30, co30, eo30⟩ := Kd.R_slice HO149.out; subst eo30) | ((with_reducible refine gate_dst (N := 68) rfl ?_); refine Kd.R_make Kd.bool _ 4 rfl (N := 68) rfl 68 _ _ rfl (y147.length : Int) rfl rfl Try.underlying68 (.bool false) 1 info4 rfl (by decide) (by omega) false (ok := fun _ => True) (okp := fun _ => True) rfl (fun _ hk => hk) trivial (of_decide_eq_true (by first | (with_reducible assumption) | assumption)) (Nat.le_trans (Nat.mul_le_mul_right _ (of_decide_eq_true (by first | (with_reducible assumption) | assumption) : (y147.length : Int).toNat ≤ 281474976710656)) (by omega)) (Below.refl _ _) (Nat.le_refl _) ?_; intro v151 w31 ho32 hb hg_ hnew_; clear hg_ hnew_; (first | rw [← Ny150.out] at ho32 | (simp only [Int.reduceToNat] at ho32; rw [← Ny150.out] at ho32)); have n0_ := mk0 (Kd.R_below (by (with_reducible repeat (first | apply rA | apply rN | apply rD)); exact HO145.out) hb); have n1_ := mk0 (Kd.R_below (by (with_reducible repeat (first | apply rA | apply rN | apply rD)); exact HO149.out) hb); have n2_ := mk0 (Kd.R_lower ho32 (below_size (by repeat (first | (with_reducible first | exact HB.out | apply lA | apply lN | apply lD | refine lT ?_ ‹_›) | exact HB.out)))); have n3_ := mk0 (blk_below (g := gb139) (o := .cells #[.int .i64 (wrap64 (1 + (wrap64 (Int.tmod (IntKind.u64.wrap (a0)) 4)))), .int .i64 2] 51 (0, 0)) (by (with_reducible repeat (first | apply bN | apply bD | apply bA)); exact BK139.out) hb); have n4_ := mk0 (below_step (by repeat (first | (with_reducible first | exact HB.out | apply lA | apply lN | apply lD | refine lT ?_ ‹_›) | exact HB.out)) hb); clear HO145; clear HO149; clear BK139; clear HB; have HO145 := n0_; have HO149 := n1_; have HO152 := n2_; have BK139 := n3_; have HB := n4_; clear n0_ n1_ n2_ n3_ n4_; clear hb ho32))
          go_loopg [16] k1 (fun kq v16 w' => ∃ (x15_2 : List Bool) (x16_2 : Int), v16 = .int .i64 x16_2 ∧ Aside0 (ossuarylaw8_RebuildMends.l1 kq a2 a3 ji8 y147 x15_2 x16_2 (wrap64 (1 + (wrap64 (Int.tmod (IntKind.u64.wrap (a0)) 4)))) 2 = some r) ∧ Aside0 (kq ≤ k1) ∧ Aside0 (Kd.R Kd.string 9 w' w.heap.size (fun _ => True) (.slice Ao30 y147.length co30) y147) ∧ Aside0 (Kd.R Kd.bool 4 w' w.heap.size (fun _ => True) v151 x15_2) ∧ Aside0 (w'.heap[gb139]? = some (.cells #[.int .i64 (wrap64 (1 + (wrap64 (Int.tmod (IntKind.u64.wrap (a0)) 4)))), .int .i64 2] 51 (0, 0))) ∧ Aside0 (Below w.heap.size w w'))
          case atStart => exact ⟨(y150), (0), (by first | rfl | (simp; done) | (simp [*]; done)), H', ⟨Nat.le_refl _⟩, ⟨by (with_reducible repeat (first | apply rA | apply rN | apply rD)); exact Kd.R_mono HO149.out (fun _ hk => trivial)⟩, ⟨by (with_reducible repeat (first | apply rA | apply rN | apply rD)); exact HO152.out⟩, ⟨by (with_reducible repeat (first | apply bN | apply bD | apply bA)); exact BK139.out⟩, ⟨by repeat (first | (with_reducible first | exact HB.out | apply lA | apply lN | apply lD | refine lT ?_ ‹_›) | exact HB.out)⟩⟩
          case round =>
           clear H'
           try clear c1
           try clear c2
           try clear p2
           try clear c4
           try clear c6
           try clear p6
           try clear c7
           try clear c7b0
           try clear c7b1
           try clear c12
           try clear c12b0
           try clear c14
           try clear c14b0
           try clear c14b1
           try clear c15
           try clear c15b0
           try clear c15b1
           try clear c16
           try clear c16b0
           try clear c16b1
           try clear c17
           try clear c21
           try clear c21b0
           try clear c21b1
           try clear c22
           try clear c23
           try clear c23b0
           try clear c23b1
           try clear c24
           try clear c24b0
           try clear c24b1
           try clear hcz11_0
           try clear hcz11_1
           try clear hcz18_0
           try clear hcz18_1
           try clear hcz25_0
           try clear hcz25_1
           try clear hfz11_0
           try clear hfz11_1
           try clear hfz18_0
           try clear hfz18_1
           try clear hfz25_0
           try clear hfz25_1
           try clear p2
           try clear p6
           obtain ⟨x15_2, x16_2, rfl, HA, HK2, HO_11, HO_15, BK139, HB⟩ := hrel
           cases gk with
           | zero => exact absurd HA.out (by simp [ossuarylaw8_RebuildMends.l1])
           | succ k2 =>
            have H := HA.out
            clear HA
            simp only [ossuarylaw8_RebuildMends.l1] at H
            by_cases c33 : x16_2 < (y147.length : Int)
            ·rw [if_pos c33] at H
             have c33b0 : decide (x16_2 < (y147.length : Int)) = true := decide_eq_true c33
             clear c33
             by_cases c34 : 0 ≤ x16_2
             ·rw [if_pos c34] at H
              have c34b0 : decide (0 ≤ x16_2) = true := decide_eq_true c34
              clear c34
              by_cases c35 : x16_2 < (x15_2.length : Int)
              ·rw [if_pos c35] at H
               have c35b0 : decide (x16_2 < (x15_2.length : Int)) = true := decide_eq_true c35
               clear c35
               obtain ⟨y153, hy153⟩ : ∃ y_ : List Bool, y_ = (x15_2.set (x16_2 : Int).toNat true) := ⟨_, rfl⟩
               replace H : (ossuarylaw8_RebuildMends.l1 k2 a2 a3 ji8 y147 y153 (wrap64 (x16_2 + 1)) (wrap64 (1 + (wrap64 (Int.tmod (IntKind.u64.wrap (a0)) 4)))) 2) = some r := by first | (rw [hy153]; with_reducible exact H) | (have H2_ := (Option.bind_some _ _).symm.trans H; rw [hy153]; with_reducible exact H2_) | (have H2_ := (Option.bind_some _ _).symm.trans H; with_reducible exact H2_) | with_reducible exact H | (rw [hy153]; exact H) | exact H
               have Ny153 := mk0 hy153
               clear hy153
               have H' := mk0 H
               clear H
               have p36 : 0 ≤ (x16_2 : Int) := of_decide_eq_true (by first | (with_reducible assumption) | assumption)
               have q36 : (x16_2 : Int) < ((x15_2.length : Int) : Int) := of_decide_eq_true (by first | (with_reducible assumption) | assumption)
               obtain ⟨go36, co36, eo36, gb36, gl36, cl36, HG36⟩ := Kd.R_form HO_15.out (by omega)
               (first | cases eo36 | (injection eo36 with ea_ en_ ec_; (first | subst ea_ | (injection ea_ with ea_; subst ea_)); subst ec_; clear en_))
               have GB36 := mk0 gb36
               have GG36 := mk0 HG36
               clear gb36 gl36 HG36
               obtain ⟨hx36_0, hf36_0⟩ := Kd.R_celln false HO_15.out (x16_2 : Int) p36 q36
               replace p36 := eq_true p36
               replace q36 := eq_true q36
               have HP37 := Kd.R_putg HO_15.out (x16_2 : Int) true
               go_wp2_with (first | ((with_reducible refine gate_store (t := 4) (p := 77) rfl ?_); refine store_event (t := 4) (p := 77) (v := ?vo_w38) (w1 := (wr.setCell ⟨go36, (x16_2 : Int).toNat, none⟩ (.bool true))) ?hg ?ho ?hn ?hr ?_; (case ho => rfl); (case hg => rfl); (case hn => rfl); (case hr => first | (go_simp; done) | (go_simp; rfl)); intro w38 hw; have hg : wr.grownBy w38 (some go36) := (by rw [hw]; exact HP37.2); have hp_ : Kd.R Kd.bool 4 w38 w.heap.size (fun _ => True) (.slice (some ⟨go36, 0, none⟩) x15_2.length co36) y153 := (by rw [hw, Ny153.out]; exact HP37.1); clear HP37; have n0_ := mk0 (Kd.R_over' (v := (.slice (some ⟨go36, 0, none⟩) x15_2.length co36)) (by (with_reducible repeat (first | apply rA | apply rN | apply rD)); exact HO_11.out) (Kd.R_typed HO_15.out) (by decide) hg); have n1_ := mk0 (hp_); have n2_ := mk0 (blk_grown (g := gb139) (o := .cells #[.int .i64 (wrap64 (1 + (wrap64 (Int.tmod (IntKind.u64.wrap (a0)) 4)))), .int .i64 2] 51 (0, 0)) (by (with_reducible repeat (first | apply bN | apply bD | apply bA)); exact BK139.out) hg (Kd.R_ne HO_15.out BK139.out (by decide))); have n3_ := mk0 ((by rw [hw]; exact below_set (HB.out) GB36.out : Below w.heap.size w w38)); clear HO_11; clear HO_15; clear BK139; clear HB; have HO_11 := n0_; have HO_15 := n1_; have BK139 := n2_; have HB := n3_; clear n0_ n1_ n2_ n3_; clear hg hw hp_))
               go_roundg k2
               case measure => have := HK1.out; have := HK2.out; omega
               case rel => exact ⟨(y153), (wrap64 (x16_2 + 1)), (by first | rfl | (simp; done) | (simp [*]; done)), H', ⟨by have := HK1.out; have := HK2.out; omega⟩, ⟨by (with_reducible repeat (first | apply rA | apply rN | apply rD)); exact HO_11.out⟩, ⟨by (with_reducible repeat (first | apply rA | apply rN | apply rD)); exact HO_15.out⟩, ⟨by (with_reducible repeat (first | apply bN | apply bD | apply bA)); exact BK139.out⟩, ⟨by repeat (first | (with_reducible first | exact HB.out | apply lA | apply lN | apply lD | refine lT ?_ ‹_›) | exact HB.out)⟩⟩
              ·rw [if_neg c35] at H
               exact absurd H (by simp)
             ·rw [if_neg c34] at H
              exact absurd H (by simp)
            ·rw [if_neg c33] at H
             have c33b0 : decide (x16_2 < (y147.length : Int)) = false := decide_eq_false c33
             clear c33
             obtain ⟨y154, hy154⟩ : ∃ y_ : List ByteArray, y_ = (([] : List ByteArray)) := ⟨_, rfl⟩
             replace H : (if y154.length + y147.length < 8796093022208 then ((some (y154 ++ y147 : List ByteArray)).bind fun y157 => (if ji8 > 0 then (if 0 ≤ (wrap64 ((wrap64 (1 + (wrap64 (Int.tmod (IntKind.u64.wrap (a0)) 4)))) + (Go.bits .and .i64 a2 1))) then (if (wrap64 ((wrap64 (1 + (wrap64 (Int.tmod (IntKind.u64.wrap (a0)) 4)))) + (Go.bits .and .i64 a2 1))) < (y157.length : Int) then (if (IntKind.u64.wrap (ji8)) = 0 then (none) else (if 0 ≤ (wrap64 (Int.tmod (IntKind.u64.wrap (a3)) (IntKind.u64.wrap (ji8)))) then (if (wrap64 (Int.tmod (IntKind.u64.wrap (a3)) (IntKind.u64.wrap (ji8)))) < ((rdOf ByteArray.empty y157 (wrap64 ((wrap64 (1 + (wrap64 (Int.tmod (IntKind.u64.wrap (a0)) 4)))) + (Go.bits .and .i64 a2 1)))).size : Int) then ((GEnc.rebuild_Rebuild.f k2 (wrap64 (1 + (wrap64 (Int.tmod (IntKind.u64.wrap (a0)) 4)))) 2 (y157.set ((wrap64 ((wrap64 (1 + (wrap64 (Int.tmod (IntKind.u64.wrap (a0)) 4)))) + (Go.bits .and .i64 a2 1))) : Int).toNat (Pr.mendF a3 (wrap64 (Int.tmod (IntKind.u64.wrap (a3)) (IntKind.u64.wrap (ji8)))) (rdOf ByteArray.empty y157 (wrap64 ((wrap64 (1 + (wrap64 (Int.tmod (IntKind.u64.wrap (a0)) 4)))) + (Go.bits .and .i64 a2 1)))))) x15_2).bind fun bt162 => ((GBase.ossuarylaw0_Num.f bt162.2).bind fun t166 => (if t166 = 0 then ((GVec.ossuarylaw0_SameTexts.f k2 bt162.1 y147).bind fun t167 => (some t167)) else (some false)))) else (none)) else (none))) else (none)) else (none)) else ((GEnc.rebuild_Rebuild.f k2 (wrap64 (1 + (wrap64 (Int.tmod (IntKind.u64.wrap (a0)) 4)))) 2 y157 x15_2).bind fun bt168 => ((GBase.ossuarylaw0_Num.f bt168.2).bind fun t172 => (if t172 = 0 then ((GVec.ossuarylaw0_SameTexts.f k2 bt168.1 y147).bind fun t173 => (some t173)) else (some false)))))) else (none)) = some r := by first | (rw [hy154]; with_reducible exact H) | (have H2_ := (Option.bind_some _ _).symm.trans H; rw [hy154]; with_reducible exact H2_) | (have H2_ := (Option.bind_some _ _).symm.trans H; with_reducible exact H2_) | with_reducible exact H | (rw [hy154]; exact H) | exact H
             have Ny154 := mk0 hy154
             clear hy154
             by_cases c39 : y154.length + y147.length < 8796093022208
             ·rw [if_pos c39] at H
              have LMc39 := mk0 c39
              clear c39
              obtain ⟨y157, hy157⟩ : ∃ y_ : List ByteArray, y_ = (y154 ++ y147) := ⟨_, rfl⟩
              replace H : (if ji8 > 0 then (if 0 ≤ (wrap64 ((wrap64 (1 + (wrap64 (Int.tmod (IntKind.u64.wrap (a0)) 4)))) + (Go.bits .and .i64 a2 1))) then (if (wrap64 ((wrap64 (1 + (wrap64 (Int.tmod (IntKind.u64.wrap (a0)) 4)))) + (Go.bits .and .i64 a2 1))) < (y157.length : Int) then (if (IntKind.u64.wrap (ji8)) = 0 then (none) else (if 0 ≤ (wrap64 (Int.tmod (IntKind.u64.wrap (a3)) (IntKind.u64.wrap (ji8)))) then (if (wrap64 (Int.tmod (IntKind.u64.wrap (a3)) (IntKind.u64.wrap (ji8)))) < ((rdOf ByteArray.empty y157 (wrap64 ((wrap64 (1 + (wrap64 (Int.tmod (IntKind.u64.wrap (a0)) 4)))) + (Go.bits .and .i64 a2 1)))).size : Int) then ((GEnc.rebuild_Rebuild.f k2 (wrap64 (1 + (wrap64 (Int.tmod (IntKind.u64.wrap (a0)) 4)))) 2 (y157.set ((wrap64 ((wrap64 (1 + (wrap64 (Int.tmod (IntKind.u64.wrap (a0)) 4)))) + (Go.bits .and .i64 a2 1))) : Int).toNat (Pr.mendF a3 (wrap64 (Int.tmod (IntKind.u64.wrap (a3)) (IntKind.u64.wrap (ji8)))) (rdOf ByteArray.empty y157 (wrap64 ((wrap64 (1 + (wrap64 (Int.tmod (IntKind.u64.wrap (a0)) 4)))) + (Go.bits .and .i64 a2 1)))))) x15_2).bind fun bt162 => ((GBase.ossuarylaw0_Num.f bt162.2).bind fun t166 => (if t166 = 0 then ((GVec.ossuarylaw0_SameTexts.f k2 bt162.1 y147).bind fun t167 => (some t167)) else (some false)))) else (none)) else (none))) else (none)) else (none)) else ((GEnc.rebuild_Rebuild.f k2 (wrap64 (1 + (wrap64 (Int.tmod (IntKind.u64.wrap (a0)) 4)))) 2 y157 x15_2).bind fun bt168 => ((GBase.ossuarylaw0_Num.f bt168.2).bind fun t172 => (if t172 = 0 then ((GVec.ossuarylaw0_SameTexts.f k2 bt168.1 y147).bind fun t173 => (some t173)) else (some false))))) = some r := by first | (rw [hy157]; with_reducible exact H) | (have H2_ := (Option.bind_some _ _).symm.trans H; rw [hy157]; with_reducible exact H2_) | (have H2_ := (Option.bind_some _ _).symm.trans H; with_reducible exact H2_) | with_reducible exact H | (rw [hy157]; exact H) | exact H
              have Ny157 := mk0 hy157
              clear hy157
              by_cases c40 : ji8 > 0
              ·rw [if_pos c40] at H
               have c40b0 : decide (0 < ji8) = true := decide_eq_true c40
               clear c40
               obtain ⟨ji41, hji41⟩ : ∃ j_ : Int, (wrap64 ((wrap64 (1 + (wrap64 (Int.tmod (IntKind.u64.wrap (a0)) 4)))) + (Go.bits .and .i64 a2 1))) = j_ := ⟨_, rfl⟩
               replace H : (if 0 ≤ (ji41) then (if (ji41) < (y157.length : Int) then (if (IntKind.u64.wrap (ji8)) = 0 then (none) else (if 0 ≤ (wrap64 (Int.tmod (IntKind.u64.wrap (a3)) (IntKind.u64.wrap (ji8)))) then (if (wrap64 (Int.tmod (IntKind.u64.wrap (a3)) (IntKind.u64.wrap (ji8)))) < ((rdOf ByteArray.empty y157 (ji41)).size : Int) then ((GEnc.rebuild_Rebuild.f k2 (wrap64 (1 + (wrap64 (Int.tmod (IntKind.u64.wrap (a0)) 4)))) 2 (y157.set ((ji41) : Int).toNat (Pr.mendF a3 (wrap64 (Int.tmod (IntKind.u64.wrap (a3)) (IntKind.u64.wrap (ji8)))) (rdOf ByteArray.empty y157 (ji41)))) x15_2).bind fun bt162 => ((GBase.ossuarylaw0_Num.f bt162.2).bind fun t166 => (if t166 = 0 then ((GVec.ossuarylaw0_SameTexts.f k2 bt162.1 y147).bind fun t167 => (some t167)) else (some false)))) else (none)) else (none))) else (none)) else (none)) = some r := by first | (rw [hji41] at H; exact H) | (simp only [hji41] at H ⊢; exact H)
               have hji41w : (IntKind.i64.wrap ((wrap64 (1 + (wrap64 (Int.tmod (IntKind.u64.wrap (a0)) 4)))) + (Go.bits .and .i64 a2 1))) = ji41 := (i64_w _).trans hji41
               by_cases c42 : 0 ≤ (ji41)
               ·rw [if_pos c42] at H
                have c42b0 : decide (0 ≤ (ji41)) = true := decide_eq_true c42
                clear c42
                by_cases c43 : (ji41) < (y157.length : Int)
                ·rw [if_pos c43] at H
                 have c43b0 : decide ((ji41) < (y157.length : Int)) = true := decide_eq_true c43
                 clear c43
                 by_cases c44 : (IntKind.u64.wrap (ji8)) = 0
                 ·rw [if_pos c44] at H
                  exact absurd H (by simp)
                 ·rw [if_neg c44] at H
                  have c44b0 : ((IntKind.u64.wrap (ji8)) == 0) = false := beq_eq_false_iff_ne.mpr c44
                  have c44b1 : ((IntKind.u64.wrap (ji8)) != 0) = true := bne_iff_ne.mpr c44
                  obtain ⟨ji45, hji45⟩ : ∃ j_ : Int, (wrap64 (Int.tmod (IntKind.u64.wrap (a3)) (IntKind.u64.wrap (ji8)))) = j_ := ⟨_, rfl⟩
                  replace H : (if 0 ≤ (ji45) then (if (ji45) < ((rdOf ByteArray.empty y157 (ji41)).size : Int) then ((GEnc.rebuild_Rebuild.f k2 (wrap64 (1 + (wrap64 (Int.tmod (IntKind.u64.wrap (a0)) 4)))) 2 (y157.set ((ji41) : Int).toNat (Pr.mendF a3 (ji45) (rdOf ByteArray.empty y157 (ji41)))) x15_2).bind fun bt162 => ((GBase.ossuarylaw0_Num.f bt162.2).bind fun t166 => (if t166 = 0 then ((GVec.ossuarylaw0_SameTexts.f k2 bt162.1 y147).bind fun t167 => (some t167)) else (some false)))) else (none)) else (none)) = some r := by first | (rw [hji45] at H; exact H) | (simp only [hji45] at H ⊢; exact H)
                  have hji45w : (IntKind.i64.wrap (Int.tmod (IntKind.u64.wrap (a3)) (IntKind.u64.wrap (ji8)))) = ji45 := (i64_w _).trans hji45
                  by_cases c46 : 0 ≤ (ji45)
                  ·rw [if_pos c46] at H
                   have c46b0 : decide (0 ≤ (ji45)) = true := decide_eq_true c46
                   clear c46
                   by_cases c47 : (ji45) < ((rdOf ByteArray.empty y157 (ji41)).size : Int)
                   ·rw [if_pos c47] at H
                    have c47b0 : decide ((ji45) < ((rdOf ByteArray.empty y157 (ji41)).size : Int)) = true := decide_eq_true c47
                    clear c47
                    obtain ⟨y161, hy161⟩ : ∃ y_ : List ByteArray, y_ = (y157.set ((ji41) : Int).toNat (Pr.mendF a3 (ji45) (rdOf ByteArray.empty y157 (ji41)))) := ⟨_, rfl⟩
                    replace H : ((GEnc.rebuild_Rebuild.f k2 (wrap64 (1 + (wrap64 (Int.tmod (IntKind.u64.wrap (a0)) 4)))) 2 y161 x15_2).bind fun bt162 => ((GBase.ossuarylaw0_Num.f bt162.2).bind fun t166 => (if t166 = 0 then ((GVec.ossuarylaw0_SameTexts.f k2 bt162.1 y147).bind fun t167 => (some t167)) else (some false)))) = some r := by first | (rw [hy161]; with_reducible exact H) | (have H2_ := (Option.bind_some _ _).symm.trans H; rw [hy161]; with_reducible exact H2_) | (have H2_ := (Option.bind_some _ _).symm.trans H; with_reducible exact H2_) | with_reducible exact H | (rw [hy161]; exact H) | exact H
                    have Ny161 := mk0 hy161
                    clear hy161
                    replace H := Option.bind_eq_some_iff.mp H
                    obtain ⟨⟨t162, t165⟩, A500, H⟩ := H
                    replace H : ((GBase.ossuarylaw0_Num.f t165).bind fun t166 => (if t166 = 0 then ((GVec.ossuarylaw0_SameTexts.f k2 t162 y147).bind fun t167 => (some t167)) else (some false))) = some r := H
                    have A50 := mk0 A500
                    clear A500
                    replace H := Option.bind_eq_some_iff.mp H
                    obtain ⟨t166, A510, H⟩ := H
                    replace H : (if t166 = 0 then ((GVec.ossuarylaw0_SameTexts.f k2 t162 y147).bind fun t167 => (some t167)) else (some false)) = some r := H
                    have A51 := mk0 A510
                    clear A510
                    by_cases c52 : t166 = 0
                    ·rw [if_pos c52] at H
                     have c52b0 : (t166 == 0) = true := beq_iff_eq.mpr c52
                     have c52b1 : (t166 != 0) = false := bne_eq_false_iff_eq.mpr c52
                     clear c52
                     replace H := Option.bind_eq_some_iff.mp H
                     obtain ⟨t167, A530, H⟩ := H
                     replace H : (some t167) = some r := H
                     have A53 := mk0 A530
                     clear A530
                     obtain rfl := Option.some.inj H
                     go_wp2_with (first | ((with_reducible refine gate_dst (N := 78) rfl ?_); refine Kd.R_lit Kd.string _ 9 ?hg (N := 78) ?hd (xs := ([] : List ByteArray)) (inner := []) (ok := fun _ => True) (okp := fun _ => True) ?hr ?hp (fun _ hk => hk) trivial (Below.refl _ _) (Nat.le_refl _) (by simp) ?_; (case hd => rfl); (case hg => rfl); (case hr => first | (go_simp; done) | (go_simp; rfl)); (case hp => exact (Reps.none _ _)); intro v155 w54 ho55 hb hg_ hnew_; clear hg_ hnew_; (first | rw [← Ny154.out] at ho55 | (simp only [Int.reduceToNat] at ho55; rw [← Ny154.out] at ho55)); have n0_ := mk0 (Kd.R_elder' (by (with_reducible repeat (first | apply rA | apply rN | apply rD)); exact HO_11.out) (Kd.R_base ho55) hb); have n1_ := mk0 (Kd.R_below (by (with_reducible repeat (first | apply rA | apply rN | apply rD)); exact HO_15.out) hb); have n2_ := mk0 (Kd.R_lower (Kd.R_new' ho55 (Kd.R_lt (by (with_reducible repeat (first | apply rA | apply rN | apply rD)); exact HO_11.out))) (below_size (by repeat (first | (with_reducible first | exact HB.out | apply lA | apply lN | apply lD | refine lT ?_ ‹_›) | exact HB.out)))); have n3_ := mk0 (blk_below (g := gb139) (o := .cells #[.int .i64 (wrap64 (1 + (wrap64 (Int.tmod (IntKind.u64.wrap (a0)) 4)))), .int .i64 2] 51 (0, 0)) (by (with_reducible repeat (first | apply bN | apply bD | apply bA)); exact BK139.out) hb); have n4_ := mk0 (below_step (by repeat (first | (with_reducible first | exact HB.out | apply lA | apply lN | apply lD | refine lT ?_ ‹_›) | exact HB.out)) hb); clear HO_11; clear HO_15; clear BK139; clear HB; have HO_11 := n0_; have HO_15 := n1_; have HO156 := n2_; have BK139 := n3_; have HB := n4_; clear n0_ n1_ n2_ n3_ n4_; clear hb ho55) | ((with_reducible refine gBu (b := .append) (xs := #[.tmp 78, .tmp 79]) rfl ?_); at_builtin; refine Kd.R_append_rows Kd.string (w0 := w) w.heap.size rfl (.tmp 78) (.tmp 79) 58 9 (.string ⟨#[]⟩) 16 rfl Try.underlying58 info9 rfl (by decide) (by omega) v155 y154 y147 _ _ _ (fun k_ => some k_ ≠ (.slice Ao30 y147.length co30 : Value).ownBlock) (fun _ => False) rfl rfl ?aO ?aR (fun _ _ h => h) (fun _ h => h.elim) ?aF ?aB ?aS ?aL ?_; (case aR => repeat (first | exact (Kd.R_reads' HO_11.out).2.2 | (with_reducible refine Kd.C_alloc ?_ _) | (with_reducible refine Kd.C_drewN ?_ _) | (with_reducible refine Kd.C_drew ?_))); (case aB => exact (by repeat (first | (with_reducible first | exact HB.out | apply lA | apply lN | apply lD | refine lT ?_ ‹_›) | exact HB.out))); (case aF => exact (fun k_ hk => Kd.fresh' (Kd.R_lt (by (with_reducible repeat (first | apply rA | apply rN | apply rD)); exact HO_11.out)) k_ hk)); (case aO => exact (by (with_reducible repeat (first | apply rA | apply rN | apply rD)); exact Kd.R_mono HO156.out (fun _ hk => hk.2))); (case aS => exact (below_size (by repeat (first | (with_reducible first | exact HB.out | apply lA | apply lN | apply lD | refine lT ?_ ‹_›) | exact HB.out)))); (case aL => have := LMc39.out; omega); intro v158 w56 ho hb hg hat; rw [← Ny157.out] at ho; have n0_ := mk0 (Kd.R_after (ok := (fun _ => True)) (by (with_reducible repeat (first | apply rA | apply rN | apply rD)); exact HO_11.out) hg hat); have n1_ := mk0 (Kd.R_over' (by (with_reducible repeat (first | apply rA | apply rN | apply rD)); exact HO_15.out) (Kd.R_typed (by (with_reducible repeat (first | apply rA | apply rN | apply rD)); exact HO156.out)) (by decide) hg); have n2_ := mk0 (blk_grown (g := gb139) (o := .cells #[.int .i64 (wrap64 (1 + (wrap64 (Int.tmod (IntKind.u64.wrap (a0)) 4)))), .int .i64 2] 51 (0, 0)) (by (with_reducible repeat (first | apply bN | apply bD | apply bA)); exact BK139.out) hg (Kd.R_ne HO156.out BK139.out (by decide))); have n3_ := mk0 (hb); have n4_ := mk0 (ho); clear HO_11; clear HO_15; clear BK139; clear HB; clear HO156; have HO_11 := n0_; have HO_15 := n1_; have BK139 := n2_; have HB := n3_; have HO159 := n4_; clear n0_ n1_ n2_ n3_ n4_; clear ho hb hg hat; have hcz57_0 : w56.cell? ⟨gb139, 0, none⟩ = some (.int .i64 (wrap64 (1 + (wrap64 (Int.tmod (IntKind.u64.wrap (a0)) 4))))) := (blk_cell BK139.out 0).trans rfl; have hcz57_1 : w56.cell? ⟨gb139, 1, none⟩ = some (.int .i64 2) := (blk_cell BK139.out 1).trans rfl; have hfz57_0 := blk_frozen BK139.out 0; have hfz57_1 := blk_frozen BK139.out 1; obtain ⟨Ao58, co58, eo58⟩ := Kd.R_slice HO159.out; subst eo58; have p160 : 0 ≤ ((ji41) : Int) := of_decide_eq_true (by first | (with_reducible assumption) | assumption); have q160 : (ji41) < (y157.length : Int) := of_decide_eq_true (by first | (with_reducible assumption) | assumption); obtain ⟨ad160, e160, hx160_0⟩ := Kd.at_string (Kd.R_reads' HO159.out).2.2 (ji41) p160 q160; cases e160; replace p160 := eq_true p160; replace q160 := eq_true q160; have p48 : 0 ≤ ((ji45) : Int) := of_decide_eq_true (by first | (with_reducible assumption) | assumption); have q48 : (ji45) < ((rdOf ByteArray.empty y157 (ji41)).size : Int) := of_decide_eq_true (by first | (with_reducible assumption) | assumption); replace p48 := eq_true p48; replace q48 := eq_true q48; have p49 : 0 ≤ ((ji41) : Int) := of_decide_eq_true (by first | (with_reducible assumption) | assumption); have q49 : ((ji41) : Int) < ((y157.length : Int) : Int) := of_decide_eq_true (by first | (with_reducible assumption) | assumption); obtain ⟨go49, co49, eo49, gb49, gl49, cl49, HG49⟩ := Kd.R_form HO159.out (by omega); (first | cases eo49 | (injection eo49 with ea_ en_ ec_; (first | subst ea_ | (injection ea_ with ea_; subst ea_)); subst ec_; clear en_)); have GB49 := mk0 gb49; have GG49 := mk0 HG49; clear gb49 gl49 HG49; (first | simp only [add_plain] at hx160_0 | skip); obtain ⟨hx49_0, hf49_0⟩ := Kd.R_celln (⟨#[]⟩ : ByteArray) HO159.out ((ji41) : Int) p49 q49; replace p49 := eq_true p49; replace q49 := eq_true q49; obtain ⟨hy59_, hz59_⟩ := Kd.R_celln (⟨#[]⟩ : ByteArray) HO159.out ((ji41) : Int) (of_decide_eq_true (by first | (with_reducible assumption) | assumption)) (of_decide_eq_true (by first | (with_reducible assumption) | assumption))) | ((with_reducible refine gate_dst (N := 92) rfl ?_); refine Pr.conv_event (by rfl) (N := 92) (by rfl) (s := (rdOf ByteArray.empty y157 (ji41))) (by have kb := fun W => print_bytes (P := Try.prog) 9 66 5 Try.underlying9 Try.underlying66 Try.underlying5 (rdOf ByteArray.empty y157 (ji41)) W; go_simp; first | done | rfl) ?_; intro gB CB cB wA hgB BYA_ hbA; have BYA := mk0 BYA_; have HBA := mk0 hbA; have GBA := mk0 hgB; have p70 : 0 ≤ ((ji45) : Int) := of_decide_eq_true (by first | (with_reducible assumption) | assumption); have q70 : (ji45) < ((rdOf ByteArray.empty y157 (ji41)).size : Int) := of_decide_eq_true (by first | (with_reducible assumption) | assumption); have hxA_ := BYA.out.cell (j := ((ji45) : Int).toNat) (by omega); rw [if_neg (Nat.not_lt_zero _)] at hxA_; have hfA_ := BYA.out.frozen (j := ((ji45) : Int).toNat) (by omega); clear BYA_ hbA hgB p70 q70) | ((with_reducible refine gate_store (t := 5) (p := 107) rfl ?_); refine store_event (t := 5) (p := 107) (v := ?vo_wB) (w1 := (wA.setCell ⟨gB, ((ji45) : Int).toNat, none⟩ (.int .u8 (Go.bits .xor .u8 (Pr.by_ (rdOf ByteArray.empty y157 (ji41)) ((ji45) : Int).toNat) (IntKind.u8.wrap (wrap64 (1 + Go.bits .and .i64 a3 127))))))) ?hg ?ho ?hn ?hr ?_; (case ho => rfl); (case hg => rfl); (case hn => rfl); (case hr => first | (go_simp; done) | (go_simp; rfl)); intro wB hw; have hb : Below w56.heap.size w56 wB := (by rw [hw]; exact (HBA.out.setCell (by rw [GBA.out]; exact Nat.le_refl _) _)); have hcv := Pr.string_of_cells (P := Try.prog) (c := cB) Try.underlying66 Try.underlying5 Try.underlying9 (BYA.out.mend (j := ((ji45) : Int).toNat) (by have h_ := of_decide_eq_true c47b0; have h2_ := of_decide_eq_true c46b0; omega) (Go.bits .xor .u8 (Pr.by_ (rdOf ByteArray.empty y157 (ji41)) ((ji45) : Int).toNat) (IntKind.u8.wrap (wrap64 (1 + Go.bits .and .i64 a3 127))))); rw [← hw] at hcv; have n0_ := mk0 (Kd.R_below (by (with_reducible repeat (first | apply rA | apply rN | apply rD)); exact HO_11.out) hb); have n1_ := mk0 (Kd.R_below (by (with_reducible repeat (first | apply rA | apply rN | apply rD)); exact HO_15.out) hb); have n2_ := mk0 (Kd.R_below (by (with_reducible repeat (first | apply rA | apply rN | apply rD)); exact HO159.out) hb); have n3_ := mk0 (blk_below (g := gb139) (o := .cells #[.int .i64 (wrap64 (1 + (wrap64 (Int.tmod (IntKind.u64.wrap (a0)) 4)))), .int .i64 2] 51 (0, 0)) (by (with_reducible repeat (first | apply bN | apply bD | apply bA)); exact BK139.out) hb); have n4_ := mk0 (below_step (by repeat (first | (with_reducible first | exact HB.out | apply lA | apply lN | apply lD | refine lT ?_ ‹_›) | exact HB.out)) hb); clear HO_11 HO_15 HO159 BK139 HB; have HO_11 := n0_; have HO_15 := n1_; have HO159 := n2_; have BK139 := n3_; have HB := n4_; clear n0_ n1_ n2_ n3_ n4_; clear hb hw BYA HBA GBA hxA_ hfA_; obtain ⟨hy59_, hz59_⟩ := Kd.R_celln (⟨#[]⟩ : ByteArray) HO159.out ((ji41) : Int) (of_decide_eq_true (by first | (with_reducible assumption) | assumption)) (of_decide_eq_true (by first | (with_reducible assumption) | assumption)); have HP59 := Kd.R_putg HO159.out ((ji41) : Int) (Pr.mendF a3 (ji45) (rdOf ByteArray.empty y157 (ji41)))) | ((with_reducible refine gate_store (t := 9) (p := 112) rfl ?_); refine store_event (t := 9) (p := 112) (v := ?vo_w60) (w1 := (wB.setCell ⟨go49, ((ji41) : Int).toNat, none⟩ (.string (Pr.mendF a3 (ji45) (rdOf ByteArray.empty y157 (ji41)))))) ?hg ?ho ?hn ?hr ?_; (case ho => rfl); (case hg => rfl); (case hn => rfl); (case hr => first | (go_simp; done) | (go_simp; rfl)); intro w60 hw; have hg : wB.grownBy w60 (some go49) := (by rw [hw]; exact HP59.2); have hp_ : Kd.R Kd.string 9 w60 w.heap.size (fun k_ => some k_ ≠ (.slice Ao30 y147.length co30 : Value).ownBlock) (.slice (some ⟨go49, 0, none⟩) y157.length co58) y161 := (by rw [hw, Ny161.out]; exact HP59.1); clear HP59; have n0_ := mk0 (Kd.R_after (v := (.slice (some ⟨go49, 0, none⟩) y157.length co58)) (v1 := (.slice (some ⟨go49, 0, none⟩) y157.length co58)) (ok := (fun _ => True)) (by (with_reducible repeat (first | apply rA | apply rN | apply rD)); exact HO_11.out) hg (.inl rfl)); have n1_ := mk0 (Kd.R_over' (v := (.slice (some ⟨go49, 0, none⟩) y157.length co58)) (by (with_reducible repeat (first | apply rA | apply rN | apply rD)); exact HO_15.out) (Kd.R_typed HO159.out) (by decide) hg); have n2_ := mk0 (blk_grown (g := gb139) (o := .cells #[.int .i64 (wrap64 (1 + (wrap64 (Int.tmod (IntKind.u64.wrap (a0)) 4)))), .int .i64 2] 51 (0, 0)) (by (with_reducible repeat (first | apply bN | apply bD | apply bA)); exact BK139.out) hg (Kd.R_ne HO159.out BK139.out (by decide))); have n3_ := mk0 (hp_); have n4_ := mk0 ((by rw [hw]; exact below_set (HB.out) GB49.out : Below w.heap.size w w60)); clear HO_11; clear HO_15; clear BK139; clear HO159; clear HB; have HO_11 := n0_; have HO_15 := n1_; have BK139 := n2_; have HO159 := n3_; have HB := n4_; clear n0_ n1_ n2_ n3_ n4_; clear hg hw hp_; have hcz61_0 : w60.cell? ⟨gb139, 0, none⟩ = some (.int .i64 (wrap64 (1 + (wrap64 (Int.tmod (IntKind.u64.wrap (a0)) 4))))) := (blk_cell BK139.out 0).trans rfl; have hcz61_1 : w60.cell? ⟨gb139, 1, none⟩ = some (.int .i64 2) := (blk_cell BK139.out 1).trans rfl; have hfz61_0 := blk_frozen BK139.out 0; have hfz61_1 := blk_frozen BK139.out 1; obtain ⟨Ao62, co62, eo62⟩ := Kd.R_slice HO_15.out; subst eo62) | ((with_reducible refine gCa (f := 59) rfl ?_); refine goesL_ (some 117) rfl rfl Try.func59 (by kernel_rfl) rfl #[.agg #[.int .i64 (wrap64 (1 + (wrap64 (Int.tmod (IntKind.u64.wrap (a0)) 4)))), .int .i64 2], .slice (some ⟨go49, 0, none⟩) y161.length co58, .slice Ao62 x15_2.length co62] rfl (by (try simp only [List.map_toArray, List.map_cons, List.map_nil]); first | done | (rw [show y161.length = y157.length from (Kd.R_reads' HO159.out).1.symm] <;> rfl) | rfl | (simp only [List.length_drop, List.length_take]; rfl)) ?_; (with_reducible refine (GEnc.rebuild_Rebuild.calls k2 (wrap64 (1 + (wrap64 (Int.tmod (IntKind.u64.wrap (a0)) 4)))) 2 _ _ y161 _ _ x15_2 t162 t165 _ ?side1 ?side2 ?side3 ?side4 A50.out).mono ?_); (case side1 => repeat (first | exact (Kd.R_reads' HO159.out).2.2 | (with_reducible refine Kd.C_alloc ?_ _) | (with_reducible refine Kd.C_drewN ?_ _) | (with_reducible refine Kd.C_drew ?_))); (case side2 => rw [show y161.length = y157.length from (Kd.R_reads' HO159.out).1.symm]; exact (Kd.R_reads' HO159.out).2.1); (case side3 => repeat (first | exact (Kd.R_reads' HO_15.out).2.2 | (with_reducible refine Kd.C_alloc ?_ _) | (with_reducible refine Kd.C_drewN ?_ _) | (with_reducible refine Kd.C_drew ?_))); (case side4 => exact (Kd.R_reads' HO_15.out).2.1); rintro e w63 ⟨v163, rfl, ho0, hb⟩; refine ⟨_, rfl, ?_⟩; have n0_ := mk0 (Kd.R_elder' (by (with_reducible repeat (first | apply rA | apply rN | apply rD)); exact HO_11.out) (Kd.R_base ho0) hb); have n1_ := mk0 (Kd.R_below (by (with_reducible repeat (first | apply rA | apply rN | apply rD)); exact HO_15.out) hb); have n2_ := mk0 (Kd.R_elder' (by (with_reducible repeat (first | apply rA | apply rN | apply rD)); exact HO159.out) (Kd.R_base ho0) hb); have n3_ := mk0 (Kd.R_lower (Kd.R_new' (Kd.R_new' ho0 (Kd.R_lt (by (with_reducible repeat (first | apply rA | apply rN | apply rD)); exact HO_11.out))) (Kd.R_lt (by (with_reducible repeat (first | apply rA | apply rN | apply rD)); exact HO159.out))) (below_size (by repeat (first | (with_reducible first | exact HB.out | apply lA | apply lN | apply lD | refine lT ?_ ‹_›) | exact HB.out)))); have n4_ := mk0 (blk_below (g := gb139) (o := .cells #[.int .i64 (wrap64 (1 + (wrap64 (Int.tmod (IntKind.u64.wrap (a0)) 4)))), .int .i64 2] 51 (0, 0)) (by (with_reducible repeat (first | apply bN | apply bD | apply bA)); exact BK139.out) hb); have n5_ := mk0 (below_step (by repeat (first | (with_reducible first | exact HB.out | apply lA | apply lN | apply lD | refine lT ?_ ‹_›) | exact HB.out)) hb); clear HO_11; clear HO_15; clear HO159; clear BK139; clear HB; have HO_11 := n0_; have HO_15 := n1_; have HO159 := n2_; have HO164 := n3_; have BK139 := n4_; have HB := n5_; clear n0_ n1_ n2_ n3_ n4_ n5_; (try clear hb); (try clear hb2); (try clear hk); (try clear hi); (try clear ho0)) | ((with_reducible refine gCa (f := 35) rfl ?_); refine goesL_ (some 121) rfl rfl Try.func35 (by kernel_rfl) rfl #[.int .i64 t165] rfl (by (try simp only [List.map_toArray, List.map_cons, List.map_nil]); first | done | rfl | (simp only [List.length_drop, List.length_take]; rfl)) ?_; (with_reducible refine (GBase.ossuarylaw0_Num.calls t165 t166 _ A51.out).mono ?_); rintro e w' ⟨rfl, ⟨nd, rfl⟩⟩; refine ⟨_, rfl, ?_⟩; obtain ⟨Ao64, co64, eo64⟩ := Kd.R_slice HO164.out; subst eo64) | (go_at_call 50; (with_reducible refine (GVec.ossuarylaw0_SameTexts.calls k2 _ _ t162 _ _ y147 t167 _ ?side1 ?side2 ?side3 ?side4 A53.out).mono ?_); (case side1 => repeat (first | exact (Kd.R_reads' HO164.out).2.2 | (with_reducible refine Kd.C_alloc ?_ _) | (with_reducible refine Kd.C_drewN ?_ _) | (with_reducible refine Kd.C_drew ?_))); (case side2 => exact (Kd.R_reads' HO164.out).2.1); (case side3 => repeat (first | exact (Kd.R_reads' HO_11.out).2.2 | (with_reducible refine Kd.C_alloc ?_ _) | (with_reducible refine Kd.C_drewN ?_ _) | (with_reducible refine Kd.C_drew ?_))); (case side4 => exact (Kd.R_reads' HO_11.out).2.1); rintro e w' ⟨rfl, ⟨nd, rfl⟩⟩))
                     go_ret
                     exact ⟨by first | rfl | (simp [errW_none, errW_some] <;> rfl) | (simp only [← hji8, ← hji41, ← hji45]; first | rfl | (simp [errW_none, errW_some] <;> rfl)) | (simp [*, errW_none, errW_some] <;> rfl), by repeat (first | (with_reducible first | exact HB.out | apply lA | apply lN | apply lD | refine lT ?_ ‹_›) | exact HB.out)⟩
                    ·rw [if_neg c52] at H
                     have c52b0 : (t166 == 0) = false := beq_eq_false_iff_ne.mpr c52
                     have c52b1 : (t166 != 0) = true := bne_iff_ne.mpr c52
                     exact absurd ((Option.some.inj H).trans HTrue.out) (by decide)
                   ·rw [if_neg c47] at H
                    exact absurd H (by simp)
                  ·rw [if_neg c46] at H
                   exact absurd H (by simp)
                ·rw [if_neg c43] at H
                 exact absurd H (by simp)
               ·rw [if_neg c42] at H
                exact absurd H (by simp)
              ·rw [if_neg c40] at H
               have c40b0 : decide (0 < ji8) = false := decide_eq_false c40
               clear c40
               replace H := Option.bind_eq_some_iff.mp H
               obtain ⟨⟨t168, t171⟩, A650, H⟩ := H
               replace H : ((GBase.ossuarylaw0_Num.f t171).bind fun t172 => (if t172 = 0 then ((GVec.ossuarylaw0_SameTexts.f k2 t168 y147).bind fun t173 => (some t173)) else (some false))) = some r := H
               have A65 := mk0 A650
               clear A650
               replace H := Option.bind_eq_some_iff.mp H
               obtain ⟨t172, A660, H⟩ := H
               replace H : (if t172 = 0 then ((GVec.ossuarylaw0_SameTexts.f k2 t168 y147).bind fun t173 => (some t173)) else (some false)) = some r := H
               have A66 := mk0 A660
               clear A660
               by_cases c67 : t172 = 0
               ·rw [if_pos c67] at H
                have c67b0 : (t172 == 0) = true := beq_iff_eq.mpr c67
                have c67b1 : (t172 != 0) = false := bne_eq_false_iff_eq.mpr c67
                clear c67
                replace H := Option.bind_eq_some_iff.mp H
                obtain ⟨t173, A680, H⟩ := H
                replace H : (some t173) = some r := H
                have A68 := mk0 A680
                clear A680
                obtain rfl := Option.some.inj H
                go_wp2_with (first | ((with_reducible refine gate_dst (N := 78) rfl ?_); refine Kd.R_lit Kd.string _ 9 ?hg (N := 78) ?hd (xs := ([] : List ByteArray)) (inner := []) (ok := fun _ => True) (okp := fun _ => True) ?hr ?hp (fun _ hk => hk) trivial (Below.refl _ _) (Nat.le_refl _) (by simp) ?_; (case hd => rfl); (case hg => rfl); (case hr => first | (go_simp; done) | (go_simp; rfl)); (case hp => exact (Reps.none _ _)); intro v155 w69 ho70 hb hg_ hnew_; clear hg_ hnew_; (first | rw [← Ny154.out] at ho70 | (simp only [Int.reduceToNat] at ho70; rw [← Ny154.out] at ho70)); have n0_ := mk0 (Kd.R_elder' (by (with_reducible repeat (first | apply rA | apply rN | apply rD)); exact HO_11.out) (Kd.R_base ho70) hb); have n1_ := mk0 (Kd.R_below (by (with_reducible repeat (first | apply rA | apply rN | apply rD)); exact HO_15.out) hb); have n2_ := mk0 (Kd.R_lower (Kd.R_new' ho70 (Kd.R_lt (by (with_reducible repeat (first | apply rA | apply rN | apply rD)); exact HO_11.out))) (below_size (by repeat (first | (with_reducible first | exact HB.out | apply lA | apply lN | apply lD | refine lT ?_ ‹_›) | exact HB.out)))); have n3_ := mk0 (blk_below (g := gb139) (o := .cells #[.int .i64 (wrap64 (1 + (wrap64 (Int.tmod (IntKind.u64.wrap (a0)) 4)))), .int .i64 2] 51 (0, 0)) (by (with_reducible repeat (first | apply bN | apply bD | apply bA)); exact BK139.out) hb); have n4_ := mk0 (below_step (by repeat (first | (with_reducible first | exact HB.out | apply lA | apply lN | apply lD | refine lT ?_ ‹_›) | exact HB.out)) hb); clear HO_11; clear HO_15; clear BK139; clear HB; have HO_11 := n0_; have HO_15 := n1_; have HO156 := n2_; have BK139 := n3_; have HB := n4_; clear n0_ n1_ n2_ n3_ n4_; clear hb ho70) | ((with_reducible refine gBu (b := .append) (xs := #[.tmp 78, .tmp 79]) rfl ?_); at_builtin; refine Kd.R_append_rows Kd.string (w0 := w) w.heap.size rfl (.tmp 78) (.tmp 79) 58 9 (.string ⟨#[]⟩) 16 rfl Try.underlying58 info9 rfl (by decide) (by omega) v155 y154 y147 _ _ _ (fun k_ => some k_ ≠ (.slice Ao30 y147.length co30 : Value).ownBlock) (fun _ => False) rfl rfl ?aO ?aR (fun _ _ h => h) (fun _ h => h.elim) ?aF ?aB ?aS ?aL ?_; (case aR => repeat (first | exact (Kd.R_reads' HO_11.out).2.2 | (with_reducible refine Kd.C_alloc ?_ _) | (with_reducible refine Kd.C_drewN ?_ _) | (with_reducible refine Kd.C_drew ?_))); (case aB => exact (by repeat (first | (with_reducible first | exact HB.out | apply lA | apply lN | apply lD | refine lT ?_ ‹_›) | exact HB.out))); (case aF => exact (fun k_ hk => Kd.fresh' (Kd.R_lt (by (with_reducible repeat (first | apply rA | apply rN | apply rD)); exact HO_11.out)) k_ hk)); (case aO => exact (by (with_reducible repeat (first | apply rA | apply rN | apply rD)); exact Kd.R_mono HO156.out (fun _ hk => hk.2))); (case aS => exact (below_size (by repeat (first | (with_reducible first | exact HB.out | apply lA | apply lN | apply lD | refine lT ?_ ‹_›) | exact HB.out)))); (case aL => have := LMc39.out; omega); intro v158 w71 ho hb hg hat; rw [← Ny157.out] at ho; have n0_ := mk0 (Kd.R_after (ok := (fun _ => True)) (by (with_reducible repeat (first | apply rA | apply rN | apply rD)); exact HO_11.out) hg hat); have n1_ := mk0 (Kd.R_over' (by (with_reducible repeat (first | apply rA | apply rN | apply rD)); exact HO_15.out) (Kd.R_typed (by (with_reducible repeat (first | apply rA | apply rN | apply rD)); exact HO156.out)) (by decide) hg); have n2_ := mk0 (blk_grown (g := gb139) (o := .cells #[.int .i64 (wrap64 (1 + (wrap64 (Int.tmod (IntKind.u64.wrap (a0)) 4)))), .int .i64 2] 51 (0, 0)) (by (with_reducible repeat (first | apply bN | apply bD | apply bA)); exact BK139.out) hg (Kd.R_ne HO156.out BK139.out (by decide))); have n3_ := mk0 (hb); have n4_ := mk0 (ho); clear HO_11; clear HO_15; clear BK139; clear HB; clear HO156; have HO_11 := n0_; have HO_15 := n1_; have BK139 := n2_; have HB := n3_; have HO159 := n4_; clear n0_ n1_ n2_ n3_ n4_; clear ho hb hg hat; have hcz72_0 : w71.cell? ⟨gb139, 0, none⟩ = some (.int .i64 (wrap64 (1 + (wrap64 (Int.tmod (IntKind.u64.wrap (a0)) 4))))) := (blk_cell BK139.out 0).trans rfl; have hcz72_1 : w71.cell? ⟨gb139, 1, none⟩ = some (.int .i64 2) := (blk_cell BK139.out 1).trans rfl; have hfz72_0 := blk_frozen BK139.out 0; have hfz72_1 := blk_frozen BK139.out 1; obtain ⟨Ao73, co73, eo73⟩ := Kd.R_slice HO159.out; subst eo73; obtain ⟨Ao74, co74, eo74⟩ := Kd.R_slice HO_15.out; subst eo74) | ((with_reducible refine gCa (f := 59) rfl ?_); refine goesL_ (some 117) rfl rfl Try.func59 (by kernel_rfl) rfl #[.agg #[.int .i64 (wrap64 (1 + (wrap64 (Int.tmod (IntKind.u64.wrap (a0)) 4)))), .int .i64 2], .slice Ao73 y157.length co73, .slice Ao74 x15_2.length co74] rfl (by (try simp only [List.map_toArray, List.map_cons, List.map_nil]); first | done | rfl | (simp only [List.length_drop, List.length_take]; rfl)) ?_; (with_reducible refine (GEnc.rebuild_Rebuild.calls k2 (wrap64 (1 + (wrap64 (Int.tmod (IntKind.u64.wrap (a0)) 4)))) 2 _ _ y157 _ _ x15_2 t168 t171 _ ?side1 ?side2 ?side3 ?side4 A65.out).mono ?_); (case side1 => repeat (first | exact (Kd.R_reads' HO159.out).2.2 | (with_reducible refine Kd.C_alloc ?_ _) | (with_reducible refine Kd.C_drewN ?_ _) | (with_reducible refine Kd.C_drew ?_))); (case side2 => exact (Kd.R_reads' HO159.out).2.1); (case side3 => repeat (first | exact (Kd.R_reads' HO_15.out).2.2 | (with_reducible refine Kd.C_alloc ?_ _) | (with_reducible refine Kd.C_drewN ?_ _) | (with_reducible refine Kd.C_drew ?_))); (case side4 => exact (Kd.R_reads' HO_15.out).2.1); rintro e w75 ⟨v169, rfl, ho0, hb⟩; refine ⟨_, rfl, ?_⟩; have n0_ := mk0 (Kd.R_elder' (by (with_reducible repeat (first | apply rA | apply rN | apply rD)); exact HO_11.out) (Kd.R_base ho0) hb); have n1_ := mk0 (Kd.R_below (by (with_reducible repeat (first | apply rA | apply rN | apply rD)); exact HO_15.out) hb); have n2_ := mk0 (Kd.R_elder' (by (with_reducible repeat (first | apply rA | apply rN | apply rD)); exact HO159.out) (Kd.R_base ho0) hb); have n3_ := mk0 (Kd.R_lower (Kd.R_new' (Kd.R_new' ho0 (Kd.R_lt (by (with_reducible repeat (first | apply rA | apply rN | apply rD)); exact HO_11.out))) (Kd.R_lt (by (with_reducible repeat (first | apply rA | apply rN | apply rD)); exact HO159.out))) (below_size (by repeat (first | (with_reducible first | exact HB.out | apply lA | apply lN | apply lD | refine lT ?_ ‹_›) | exact HB.out)))); have n4_ := mk0 (blk_below (g := gb139) (o := .cells #[.int .i64 (wrap64 (1 + (wrap64 (Int.tmod (IntKind.u64.wrap (a0)) 4)))), .int .i64 2] 51 (0, 0)) (by (with_reducible repeat (first | apply bN | apply bD | apply bA)); exact BK139.out) hb); have n5_ := mk0 (below_step (by repeat (first | (with_reducible first | exact HB.out | apply lA | apply lN | apply lD | refine lT ?_ ‹_›) | exact HB.out)) hb); clear HO_11; clear HO_15; clear HO159; clear BK139; clear HB; have HO_11 := n0_; have HO_15 := n1_; have HO159 := n2_; have HO170 := n3_; have BK139 := n4_; have HB := n5_; clear n0_ n1_ n2_ n3_ n4_ n5_; (try clear hb); (try clear hb2); (try clear hk); (try clear hi); (try clear ho0)) | ((with_reducible refine gCa (f := 35) rfl ?_); refine goesL_ (some 121) rfl rfl Try.func35 (by kernel_rfl) rfl #[.int .i64 t171] rfl (by (try simp only [List.map_toArray, List.map_cons, List.map_nil]); first | done | rfl | (simp only [List.length_drop, List.length_take]; rfl)) ?_; (with_reducible refine (GBase.ossuarylaw0_Num.calls t171 t172 _ A66.out).mono ?_); rintro e w' ⟨rfl, ⟨nd, rfl⟩⟩; refine ⟨_, rfl, ?_⟩; obtain ⟨Ao76, co76, eo76⟩ := Kd.R_slice HO170.out; subst eo76) | (go_at_call 50; (with_reducible refine (GVec.ossuarylaw0_SameTexts.calls k2 _ _ t168 _ _ y147 t173 _ ?side1 ?side2 ?side3 ?side4 A68.out).mono ?_); (case side1 => repeat (first | exact (Kd.R_reads' HO170.out).2.2 | (with_reducible refine Kd.C_alloc ?_ _) | (with_reducible refine Kd.C_drewN ?_ _) | (with_reducible refine Kd.C_drew ?_))); (case side2 => exact (Kd.R_reads' HO170.out).2.1); (case side3 => repeat (first | exact (Kd.R_reads' HO_11.out).2.2 | (with_reducible refine Kd.C_alloc ?_ _) | (with_reducible refine Kd.C_drewN ?_ _) | (with_reducible refine Kd.C_drew ?_))); (case side4 => exact (Kd.R_reads' HO_11.out).2.1); rintro e w' ⟨rfl, ⟨nd, rfl⟩⟩))
                go_ret
                exact ⟨by first | rfl | (simp [errW_none, errW_some] <;> rfl) | (simp only [← hji8]; first | rfl | (simp [errW_none, errW_some] <;> rfl)) | (simp [*, errW_none, errW_some] <;> rfl), by repeat (first | (with_reducible first | exact HB.out | apply lA | apply lN | apply lD | refine lT ?_ ‹_›) | exact HB.out)⟩
               ·rw [if_neg c67] at H
                have c67b0 : (t172 == 0) = false := beq_eq_false_iff_ne.mpr c67
                have c67b1 : (t172 != 0) = true := bne_iff_ne.mpr c67
                exact absurd ((Option.some.inj H).trans HTrue.out) (by decide)
             ·rw [if_neg c39] at H
              exact absurd H (by simp)
         ·rw [if_neg c24] at H
          exact absurd H (by simp)
        ·rw [if_neg c23] at H
         exact absurd H (by simp)
       ·rw [if_neg c22] at H
        exact absurd H (by simp)
      ·rw [if_neg c21] at H
       have c21b0 : (t146 == 0) = false := beq_eq_false_iff_ne.mpr c21
       have c21b1 : (t146 != 0) = true := bne_iff_ne.mpr c21
       exact absurd ((Option.some.inj H).trans HTrue.out) (by decide)
 ·replace c6 := Bool.eq_false_iff.mpr c6
  subst c6
  have H1 : (some false) = some r := by rw [if_neg (show ¬ (false = true) by decide)] at H; exact H
  clear H
  have H := H1
  clear H1
  exact absurd ((Option.some.inj H).trans HTrue.out) (by decide)
/-- THE ONE PURE STATEMENT of ossuarylaw8_RebuildMends: yours. -/
noncomputable def ossuarylaw8_RebuildMends.Pure : Prop := ∀ (a0 : Int) (a1 : ByteArray) (a2 : Int) (a3 : Int), (Lit.int .i64 a0).wf = true → a1.size ≤ 140737488351232 → (Lit.int .i64 a2).wf = true → (Lit.int .i64 a3).wf = true → ∃ k, ossuarylaw8_RebuildMends.f k a0 a1 a2 a3 = some true
end Go.Proofs.Ytaahnicjjpddjaa.GRebuildMends
