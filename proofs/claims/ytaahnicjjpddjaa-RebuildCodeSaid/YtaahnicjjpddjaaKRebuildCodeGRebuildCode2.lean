/- Functions of the program as Lean functions, each with a proof that its call comes to what the function says. No condition. -/
import Derived.Test.YtaahnicjjpddjaaKRebuildCodeGRebuildCode1
namespace Go.Proofs.Ytaahnicjjpddjaa.GRebuildCode
open Go.Proofs.Ytaahnicjjpddjaa.Fn
open Go.Proofs.Ytaahnicjjpddjaa
open Go.RowKit Go.Proofs.YtaahnicjjpddjaaW.PrintWords Go.Proofs.YtaahnicjjpddjaaW.PrintLast
set_option linter.unusedVariables false
set_option linter.unusedSimpArgs false
def mn (a b : Int) : Int := if b < a then b else a   -- the smaller
mutual
noncomputable def ossuarylaw8_RebuildCode.l0 : Nat → ByteArray → Int → Int → Int → Int → List ByteArray → Int → Int → Int → Option (Bool)
 | 0, _, _, _, _, _, _, _, _, _ => none
 | k + 1, x1, x2, x3, x10, x11, x12, x13, x147000, x147001 => if x13 < x10 then (if 0 ≤ (wrap64 (x11 * x13)) then (if (wrap64 (x11 * x13)) ≤ (wrap64 ((wrap64 (x11 * x13)) + x11)) then (if (wrap64 ((wrap64 (x11 * x13)) + x11)) ≤ (x1.size : Int) then (if x12.length < 8796093022208 then (ossuarylaw8_RebuildCode.l0 k x1 x2 x3 x10 x11 (x12 ++ [x1.extract ((wrap64 (x11 * x13)) : Int).toNat ((wrap64 ((wrap64 (x11 * x13)) + x11)) : Int).toNat]) (wrap64 (x13 + 1)) x147000 x147001) else (none)) else (none)) else (none)) else (none)) else ((ossuarylaw8_some.f k x10 x147000 x2).bind fun t150 => ((GEnc.rebuild_Rebuild.f k x147000 x147001 x12 t150).bind fun bt153 => ((GBase.ossuarylaw0_Num.f bt153.2).bind fun t157 => (if t157 = 0 then (ossuarylaw8_RebuildCode.j1 k x3 x10 bt153.1 ((bt153.1.length : Int) != x10) x147000 x147001) else (ossuarylaw8_RebuildCode.j1 k x3 x10 bt153.1 true x147000 x147001)))))
noncomputable def ossuarylaw8_RebuildCode.j1 : Nat → Int → Int → List ByteArray → Bool → Int → Int → Option (Bool)
 | 0, _, _, _, _, _, _ => none
 | k + 1, x3, x10, x14, x75, x147000, x147001 => if x75 = true then (some false) else (if 0 ≤ x147000 then (if x147000 ≤ (x14.length : Int) then ((GRenc.ossuaryref1_Encode.f k x147000 x147001 (x14.take (x147000 : Int).toNat)).bind fun bt162 => ((ossuarylaw8_some.f k x10 x147000 x3).bind fun t166 => ((GEnc.rebuild_Rebuild.f k x147000 x147001 x14 t166).bind fun bt169 => (if bt162.2 = 0 then ((GVec.ossuarylaw0_SameTexts.f k bt162.1 (x14.drop (x147000 : Int).toNat)).bind fun t177 => (if t177 = true then ((GBase.ossuarylaw0_Num.f bt169.2).bind fun t178 => (if t178 = 0 then ((GVec.ossuarylaw0_SameTexts.f k x14 bt169.1).bind fun t179 => (some t179)) else (some false))) else (some false))) else (some false))))) else (none)) else (none))
end
noncomputable def ossuarylaw8_RebuildCode.f (k : Nat) (a0 : Int) (a1 : ByteArray) (a2 : Int) (a3 : Int) : Option (Bool) := (ossuarylaw8_awake.f k).bind fun t145 => (if t145 = true then (if (wrap64 ((wrap64 (1 + (wrap64 (Int.tmod (IntKind.u64.wrap (a0)) 4)))) + 2)) = 0 then (none) else (ossuarylaw8_RebuildCode.l0 k a1 a2 a3 (wrap64 ((wrap64 (1 + (wrap64 (Int.tmod (IntKind.u64.wrap (a0)) 4)))) + 2)) (mn (wrap64 ((a1.size : Int) / (wrap64 ((wrap64 (1 + (wrap64 (Int.tmod (IntKind.u64.wrap (a0)) 4)))) + 2)))) 30) ([] : List ByteArray) 0 (wrap64 (1 + (wrap64 (Int.tmod (IntKind.u64.wrap (a0)) 4)))) 2)) else (some false))
theorem ossuarylaw8_RebuildCode.mono_l : ∀ k, (∀ y0 y1 y2 y3 y4 y5 y6 y7 y8, LeO (ossuarylaw8_RebuildCode.l0 k y0 y1 y2 y3 y4 y5 y6 y7 y8) (ossuarylaw8_RebuildCode.l0 (k + 1) y0 y1 y2 y3 y4 y5 y6 y7 y8)) ∧ (∀ y0 y1 y2 y3 y4 y5, LeO (ossuarylaw8_RebuildCode.j1 k y0 y1 y2 y3 y4 y5) (ossuarylaw8_RebuildCode.j1 (k + 1) y0 y1 y2 y3 y4 y5))
 | 0 => ⟨fun _ _ _ _ _ _ _ _ _ r h => by simp [ossuarylaw8_RebuildCode.l0] at h, fun _ _ _ _ _ _ r h => by simp [ossuarylaw8_RebuildCode.j1] at h⟩
 | k + 1 => by
  obtain ⟨ih0, ih1⟩ := ossuarylaw8_RebuildCode.mono_l k
  refine ⟨?_, ?_⟩
  ·intro y0 y1 y2 y3 y4 y5 y6 y7 y8
   unfold ossuarylaw8_RebuildCode.l0
   repeat' with_reducible first | exact ih0 _ _ _ _ _ _ _ _ _ | exact ih1 _ _ _ _ _ _ | exact GEnc.rebuild_Rebuild.mono _ _ _ _ _ | exact GRenc.ossuaryref1_Encode.mono _ _ _ _ | exact GVec.ossuarylaw0_SameTexts.mono _ _ _ | exact ossuarylaw8_awake.mono _ | exact ossuarylaw8_some.mono _ _ _ _ | exact LeO.refl _ | exact LeO.none _ | refine LeO.ite ?_ ?_ | refine LeO.bind ?_ (fun _ => ?_)
  ·intro y0 y1 y2 y3 y4 y5
   unfold ossuarylaw8_RebuildCode.j1
   repeat' with_reducible first | exact ih0 _ _ _ _ _ _ _ _ _ | exact ih1 _ _ _ _ _ _ | exact GEnc.rebuild_Rebuild.mono _ _ _ _ _ | exact GRenc.ossuaryref1_Encode.mono _ _ _ _ | exact GVec.ossuarylaw0_SameTexts.mono _ _ _ | exact ossuarylaw8_awake.mono _ | exact ossuarylaw8_some.mono _ _ _ _ | exact LeO.refl _ | exact LeO.none _ | refine LeO.ite ?_ ?_ | refine LeO.bind ?_ (fun _ => ?_)
theorem ossuarylaw8_RebuildCode.mono : ∀ a0 a1 a2 a3 k, LeO (ossuarylaw8_RebuildCode.f k a0 a1 a2 a3) (ossuarylaw8_RebuildCode.f (k + 1) a0 a1 a2 a3) := by
 intro a0 a1 a2 a3 k
 obtain ⟨ih0, ih1⟩ := ossuarylaw8_RebuildCode.mono_l k
 unfold ossuarylaw8_RebuildCode.f
 repeat' with_reducible first | exact ih0 _ _ _ _ _ _ _ _ _ | exact ih1 _ _ _ _ _ _ | exact GEnc.rebuild_Rebuild.mono _ _ _ _ _ | exact GRenc.ossuaryref1_Encode.mono _ _ _ _ | exact GVec.ossuarylaw0_SameTexts.mono _ _ _ | exact ossuarylaw8_awake.mono _ | exact ossuarylaw8_some.mono _ _ _ _ | exact LeO.refl _ | exact LeO.none _ | refine LeO.ite ?_ ?_ | refine LeO.bind ?_ (fun _ => ?_)
noncomputable def ossuarylaw8_RebuildCode.T11 : Bool × List (List Nat × List Nat) := (true, [([], []), ([], []), ([], []), ([], []), ([3], [3]), ([], []), ([2, 4, 5], [2, 4, 5]), ([0, 1, 6, 6], [0, 1, 6]), ([7], [7]), ([8], [8]), ([8], [8]), ([9, 7, 0, 1, 2, 3, 4, 5, 6, 7, 8, 9], [9]), ([10, 11, 0, 1, 2, 3, 4, 5, 6, 7, 8, 9, 10, 11], [10])])
noncomputable def ossuarylaw8_RebuildCode.B11 : List Nat := [0, 0, 0, 0, 8, 0, 60, 127, 255, 511, 511, 1023, 4095]
theorem ossuarylaw8_RebuildCode.tab11 : rtab .any (opsOf Try.f26 11) = ossuarylaw8_RebuildCode.T11 := by kernel_rfl
theorem ossuarylaw8_RebuildCode.bits11 : waitsOk ossuarylaw8_RebuildCode.T11.2 ossuarylaw8_RebuildCode.B11 = true := by kernel_rfl
noncomputable def ossuarylaw8_RebuildCode.T14 : Bool × List (List Nat × List Nat) := (true, [([], []), ([], []), ([], []), ([2], [2]), ([1, 3], [1, 3]), ([0, 4], [0, 4]), ([5], [5]), ([6], [6]), ([6], [6]), ([7, 5, 0, 1, 2, 3, 4, 5, 6, 7], [7]), ([8, 9, 0, 1, 2, 3, 4, 5, 6, 7, 8, 9], [8])])
noncomputable def ossuarylaw8_RebuildCode.B14 : List Nat := [0, 0, 0, 4, 14, 31, 63, 127, 127, 255, 1023]
theorem ossuarylaw8_RebuildCode.tab14 : rtab .any (opsOf Try.f26 14) = ossuarylaw8_RebuildCode.T14 := by kernel_rfl
theorem ossuarylaw8_RebuildCode.bits14 : waitsOk ossuarylaw8_RebuildCode.T14.2 ossuarylaw8_RebuildCode.B14 = true := by kernel_rfl
noncomputable def ossuarylaw8_RebuildCode.T15 : Bool × List (List Nat × List Nat) := (true, [([], []), ([], []), ([], []), ([], []), ([3], [3]), ([], []), ([2, 4, 5], [2, 4, 5]), ([0, 1, 6, 6], [0, 1, 6]), ([7], [7]), ([8], [8]), ([8], [8]), ([9, 7, 0, 1, 2, 3, 4, 5, 6, 7, 8, 9], [9]), ([10, 11, 0, 1, 2, 3, 4, 5, 6, 7, 8, 9, 10, 11], [10])])
noncomputable def ossuarylaw8_RebuildCode.B15 : List Nat := [0, 0, 0, 0, 8, 0, 60, 127, 255, 511, 511, 1023, 4095]
theorem ossuarylaw8_RebuildCode.tab15 : rtab .any (opsOf Try.f26 15) = ossuarylaw8_RebuildCode.T15 := by kernel_rfl
theorem ossuarylaw8_RebuildCode.bits15 : waitsOk ossuarylaw8_RebuildCode.T15.2 ossuarylaw8_RebuildCode.B15 = true := by kernel_rfl
set_option maxHeartbeats 8000000 in
set_option maxRecDepth 100000 in
theorem ossuarylaw8_RebuildCode.calls (k : Nat) (a0 : Int) (a1 : ByteArray) (a2 : Int) (a3 : Int) (r : Bool) (w : World) (h : ossuarylaw8_RebuildCode.f k a0 a1 a2 a3 = some r) (hT : r = true := by rfl) :
  Calls Try.prog 26 #[.int .i64 a0, .string a1, .int .i64 a2, .int .i64 a3] w fun e w' => e = .returned (.bool r) ∧ Below w.heap.size w w' := by
 have HTrue := mk0 hT
 clear hT
 have hu51 := Try.underlying51
 have HB := mk0 (Below.refl w.heap.size w)
 have H : ((ossuarylaw8_awake.f k).bind fun t145 => (if t145 = true then (if (wrap64 ((wrap64 (1 + (wrap64 (Int.tmod (IntKind.u64.wrap (a0)) 4)))) + 2)) = 0 then (none) else (ossuarylaw8_RebuildCode.l0 k a1 a2 a3 (wrap64 ((wrap64 (1 + (wrap64 (Int.tmod (IntKind.u64.wrap (a0)) 4)))) + 2)) (mn (wrap64 ((a1.size : Int) / (wrap64 ((wrap64 (1 + (wrap64 (Int.tmod (IntKind.u64.wrap (a0)) 4)))) + 2)))) 30) ([] : List ByteArray) 0 (wrap64 (1 + (wrap64 (Int.tmod (IntKind.u64.wrap (a0)) 4)))) 2)) else (some false))) = some r := h
 clear h
 replace H := Option.bind_eq_some_iff.mp H
 obtain ⟨t145, A50, H⟩ := H
 replace H : (if t145 = true then (if (wrap64 ((wrap64 (1 + (wrap64 (Int.tmod (IntKind.u64.wrap (a0)) 4)))) + 2)) = 0 then (none) else (ossuarylaw8_RebuildCode.l0 k a1 a2 a3 (wrap64 ((wrap64 (1 + (wrap64 (Int.tmod (IntKind.u64.wrap (a0)) 4)))) + 2)) (mn (wrap64 ((a1.size : Int) / (wrap64 ((wrap64 (1 + (wrap64 (Int.tmod (IntKind.u64.wrap (a0)) 4)))) + 2)))) 30) ([] : List ByteArray) 0 (wrap64 (1 + (wrap64 (Int.tmod (IntKind.u64.wrap (a0)) 4)))) 2)) else (some false)) = some r := H
 have A5 := mk0 A50
 clear A50
 by_cases c6 : t145 = true
 ·subst c6
  have H1 : (if (wrap64 ((wrap64 (1 + (wrap64 (Int.tmod (IntKind.u64.wrap (a0)) 4)))) + 2)) = 0 then (none) else (ossuarylaw8_RebuildCode.l0 k a1 a2 a3 (wrap64 ((wrap64 (1 + (wrap64 (Int.tmod (IntKind.u64.wrap (a0)) 4)))) + 2)) (mn (wrap64 ((a1.size : Int) / (wrap64 ((wrap64 (1 + (wrap64 (Int.tmod (IntKind.u64.wrap (a0)) 4)))) + 2)))) 30) ([] : List ByteArray) 0 (wrap64 (1 + (wrap64 (Int.tmod (IntKind.u64.wrap (a0)) 4)))) 2)) = some r := by rw [if_pos rfl] at H; exact H
  clear H
  have H := H1
  clear H1
  by_cases c7 : (wrap64 ((wrap64 (1 + (wrap64 (Int.tmod (IntKind.u64.wrap (a0)) 4)))) + 2)) = 0
  ·rw [if_pos c7] at H
   exact absurd H uZ
  ·rw [if_neg c7] at H
   have c7b0 : ((wrap64 ((wrap64 (1 + (wrap64 (Int.tmod (IntKind.u64.wrap (a0)) 4)))) + 2)) == 0) = false := beq_eq_false_iff_ne.mpr c7
   have c7b1 : ((wrap64 ((wrap64 (1 + (wrap64 (Int.tmod (IntKind.u64.wrap (a0)) 4)))) + 2)) != 0) = true := bne_iff_ne.mpr c7
   obtain ⟨ji8, hji8⟩ : ∃ j_ : Int, (mn (wrap64 ((a1.size : Int) / (wrap64 ((wrap64 (1 + (wrap64 (Int.tmod (IntKind.u64.wrap (a0)) 4)))) + 2)))) 30) = j_ := ⟨_, rfl⟩
   replace H : (ossuarylaw8_RebuildCode.l0 k a1 a2 a3 (wrap64 ((wrap64 (1 + (wrap64 (Int.tmod (IntKind.u64.wrap (a0)) 4)))) + 2)) ji8 ([] : List ByteArray) 0 (wrap64 (1 + (wrap64 (Int.tmod (IntKind.u64.wrap (a0)) 4)))) 2) = some r := by first | (rw [hji8] at H; exact H) | (simp only [hji8] at H ⊢; exact H)
   (try rw [hji8] at A5)
   (try (have hji8h : ji8 ≤ 30 := by (rw [← hji8]; unfold mn; (repeat' split) <;> omega)))
   (try (have hji8g : ji8 ≤ 64 := by omega))
   have hji8_ : (if 30 < (wrap64 ((a1.size : Int) / (wrap64 ((wrap64 (1 + (wrap64 (Int.tmod (IntKind.u64.wrap (a0)) 4)))) + 2)))) then 30 else (wrap64 ((a1.size : Int) / (wrap64 ((wrap64 (1 + (wrap64 (Int.tmod (IntKind.u64.wrap (a0)) 4)))) + 2))))) = ji8 := hji8
   have H' := mk0 H
   clear H
   go_enter Try.func26, Try.ntmps26
   go_wp2_with (first | ((with_reducible refine gCa (f := 61) rfl ?_); refine goesL_ (some 20) rfl rfl Try.func61 uS rfl #[] rfl uj ?_; (with_reducible refine (ossuarylaw8_awake.calls k  true _ A5.out).mono ?_); rintro e w9 ⟨rfl, hb⟩; refine ⟨_, rfl, ?_⟩; replace HB := mk0 (below_step us hb); (try clear hb)) | ((with_reducible refine gate_dst (N := 9) rfl ?_); (try (refine gate_guard uV ?_; dsimp only)); refine box_event uV (N := 9) uV (cs := #[.int .i64 0, .int .i64 0]) (t := 51) uK ?_; intro gb146 hg w10 hbox hb; have BK146 := mk0 (hbox); have GW146 := mk0 (nB hg HB); have GE146 := mk0 (nB hg HB); replace HB := mk0 (below_step us hb); clear hb hbox hg; have hcz11_0 : w10.cell? ⟨gb146, 0, none⟩ = some (.int .i64 0) := (blk_cell BK146.out 0).trans rfl; have hcz11_1 : w10.cell? ⟨gb146, 1, none⟩ = some (.int .i64 0) := (blk_cell BK146.out 1).trans rfl; have hfz11_0 := blk_frozen BK146.out 0; have hfz11_1 := blk_frozen BK146.out 1))
   go_loopg [12, 13] k (fun kq v12 v13 w' => ∃ (x12_1 : List ByteArray) (x13_1 : Int), v13 = .int .i64 x13_1 ∧ Aside0 (ossuarylaw8_RebuildCode.l0 kq a1 a2 a3 (wrap64 ((wrap64 (1 + (wrap64 (Int.tmod (IntKind.u64.wrap (a0)) 4)))) + 2)) ji8 x12_1 x13_1 (wrap64 (1 + (wrap64 (Int.tmod (IntKind.u64.wrap (a0)) 4)))) 2 = some r) ∧ Aside0 (kq ≤ k) ∧ Aside0 (Kd.R Kd.string 9 w' w.heap.size (fun _ => True) v12 x12_1) ∧ Aside0 (w'.heap[gb146]? = some (.cells #[.int .i64 (wrap64 (1 + (wrap64 (Int.tmod (IntKind.u64.wrap (a0)) 4)))), .int .i64 2] 51 (0, 0))) ∧ Aside0 (Below w.heap.size w w'))
   case atStart => exact ⟨(([] : List ByteArray)), (0), uI, H', ⟨Nat.le_refl _⟩, ⟨uh⟩, ⟨by refine bB ?_; refine blk_put (cs := #[.int .i64 (wrap64 (1 + (wrap64 (Int.tmod (IntKind.u64.wrap (a0)) 4)))), .int .i64 0]) ?_ 1 _ rfl; refine bB ?_; refine blk_put (cs := #[.int .i64 0, .int .i64 0]) ?_ 0 _ rfl; refine bB ?_; exact BK146.out⟩, ⟨uW⟩⟩
   case round =>
    clear H'
    try clear c2
    try clear p2
    try clear c6
    try clear p6
    try clear c7
    try clear c7b0
    try clear c7b1
    try clear hcz11_0
    try clear hcz11_1
    try clear hfz11_0
    try clear hfz11_1
    obtain ⟨x12_1, x13_1, rfl, HA, HK1, HO_12, BK146, HB⟩ := hrel
    cases gk with
    | zero => exact absurd HA.out (by simp [ossuarylaw8_RebuildCode.l0])
    | succ k1 =>
     have H := HA.out
     clear HA
     simp only [ossuarylaw8_RebuildCode.l0] at H
     by_cases c12 : x13_1 < (wrap64 ((wrap64 (1 + (wrap64 (Int.tmod (IntKind.u64.wrap (a0)) 4)))) + 2))
     ·rw [if_pos c12] at H
      have c12b0 : decide (x13_1 < (wrap64 ((wrap64 (1 + (wrap64 (Int.tmod (IntKind.u64.wrap (a0)) 4)))) + 2))) = true := decide_eq_true c12
      clear c12
      obtain ⟨ji13, hji13⟩ : ∃ j_ : Int, (wrap64 (ji8 * x13_1)) = j_ := ⟨_, rfl⟩
      replace H : (if 0 ≤ (ji13) then (if (ji13) ≤ (wrap64 ((ji13) + ji8)) then (if (wrap64 ((ji13) + ji8)) ≤ (a1.size : Int) then (if x12_1.length < 8796093022208 then (ossuarylaw8_RebuildCode.l0 k1 a1 a2 a3 (wrap64 ((wrap64 (1 + (wrap64 (Int.tmod (IntKind.u64.wrap (a0)) 4)))) + 2)) ji8 (x12_1 ++ [a1.extract ((ji13) : Int).toNat ((wrap64 ((ji13) + ji8)) : Int).toNat]) (wrap64 (x13_1 + 1)) (wrap64 (1 + (wrap64 (Int.tmod (IntKind.u64.wrap (a0)) 4)))) 2) else (none)) else (none)) else (none)) else (none)) = some r := by first | (rw [hji13] at H; exact H) | (simp only [hji13] at H ⊢; exact H)
      have hji13w : (IntKind.i64.wrap (ji8 * x13_1)) = ji13 := (i64_w _).trans hji13
      by_cases c14 : 0 ≤ (ji13)
      ·rw [if_pos c14] at H
       have c14b0 := eq_true c14
       have c14b1 : decide (0 ≤ (ji13)) = true := decide_eq_true c14
       clear c14
       by_cases c15 : (ji13) ≤ (wrap64 ((ji13) + ji8))
       ·rw [if_pos c15] at H
        have c15b0 := eq_true c15
        have c15b1 : decide ((ji13) ≤ (wrap64 ((ji13) + ji8))) = true := decide_eq_true c15
        by_cases c16 : (wrap64 ((ji13) + ji8)) ≤ (a1.size : Int)
        ·rw [if_pos c16] at H
         have c16b0 := eq_true c16
         have c16b1 : decide ((wrap64 ((ji13) + ji8)) ≤ (a1.size : Int)) = true := decide_eq_true c16
         by_cases c17 : x12_1.length < 8796093022208
         ·rw [if_pos c17] at H
          have LMc17 := mk0 c17
          clear c17
          obtain ⟨y147, hy147⟩ : ∃ y_ : List ByteArray, y_ = (x12_1 ++ [a1.extract ((ji13) : Int).toNat ((wrap64 ((ji13) + ji8)) : Int).toNat]) := ⟨_, rfl⟩
          replace H : (ossuarylaw8_RebuildCode.l0 k1 a1 a2 a3 (wrap64 ((wrap64 (1 + (wrap64 (Int.tmod (IntKind.u64.wrap (a0)) 4)))) + 2)) ji8 y147 (wrap64 (x13_1 + 1)) (wrap64 (1 + (wrap64 (Int.tmod (IntKind.u64.wrap (a0)) 4)))) 2) = some r := by first | (rw [hy147]; with_reducible exact H) | (have H2_ := (Option.bind_some _ _).symm.trans H; rw [hy147]; with_reducible exact H2_) | (have H2_ := (Option.bind_some _ _).symm.trans H; with_reducible exact H2_) | with_reducible exact H | (rw [hy147]; exact H) | exact H
          have Ny147 := mk0 hy147
          clear hy147
          have H' := mk0 H
          clear H
          go_wp2_with (first | ((with_reducible refine gBu (b := .append) (xs := #[.tmp 43, .tmp 54]) rfl ?_); (try (refine gate_guard uV ?_; dsimp only)); at_builtin; refine Kd.R_append Kd.string (w0 := w) w.heap.size rfl (.tmp 43) (.tmp 54) 58 9 (.string ⟨#[]⟩) 16 rfl Try.underlying58 info9 rfl uY uU u12 x12_1 (a1.extract ((ji13) : Int).toNat ((wrap64 ((ji13) + ji8)) : Int).toNat) [.string (a1.extract ((ji13) : Int).toNat ((wrap64 ((ji13) + ji8)) : Int).toNat)] (fun _ => True) (fun _ => False) rfl rfl ?aP (fun _ hk => hk.elim) ?aF ?aO ?aB ?aS ?aL ?_; (case aP => exact rfl); (case aB => exact uW); (case aF => exact (fun _ _ => trivial)); (case aO => exact (rB HO_12.out)); (case aS => exact (below_size uW)); (case aL => have := LMc17.out; omega); intro v148 w18 ho hb hg hat; rw [← Ny147.out] at ho; replace BK146 := mk0 (blk_grown (g := gb146) (o := .cells #[.int .i64 (wrap64 (1 + (wrap64 (Int.tmod (IntKind.u64.wrap (a0)) 4)))), .int .i64 2] 51 (0, 0)) (bB BK146.out) hg (Kd.R_ne HO_12.out BK146.out uY)); replace HB := mk0 (hb); have HO149 := mk0 (ho); clear HO_12; clear ho hb hg hat))
          go_roundg k1
          case measure => have := HK1.out; omega
          case rel => exact ⟨(y147), (wrap64 (x13_1 + 1)), uI, H', ⟨uP⟩, ⟨rB HO149.out⟩, ⟨bB BK146.out⟩, ⟨uW⟩⟩
         ·rw [if_neg c17] at H
          exact absurd H uZ
        ·rw [if_neg c16] at H
         exact absurd H uZ
       ·rw [if_neg c15] at H
        exact absurd H uZ
      ·rw [if_neg c14] at H
       exact absurd H uZ
     ·rw [if_neg c12] at H
      have c12b0 : decide (x13_1 < (wrap64 ((wrap64 (1 + (wrap64 (Int.tmod (IntKind.u64.wrap (a0)) 4)))) + 2))) = false := decide_eq_false c12
      clear c12
      replace H := Option.bind_eq_some_iff.mp H
      obtain ⟨t150, A190, H⟩ := H
      replace H : ((GEnc.rebuild_Rebuild.f k1 (wrap64 (1 + (wrap64 (Int.tmod (IntKind.u64.wrap (a0)) 4)))) 2 x12_1 t150).bind fun bt153 => ((GBase.ossuarylaw0_Num.f bt153.2).bind fun t157 => (if t157 = 0 then (ossuarylaw8_RebuildCode.j1 k1 a3 (wrap64 ((wrap64 (1 + (wrap64 (Int.tmod (IntKind.u64.wrap (a0)) 4)))) + 2)) bt153.1 ((bt153.1.length : Int) != (wrap64 ((wrap64 (1 + (wrap64 (Int.tmod (IntKind.u64.wrap (a0)) 4)))) + 2))) (wrap64 (1 + (wrap64 (Int.tmod (IntKind.u64.wrap (a0)) 4)))) 2) else (ossuarylaw8_RebuildCode.j1 k1 a3 (wrap64 ((wrap64 (1 + (wrap64 (Int.tmod (IntKind.u64.wrap (a0)) 4)))) + 2)) bt153.1 true (wrap64 (1 + (wrap64 (Int.tmod (IntKind.u64.wrap (a0)) 4)))) 2)))) = some r := H
      have A19 := mk0 A190
      clear A190
      replace H := Option.bind_eq_some_iff.mp H
      obtain ⟨⟨t153, t156⟩, A200, H⟩ := H
      replace H : ((GBase.ossuarylaw0_Num.f t156).bind fun t157 => (if t157 = 0 then (ossuarylaw8_RebuildCode.j1 k1 a3 (wrap64 ((wrap64 (1 + (wrap64 (Int.tmod (IntKind.u64.wrap (a0)) 4)))) + 2)) t153 ((t153.length : Int) != (wrap64 ((wrap64 (1 + (wrap64 (Int.tmod (IntKind.u64.wrap (a0)) 4)))) + 2))) (wrap64 (1 + (wrap64 (Int.tmod (IntKind.u64.wrap (a0)) 4)))) 2) else (ossuarylaw8_RebuildCode.j1 k1 a3 (wrap64 ((wrap64 (1 + (wrap64 (Int.tmod (IntKind.u64.wrap (a0)) 4)))) + 2)) t153 true (wrap64 (1 + (wrap64 (Int.tmod (IntKind.u64.wrap (a0)) 4)))) 2))) = some r := H
      have A20 := mk0 A200
      clear A200
      have HC21 := mk0 H
      clear H
      try go_wp2
      replace HO_12 := mk0 (Kd.R_drew HO_12.out)
      replace BK146 := mk0 (blk_drew BK146.out)
      replace HB := mk0 (below_drew1 HB.out)
      refine start_ (n := 13) (S := fun w' => w'.cell? ⟨gb146, 0, none⟩ = some (.int .i64 (wrap64 (1 + (wrap64 (Int.tmod (IntKind.u64.wrap (a0)) 4))))) ∧ w'.cell? ⟨gb146, 1, none⟩ = some (.int .i64 2)) (ds := []) (bz 13 0) uS rfl rfl ⟨(blk_cell BK146.out 0).trans rfl, (blk_cell BK146.out 1).trans rfl⟩ (fun hHeld => ?_); refine with_tabW ossuarylaw8_RebuildCode.tab11 ossuarylaw8_RebuildCode.bits11 (fun HT_ HW_ => ?_)
      generalize wr.drew = w22 at HO_12 BK146 HB hHeld ⊢
      refine pU 1 58 (bz 13 2) HT_.out ?_
      refine pU 2 59 (bz 13 6) HT_.out ?_
      refine pU 3 60 (bz 13 14) HT_.out ?_
      refine pU 5 62 (bz 13 46) HT_.out ?_
      refine pT2 0 57 (bz 13 47) HT_.out HW_.out hHeld ?_
      refine pT2 4 61 (bz 13 63) HT_.out HW_.out hHeld ?_
      refine one_ (i := 6) (N := some 63) (bz 13 127) rfl rfl (pO HT_.out) uY (fun K hK => ?_)
      refine goes_ Try.func62 uS rfl #[.int .i64 (wrap64 ((wrap64 (1 + (wrap64 (Int.tmod (IntKind.u64.wrap (a0)) 4)))) + 2)), .int .i64 (wrap64 (1 + (wrap64 (Int.tmod (IntKind.u64.wrap (a0)) 4)))), .int .i64 a2] uV rfl rfl uj ?_
      with_reducible refine (ossuarylaw8_some.calls k1 (wrap64 ((wrap64 (1 + (wrap64 (Int.tmod (IntKind.u64.wrap (a0)) 4)))) + 2)) (wrap64 (1 + (wrap64 (Int.tmod (IntKind.u64.wrap (a0)) 4)))) a2 t150 _ A19.out).mono ?_
      rintro e w23 ⟨v151, rfl, ho0, hb⟩
      refine ⟨_, rfl, ?_⟩
      replace HO_12 := mk0 (Kd.R_below (rB HO_12.out) hb)
      have HO152 := mk0 (Kd.R_lower ho0 (below_size uW))
      replace BK146 := mk0 (blk_below (g := gb146) (o := .cells #[.int .i64 (wrap64 (1 + (wrap64 (Int.tmod (IntKind.u64.wrap (a0)) 4)))), .int .i64 2] 51 (0, 0)) (bB BK146.out) hb)
      replace HB := mk0 (below_step uW hb)
      (try clear hb)
      (try clear hb2)
      (try clear hk)
      (try clear hi)
      (try clear ho0)
      obtain ⟨Ao24, co24, eo24⟩ := Kd.R_slice HO_12.out
      (first | subst eo24 | (injection eo24 with f1_ f2_ f3_; have f4_ := f1_.symm; have f5_ := f3_.symm; clear f1_ f2_ f3_; subst f4_; subst f5_))
      obtain ⟨Ao25, co25, eo25⟩ := Kd.R_slice HO152.out
      (first | subst eo25 | (injection eo25 with f1_ f2_ f3_; have f4_ := f1_.symm; have f5_ := f3_.symm; clear f1_ f2_ f3_; subst f4_; subst f5_))
      refine hK.out _ _ ⟨(blk_cell BK146.out 0).trans rfl, (blk_cell BK146.out 1).trans rfl⟩ (fun hHeld => ?_)
      clear hK K
      refine pM (some 63) ?_
      refine one_ (i := 7) (N := some 64) (bz 13 255) rfl rfl (pO HT_.out) uY (fun K hK => ?_)
      refine goes_ Try.func59 uS rfl #[.agg #[.int .i64 (wrap64 (1 + (wrap64 (Int.tmod (IntKind.u64.wrap (a0)) 4)))), .int .i64 2], .slice Ao24 x12_1.length co24, .slice Ao25 t150.length co25] uV rfl rfl uj ?_
      with_reducible refine (GEnc.rebuild_Rebuild.calls k1 (wrap64 (1 + (wrap64 (Int.tmod (IntKind.u64.wrap (a0)) 4)))) 2 _ _ x12_1 _ _ t150 t153 t156 _ ?side1 ?side2 ?side3 ?side4 A20.out).mono ?_
      (case side1 => exact cB (Kd.R_reads' HO_12.out).2.2)
      (case side2 => exact (Kd.R_reads' HO_12.out).2.1)
      (case side3 => exact cB (Kd.R_reads' HO152.out).2.2)
      (case side4 => exact (Kd.R_reads' HO152.out).2.1)
      rintro e w26 ⟨v154, rfl, ho0, hb⟩
      refine ⟨_, rfl, ?_⟩
      replace HO152 := mk0 (Kd.R_below (rB HO152.out) hb)
      have HO155 := mk0 (Kd.R_lower (Kd.R_new' ho0 (Kd.R_lt (rB HO_12.out))) (below_size uW))
      replace HO_12 := mk0 (Kd.R_elder' (rB HO_12.out) (Kd.R_base ho0) hb)
      replace BK146 := mk0 (blk_below (g := gb146) (o := .cells #[.int .i64 (wrap64 (1 + (wrap64 (Int.tmod (IntKind.u64.wrap (a0)) 4)))), .int .i64 2] 51 (0, 0)) (bB BK146.out) hb)
      replace HB := mk0 (below_step uW hb)
      (try clear hb)
      (try clear hb2)
      (try clear hk)
      (try clear hi)
      (try clear ho0)
      refine hK.out _ _ ⟨(blk_cell BK146.out 0).trans rfl, (blk_cell BK146.out 1).trans rfl⟩ (fun hHeld => ?_)
      clear hK K
      refine pM (some 64) ?_
      refine pU 8 56 (bz 13 511) HT_.out ?_
      refine pU 9 65 (bz 13 1023) HT_.out ?_
      refine pU 10 66 (bz 13 2047) HT_.out ?_
      refine pU 11 14 (bz 13 4095) HT_.out ?_
      refine pU 12 15 (bz 13 8191) HT_.out ?_
      refine done_ (done_of HT_.out uS) ?_
      go_upto_region 12 with (fail)
      go_cut [75] (fun v75 wc => ∃ (kq : Nat) (x75_20 : Bool), v75 = .bool x75_20 ∧ Aside0 (ossuarylaw8_RebuildCode.j1 kq a3 (wrap64 ((wrap64 (1 + (wrap64 (Int.tmod (IntKind.u64.wrap (a0)) 4)))) + 2)) t153 x75_20 (wrap64 (1 + (wrap64 (Int.tmod (IntKind.u64.wrap (a0)) 4)))) 2 = some r) ∧ Aside0 (kq ≤ k1) ∧ Aside0 (Kd.R Kd.string 9 wc w.heap.size (fun _ => True) v154 t153) ∧ Aside0 (wc.heap[gb146]? = some (.cells #[.int .i64 (wrap64 (1 + (wrap64 (Int.tmod (IntKind.u64.wrap (a0)) 4)))), .int .i64 2] 51 (0, 0))) ∧ Aside0 (Below w.heap.size w wc))
      case first =>
       have H := HC21.out
       clear HC21
       replace H := Option.bind_eq_some_iff.mp H
       obtain ⟨t157, A270, H⟩ := H
       replace H : (if t157 = 0 then (ossuarylaw8_RebuildCode.j1 k1 a3 (wrap64 ((wrap64 (1 + (wrap64 (Int.tmod (IntKind.u64.wrap (a0)) 4)))) + 2)) t153 ((t153.length : Int) != (wrap64 ((wrap64 (1 + (wrap64 (Int.tmod (IntKind.u64.wrap (a0)) 4)))) + 2))) (wrap64 (1 + (wrap64 (Int.tmod (IntKind.u64.wrap (a0)) 4)))) 2) else (ossuarylaw8_RebuildCode.j1 k1 a3 (wrap64 ((wrap64 (1 + (wrap64 (Int.tmod (IntKind.u64.wrap (a0)) 4)))) + 2)) t153 true (wrap64 (1 + (wrap64 (Int.tmod (IntKind.u64.wrap (a0)) 4)))) 2)) = some r := H
       have A27 := mk0 A270
       clear A270
       by_cases c28 : t157 = 0
       ·rw [if_pos c28] at H
        have c28b0 : (t157 == 0) = true := beq_iff_eq.mpr c28
        have c28b1 : (t157 != 0) = false := bne_eq_false_iff_eq.mpr c28
        clear c28
        (first | rw [c28b0] | (simp only [i64_w, i32_w]; rw [c28b0]) | skip)
        have H' := mk0 H
        clear H
        go_wp2_with (first | ((with_reducible refine gCa (f := 35) rfl ?_); refine goesL_ (some 68) rfl rfl Try.func35 uS rfl #[.int .i64 t156] rfl uj ?_; (with_reducible refine (GBase.ossuarylaw0_Num.calls t156 t157 _ A27.out).mono ?_); rintro e w' ⟨rfl, ⟨nd, rfl⟩⟩; refine ⟨_, rfl, ?_⟩; obtain ⟨Ao29, co29, eo29⟩ := Kd.R_slice HO155.out; subst eo29))
        go_meet
        case rel => exact ⟨_, (((t153.length : Int) != (wrap64 ((wrap64 (1 + (wrap64 (Int.tmod (IntKind.u64.wrap (a0)) 4)))) + 2)))), uI, H', ⟨by have := HK1.out; first | omega | exact Nat.le_refl _⟩, ⟨by (with_reducible repeat (first | apply rA | apply rN | apply rD)); exact Kd.R_mono HO155.out (fun _ hk => trivial)⟩, ⟨bB BK146.out⟩, ⟨uW⟩⟩
       ·rw [if_neg c28] at H
        have c28b0 : (t157 == 0) = false := beq_eq_false_iff_ne.mpr c28
        have c28b1 : (t157 != 0) = true := bne_iff_ne.mpr c28
        (first | rw [c28b0] | (simp only [i64_w, i32_w]; rw [c28b0]) | skip)
        have H' := mk0 H
        clear H
        go_wp2_with (first | ((with_reducible refine gCa (f := 35) rfl ?_); refine goesL_ (some 68) rfl rfl Try.func35 uS rfl #[.int .i64 t156] rfl uj ?_; (with_reducible refine (GBase.ossuarylaw0_Num.calls t156 t157 _ A27.out).mono ?_); rintro e w' ⟨rfl, ⟨nd, rfl⟩⟩; refine ⟨_, rfl, ?_⟩))
        go_meet
        case rel => exact ⟨_, (true), uI, H', ⟨by have := HK1.out; first | omega | exact Nat.le_refl _⟩, ⟨by (with_reducible repeat (first | apply rA | apply rN | apply rD)); exact Kd.R_mono HO155.out (fun _ hk => trivial)⟩, ⟨bB BK146.out⟩, ⟨uW⟩⟩
      case rest =>
       clear HC21
       try clear c1
       try clear c2
       try clear p2
       try clear c3
       try clear c5
       try clear c6
       try clear p6
       try clear c7
       try clear c7b0
       try clear c7b1
       try clear c12
       try clear c12b0
       try clear c14
       try clear c14b0
       try clear c14b1
       try clear c15
       try clear c15b0
       try clear c15b1
       try clear c16
       try clear c16b0
       try clear c16b1
       try clear c17
       try clear c26
       try clear c28
       try clear c28b0
       try clear c28b1
       try clear hcz11_0
       try clear hcz11_1
       try clear hfz11_0
       try clear hfz11_1
       try clear p2
       try clear p6
       obtain ⟨kq, x75_20, rfl, HA, HJ20, HO_14, BK146, HB⟩ := hcut
       cases kq with
       | zero => exact absurd HA.out (by simp [ossuarylaw8_RebuildCode.j1])
       | succ kj20 =>
        have H := HA.out
        clear HA
        simp only [ossuarylaw8_RebuildCode.j1] at H
        by_cases c30 : x75_20 = true
        ·subst c30
         have H1 : (some false) = some r := by rw [if_pos rfl] at H; exact H
         clear H
         have H := H1
         clear H1
         exact absurd ((Option.some.inj H).trans HTrue.out) uY
        ·replace c30 := Bool.eq_false_iff.mpr c30
         subst c30
         have H1 : (if 0 ≤ (wrap64 (1 + (wrap64 (Int.tmod (IntKind.u64.wrap (a0)) 4)))) then (if (wrap64 (1 + (wrap64 (Int.tmod (IntKind.u64.wrap (a0)) 4)))) ≤ (t153.length : Int) then ((GRenc.ossuaryref1_Encode.f kj20 (wrap64 (1 + (wrap64 (Int.tmod (IntKind.u64.wrap (a0)) 4)))) 2 (t153.take ((wrap64 (1 + (wrap64 (Int.tmod (IntKind.u64.wrap (a0)) 4)))) : Int).toNat)).bind fun bt162 => ((ossuarylaw8_some.f kj20 (wrap64 ((wrap64 (1 + (wrap64 (Int.tmod (IntKind.u64.wrap (a0)) 4)))) + 2)) (wrap64 (1 + (wrap64 (Int.tmod (IntKind.u64.wrap (a0)) 4)))) a3).bind fun t166 => ((GEnc.rebuild_Rebuild.f kj20 (wrap64 (1 + (wrap64 (Int.tmod (IntKind.u64.wrap (a0)) 4)))) 2 t153 t166).bind fun bt169 => (if bt162.2 = 0 then ((GVec.ossuarylaw0_SameTexts.f kj20 bt162.1 (t153.drop ((wrap64 (1 + (wrap64 (Int.tmod (IntKind.u64.wrap (a0)) 4)))) : Int).toNat)).bind fun t177 => (if t177 = true then ((GBase.ossuarylaw0_Num.f bt169.2).bind fun t178 => (if t178 = 0 then ((GVec.ossuarylaw0_SameTexts.f kj20 t153 bt169.1).bind fun t179 => (some t179)) else (some false))) else (some false))) else (some false))))) else (none)) else (none)) = some r := by rw [if_neg (show ¬ (false = true) by decide)] at H; exact H
         clear H
         have H := H1
         clear H1
         obtain ⟨ji31, hji31⟩ : ∃ j_ : Int, (wrap64 (1 + (wrap64 (Int.tmod (IntKind.u64.wrap (a0)) 4)))) = j_ := ⟨_, rfl⟩
         replace H : (if 0 ≤ (ji31) then (if (ji31) ≤ (t153.length : Int) then ((GRenc.ossuaryref1_Encode.f kj20 (ji31) 2 (t153.take ((ji31) : Int).toNat)).bind fun bt162 => ((ossuarylaw8_some.f kj20 (wrap64 ((ji31) + 2)) (ji31) a3).bind fun t166 => ((GEnc.rebuild_Rebuild.f kj20 (ji31) 2 t153 t166).bind fun bt169 => (if bt162.2 = 0 then ((GVec.ossuarylaw0_SameTexts.f kj20 bt162.1 (t153.drop ((ji31) : Int).toNat)).bind fun t177 => (if t177 = true then ((GBase.ossuarylaw0_Num.f bt169.2).bind fun t178 => (if t178 = 0 then ((GVec.ossuarylaw0_SameTexts.f kj20 t153 bt169.1).bind fun t179 => (some t179)) else (some false))) else (some false))) else (some false))))) else (none)) else (none)) = some r := by first | (rw [hji31] at H; exact H) | (simp only [hji31] at H ⊢; exact H)
         (try rw [hji31] at c7b0)
         (try rw [hji31] at c7b1)
         (try rw [hji31] at c12b0)
         have hji31w : (IntKind.i64.wrap (1 + (wrap64 (Int.tmod (IntKind.u64.wrap (a0)) 4)))) = ji31 := (i64_w _).trans hji31
         replace BK146 := mk0 (hji31 ▸ BK146.out)
         by_cases c32 : 0 ≤ (ji31)
         ·rw [if_pos c32] at H
          have c32b0 := eq_true c32
          have c32b1 : decide (0 ≤ (ji31)) = true := decide_eq_true c32
          clear c32
          by_cases c33 : (ji31) ≤ (t153.length : Int)
          ·rw [if_pos c33] at H
           have c33b0 := eq_true c33
           have c33b1 : decide ((ji31) ≤ (t153.length : Int)) = true := decide_eq_true c33
           clear c33
           obtain ⟨y158, hy158⟩ : ∃ y_ : List ByteArray, y_ = (t153.take ((ji31) : Int).toNat) := ⟨_, rfl⟩
           replace H : ((GRenc.ossuaryref1_Encode.f kj20 (ji31) 2 y158).bind fun bt162 => ((ossuarylaw8_some.f kj20 (wrap64 ((ji31) + 2)) (ji31) a3).bind fun t166 => ((GEnc.rebuild_Rebuild.f kj20 (ji31) 2 t153 t166).bind fun bt169 => (if bt162.2 = 0 then ((GVec.ossuarylaw0_SameTexts.f kj20 bt162.1 (t153.drop ((ji31) : Int).toNat)).bind fun t177 => (if t177 = true then ((GBase.ossuarylaw0_Num.f bt169.2).bind fun t178 => (if t178 = 0 then ((GVec.ossuarylaw0_SameTexts.f kj20 t153 bt169.1).bind fun t179 => (some t179)) else (some false))) else (some false))) else (some false))))) = some r := by first | (rw [hy158]; with_reducible exact H) | (have H2_ := (Option.bind_some _ _).symm.trans H; rw [hy158]; with_reducible exact H2_) | (have H2_ := (Option.bind_some _ _).symm.trans H; with_reducible exact H2_) | with_reducible exact H | (rw [hy158]; exact H) | exact H
           have Ny158 := mk0 hy158
           clear hy158
           replace H := Option.bind_eq_some_iff.mp H
           obtain ⟨⟨t162, t165⟩, A340, H⟩ := H
           replace H : ((ossuarylaw8_some.f kj20 (wrap64 ((ji31) + 2)) (ji31) a3).bind fun t166 => ((GEnc.rebuild_Rebuild.f kj20 (ji31) 2 t153 t166).bind fun bt169 => (if t165 = 0 then ((GVec.ossuarylaw0_SameTexts.f kj20 t162 (t153.drop ((ji31) : Int).toNat)).bind fun t177 => (if t177 = true then ((GBase.ossuarylaw0_Num.f bt169.2).bind fun t178 => (if t178 = 0 then ((GVec.ossuarylaw0_SameTexts.f kj20 t153 bt169.1).bind fun t179 => (some t179)) else (some false))) else (some false))) else (some false)))) = some r := H
           have A34 := mk0 A340
           clear A340
           replace H := Option.bind_eq_some_iff.mp H
           obtain ⟨t166, A350, H⟩ := H
           replace H : ((GEnc.rebuild_Rebuild.f kj20 (ji31) 2 t153 t166).bind fun bt169 => (if t165 = 0 then ((GVec.ossuarylaw0_SameTexts.f kj20 t162 (t153.drop ((ji31) : Int).toNat)).bind fun t177 => (if t177 = true then ((GBase.ossuarylaw0_Num.f bt169.2).bind fun t178 => (if t178 = 0 then ((GVec.ossuarylaw0_SameTexts.f kj20 t153 bt169.1).bind fun t179 => (some t179)) else (some false))) else (some false))) else (some false))) = some r := H
           have A35 := mk0 A350
           clear A350
           replace H := Option.bind_eq_some_iff.mp H
           obtain ⟨⟨t169, t172⟩, A360, H⟩ := H
           replace H : (if t165 = 0 then ((GVec.ossuarylaw0_SameTexts.f kj20 t162 (t153.drop ((ji31) : Int).toNat)).bind fun t177 => (if t177 = true then ((GBase.ossuarylaw0_Num.f t172).bind fun t178 => (if t178 = 0 then ((GVec.ossuarylaw0_SameTexts.f kj20 t153 t169).bind fun t179 => (some t179)) else (some false))) else (some false))) else (some false)) = some r := H
           have A36 := mk0 A360
           clear A360
           by_cases c37 : t165 = 0
           ·rw [if_pos c37] at H
            have c37b0 : (t165 == 0) = true := beq_iff_eq.mpr c37
            have c37b1 : (t165 != 0) = false := bne_eq_false_iff_eq.mpr c37
            clear c37
            have c38b0 := eq_true (of_decide_eq_true uH : 0 ≤ (ji31))
            have c39b0 := eq_true (of_decide_eq_true uH : (ji31) ≤ (t153.length : Int))
            obtain ⟨y173, hy173⟩ : ∃ y_ : List ByteArray, y_ = (t153.drop ((ji31) : Int).toNat) := ⟨_, rfl⟩
            replace H : ((GVec.ossuarylaw0_SameTexts.f kj20 t162 y173).bind fun t177 => (if t177 = true then ((GBase.ossuarylaw0_Num.f t172).bind fun t178 => (if t178 = 0 then ((GVec.ossuarylaw0_SameTexts.f kj20 t153 t169).bind fun t179 => (some t179)) else (some false))) else (some false))) = some r := by first | (rw [hy173]; with_reducible exact H) | (have H2_ := (Option.bind_some _ _).symm.trans H; rw [hy173]; with_reducible exact H2_) | (have H2_ := (Option.bind_some _ _).symm.trans H; with_reducible exact H2_) | with_reducible exact H | (rw [hy173]; exact H) | exact H
            have Ny173 := mk0 hy173
            clear hy173
            replace H := Option.bind_eq_some_iff.mp H
            obtain ⟨t177, A400, H⟩ := H
            replace H : (if t177 = true then ((GBase.ossuarylaw0_Num.f t172).bind fun t178 => (if t178 = 0 then ((GVec.ossuarylaw0_SameTexts.f kj20 t153 t169).bind fun t179 => (some t179)) else (some false))) else (some false)) = some r := H
            have A40 := mk0 A400
            clear A400
            by_cases c41 : t177 = true
            ·subst c41
             have H1 : ((GBase.ossuarylaw0_Num.f t172).bind fun t178 => (if t178 = 0 then ((GVec.ossuarylaw0_SameTexts.f kj20 t153 t169).bind fun t179 => (some t179)) else (some false))) = some r := by rw [if_pos rfl] at H; exact H
             clear H
             have H := H1
             clear H1
             replace H := Option.bind_eq_some_iff.mp H
             obtain ⟨t178, A420, H⟩ := H
             replace H : (if t178 = 0 then ((GVec.ossuarylaw0_SameTexts.f kj20 t153 t169).bind fun t179 => (some t179)) else (some false)) = some r := H
             have A42 := mk0 A420
             clear A420
             by_cases c43 : t178 = 0
             ·rw [if_pos c43] at H
              have c43b0 : (t178 == 0) = true := beq_iff_eq.mpr c43
              have c43b1 : (t178 != 0) = false := bne_eq_false_iff_eq.mpr c43
              clear c43
              replace H := Option.bind_eq_some_iff.mp H
              obtain ⟨t179, A440, H⟩ := H
              replace H : (some t179) = some r := H
              have A44 := mk0 A440
              clear A440
              obtain rfl := Option.some.inj H
              try go_wp2
              replace HO_14 := mk0 (Kd.R_drew HO_14.out)
              replace BK146 := mk0 (blk_drew BK146.out)
              replace HB := mk0 (below_drew1 HB.out)
              obtain ⟨Ao47, co47, eo47⟩ := Kd.R_slice HO_14.out
              (first | subst eo47 | (injection eo47 with f1_ f2_ f3_; have f4_ := f1_.symm; have f5_ := f3_.symm; clear f1_ f2_ f3_; subst f4_; subst f5_))
              have q46 : ((ji31) : Int) ≤ ((t153.length : Int) : Int) := of_decide_eq_true uH
              obtain ⟨i046, hi046, _, hsz46, _⟩ := info_parts info9
              have hroom46 : t153.length ≤ co47 := (Kd.R_reads' HO_14.out).2.1
              have hC46 : Kd.C Kd.string _ Ao47 t153.length t153 := (Kd.R_reads' HO_14.out).2.2
              have hcut46 := cut_to (P := Try.prog) 58 9 .i64 Try.underlying58 hi046 Ao47 t153.length co47 (ji31) (of_decide_eq_true uH) q46 hroom46
              have hr46 := Kd.C_take (m := ((ji31) : Int).toNat) hC46 uU
              have hy46 : y158.length = ((ji31) : Int).toNat := (by rw [Ny158.out, List.length_take]; omega)
              rw [← Ny158.out] at hr46
              rw [← hy46] at hcut46
              have HR161 := mk0 hr46
              have HC161 := mk0 (show y158.length ≤ co47 from by omega)
              clear hr46 hC46 hroom46 hi046 hsz46
              have KY46 := mk0 hy46
              clear hy46
              have KL46 := mk0 (show ((ji31) : Int).toNat ≤ t153.length from by omega)
              replace q46 := eq_true q46
              refine start_ (n := 11) (S := fun w' => w'.cell? ⟨gb146, 0, none⟩ = some (.int .i64 (ji31)) ∧ w'.cell? ⟨gb146, 1, none⟩ = some (.int .i64 2)) (ds := []) (bz 11 0) uS rfl rfl ⟨(blk_cell BK146.out 0).trans rfl, (blk_cell BK146.out 1).trans rfl⟩ (fun hHeld => ?_); refine with_tabW ossuarylaw8_RebuildCode.tab14 ossuarylaw8_RebuildCode.bits14 (fun HT_ HW_ => ?_)
              generalize wc.drew = w45 at HO_14 BK146 HB HR161 hHeld ⊢
              refine pU 1 78 (bz 11 2) HT_.out ?_
              refine pU 2 79 (bz 11 6) HT_.out ?_
              refine pT2 0 77 (bz 11 7) HT_.out HW_.out hHeld ?_
              refine pT2 3 80 (bz 11 15) HT_.out HW_.out hHeld ?_
              refine pU 4 81 (bz 11 31) HT_.out ?_
              refine one_ (i := 5) (N := some 82) (bz 11 63) rfl rfl (pO HT_.out) uY (fun K hK => ?_)
              refine goes_ Try.func49 uS rfl #[.agg #[.int .i64 (ji31), .int .i64 2], .slice Ao47 y158.length co47] uV rfl rfl uf ?_
              with_reducible refine (GRenc.ossuaryref1_Encode.calls kj20 (ji31) 2 _ _ y158 t162 t165 _ ?side1 ?side2 A34.out).mono ?_
              (case side1 => repeat (first | exact uc | (with_reducible refine Kd.C_alloc ?_ _) | (with_reducible refine Kd.C_drewN ?_ _) | (with_reducible refine Kd.C_drew ?_)))
              (case side2 => exact HC161.out)
              rintro e w48 ⟨v163, rfl, ho0, hb⟩
              refine ⟨_, rfl, ?_⟩
              have HO164 := mk0 (Kd.R_lower (Kd.R_new' ho0 (Kd.R_lt (rB HO_14.out))) (below_size uW))
              replace HO_14 := mk0 (Kd.R_elder' (rB HO_14.out) (Kd.R_base ho0) hb)
              replace BK146 := bK BK146 hb
              replace HR161 := mk0 (Kd.C_below uc hb)
              replace HB := mk0 (below_step uW hb)
              (try clear hb)
              (try clear hb2)
              (try clear hk)
              (try clear hi)
              (try clear ho0)
              refine hK.out _ _ ⟨(blk_cell BK146.out 0).trans rfl, (blk_cell BK146.out 1).trans rfl⟩ (fun hHeld => ?_)
              clear hK K
              refine pM (some 82) ?_
              refine pU 6 76 (bz 11 127) HT_.out ?_
              refine pU 7 83 (bz 11 255) HT_.out ?_
              refine pU 8 84 (bz 11 511) HT_.out ?_
              refine pU 9 16 (bz 11 1023) HT_.out ?_
              refine pU 10 17 (bz 11 2047) HT_.out ?_
              refine done_ (done_of HT_.out uS) ?_
              try go_wp2
              replace HO_14 := mk0 (Kd.R_drew HO_14.out)
              replace HO164 := mk0 (Kd.R_drew HO164.out)
              replace BK146 := mk0 (blk_drew BK146.out)
              replace HR161 := mk0 (Kd.C_drew HR161.out)
              replace HB := mk0 (below_drew1 HB.out)
              refine start_ (n := 13) (S := fun w' => w'.cell? ⟨gb146, 0, none⟩ = some (.int .i64 (ji31)) ∧ w'.cell? ⟨gb146, 1, none⟩ = some (.int .i64 2)) (ds := []) (bz 13 0) uS rfl rfl ⟨(blk_cell BK146.out 0).trans rfl, (blk_cell BK146.out 1).trans rfl⟩ (fun hHeld => ?_); refine with_tabW ossuarylaw8_RebuildCode.tab15 ossuarylaw8_RebuildCode.bits15 (fun HT_ HW_ => ?_)
              generalize w48.drew = w49 at HO_14 HO164 BK146 HR161 HB hHeld ⊢
              refine pU 1 87 (bz 13 2) HT_.out ?_
              refine pU 2 88 (bz 13 6) HT_.out ?_
              refine pU 3 89 (bz 13 14) HT_.out ?_
              refine pU 5 91 (bz 13 46) HT_.out ?_
              refine pT2 0 86 (bz 13 47) HT_.out HW_.out hHeld ?_
              refine pT2 4 90 (bz 13 63) HT_.out HW_.out hHeld ?_
              refine one_ (i := 6) (N := some 92) (bz 13 127) rfl rfl (pO HT_.out) uY (fun K hK => ?_)
              refine goes_ Try.func62 uS rfl #[.int .i64 (wrap64 ((ji31) + 2)), .int .i64 (ji31), .int .i64 a3] uV rfl rfl uf ?_
              with_reducible refine (ossuarylaw8_some.calls kj20 (wrap64 ((ji31) + 2)) (ji31) a3 t166 _ A35.out).mono ?_
              rintro e w50 ⟨v167, rfl, ho0, hb⟩
              refine ⟨_, rfl, ?_⟩
              replace HO_14 := mk0 (Kd.R_below (rB HO_14.out) hb)
              replace HO164 := mk0 (Kd.R_below (rB HO164.out) hb)
              have HO168 := mk0 (Kd.R_lower ho0 (below_size uW))
              replace BK146 := bK BK146 hb
              replace HR161 := mk0 (Kd.C_below uc hb)
              replace HB := mk0 (below_step uW hb)
              (try clear hb)
              (try clear hb2)
              (try clear hk)
              (try clear hi)
              (try clear ho0)
              obtain ⟨Ao51, co51, eo51⟩ := Kd.R_slice HO168.out
              (first | subst eo51 | (injection eo51 with f1_ f2_ f3_; have f4_ := f1_.symm; have f5_ := f3_.symm; clear f1_ f2_ f3_; subst f4_; subst f5_))
              refine hK.out _ _ ⟨(blk_cell BK146.out 0).trans rfl, (blk_cell BK146.out 1).trans rfl⟩ (fun hHeld => ?_)
              clear hK K
              refine pM (some 92) ?_
              refine one_ (i := 7) (N := some 93) (bz 13 255) rfl rfl (pO HT_.out) uY (fun K hK => ?_)
              refine goes_ Try.func59 uS rfl #[.agg #[.int .i64 (ji31), .int .i64 2], .slice Ao47 t153.length co47, .slice Ao51 t166.length co51] uV rfl rfl uf ?_
              with_reducible refine (GEnc.rebuild_Rebuild.calls kj20 (ji31) 2 _ _ t153 _ _ t166 t169 t172 _ ?side1 ?side2 ?side3 ?side4 A36.out).mono ?_
              (case side1 => exact cB (Kd.R_reads' HO_14.out).2.2)
              (case side2 => exact (Kd.R_reads' HO_14.out).2.1)
              (case side3 => exact cB (Kd.R_reads' HO168.out).2.2)
              (case side4 => exact (Kd.R_reads' HO168.out).2.1)
              rintro e w52 ⟨v170, rfl, ho0, hb⟩
              refine ⟨_, rfl, ?_⟩
              replace HO168 := mk0 (Kd.R_below (rB HO168.out) hb)
              have HO171 := mk0 (Kd.R_lower (Kd.R_new' (Kd.R_new' ho0 (Kd.R_lt (rB HO_14.out))) (Kd.R_lt (rB HO164.out))) (below_size uW))
              replace HO_14 := mk0 (Kd.R_elder' (rB HO_14.out) (Kd.R_base ho0) hb)
              replace HO164 := mk0 (Kd.R_elder' (rB HO164.out) (Kd.R_base ho0) hb)
              replace BK146 := bK BK146 hb
              replace HR161 := mk0 (Kd.C_below uc hb)
              replace HB := mk0 (below_step uW hb)
              (try clear hb)
              (try clear hb2)
              (try clear hk)
              (try clear hi)
              (try clear ho0)
              refine hK.out _ _ ⟨(blk_cell BK146.out 0).trans rfl, (blk_cell BK146.out 1).trans rfl⟩ (fun hHeld => ?_)
              clear hK K
              refine pM (some 93) ?_
              refine pU 8 85 (bz 13 511) HT_.out ?_
              refine pU 9 94 (bz 13 1023) HT_.out ?_
              refine pU 10 95 (bz 13 2047) HT_.out ?_
              refine pU 11 18 (bz 13 4095) HT_.out ?_
              refine pU 12 19 (bz 13 8191) HT_.out ?_
              refine done_ (done_of HT_.out uS) ?_
              have hcz53_0 : w52.cell? ⟨gb146, 0, none⟩ = some (.int .i64 (ji31)) := (blk_cell BK146.out 0).trans rfl
              have hcz53_1 : w52.cell? ⟨gb146, 1, none⟩ = some (.int .i64 2) := (blk_cell BK146.out 1).trans rfl
              have hfz53_0 := blk_frozen BK146.out 0
              have hfz53_1 := blk_frozen BK146.out 1
              have q54 : ((ji31) : Int) ≤ ((t153.length : Int) : Int) := of_decide_eq_true uH
              obtain ⟨i054, hi054, _, hsz54, _⟩ := info_parts info9
              have hroom54 : t153.length ≤ co47 := (Kd.R_reads' HO_14.out).2.1
              have hC54 : Kd.C Kd.string _ Ao47 t153.length t153 := (Kd.R_reads' HO_14.out).2.2
              have q054 : (0 : Int) ≤ ((ji31) : Int) := of_decide_eq_true uH
              have hcut54 := cut_from (P := Try.prog) 58 9 .i64 Try.underlying58 hi054 1 hsz54 Ao47 t153.length co47 (ji31) q054 q54
              have hr54 := Kd.C_drop (m := ((ji31) : Int).toNat) (c := co47) hC54 uU hroom54
              obtain ⟨A54, hA54⟩ : ∃ A1, A1 = (if co47 = ((ji31) : Int).toNat then Ao47 else (Ao47 : Option Addr).map (·.add (((ji31) : Int).toNat * 1))) := ⟨_, rfl⟩
              obtain ⟨c54, hc54⟩ : ∃ c1, c1 = co47 - ((ji31) : Int).toNat := ⟨_, rfl⟩
              have hy54 : y173.length = t153.length - ((ji31) : Int).toNat := (by rw [Ny173.out, List.length_drop] <;> omega)
              rw [show (t153).drop ((ji31) : Int).toNat = y173 from Ny173.out.symm] at hr54
              replace hr54 : Kd.C Kd.string _ A54 y173.length y173 := (by rw [hA54]; exact hr54)
              rw [← hy54, ← hA54, ← hc54] at hcut54
              have HR176 := mk0 hr54
              have HC176 := mk0 (show y173.length ≤ c54 from by rw [hy54, hc54]; exact Nat.sub_le_sub_right hroom54 _)
              clear hr54 hC54 hroom54 hi054 hsz54 hc54
              have KY54 := mk0 hy54
              have KA54 := mk0 hA54
              clear hy54 hA54
              have KL54 := mk0 (show ((ji31) : Int).toNat ≤ t153.length from by omega)
              replace q54 := eq_true q54
              obtain ⟨Ao55, co55, eo55⟩ := Kd.R_slice HO164.out
              subst eo55
              try go_wp2_with (first | (go_at_call 50; (with_reducible refine (GVec.ossuarylaw0_SameTexts.calls kj20 _ _ t162 _ _ y173 true _ ?side1 ?side2 ?side3 ?side4 A40.out).mono ?_); (case side1 => exact cB (Kd.R_reads' HO164.out).2.2); (case side2 => exact (Kd.R_reads' HO164.out).2.1); (case side3 => repeat (first | exact (by repeat (first | (with_reducible exact HR176.out) | (with_reducible refine Kd.C_alloc ?_ _) | (with_reducible refine Kd.C_drewN ?_ _) | (with_reducible refine Kd.C_drew ?_) | exact HR176.out)) | (with_reducible refine Kd.C_alloc ?_ _) | (with_reducible refine Kd.C_drewN ?_ _) | (with_reducible refine Kd.C_drew ?_))); (case side4 => exact HC176.out); rintro e w' ⟨rfl, ⟨nd, rfl⟩⟩) | (go_at_call 35; (with_reducible refine (GBase.ossuarylaw0_Num.calls t172 t178 _ A42.out).mono ?_); rintro e w' ⟨rfl, ⟨nd, rfl⟩⟩; obtain ⟨Ao56, co56, eo56⟩ := Kd.R_slice HO171.out; subst eo56) | (go_at_call 50; (with_reducible refine (GVec.ossuarylaw0_SameTexts.calls kj20 _ _ t153 _ _ t169 t179 _ ?side1 ?side2 ?side3 ?side4 A44.out).mono ?_); (case side1 => exact cB (Kd.R_reads' HO_14.out).2.2); (case side2 => exact (Kd.R_reads' HO_14.out).2.1); (case side3 => exact cB (Kd.R_reads' HO171.out).2.2); (case side4 => exact (Kd.R_reads' HO171.out).2.1); rintro e w' ⟨rfl, ⟨nd, rfl⟩⟩))
              go_ret
              exact ⟨by first | rfl | (simp [errW_none, errW_some] <;> rfl) | (simp only [← hji8, ← hji31]; first | rfl | (simp [errW_none, errW_some] <;> rfl)) | (simp [*, errW_none, errW_some] <;> rfl), uW⟩
             ·rw [if_neg c43] at H
              have c43b0 : (t178 == 0) = false := beq_eq_false_iff_ne.mpr c43
              have c43b1 : (t178 != 0) = true := bne_iff_ne.mpr c43
              exact absurd ((Option.some.inj H).trans HTrue.out) uY
            ·replace c41 := Bool.eq_false_iff.mpr c41
             subst c41
             have H1 : (some false) = some r := by rw [if_neg (show ¬ (false = true) by decide)] at H; exact H
             clear H
             have H := H1
             clear H1
             exact absurd ((Option.some.inj H).trans HTrue.out) uY
           ·rw [if_neg c37] at H
            have c37b0 : (t165 == 0) = false := beq_eq_false_iff_ne.mpr c37
            have c37b1 : (t165 != 0) = true := bne_iff_ne.mpr c37
            exact absurd ((Option.some.inj H).trans HTrue.out) uY
          ·rw [if_neg c33] at H
           exact absurd H uZ
         ·rw [if_neg c32] at H
          exact absurd H uZ
 ·replace c6 := Bool.eq_false_iff.mpr c6
  subst c6
  have H1 : (some false) = some r := by rw [if_neg (show ¬ (false = true) by decide)] at H; exact H
  clear H
  have H := H1
  clear H1
  exact absurd ((Option.some.inj H).trans HTrue.out) uY
/-- THE ONE PURE STATEMENT of ossuarylaw8_RebuildCode: yours. -/
noncomputable def ossuarylaw8_RebuildCode.Pure : Prop := ∀ (a0 : Int) (a1 : ByteArray) (a2 : Int) (a3 : Int), (Lit.int .i64 a0).wf = true → a1.size ≤ 140737488351232 → (Lit.int .i64 a2).wf = true → (Lit.int .i64 a3).wf = true → ∃ k, ossuarylaw8_RebuildCode.f k a0 a1 a2 a3 = some true
end Go.Proofs.Ytaahnicjjpddjaa.GRebuildCode
