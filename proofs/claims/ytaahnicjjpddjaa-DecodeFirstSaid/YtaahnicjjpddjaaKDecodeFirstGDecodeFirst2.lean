/- Functions of the program as Lean functions, each with a proof that its call comes to what the function says. No condition. -/
import Derived.Test.YtaahnicjjpddjaaKDecodeFirstGDecodeFirst1
namespace Go.Proofs.Ytaahnicjjpddjaa.GDecodeFirst
open Go.Proofs.Ytaahnicjjpddjaa.Fn
open Go.Proofs.Ytaahnicjjpddjaa
open Go.RowKit Go.Proofs.YtaahnicjjpddjaaW.PrintWords Go.Proofs.YtaahnicjjpddjaaW.PrintLast
set_option linter.unusedVariables false
set_option linter.unusedSimpArgs false
mutual
noncomputable def ossuarylaw7_DecodeFirst.j0 : Nat → ByteArray → Int → List ByteArray → List ByteArray → Bool → Int → Int → Option (Bool)
 | 0, _, _, _, _, _, _, _ => none
 | k + 1, x2, x3, x10, x11, x43, x149000, x149001 => if x43 = true then (some false) else ((some (([] : List ByteArray) : List ByteArray)).bind fun y156 => (if y156.length + x10.length < 8796093022208 then ((some (y156 ++ x10 : List ByteArray)).bind fun y159 => (if y159.length + x11.length < 8796093022208 then ((some (y159 ++ x11 : List ByteArray)).bind fun y162 => (if 0 ≤ (y162.length : Int) then (if ((y162.length : Int) : Int).toNat ≤ 281474976710656 then (ossuarylaw7_DecodeFirst.l0 k x2 x3 x10 y162 (List.replicate ((y162.length : Int) : Int).toNat false) 0 0 x149000 x149001) else (none)) else (none))) else (none))) else (none)))
noncomputable def ossuarylaw7_DecodeFirst.l0 : Nat → ByteArray → Int → List ByteArray → List ByteArray → List Bool → Int → Int → Int → Int → Option (Bool)
 | 0, _, _, _, _, _, _, _, _, _ => none
 | k + 1, x2, x3, x10, x13, x14, x15, x16, x149000, x149001 => if x16 < (x13.length : Int) then (if 0 ≤ x16 then (if (Go.bits .and .i64 (shr .i64 x3 x16) 1) = 1 then (if x16 < (x14.length : Int) then (ossuarylaw7_DecodeFirst.j2 k x2 x3 x10 x13 (x14.set (x16 : Int).toNat true) x15 x16 x149000 x149001) else (none)) else (if x16 < (x14.length : Int) then (ossuarylaw7_DecodeFirst.j2 k x2 x3 x10 x13 (x14.set (x16 : Int).toNat (decide ((wrap64 ((x13.length : Int) - x16)) ≤ (wrap64 (x149000 - x15))))) x15 x16 x149000 x149001) else (none))) else (none)) else ((GEnc.decode_Decode.f k x149000 x149001 x13 x14).bind fun bt168 => ((GBase.ossuarylaw0_Num.f bt168.2).bind fun t172 => (if t172 = 0 then ((GVec.ossuarylaw0_SameTexts.f k bt168.1 x10).bind fun t173 => (some t173)) else (some false))))
noncomputable def ossuarylaw7_DecodeFirst.j2 : Nat → ByteArray → Int → List ByteArray → List ByteArray → List Bool → Int → Int → Int → Int → Option (Bool)
 | 0, _, _, _, _, _, _, _, _, _ => none
 | k + 1, x2, x3, x10, x13, x14, x15, x16, x149000, x149001 => if 0 ≤ x16 then (if x16 < (x14.length : Int) then (if rdOf false x14 x16 = true then (if (wrap64 (x15 + 1)) > x149000 then (if x16 < (x13.length : Int) then ((Pr.lie.f (rdOf ByteArray.empty x13 x16) x2).bind fun t178 => (ossuarylaw7_DecodeFirst.l0 k x2 x3 x10 (x13.set (x16 : Int).toNat t178) x14 (wrap64 (x15 + 1)) (wrap64 (x16 + 1)) x149000 x149001)) else (none)) else (ossuarylaw7_DecodeFirst.l0 k x2 x3 x10 x13 x14 (wrap64 (x15 + 1)) (wrap64 (x16 + 1)) x149000 x149001)) else (ossuarylaw7_DecodeFirst.l0 k x2 x3 x10 x13 x14 x15 (wrap64 (x16 + 1)) x149000 x149001)) else (none)) else (none)
end
noncomputable def ossuarylaw7_DecodeFirst.f (k : Nat) (a0 : Int) (a1 : ByteArray) (a2 : ByteArray) (a3 : Int) : Option (Bool) := (ossuarylaw7_awake.f k).bind fun t147 => (if t147 = true then ((ossuarylaw7_pieces.f k a1 (wrap64 (1 + (wrap64 (Int.tmod (IntKind.u64.wrap (a0)) 4))))).bind fun t149 => ((GRenc.ossuaryref1_Encode.f k (wrap64 (1 + (wrap64 (Int.tmod (IntKind.u64.wrap (a0)) 4)))) 2 t149).bind fun bt152 => (if bt152.2 = 0 then (ossuarylaw7_DecodeFirst.j0 k a2 a3 t149 bt152.1 (decide ((t149.length : Int) < 1)) (wrap64 (1 + (wrap64 (Int.tmod (IntKind.u64.wrap (a0)) 4)))) 2) else (ossuarylaw7_DecodeFirst.j0 k a2 a3 t149 bt152.1 true (wrap64 (1 + (wrap64 (Int.tmod (IntKind.u64.wrap (a0)) 4)))) 2)))) else (some false))
theorem ossuarylaw7_DecodeFirst.mono_l : ∀ k, (∀ y0 y1 y2 y3 y4 y5 y6, LeO (ossuarylaw7_DecodeFirst.j0 k y0 y1 y2 y3 y4 y5 y6) (ossuarylaw7_DecodeFirst.j0 (k + 1) y0 y1 y2 y3 y4 y5 y6)) ∧ (∀ y0 y1 y2 y3 y4 y5 y6 y7 y8, LeO (ossuarylaw7_DecodeFirst.l0 k y0 y1 y2 y3 y4 y5 y6 y7 y8) (ossuarylaw7_DecodeFirst.l0 (k + 1) y0 y1 y2 y3 y4 y5 y6 y7 y8)) ∧ (∀ y0 y1 y2 y3 y4 y5 y6 y7 y8, LeO (ossuarylaw7_DecodeFirst.j2 k y0 y1 y2 y3 y4 y5 y6 y7 y8) (ossuarylaw7_DecodeFirst.j2 (k + 1) y0 y1 y2 y3 y4 y5 y6 y7 y8))
 | 0 => ⟨fun _ _ _ _ _ _ _ r h => by simp [ossuarylaw7_DecodeFirst.j0] at h, fun _ _ _ _ _ _ _ _ _ r h => by simp [ossuarylaw7_DecodeFirst.l0] at h, fun _ _ _ _ _ _ _ _ _ r h => by simp [ossuarylaw7_DecodeFirst.j2] at h⟩
 | k + 1 => by
  obtain ⟨ih0, ih1, ih2⟩ := ossuarylaw7_DecodeFirst.mono_l k
  refine ⟨?_, ?_, ?_⟩
  ·intro y0 y1 y2 y3 y4 y5 y6
   unfold ossuarylaw7_DecodeFirst.j0
   repeat' with_reducible first | exact ih0 _ _ _ _ _ _ _ | exact ih1 _ _ _ _ _ _ _ _ _ | exact ih2 _ _ _ _ _ _ _ _ _ | exact GEnc.decode_Decode.mono _ _ _ _ _ | exact GRenc.ossuaryref1_Encode.mono _ _ _ _ | exact GVec.ossuarylaw0_SameTexts.mono _ _ _ | exact ossuarylaw7_awake.mono _ | exact ossuarylaw7_pieces.mono _ _ _ | exact LeO.refl _ | exact LeO.none _ | refine LeO.ite ?_ ?_ | refine LeO.bind ?_ (fun _ => ?_)
  ·intro y0 y1 y2 y3 y4 y5 y6 y7 y8
   unfold ossuarylaw7_DecodeFirst.l0
   repeat' with_reducible first | exact ih0 _ _ _ _ _ _ _ | exact ih1 _ _ _ _ _ _ _ _ _ | exact ih2 _ _ _ _ _ _ _ _ _ | exact GEnc.decode_Decode.mono _ _ _ _ _ | exact GRenc.ossuaryref1_Encode.mono _ _ _ _ | exact GVec.ossuarylaw0_SameTexts.mono _ _ _ | exact ossuarylaw7_awake.mono _ | exact ossuarylaw7_pieces.mono _ _ _ | exact LeO.refl _ | exact LeO.none _ | refine LeO.ite ?_ ?_ | refine LeO.bind ?_ (fun _ => ?_)
  ·intro y0 y1 y2 y3 y4 y5 y6 y7 y8
   unfold ossuarylaw7_DecodeFirst.j2
   repeat' with_reducible first | exact ih0 _ _ _ _ _ _ _ | exact ih1 _ _ _ _ _ _ _ _ _ | exact ih2 _ _ _ _ _ _ _ _ _ | exact GEnc.decode_Decode.mono _ _ _ _ _ | exact GRenc.ossuaryref1_Encode.mono _ _ _ _ | exact GVec.ossuarylaw0_SameTexts.mono _ _ _ | exact ossuarylaw7_awake.mono _ | exact ossuarylaw7_pieces.mono _ _ _ | exact LeO.refl _ | exact LeO.none _ | refine LeO.ite ?_ ?_ | refine LeO.bind ?_ (fun _ => ?_)
theorem ossuarylaw7_DecodeFirst.mono : ∀ a0 a1 a2 a3 k, LeO (ossuarylaw7_DecodeFirst.f k a0 a1 a2 a3) (ossuarylaw7_DecodeFirst.f (k + 1) a0 a1 a2 a3) := by
 intro a0 a1 a2 a3 k
 obtain ⟨ih0, ih1, ih2⟩ := ossuarylaw7_DecodeFirst.mono_l k
 unfold ossuarylaw7_DecodeFirst.f
 repeat' with_reducible first | exact ih0 _ _ _ _ _ _ _ | exact ih1 _ _ _ _ _ _ _ _ _ | exact ih2 _ _ _ _ _ _ _ _ _ | exact GEnc.decode_Decode.mono _ _ _ _ _ | exact GRenc.ossuaryref1_Encode.mono _ _ _ _ | exact GVec.ossuarylaw0_SameTexts.mono _ _ _ | exact ossuarylaw7_awake.mono _ | exact ossuarylaw7_pieces.mono _ _ _ | exact LeO.refl _ | exact LeO.none _ | refine LeO.ite ?_ ?_ | refine LeO.bind ?_ (fun _ => ?_)
set_option maxHeartbeats 8000000 in
set_option maxRecDepth 100000 in
theorem ossuarylaw7_DecodeFirst.calls (k : Nat) (a0 : Int) (a1 : ByteArray) (a2 : ByteArray) (a3 : Int) (r : Bool) (w : World) (h : ossuarylaw7_DecodeFirst.f k a0 a1 a2 a3 = some r) (hT : r = true := by rfl) :
  Calls Try.prog 20 #[.int .i64 a0, .string a1, .string a2, .int .i64 a3] w fun e w' => e = .returned (.bool r) ∧ Below w.heap.size w w' := by
 have HTrue := mk0 hT
 clear hT
 have hu51 := Try.underlying51
 have HB := mk0 (Below.refl w.heap.size w)
 have H : ((ossuarylaw7_awake.f k).bind fun t147 => (if t147 = true then ((ossuarylaw7_pieces.f k a1 (wrap64 (1 + (wrap64 (Int.tmod (IntKind.u64.wrap (a0)) 4))))).bind fun t149 => ((GRenc.ossuaryref1_Encode.f k (wrap64 (1 + (wrap64 (Int.tmod (IntKind.u64.wrap (a0)) 4)))) 2 t149).bind fun bt152 => (if bt152.2 = 0 then (ossuarylaw7_DecodeFirst.j0 k a2 a3 t149 bt152.1 (decide ((t149.length : Int) < 1)) (wrap64 (1 + (wrap64 (Int.tmod (IntKind.u64.wrap (a0)) 4)))) 2) else (ossuarylaw7_DecodeFirst.j0 k a2 a3 t149 bt152.1 true (wrap64 (1 + (wrap64 (Int.tmod (IntKind.u64.wrap (a0)) 4)))) 2)))) else (some false))) = some r := h
 clear h
 replace H := Option.bind_eq_some_iff.mp H
 obtain ⟨t147, A50, H⟩ := H
 replace H : (if t147 = true then ((ossuarylaw7_pieces.f k a1 (wrap64 (1 + (wrap64 (Int.tmod (IntKind.u64.wrap (a0)) 4))))).bind fun t149 => ((GRenc.ossuaryref1_Encode.f k (wrap64 (1 + (wrap64 (Int.tmod (IntKind.u64.wrap (a0)) 4)))) 2 t149).bind fun bt152 => (if bt152.2 = 0 then (ossuarylaw7_DecodeFirst.j0 k a2 a3 t149 bt152.1 (decide ((t149.length : Int) < 1)) (wrap64 (1 + (wrap64 (Int.tmod (IntKind.u64.wrap (a0)) 4)))) 2) else (ossuarylaw7_DecodeFirst.j0 k a2 a3 t149 bt152.1 true (wrap64 (1 + (wrap64 (Int.tmod (IntKind.u64.wrap (a0)) 4)))) 2)))) else (some false)) = some r := H
 have A5 := mk0 A50
 clear A50
 by_cases c6 : t147 = true
 ·subst c6
  have H1 : ((ossuarylaw7_pieces.f k a1 (wrap64 (1 + (wrap64 (Int.tmod (IntKind.u64.wrap (a0)) 4))))).bind fun t149 => ((GRenc.ossuaryref1_Encode.f k (wrap64 (1 + (wrap64 (Int.tmod (IntKind.u64.wrap (a0)) 4)))) 2 t149).bind fun bt152 => (if bt152.2 = 0 then (ossuarylaw7_DecodeFirst.j0 k a2 a3 t149 bt152.1 (decide ((t149.length : Int) < 1)) (wrap64 (1 + (wrap64 (Int.tmod (IntKind.u64.wrap (a0)) 4)))) 2) else (ossuarylaw7_DecodeFirst.j0 k a2 a3 t149 bt152.1 true (wrap64 (1 + (wrap64 (Int.tmod (IntKind.u64.wrap (a0)) 4)))) 2)))) = some r := by rw [if_pos rfl] at H; exact H
  clear H
  have H := H1
  clear H1
  replace H := Option.bind_eq_some_iff.mp H
  obtain ⟨t149, A70, H⟩ := H
  replace H : ((GRenc.ossuaryref1_Encode.f k (wrap64 (1 + (wrap64 (Int.tmod (IntKind.u64.wrap (a0)) 4)))) 2 t149).bind fun bt152 => (if bt152.2 = 0 then (ossuarylaw7_DecodeFirst.j0 k a2 a3 t149 bt152.1 (decide ((t149.length : Int) < 1)) (wrap64 (1 + (wrap64 (Int.tmod (IntKind.u64.wrap (a0)) 4)))) 2) else (ossuarylaw7_DecodeFirst.j0 k a2 a3 t149 bt152.1 true (wrap64 (1 + (wrap64 (Int.tmod (IntKind.u64.wrap (a0)) 4)))) 2))) = some r := H
  have A7 := mk0 A70
  clear A70
  replace H := Option.bind_eq_some_iff.mp H
  obtain ⟨⟨t152, t155⟩, A80, H⟩ := H
  replace H : (if t155 = 0 then (ossuarylaw7_DecodeFirst.j0 k a2 a3 t149 t152 (decide ((t149.length : Int) < 1)) (wrap64 (1 + (wrap64 (Int.tmod (IntKind.u64.wrap (a0)) 4)))) 2) else (ossuarylaw7_DecodeFirst.j0 k a2 a3 t149 t152 true (wrap64 (1 + (wrap64 (Int.tmod (IntKind.u64.wrap (a0)) 4)))) 2)) = some r := H
  have A8 := mk0 A80
  clear A80
  have HC9 := mk0 H
  clear H
  go_enter Try.func20, Try.ntmps20
  go_upto_region 6 with (first | ((with_reducible refine gCa (f := 55) rfl ?_); refine goesL_ (some 19) rfl rfl Try.func55 uU rfl #[] rfl ui ?_; (with_reducible refine (ossuarylaw7_awake.calls k  true _ A5.out).mono ?_); rintro e w10 ⟨rfl, hb⟩; refine ⟨_, rfl, ?_⟩; replace HB := mk0 (below_step uu hb); (try clear hb)) | ((with_reducible refine gate_dst (N := 9) rfl ?_); (try (refine gate_guard uX ?_; dsimp only)); refine box_event uX (N := 9) uX (cs := #[.int .i64 0, .int .i64 0]) (t := 51) uM ?_; intro gb148 hg w11 hbox hb; have BK148 := mk0 (hbox); have GW148 := mk0 (nB hg HB); have GE148 := mk0 (nB hg HB); replace HB := mk0 (below_step uu hb); clear hb hbox hg; have hcz12_0 : w11.cell? ⟨gb148, 0, none⟩ = some (.int .i64 0) := (blk_cell BK148.out 0).trans rfl; have hcz12_1 : w11.cell? ⟨gb148, 1, none⟩ = some (.int .i64 0) := (blk_cell BK148.out 1).trans rfl; have hfz12_0 := blk_frozen BK148.out 0; have hfz12_1 := blk_frozen BK148.out 1) | ((with_reducible refine gCa (f := 56) rfl ?_); refine goesL_ (some 30) rfl rfl Try.func56 uU rfl #[.string a1, .int .i64 (wrap64 (1 + (wrap64 (Int.tmod (IntKind.u64.wrap (a0)) 4))))] rfl ui ?_; (with_reducible refine (ossuarylaw7_pieces.calls k a1 (wrap64 (1 + (wrap64 (Int.tmod (IntKind.u64.wrap (a0)) 4)))) t149 _ A7.out).mono ?_); rintro e w13 ⟨v150, rfl, ho0, hb⟩; refine ⟨_, rfl, ?_⟩; have HO151 := mk0 (Kd.R_lower ho0 (below_size uY)); replace BK148 := mk0 (blk_below (g := gb148) (o := .cells #[.int .i64 (wrap64 (1 + (wrap64 (Int.tmod (IntKind.u64.wrap (a0)) 4)))), .int .i64 2] 51 (0, 0)) (by refine bB ?_; refine blk_put (cs := #[.int .i64 (wrap64 (1 + (wrap64 (Int.tmod (IntKind.u64.wrap (a0)) 4)))), .int .i64 0]) ?_ 1 _ rfl; refine bB ?_; refine blk_put (cs := #[.int .i64 0, .int .i64 0]) ?_ 0 _ rfl; refine bB ?_; exact BK148.out) hb); replace HB := mk0 (below_step uY hb); (try clear hb); (try clear ho0); have hcz14_0 : w13.cell? ⟨gb148, 0, none⟩ = some (.int .i64 (wrap64 (1 + (wrap64 (Int.tmod (IntKind.u64.wrap (a0)) 4))))) := (blk_cell BK148.out 0).trans rfl; have hcz14_1 : w13.cell? ⟨gb148, 1, none⟩ = some (.int .i64 2) := (blk_cell BK148.out 1).trans rfl; have hfz14_0 := blk_frozen BK148.out 0; have hfz14_1 := blk_frozen BK148.out 1; obtain ⟨Ao15, co15, eo15⟩ := Kd.R_slice HO151.out; subst eo15) | ((with_reducible refine gCa (f := 49) rfl ?_); refine goesL_ (some 34) rfl rfl Try.func49 uU rfl #[.agg #[.int .i64 (wrap64 (1 + (wrap64 (Int.tmod (IntKind.u64.wrap (a0)) 4)))), .int .i64 2], .slice Ao15 t149.length co15] rfl ui ?_; (with_reducible refine (GRenc.ossuaryref1_Encode.calls k (wrap64 (1 + (wrap64 (Int.tmod (IntKind.u64.wrap (a0)) 4)))) 2 _ _ t149 t152 t155 _ ?side1 ?side2 A8.out).mono ?_); (case side1 => exact cB (Kd.R_reads' HO151.out).2.2); (case side2 => exact (Kd.R_reads' HO151.out).2.1); rintro e w16 ⟨v153, rfl, ho0, hb⟩; refine ⟨_, rfl, ?_⟩; have HO154 := mk0 (Kd.R_lower (Kd.R_new' ho0 (Kd.R_lt (rB HO151.out))) (below_size uY)); replace HO151 := mk0 (Kd.R_elder' (rB HO151.out) (Kd.R_base ho0) hb); replace BK148 := mk0 (blk_below (g := gb148) (o := .cells #[.int .i64 (wrap64 (1 + (wrap64 (Int.tmod (IntKind.u64.wrap (a0)) 4)))), .int .i64 2] 51 (0, 0)) (bB BK148.out) hb); replace HB := mk0 (below_step uY hb); (try clear hb); (try clear ho0)))
  (try simp only [Act.put, List.setIfInBounds_toArray, List.set_cons_zero, List.set_cons_succ])
  go_cut [43] (fun v43 wc => ∃ (kq : Nat) (x43_8 : Bool), v43 = .bool x43_8 ∧ Aside0 (ossuarylaw7_DecodeFirst.j0 kq a2 a3 t149 t152 x43_8 (wrap64 (1 + (wrap64 (Int.tmod (IntKind.u64.wrap (a0)) 4)))) 2 = some r) ∧ Aside0 (kq ≤ k) ∧ Aside0 (Kd.R Kd.string 9 wc w.heap.size (fun k_ => some k_ ≠ (v153 : Value).ownBlock) (.slice Ao15 t149.length co15) t149) ∧ Aside0 (Kd.R Kd.string 9 wc w.heap.size (fun k_ => some k_ ≠ ((.slice Ao15 t149.length co15) : Value).ownBlock) v153 t152) ∧ Aside0 (wc.heap[gb148]? = some (.cells #[.int .i64 (wrap64 (1 + (wrap64 (Int.tmod (IntKind.u64.wrap (a0)) 4)))), .int .i64 2] 51 (0, 0))) ∧ Aside0 (Below w.heap.size w wc))
  case first =>
   have H := HC9.out
   clear HC9
   by_cases c17 : t155 = 0
   ·rw [if_pos c17] at H
    have c17b0 : (t155 == 0) = true := beq_iff_eq.mpr c17
    have c17b1 : (t155 != 0) = false := bne_eq_false_iff_eq.mpr c17
    clear c17
    (first | rw [c17b0] | (simp only [i64_w, i32_w]; rw [c17b0]) | skip)
    have H' := mk0 H
    clear H
    go_wp2
    go_meet
    case rel => exact ⟨_, (decide ((t149.length : Int) < 1)), uK, H', ⟨uP⟩, ⟨by (with_reducible repeat (first | apply rA | apply rN | apply rD)); exact Kd.R_mono HO151.out (fun _ hk => hk.2)⟩, ⟨by (with_reducible repeat (first | apply rA | apply rN | apply rD)); exact Kd.R_mono HO154.out (fun _ hk => hk.2)⟩, ⟨bB BK148.out⟩, ⟨uY⟩⟩
   ·rw [if_neg c17] at H
    have c17b0 : (t155 == 0) = false := beq_eq_false_iff_ne.mpr c17
    have c17b1 : (t155 != 0) = true := bne_iff_ne.mpr c17
    (first | rw [c17b0] | (simp only [i64_w, i32_w]; rw [c17b0]) | skip)
    have H' := mk0 H
    clear H
    go_wp2
    go_meet
    case rel => exact ⟨_, (true), uK, H', ⟨uP⟩, ⟨by (with_reducible repeat (first | apply rA | apply rN | apply rD)); exact Kd.R_mono HO151.out (fun _ hk => hk.2)⟩, ⟨by (with_reducible repeat (first | apply rA | apply rN | apply rD)); exact Kd.R_mono HO154.out (fun _ hk => hk.2)⟩, ⟨bB BK148.out⟩, ⟨uY⟩⟩
  case rest =>
   clear HC9
   try clear c1
   try clear c2
   try clear p2
   try clear c4
   try clear c5
   try clear c6
   try clear p6
   try clear c17
   try clear c17b0
   try clear c17b1
   try clear hcz12_0
   try clear hcz12_1
   try clear hcz14_0
   try clear hcz14_1
   try clear hfz12_0
   try clear hfz12_1
   try clear hfz14_0
   try clear hfz14_1
   obtain ⟨kq, x43_8, rfl, HA, HJ8, HO_10, HO_11, BK148, HB⟩ := hcut
   cases kq with
   | zero => exact absurd HA.out (by simp [ossuarylaw7_DecodeFirst.j0])
   | succ kj8 =>
    have H := HA.out
    clear HA
    simp only [ossuarylaw7_DecodeFirst.j0] at H
    by_cases c18 : x43_8 = true
    ·subst c18
     have H1 : (some false) = some r := by rw [if_pos rfl] at H; exact H
     clear H
     have H := H1
     clear H1
     exact absurd ((Option.some.inj H).trans HTrue.out) qa
    ·replace c18 := Bool.eq_false_iff.mpr c18
     subst c18
     have H1 : ((some (([] : List ByteArray) : List ByteArray)).bind fun y156 => (if y156.length + t149.length < 8796093022208 then ((some (y156 ++ t149 : List ByteArray)).bind fun y159 => (if y159.length + t152.length < 8796093022208 then ((some (y159 ++ t152 : List ByteArray)).bind fun y162 => (if 0 ≤ (y162.length : Int) then (if ((y162.length : Int) : Int).toNat ≤ 281474976710656 then (ossuarylaw7_DecodeFirst.l0 kj8 a2 a3 t149 y162 (List.replicate ((y162.length : Int) : Int).toNat false) 0 0 (wrap64 (1 + (wrap64 (Int.tmod (IntKind.u64.wrap (a0)) 4)))) 2) else (none)) else (none))) else (none))) else (none))) = some r := by rw [if_neg (show ¬ (false = true) by decide)] at H; exact H
     clear H
     have H := H1
     clear H1
     obtain ⟨y156, hy156⟩ : ∃ y_ : List ByteArray, y_ = (([] : List ByteArray)) := ⟨_, rfl⟩
     replace H : (if y156.length + t149.length < 8796093022208 then ((some (y156 ++ t149 : List ByteArray)).bind fun y159 => (if y159.length + t152.length < 8796093022208 then ((some (y159 ++ t152 : List ByteArray)).bind fun y162 => (if 0 ≤ (y162.length : Int) then (if ((y162.length : Int) : Int).toNat ≤ 281474976710656 then (ossuarylaw7_DecodeFirst.l0 kj8 a2 a3 t149 y162 (List.replicate ((y162.length : Int) : Int).toNat false) 0 0 (wrap64 (1 + (wrap64 (Int.tmod (IntKind.u64.wrap (a0)) 4)))) 2) else (none)) else (none))) else (none))) else (none)) = some r := by first | (rw [hy156]; with_reducible exact H) | (have H2_ := (Option.bind_some _ _).symm.trans H; rw [hy156]; with_reducible exact H2_) | (have H2_ := (Option.bind_some _ _).symm.trans H; with_reducible exact H2_) | with_reducible exact H | (rw [hy156]; exact H) | exact H
     have Ny156 := mk0 hy156
     clear hy156
     by_cases c19 : y156.length + t149.length < 8796093022208
     ·rw [if_pos c19] at H
      have LMc19 := mk0 c19
      clear c19
      obtain ⟨y159, hy159⟩ : ∃ y_ : List ByteArray, y_ = (y156 ++ t149) := ⟨_, rfl⟩
      replace H : (if y159.length + t152.length < 8796093022208 then ((some (y159 ++ t152 : List ByteArray)).bind fun y162 => (if 0 ≤ (y162.length : Int) then (if ((y162.length : Int) : Int).toNat ≤ 281474976710656 then (ossuarylaw7_DecodeFirst.l0 kj8 a2 a3 t149 y162 (List.replicate ((y162.length : Int) : Int).toNat false) 0 0 (wrap64 (1 + (wrap64 (Int.tmod (IntKind.u64.wrap (a0)) 4)))) 2) else (none)) else (none))) else (none)) = some r := by first | (rw [hy159]; with_reducible exact H) | (have H2_ := (Option.bind_some _ _).symm.trans H; rw [hy159]; with_reducible exact H2_) | (have H2_ := (Option.bind_some _ _).symm.trans H; with_reducible exact H2_) | with_reducible exact H | (rw [hy159]; exact H) | exact H
      have Ny159 := mk0 hy159
      clear hy159
      by_cases c20 : y159.length + t152.length < 8796093022208
      ·rw [if_pos c20] at H
       have LMc20 := mk0 c20
       clear c20
       obtain ⟨y162, hy162⟩ : ∃ y_ : List ByteArray, y_ = (y159 ++ t152) := ⟨_, rfl⟩
       replace H : (if 0 ≤ (y162.length : Int) then (if ((y162.length : Int) : Int).toNat ≤ 281474976710656 then (ossuarylaw7_DecodeFirst.l0 kj8 a2 a3 t149 y162 (List.replicate ((y162.length : Int) : Int).toNat false) 0 0 (wrap64 (1 + (wrap64 (Int.tmod (IntKind.u64.wrap (a0)) 4)))) 2) else (none)) else (none)) = some r := by first | (rw [hy162]; with_reducible exact H) | (have H2_ := (Option.bind_some _ _).symm.trans H; rw [hy162]; with_reducible exact H2_) | (have H2_ := (Option.bind_some _ _).symm.trans H; with_reducible exact H2_) | with_reducible exact H | (rw [hy162]; exact H) | exact H
       have Ny162 := mk0 hy162
       clear hy162
       by_cases c21 : 0 ≤ (y162.length : Int)
       ·rw [if_pos c21] at H
        have c21b0 := eq_true c21
        have c21b1 : decide (0 ≤ (y162.length : Int)) = true := decide_eq_true c21
        clear c21
        by_cases c22 : ((y162.length : Int) : Int).toNat ≤ 281474976710656
        ·rw [if_pos c22] at H
         have c22b0 := eq_true c22
         have c22b1 : decide (((y162.length : Int) : Int).toNat ≤ 281474976710656) = true := decide_eq_true c22
         clear c22
         obtain ⟨y165, hy165⟩ : ∃ y_ : List Bool, y_ = (List.replicate ((y162.length : Int) : Int).toNat false) := ⟨_, rfl⟩
         replace H : (ossuarylaw7_DecodeFirst.l0 kj8 a2 a3 t149 y162 y165 0 0 (wrap64 (1 + (wrap64 (Int.tmod (IntKind.u64.wrap (a0)) 4)))) 2) = some r := by first | (rw [hy165]; with_reducible exact H) | (have H2_ := (Option.bind_some _ _).symm.trans H; rw [hy165]; with_reducible exact H2_) | (have H2_ := (Option.bind_some _ _).symm.trans H; with_reducible exact H2_) | with_reducible exact H | (rw [hy165]; exact H) | exact H
         have Ny165 := mk0 hy165
         clear hy165
         have H' := mk0 H
         clear H
         go_wp2_with (first | ((with_reducible refine gate_dst (N := 44) rfl ?_); (try (refine gate_guard uX ?_; dsimp only)); refine Kd.R_lit Kd.string _ 9 ?hg (N := 44) ?hd (xs := ([] : List ByteArray)) (inner := []) (ok := fun _ => True) (okp := fun _ => True) ?hr ?hp (fun _ hk => hk) trivial (Below.refl _ _) (Nat.le_refl _) qb ?_; (case hd => rfl); (case hg => rfl); (case hr => first | (go_simp; done) | (go_simp; rfl)); (case hp => exact (Reps.none _ _)); intro v157 w23 ho24 hb hg_ hnew_; clear hg_ hnew_; (first | rw [← Ny156.out] at ho24 | (simp only [Int.reduceToNat] at ho24; rw [← Ny156.out] at ho24)); have HO158 := mk0 (Kd.R_lower (Kd.R_new' (Kd.R_new' ho24 (Kd.R_lt (rB HO_10.out))) (Kd.R_lt (rB HO_11.out))) (below_size uY)); replace HO_10 := mk0 (Kd.R_elder' (rB HO_10.out) (Kd.R_base ho24) hb); replace HO_11 := mk0 (Kd.R_elder' (rB HO_11.out) (Kd.R_base ho24) hb); replace BK148 := mk0 (blk_below (g := gb148) (o := .cells #[.int .i64 (wrap64 (1 + (wrap64 (Int.tmod (IntKind.u64.wrap (a0)) 4)))), .int .i64 2] 51 (0, 0)) (bB BK148.out) hb); replace HB := mk0 (below_step uY hb); clear hb ho24) | ((with_reducible refine gBu (b := .append) (xs := #[.tmp 44, .tmp 45]) rfl ?_); (try (refine gate_guard uX ?_; dsimp only)); at_builtin; refine Kd.R_append_rows Kd.string (w0 := w) w.heap.size rfl (.tmp 44) (.tmp 45) 58 9 (.string ⟨#[]⟩) 16 rfl Try.underlying58 info9 rfl qa uW v157 y156 t149 _ _ _ (fun k_ => some k_ ≠ (.slice Ao15 t149.length co15 : Value).ownBlock ∧ some k_ ≠ (v153 : Value).ownBlock) (fun _ => False) rfl rfl ?aO ?aR (fun _ _ h => h) (fun _ h => h.elim) ?aF ?aB ?aS ?aL ?_; (case aR => repeat (first | exact (Kd.R_reads' HO_10.out).2.2 | (with_reducible refine Kd.C_alloc ?_ _) | (with_reducible refine Kd.C_drewN ?_ _) | (with_reducible refine Kd.C_drew ?_))); (case aB => exact uY); (case aF => exact (fun k_ hk => ⟨Kd.fresh' (Kd.R_lt (rB HO_10.out)) k_ hk, Kd.fresh' (Kd.R_lt (rB HO_11.out)) k_ hk⟩)); (case aO => exact (by (with_reducible repeat (first | apply rA | apply rN | apply rD)); exact Kd.R_mono HO158.out (fun _ hk => ⟨hk.1.2, hk.2⟩))); (case aS => exact (below_size uY)); (case aL => have := LMc19.out; omega); intro v160 w25 ho hb hg hat; rw [← Ny159.out] at ho; replace HO_10 := mk0 (Kd.R_after (ok := (fun k_ => some k_ ≠ (v153 : Value).ownBlock)) (rB HO_10.out) hg hat); replace HO_11 := mk0 (Kd.R_after (ok := (fun k_ => some k_ ≠ (.slice Ao15 t149.length co15 : Value).ownBlock)) (rB HO_11.out) hg hat); replace BK148 := mk0 (blk_grown (g := gb148) (o := .cells #[.int .i64 (wrap64 (1 + (wrap64 (Int.tmod (IntKind.u64.wrap (a0)) 4)))), .int .i64 2] 51 (0, 0)) (bB BK148.out) hg (Kd.R_ne HO158.out BK148.out qa)); replace HB := mk0 (hb); have HO161 := mk0 (ho); clear HO158; clear ho hb hg hat; obtain ⟨Ao27, co27, eo27⟩ := Kd.R_slice HO_11.out; subst eo27) | ((with_reducible refine gBu (b := .append) (xs := #[.tmp 47, .tmp 48]) rfl ?_); (try (refine gate_guard uX ?_; dsimp only)); at_builtin; refine Kd.R_append_rows Kd.string (w0 := w) w.heap.size rfl (.tmp 47) (.tmp 48) 58 9 (.string ⟨#[]⟩) 16 rfl Try.underlying58 info9 rfl qa uW v160 y159 t152 _ _ _ (fun k_ => some k_ ≠ (.slice Ao15 t149.length co15 : Value).ownBlock ∧ some k_ ≠ (.slice Ao27 t152.length co27 : Value).ownBlock) (fun _ => False) rfl rfl ?aO ?aR (fun _ _ h => h) (fun _ h => h.elim) ?aF ?aB ?aS ?aL ?_; (case aR => repeat (first | exact (Kd.R_reads' HO_11.out).2.2 | (with_reducible refine Kd.C_alloc ?_ _) | (with_reducible refine Kd.C_drewN ?_ _) | (with_reducible refine Kd.C_drew ?_))); (case aB => exact uY); (case aF => exact (fun k_ hk => ⟨Kd.fresh' (Kd.R_lt (rB HO_10.out)) k_ hk, Kd.fresh' (Kd.R_lt (rB HO_11.out)) k_ hk⟩)); (case aO => exact (rB HO161.out)); (case aS => exact (below_size uY)); (case aL => have := LMc20.out; omega); intro v163 w26 ho hb hg hat; rw [← Ny162.out] at ho; replace HO_10 := mk0 (Kd.R_after (ok := (fun k_ => some k_ ≠ (.slice Ao27 t152.length co27 : Value).ownBlock)) (rB HO_10.out) hg hat); replace HO_11 := mk0 (Kd.R_after (ok := (fun k_ => some k_ ≠ (.slice Ao15 t149.length co15 : Value).ownBlock)) (rB HO_11.out) hg hat); replace BK148 := mk0 (blk_grown (g := gb148) (o := .cells #[.int .i64 (wrap64 (1 + (wrap64 (Int.tmod (IntKind.u64.wrap (a0)) 4)))), .int .i64 2] 51 (0, 0)) (bB BK148.out) hg (Kd.R_ne HO161.out BK148.out qa)); replace HB := mk0 (hb); have HO164 := mk0 (ho); clear HO161; clear ho hb hg hat; obtain ⟨Ao28, co28, eo28⟩ := Kd.R_slice HO164.out; subst eo28) | ((with_reducible refine gate_dst (N := 52) rfl ?_); (try (refine gate_guard uX ?_; dsimp only)); refine Kd.R_make Kd.bool _ 4 rfl (N := 52) rfl 68 _ _ rfl (y162.length : Int) rfl rfl Try.underlying68 (.bool false) 1 info4 rfl qa uW false (ok := fun _ => True) (okp := fun _ => True) rfl (fun _ hk => hk) trivial (of_decide_eq_true uJ) (Nat.le_trans (Nat.mul_le_mul_right _ (of_decide_eq_true uJ : (y162.length : Int).toNat ≤ 281474976710656)) uW) (Below.refl _ _) (Nat.le_refl _) ?_; intro v166 w29 ho30 hb hg_ hnew_; clear hg_ hnew_; (first | rw [← Ny165.out] at ho30 | (simp only [Int.reduceToNat] at ho30; rw [← Ny165.out] at ho30)); replace HO_10 := mk0 (Kd.R_below (rB HO_10.out) hb); replace HO_11 := mk0 (Kd.R_below (rB HO_11.out) hb); replace HO164 := mk0 (Kd.R_below (rB HO164.out) hb); have HO167 := mk0 (Kd.R_lower ho30 (below_size uY)); replace BK148 := mk0 (blk_below (g := gb148) (o := .cells #[.int .i64 (wrap64 (1 + (wrap64 (Int.tmod (IntKind.u64.wrap (a0)) 4)))), .int .i64 2] 51 (0, 0)) (bB BK148.out) hb); replace HB := mk0 (below_step uY hb); clear hb ho30))
         go_loopg [15, 16] kj8 (fun kq v15 v16 w' => ∃ (x13_2 : List ByteArray) (x14_2 : List Bool) (x15_2 : Int) (x16_2 : Int), v15 = .int .i64 x15_2 ∧ v16 = .int .i64 x16_2 ∧ Aside0 (ossuarylaw7_DecodeFirst.l0 kq a2 a3 t149 x13_2 x14_2 x15_2 x16_2 (wrap64 (1 + (wrap64 (Int.tmod (IntKind.u64.wrap (a0)) 4)))) 2 = some r) ∧ Aside0 (kq ≤ kj8) ∧ Aside0 (Kd.R Kd.string 9 w' w.heap.size (fun k_ => some k_ ≠ ((.slice Ao28 y162.length co28) : Value).ownBlock) (.slice Ao15 t149.length co15) t149) ∧ Aside0 (Kd.R Kd.string 9 w' w.heap.size (fun k_ => some k_ ≠ ((.slice Ao15 t149.length co15) : Value).ownBlock) (.slice Ao28 y162.length co28) x13_2) ∧ Aside0 (Kd.R Kd.bool 4 w' w.heap.size (fun _ => True) v166 x14_2) ∧ Aside0 (w'.heap[gb148]? = some (.cells #[.int .i64 (wrap64 (1 + (wrap64 (Int.tmod (IntKind.u64.wrap (a0)) 4)))), .int .i64 2] 51 (0, 0))) ∧ Aside0 (Below w.heap.size w w'))
         case atStart => exact ⟨(y162), (y165), (0), (0), uK, uK, H', ⟨Nat.le_refl _⟩, ⟨um⟩, ⟨by (with_reducible repeat (first | apply rA | apply rN | apply rD)); exact Kd.R_mono HO164.out (fun _ hk => hk.1)⟩, ⟨rB HO167.out⟩, ⟨bB BK148.out⟩, ⟨uY⟩⟩
         case round =>
          clear H'
          try clear c1
          try clear c2
          try clear p2
          try clear c4
          try clear c5
          try clear c6
          try clear p6
          try clear c17
          try clear c17b0
          try clear c17b1
          try clear c18
          try clear c19
          try clear c20
          try clear c21
          try clear c21b0
          try clear c21b1
          try clear c22
          try clear c22b0
          try clear c22b1
          try clear hcz12_0
          try clear hcz12_1
          try clear hcz14_0
          try clear hcz14_1
          try clear hfz12_0
          try clear hfz12_1
          try clear hfz14_0
          try clear hfz14_1
          try clear p2
          try clear p6
          obtain ⟨x13_2, x14_2, x15_2, x16_2, rfl, rfl, HA, HK2, HO_10, HO_13, HO_14, BK148, HB⟩ := hrel
          have hl13_2 := (Kd.R_reads' HO_13.out).1
          rw [hl13_2] at HO_13
          (try simp only [hl13_2])
          (try simp only [hl13_2] at BK148)
          (try simp only [hl13_2] at HO_10)
          (try simp only [hl13_2] at HO_14)
          cases gk with
          | zero => exact absurd HA.out (by simp [ossuarylaw7_DecodeFirst.l0])
          | succ k2 =>
           have H := HA.out
           clear HA
           simp only [ossuarylaw7_DecodeFirst.l0] at H
           by_cases c31 : x16_2 < (x13_2.length : Int)
           ·rw [if_pos c31] at H
            have c31b0 : decide (x16_2 < (x13_2.length : Int)) = true := decide_eq_true c31
            (try (have c31h0 := c31b0; simp only [hl13_2] at c31h0))
            clear c31
            have HC32 := mk0 H
            clear H
            go_upto_region 15 with (fail)
            go_cut [] (fun wc => ∃ (kq : Nat) (x14_31 : List Bool), Aside0 (ossuarylaw7_DecodeFirst.j2 kq a2 a3 t149 x13_2 x14_31 x15_2 x16_2 (wrap64 (1 + (wrap64 (Int.tmod (IntKind.u64.wrap (a0)) 4)))) 2 = some r) ∧ Aside0 (kq ≤ k2) ∧ Aside0 (Kd.R Kd.string 9 wc w.heap.size (fun k_ => some k_ ≠ ((.slice Ao28 x13_2.length co28) : Value).ownBlock) (.slice Ao15 t149.length co15) t149) ∧ Aside0 (Kd.R Kd.string 9 wc w.heap.size (fun k_ => some k_ ≠ ((.slice Ao15 t149.length co15) : Value).ownBlock) (.slice Ao28 x13_2.length co28) x13_2) ∧ Aside0 (Kd.R Kd.bool 4 wc w.heap.size (fun _ => True) v166 x14_31) ∧ Aside0 (wc.heap[gb148]? = some (.cells #[.int .i64 (wrap64 (1 + (wrap64 (Int.tmod (IntKind.u64.wrap (a0)) 4)))), .int .i64 2] 51 (0, 0))) ∧ Aside0 (Below w.heap.size w wc))
            case first =>
             have H := HC32.out
             clear HC32
             by_cases c33 : 0 ≤ x16_2
             ·rw [if_pos c33] at H
              have c33b0 := eq_true c33
              have c33b1 : decide (0 ≤ x16_2) = true := decide_eq_true c33
              clear c33
              obtain ⟨ji34, hji34⟩ : ∃ j_ : Int, (shr .i64 a3 x16_2) = j_ := ⟨_, rfl⟩
              replace H : (if (Go.bits .and .i64 (ji34) 1) = 1 then (if x16_2 < (x14_2.length : Int) then (ossuarylaw7_DecodeFirst.j2 k2 a2 a3 t149 x13_2 (x14_2.set (x16_2 : Int).toNat true) x15_2 x16_2 (wrap64 (1 + (wrap64 (Int.tmod (IntKind.u64.wrap (a0)) 4)))) 2) else (none)) else (if x16_2 < (x14_2.length : Int) then (ossuarylaw7_DecodeFirst.j2 k2 a2 a3 t149 x13_2 (x14_2.set (x16_2 : Int).toNat (decide ((wrap64 ((x13_2.length : Int) - x16_2)) ≤ (wrap64 ((wrap64 (1 + (wrap64 (Int.tmod (IntKind.u64.wrap (a0)) 4)))) - x15_2))))) x15_2 x16_2 (wrap64 (1 + (wrap64 (Int.tmod (IntKind.u64.wrap (a0)) 4)))) 2) else (none))) = some r := by first | (rw [hji34] at H; exact H) | (simp only [hji34] at H ⊢; exact H)
              have hji34_ : (a3 / 2 ^ min x16_2.toNat 64) = ji34 := hji34
              have hji34z : x16_2 ≤ 64 → (a3 / 2 ^ x16_2.toNat) = ji34 := shr_small hji34
              by_cases c35 : (Go.bits .and .i64 (ji34) 1) = 1
              ·rw [if_pos c35] at H
               have c35b0 : ((Go.bits .and .i64 (ji34) 1) == 1) = true := beq_iff_eq.mpr c35
               have c35b1 : ((Go.bits .and .i64 (ji34) 1) != 1) = false := bne_eq_false_iff_eq.mpr c35
               (try (have c35h0 := c35b0; simp only [hl13_2] at c35h0))
               clear c35
               (first | rw [c35b0] | (simp only [i64_w, i32_w]; rw [c35b0]) | skip)
               by_cases c36 : x16_2 < (x14_2.length : Int)
               ·rw [if_pos c36] at H
                have c36b0 : decide (x16_2 < (x14_2.length : Int)) = true := decide_eq_true c36
                (try (have c36h0 := c36b0; simp only [hl13_2] at c36h0))
                clear c36
                obtain ⟨y174, hy174⟩ : ∃ y_ : List Bool, y_ = (x14_2.set (x16_2 : Int).toNat true) := ⟨_, rfl⟩
                replace H : (ossuarylaw7_DecodeFirst.j2 k2 a2 a3 t149 x13_2 y174 x15_2 x16_2 (wrap64 (1 + (wrap64 (Int.tmod (IntKind.u64.wrap (a0)) 4)))) 2) = some r := by first | (rw [hy174]; with_reducible exact H) | (have H2_ := (Option.bind_some _ _).symm.trans H; rw [hy174]; with_reducible exact H2_) | (have H2_ := (Option.bind_some _ _).symm.trans H; with_reducible exact H2_) | with_reducible exact H | (rw [hy174]; exact H) | exact H
                have Ny174 := mk0 hy174
                clear hy174
                have H' := mk0 H
                clear H
                have p37 : 0 ≤ (x16_2 : Int) := of_decide_eq_true uJ
                have q37 : (x16_2 : Int) < ((x14_2.length : Int) : Int) := of_decide_eq_true uJ
                obtain ⟨go37, co37, eo37, gb37, gl37, cl37, HG37⟩ := Kd.R_form HO_14.out uW
                (first | cases eo37 | (injection eo37 with ea_ en_ ec_; (first | subst ea_ | (injection ea_ with ea_; subst ea_)); subst ec_; clear en_))
                have GB37 := mk0 gb37
                have GG37 := mk0 HG37
                clear gb37 gl37 HG37
                obtain ⟨hx37_0, hf37_0⟩ := Kd.R_celln false HO_14.out (x16_2 : Int) p37 q37
                replace p37 := eq_true p37
                replace q37 := eq_true q37
                have HP38 := Kd.R_putg HO_14.out (x16_2 : Int) true
                go_wp2_with (first | ((with_reducible refine gate_store (t := 4) (p := 77) rfl ?_); refine store_event (t := 4) (p := 77) (v := ?vo_w39) (w1 := (wr.setCell ⟨go37, (x16_2 : Int).toNat, none⟩ (.bool true))) ?hg ?ho ?hn ?hr ?_; (case ho => rfl); (case hg => rfl); (case hn => rfl); (case hr => first | (go_simp; done) | (go_simp; rfl)); intro w39 hw; have hg : wr.grownBy w39 (some go37) := (by rw [hw]; exact HP38.2); have hp_ : Kd.R Kd.bool 4 w39 w.heap.size (fun _ => True) (.slice (some ⟨go37, 0, none⟩) x14_2.length co37) y174 := (by rw [hw, Ny174.out]; exact HP38.1); clear HP38; replace HO_10 := mk0 (Kd.R_over' (v := (.slice (some ⟨go37, 0, none⟩) x14_2.length co37)) (rB HO_10.out) (Kd.R_typed HO_14.out) qa hg); replace HO_13 := mk0 (Kd.R_over' (v := (.slice (some ⟨go37, 0, none⟩) x14_2.length co37)) (rB HO_13.out) (Kd.R_typed HO_14.out) qa hg); replace BK148 := mk0 (blk_grown (g := gb148) (o := .cells #[.int .i64 (wrap64 (1 + (wrap64 (Int.tmod (IntKind.u64.wrap (a0)) 4)))), .int .i64 2] 51 (0, 0)) (bB BK148.out) hg (Kd.R_ne HO_14.out BK148.out qa)); replace HO_14 := mk0 (hp_); replace HB := mk0 ((by rw [hw]; exact below_set (HB.out) GB37.out : Below w.heap.size w w39)); clear hg hw hp_))
                go_meet
                case rel => exact ⟨_, (y174), H', ⟨by have := HJ8.out; have := HK2.out; first | omega | exact Nat.le_refl _⟩, ⟨ur⟩, ⟨us⟩, ⟨ut⟩, ⟨uI⟩, ⟨uY⟩⟩
               ·rw [if_neg c36] at H
                exact absurd H qb
              ·rw [if_neg c35] at H
               have c35b0 : ((Go.bits .and .i64 (ji34) 1) == 1) = false := beq_eq_false_iff_ne.mpr c35
               have c35b1 : ((Go.bits .and .i64 (ji34) 1) != 1) = true := bne_iff_ne.mpr c35
               (try (have c35h0 := c35b0; simp only [hl13_2] at c35h0))
               (first | rw [c35b0] | (simp only [i64_w, i32_w]; rw [c35b0]) | skip)
               by_cases c40 : x16_2 < (x14_2.length : Int)
               ·rw [if_pos c40] at H
                have c40b0 : decide (x16_2 < (x14_2.length : Int)) = true := decide_eq_true c40
                (try (have c40h0 := c40b0; simp only [hl13_2] at c40h0))
                clear c40
                obtain ⟨y175, hy175⟩ : ∃ y_ : List Bool, y_ = (x14_2.set (x16_2 : Int).toNat (decide ((wrap64 ((x13_2.length : Int) - x16_2)) ≤ (wrap64 ((wrap64 (1 + (wrap64 (Int.tmod (IntKind.u64.wrap (a0)) 4)))) - x15_2))))) := ⟨_, rfl⟩
                replace H : (ossuarylaw7_DecodeFirst.j2 k2 a2 a3 t149 x13_2 y175 x15_2 x16_2 (wrap64 (1 + (wrap64 (Int.tmod (IntKind.u64.wrap (a0)) 4)))) 2) = some r := by first | (rw [hy175]; with_reducible exact H) | (have H2_ := (Option.bind_some _ _).symm.trans H; rw [hy175]; with_reducible exact H2_) | (have H2_ := (Option.bind_some _ _).symm.trans H; with_reducible exact H2_) | with_reducible exact H | (rw [hy175]; exact H) | exact H
                have Ny175 := mk0 hy175
                clear hy175
                have H' := mk0 H
                clear H
                have hcz42_0 : wr.cell? ⟨gb148, 0, none⟩ = some (.int .i64 (wrap64 (1 + (wrap64 (Int.tmod (IntKind.u64.wrap (a0)) 4))))) := (blk_cell BK148.out 0).trans rfl
                have hcz42_1 : wr.cell? ⟨gb148, 1, none⟩ = some (.int .i64 2) := (blk_cell BK148.out 1).trans rfl
                have hfz42_0 := blk_frozen BK148.out 0
                have hfz42_1 := blk_frozen BK148.out 1
                have p41 : 0 ≤ (x16_2 : Int) := of_decide_eq_true uJ
                have q41 : (x16_2 : Int) < ((x14_2.length : Int) : Int) := of_decide_eq_true uJ
                obtain ⟨go41, co41, eo41, gb41, gl41, cl41, HG41⟩ := Kd.R_form HO_14.out uW
                (first | cases eo41 | (injection eo41 with ea_ en_ ec_; (first | subst ea_ | (injection ea_ with ea_; subst ea_)); subst ec_; clear en_))
                have GB41 := mk0 gb41
                have GG41 := mk0 HG41
                clear gb41 gl41 HG41
                obtain ⟨hx41_0, hf41_0⟩ := Kd.R_celln false HO_14.out (x16_2 : Int) p41 q41
                replace p41 := eq_true p41
                replace q41 := eq_true q41
                have HP43 := Kd.R_putg HO_14.out (x16_2 : Int) (decide ((wrap64 ((x13_2.length : Int) - x16_2)) ≤ (wrap64 ((wrap64 (1 + (wrap64 (Int.tmod (IntKind.u64.wrap (a0)) 4)))) - x15_2))))
                go_wp2_with (first | ((with_reducible refine gate_store (t := 4) (p := 77) rfl ?_); refine store_event (t := 4) (p := 77) (v := ?vo_w44) (w1 := (wr.setCell ⟨go41, (x16_2 : Int).toNat, none⟩ (.bool (decide ((wrap64 ((x13_2.length : Int) - x16_2)) ≤ (wrap64 ((wrap64 (1 + (wrap64 (Int.tmod (IntKind.u64.wrap (a0)) 4)))) - x15_2))))))) ?hg ?ho ?hn ?hr ?_; (case ho => rfl); (case hg => rfl); (case hn => rfl); (case hr => first | (go_simp; done) | (go_simp; rfl)); intro w44 hw; have hg : wr.grownBy w44 (some go41) := (by rw [hw]; exact HP43.2); have hp_ : Kd.R Kd.bool 4 w44 w.heap.size (fun _ => True) (.slice (some ⟨go41, 0, none⟩) x14_2.length co41) y175 := (by rw [hw, Ny175.out]; exact HP43.1); clear HP43; replace HO_10 := mk0 (Kd.R_over' (v := (.slice (some ⟨go41, 0, none⟩) x14_2.length co41)) (rB HO_10.out) (Kd.R_typed HO_14.out) qa hg); replace HO_13 := mk0 (Kd.R_over' (v := (.slice (some ⟨go41, 0, none⟩) x14_2.length co41)) (rB HO_13.out) (Kd.R_typed HO_14.out) qa hg); replace BK148 := mk0 (blk_grown (g := gb148) (o := .cells #[.int .i64 (wrap64 (1 + (wrap64 (Int.tmod (IntKind.u64.wrap (a0)) 4)))), .int .i64 2] 51 (0, 0)) (bB BK148.out) hg (Kd.R_ne HO_14.out BK148.out qa)); replace HO_14 := mk0 (hp_); replace HB := mk0 ((by rw [hw]; exact below_set (HB.out) GB41.out : Below w.heap.size w w44)); clear hg hw hp_))
                go_meet
                case rel => exact ⟨_, (y175), H', ⟨by have := HJ8.out; have := HK2.out; first | omega | exact Nat.le_refl _⟩, ⟨ur⟩, ⟨us⟩, ⟨ut⟩, ⟨uI⟩, ⟨uY⟩⟩
               ·rw [if_neg c40] at H
                exact absurd H qb
             ·rw [if_neg c33] at H
              exact absurd H qb
            case rest =>
             clear HC32
             try clear c1
             try clear c2
             try clear p2
             try clear c3
             try clear p3
             try clear q3
             try clear hx3
             try clear c4
             try clear p4
             try clear q4
             try clear hx4
             try clear hf4
             try clear c5
             try clear c6
             try clear p6
             try clear c17
             try clear c17b0
             try clear c17b1
             try clear c18
             try clear c19
             try clear c20
             try clear c21
             try clear c21b0
             try clear c21b1
             try clear c22
             try clear c22b0
             try clear c22b1
             try clear c31
             try clear c31b0
             try clear c33
             try clear c33b0
             try clear c33b1
             try clear c35
             try clear c35b0
             try clear c35b1
             try clear c36
             try clear c36b0
             try clear p37
             try clear q37
             try clear hx37
             try clear hf37
             try clear c40
             try clear c40b0
             try clear p41
             try clear q41
             try clear hx41
             try clear hf41
             try clear hcz12_0
             try clear hcz12_1
             try clear hcz14_0
             try clear hcz14_1
             try clear hcz42_0
             try clear hcz42_1
             try clear hfz12_0
             try clear hfz12_1
             try clear hfz14_0
             try clear hfz14_1
             try clear hfz42_0
             try clear hfz42_1
             try clear hx37_0
             try clear hx41_0
             try clear p2
             try clear p37
             try clear p41
             try clear p6
             try clear q37
             try clear q41
             obtain ⟨kq, x14_31, HA, HJ31, HO_10, HO_13, HO_14, BK148, HB⟩ := hcut
             cases kq with
             | zero => exact absurd HA.out (by simp [ossuarylaw7_DecodeFirst.j2])
             | succ kj31 =>
              have H := HA.out
              clear HA
              simp only [ossuarylaw7_DecodeFirst.j2] at H
              by_cases c45 : 0 ≤ x16_2
              ·rw [if_pos c45] at H
               have c45b0 : decide (0 ≤ x16_2) = true := decide_eq_true c45
               (try (have c45h0 := c45b0; simp only [hl13_2] at c45h0))
               clear c45
               by_cases c46 : x16_2 < (x14_31.length : Int)
               ·rw [if_pos c46] at H
                have c46b0 : decide (x16_2 < (x14_31.length : Int)) = true := decide_eq_true c46
                (try (have c46h0 := c46b0; simp only [hl13_2] at c46h0))
                clear c46
                obtain ⟨bq47, hbq47⟩ : ∃ b_ : Bool, b_ = (rdOf false x14_31 x16_2) := ⟨_, rfl⟩
                replace H : (if bq47 = true then (if (wrap64 (x15_2 + 1)) > (wrap64 (1 + (wrap64 (Int.tmod (IntKind.u64.wrap (a0)) 4)))) then (if x16_2 < (x13_2.length : Int) then ((Pr.lie.f (rdOf ByteArray.empty x13_2 x16_2) a2).bind fun t178 => (ossuarylaw7_DecodeFirst.l0 kj31 a2 a3 t149 (x13_2.set (x16_2 : Int).toNat t178) x14_31 (wrap64 (x15_2 + 1)) (wrap64 (x16_2 + 1)) (wrap64 (1 + (wrap64 (Int.tmod (IntKind.u64.wrap (a0)) 4)))) 2)) else (none)) else (ossuarylaw7_DecodeFirst.l0 kj31 a2 a3 t149 x13_2 x14_31 (wrap64 (x15_2 + 1)) (wrap64 (x16_2 + 1)) (wrap64 (1 + (wrap64 (Int.tmod (IntKind.u64.wrap (a0)) 4)))) 2)) else (ossuarylaw7_DecodeFirst.l0 kj31 a2 a3 t149 x13_2 x14_31 x15_2 (wrap64 (x16_2 + 1)) (wrap64 (1 + (wrap64 (Int.tmod (IntKind.u64.wrap (a0)) 4)))) 2)) = some r := by rw [← hbq47] at H; exact H
                have Nbq47 := mk0 hbq47
                clear hbq47
                by_cases c48 : bq47 = true
                ·subst c48
                 have H1 : (if (wrap64 (x15_2 + 1)) > (wrap64 (1 + (wrap64 (Int.tmod (IntKind.u64.wrap (a0)) 4)))) then (if x16_2 < (x13_2.length : Int) then ((Pr.lie.f (rdOf ByteArray.empty x13_2 x16_2) a2).bind fun t178 => (ossuarylaw7_DecodeFirst.l0 kj31 a2 a3 t149 (x13_2.set (x16_2 : Int).toNat t178) x14_31 (wrap64 (x15_2 + 1)) (wrap64 (x16_2 + 1)) (wrap64 (1 + (wrap64 (Int.tmod (IntKind.u64.wrap (a0)) 4)))) 2)) else (none)) else (ossuarylaw7_DecodeFirst.l0 kj31 a2 a3 t149 x13_2 x14_31 (wrap64 (x15_2 + 1)) (wrap64 (x16_2 + 1)) (wrap64 (1 + (wrap64 (Int.tmod (IntKind.u64.wrap (a0)) 4)))) 2)) = some r := by rw [if_pos rfl] at H; exact H
                 clear H
                 have H := H1
                 clear H1
                 by_cases c49 : (wrap64 (x15_2 + 1)) > (wrap64 (1 + (wrap64 (Int.tmod (IntKind.u64.wrap (a0)) 4))))
                 ·rw [if_pos c49] at H
                  have c49b0 : decide ((wrap64 (1 + (wrap64 (Int.tmod (IntKind.u64.wrap (a0)) 4)))) < (wrap64 (x15_2 + 1))) = true := decide_eq_true c49
                  (try (have c49h0 := c49b0; simp only [hl13_2] at c49h0))
                  clear c49
                  by_cases c50 : x16_2 < (x13_2.length : Int)
                  ·rw [if_pos c50] at H
                   have c50b0 : decide (x16_2 < (x13_2.length : Int)) = true := decide_eq_true c50
                   (try (have c50h0 := c50b0; simp only [hl13_2] at c50h0))
                   clear c50
                   replace H := Option.bind_eq_some_iff.mp H
                   obtain ⟨t178, A510, H⟩ := H
                   replace H : (ossuarylaw7_DecodeFirst.l0 kj31 a2 a3 t149 (x13_2.set (x16_2 : Int).toNat t178) x14_31 (wrap64 (x15_2 + 1)) (wrap64 (x16_2 + 1)) (wrap64 (1 + (wrap64 (Int.tmod (IntKind.u64.wrap (a0)) 4)))) 2) = some r := H
                   have A51 := mk0 A510
                   clear A510
                   obtain ⟨y179, hy179⟩ : ∃ y_ : List ByteArray, y_ = (x13_2.set (x16_2 : Int).toNat t178) := ⟨_, rfl⟩
                   replace H : (ossuarylaw7_DecodeFirst.l0 kj31 a2 a3 t149 y179 x14_31 (wrap64 (x15_2 + 1)) (wrap64 (x16_2 + 1)) (wrap64 (1 + (wrap64 (Int.tmod (IntKind.u64.wrap (a0)) 4)))) 2) = some r := by first | (rw [hy179]; with_reducible exact H) | (have H2_ := (Option.bind_some _ _).symm.trans H; rw [hy179]; with_reducible exact H2_) | (have H2_ := (Option.bind_some _ _).symm.trans H; with_reducible exact H2_) | with_reducible exact H | (rw [hy179]; exact H) | exact H
                   have Ny179 := mk0 hy179
                   clear hy179
                   have H' := mk0 H
                   clear H
                   obtain ⟨Ao53, co53, eo53⟩ := Kd.R_slice HO_14.out
                   subst eo53
                   have p176 : 0 ≤ (x16_2 : Int) := of_decide_eq_true uJ
                   have q176 : x16_2 < (x14_31.length : Int) := of_decide_eq_true uJ
                   obtain ⟨ad176, e176, hx176_0⟩ := Kd.at_bool (Kd.R_reads' HO_14.out).2.2 x16_2 p176 q176
                   (try rw [← Nbq47.out] at hx176_0)
                   cases e176
                   replace p176 := eq_true p176
                   replace q176 := eq_true q176
                   have hcz54_0 : wc.cell? ⟨gb148, 0, none⟩ = some (.int .i64 (wrap64 (1 + (wrap64 (Int.tmod (IntKind.u64.wrap (a0)) 4))))) := (blk_cell BK148.out 0).trans rfl
                   have hcz54_1 : wc.cell? ⟨gb148, 1, none⟩ = some (.int .i64 2) := (blk_cell BK148.out 1).trans rfl
                   have hfz54_0 := blk_frozen BK148.out 0
                   have hfz54_1 := blk_frozen BK148.out 1
                   have p177 : 0 ≤ (x16_2 : Int) := of_decide_eq_true uJ
                   have q177 : x16_2 < (x13_2.length : Int) := of_decide_eq_true uJ
                   obtain ⟨ad177, e177, hx177_0⟩ := Kd.at_string (Kd.R_reads' HO_13.out).2.2 x16_2 p177 q177
                   cases e177
                   replace p177 := eq_true p177
                   replace q177 := eq_true q177
                   go_wp2_with (first | ((with_reducible refine gCa (f := 57) rfl ?_); refine goesL_ (some 95) rfl rfl Try.func57 uU rfl #[.string (rdOf ByteArray.empty x13_2 x16_2), .string a2] rfl ui ?_; (with_reducible refine (Pr.lie.calls (rdOf ByteArray.empty x13_2 x16_2) a2 t178 _ A51.out).mono ?_); rintro e w55 ⟨rfl, hb⟩; refine ⟨_, rfl, ?_⟩; replace HO_10 := mk0 (Kd.R_below (rB HO_10.out) hb); replace HO_13 := mk0 (Kd.R_below (rB HO_13.out) hb); replace HO_14 := mk0 (Kd.R_below (rB HO_14.out) hb); replace BK148 := mk0 (blk_below (g := gb148) (o := .cells #[.int .i64 (wrap64 (1 + (wrap64 (Int.tmod (IntKind.u64.wrap (a0)) 4)))), .int .i64 2] 51 (0, 0)) (bB BK148.out) hb); replace HB := mk0 (below_step uY hb); (try clear hb); (try clear hk); have p52 : 0 ≤ (x16_2 : Int) := of_decide_eq_true uJ; have q52 : (x16_2 : Int) < ((x13_2.length : Int) : Int) := of_decide_eq_true uJ; obtain ⟨go52, co52, eo52, gb52, gl52, cl52, HG52⟩ := Kd.R_form HO_13.out uW; (first | cases eo52 | (injection eo52 with ea_ en_ ec_; (first | subst ea_ | (injection ea_ with ea_; subst ea_)); subst ec_; clear en_)); have GB52 := mk0 gb52; have GG52 := mk0 HG52; clear gb52 gl52 HG52; (first | simp only [add_plain] at hx177_0 | skip); obtain ⟨hx52_0, hf52_0⟩ := Kd.R_celln (⟨#[]⟩ : ByteArray) HO_13.out (x16_2 : Int) p52 q52; replace p52 := eq_true p52; replace q52 := eq_true q52; obtain ⟨hy56_, hz56_⟩ := Kd.R_celln (⟨#[]⟩ : ByteArray) HO_13.out (x16_2 : Int) (of_decide_eq_true uJ) (of_decide_eq_true uJ); have HP56 := Kd.R_putg HO_13.out (x16_2 : Int) t178) | ((with_reducible refine gate_store (t := 9) (p := 96) rfl ?_); refine store_event (t := 9) (p := 96) (v := ?vo_w57) (w1 := (w55.setCell ⟨go52, (x16_2 : Int).toNat, none⟩ (.string t178))) ?hg ?ho ?hn ?hr ?_; (case ho => rfl); (case hg => rfl); (case hn => rfl); (case hr => first | (go_simp; done) | (go_simp; rfl)); intro w57 hw; have hg : w55.grownBy w57 (some go52) := (by rw [hw]; exact HP56.2); have hp_ : Kd.R Kd.string 9 w57 w.heap.size (fun k_ => some k_ ≠ (.slice Ao15 t149.length co15 : Value).ownBlock) (.slice (some ⟨go52, 0, none⟩) x13_2.length co28) y179 := (by rw [hw, Ny179.out]; exact HP56.1); clear HP56; replace HO_10 := mk0 (Kd.R_after (v := (.slice (some ⟨go52, 0, none⟩) x13_2.length co28)) (v1 := (.slice (some ⟨go52, 0, none⟩) x13_2.length co28)) (ok := (fun _ => True)) (by (with_reducible repeat (first | apply rA | apply rN | apply rD)); exact Kd.R_mono HO_10.out (fun _ hk => ⟨trivial, hk⟩)) hg (.inl rfl)); replace HO_14 := mk0 (Kd.R_over' (v := (.slice (some ⟨go52, 0, none⟩) x13_2.length co28)) (rB HO_14.out) (Kd.R_typed HO_13.out) qa hg); replace BK148 := mk0 (blk_grown (g := gb148) (o := .cells #[.int .i64 (wrap64 (1 + (wrap64 (Int.tmod (IntKind.u64.wrap (a0)) 4)))), .int .i64 2] 51 (0, 0)) (bB BK148.out) hg (Kd.R_ne HO_13.out BK148.out qa)); replace HO_13 := mk0 (hp_); replace HB := mk0 ((by rw [hw]; exact below_set (HB.out) GB52.out : Below w.heap.size w w57)); clear hg hw hp_))
                   (try simp only [← hl13_2])
                   go_roundg kj31
                   case measure => have := HJ8.out; have := HK2.out; have := HJ31.out; omega
                   case rel => exact ⟨(y179), (x14_31), (wrap64 (x15_2 + 1)), (wrap64 (x16_2 + 1)), uK, uK, H', ⟨uF⟩, ⟨by (try simp only [hl13_2]); (with_reducible repeat (first | apply rA | apply rN | apply rD)); exact Kd.R_mono HO_10.out (fun _ hk => hk.2)⟩, ⟨us⟩, ⟨ut⟩, ⟨uI⟩, ⟨uY⟩⟩
                  ·rw [if_neg c50] at H
                   exact absurd H qb
                 ·rw [if_neg c49] at H
                  have c49b0 : decide ((wrap64 (1 + (wrap64 (Int.tmod (IntKind.u64.wrap (a0)) 4)))) < (wrap64 (x15_2 + 1))) = false := decide_eq_false c49
                  (try (have c49h0 := c49b0; simp only [hl13_2] at c49h0))
                  clear c49
                  have H' := mk0 H
                  clear H
                  obtain ⟨Ao58, co58, eo58⟩ := Kd.R_slice HO_14.out
                  subst eo58
                  have p176 : 0 ≤ (x16_2 : Int) := of_decide_eq_true uJ
                  have q176 : x16_2 < (x14_31.length : Int) := of_decide_eq_true uJ
                  obtain ⟨ad176, e176, hx176_0⟩ := Kd.at_bool (Kd.R_reads' HO_14.out).2.2 x16_2 p176 q176
                  (try rw [← Nbq47.out] at hx176_0)
                  cases e176
                  replace p176 := eq_true p176
                  replace q176 := eq_true q176
                  have hcz59_0 : wc.cell? ⟨gb148, 0, none⟩ = some (.int .i64 (wrap64 (1 + (wrap64 (Int.tmod (IntKind.u64.wrap (a0)) 4))))) := (blk_cell BK148.out 0).trans rfl
                  have hcz59_1 : wc.cell? ⟨gb148, 1, none⟩ = some (.int .i64 2) := (blk_cell BK148.out 1).trans rfl
                  have hfz59_0 := blk_frozen BK148.out 0
                  have hfz59_1 := blk_frozen BK148.out 1
                  go_wp2
                  (try simp only [← hl13_2])
                  go_roundg kj31
                  case measure => have := HJ8.out; have := HK2.out; have := HJ31.out; omega
                  case rel => exact ⟨(x13_2), (x14_31), (wrap64 (x15_2 + 1)), (wrap64 (x16_2 + 1)), uK, uK, H', ⟨uF⟩, ⟨ur⟩, ⟨us⟩, ⟨ut⟩, ⟨uI⟩, ⟨uY⟩⟩
                ·replace c48 := Bool.eq_false_iff.mpr c48
                 subst c48
                 have H1 : (ossuarylaw7_DecodeFirst.l0 kj31 a2 a3 t149 x13_2 x14_31 x15_2 (wrap64 (x16_2 + 1)) (wrap64 (1 + (wrap64 (Int.tmod (IntKind.u64.wrap (a0)) 4)))) 2) = some r := by rw [if_neg (show ¬ (false = true) by decide)] at H; exact H
                 clear H
                 have H := H1
                 clear H1
                 have H' := mk0 H
                 clear H
                 obtain ⟨Ao60, co60, eo60⟩ := Kd.R_slice HO_14.out
                 subst eo60
                 have p176 : 0 ≤ (x16_2 : Int) := of_decide_eq_true uJ
                 have q176 : x16_2 < (x14_31.length : Int) := of_decide_eq_true uJ
                 obtain ⟨ad176, e176, hx176_0⟩ := Kd.at_bool (Kd.R_reads' HO_14.out).2.2 x16_2 p176 q176
                 (try rw [← Nbq47.out] at hx176_0)
                 cases e176
                 replace p176 := eq_true p176
                 replace q176 := eq_true q176
                 go_wp2
                 (try simp only [← hl13_2])
                 go_roundg kj31
                 case measure => have := HJ8.out; have := HK2.out; have := HJ31.out; omega
                 case rel => exact ⟨(x13_2), (x14_31), (x15_2), (wrap64 (x16_2 + 1)), uK, uK, H', ⟨uF⟩, ⟨ur⟩, ⟨us⟩, ⟨ut⟩, ⟨uI⟩, ⟨uY⟩⟩
               ·rw [if_neg c46] at H
                exact absurd H qb
              ·rw [if_neg c45] at H
               exact absurd H qb
           ·rw [if_neg c31] at H
            have c31b0 : decide (x16_2 < (x13_2.length : Int)) = false := decide_eq_false c31
            (try (have c31h0 := c31b0; simp only [hl13_2] at c31h0))
            clear c31
            replace H := Option.bind_eq_some_iff.mp H
            obtain ⟨⟨t168, t171⟩, A610, H⟩ := H
            replace H : ((GBase.ossuarylaw0_Num.f t171).bind fun t172 => (if t172 = 0 then ((GVec.ossuarylaw0_SameTexts.f k2 t168 t149).bind fun t173 => (some t173)) else (some false))) = some r := H
            have A61 := mk0 A610
            clear A610
            replace H := Option.bind_eq_some_iff.mp H
            obtain ⟨t172, A620, H⟩ := H
            replace H : (if t172 = 0 then ((GVec.ossuarylaw0_SameTexts.f k2 t168 t149).bind fun t173 => (some t173)) else (some false)) = some r := H
            have A62 := mk0 A620
            clear A620
            by_cases c63 : t172 = 0
            ·rw [if_pos c63] at H
             have c63b0 : (t172 == 0) = true := beq_iff_eq.mpr c63
             have c63b1 : (t172 != 0) = false := bne_eq_false_iff_eq.mpr c63
             (try (have c63h0 := c63b0; simp only [hl13_2] at c63h0))
             clear c63
             replace H := Option.bind_eq_some_iff.mp H
             obtain ⟨t173, A640, H⟩ := H
             replace H : (some t173) = some r := H
             have A64 := mk0 A640
             clear A640
             obtain rfl := Option.some.inj H
             have hcz65_0 : wr.cell? ⟨gb148, 0, none⟩ = some (.int .i64 (wrap64 (1 + (wrap64 (Int.tmod (IntKind.u64.wrap (a0)) 4))))) := (blk_cell BK148.out 0).trans rfl
             have hcz65_1 : wr.cell? ⟨gb148, 1, none⟩ = some (.int .i64 2) := (blk_cell BK148.out 1).trans rfl
             have hfz65_0 := blk_frozen BK148.out 0
             have hfz65_1 := blk_frozen BK148.out 1
             obtain ⟨Ao66, co66, eo66⟩ := Kd.R_slice HO_14.out
             subst eo66
             go_wp2_with (first | ((with_reducible refine gCa (f := 53) rfl ?_); refine goesL_ (some 101) rfl rfl Try.func53 uU rfl #[.agg #[.int .i64 (wrap64 (1 + (wrap64 (Int.tmod (IntKind.u64.wrap (a0)) 4)))), .int .i64 2], .slice Ao28 x13_2.length co28, .slice Ao66 x14_2.length co66] rfl ui ?_; (with_reducible refine (GEnc.decode_Decode.calls k2 (wrap64 (1 + (wrap64 (Int.tmod (IntKind.u64.wrap (a0)) 4)))) 2 _ _ x13_2 _ _ x14_2 t168 t171 _ ?side1 ?side2 ?side3 ?side4 A61.out).mono ?_); (case side1 => exact cB (Kd.R_reads' HO_13.out).2.2); (case side2 => exact (Kd.R_reads' HO_13.out).2.1); (case side3 => exact cB (Kd.R_reads' HO_14.out).2.2); (case side4 => exact (Kd.R_reads' HO_14.out).2.1); rintro e w67 ⟨v169, rfl, ho0, hb⟩; refine ⟨_, rfl, ?_⟩; replace HO_14 := mk0 (Kd.R_below (rB HO_14.out) hb); have HO170 := mk0 (Kd.R_lower (Kd.R_new' (Kd.R_new' ho0 (Kd.R_lt (rB HO_10.out))) (Kd.R_lt (rB HO_13.out))) (below_size uY)); replace HO_10 := mk0 (Kd.R_elder' (rB HO_10.out) (Kd.R_base ho0) hb); replace HO_13 := mk0 (Kd.R_elder' (rB HO_13.out) (Kd.R_base ho0) hb); replace BK148 := mk0 (blk_below (g := gb148) (o := .cells #[.int .i64 (wrap64 (1 + (wrap64 (Int.tmod (IntKind.u64.wrap (a0)) 4)))), .int .i64 2] 51 (0, 0)) (bB BK148.out) hb); replace HB := mk0 (below_step uY hb); (try clear hb); (try clear hb2); (try clear hk); (try clear hi); (try clear ho0)) | ((with_reducible refine gCa (f := 35) rfl ?_); refine goesL_ (some 105) rfl rfl Try.func35 uU rfl #[.int .i64 t171] rfl ui ?_; (with_reducible refine (GBase.ossuarylaw0_Num.calls t171 t172 _ A62.out).mono ?_); rintro e w' ⟨rfl, ⟨nd, rfl⟩⟩; refine ⟨_, rfl, ?_⟩; obtain ⟨Ao68, co68, eo68⟩ := Kd.R_slice HO170.out; subst eo68) | (go_at_call 50; (with_reducible refine (GVec.ossuarylaw0_SameTexts.calls k2 _ _ t168 _ _ t149 t173 _ ?side1 ?side2 ?side3 ?side4 A64.out).mono ?_); (case side1 => exact cB (Kd.R_reads' HO170.out).2.2); (case side2 => exact (Kd.R_reads' HO170.out).2.1); (case side3 => exact cB (Kd.R_reads' HO_10.out).2.2); (case side4 => exact (Kd.R_reads' HO_10.out).2.1); rintro e w' ⟨rfl, ⟨nd, rfl⟩⟩))
             go_ret
             exact ⟨uz, uY⟩
            ·rw [if_neg c63] at H
             have c63b0 : (t172 == 0) = false := beq_eq_false_iff_ne.mpr c63
             have c63b1 : (t172 != 0) = true := bne_iff_ne.mpr c63
             (try (have c63h0 := c63b0; simp only [hl13_2] at c63h0))
             exact absurd ((Option.some.inj H).trans HTrue.out) qa
        ·rw [if_neg c22] at H
         exact absurd H qb
       ·rw [if_neg c21] at H
        exact absurd H qb
      ·rw [if_neg c20] at H
       exact absurd H qb
     ·rw [if_neg c19] at H
      exact absurd H qb
 ·replace c6 := Bool.eq_false_iff.mpr c6
  subst c6
  have H1 : (some false) = some r := by rw [if_neg (show ¬ (false = true) by decide)] at H; exact H
  clear H
  have H := H1
  clear H1
  exact absurd ((Option.some.inj H).trans HTrue.out) qa
/-- THE ONE PURE STATEMENT of ossuarylaw7_DecodeFirst: yours. -/
noncomputable def ossuarylaw7_DecodeFirst.Pure : Prop := ∀ (a0 : Int) (a1 : ByteArray) (a2 : ByteArray) (a3 : Int), (Lit.int .i64 a0).wf = true → a1.size ≤ 140737488351232 → a2.size ≤ 140737488351232 → (Lit.int .i64 a3).wf = true → ∃ k, ossuarylaw7_DecodeFirst.f k a0 a1 a2 a3 = some true
end Go.Proofs.Ytaahnicjjpddjaa.GDecodeFirst
