/- Functions of the program as Lean functions, each with a proof that its call comes to what the function says. No condition. -/
import Derived.Test.YtaahnicjjpddjaaKRebuildMendsGEnc0
namespace Go.Proofs.Ytaahnicjjpddjaa.GEnc
open Go.Proofs.Ytaahnicjjpddjaa.Fn
open Go.Proofs.Ytaahnicjjpddjaa
open Go.RowKit Go.Proofs.YtaahnicjjpddjaaW.PrintWords Go.Proofs.YtaahnicjjpddjaaW.PrintLast
set_option linter.unusedVariables false
set_option linter.unusedSimpArgs false
mutual
noncomputable def encode_Encode.j0 : Nat → List ByteArray → Bool → Int → Int → List (List Int) → Option (List ByteArray × Int)
 | 0, _, _, _, _, _ => none
 | k + 1, x1, x31, x107000, x107001, x112000 => if x31 = true then (some (([] : List ByteArray), 600)) else (if 0 ≤ x107000 then (if x107000 ≤ (x112000.length : Int) then ((some (x112000.drop (x107000 : Int).toNat : List (List Int))).bind fun y113 => (encode_Encode.l0 k x1 ([] : List ByteArray) y113 (y113.length : Int) 0)) else (none)) else (none))
noncomputable def encode_Encode.l0 : Nat → List ByteArray → List ByteArray → List (List Int) → Int → Int → Option (List ByteArray × Int)
 | 0, _, _, _, _, _ => none
 | k + 1, x1, x8, x36, x37, x38 => if x38 < x37 then (if 0 ≤ x38 then (if x38 < (x36.length : Int) then ((GVec.vec_Combine.f k (rd_L2 x36 x38) x1).bind fun bt118 => (if x8.length < 8796093022208 then (encode_Encode.l0 k x1 (x8 ++ [bt118.1]) x36 x37 (wrap64 (x38 + 1))) else (none))) else (none)) else (none)) else (some (x8, 0))
end
noncomputable def encode_Encode.f (k : Nat) (a0_0 : Int) (a0_1 : Int) (l1 : List ByteArray) : Option (List ByteArray × Int) := (GGen.gen_Matrix.f k a0_0 a0_1).bind fun bt107 => (if bt107.2 = 0 then (if (l1.length : Int) = a0_0 then ((GVec.vec_Alike.f k l1).bind fun t112 => (encode_Encode.j0 k l1 (!t112) a0_0 a0_1 bt107.1)) else (encode_Encode.j0 k l1 true a0_0 a0_1 bt107.1)) else (encode_Encode.j0 k l1 true a0_0 a0_1 bt107.1))
theorem encode_Encode.mono_l : ∀ k, (∀ y0 y1 y2 y3 y4, LeO (encode_Encode.j0 k y0 y1 y2 y3 y4) (encode_Encode.j0 (k + 1) y0 y1 y2 y3 y4)) ∧ (∀ y0 y1 y2 y3 y4, LeO (encode_Encode.l0 k y0 y1 y2 y3 y4) (encode_Encode.l0 (k + 1) y0 y1 y2 y3 y4))
 | 0 => ⟨fun _ _ _ _ _ r h => by simp [encode_Encode.j0] at h, fun _ _ _ _ _ r h => by simp [encode_Encode.l0] at h⟩
 | k + 1 => by
  obtain ⟨ih0, ih1⟩ := encode_Encode.mono_l k
  refine ⟨?_, ?_⟩
  ·intro y0 y1 y2 y3 y4
   unfold encode_Encode.j0
   repeat' with_reducible first | exact ih0 _ _ _ _ _ | exact ih1 _ _ _ _ _ | exact GGen.gen_Matrix.mono _ _ _ | exact GVec.vec_Alike.mono _ _ | exact GVec.vec_Combine.mono _ _ _ | exact LeO.refl _ | exact LeO.none _ | refine LeO.ite ?_ ?_ | refine LeO.bind ?_ (fun _ => ?_)
  ·intro y0 y1 y2 y3 y4
   unfold encode_Encode.l0
   repeat' with_reducible first | exact ih0 _ _ _ _ _ | exact ih1 _ _ _ _ _ | exact GGen.gen_Matrix.mono _ _ _ | exact GVec.vec_Alike.mono _ _ | exact GVec.vec_Combine.mono _ _ _ | exact LeO.refl _ | exact LeO.none _ | refine LeO.ite ?_ ?_ | refine LeO.bind ?_ (fun _ => ?_)
theorem encode_Encode.mono : ∀ a0 a1 a2 k, LeO (encode_Encode.f k a0 a1 a2) (encode_Encode.f (k + 1) a0 a1 a2) := by
 intro a0 a1 a2 k
 obtain ⟨ih0, ih1⟩ := encode_Encode.mono_l k
 unfold encode_Encode.f
 repeat' with_reducible first | exact ih0 _ _ _ _ _ | exact ih1 _ _ _ _ _ | exact GGen.gen_Matrix.mono _ _ _ | exact GVec.vec_Alike.mono _ _ | exact GVec.vec_Combine.mono _ _ _ | exact LeO.refl _ | exact LeO.none _ | refine LeO.ite ?_ ?_ | refine LeO.bind ?_ (fun _ => ?_)
set_option maxHeartbeats 8000000 in
set_option maxRecDepth 100000 in
theorem encode_Encode.calls (k : Nat) (a0_0 : Int) (a0_1 : Int) (A1 : Option Addr) (c1 : Nat) (l1 : List ByteArray) (r1 : List ByteArray) (r2 : Int) (w : World) (hr1 : Kd.C Kd.string w A1 l1.length l1) (hc1 : l1.length ≤ c1) (h : encode_Encode.f k a0_0 a0_1 l1 = some (r1, r2)) :
  Calls Try.prog 48 #[.agg #[.int .i64 a0_0, .int .i64 a0_1], .slice A1 l1.length c1] w fun e w' => ∃ v0_ : Value, e = .returned (.tuple #[v0_, .int .i64 r2]) ∧ Kd.R Kd.string 9 w' w.heap.size (fun _ => True) v0_ r1 ∧ Below w.heap.size w w' := by
 have hu51 := Try.underlying51
 have hu24 := Try.underlying24
 have HR1 := mk0 hr1
 have HC1 := mk0 hc1
 clear hr1 hc1
 have HB := mk0 (Below.refl w.heap.size w)
 have H : ((GGen.gen_Matrix.f k a0_0 a0_1).bind fun bt107 => (if bt107.2 = 0 then (if (l1.length : Int) = a0_0 then ((GVec.vec_Alike.f k l1).bind fun t112 => (encode_Encode.j0 k l1 (!t112) a0_0 a0_1 bt107.1)) else (encode_Encode.j0 k l1 true a0_0 a0_1 bt107.1)) else (encode_Encode.j0 k l1 true a0_0 a0_1 bt107.1))) = some (r1, r2) := h
 clear h
 replace H := Option.bind_eq_some_iff.mp H
 obtain ⟨⟨t107, t110⟩, A30, H⟩ := H
 replace H : (if t110 = 0 then (if (l1.length : Int) = a0_0 then ((GVec.vec_Alike.f k l1).bind fun t112 => (encode_Encode.j0 k l1 (!t112) a0_0 a0_1 t107)) else (encode_Encode.j0 k l1 true a0_0 a0_1 t107)) else (encode_Encode.j0 k l1 true a0_0 a0_1 t107)) = some (r1, r2) := H
 have A3 := mk0 A30
 clear A30
 have HC4 := mk0 H
 clear H
 go_enter Try.func48, Try.ntmps48
 go_upto_region 2 with (first | ((with_reducible refine gate_dst (N := 2) rfl ?_); (try (refine gate_guard uW ?_; dsimp only)); refine box_event uW (N := 2) uW (cs := #[.int .i64 a0_0, .int .i64 a0_1]) (t := 51) uL ?_; intro gb106 hg w5 hbox hb; have BK106 := mk0 (hbox); have GW106 := mk0 (nB hg HB); have GE106 := mk0 (nB hg HB); replace HB := mk0 (below_step ut hb); clear hb hbox hg; have hcz6_0 : w5.cell? ⟨gb106, 0, none⟩ = some (.int .i64 a0_0) := (blk_cell BK106.out 0).trans rfl; have hcz6_1 : w5.cell? ⟨gb106, 1, none⟩ = some (.int .i64 a0_1) := (blk_cell BK106.out 1).trans rfl; have hfz6_0 := blk_frozen BK106.out 0; have hfz6_1 := blk_frozen BK106.out 1) | ((with_reducible refine gCa (f := 43) rfl ?_); refine goesL_ (some 15) rfl rfl Try.func43 uT rfl #[.agg #[.int .i64 a0_0, .int .i64 a0_1]] rfl uk ?_; (with_reducible refine (GGen.gen_Matrix.calls k a0_0 a0_1 t107 t110 _ A3.out).mono ?_); rintro e w7 ⟨v108, rfl, ho0, hb⟩; refine ⟨_, rfl, ?_⟩; have HO109 := mk0 (Kd.S_lower ho0 (below_size uX)); replace BK106 := bK BK106 hb; replace HB := mk0 (below_step uX hb); (try clear hb); (try clear hb2); (try clear hk); (try clear hi); (try clear ho0)) | ((with_reducible refine gate_dst (N := 6) rfl ?_); (try (refine gate_guard uW ?_; dsimp only)); refine box_event uW (N := 6) uW (cs := #[.slice none 0 0]) (t := 24) uL ?_; intro gb111 hg w8 hbox hb; replace HO109 := mk0 (Kd.S_below (sB HO109.out) hb); have BK111 := mk0 (hbox); have GW111 := mk0 (nB hg HB); have GE111 := mk0 (nB hg HB); replace HB := mk0 (below_step uX hb); have NB106_111 := mk0 (nF hg BK106.out); have NB111_106 := mk0 (nE hg BK106.out); replace BK106 := bK BK106 hb; clear hb hbox hg; obtain ⟨Ao9, co9, eo9⟩ := Kd.S_slice HO109.out; subst eo9; have hnb10 := NB111_106.out; have hnc10 := NB106_111.out; have hcz11_0 : w8.cell? ⟨gb111, 0, none⟩ = some (.slice none 0 0) := (blk_cell BK111.out 0).trans rfl; have hfz11_0 := blk_frozen BK111.out 0))
 (try simp only [Act.put, List.setIfInBounds_toArray, List.set_cons_zero, List.set_cons_succ])
 go_cut [31] (fun v31 wc => ∃ (kq : Nat) (x31_3 : Bool), v31 = .bool x31_3 ∧ Aside0 (encode_Encode.j0 kq l1 x31_3 a0_0 a0_1 t107 = some (r1, r2)) ∧ Aside0 (kq ≤ k) ∧ Aside0 (Kd.S (Kd.slice 3 (Kd.int .i64)) 25 wc w.heap.size (fun _ => True) (.slice Ao9 t107.length co9) t107) ∧ Aside0 (wc.heap[gb106]? = some (.cells #[.int .i64 a0_0, .int .i64 a0_1] 51 (0, 0))) ∧ Aside0 (wc.heap[gb111]? = some (.cells #[(.slice Ao9 t107.length co9)] 24 (0, 0))) ∧ Aside0 (Below w.heap.size w wc))
 case first =>
  have H := HC4.out
  clear HC4
  by_cases c12 : t110 = 0
  ·rw [if_pos c12] at H
   have c12b0 : (t110 == 0) = true := beq_iff_eq.mpr c12
   have c12b1 : (t110 != 0) = false := bne_eq_false_iff_eq.mpr c12
   clear c12
   (first | rw [c12b0] | (simp only [i64_w, i32_w]; rw [c12b0]) | skip)
   by_cases c13 : (l1.length : Int) = a0_0
   ·rw [if_pos c13] at H
    have c13b0 : ((l1.length : Int) == a0_0) = true := beq_iff_eq.mpr c13
    have c13b1 : ((l1.length : Int) != a0_0) = false := bne_eq_false_iff_eq.mpr c13
    clear c13
    replace H := Option.bind_eq_some_iff.mp H
    obtain ⟨t112, A140, H⟩ := H
    replace H : (encode_Encode.j0 k l1 (!t112) a0_0 a0_1 t107) = some (r1, r2) := H
    have A14 := mk0 A140
    clear A140
    have H' := mk0 H
    clear H
    have hnb15 := NB106_111.out
    have hnc15 := NB111_106.out
    have hcz16_0 : w8.cell? ⟨gb106, 0, none⟩ = some (.int .i64 a0_0) := (blk_cell BK106.out 0).trans rfl
    have hcz16_1 : w8.cell? ⟨gb106, 1, none⟩ = some (.int .i64 a0_1) := (blk_cell BK106.out 1).trans rfl
    have hfz16_0 := blk_frozen BK106.out 0
    have hfz16_1 := blk_frozen BK106.out 1
    go_wp2_with (first | (go_at_call 89; (with_reducible refine (GVec.vec_Alike.calls k _ _ l1 t112 _ ?side1 ?side2 A14.out).mono ?_); (case side1 => exact Kd.C_below HR1.out uX); (case side2 => exact HC1.out); rintro e w' ⟨rfl, ⟨nd, rfl⟩⟩))
    go_meet
    case rel => exact ⟨_, (!t112), uJ, H', ⟨uO⟩, ⟨ua⟩, ⟨uC⟩, ⟨uu⟩, ⟨uX⟩⟩
   ·rw [if_neg c13] at H
    have c13b0 : ((l1.length : Int) == a0_0) = false := beq_eq_false_iff_ne.mpr c13
    have c13b1 : ((l1.length : Int) != a0_0) = true := bne_iff_ne.mpr c13
    have H' := mk0 H
    clear H
    have hnb17 := NB106_111.out
    have hnc17 := NB111_106.out
    have hcz18_0 : w8.cell? ⟨gb106, 0, none⟩ = some (.int .i64 a0_0) := (blk_cell BK106.out 0).trans rfl
    have hcz18_1 : w8.cell? ⟨gb106, 1, none⟩ = some (.int .i64 a0_1) := (blk_cell BK106.out 1).trans rfl
    have hfz18_0 := blk_frozen BK106.out 0
    have hfz18_1 := blk_frozen BK106.out 1
    go_wp2
    go_meet
    case rel => exact ⟨_, (true), uJ, H', ⟨uO⟩, ⟨ua⟩, ⟨uC⟩, ⟨uu⟩, ⟨uX⟩⟩
  ·rw [if_neg c12] at H
   have c12b0 : (t110 == 0) = false := beq_eq_false_iff_ne.mpr c12
   have c12b1 : (t110 != 0) = true := bne_iff_ne.mpr c12
   (first | rw [c12b0] | (simp only [i64_w, i32_w]; rw [c12b0]) | skip)
   have H' := mk0 H
   clear H
   go_wp2
   go_meet
   case rel => exact ⟨_, (true), uJ, H', ⟨uO⟩, ⟨ua⟩, ⟨uC⟩, ⟨uu⟩, ⟨uX⟩⟩
 case rest =>
  clear HC4
  try clear c1
  try clear p2
  try clear c4
  try clear c10
  try clear c12
  try clear c12b0
  try clear c12b1
  try clear c13
  try clear c13b0
  try clear c13b1
  try clear c15
  try clear c17
  try clear hcz11_0
  try clear hcz16_0
  try clear hcz16_1
  try clear hcz18_0
  try clear hcz18_1
  try clear hcz6_0
  try clear hcz6_1
  try clear hfz11_0
  try clear hfz16_0
  try clear hfz16_1
  try clear hfz18_0
  try clear hfz18_1
  try clear hfz6_0
  try clear hfz6_1
  obtain ⟨kq, x31_3, rfl, HA, HJ3, HO_112000, BK106, BK111, HB⟩ := hcut
  cases kq with
  | zero => exact absurd HA.out (by simp [encode_Encode.j0])
  | succ kj3 =>
   have H := HA.out
   clear HA
   simp only [encode_Encode.j0] at H
   by_cases c19 : x31_3 = true
   ·subst c19
    have H1 : (some (([] : List ByteArray), 600)) = some (r1, r2) := by rw [if_pos rfl] at H; exact H
    clear H
    have H := H1
    clear H1
    simp only [Option.some.injEq, Prod.mk.injEq] at H
    obtain ⟨rfl, rfl⟩ := H
    go_wp2
    go_ret2
    exact ⟨_, uz, ui, uX⟩
   ·replace c19 := Bool.eq_false_iff.mpr c19
    subst c19
    have H1 : (if 0 ≤ a0_0 then (if a0_0 ≤ (t107.length : Int) then ((some (t107.drop (a0_0 : Int).toNat : List (List Int))).bind fun y113 => (encode_Encode.l0 kj3 l1 ([] : List ByteArray) y113 (y113.length : Int) 0)) else (none)) else (none)) = some (r1, r2) := by rw [if_neg (show ¬ (false = true) by decide)] at H; exact H
    clear H
    have H := H1
    clear H1
    by_cases c20 : 0 ≤ a0_0
    ·rw [if_pos c20] at H
     have c20b0 := eq_true c20
     have c20b1 : decide (0 ≤ a0_0) = true := decide_eq_true c20
     clear c20
     by_cases c21 : a0_0 ≤ (t107.length : Int)
     ·rw [if_pos c21] at H
      have c21b0 := eq_true c21
      have c21b1 : decide (a0_0 ≤ (t107.length : Int)) = true := decide_eq_true c21
      clear c21
      obtain ⟨y113, hy113⟩ : ∃ y_ : List (List Int), y_ = (t107.drop (a0_0 : Int).toNat) := ⟨_, rfl⟩
      replace H : (encode_Encode.l0 kj3 l1 ([] : List ByteArray) y113 (y113.length : Int) 0) = some (r1, r2) := by first | (rw [hy113]; with_reducible exact H) | (have H2_ := (Option.bind_some _ _).symm.trans H; rw [hy113]; with_reducible exact H2_) | (have H2_ := (Option.bind_some _ _).symm.trans H; with_reducible exact H2_) | with_reducible exact H | (rw [hy113]; exact H) | exact H
      have Ny113 := mk0 hy113
      clear hy113
      have H' := mk0 H
      clear H
      have hnb22 := NB111_106.out
      have hnc22 := NB106_111.out
      have hcz23_0 : wc.cell? ⟨gb111, 0, none⟩ = some (.slice Ao9 t107.length co9) := (blk_cell BK111.out 0).trans rfl
      have hfz23_0 := blk_frozen BK111.out 0
      have hcz24_0 : wc.cell? ⟨gb106, 0, none⟩ = some (.int .i64 a0_0) := (blk_cell BK106.out 0).trans rfl
      have hcz24_1 : wc.cell? ⟨gb106, 1, none⟩ = some (.int .i64 a0_1) := (blk_cell BK106.out 1).trans rfl
      have hfz24_0 := blk_frozen BK106.out 0
      have hfz24_1 := blk_frozen BK106.out 1
      have q25 : (a0_0 : Int) ≤ ((t107.length : Int) : Int) := of_decide_eq_true uI
      obtain ⟨i025, hi025, _, hsz25, _⟩ := info_parts info25
      have hroom25 : t107.length ≤ co9 := (Kd.S_reads' HO_112000.out).2.1
      have hC25 : Kd.C (Kd.slice 3 (Kd.int .i64)) _ Ao9 t107.length t107 := (Kd.S_reads' HO_112000.out).2.2
      have q025 : (0 : Int) ≤ (a0_0 : Int) := of_decide_eq_true uI
      have hcut25 := cut_from (P := Try.prog) 22 25 .i64 Try.underlying22 hi025 1 hsz25 Ao9 t107.length co9 a0_0 q025 q25
      have hr25 := Kd.C_drop (m := (a0_0 : Int).toNat) (c := co9) hC25 uV hroom25
      obtain ⟨A25, hA25⟩ : ∃ A1, A1 = (if co9 = (a0_0 : Int).toNat then Ao9 else (Ao9 : Option Addr).map (·.add ((a0_0 : Int).toNat * 1))) := ⟨_, rfl⟩
      obtain ⟨c25, hc25⟩ : ∃ c1, c1 = co9 - (a0_0 : Int).toNat := ⟨_, rfl⟩
      have hy25 : y113.length = t107.length - (a0_0 : Int).toNat := (by rw [Ny113.out, List.length_drop] <;> omega)
      rw [show (t107).drop (a0_0 : Int).toNat = y113 from Ny113.out.symm] at hr25
      replace hr25 : Kd.C (Kd.slice 3 (Kd.int .i64)) _ A25 y113.length y113 := (by rw [hA25]; exact hr25)
      rw [← hy25, ← hA25, ← hc25] at hcut25
      have HR116 := mk0 hr25
      have HC116 := mk0 (show y113.length ≤ c25 from by rw [hy25, hc25]; exact Nat.sub_le_sub_right hroom25 _)
      clear hr25 hC25 hroom25 hi025 hsz25 hc25
      have KY25 := mk0 hy25
      have KA25 := mk0 hA25
      clear hy25 hA25
      have KL25 := mk0 (show (a0_0 : Int).toNat ≤ t107.length from by omega)
      replace q25 := eq_true q25
      go_wp2
      go_loopg [8, 38] kj3 (fun kq v8 v38 w' => ∃ (x8_2 : List ByteArray) (x38_2 : Int), v38 = .int .i64 x38_2 ∧ Aside0 (encode_Encode.l0 kq l1 x8_2 y113 (y113.length : Int) x38_2 = some (r1, r2)) ∧ Aside0 (kq ≤ kj3) ∧ Aside0 (Kd.R Kd.string 9 w' w.heap.size (fun _ => True) v8 x8_2) ∧ Aside0 (Kd.S (Kd.slice 3 (Kd.int .i64)) 25 w' w.heap.size (fun _ => True) (.slice Ao9 t107.length co9) t107) ∧ Aside0 (w'.heap[gb106]? = some (.cells #[.int .i64 a0_0, .int .i64 a0_1] 51 (0, 0))) ∧ Aside0 (w'.heap[gb111]? = some (.cells #[(.slice Ao9 t107.length co9)] 24 (0, 0))) ∧ Aside0 (Kd.C (Kd.slice 3 (Kd.int .i64)) w' A25 y113.length y113) ∧ Aside0 (Below w.heap.size w w'))
      case atStart => exact ⟨(([] : List ByteArray)), (0), uJ, H', ⟨Nat.le_refl _⟩, ⟨ui⟩, ⟨sB HO_112000.out⟩, ⟨bB BK106.out⟩, ⟨bB BK111.out⟩, ⟨ue⟩, ⟨uX⟩⟩
      case round =>
       clear H'
       try clear c1
       try clear c2
       try clear p2
       try clear q2
       try clear c4
       try clear c10
       try clear c12
       try clear c12b0
       try clear c12b1
       try clear c13
       try clear c13b0
       try clear c13b1
       try clear c15
       try clear c17
       try clear c19
       try clear c20
       try clear c20b0
       try clear c20b1
       try clear c21
       try clear c21b0
       try clear c21b1
       try clear c22
       try clear c25
       try clear q25
       try clear hcz11_0
       try clear hcz16_0
       try clear hcz16_1
       try clear hcz18_0
       try clear hcz18_1
       try clear hcz23_0
       try clear hcz24_0
       try clear hcz24_1
       try clear hcz6_0
       try clear hcz6_1
       try clear hfz11_0
       try clear hfz16_0
       try clear hfz16_1
       try clear hfz18_0
       try clear hfz18_1
       try clear hfz23_0
       try clear hfz24_0
       try clear hfz24_1
       try clear hfz6_0
       try clear hfz6_1
       try clear p2
       try clear q025
       try clear q25
       obtain ⟨x8_2, x38_2, rfl, HA, HK2, HO_8, HO_112000, BK106, BK111, HR116, HB⟩ := hrel
       cases gk with
       | zero => exact absurd HA.out (by simp [encode_Encode.l0])
       | succ k2 =>
        have H := HA.out
        clear HA
        simp only [encode_Encode.l0] at H
        by_cases c26 : x38_2 < (y113.length : Int)
        ·rw [if_pos c26] at H
         have c26b0 : decide (x38_2 < (y113.length : Int)) = true := decide_eq_true c26
         clear c26
         by_cases c27 : 0 ≤ x38_2
         ·rw [if_pos c27] at H
          have c27b0 : decide (0 ≤ x38_2) = true := decide_eq_true c27
          clear c27
          by_cases c28 : x38_2 < (y113.length : Int)
          ·rw [if_pos c28] at H
           have c28b0 : decide (x38_2 < (y113.length : Int)) = true := decide_eq_true c28
           clear c28
           replace H := Option.bind_eq_some_iff.mp H
           obtain ⟨⟨t118, t119⟩, A290, H⟩ := H
           replace H : (if x8_2.length < 8796093022208 then (encode_Encode.l0 k2 l1 (x8_2 ++ [t118]) y113 (y113.length : Int) (wrap64 (x38_2 + 1))) else (none)) = some (r1, r2) := H
           have A29 := mk0 A290
           clear A290
           by_cases c30 : x8_2.length < 8796093022208
           ·rw [if_pos c30] at H
            have LMc30 := mk0 c30
            clear c30
            obtain ⟨y120, hy120⟩ : ∃ y_ : List ByteArray, y_ = (x8_2 ++ [t118]) := ⟨_, rfl⟩
            replace H : (encode_Encode.l0 k2 l1 y120 y113 (y113.length : Int) (wrap64 (x38_2 + 1))) = some (r1, r2) := by first | (rw [hy120]; with_reducible exact H) | (have H2_ := (Option.bind_some _ _).symm.trans H; rw [hy120]; with_reducible exact H2_) | (have H2_ := (Option.bind_some _ _).symm.trans H; with_reducible exact H2_) | with_reducible exact H | (rw [hy120]; exact H) | exact H
            have Ny120 := mk0 hy120
            clear hy120
            have H' := mk0 H
            clear H
            have p117 : 0 ≤ (x38_2 : Int) := of_decide_eq_true uI
            have q117 : x38_2 < (y113.length : Int) := of_decide_eq_true uI
            obtain ⟨ad117, A117_0, c117_0, e117, hx117_0, hl117_0, hi117_0⟩ := at_L2 HR116.out x38_2 p117 q117
            cases e117
            (try replace hx117_0 := (HB.out.cell (World.block_lt_of_cell? w _ hx117_0)).trans hx117_0)
            have HR117_0 := mk0 hi117_0
            have HC117_0 := mk0 hl117_0
            clear hi117_0 hl117_0
            replace p117 := eq_true p117
            replace q117 := eq_true q117
            go_wp2_with (first | ((with_reducible refine gCa (f := 90) rfl ?_); refine goesL_ (some 45) rfl rfl Try.func90 uT rfl #[.slice A117_0 (rd_L2 y113 x38_2).length c117_0, .slice A1 l1.length c1] rfl uk ?_; (with_reducible refine (GVec.vec_Combine.calls k2 _ _ (rd_L2 y113 x38_2) _ _ l1 t118 t119 _ ?side1 ?side2 ?side3 ?side4 A29.out).mono ?_); (case side1 => repeat (first | exact HR117_0.out | exact (Kd.C_below HR117_0.out HB.out) | (with_reducible refine Kd.C_alloc ?_ _) | (with_reducible refine Kd.C_drewN ?_ _) | (with_reducible refine Kd.C_drew ?_))); (case side2 => exact HC117_0.out); (case side3 => exact cB (Kd.C_below HR1.out HB.out)); (case side4 => exact HC1.out); rintro e w31 ⟨rfl, hb⟩; refine ⟨_, rfl, ?_⟩; replace HO_8 := mk0 (Kd.R_below (rB HO_8.out) hb); replace HO_112000 := mk0 (Kd.S_below (sB HO_112000.out) hb); replace BK106 := bK BK106 hb; replace BK111 := bK BK111 hb; replace HR116 := mk0 (Kd.C_below ue hb); replace HB := mk0 (below_step uX hb); (try clear hb); (try clear hk)) | ((with_reducible refine gBu (b := .append) (xs := #[.tmp 48, .tmp 50]) rfl ?_); (try (refine gate_guard uW ?_; dsimp only)); at_builtin; refine Kd.R_append Kd.string (w0 := w) w.heap.size rfl (.tmp 48) (.tmp 50) 58 9 (.string ⟨#[]⟩) 16 rfl Try.underlying58 info9 rfl uZ uV u8 x8_2 t118 [.string t118] (fun _ => True) (fun _ => False) rfl rfl ?aP (fun _ hk => hk.elim) ?aF ?aO ?aB ?aS ?aL ?_; (case aP => exact rfl); (case aB => exact uX); (case aF => exact (fun _ _ => trivial)); (case aO => exact (rB HO_8.out)); (case aS => exact (below_size uX)); (case aL => have := LMc30.out; omega); intro v121 w32 ho hb hg hat; rw [← Ny120.out] at ho; replace BK106 := mk0 (blk_grown (g := gb106) (o := .cells #[.int .i64 a0_0, .int .i64 a0_1] 51 (0, 0)) (bB BK106.out) hg (Kd.R_ne HO_8.out BK106.out uZ)); replace BK111 := mk0 (blk_grown (g := gb111) (o := .cells #[.slice Ao9 t107.length co9] 24 (0, 0)) (bB BK111.out) hg (Kd.R_ne HO_8.out BK111.out uZ)); replace HB := mk0 (hb); replace HR116 := mk0 ((show Kd.C (Kd.slice 3 (Kd.int .i64)) w32 (some ad117) y113.length y113 from by rw [Ny113.out, KA25.out]; exact Kd.C_drop (m := (a0_0 : Int).toNat) (c := co9) ((Kd.S_reads' (Kd.S_over' (sB HO_112000.out) (Kd.R_typed (rB HO_8.out)) uZ hg)).2.2) KL25.out ((Kd.S_reads' (Kd.S_over' (sB HO_112000.out) (Kd.R_typed (rB HO_8.out)) uZ hg)).2.1))); replace HO_112000 := mk0 (Kd.S_over' (sB HO_112000.out) (Kd.R_typed (rB HO_8.out)) uZ hg); have HO122 := mk0 (ho); clear HO_8; clear ho hb hg hat))
            go_roundg k2
            case measure => have := HJ3.out; have := HK2.out; omega
            case rel => exact ⟨(y120), (wrap64 (x38_2 + 1)), uJ, H', ⟨by have := HJ3.out; have := HK2.out; omega⟩, ⟨rB HO122.out⟩, ⟨sB HO_112000.out⟩, ⟨bB BK106.out⟩, ⟨bB BK111.out⟩, ⟨ue⟩, ⟨uX⟩⟩
           ·rw [if_neg c30] at H
            exact absurd H qa
          ·rw [if_neg c28] at H
           exact absurd H qa
         ·rw [if_neg c27] at H
          exact absurd H qa
        ·rw [if_neg c26] at H
         have c26b0 : decide (x38_2 < (y113.length : Int)) = false := decide_eq_false c26
         clear c26
         simp only [Option.some.injEq, Prod.mk.injEq] at H
         obtain ⟨rfl, rfl⟩ := H
         go_wp2
         go_ret2
         exact ⟨_, uz, rB HO_8.out, uX⟩
     ·rw [if_neg c21] at H
      exact absurd H qa
    ·rw [if_neg c20] at H
     exact absurd H qa
end Go.Proofs.Ytaahnicjjpddjaa.GEnc
