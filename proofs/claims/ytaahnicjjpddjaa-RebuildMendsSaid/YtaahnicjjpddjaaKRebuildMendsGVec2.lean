/- Functions of the program as Lean functions, each with a proof that its call comes to what the function says. No condition. -/
import Derived.Test.YtaahnicjjpddjaaKRebuildMendsGVec1
namespace Go.Proofs.Ytaahnicjjpddjaa.GVec
open Go.RowKit Go.Proofs.YtaahnicjjpddjaaW.PrintWords Go.Proofs.YtaahnicjjpddjaaW.PrintLast
set_option linter.unusedVariables false
set_option linter.unusedSimpArgs false
mutual
def vec_Combine.j0 : Nat → List Int → List ByteArray → Bool → Option (ByteArray × Int)
 | 0, _, _, _ => none
 | k + 1, x0, x1, x29 => if x29 = true then (some ((⟨#[]⟩ : ByteArray), 200)) else (if 0 < (x1.length : Int) then (if 0 ≤ ((rdOf ByteArray.empty x1 0).size : Int) then (if (((rdOf ByteArray.empty x1 0).size : Int) : Int).toNat ≤ 281474976710656 then (vec_Combine.l0 k x1 (List.replicate (((rdOf ByteArray.empty x1 0).size : Int) : Int).toNat 0) x0 (x0.length : Int) 0) else (none)) else (none)) else (none))
def vec_Combine.l0 : Nat → List ByteArray → List Int → List Int → Int → Int → Option (ByteArray × Int)
 | 0, _, _, _, _, _ => none
 | k + 1, x1, x6, x35, x36, x37 => if x37 < x36 then (if 0 ≤ x37 then (if x37 < (x35.length : Int) then ((GGf.gf_Is.f (rd x35 x37)).bind fun t109 => (if t109 = true then (vec_Combine.l1 k x1 x6 x37 (rd x35 x37) x35 x36 x37 (x6.length : Int) 0) else (some ((⟨#[]⟩ : ByteArray), 200)))) else (none)) else (none)) else (some (strOfNums x6, 0))
def vec_Combine.l1 : Nat → List ByteArray → List Int → Int → Int → List Int → Int → Int → Int → Int → Option (ByteArray × Int)
 | 0, _, _, _, _, _, _, _, _, _ => none
 | k + 1, x1, x6, x7, x8, x35, x36, x37, x46, x47 => if x47 < x46 then (if 0 ≤ x47 then (if x47 < (x6.length : Int) then (if 0 ≤ x7 then (if x7 < (x1.length : Int) then (if x47 < ((rdOf ByteArray.empty x1 x7).size : Int) then ((GGf.gf_Times.f k x8 (wrap64 (bt (rdOf ByteArray.empty x1 x7) x47))).bind fun t112 => (vec_Combine.l1 k x1 (x6.set (x47 : Int).toNat (Go.bits .xor .u8 (rd x6 x47) ((t112) % 256))) x7 x8 x35 x36 x37 x46 (wrap64 (x47 + 1)))) else (none)) else (none)) else (none)) else (none)) else (none)) else (vec_Combine.l0 k x1 x6 x35 x36 (wrap64 (x37 + 1)))
end
def vec_Combine.f (k : Nat) (l0 : List Int) (l1 : List ByteArray) : Option (ByteArray × Int) := if (l0.length : Int) < 1 then (vec_Combine.j0 k l0 l1 true) else (if (l0.length : Int) > 12 then (vec_Combine.j0 k l0 l1 true) else (if (l1.length : Int) = (l0.length : Int) then ((vec_Alike.f k l1).bind fun t103 => (vec_Combine.j0 k l0 l1 (!t103))) else (vec_Combine.j0 k l0 l1 true)))
theorem vec_Combine.mono_l : ∀ k, (∀ y0 y1 y2, LeO (vec_Combine.j0 k y0 y1 y2) (vec_Combine.j0 (k + 1) y0 y1 y2)) ∧ (∀ y0 y1 y2 y3 y4, LeO (vec_Combine.l0 k y0 y1 y2 y3 y4) (vec_Combine.l0 (k + 1) y0 y1 y2 y3 y4)) ∧ (∀ y0 y1 y2 y3 y4 y5 y6 y7 y8, LeO (vec_Combine.l1 k y0 y1 y2 y3 y4 y5 y6 y7 y8) (vec_Combine.l1 (k + 1) y0 y1 y2 y3 y4 y5 y6 y7 y8))
 | 0 => ⟨fun _ _ _ r h => by simp [vec_Combine.j0] at h, fun _ _ _ _ _ r h => by simp [vec_Combine.l0] at h, fun _ _ _ _ _ _ _ _ _ r h => by simp [vec_Combine.l1] at h⟩
 | k + 1 => by
  obtain ⟨ih0, ih1, ih2⟩ := vec_Combine.mono_l k
  refine ⟨?_, ?_, ?_⟩
  ·intro y0 y1 y2
   unfold vec_Combine.j0
   repeat' with_reducible first | exact ih0 _ _ _ | exact ih1 _ _ _ _ _ | exact ih2 _ _ _ _ _ _ _ _ _ | exact GGf.gf_Times.mono _ _ _ | exact vec_Alike.mono _ _ | exact LeO.refl _ | exact LeO.none _ | refine LeO.ite ?_ ?_ | refine LeO.bind ?_ (fun _ => ?_)
  ·intro y0 y1 y2 y3 y4
   unfold vec_Combine.l0
   repeat' with_reducible first | exact ih0 _ _ _ | exact ih1 _ _ _ _ _ | exact ih2 _ _ _ _ _ _ _ _ _ | exact GGf.gf_Times.mono _ _ _ | exact vec_Alike.mono _ _ | exact LeO.refl _ | exact LeO.none _ | refine LeO.ite ?_ ?_ | refine LeO.bind ?_ (fun _ => ?_)
  ·intro y0 y1 y2 y3 y4 y5 y6 y7 y8
   unfold vec_Combine.l1
   repeat' with_reducible first | exact ih0 _ _ _ | exact ih1 _ _ _ _ _ | exact ih2 _ _ _ _ _ _ _ _ _ | exact GGf.gf_Times.mono _ _ _ | exact vec_Alike.mono _ _ | exact LeO.refl _ | exact LeO.none _ | refine LeO.ite ?_ ?_ | refine LeO.bind ?_ (fun _ => ?_)
theorem vec_Combine.mono : ∀ a0 a1 k, LeO (vec_Combine.f k a0 a1) (vec_Combine.f (k + 1) a0 a1) := by
 intro a0 a1 k
 obtain ⟨ih0, ih1, ih2⟩ := vec_Combine.mono_l k
 unfold vec_Combine.f
 repeat' with_reducible first | exact ih0 _ _ _ | exact ih1 _ _ _ _ _ | exact ih2 _ _ _ _ _ _ _ _ _ | exact GGf.gf_Times.mono _ _ _ | exact vec_Alike.mono _ _ | exact LeO.refl _ | exact LeO.none _ | refine LeO.ite ?_ ?_ | refine LeO.bind ?_ (fun _ => ?_)
def vec_Combine.T12 : Bool × List (List Nat × List Nat) := (true, [([], []), ([], []), ([0, 1], [0, 1]), ([2], [2]), ([], []), ([], []), ([], []), ([5, 6], [5, 6]), ([7], [7]), ([], []), ([8, 9], [8, 9]), ([10], [10]), ([4, 11], [4, 11]), ([12], [12]), ([3, 13], [3, 13]), ([0, 1, 0, 1, 2, 3, 4, 5, 6, 7, 8, 9, 10, 11, 12, 13, 14], [0, 1]), ([15, 14, 12, 0, 1, 2, 3, 4, 5, 6, 7, 8, 9, 10, 11, 12, 13, 14], [14, 15])])
def vec_Combine.B12 : List Nat := [0, 0, 3, 7, 0, 0, 0, 96, 224, 0, 992, 2016, 4080, 8176, 16383, 32767, 65535]
theorem vec_Combine.tab12 : rtab .any (opsOf Try.f90 12) = vec_Combine.T12 := by kernel_rfl
theorem vec_Combine.bits12 : waitsOk vec_Combine.T12.2 vec_Combine.B12 = true := by kernel_rfl
set_option maxHeartbeats 8000000 in
set_option maxRecDepth 100000 in
theorem vec_Combine.calls (k : Nat) (A0 : Option Addr) (c0 : Nat) (l0 : List Int) (A1 : Option Addr) (c1 : Nat) (l1 : List ByteArray) (r1 : ByteArray) (r2 : Int) (w : World) (hr0 : Kd.C (Kd.int .i64) w A0 l0.length l0) (hc0 : l0.length ≤ c0) (hr1 : Kd.C Kd.string w A1 l1.length l1) (hc1 : l1.length ≤ c1) (h : vec_Combine.f k l0 l1 = some (r1, r2)) :
  Calls Try.prog 90 #[.slice A0 l0.length c0, .slice A1 l1.length c1] w fun e w' => e = .returned (.tuple #[.string r1, .int .i64 r2]) ∧ Below w.heap.size w w' := by
 have HR0 := mk0 hr0
 have HC0 := mk0 hc0
 clear hr0 hc0
 have HR1 := mk0 hr1
 have HC1 := mk0 hc1
 clear hr1 hc1
 have HB := mk0 (Below.refl w.heap.size w)
 have H : (if (l0.length : Int) < 1 then (vec_Combine.j0 k l0 l1 true) else (if (l0.length : Int) > 12 then (vec_Combine.j0 k l0 l1 true) else (if (l1.length : Int) = (l0.length : Int) then ((vec_Alike.f k l1).bind fun t103 => (vec_Combine.j0 k l0 l1 (!t103))) else (vec_Combine.j0 k l0 l1 true)))) = some (r1, r2) := h
 clear h
 have HC3 := mk0 H
 clear H
 go_enter Try.func90, Try.ntmps90
 go_upto_region 1 with (fail)
 go_cut [29] (fun v29 wc => ∃ (kq : Nat) (x29_2 : Bool), v29 = .bool x29_2 ∧ Aside0 (vec_Combine.j0 kq l0 l1 x29_2 = some (r1, r2)) ∧ Aside0 (kq ≤ k) ∧ Aside0 (Below w.heap.size w wc))
 case first =>
  have H := HC3.out
  clear HC3
  by_cases c4 : (l0.length : Int) < 1
  ·rw [if_pos c4] at H
   have c4b0 : decide ((l0.length : Int) < 1) = true := decide_eq_true c4
   have c4b1 : decide (l0.length < 1) = true := decide_eq_true uV
   clear c4
   (first | rw [c4b0] | (simp only [i64_w, i32_w]; rw [c4b0]) | skip)
   have H' := mk0 H
   clear H
   go_wp2
   go_meet
   case rel => exact ⟨_, (true), uJ, H', ⟨uO⟩, ⟨ut⟩⟩
  ·rw [if_neg c4] at H
   have c4b0 : decide ((l0.length : Int) < 1) = false := decide_eq_false c4
   have c4b1 : decide (l0.length < 1) = false := decide_eq_false uV
   clear c4
   (first | rw [c4b0] | (simp only [i64_w, i32_w]; rw [c4b0]) | skip)
   by_cases c5 : (l0.length : Int) > 12
   ·rw [if_pos c5] at H
    have c5b0 : decide (12 < (l0.length : Int)) = true := decide_eq_true c5
    have c5b1 : decide (12 < l0.length) = true := decide_eq_true uV
    clear c5
    have H' := mk0 H
    clear H
    go_wp2
    go_meet
    case rel => exact ⟨_, (true), uJ, H', ⟨uO⟩, ⟨ut⟩⟩
   ·rw [if_neg c5] at H
    have c5b0 : decide (12 < (l0.length : Int)) = false := decide_eq_false c5
    have c5b1 : decide (12 < l0.length) = false := decide_eq_false uV
    clear c5
    by_cases c6 : (l1.length : Int) = (l0.length : Int)
    ·rw [if_pos c6] at H
     have c6b0 : ((l1.length : Int) == (l0.length : Int)) = true := beq_iff_eq.mpr c6
     have c6b1 : ((l1.length : Int) != (l0.length : Int)) = false := bne_eq_false_iff_eq.mpr c6
     have c6b2 : (l1.length == l0.length) = true := by first | simpa using c6 | (simp at c6 ⊢; omega)
     clear c6
     replace H := Option.bind_eq_some_iff.mp H
     obtain ⟨t103, A70, H⟩ := H
     replace H : (vec_Combine.j0 k l0 l1 (!t103)) = some (r1, r2) := H
     have A7 := mk0 A70
     clear A70
     have H' := mk0 H
     clear H
     go_wp2_with (first | (go_at_call 89; (with_reducible refine (vec_Alike.calls k _ _ l1 t103 _ ?side1 ?side2 A7.out).mono ?_); (case side1 => exact cB (Kd.C_below HR1.out HB.out)); (case side2 => exact HC1.out); rintro e w' ⟨rfl, ⟨nd, rfl⟩⟩))
     go_meet
     case rel => exact ⟨_, (!t103), uJ, H', ⟨uO⟩, ⟨ut⟩⟩
    ·rw [if_neg c6] at H
     have c6b0 : ((l1.length : Int) == (l0.length : Int)) = false := beq_eq_false_iff_ne.mpr c6
     have c6b1 : ((l1.length : Int) != (l0.length : Int)) = true := bne_iff_ne.mpr c6
     have c6b2 : (l1.length == l0.length) = false := by first | simpa using c6 | (simp at c6 ⊢; omega)
     have H' := mk0 H
     clear H
     go_wp2
     go_meet
     case rel => exact ⟨_, (true), uJ, H', ⟨uO⟩, ⟨ut⟩⟩
 case rest =>
  clear HC3
  try clear c1
  try clear p2
  try clear c4
  try clear c4b0
  try clear c4b1
  try clear c5
  try clear c5b0
  try clear c5b1
  try clear c6
  try clear c6b0
  try clear c6b1
  try clear c6b2
  obtain ⟨kq, x29_2, rfl, HA, HJ2, HB⟩ := hcut
  cases kq with
  | zero => exact absurd HA.out (by simp [vec_Combine.j0])
  | succ kj2 =>
   have H := HA.out
   clear HA
   simp only [vec_Combine.j0] at H
   by_cases c8 : x29_2 = true
   ·subst c8
    have H1 : (some ((⟨#[]⟩ : ByteArray), 200)) = some (r1, r2) := by rw [if_pos rfl] at H; exact H
    clear H
    have H := H1
    clear H1
    simp only [Option.some.injEq, Prod.mk.injEq] at H
    obtain ⟨rfl, rfl⟩ := H
    go_wp2
    go_ret2
    exact ⟨uz, ut⟩
   ·replace c8 := Bool.eq_false_iff.mpr c8
    subst c8
    have H1 : (if 0 < (l1.length : Int) then (if 0 ≤ ((rdOf ByteArray.empty l1 0).size : Int) then (if (((rdOf ByteArray.empty l1 0).size : Int) : Int).toNat ≤ 281474976710656 then (vec_Combine.l0 kj2 l1 (List.replicate (((rdOf ByteArray.empty l1 0).size : Int) : Int).toNat 0) l0 (l0.length : Int) 0) else (none)) else (none)) else (none)) = some (r1, r2) := by rw [if_neg (show ¬ (false = true) by decide)] at H; exact H
    clear H
    have H := H1
    clear H1
    by_cases c9 : 0 < (l1.length : Int)
    ·rw [if_pos c9] at H
     have c9b0 : decide (0 < (l1.length : Int)) = true := decide_eq_true c9
     have c9b1 : decide (0 < l1.length) = true := decide_eq_true uV
     clear c9
     by_cases c10 : 0 ≤ ((rdOf ByteArray.empty l1 0).size : Int)
     ·rw [if_pos c10] at H
      have c10b0 := eq_true c10
      have c10b1 : decide (0 ≤ ((rdOf ByteArray.empty l1 0).size : Int)) = true := decide_eq_true c10
      clear c10
      by_cases c11 : (((rdOf ByteArray.empty l1 0).size : Int) : Int).toNat ≤ 281474976710656
      ·rw [if_pos c11] at H
       have c11b0 := eq_true c11
       have c11b1 : decide ((((rdOf ByteArray.empty l1 0).size : Int) : Int).toNat ≤ 281474976710656) = true := decide_eq_true c11
       clear c11
       obtain ⟨y105, hy105⟩ : ∃ y_ : List Int, y_ = (List.replicate (((rdOf ByteArray.empty l1 0).size : Int) : Int).toNat 0) := ⟨_, rfl⟩
       replace H : (vec_Combine.l0 kj2 l1 y105 l0 (l0.length : Int) 0) = some (r1, r2) := by first | (rw [hy105]; with_reducible exact H) | (have H2_ := (Option.bind_some _ _).symm.trans H; rw [hy105]; with_reducible exact H2_) | (have H2_ := (Option.bind_some _ _).symm.trans H; with_reducible exact H2_) | with_reducible exact H | (rw [hy105]; exact H) | exact H
       have Ny105 := mk0 hy105
       clear hy105
       have H' := mk0 H
       clear H
       have p104 : 0 ≤ (0 : Int) := uV
       have q104 : 0 < (l1.length : Int) := of_decide_eq_true uI
       obtain ⟨ad104, e104, hx104_0⟩ := Kd.at_string HR1.out 0 p104 q104
       cases e104
       have qi104 : (0 < l1.length) = True := eq_true uV
       (try rw [show ((0 : Int)).toNat = 0 from rfl] at hx104_0)
       (try rw [Addr.add_zero'] at hx104_0)
       replace hx104_0 := (HB.out.cell (World.block_lt_of_cell? w _ hx104_0)).trans hx104_0
       replace p104 := eq_true p104
       replace q104 := eq_true q104
       go_wp2_with (first | ((with_reducible refine gate_dst (N := 34) rfl ?_); (try (refine gate_guard uW ?_; dsimp only)); refine Kd.R_make (Kd.int .u8) _ 5 rfl (N := 34) rfl 66 _ _ rfl ((rdOf ByteArray.empty l1 0).size : Int) rfl rfl Try.underlying66 (.int .u8 0) 1 info5 rfl uZ uV 0 (ok := fun _ => True) (okp := fun _ => True) rfl (fun _ hk => hk) trivial (of_decide_eq_true uI) (Nat.le_trans (Nat.mul_le_mul_right _ (of_decide_eq_true uI : ((rdOf ByteArray.empty l1 0).size : Int).toNat ≤ 281474976710656)) uV) (Below.refl _ _) (Nat.le_refl _) ?_; intro v106 w12 ho13 hb hg_ hnew_; clear hg_ hnew_; (first | rw [← Ny105.out] at ho13 | (simp only [Int.reduceToNat] at ho13; rw [← Ny105.out] at ho13)); have HO107 := mk0 (Kd.R_lower ho13 (below_size ut)); replace HB := mk0 (below_step ut hb); clear hb ho13))
       go_loopg [37] kj2 (fun kq v37 w' => ∃ (x6_2 : List Int) (x37_2 : Int), v37 = .int .i64 x37_2 ∧ Aside0 (vec_Combine.l0 kq l1 x6_2 l0 (l0.length : Int) x37_2 = some (r1, r2)) ∧ Aside0 (kq ≤ kj2) ∧ Aside0 (Kd.R (Kd.int .u8) 5 w' w.heap.size (fun _ => True) v106 x6_2) ∧ Aside0 (Below w.heap.size w w'))
       case atStart => exact ⟨(y105), (0), uJ, H', ⟨Nat.le_refl _⟩, ⟨rB HO107.out⟩, ⟨ut⟩⟩
       case round =>
        clear H'
        try clear c1
        try clear p1
        try clear q1
        try clear hx1
        try clear qi1
        try clear p2
        try clear c4
        try clear c4b0
        try clear c4b1
        try clear c5
        try clear c5b0
        try clear c5b1
        try clear c6
        try clear c6b0
        try clear c6b1
        try clear c6b2
        try clear c8
        try clear c9
        try clear c9b0
        try clear c9b1
        try clear c10
        try clear c10b0
        try clear c10b1
        try clear p10
        try clear q10
        try clear hx10
        try clear qi10
        try clear c11
        try clear c11b0
        try clear c11b1
        try clear hx104_0
        try clear p104
        try clear p2
        try clear q104
        obtain ⟨x6_2, x37_2, rfl, HA, HK2, HO_6, HB⟩ := hrel
        cases gk with
        | zero => exact absurd HA.out (by simp [vec_Combine.l0])
        | succ k2 =>
         have H := HA.out
         clear HA
         simp only [vec_Combine.l0] at H
         by_cases c14 : x37_2 < (l0.length : Int)
         ·rw [if_pos c14] at H
          have c14b0 : decide (x37_2 < (l0.length : Int)) = true := decide_eq_true c14
          clear c14
          by_cases c15 : 0 ≤ x37_2
          ·rw [if_pos c15] at H
           have c15b0 : decide (0 ≤ x37_2) = true := decide_eq_true c15
           clear c15
           by_cases c16 : x37_2 < (l0.length : Int)
           ·rw [if_pos c16] at H
            have c16b0 : decide (x37_2 < (l0.length : Int)) = true := decide_eq_true c16
            clear c16
            replace H := Option.bind_eq_some_iff.mp H
            obtain ⟨t109, A170, H⟩ := H
            replace H : (if t109 = true then (vec_Combine.l1 k2 l1 x6_2 x37_2 (rd l0 x37_2) l0 (l0.length : Int) x37_2 (x6_2.length : Int) 0) else (some ((⟨#[]⟩ : ByteArray), 200))) = some (r1, r2) := H
            have A17 := mk0 A170
            clear A170
            by_cases c18 : t109 = true
            ·subst c18
             have H1 : (vec_Combine.l1 k2 l1 x6_2 x37_2 (rd l0 x37_2) l0 (l0.length : Int) x37_2 (x6_2.length : Int) 0) = some (r1, r2) := by rw [if_pos rfl] at H; exact H
             clear H
             have H := H1
             clear H1
             have H' := mk0 H
             clear H
             have p108 : 0 ≤ (x37_2 : Int) := of_decide_eq_true uI
             have q108 : x37_2 < (l0.length : Int) := of_decide_eq_true uI
             obtain ⟨ad108, e108, hx108_0⟩ := Kd.at_int HR0.out x37_2 p108 q108
             cases e108
             replace hx108_0 := (HB.out.cell (World.block_lt_of_cell? w _ hx108_0)).trans hx108_0
             replace p108 := eq_true p108
             replace q108 := eq_true q108
             go_wp2_with (first | ((with_reducible refine gCa (f := 74) rfl ?_); refine goesL_ (some 43) rfl rfl Try.func74 uT rfl #[.int .i64 (rd l0 x37_2)] rfl uk ?_; (with_reducible refine (GGf.gf_Is.calls (rd l0 x37_2) true _ A17.out).mono ?_); rintro e w' ⟨rfl, ⟨nd, rfl⟩⟩; refine ⟨_, rfl, ?_⟩; obtain ⟨Ao19, co19, eo19⟩ := Kd.R_slice HO_6.out; subst eo19))
             go_loopg [47] k2 (fun kq v47 w' => ∃ (x6_3 : List Int) (x47_3 : Int), v47 = .int .i64 x47_3 ∧ Aside0 (vec_Combine.l1 kq l1 x6_3 x37_2 (rd l0 x37_2) l0 (l0.length : Int) x37_2 (x6_2.length : Int) x47_3 = some (r1, r2)) ∧ Aside0 (kq ≤ k2) ∧ Aside0 (Kd.R (Kd.int .u8) 5 w' w.heap.size (fun _ => True) (.slice Ao19 x6_2.length co19) x6_3) ∧ Aside0 (Below w.heap.size w w'))
             case atStart => exact ⟨(x6_2), (0), uJ, H', ⟨Nat.le_refl _⟩, ⟨rB HO_6.out⟩, ⟨ut⟩⟩
             case round =>
              clear H'
              try clear c1
              try clear p1
              try clear q1
              try clear hx1
              try clear qi1
              try clear p2
              try clear c4
              try clear c4b0
              try clear c4b1
              try clear c5
              try clear c5b0
              try clear c5b1
              try clear c6
              try clear c6b0
              try clear c6b1
              try clear c6b2
              try clear c7
              try clear c8
              try clear c9
              try clear c9b0
              try clear c9b1
              try clear c10
              try clear c10b0
              try clear c10b1
              try clear p10
              try clear q10
              try clear hx10
              try clear qi10
              try clear c11
              try clear c11b0
              try clear c11b1
              try clear c14
              try clear c14b0
              try clear c15
              try clear c15b0
              try clear c16
              try clear c16b0
              try clear c18
              try clear hx104_0
              try clear hx108_0
              try clear p1
              try clear p10
              try clear p104
              try clear p108
              try clear p2
              try clear q1
              try clear q10
              try clear q104
              try clear q108
              obtain ⟨x6_3, x47_3, rfl, HA, HK3, HO_6, HB⟩ := hrel
              have hl6_3 := (Kd.R_reads' HO_6.out).1
              rw [hl6_3] at HO_6
              (try simp only [hl6_3])
              cases gk with
              | zero => exact absurd HA.out (by simp [vec_Combine.l1])
              | succ k3 =>
               have H := HA.out
               clear HA
               simp only [vec_Combine.l1] at H
               by_cases c20 : x47_3 < (x6_2.length : Int)
               ·rw [if_pos c20] at H
                have c20b0 : decide (x47_3 < (x6_2.length : Int)) = true := decide_eq_true c20
                (try (have c20h0 := c20b0; simp only [hl6_3] at c20h0))
                clear c20
                by_cases c21 : 0 ≤ x47_3
                ·rw [if_pos c21] at H
                 have c21b0 : decide (0 ≤ x47_3) = true := decide_eq_true c21
                 (try (have c21h0 := c21b0; simp only [hl6_3] at c21h0))
                 clear c21
                 by_cases c22 : x47_3 < (x6_3.length : Int)
                 ·rw [if_pos c22] at H
                  have c22b0 : decide (x47_3 < (x6_3.length : Int)) = true := decide_eq_true c22
                  (try (have c22h0 := c22b0; simp only [hl6_3] at c22h0))
                  clear c22
                  by_cases c23 : 0 ≤ x37_2
                  ·rw [if_pos c23] at H
                   have c23b0 : decide (0 ≤ x37_2) = true := decide_eq_true c23
                   (try (have c23h0 := c23b0; simp only [hl6_3] at c23h0))
                   clear c23
                   by_cases c24 : x37_2 < (l1.length : Int)
                   ·rw [if_pos c24] at H
                    have c24b0 : decide (x37_2 < (l1.length : Int)) = true := decide_eq_true c24
                    (try (have c24h0 := c24b0; simp only [hl6_3] at c24h0))
                    clear c24
                    by_cases c25 : x47_3 < ((rdOf ByteArray.empty l1 x37_2).size : Int)
                    ·rw [if_pos c25] at H
                     have c25b0 : decide (x47_3 < ((rdOf ByteArray.empty l1 x37_2).size : Int)) = true := decide_eq_true c25
                     (try (have c25h0 := c25b0; simp only [hl6_3] at c25h0))
                     clear c25
                     replace H := Option.bind_eq_some_iff.mp H
                     obtain ⟨t112, A270, H⟩ := H
                     replace H : (vec_Combine.l1 k3 l1 (x6_3.set (x47_3 : Int).toNat (Go.bits .xor .u8 (rd x6_3 x47_3) ((t112) % 256))) x37_2 (rd l0 x37_2) l0 (l0.length : Int) x37_2 (x6_2.length : Int) (wrap64 (x47_3 + 1))) = some (r1, r2) := H
                     have A27 := mk0 A270
                     clear A270
                     obtain ⟨y113, hy113⟩ : ∃ y_ : List Int, y_ = (x6_3.set (x47_3 : Int).toNat (Go.bits .xor .u8 (rd x6_3 x47_3) ((t112) % 256))) := ⟨_, rfl⟩
                     replace H : (vec_Combine.l1 k3 l1 y113 x37_2 (rd l0 x37_2) l0 (l0.length : Int) x37_2 (x6_2.length : Int) (wrap64 (x47_3 + 1))) = some (r1, r2) := by first | (rw [hy113]; with_reducible exact H) | (have H2_ := (Option.bind_some _ _).symm.trans H; rw [hy113]; with_reducible exact H2_) | (have H2_ := (Option.bind_some _ _).symm.trans H; with_reducible exact H2_) | with_reducible exact H | (rw [hy113]; exact H) | exact H
                     have Ny113 := mk0 hy113
                     clear hy113
                     have H' := mk0 H
                     clear H
                     try go_wp2
                     replace HO_6 := mk0 (Kd.R_drew HO_6.out)
                     replace HB := mk0 (below_drew1 HB.out)
                     have p110 : 0 ≤ (x47_3 : Int) := of_decide_eq_true uI
                     have q110 : x47_3 < (x6_3.length : Int) := of_decide_eq_true uI
                     obtain ⟨ad110, e110, hx110_0⟩ := Kd.at_int (Kd.R_reads' HO_6.out).2.2 x47_3 p110 q110
                     cases e110
                     replace p110 := eq_true p110
                     replace q110 := eq_true q110
                     have p111 : 0 ≤ (x37_2 : Int) := of_decide_eq_true uI
                     have q111 : x37_2 < (l1.length : Int) := of_decide_eq_true uI
                     obtain ⟨ad111, e111, hx111_0⟩ := Kd.at_string HR1.out x37_2 p111 q111
                     have hw111_0 := hx111_0
                     obtain rfl : ad104 = ad111 := (by injection e111)
                     replace hx111_0 := (HB.out.cell (World.block_lt_of_cell? w _ hx111_0)).trans hx111_0
                     replace p111 := eq_true p111
                     replace q111 := eq_true q111
                     have p26 : 0 ≤ (x47_3 : Int) := of_decide_eq_true uI
                     have q26 : x47_3 < ((rdOf ByteArray.empty l1 x37_2).size : Int) := of_decide_eq_true uI
                     have hx26 := bt_at (rdOf ByteArray.empty l1 x37_2) x47_3
                     replace p26 := eq_true p26
                     replace q26 := eq_true q26
                     refine start_ (n := 17) (S := fun w' => w'.cell? (ad110.add (x47_3).toNat) = some (.int .u8 (rd x6_3 x47_3)) ∧ w'.cell? (ad104.add (x37_2).toNat) = some (.string (rdOf ByteArray.empty l1 x37_2))) (ds := [16]) (bz 17 0) uT rfl rfl ⟨hx110_0, ((HB.out.cell (World.block_lt_of_cell? w _ hw111_0)).trans hw111_0)⟩ (fun hHeld => ?_); refine with_tabW vec_Combine.tab12 vec_Combine.bits12 (fun HT_ HW_ => ?_)
                     generalize wr.drew = w29 at HO_6 HB hx110_0 hx111_0 hHeld ⊢
                     refine pU 0 50 (bz 17 1) HT_.out ?_
                     refine pU 1 51 (bz 17 3) HT_.out ?_
                     refine pU 2 52 (bz 17 7) HT_.out ?_
                     refine pU 4 54 (bz 17 23) HT_.out ?_
                     refine pU 5 55 (bz 17 55) HT_.out ?_
                     refine pU 6 56 (bz 17 119) HT_.out ?_
                     refine pU 7 57 (bz 17 247) HT_.out ?_
                     refine pU 9 59 (bz 17 759) HT_.out ?_
                     refine pT2 3 53 (bz 17 767) HT_.out HW_.out hHeld ?_
                     refine pT2 8 58 (bz 17 1023) HT_.out HW_.out hHeld ?_
                     refine pT2 10 60 (bz 17 2047) HT_.out HW_.out hHeld ?_
                     refine pU 11 61 (bz 17 4095) HT_.out ?_
                     refine one_ (i := 12) (N := some 62) (bz 17 8191) rfl rfl (pO HT_.out) uZ (fun K hK => ?_)
                     refine goes_ Try.func65 uT rfl #[.int .i64 (rd l0 x37_2), .int .i64 (wrap64 (bt (rdOf ByteArray.empty l1 x37_2) x47_3))] uW rfl rfl uk ?_
                     with_reducible refine (GGf.gf_Times.calls k3 (rd l0 x37_2) (wrap64 (bt (rdOf ByteArray.empty l1 x37_2) x47_3)) t112 _ A27.out).mono ?_
                     rintro e w' ⟨rfl, ⟨nd, rfl⟩⟩
                     refine ⟨_, rfl, ?_⟩
                     have p28 : 0 ≤ (x47_3 : Int) := of_decide_eq_true uI
                     have q28 : (x47_3 : Int) < ((x6_3.length : Int) : Int) := of_decide_eq_true uI
                     obtain ⟨go28, co28, eo28, gb28, gl28, cl28, HG28⟩ := Kd.R_form HO_6.out uV
                     (first | cases eo28 | (injection eo28 with ea_ en_ ec_; (first | subst ea_ | (injection ea_ with ea_; subst ea_)); subst ec_; clear en_))
                     have GB28 := mk0 gb28
                     have GG28 := mk0 HG28
                     clear gb28 gl28 HG28
                     (first | simp only [add_plain] at hx110_0 | skip)
                     obtain ⟨hx28_0, hf28_0⟩ := Kd.R_celln 0 HO_6.out (x47_3 : Int) p28 q28
                     replace p28 := eq_true p28
                     replace q28 := eq_true q28
                     have HP30 := Kd.R_putn HO_6.out (x47_3 : Int) (Go.bits .xor .u8 (rd x6_3 x47_3) ((t112) % 256))
                     rw [← Ny113.out] at HP30
                     have HQ30 := mk0 HP30
                     clear HP30
                     refine hK.out _ _ ⟨hHeld.1, ((HB.out.cell (World.block_lt_of_cell? w _ hw111_0)).trans hw111_0)⟩ (fun hHeld => ?_)
                     clear hK K
                     refine pM (some 62) ?_
                     refine pU 13 63 (bz 17 16383) HT_.out ?_
                     refine pU 14 64 (bz 17 32767) HT_.out ?_
                     refine pU 15 65 (bz 17 65535) HT_.out ?_
                     refine last_ (i := 16) (N := none) (bz 17 131071) rfl rfl (pO HT_.out) uZ (fun K hK => ?_)
                     refine skip_ (w1 := ?_) uW rfl ?_ ?_
                     rotate_left
                     ·go_simp
                      rfl
                     refine hK.out _ _ ?_
                     clear hK K
                     refine done_ (done_of HT_.out uT) ?_
                     try go_wp2
                     (try simp only [← hl6_3])
                     go_roundg k3
                     case measure => have := HJ2.out; have := HK2.out; have := HK3.out; omega
                     case rel => exact ⟨(y113), (wrap64 (x47_3 + 1)), uJ, H', ⟨uH⟩, ⟨by (try simp only [hl6_3]); (with_reducible repeat (first | apply rA | apply rN | apply rD)); exact HQ30.out⟩, ⟨by repeat (first | (with_reducible first | exact HB.out | apply lA | apply lN | apply lD | refine below_set ?_ GB28.out) | exact HB.out)⟩⟩
                    ·rw [if_neg c25] at H
                     exact absurd H qa
                   ·rw [if_neg c24] at H
                    exact absurd H qa
                  ·rw [if_neg c23] at H
                   exact absurd H qa
                 ·rw [if_neg c22] at H
                  exact absurd H qa
                ·rw [if_neg c21] at H
                 exact absurd H qa
               ·rw [if_neg c20] at H
                have c20b0 : decide (x47_3 < (x6_2.length : Int)) = false := decide_eq_false c20
                (try (have c20h0 := c20b0; simp only [hl6_3] at c20h0))
                clear c20
                have H' := mk0 H
                clear H
                go_wp2
                (try simp only [← hl6_3])
                go_roundg k3
                case measure => have := HJ2.out; have := HK2.out; have := HK3.out; omega
                case rel => exact ⟨(x6_3), (wrap64 (x37_2 + 1)), uJ, H', ⟨uH⟩, ⟨by (try simp only [hl6_3]); (with_reducible repeat (first | apply rA | apply rN | apply rD)); exact HO_6.out⟩, ⟨ut⟩⟩
            ·replace c18 := Bool.eq_false_iff.mpr c18
             subst c18
             have H1 : (some ((⟨#[]⟩ : ByteArray), 200)) = some (r1, r2) := by rw [if_neg (show ¬ (false = true) by decide)] at H; exact H
             clear H
             have H := H1
             clear H1
             simp only [Option.some.injEq, Prod.mk.injEq] at H
             obtain ⟨rfl, rfl⟩ := H
             have p108 : 0 ≤ (x37_2 : Int) := of_decide_eq_true uI
             have q108 : x37_2 < (l0.length : Int) := of_decide_eq_true uI
             obtain ⟨ad108, e108, hx108_0⟩ := Kd.at_int HR0.out x37_2 p108 q108
             cases e108
             replace hx108_0 := (HB.out.cell (World.block_lt_of_cell? w _ hx108_0)).trans hx108_0
             replace p108 := eq_true p108
             replace q108 := eq_true q108
             go_wp2_with (first | ((with_reducible refine gCa (f := 74) rfl ?_); refine goesL_ (some 43) rfl rfl Try.func74 uT rfl #[.int .i64 (rd l0 x37_2)] rfl uk ?_; (with_reducible refine (GGf.gf_Is.calls (rd l0 x37_2) false _ A17.out).mono ?_); rintro e w' ⟨rfl, ⟨nd, rfl⟩⟩; refine ⟨_, rfl, ?_⟩))
             go_ret2
             exact ⟨uz, ut⟩
           ·rw [if_neg c16] at H
            exact absurd H qa
          ·rw [if_neg c15] at H
           exact absurd H qa
         ·rw [if_neg c14] at H
          have c14b0 : decide (x37_2 < (l0.length : Int)) = false := decide_eq_false c14
          clear c14
          simp only [Option.some.injEq, Prod.mk.injEq] at H
          obtain ⟨rfl, rfl⟩ := H
          have hcv31 := own_string (P := Try.prog) Try.underlying66 Try.underlying5 Try.underlying9 (Kd.own_of_R HO_6.out)
          go_wp2
          go_ret2
          exact ⟨uz, ut⟩
      ·rw [if_neg c11] at H
       exact absurd H qa
     ·rw [if_neg c10] at H
      exact absurd H qa
    ·rw [if_neg c9] at H
     exact absurd H qa
end Go.Proofs.Ytaahnicjjpddjaa.GVec
