/- Functions of the program as Lean functions, each with a proof that its call comes to what the function says. No condition. -/
import Derived.Test.YtaahnicjjpddjaaKRebuildMendsGRef3
import Derived.Test.YtaahnicjjpddjaaKRebuildMendsGRef12
namespace Go.Proofs.Ytaahnicjjpddjaa.GRef
open Go.Proofs.Ytaahnicjjpddjaa.Fn
open Go.Proofs.Ytaahnicjjpddjaa
open Go.RowKit Go.Proofs.YtaahnicjjpddjaaW.PrintWords Go.Proofs.YtaahnicjjpddjaaW.PrintLast Go.Proofs.YtaahnicjjpddjaaW.PrintMore
attribute [local go_sem] max2_int min2_int max_two min_two max_three min_three max_four min_four   -- for this text's walks alone
set_option linter.unusedVariables false
set_option linter.unusedSimpArgs false
mutual
def ossuaryref1_Combine.j0 : Nat → List Int → List ByteArray → Bool → Option (ByteArray × Int)
 | 0, _, _, _ => none
 | k + 1, x0, x1, x29 => if x29 = true then (some ((⟨#[]⟩ : ByteArray), 200)) else (ossuaryref1_Combine.l0 k x0 x1 0)
def ossuaryref1_Combine.l0 : Nat → List Int → List ByteArray → Int → Option (ByteArray × Int)
 | 0, _, _, _ => none
 | k + 1, x0, x1, x6 => if x6 < (x0.length : Int) then (if 0 ≤ x6 then ((ossuaryref1_byteNum.f (rd x0 x6)).bind fun t306 => (if t306 = true then (ossuaryref1_Combine.l0 k x0 x1 (wrap64 (x6 + 1))) else (some ((⟨#[]⟩ : ByteArray), 200)))) else (none)) else (if 0 < (x1.length : Int) then (if 0 ≤ ((rdOf ByteArray.empty x1 0).size : Int) then (if (((rdOf ByteArray.empty x1 0).size : Int) : Int).toNat ≤ 281474976710656 then (ossuaryref1_Combine.l1 k x0 x1 (List.replicate (((rdOf ByteArray.empty x1 0).size : Int) : Int).toNat 0) 0) else (none)) else (none)) else (none))
def ossuaryref1_Combine.l1 : Nat → List Int → List ByteArray → List Int → Int → Option (ByteArray × Int)
 | 0, _, _, _, _ => none
 | k + 1, x0, x1, x7, x8 => if x8 < (x0.length : Int) then (ossuaryref1_Combine.l2 k x0 x1 x7 x8 0) else (some (strOfNums x7, 0))
def ossuaryref1_Combine.l2 : Nat → List Int → List ByteArray → List Int → Int → Int → Option (ByteArray × Int)
 | 0, _, _, _, _, _ => none
 | k + 1, x0, x1, x7, x8, x9 => if x9 < (x7.length : Int) then (if 0 ≤ x9 then (if 0 ≤ x8 then (if x8 < (x0.length : Int) then (if x8 < (x1.length : Int) then (if x9 < ((rdOf ByteArray.empty x1 x8).size : Int) then ((ossuaryref1_mul.f k (rd x0 x8) (wrap64 (bt (rdOf ByteArray.empty x1 x8) x9))).bind fun t314 => (ossuaryref1_Combine.l2 k x0 x1 (x7.set (x9 : Int).toNat (Go.bits .xor .u8 (rd x7 x9) ((t314) % 256))) x8 (wrap64 (x9 + 1)))) else (none)) else (none)) else (none)) else (none)) else (none)) else (ossuaryref1_Combine.l1 k x0 x1 x7 (wrap64 (x8 + 1)))
end
def ossuaryref1_Combine.f (k : Nat) (l0 : List Int) (l1 : List ByteArray) : Option (ByteArray × Int) := if (l0.length : Int) < 1 then (ossuaryref1_Combine.j0 k l0 l1 true) else (if (l0.length : Int) > 12 then (ossuaryref1_Combine.j0 k l0 l1 true) else (if (l1.length : Int) = (l0.length : Int) then ((ossuaryref1_alike.f k l1).bind fun t304 => (ossuaryref1_Combine.j0 k l0 l1 (!t304))) else (ossuaryref1_Combine.j0 k l0 l1 true)))
theorem ossuaryref1_Combine.mono_l : ∀ k, (∀ y0 y1 y2, LeO (ossuaryref1_Combine.j0 k y0 y1 y2) (ossuaryref1_Combine.j0 (k + 1) y0 y1 y2)) ∧ (∀ y0 y1 y2, LeO (ossuaryref1_Combine.l0 k y0 y1 y2) (ossuaryref1_Combine.l0 (k + 1) y0 y1 y2)) ∧ (∀ y0 y1 y2 y3, LeO (ossuaryref1_Combine.l1 k y0 y1 y2 y3) (ossuaryref1_Combine.l1 (k + 1) y0 y1 y2 y3)) ∧ (∀ y0 y1 y2 y3 y4, LeO (ossuaryref1_Combine.l2 k y0 y1 y2 y3 y4) (ossuaryref1_Combine.l2 (k + 1) y0 y1 y2 y3 y4))
 | 0 => ⟨fun _ _ _ r h => by simp [ossuaryref1_Combine.j0] at h, fun _ _ _ r h => by simp [ossuaryref1_Combine.l0] at h, fun _ _ _ _ r h => by simp [ossuaryref1_Combine.l1] at h, fun _ _ _ _ _ r h => by simp [ossuaryref1_Combine.l2] at h⟩
 | k + 1 => by
  obtain ⟨ih0, ih1, ih2, ih3⟩ := ossuaryref1_Combine.mono_l k
  refine ⟨?_, ?_, ?_, ?_⟩
  ·intro y0 y1 y2
   unfold ossuaryref1_Combine.j0
   repeat' with_reducible first | exact ih0 _ _ _ | exact ih1 _ _ _ | exact ih2 _ _ _ _ | exact ih3 _ _ _ _ _ | exact ossuaryref1_alike.mono _ _ | exact ossuaryref1_mul.mono _ _ _ | exact LeO.refl _ | exact LeO.none _ | refine LeO.ite ?_ ?_ | refine LeO.bind ?_ (fun _ => ?_)
  ·intro y0 y1 y2
   unfold ossuaryref1_Combine.l0
   repeat' with_reducible first | exact ih0 _ _ _ | exact ih1 _ _ _ | exact ih2 _ _ _ _ | exact ih3 _ _ _ _ _ | exact ossuaryref1_alike.mono _ _ | exact ossuaryref1_mul.mono _ _ _ | exact LeO.refl _ | exact LeO.none _ | refine LeO.ite ?_ ?_ | refine LeO.bind ?_ (fun _ => ?_)
  ·intro y0 y1 y2 y3
   unfold ossuaryref1_Combine.l1
   repeat' with_reducible first | exact ih0 _ _ _ | exact ih1 _ _ _ | exact ih2 _ _ _ _ | exact ih3 _ _ _ _ _ | exact ossuaryref1_alike.mono _ _ | exact ossuaryref1_mul.mono _ _ _ | exact LeO.refl _ | exact LeO.none _ | refine LeO.ite ?_ ?_ | refine LeO.bind ?_ (fun _ => ?_)
  ·intro y0 y1 y2 y3 y4
   unfold ossuaryref1_Combine.l2
   repeat' with_reducible first | exact ih0 _ _ _ | exact ih1 _ _ _ | exact ih2 _ _ _ _ | exact ih3 _ _ _ _ _ | exact ossuaryref1_alike.mono _ _ | exact ossuaryref1_mul.mono _ _ _ | exact LeO.refl _ | exact LeO.none _ | refine LeO.ite ?_ ?_ | refine LeO.bind ?_ (fun _ => ?_)
theorem ossuaryref1_Combine.mono : ∀ a0 a1 k, LeO (ossuaryref1_Combine.f k a0 a1) (ossuaryref1_Combine.f (k + 1) a0 a1) := by
 intro a0 a1 k
 obtain ⟨ih0, ih1, ih2, ih3⟩ := ossuaryref1_Combine.mono_l k
 unfold ossuaryref1_Combine.f
 repeat' with_reducible first | exact ih0 _ _ _ | exact ih1 _ _ _ | exact ih2 _ _ _ _ | exact ih3 _ _ _ _ _ | exact ossuaryref1_alike.mono _ _ | exact ossuaryref1_mul.mono _ _ _ | exact LeO.refl _ | exact LeO.none _ | refine LeO.ite ?_ ?_ | refine LeO.bind ?_ (fun _ => ?_)
def ossuaryref1_Combine.T15 : Bool × List (List Nat × List Nat) := (true, [([], []), ([], []), ([], []), ([], []), ([2, 3], [2, 3]), ([4], [4]), ([], []), ([], []), ([6, 7], [6, 7]), ([8], [8]), ([], []), ([], []), ([10, 11], [10, 11]), ([12], [12]), ([], []), ([13, 14], [13, 14]), ([15], [15]), ([9, 16], [9, 16]), ([17], [17]), ([5, 18], [5, 18]), ([0, 1, 0, 1, 2, 3, 4, 5, 6, 7, 8, 9, 10, 11, 12, 13, 14, 15, 16, 17, 18, 19], [0, 1]), ([20, 19, 17, 0, 1, 2, 3, 4, 5, 6, 7, 8, 9, 10, 11, 12, 13, 14, 15, 16, 17, 18, 19], [19, 20])])
def ossuaryref1_Combine.B15 : List Nat := [0, 0, 0, 0, 12, 28, 0, 0, 192, 448, 0, 0, 3072, 7168, 0, 31744, 64512, 131008, 262080, 524284, 1048575, 2097151]
theorem ossuaryref1_Combine.tab15 : rtab .any (opsOf Try.f58 15) = ossuaryref1_Combine.T15 := by kernel_rfl
theorem ossuaryref1_Combine.bits15 : waitsOk ossuaryref1_Combine.T15.2 ossuaryref1_Combine.B15 = true := by kernel_rfl
set_option maxHeartbeats 8000000 in
set_option maxRecDepth 100000 in
theorem ossuaryref1_Combine.calls (k : Nat) (A0 : Option Addr) (c0 : Nat) (l0 : List Int) (A1 : Option Addr) (c1 : Nat) (l1 : List ByteArray) (r1 : ByteArray) (r2 : Int) (w : World) (hr0 : Kd.C (Kd.int .i64) w A0 l0.length l0) (hc0 : l0.length ≤ c0) (hr1 : Kd.C Kd.string w A1 l1.length l1) (hc1 : l1.length ≤ c1) (h : ossuaryref1_Combine.f k l0 l1 = some (r1, r2)) :
  Calls Try.prog 58 #[.slice A0 l0.length c0, .slice A1 l1.length c1] w fun e w' => e = .returned (.tuple #[.string r1, .int .i64 r2]) ∧ Below w.heap.size w w' := by
 have HR0 := mk0 hr0
 have HC0 := mk0 hc0
 clear hr0 hc0
 have HR1 := mk0 hr1
 have HC1 := mk0 hc1
 clear hr1 hc1
 have HB := mk0 (Below.refl w.heap.size w)
 have H : (if (l0.length : Int) < 1 then (ossuaryref1_Combine.j0 k l0 l1 true) else (if (l0.length : Int) > 12 then (ossuaryref1_Combine.j0 k l0 l1 true) else (if (l1.length : Int) = (l0.length : Int) then ((ossuaryref1_alike.f k l1).bind fun t304 => (ossuaryref1_Combine.j0 k l0 l1 (!t304))) else (ossuaryref1_Combine.j0 k l0 l1 true)))) = some (r1, r2) := h
 clear h
 have HC3 := mk0 H
 clear H
 go_enter Try.func58, Try.ntmps58
 go_upto_region 1 with (fail)
 go_cut [29] (fun v29 wc => ∃ (kq : Nat) (x29_2 : Bool), v29 = .bool x29_2 ∧ Aside0 (ossuaryref1_Combine.j0 kq l0 l1 x29_2 = some (r1, r2)) ∧ Aside0 (kq ≤ k) ∧ Aside0 (Below w.heap.size w wc))
 case first =>
  have H := HC3.out
  clear HC3
  by_cases c4 : (l0.length : Int) < 1
  ·rw [if_pos c4] at H
   have c4b0 : decide ((l0.length : Int) < 1) = true := decide_eq_true c4
   have c4b1 : decide (l0.length < 1) = true := decide_eq_true uV
   clear c4
   (first | rw [c4b0] | (simp only [i64_w, i32_w]; rw [c4b0]) | skip)
   have H' := mk0 H
   clear H
   go_wp2
   go_meet
   case rel => exact ⟨_, (true), uJ, H', ⟨uO⟩, ⟨ut⟩⟩
  ·rw [if_neg c4] at H
   have c4b0 : decide ((l0.length : Int) < 1) = false := decide_eq_false c4
   have c4b1 : decide (l0.length < 1) = false := decide_eq_false uV
   clear c4
   (first | rw [c4b0] | (simp only [i64_w, i32_w]; rw [c4b0]) | skip)
   by_cases c5 : (l0.length : Int) > 12
   ·rw [if_pos c5] at H
    have c5b0 : decide (12 < (l0.length : Int)) = true := decide_eq_true c5
    have c5b1 : decide (12 < l0.length) = true := decide_eq_true uV
    clear c5
    have H' := mk0 H
    clear H
    go_wp2
    go_meet
    case rel => exact ⟨_, (true), uJ, H', ⟨uO⟩, ⟨ut⟩⟩
   ·rw [if_neg c5] at H
    have c5b0 : decide (12 < (l0.length : Int)) = false := decide_eq_false c5
    have c5b1 : decide (12 < l0.length) = false := decide_eq_false uV
    clear c5
    by_cases c6 : (l1.length : Int) = (l0.length : Int)
    ·rw [if_pos c6] at H
     have c6b0 : ((l1.length : Int) == (l0.length : Int)) = true := beq_iff_eq.mpr c6
     have c6b1 : ((l1.length : Int) != (l0.length : Int)) = false := bne_eq_false_iff_eq.mpr c6
     have c6b2 : (l1.length == l0.length) = true := by first | simpa using c6 | (simp at c6 ⊢; omega)
     clear c6
     replace H := Option.bind_eq_some_iff.mp H
     obtain ⟨t304, A70, H⟩ := H
     replace H : (ossuaryref1_Combine.j0 k l0 l1 (!t304)) = some (r1, r2) := H
     have A7 := mk0 A70
     clear A70
     have H' := mk0 H
     clear H
     go_wp2_with (first | (go_at_call 91; (with_reducible refine (ossuaryref1_alike.calls k _ _ l1 t304 _ ?side1 ?side2 A7.out).mono ?_); (case side1 => exact cB (Kd.C_below HR1.out HB.out)); (case side2 => exact HC1.out); rintro e w' ⟨rfl, ⟨nd, rfl⟩⟩))
     go_meet
     case rel => exact ⟨_, (!t304), uJ, H', ⟨uO⟩, ⟨ut⟩⟩
    ·rw [if_neg c6] at H
     have c6b0 : ((l1.length : Int) == (l0.length : Int)) = false := beq_eq_false_iff_ne.mpr c6
     have c6b1 : ((l1.length : Int) != (l0.length : Int)) = true := bne_iff_ne.mpr c6
     have c6b2 : (l1.length == l0.length) = false := by first | simpa using c6 | (simp at c6 ⊢; omega)
     have H' := mk0 H
     clear H
     go_wp2
     go_meet
     case rel => exact ⟨_, (true), uJ, H', ⟨uO⟩, ⟨ut⟩⟩
 case rest =>
  clear HC3
  try clear c1
  try clear p2
  try clear c4
  try clear c4b0
  try clear c4b1
  try clear c5
  try clear c5b0
  try clear c5b1
  try clear c6
  try clear c6b0
  try clear c6b1
  try clear c6b2
  obtain ⟨kq, x29_2, rfl, HA, HJ2, HB⟩ := hcut
  cases kq with
  | zero => exact absurd HA.out (by simp [ossuaryref1_Combine.j0])
  | succ kj2 =>
   have H := HA.out
   clear HA
   simp only [ossuaryref1_Combine.j0] at H
   by_cases c8 : x29_2 = true
   ·subst c8
    have H1 : (some ((⟨#[]⟩ : ByteArray), 200)) = some (r1, r2) := by rw [if_pos rfl] at H; exact H
    clear H
    have H := H1
    clear H1
    simp only [Option.some.injEq, Prod.mk.injEq] at H
    obtain ⟨rfl, rfl⟩ := H
    go_wp2
    go_ret2
    exact ⟨uz, ut⟩
   ·replace c8 := Bool.eq_false_iff.mpr c8
    subst c8
    have H1 : (ossuaryref1_Combine.l0 kj2 l0 l1 0) = some (r1, r2) := by rw [if_neg (show ¬ (false = true) by decide)] at H; exact H
    clear H
    have H := H1
    clear H1
    have H' := mk0 H
    clear H
    go_wp2
    go_loopg [6] kj2 (fun kq v6 w' => ∃ (x6_2 : Int), v6 = .int .i64 x6_2 ∧ Aside0 (ossuaryref1_Combine.l0 kq l0 l1 x6_2 = some (r1, r2)) ∧ Aside0 (kq ≤ kj2) ∧ Aside0 (Below w.heap.size w w'))
    case atStart => exact ⟨(0), uJ, H', ⟨Nat.le_refl _⟩, ⟨ut⟩⟩
    case round =>
     clear H'
     try clear c1
     try clear p2
     try clear c4
     try clear c4b0
     try clear c4b1
     try clear c5
     try clear c5b0
     try clear c5b1
     try clear c6
     try clear c6b0
     try clear c6b1
     try clear c6b2
     try clear c8
     try clear p2
     obtain ⟨x6_2, rfl, HA, HK2, HB⟩ := hrel
     cases gk with
     | zero => exact absurd HA.out (by simp [ossuaryref1_Combine.l0])
     | succ k2 =>
      have H := HA.out
      clear HA
      simp only [ossuaryref1_Combine.l0] at H
      by_cases c9 : x6_2 < (l0.length : Int)
      ·rw [if_pos c9] at H
       have c9b0 : decide (x6_2 < (l0.length : Int)) = true := decide_eq_true c9
       clear c9
       by_cases c10 : 0 ≤ x6_2
       ·rw [if_pos c10] at H
        have c10b0 : decide (0 ≤ x6_2) = true := decide_eq_true c10
        clear c10
        replace H := Option.bind_eq_some_iff.mp H
        obtain ⟨t306, A110, H⟩ := H
        replace H : (if t306 = true then (ossuaryref1_Combine.l0 k2 l0 l1 (wrap64 (x6_2 + 1))) else (some ((⟨#[]⟩ : ByteArray), 200))) = some (r1, r2) := H
        have A11 := mk0 A110
        clear A110
        by_cases c12 : t306 = true
        ·subst c12
         have H1 : (ossuaryref1_Combine.l0 k2 l0 l1 (wrap64 (x6_2 + 1))) = some (r1, r2) := by rw [if_pos rfl] at H; exact H
         clear H
         have H := H1
         clear H1
         have H' := mk0 H
         clear H
         have p305 : 0 ≤ (x6_2 : Int) := of_decide_eq_true uI
         have q305 : x6_2 < (l0.length : Int) := of_decide_eq_true uI
         obtain ⟨ad305, e305, hx305_0⟩ := Kd.at_int HR0.out x6_2 p305 q305
         cases e305
         replace hx305_0 := (HB.out.cell (World.block_lt_of_cell? w _ hx305_0)).trans hx305_0
         replace p305 := eq_true p305
         replace q305 := eq_true q305
         go_wp2_with (first | ((with_reducible refine gate_callee (f := 75) rfl ?_); refine goesL_ (some 40) rfl rfl Try.func75 uT rfl #[.int .i64 (rd l0 x6_2)] rfl uk ?_; (with_reducible refine (ossuaryref1_byteNum.calls (rd l0 x6_2) true _ A11.out).mono ?_); rintro e w' ⟨rfl, ⟨nd, rfl⟩⟩; refine ⟨_, rfl, ?_⟩))
         go_roundg k2
         case measure => have := HJ2.out; have := HK2.out; omega
         case rel => exact ⟨(wrap64 (x6_2 + 1)), uJ, H', ⟨uN⟩, ⟨ut⟩⟩
        ·replace c12 := Bool.eq_false_iff.mpr c12
         subst c12
         have H1 : (some ((⟨#[]⟩ : ByteArray), 200)) = some (r1, r2) := by rw [if_neg (show ¬ (false = true) by decide)] at H; exact H
         clear H
         have H := H1
         clear H1
         simp only [Option.some.injEq, Prod.mk.injEq] at H
         obtain ⟨rfl, rfl⟩ := H
         have p305 : 0 ≤ (x6_2 : Int) := of_decide_eq_true uI
         have q305 : x6_2 < (l0.length : Int) := of_decide_eq_true uI
         obtain ⟨ad305, e305, hx305_0⟩ := Kd.at_int HR0.out x6_2 p305 q305
         cases e305
         replace hx305_0 := (HB.out.cell (World.block_lt_of_cell? w _ hx305_0)).trans hx305_0
         replace p305 := eq_true p305
         replace q305 := eq_true q305
         go_wp2_with (first | ((with_reducible refine gate_callee (f := 75) rfl ?_); refine goesL_ (some 40) rfl rfl Try.func75 uT rfl #[.int .i64 (rd l0 x6_2)] rfl uk ?_; (with_reducible refine (ossuaryref1_byteNum.calls (rd l0 x6_2) false _ A11.out).mono ?_); rintro e w' ⟨rfl, ⟨nd, rfl⟩⟩; refine ⟨_, rfl, ?_⟩))
         go_ret2
         exact ⟨uz, ut⟩
       ·rw [if_neg c10] at H
        exact absurd H qa
      ·rw [if_neg c9] at H
       have c9b0 : decide (x6_2 < (l0.length : Int)) = false := decide_eq_false c9
       clear c9
       by_cases c13 : 0 < (l1.length : Int)
       ·rw [if_pos c13] at H
        have c13b0 : decide (0 < (l1.length : Int)) = true := decide_eq_true c13
        have c13b1 : decide (0 < l1.length) = true := decide_eq_true uV
        clear c13
        by_cases c14 : 0 ≤ ((rdOf ByteArray.empty l1 0).size : Int)
        ·rw [if_pos c14] at H
         have c14b0 := eq_true c14
         have c14b1 : decide (0 ≤ ((rdOf ByteArray.empty l1 0).size : Int)) = true := decide_eq_true c14
         clear c14
         by_cases c15 : (((rdOf ByteArray.empty l1 0).size : Int) : Int).toNat ≤ 281474976710656
         ·rw [if_pos c15] at H
          have c15b0 := eq_true c15
          have c15b1 : decide ((((rdOf ByteArray.empty l1 0).size : Int) : Int).toNat ≤ 281474976710656) = true := decide_eq_true c15
          clear c15
          obtain ⟨y308, hy308⟩ : ∃ y_ : List Int, y_ = (List.replicate (((rdOf ByteArray.empty l1 0).size : Int) : Int).toNat 0) := ⟨_, rfl⟩
          replace H : (ossuaryref1_Combine.l1 k2 l0 l1 y308 0) = some (r1, r2) := by first | (rw [hy308]; with_reducible exact H) | (have H2_ := (Option.bind_some _ _).symm.trans H; rw [hy308]; with_reducible exact H2_) | (have H2_ := (Option.bind_some _ _).symm.trans H; with_reducible exact H2_) | with_reducible exact H | (rw [hy308]; exact H) | exact H
          have Ny308 := mk0 hy308
          clear hy308
          have H' := mk0 H
          clear H
          have p307 : 0 ≤ (0 : Int) := uV
          have q307 : 0 < (l1.length : Int) := of_decide_eq_true uI
          obtain ⟨ad307, e307, hx307_0⟩ := Kd.at_string HR1.out 0 p307 q307
          cases e307
          have qi307 : (0 < l1.length) = True := eq_true uV
          (try rw [show ((0 : Int)).toNat = 0 from rfl] at hx307_0)
          (try rw [Addr.add_zero'] at hx307_0)
          replace hx307_0 := (HB.out.cell (World.block_lt_of_cell? w _ hx307_0)).trans hx307_0
          replace p307 := eq_true p307
          replace q307 := eq_true q307
          go_wp2_with (first | ((with_reducible refine gate_dst (N := 46) rfl ?_); (try (refine gate_guard uW ?_; dsimp only)); refine Kd.R_make (Kd.int .u8) _ 5 rfl (N := 46) rfl 66 _ _ rfl ((rdOf ByteArray.empty l1 0).size : Int) rfl rfl Try.underlying66 (.int .u8 0) 1 info5 rfl uZ uV 0 (ok := fun _ => True) (okp := fun _ => True) rfl (fun _ hk => hk) trivial (of_decide_eq_true uI) (Nat.le_trans (Nat.mul_le_mul_right _ (of_decide_eq_true uI : ((rdOf ByteArray.empty l1 0).size : Int).toNat ≤ 281474976710656)) uV) (Below.refl _ _) (Nat.le_refl _) ?_; intro v309 w16 ho17 hb hg_ hnew_; clear hg_ hnew_; (first | rw [← Ny308.out] at ho17 | (simp only [Int.reduceToNat] at ho17; rw [← Ny308.out] at ho17)); have HO310 := mk0 (Kd.R_lower ho17 (below_size ut)); replace HB := mk0 (below_step ut hb); clear hb ho17))
          go_loopg [8] k2 (fun kq v8 w' => ∃ (x7_3 : List Int) (x8_3 : Int), v8 = .int .i64 x8_3 ∧ Aside0 (ossuaryref1_Combine.l1 kq l0 l1 x7_3 x8_3 = some (r1, r2)) ∧ Aside0 (kq ≤ k2) ∧ Aside0 (Kd.R (Kd.int .u8) 5 w' w.heap.size (fun _ => True) v309 x7_3) ∧ Aside0 (Below w.heap.size w w'))
          case atStart => exact ⟨(y308), (0), uJ, H', ⟨Nat.le_refl _⟩, ⟨rB HO310.out⟩, ⟨ut⟩⟩
          case round =>
           clear H'
           try clear c1
           try clear p2
           try clear p3
           try clear q3
           try clear hx3
           try clear qi3
           try clear c4
           try clear c4b0
           try clear c4b1
           try clear c5
           try clear c5b0
           try clear c5b1
           try clear c6
           try clear c6b0
           try clear c6b1
           try clear c6b2
           try clear p6
           try clear c7
           try clear c8
           try clear c9
           try clear c9b0
           try clear c10
           try clear c10b0
           try clear c12
           try clear c13
           try clear c13b0
           try clear c13b1
           try clear c14
           try clear c14b0
           try clear c14b1
           try clear c15
           try clear c15b0
           try clear c15b1
           try clear hx305_0
           try clear hx307_0
           try clear p2
           try clear p305
           try clear p307
           try clear q305
           try clear q307
           obtain ⟨x7_3, x8_3, rfl, HA, HK3, HO_7, HB⟩ := hrel
           cases gk with
           | zero => exact absurd HA.out (by simp [ossuaryref1_Combine.l1])
           | succ k3 =>
            have H := HA.out
            clear HA
            simp only [ossuaryref1_Combine.l1] at H
            by_cases c18 : x8_3 < (l0.length : Int)
            ·rw [if_pos c18] at H
             have c18b0 : decide (x8_3 < (l0.length : Int)) = true := decide_eq_true c18
             clear c18
             have H' := mk0 H
             clear H
             go_wp2
             go_loopg [9] k3 (fun kq v9 w' => ∃ (x7_4 : List Int) (x9_4 : Int), v9 = .int .i64 x9_4 ∧ Aside0 (ossuaryref1_Combine.l2 kq l0 l1 x7_4 x8_3 x9_4 = some (r1, r2)) ∧ Aside0 (kq ≤ k3) ∧ Aside0 (Kd.R (Kd.int .u8) 5 w' w.heap.size (fun _ => True) v309 x7_4) ∧ Aside0 (Below w.heap.size w w'))
             case atStart => exact ⟨(x7_3), (0), uJ, H', ⟨Nat.le_refl _⟩, ⟨rB HO_7.out⟩, ⟨ut⟩⟩
             case round =>
              clear H'
              try clear c1
              try clear p2
              try clear p3
              try clear q3
              try clear hx3
              try clear qi3
              try clear c4
              try clear c4b0
              try clear c4b1
              try clear c5
              try clear c5b0
              try clear c5b1
              try clear c6
              try clear c6b0
              try clear c6b1
              try clear c6b2
              try clear p6
              try clear c7
              try clear c8
              try clear c9
              try clear c9b0
              try clear c10
              try clear c10b0
              try clear c12
              try clear c13
              try clear c13b0
              try clear c13b1
              try clear c14
              try clear c14b0
              try clear c14b1
              try clear c15
              try clear c15b0
              try clear c15b1
              try clear c18
              try clear c18b0
              try clear hx305_0
              try clear hx307_0
              try clear p2
              try clear p3
              try clear p305
              try clear p307
              try clear p6
              try clear q3
              try clear q305
              try clear q307
              obtain ⟨x7_4, x9_4, rfl, HA, HK4, HO_7, HB⟩ := hrel
              cases gk with
              | zero => exact absurd HA.out (by simp [ossuaryref1_Combine.l2])
              | succ k4 =>
               have H := HA.out
               clear HA
               simp only [ossuaryref1_Combine.l2] at H
               by_cases c19 : x9_4 < (x7_4.length : Int)
               ·rw [if_pos c19] at H
                have c19b0 : decide (x9_4 < (x7_4.length : Int)) = true := decide_eq_true c19
                clear c19
                by_cases c20 : 0 ≤ x9_4
                ·rw [if_pos c20] at H
                 have c20b0 : decide (0 ≤ x9_4) = true := decide_eq_true c20
                 clear c20
                 by_cases c21 : 0 ≤ x8_3
                 ·rw [if_pos c21] at H
                  have c21b0 : decide (0 ≤ x8_3) = true := decide_eq_true c21
                  clear c21
                  by_cases c22 : x8_3 < (l0.length : Int)
                  ·rw [if_pos c22] at H
                   have c22b0 : decide (x8_3 < (l0.length : Int)) = true := decide_eq_true c22
                   clear c22
                   by_cases c23 : x8_3 < (l1.length : Int)
                   ·rw [if_pos c23] at H
                    have c23b0 : decide (x8_3 < (l1.length : Int)) = true := decide_eq_true c23
                    clear c23
                    by_cases c24 : x9_4 < ((rdOf ByteArray.empty l1 x8_3).size : Int)
                    ·rw [if_pos c24] at H
                     have c24b0 : decide (x9_4 < ((rdOf ByteArray.empty l1 x8_3).size : Int)) = true := decide_eq_true c24
                     clear c24
                     replace H := Option.bind_eq_some_iff.mp H
                     obtain ⟨t314, A260, H⟩ := H
                     replace H : (ossuaryref1_Combine.l2 k4 l0 l1 (x7_4.set (x9_4 : Int).toNat (Go.bits .xor .u8 (rd x7_4 x9_4) ((t314) % 256))) x8_3 (wrap64 (x9_4 + 1))) = some (r1, r2) := H
                     have A26 := mk0 A260
                     clear A260
                     obtain ⟨y315, hy315⟩ : ∃ y_ : List Int, y_ = (x7_4.set (x9_4 : Int).toNat (Go.bits .xor .u8 (rd x7_4 x9_4) ((t314) % 256))) := ⟨_, rfl⟩
                     replace H : (ossuaryref1_Combine.l2 k4 l0 l1 y315 x8_3 (wrap64 (x9_4 + 1))) = some (r1, r2) := by first | (rw [hy315]; with_reducible exact H) | (have H2_ := (Option.bind_some _ _).symm.trans H; rw [hy315]; with_reducible exact H2_) | (have H2_ := (Option.bind_some _ _).symm.trans H; with_reducible exact H2_) | with_reducible exact H | (rw [hy315]; exact H) | exact H
                     have Ny315 := mk0 hy315
                     clear hy315
                     have H' := mk0 H
                     clear H
                     obtain ⟨Ao28, co28, eo28⟩ := Kd.R_slice HO_7.out
                     subst eo28
                     try go_wp2
                     replace HO_7 := mk0 (Kd.R_drew HO_7.out)
                     replace HB := mk0 (below_drew1 HB.out)
                     have p311 : 0 ≤ (x9_4 : Int) := of_decide_eq_true uI
                     have q311 : x9_4 < (x7_4.length : Int) := of_decide_eq_true uI
                     obtain ⟨ad311, e311, hx311_0⟩ := Kd.at_int (Kd.R_reads' HO_7.out).2.2 x9_4 p311 q311
                     cases e311
                     replace p311 := eq_true p311
                     replace q311 := eq_true q311
                     have p312 : 0 ≤ (x8_3 : Int) := of_decide_eq_true uI
                     have q312 : x8_3 < (l0.length : Int) := of_decide_eq_true uI
                     obtain ⟨ad312, e312, hx312_0⟩ := Kd.at_int HR0.out x8_3 p312 q312
                     have hw312_0 := hx312_0
                     cases e312
                     replace hx312_0 := (HB.out.cell (World.block_lt_of_cell? w _ hx312_0)).trans hx312_0
                     replace p312 := eq_true p312
                     replace q312 := eq_true q312
                     have p313 : 0 ≤ (x8_3 : Int) := of_decide_eq_true uI
                     have q313 : x8_3 < (l1.length : Int) := of_decide_eq_true uI
                     obtain ⟨ad313, e313, hx313_0⟩ := Kd.at_string HR1.out x8_3 p313 q313
                     have hw313_0 := hx313_0
                     obtain rfl : ad307 = ad313 := (by injection e313)
                     replace hx313_0 := (HB.out.cell (World.block_lt_of_cell? w _ hx313_0)).trans hx313_0
                     replace p313 := eq_true p313
                     replace q313 := eq_true q313
                     have p25 : 0 ≤ (x9_4 : Int) := of_decide_eq_true uI
                     have q25 : x9_4 < ((rdOf ByteArray.empty l1 x8_3).size : Int) := of_decide_eq_true uI
                     have hx25 := bt_at (rdOf ByteArray.empty l1 x8_3) x9_4
                     replace p25 := eq_true p25
                     replace q25 := eq_true q25
                     refine start_ (n := 22) (S := fun w' => w'.cell? (ad311.add (x9_4).toNat) = some (.int .u8 (rd x7_4 x9_4)) ∧ w'.cell? (ad312.add (x8_3).toNat) = some (.int .i64 (rd l0 x8_3)) ∧ w'.cell? (ad307.add (x8_3).toNat) = some (.string (rdOf ByteArray.empty l1 x8_3))) (ds := [21]) (bz 22 0) uT rfl rfl ⟨hx311_0, ((HB.out.cell (World.block_lt_of_cell? w _ hw312_0)).trans hw312_0), ((HB.out.cell (World.block_lt_of_cell? w _ hw313_0)).trans hw313_0)⟩ (fun hHeld => ?_); refine with_tabW ossuaryref1_Combine.tab15 ossuaryref1_Combine.bits15 (fun HT_ HW_ => ?_)
                     generalize wr.drew = w29 at HO_7 HB hx311_0 hx312_0 hx313_0 hHeld ⊢
                     refine pU 0 59 (bz 22 1) HT_.out ?_
                     refine pU 1 60 (bz 22 3) HT_.out ?_
                     refine pU 2 61 (bz 22 7) HT_.out ?_
                     refine pU 3 62 (bz 22 15) HT_.out ?_
                     refine pU 4 63 (bz 22 31) HT_.out ?_
                     refine pU 6 65 (bz 22 95) HT_.out ?_
                     refine pU 7 66 (bz 22 223) HT_.out ?_
                     refine pU 8 67 (bz 22 479) HT_.out ?_
                     refine pU 10 69 (bz 22 1503) HT_.out ?_
                     refine pU 11 70 (bz 22 3551) HT_.out ?_
                     refine pU 12 71 (bz 22 7647) HT_.out ?_
                     refine pU 14 73 (bz 22 24031) HT_.out ?_
                     refine pT3 5 64 (bz 22 24063) HT_.out HW_.out hHeld ?_
                     refine pT3 9 68 (bz 22 24575) HT_.out HW_.out hHeld ?_
                     refine pT3 13 72 (bz 22 32767) HT_.out HW_.out hHeld ?_
                     refine pT3 15 74 (bz 22 65535) HT_.out HW_.out hHeld ?_
                     refine pU 16 75 (bz 22 131071) HT_.out ?_
                     refine one_ (i := 17) (N := some 76) (bz 22 262143) rfl rfl (pO HT_.out) uZ (fun K hK => ?_)
                     refine goes_ Try.func67 uT rfl #[.int .i64 (rd l0 x8_3), .int .i64 (wrap64 (bt (rdOf ByteArray.empty l1 x8_3) x9_4))] uW rfl rfl uk ?_
                     with_reducible refine (ossuaryref1_mul.calls k4 (rd l0 x8_3) (wrap64 (bt (rdOf ByteArray.empty l1 x8_3) x9_4)) t314 _ A26.out).mono ?_
                     rintro e w' ⟨rfl, ⟨nd, rfl⟩⟩
                     refine ⟨_, rfl, ?_⟩
                     have p27 : 0 ≤ (x9_4 : Int) := of_decide_eq_true uI
                     have q27 : (x9_4 : Int) < ((x7_4.length : Int) : Int) := of_decide_eq_true uI
                     obtain ⟨go27, co27, eo27, gb27, gl27, cl27, HG27⟩ := Kd.R_form HO_7.out uV
                     (first | cases eo27 | (injection eo27 with ea_ en_ ec_; (first | subst ea_ | (injection ea_ with ea_; subst ea_)); subst ec_; clear en_))
                     have GB27 := mk0 gb27
                     have GG27 := mk0 HG27
                     clear gb27 gl27 HG27
                     (first | simp only [add_plain] at hx311_0 | skip)
                     obtain ⟨hx27_0, hf27_0⟩ := Kd.R_celln 0 HO_7.out (x9_4 : Int) p27 q27
                     replace p27 := eq_true p27
                     replace q27 := eq_true q27
                     have HP30 := Kd.R_putn HO_7.out (x9_4 : Int) (Go.bits .xor .u8 (rd x7_4 x9_4) ((t314) % 256))
                     rw [← Ny315.out] at HP30
                     have HQ30 := mk0 HP30
                     clear HP30
                     refine hK.out _ _ ⟨hHeld.1, ((HB.out.cell (World.block_lt_of_cell? w _ hw312_0)).trans hw312_0), ((HB.out.cell (World.block_lt_of_cell? w _ hw313_0)).trans hw313_0)⟩ (fun hHeld => ?_)
                     clear hK K
                     refine pM (some 76) ?_
                     refine pU 18 77 (bz 22 524287) HT_.out ?_
                     refine pU 19 78 (bz 22 1048575) HT_.out ?_
                     refine pU 20 79 (bz 22 2097151) HT_.out ?_
                     refine last_ (i := 21) (N := none) (bz 22 4194303) rfl rfl (pO HT_.out) uZ (fun K hK => ?_)
                     refine skip_ (w1 := ?_) uW rfl ?_ ?_
                     rotate_left
                     ·go_simp
                      rfl
                     refine hK.out _ _ ?_
                     clear hK K
                     refine done_ (done_of HT_.out uT) ?_
                     try go_wp2
                     go_roundg k4
                     case measure => have := HJ2.out; have := HK2.out; have := HK3.out; have := HK4.out; omega
                     case rel => exact ⟨(y315), (wrap64 (x9_4 + 1)), uJ, H', ⟨uE⟩, ⟨rB HQ30.out⟩, ⟨by repeat (first | (with_reducible first | exact HB.out | apply lA | apply lN | apply lD | refine below_set ?_ GB27.out) | exact HB.out)⟩⟩
                    ·rw [if_neg c24] at H
                     exact absurd H qa
                   ·rw [if_neg c23] at H
                    exact absurd H qa
                  ·rw [if_neg c22] at H
                   exact absurd H qa
                 ·rw [if_neg c21] at H
                  exact absurd H qa
                ·rw [if_neg c20] at H
                 exact absurd H qa
               ·rw [if_neg c19] at H
                have c19b0 : decide (x9_4 < (x7_4.length : Int)) = false := decide_eq_false c19
                clear c19
                have H' := mk0 H
                clear H
                obtain ⟨Ao31, co31, eo31⟩ := Kd.R_slice HO_7.out
                subst eo31
                go_wp2
                go_roundg k4
                case measure => have := HJ2.out; have := HK2.out; have := HK3.out; have := HK4.out; omega
                case rel => exact ⟨(x7_4), (wrap64 (x8_3 + 1)), uJ, H', ⟨uE⟩, ⟨rB HO_7.out⟩, ⟨ut⟩⟩
            ·rw [if_neg c18] at H
             have c18b0 : decide (x8_3 < (l0.length : Int)) = false := decide_eq_false c18
             clear c18
             simp only [Option.some.injEq, Prod.mk.injEq] at H
             obtain ⟨rfl, rfl⟩ := H
             have hcv32 := own_string (P := Try.prog) Try.underlying66 Try.underlying5 Try.underlying9 (Kd.own_of_R HO_7.out)
             go_wp2
             go_ret2
             exact ⟨uz, ut⟩
         ·rw [if_neg c15] at H
          exact absurd H qa
        ·rw [if_neg c14] at H
         exact absurd H qa
       ·rw [if_neg c13] at H
        exact absurd H qa
end Go.Proofs.Ytaahnicjjpddjaa.GRef
