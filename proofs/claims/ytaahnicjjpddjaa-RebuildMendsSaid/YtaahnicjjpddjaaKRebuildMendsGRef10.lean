/- Functions of the program as Lean functions, each with a proof that its call comes to what the function says. No condition. -/
import Derived.Test.YtaahnicjjpddjaaKRebuildMendsGRef3
namespace Go.Proofs.Ytaahnicjjpddjaa.GRef
open Go.Proofs.Ytaahnicjjpddjaa.Fn
open Go.Proofs.Ytaahnicjjpddjaa
open Go.RowKit Go.Proofs.YtaahnicjjpddjaaW.PrintWords Go.Proofs.YtaahnicjjpddjaaW.PrintLast Go.Proofs.YtaahnicjjpddjaaW.PrintMore
attribute [local go_sem] max2_int min2_int max_two min_two max_three min_three max_four min_four   -- for this text's walks alone
set_option linter.unusedVariables false
set_option linter.unusedSimpArgs false
def ossuaryref1_ShapeMay.f (a0_0 : Int) (a0_1 : Int) : Option (Bool) := if a0_0 ≥ 1 then (if a0_0 ≤ 4 then (if a0_1 ≥ 0 then (some (decide (a0_1 ≤ 2))) else (some false)) else (some false)) else (some false)
set_option maxHeartbeats 8000000 in
set_option maxRecDepth 100000 in
theorem ossuaryref1_ShapeMay.calls (a0_0 : Int) (a0_1 : Int) (r : Bool) (w : World) (h : ossuaryref1_ShapeMay.f a0_0 a0_1 = some r) :
  Calls Try.prog 46 #[.agg #[.int .i64 a0_0, .int .i64 a0_1]] w fun e w' => e = .returned (.bool r) ∧ Below w.heap.size w w' := by
 have hu51 := Try.underlying51
 have HB := mk0 (Below.refl w.heap.size w)
 have H : (if a0_0 ≥ 1 then (if a0_0 ≤ 4 then (if a0_1 ≥ 0 then (some (decide (a0_1 ≤ 2))) else (some false)) else (some false)) else (some false)) = some r := h
 clear h
 by_cases c2 : a0_0 ≥ 1
 ·rw [if_pos c2] at H
  have c2b0 : decide (1 ≤ a0_0) = true := decide_eq_true c2
  clear c2
  by_cases c3 : a0_0 ≤ 4
  ·rw [if_pos c3] at H
   have c3b0 : decide (a0_0 ≤ 4) = true := decide_eq_true c3
   clear c3
   by_cases c4 : a0_1 ≥ 0
   ·rw [if_pos c4] at H
    have c4b0 : decide (0 ≤ a0_1) = true := decide_eq_true c4
    clear c4
    obtain rfl := Option.some.inj H
    go_enter Try.func46, Try.ntmps46
    go_wp2_with (first | ((with_reducible refine gate_dst (N := 1) rfl ?_); refine box_event uW (N := 1) uW (cs := #[.int .i64 a0_0, .int .i64 a0_1]) (t := 51) uL ?_; intro gb263 hg w5 hbox hb; have BK263 := mk0 (hbox); have GW263 := mk0 (nB hg HB); have GE263 := mk0 (nB hg HB); replace HB := mk0 (below_step ut hb); clear hb hbox hg; have hcz6_0 : w5.cell? ⟨gb263, 0, none⟩ = some (.int .i64 a0_0) := (blk_cell BK263.out 0).trans rfl; have hcz6_1 : w5.cell? ⟨gb263, 1, none⟩ = some (.int .i64 a0_1) := (blk_cell BK263.out 1).trans rfl; have hfz6_0 := blk_frozen BK263.out 0; have hfz6_1 := blk_frozen BK263.out 1))
    go_ret
    exact ⟨uz, uX⟩
   ·rw [if_neg c4] at H
    have c4b0 : decide (0 ≤ a0_1) = false := decide_eq_false c4
    clear c4
    obtain rfl := Option.some.inj H
    go_enter Try.func46, Try.ntmps46
    go_wp2_with (first | ((with_reducible refine gate_dst (N := 1) rfl ?_); refine box_event uW (N := 1) uW (cs := #[.int .i64 a0_0, .int .i64 a0_1]) (t := 51) uL ?_; intro gb263 hg w7 hbox hb; have BK263 := mk0 (hbox); have GW263 := mk0 (nB hg HB); have GE263 := mk0 (nB hg HB); replace HB := mk0 (below_step ut hb); clear hb hbox hg; have hcz8_0 : w7.cell? ⟨gb263, 0, none⟩ = some (.int .i64 a0_0) := (blk_cell BK263.out 0).trans rfl; have hcz8_1 : w7.cell? ⟨gb263, 1, none⟩ = some (.int .i64 a0_1) := (blk_cell BK263.out 1).trans rfl; have hfz8_0 := blk_frozen BK263.out 0; have hfz8_1 := blk_frozen BK263.out 1))
    go_ret
    exact ⟨uz, uX⟩
  ·rw [if_neg c3] at H
   have c3b0 : decide (a0_0 ≤ 4) = false := decide_eq_false c3
   clear c3
   obtain rfl := Option.some.inj H
   go_enter Try.func46, Try.ntmps46
   go_wp2_with (first | ((with_reducible refine gate_dst (N := 1) rfl ?_); refine box_event uW (N := 1) uW (cs := #[.int .i64 a0_0, .int .i64 a0_1]) (t := 51) uL ?_; intro gb263 hg w9 hbox hb; have BK263 := mk0 (hbox); have GW263 := mk0 (nB hg HB); have GE263 := mk0 (nB hg HB); replace HB := mk0 (below_step ut hb); clear hb hbox hg; have hcz10_0 : w9.cell? ⟨gb263, 0, none⟩ = some (.int .i64 a0_0) := (blk_cell BK263.out 0).trans rfl; have hcz10_1 : w9.cell? ⟨gb263, 1, none⟩ = some (.int .i64 a0_1) := (blk_cell BK263.out 1).trans rfl; have hfz10_0 := blk_frozen BK263.out 0; have hfz10_1 := blk_frozen BK263.out 1))
   go_ret
   exact ⟨uz, uX⟩
 ·rw [if_neg c2] at H
  have c2b0 : decide (1 ≤ a0_0) = false := decide_eq_false c2
  clear c2
  obtain rfl := Option.some.inj H
  go_enter Try.func46, Try.ntmps46
  go_wp2_with (first | ((with_reducible refine gate_dst (N := 1) rfl ?_); refine box_event uW (N := 1) uW (cs := #[.int .i64 a0_0, .int .i64 a0_1]) (t := 51) uL ?_; intro gb263 hg w11 hbox hb; have BK263 := mk0 (hbox); have GW263 := mk0 (nB hg HB); have GE263 := mk0 (nB hg HB); replace HB := mk0 (below_step ut hb); clear hb hbox hg; have hcz12_0 : w11.cell? ⟨gb263, 0, none⟩ = some (.int .i64 a0_0) := (blk_cell BK263.out 0).trans rfl; have hcz12_1 : w11.cell? ⟨gb263, 1, none⟩ = some (.int .i64 a0_1) := (blk_cell BK263.out 1).trans rfl; have hfz12_0 := blk_frozen BK263.out 0; have hfz12_1 := blk_frozen BK263.out 1))
  go_ret
  exact ⟨uz, uX⟩
mutual
def ossuaryref1_Pow.j0 : Nat → Int → Int → Bool → Option (Int × Int)
 | 0, _, _, _ => none
 | k + 1, x0, x1, x18 => if x18 = true then (some (0, 100)) else (ossuaryref1_Pow.l0 k x0 x1 1 0)
def ossuaryref1_Pow.l0 : Nat → Int → Int → Int → Int → Option (Int × Int)
 | 0, _, _, _, _ => none
 | k + 1, x0, x1, x6, x7 => if x7 < x1 then ((ossuaryref1_mul.f k x6 x0).bind fun t265 => (ossuaryref1_Pow.l0 k x0 x1 t265 (wrap64 (x7 + 1)))) else (some (x6, 0))
end
def ossuaryref1_Pow.f (k : Nat) (a0 : Int) (a1 : Int) : Option (Int × Int) := (ossuaryref1_byteNum.f a0).bind fun t264 => (if t264 = true then (if a1 < 0 then (ossuaryref1_Pow.j0 k a0 a1 true) else (ossuaryref1_Pow.j0 k a0 a1 (decide (a1 > 1000)))) else (ossuaryref1_Pow.j0 k a0 a1 true))
theorem ossuaryref1_Pow.mono_l : ∀ k, (∀ y0 y1 y2, LeO (ossuaryref1_Pow.j0 k y0 y1 y2) (ossuaryref1_Pow.j0 (k + 1) y0 y1 y2)) ∧ (∀ y0 y1 y2 y3, LeO (ossuaryref1_Pow.l0 k y0 y1 y2 y3) (ossuaryref1_Pow.l0 (k + 1) y0 y1 y2 y3))
 | 0 => ⟨fun _ _ _ r h => by simp [ossuaryref1_Pow.j0] at h, fun _ _ _ _ r h => by simp [ossuaryref1_Pow.l0] at h⟩
 | k + 1 => by
  obtain ⟨ih0, ih1⟩ := ossuaryref1_Pow.mono_l k
  refine ⟨?_, ?_⟩
  ·intro y0 y1 y2
   unfold ossuaryref1_Pow.j0
   repeat' with_reducible first | exact ih0 _ _ _ | exact ih1 _ _ _ _ | exact ossuaryref1_mul.mono _ _ _ | exact LeO.refl _ | exact LeO.none _ | refine LeO.ite ?_ ?_ | refine LeO.bind ?_ (fun _ => ?_)
  ·intro y0 y1 y2 y3
   unfold ossuaryref1_Pow.l0
   repeat' with_reducible first | exact ih0 _ _ _ | exact ih1 _ _ _ _ | exact ossuaryref1_mul.mono _ _ _ | exact LeO.refl _ | exact LeO.none _ | refine LeO.ite ?_ ?_ | refine LeO.bind ?_ (fun _ => ?_)
theorem ossuaryref1_Pow.mono : ∀ a0 a1 k, LeO (ossuaryref1_Pow.f k a0 a1) (ossuaryref1_Pow.f (k + 1) a0 a1) := by
 intro a0 a1 k
 obtain ⟨ih0, ih1⟩ := ossuaryref1_Pow.mono_l k
 unfold ossuaryref1_Pow.f
 repeat' with_reducible first | exact ih0 _ _ _ | exact ih1 _ _ _ _ | exact ossuaryref1_mul.mono _ _ _ | exact LeO.refl _ | exact LeO.none _ | refine LeO.ite ?_ ?_ | refine LeO.bind ?_ (fun _ => ?_)
set_option maxHeartbeats 8000000 in
set_option maxRecDepth 100000 in
theorem ossuaryref1_Pow.calls (k : Nat) (a0 : Int) (a1 : Int) (r1 : Int) (r2 : Int) (w : World) (h : ossuaryref1_Pow.f k a0 a1 = some (r1, r2)) :
  Calls Try.prog 88 #[.int .i64 a0, .int .i64 a1] w fun e w' => e = .returned (.tuple #[.int .i64 r1, .int .i64 r2]) ∧ Drawn0 w w' := by
 have H : ((ossuaryref1_byteNum.f a0).bind fun t264 => (if t264 = true then (if a1 < 0 then (ossuaryref1_Pow.j0 k a0 a1 true) else (ossuaryref1_Pow.j0 k a0 a1 (decide (a1 > 1000)))) else (ossuaryref1_Pow.j0 k a0 a1 true))) = some (r1, r2) := h
 clear h
 have HC3 := mk0 H
 clear H
 go_enter Try.func88, Try.ntmps88
 go_upto_region 1 with (fail)
 go_cut [18] (fun v18 wc => ∃ (kq : Nat) (x18_2 : Bool), v18 = .bool x18_2 ∧ Aside0 (ossuaryref1_Pow.j0 kq a0 a1 x18_2 = some (r1, r2)) ∧ Aside0 (kq ≤ k) ∧ Drawn0 w wc)
 case first =>
  have H := HC3.out
  clear HC3
  replace H := Option.bind_eq_some_iff.mp H
  obtain ⟨t264, A40, H⟩ := H
  replace H : (if t264 = true then (if a1 < 0 then (ossuaryref1_Pow.j0 k a0 a1 true) else (ossuaryref1_Pow.j0 k a0 a1 (decide (a1 > 1000)))) else (ossuaryref1_Pow.j0 k a0 a1 true)) = some (r1, r2) := H
  have A4 := mk0 A40
  clear A40
  by_cases c5 : t264 = true
  ·subst c5
   have H1 : (if a1 < 0 then (ossuaryref1_Pow.j0 k a0 a1 true) else (ossuaryref1_Pow.j0 k a0 a1 (decide (a1 > 1000)))) = some (r1, r2) := by rw [if_pos rfl] at H; exact H
   clear H
   have H := H1
   clear H1
   by_cases c6 : a1 < 0
   ·rw [if_pos c6] at H
    have c6b0 : decide (a1 < 0) = true := decide_eq_true c6
    clear c6
    (first | rw [c6b0] | (simp only [i64_w, i32_w]; rw [c6b0]) | skip)
    have H' := mk0 H
    clear H
    go_wp2_with (first | ((with_reducible refine gate_callee (f := 75) rfl ?_); refine goesL_ (some 9) rfl rfl Try.func75 uT rfl #[.int .i64 a0] rfl uk ?_; (with_reducible refine (ossuaryref1_byteNum.calls a0 true _ A4.out).mono ?_); rintro e w' ⟨rfl, ⟨nd, rfl⟩⟩; refine ⟨_, rfl, ?_⟩))
    go_meet
    case rel => exact ⟨_, (true), uJ, H', ⟨uO⟩, uG⟩
   ·rw [if_neg c6] at H
    have c6b0 : decide (a1 < 0) = false := decide_eq_false c6
    clear c6
    (first | rw [c6b0] | (simp only [i64_w, i32_w]; rw [c6b0]) | skip)
    have H' := mk0 H
    clear H
    go_wp2_with (first | ((with_reducible refine gate_callee (f := 75) rfl ?_); refine goesL_ (some 9) rfl rfl Try.func75 uT rfl #[.int .i64 a0] rfl uk ?_; (with_reducible refine (ossuaryref1_byteNum.calls a0 true _ A4.out).mono ?_); rintro e w' ⟨rfl, ⟨nd, rfl⟩⟩; refine ⟨_, rfl, ?_⟩))
    go_meet
    case rel => exact ⟨_, (decide (a1 > 1000)), uJ, H', ⟨uO⟩, uG⟩
  ·replace c5 := Bool.eq_false_iff.mpr c5
   subst c5
   have H1 : (ossuaryref1_Pow.j0 k a0 a1 true) = some (r1, r2) := by rw [if_neg (show ¬ (false = true) by decide)] at H; exact H
   clear H
   have H := H1
   clear H1
   have H' := mk0 H
   clear H
   go_wp2_with (first | ((with_reducible refine gate_callee (f := 75) rfl ?_); refine goesL_ (some 9) rfl rfl Try.func75 uT rfl #[.int .i64 a0] rfl uk ?_; (with_reducible refine (ossuaryref1_byteNum.calls a0 false _ A4.out).mono ?_); rintro e w' ⟨rfl, ⟨nd, rfl⟩⟩; refine ⟨_, rfl, ?_⟩))
   go_meet
   case rel => exact ⟨_, (true), uJ, H', ⟨uO⟩, uG⟩
 case rest =>
  clear HC3
  try clear p2
  try clear c5
  try clear c6
  try clear c6b0
  obtain ⟨kq, x18_2, rfl, HA, HJ2, ⟨mc2, rfl⟩⟩ := hcut
  cases kq with
  | zero => exact absurd HA.out (by simp [ossuaryref1_Pow.j0])
  | succ kj2 =>
   have H := HA.out
   clear HA
   simp only [ossuaryref1_Pow.j0] at H
   by_cases c7 : x18_2 = true
   ·subst c7
    have H1 : (some (0, 100)) = some (r1, r2) := by rw [if_pos rfl] at H; exact H
    clear H
    have H := H1
    clear H1
    simp only [Option.some.injEq, Prod.mk.injEq] at H
    obtain ⟨rfl, rfl⟩ := H
    go_wp2
    go_ret2
    exact ⟨uJ, uG⟩
   ·replace c7 := Bool.eq_false_iff.mpr c7
    subst c7
    have H1 : (ossuaryref1_Pow.l0 kj2 a0 a1 1 0) = some (r1, r2) := by rw [if_neg (show ¬ (false = true) by decide)] at H; exact H
    clear H
    have H := H1
    clear H1
    have H' := mk0 H
    clear H
    go_wp2
    go_loopg [6, 7] kj2 (fun kq v6 v7 w' => ∃ (x6_2 : Int) (x7_2 : Int), v6 = .int .i64 x6_2 ∧ v7 = .int .i64 x7_2 ∧ Aside0 (ossuaryref1_Pow.l0 kq a0 a1 x6_2 x7_2 = some (r1, r2)) ∧ Aside0 (kq ≤ kj2) ∧ Drawn0 w w')
    case atStart => exact ⟨(1), (0), uJ, uJ, H', ⟨Nat.le_refl _⟩, uG⟩
    case round =>
     clear H'
     try clear c2
     try clear p2
     try clear c5
     try clear c6
     try clear c6b0
     try clear c7
     try clear p2
     obtain ⟨x6_2, x7_2, rfl, rfl, HA, HK2, ⟨m2, rfl⟩⟩ := hrel
     cases gk with
     | zero => exact absurd HA.out (by simp [ossuaryref1_Pow.l0])
     | succ k2 =>
      have H := HA.out
      clear HA
      simp only [ossuaryref1_Pow.l0] at H
      by_cases c8 : x7_2 < a1
      ·rw [if_pos c8] at H
       have c8b0 : decide (x7_2 < a1) = true := decide_eq_true c8
       clear c8
       replace H := Option.bind_eq_some_iff.mp H
       obtain ⟨t265, A90, H⟩ := H
       replace H : (ossuaryref1_Pow.l0 k2 a0 a1 t265 (wrap64 (x7_2 + 1))) = some (r1, r2) := H
       have A9 := mk0 A90
       clear A90
       have H' := mk0 H
       clear H
       go_wp2_with (first | ((with_reducible refine gate_callee (f := 67) rfl ?_); refine goesL_ (some 26) rfl rfl Try.func67 uT rfl #[.int .i64 x6_2, .int .i64 a0] rfl uk ?_; (with_reducible refine (ossuaryref1_mul.calls k2 x6_2 a0 t265 _ A9.out).mono ?_); rintro e w' ⟨rfl, ⟨nd, rfl⟩⟩; refine ⟨_, rfl, ?_⟩))
       go_roundg k2
       case measure => have := HJ2.out; have := HK2.out; omega
       case rel => exact ⟨(t265), (wrap64 (x7_2 + 1)), uJ, uJ, H', ⟨uN⟩, uG⟩
      ·rw [if_neg c8] at H
       have c8b0 : decide (x7_2 < a1) = false := decide_eq_false c8
       clear c8
       simp only [Option.some.injEq, Prod.mk.injEq] at H
       obtain ⟨rfl, rfl⟩ := H
       go_wp2
       go_ret2
       exact ⟨uJ, uG⟩
def vec_Alike.l0 : Nat → List ByteArray → List ByteArray → Int → Int → Option (Bool)
 | 0, _, _, _, _ => none
 | k + 1, x0, x5, x6, x7 => if x7 < x6 then (if 0 ≤ x7 then (if x7 < (x5.length : Int) then (if 0 < (x0.length : Int) then (if ((rdOf ByteArray.empty x5 x7).size : Int) = ((rdOf ByteArray.empty x0 0).size : Int) then (if ((rdOf ByteArray.empty x5 x7).size : Int) > 4096 then (some false) else (vec_Alike.l0 k x0 x5 x6 (wrap64 (x7 + 1)))) else (some false)) else (none)) else (none)) else (none)) else (some true)
def vec_Alike.f (k : Nat) (l0 : List ByteArray) : Option (Bool) := vec_Alike.l0 k l0 l0 (l0.length : Int) 0
theorem vec_Alike.mono_l : ∀ k, (∀ y0 y1 y2 y3, LeO (vec_Alike.l0 k y0 y1 y2 y3) (vec_Alike.l0 (k + 1) y0 y1 y2 y3))
 | 0 => fun _ _ _ _ r h => by simp [vec_Alike.l0] at h
 | k + 1 => by
  have ih0 := vec_Alike.mono_l k
  ·intro y0 y1 y2 y3
   unfold vec_Alike.l0
   repeat' with_reducible first | exact ih0 _ _ _ _ | exact LeO.refl _ | exact LeO.none _ | refine LeO.ite ?_ ?_ | refine LeO.bind ?_ (fun _ => ?_)
theorem vec_Alike.mono : ∀ a0 k, LeO (vec_Alike.f k a0) (vec_Alike.f (k + 1) a0) := by
 intro a0 k
 have ih0 := vec_Alike.mono_l k
 unfold vec_Alike.f
 repeat' with_reducible first | exact ih0 _ _ _ _ | exact LeO.refl _ | exact LeO.none _ | refine LeO.ite ?_ ?_ | refine LeO.bind ?_ (fun _ => ?_)
set_option maxHeartbeats 8000000 in
set_option maxRecDepth 100000 in
theorem vec_Alike.calls (k : Nat) (A0 : Option Addr) (c0 : Nat) (l0 : List ByteArray) (r : Bool) (w : World) (hr0 : Kd.C Kd.string w A0 l0.length l0) (hc0 : l0.length ≤ c0) (h : vec_Alike.f k l0 = some r) :
  Calls Try.prog 89 #[.slice A0 l0.length c0] w fun e w' => e = .returned (.bool r) ∧ Drawn0 w w' := by
 have HR0 := mk0 hr0
 have HC0 := mk0 hc0
 clear hr0 hc0
 have H : (vec_Alike.l0 k l0 l0 (l0.length : Int) 0) = some r := h
 clear h
 have H' := mk0 H
 clear H
 go_enter Try.func89, Try.ntmps89
 go_wp2
 go_loopg [7] k (fun kq v7 w' => ∃ (x7_1 : Int), v7 = .int .i64 x7_1 ∧ Aside0 (vec_Alike.l0 kq l0 l0 (l0.length : Int) x7_1 = some r) ∧ Aside0 (kq ≤ k) ∧ Drawn0 w w')
 case atStart => exact ⟨(0), uJ, H', ⟨Nat.le_refl _⟩, uG⟩
 case round =>
  clear H'
  obtain ⟨x7_1, rfl, HA, HK1, ⟨m1, rfl⟩⟩ := hrel
  cases gk with
  | zero => exact absurd HA.out (by simp [vec_Alike.l0])
  | succ k1 =>
   have H := HA.out
   clear HA
   simp only [vec_Alike.l0] at H
   by_cases c2 : x7_1 < (l0.length : Int)
   ·rw [if_pos c2] at H
    have c2b0 : decide (x7_1 < (l0.length : Int)) = true := decide_eq_true c2
    clear c2
    by_cases c3 : 0 ≤ x7_1
    ·rw [if_pos c3] at H
     have c3b0 : decide (0 ≤ x7_1) = true := decide_eq_true c3
     clear c3
     by_cases c4 : x7_1 < (l0.length : Int)
     ·rw [if_pos c4] at H
      have c4b0 : decide (x7_1 < (l0.length : Int)) = true := decide_eq_true c4
      clear c4
      by_cases c5 : 0 < (l0.length : Int)
      ·rw [if_pos c5] at H
       have c5b0 : decide (0 < (l0.length : Int)) = true := decide_eq_true c5
       have c5b1 : decide (0 < l0.length) = true := decide_eq_true uV
       clear c5
       by_cases c6 : ((rdOf ByteArray.empty l0 x7_1).size : Int) = ((rdOf ByteArray.empty l0 0).size : Int)
       ·rw [if_pos c6] at H
        have c6b0 : (((rdOf ByteArray.empty l0 x7_1).size : Int) == ((rdOf ByteArray.empty l0 0).size : Int)) = true := beq_iff_eq.mpr c6
        have c6b1 : (((rdOf ByteArray.empty l0 x7_1).size : Int) != ((rdOf ByteArray.empty l0 0).size : Int)) = false := bne_eq_false_iff_eq.mpr c6
        have c6b2 : ((rdOf ByteArray.empty l0 x7_1).size == (rdOf ByteArray.empty l0 0).size) = true := by first | simpa using c6 | (simp at c6 ⊢; omega)
        clear c6
        by_cases c7 : ((rdOf ByteArray.empty l0 x7_1).size : Int) > 4096
        ·rw [if_pos c7] at H
         have c7b0 : decide (4096 < ((rdOf ByteArray.empty l0 x7_1).size : Int)) = true := decide_eq_true c7
         have c7b1 : decide (4096 < (rdOf ByteArray.empty l0 x7_1).size) = true := decide_eq_true uV
         clear c7
         obtain rfl := Option.some.inj H
         have p278 : 0 ≤ (x7_1 : Int) := of_decide_eq_true uI
         have q278 : x7_1 < (l0.length : Int) := of_decide_eq_true uI
         obtain ⟨ad278, e278, hx278_0⟩ := Kd.at_string HR0.out x7_1 p278 q278
         cases e278
         replace p278 := eq_true p278
         replace q278 := eq_true q278
         have p279 : 0 ≤ (0 : Int) := uV
         have q279 : 0 < (l0.length : Int) := of_decide_eq_true uI
         obtain ⟨ad279, e279, hx279_0⟩ := Kd.at_string HR0.out 0 p279 q279
         obtain rfl : ad278 = ad279 := (by injection e279)
         have qi279 : (0 < l0.length) = True := eq_true uV
         (try rw [show ((0 : Int)).toNat = 0 from rfl] at hx279_0)
         (try rw [Addr.add_zero'] at hx279_0)
         replace p279 := eq_true p279
         replace q279 := eq_true q279
         go_wp2
         go_ret
         exact ⟨uJ, uG⟩
        ·rw [if_neg c7] at H
         have c7b0 : decide (4096 < ((rdOf ByteArray.empty l0 x7_1).size : Int)) = false := decide_eq_false c7
         have c7b1 : decide (4096 < (rdOf ByteArray.empty l0 x7_1).size) = false := decide_eq_false uV
         clear c7
         have H' := mk0 H
         clear H
         have p278 : 0 ≤ (x7_1 : Int) := of_decide_eq_true uI
         have q278 : x7_1 < (l0.length : Int) := of_decide_eq_true uI
         obtain ⟨ad278, e278, hx278_0⟩ := Kd.at_string HR0.out x7_1 p278 q278
         cases e278
         replace p278 := eq_true p278
         replace q278 := eq_true q278
         have p279 : 0 ≤ (0 : Int) := uV
         have q279 : 0 < (l0.length : Int) := of_decide_eq_true uI
         obtain ⟨ad279, e279, hx279_0⟩ := Kd.at_string HR0.out 0 p279 q279
         obtain rfl : ad278 = ad279 := (by injection e279)
         have qi279 : (0 < l0.length) = True := eq_true uV
         (try rw [show ((0 : Int)).toNat = 0 from rfl] at hx279_0)
         (try rw [Addr.add_zero'] at hx279_0)
         replace p279 := eq_true p279
         replace q279 := eq_true q279
         go_wp2
         go_roundg k1
         case measure => have := HK1.out; omega
         case rel => exact ⟨(wrap64 (x7_1 + 1)), uJ, H', ⟨uQ⟩, uG⟩
       ·rw [if_neg c6] at H
        have c6b0 : (((rdOf ByteArray.empty l0 x7_1).size : Int) == ((rdOf ByteArray.empty l0 0).size : Int)) = false := beq_eq_false_iff_ne.mpr c6
        have c6b1 : (((rdOf ByteArray.empty l0 x7_1).size : Int) != ((rdOf ByteArray.empty l0 0).size : Int)) = true := bne_iff_ne.mpr c6
        have c6b2 : ((rdOf ByteArray.empty l0 x7_1).size == (rdOf ByteArray.empty l0 0).size) = false := by first | simpa using c6 | (simp at c6 ⊢; omega)
        obtain rfl := Option.some.inj H
        have p278 : 0 ≤ (x7_1 : Int) := of_decide_eq_true uI
        have q278 : x7_1 < (l0.length : Int) := of_decide_eq_true uI
        obtain ⟨ad278, e278, hx278_0⟩ := Kd.at_string HR0.out x7_1 p278 q278
        cases e278
        replace p278 := eq_true p278
        replace q278 := eq_true q278
        have p279 : 0 ≤ (0 : Int) := uV
        have q279 : 0 < (l0.length : Int) := of_decide_eq_true uI
        obtain ⟨ad279, e279, hx279_0⟩ := Kd.at_string HR0.out 0 p279 q279
        obtain rfl : ad278 = ad279 := (by injection e279)
        have qi279 : (0 < l0.length) = True := eq_true uV
        (try rw [show ((0 : Int)).toNat = 0 from rfl] at hx279_0)
        (try rw [Addr.add_zero'] at hx279_0)
        replace p279 := eq_true p279
        replace q279 := eq_true q279
        go_wp2
        go_ret
        exact ⟨uJ, uG⟩
      ·rw [if_neg c5] at H
       exact absurd H qa
     ·rw [if_neg c4] at H
      exact absurd H qa
    ·rw [if_neg c3] at H
     exact absurd H qa
   ·rw [if_neg c2] at H
    have c2b0 : decide (x7_1 < (l0.length : Int)) = false := decide_eq_false c2
    clear c2
    obtain rfl := Option.some.inj H
    go_wp2
    go_ret
    exact ⟨uJ, uG⟩
end Go.Proofs.Ytaahnicjjpddjaa.GRef
