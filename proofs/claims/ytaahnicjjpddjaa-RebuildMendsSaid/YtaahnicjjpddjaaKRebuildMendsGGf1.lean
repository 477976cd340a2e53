/- Functions of the program as Lean functions, each with a proof that its call comes to what the function says. No condition. -/
import Derived.Test.YtaahnicjjpddjaaKRebuildMendsGGf0
namespace Go.Proofs.Ytaahnicjjpddjaa.GGf
open Go.RowKit Go.Proofs.YtaahnicjjpddjaaW.PrintWords Go.Proofs.YtaahnicjjpddjaaW.PrintLast
set_option linter.unusedVariables false
set_option linter.unusedSimpArgs false
def gf_Is.f (a0 : Int) : Option (Bool) := if a0 ≥ 0 then (some (decide (a0 < 256))) else (some false)
set_option maxHeartbeats 8000000 in
set_option maxRecDepth 100000 in
theorem gf_Is.calls (a0 : Int) (r : Bool) (w : World) (h : gf_Is.f a0 = some r) :
  Calls Try.prog 74 #[.int .i64 a0] w fun e w' => e = .returned (.bool r) ∧ Drawn0 w w' := by
 have H : (if a0 ≥ 0 then (some (decide (a0 < 256))) else (some false)) = some r := h
 clear h
 by_cases c2 : a0 ≥ 0
 ·rw [if_pos c2] at H
  have c2b0 : decide (0 ≤ a0) = true := decide_eq_true c2
  clear c2
  obtain rfl := Option.some.inj H
  go_enter Try.func74, Try.ntmps74
  go_wp2
  go_ret
  exact ⟨uJ, uG⟩
 ·rw [if_neg c2] at H
  have c2b0 : decide (0 ≤ a0) = false := decide_eq_false c2
  clear c2
  obtain rfl := Option.some.inj H
  go_enter Try.func74, Try.ntmps74
  go_wp2
  go_ret
  exact ⟨uJ, uG⟩
def gf_Times.l0 : Nat → Int → Int → Int → Option (Int)
 | 0, _, _, _ => none
 | k + 1, x0, x1, x5 => if x1 > 0 then (if (Go.bits .and .i64 x1 1) = 1 then (if (wrap64 (x0 * 2)) ≥ 256 then (gf_Times.l0 k (Go.bits .xor .i64 (wrap64 (x0 * 2)) 285) (x1 / 2) (Go.bits .xor .i64 x5 x0)) else (gf_Times.l0 k (wrap64 (x0 * 2)) (x1 / 2) (Go.bits .xor .i64 x5 x0))) else (if (wrap64 (x0 * 2)) ≥ 256 then (gf_Times.l0 k (Go.bits .xor .i64 (wrap64 (x0 * 2)) 285) (x1 / 2) x5) else (gf_Times.l0 k (wrap64 (x0 * 2)) (x1 / 2) x5))) else (some x5)
def gf_Times.f (k : Nat) (a0 : Int) (a1 : Int) : Option (Int) := gf_Times.l0 k a0 a1 0
theorem gf_Times.mono_l : ∀ k, (∀ y0 y1 y2, LeO (gf_Times.l0 k y0 y1 y2) (gf_Times.l0 (k + 1) y0 y1 y2))
 | 0 => fun _ _ _ r h => by simp [gf_Times.l0] at h
 | k + 1 => by
  have ih0 := gf_Times.mono_l k
  ·intro y0 y1 y2
   unfold gf_Times.l0
   repeat' with_reducible first | exact ih0 _ _ _ | exact LeO.refl _ | exact LeO.none _ | refine LeO.ite ?_ ?_ | refine LeO.bind ?_ (fun _ => ?_)
theorem gf_Times.mono : ∀ a0 a1 k, LeO (gf_Times.f k a0 a1) (gf_Times.f (k + 1) a0 a1) := by
 intro a0 a1 k
 have ih0 := gf_Times.mono_l k
 unfold gf_Times.f
 repeat' with_reducible first | exact ih0 _ _ _ | exact LeO.refl _ | exact LeO.none _ | refine LeO.ite ?_ ?_ | refine LeO.bind ?_ (fun _ => ?_)
set_option maxHeartbeats 8000000 in
set_option maxRecDepth 100000 in
theorem gf_Times.calls (k : Nat) (a0 : Int) (a1 : Int) (r : Int) (w : World) (h : gf_Times.f k a0 a1 = some r) :
  Calls Try.prog 65 #[.int .i64 a0, .int .i64 a1] w fun e w' => e = .returned (.int .i64 r) ∧ Drawn0 w w' := by
 have H : (gf_Times.l0 k a0 a1 0) = some r := h
 clear h
 have H' := mk0 H
 clear H
 go_enter Try.func65, Try.ntmps65
 go_wp2
 go_loopg [0, 1, 5] k (fun kq v0 v1 v5 w' => ∃ (x0_1 : Int) (x1_1 : Int) (x5_1 : Int), v0 = .int .i64 x0_1 ∧ v1 = .int .i64 x1_1 ∧ v5 = .int .i64 x5_1 ∧ Aside0 (gf_Times.l0 kq x0_1 x1_1 x5_1 = some r) ∧ Aside0 (kq ≤ k) ∧ Drawn0 w w')
 case atStart => exact ⟨(a0), (a1), (0), uJ, uJ, uJ, H', ⟨Nat.le_refl _⟩, uG⟩
 case round =>
  clear H'
  try clear p2
  obtain ⟨x0_1, x1_1, x5_1, rfl, rfl, rfl, HA, HK1, ⟨m1, rfl⟩⟩ := hrel
  cases gk with
  | zero => exact absurd HA.out (by simp [gf_Times.l0])
  | succ k1 =>
   have H := HA.out
   clear HA
   simp only [gf_Times.l0] at H
   by_cases c3 : x1_1 > 0
   ·rw [if_pos c3] at H
    have c3b0 : decide (0 < x1_1) = true := decide_eq_true c3
    clear c3
    by_cases c4 : (Go.bits .and .i64 x1_1 1) = 1
    ·rw [if_pos c4] at H
     have c4b0 : ((Go.bits .and .i64 x1_1 1) == 1) = true := beq_iff_eq.mpr c4
     have c4b1 : ((Go.bits .and .i64 x1_1 1) != 1) = false := bne_eq_false_iff_eq.mpr c4
     clear c4
     by_cases c5 : (wrap64 (x0_1 * 2)) ≥ 256
     ·rw [if_pos c5] at H
      have c5b0 : decide (256 ≤ (wrap64 (x0_1 * 2))) = true := decide_eq_true c5
      clear c5
      have H' := mk0 H
      clear H
      go_wp2
      go_roundg k1
      case measure => have := HK1.out; omega
      case rel => exact ⟨(Go.bits .xor .i64 (wrap64 (x0_1 * 2)) 285), (x1_1 / 2), (Go.bits .xor .i64 x5_1 x0_1), uJ, uJ, uJ, H', ⟨uQ⟩, uG⟩
     ·rw [if_neg c5] at H
      have c5b0 : decide (256 ≤ (wrap64 (x0_1 * 2))) = false := decide_eq_false c5
      clear c5
      have H' := mk0 H
      clear H
      go_wp2
      go_roundg k1
      case measure => have := HK1.out; omega
      case rel => exact ⟨(wrap64 (x0_1 * 2)), (x1_1 / 2), (Go.bits .xor .i64 x5_1 x0_1), uJ, uJ, uJ, H', ⟨uQ⟩, uG⟩
    ·rw [if_neg c4] at H
     have c4b0 : ((Go.bits .and .i64 x1_1 1) == 1) = false := beq_eq_false_iff_ne.mpr c4
     have c4b1 : ((Go.bits .and .i64 x1_1 1) != 1) = true := bne_iff_ne.mpr c4
     by_cases c6 : (wrap64 (x0_1 * 2)) ≥ 256
     ·rw [if_pos c6] at H
      have c6b0 : decide (256 ≤ (wrap64 (x0_1 * 2))) = true := decide_eq_true c6
      clear c6
      have H' := mk0 H
      clear H
      go_wp2
      go_roundg k1
      case measure => have := HK1.out; omega
      case rel => exact ⟨(Go.bits .xor .i64 (wrap64 (x0_1 * 2)) 285), (x1_1 / 2), (x5_1), uJ, uJ, uJ, H', ⟨uQ⟩, uG⟩
     ·rw [if_neg c6] at H
      have c6b0 : decide (256 ≤ (wrap64 (x0_1 * 2))) = false := decide_eq_false c6
      clear c6
      have H' := mk0 H
      clear H
      go_wp2
      go_roundg k1
      case measure => have := HK1.out; omega
      case rel => exact ⟨(wrap64 (x0_1 * 2)), (x1_1 / 2), (x5_1), uJ, uJ, uJ, H', ⟨uQ⟩, uG⟩
   ·rw [if_neg c3] at H
    have c3b0 : decide (0 < x1_1) = false := decide_eq_false c3
    clear c3
    obtain rfl := Option.some.inj H
    go_wp2
    go_ret
    exact ⟨uJ, uG⟩
def gf_power.l0 : Nat → Int → Int → Int → Option (Int)
 | 0, _, _, _ => none
 | k + 1, x0, x1, x5 => if x1 > 0 then (if (Go.bits .and .i64 x1 1) = 1 then ((gf_Times.f k x5 x0).bind fun t101 => ((gf_Times.f k x0 x0).bind fun t102 => (gf_power.l0 k t102 (x1 / 2) t101))) else ((gf_Times.f k x0 x0).bind fun t103 => (gf_power.l0 k t103 (x1 / 2) x5))) else (some x5)
def gf_power.f (k : Nat) (a0 : Int) (a1 : Int) : Option (Int) := gf_power.l0 k a0 a1 1
theorem gf_power.mono_l : ∀ k, (∀ y0 y1 y2, LeO (gf_power.l0 k y0 y1 y2) (gf_power.l0 (k + 1) y0 y1 y2))
 | 0 => fun _ _ _ r h => by simp [gf_power.l0] at h
 | k + 1 => by
  have ih0 := gf_power.mono_l k
  ·intro y0 y1 y2
   unfold gf_power.l0
   repeat' with_reducible first | exact ih0 _ _ _ | exact gf_Times.mono _ _ _ | exact LeO.refl _ | exact LeO.none _ | refine LeO.ite ?_ ?_ | refine LeO.bind ?_ (fun _ => ?_)
theorem gf_power.mono : ∀ a0 a1 k, LeO (gf_power.f k a0 a1) (gf_power.f (k + 1) a0 a1) := by
 intro a0 a1 k
 have ih0 := gf_power.mono_l k
 unfold gf_power.f
 repeat' with_reducible first | exact ih0 _ _ _ | exact gf_Times.mono _ _ _ | exact LeO.refl _ | exact LeO.none _ | refine LeO.ite ?_ ?_ | refine LeO.bind ?_ (fun _ => ?_)
set_option maxHeartbeats 8000000 in
set_option maxRecDepth 100000 in
theorem gf_power.calls (k : Nat) (a0 : Int) (a1 : Int) (r : Int) (w : World) (h : gf_power.f k a0 a1 = some r) :
  Calls Try.prog 93 #[.int .i64 a0, .int .i64 a1] w fun e w' => e = .returned (.int .i64 r) ∧ Drawn0 w w' := by
 have H : (gf_power.l0 k a0 a1 1) = some r := h
 clear h
 have H' := mk0 H
 clear H
 go_enter Try.func93, Try.ntmps93
 go_wp2
 go_loopg [0, 1, 5] k (fun kq v0 v1 v5 w' => ∃ (x0_1 : Int) (x1_1 : Int) (x5_1 : Int), v0 = .int .i64 x0_1 ∧ v1 = .int .i64 x1_1 ∧ v5 = .int .i64 x5_1 ∧ Aside0 (gf_power.l0 kq x0_1 x1_1 x5_1 = some r) ∧ Aside0 (kq ≤ k) ∧ Drawn0 w w')
 case atStart => exact ⟨(a0), (a1), (1), uJ, uJ, uJ, H', ⟨Nat.le_refl _⟩, uG⟩
 case round =>
  clear H'
  try clear p2
  obtain ⟨x0_1, x1_1, x5_1, rfl, rfl, rfl, HA, HK1, ⟨m1, rfl⟩⟩ := hrel
  cases gk with
  | zero => exact absurd HA.out (by simp [gf_power.l0])
  | succ k1 =>
   have H := HA.out
   clear HA
   simp only [gf_power.l0] at H
   by_cases c3 : x1_1 > 0
   ·rw [if_pos c3] at H
    have c3b0 : decide (0 < x1_1) = true := decide_eq_true c3
    clear c3
    by_cases c4 : (Go.bits .and .i64 x1_1 1) = 1
    ·rw [if_pos c4] at H
     have c4b0 : ((Go.bits .and .i64 x1_1 1) == 1) = true := beq_iff_eq.mpr c4
     have c4b1 : ((Go.bits .and .i64 x1_1 1) != 1) = false := bne_eq_false_iff_eq.mpr c4
     clear c4
     replace H := Option.bind_eq_some_iff.mp H
     obtain ⟨t101, A50, H⟩ := H
     replace H : ((gf_Times.f k1 x0_1 x0_1).bind fun t102 => (gf_power.l0 k1 t102 (x1_1 / 2) t101)) = some r := H
     have A5 := mk0 A50
     clear A50
     replace H := Option.bind_eq_some_iff.mp H
     obtain ⟨t102, A60, H⟩ := H
     replace H : (gf_power.l0 k1 t102 (x1_1 / 2) t101) = some r := H
     have A6 := mk0 A60
     clear A60
     have H' := mk0 H
     clear H
     go_wp2_with (first | ((with_reducible refine gCa (f := 65) rfl ?_); refine goesL_ (some 15) rfl rfl Try.func65 uT rfl #[.int .i64 x5_1, .int .i64 x0_1] rfl uk ?_; (with_reducible refine (gf_Times.calls k1 x5_1 x0_1 t101 _ A5.out).mono ?_); rintro e w' ⟨rfl, ⟨nd, rfl⟩⟩; refine ⟨_, rfl, ?_⟩) | ((with_reducible refine gCa (f := 65) rfl ?_); refine goesL_ (some 18) rfl rfl Try.func65 uT rfl #[.int .i64 x0_1, .int .i64 x0_1] rfl uk ?_; (with_reducible refine (gf_Times.calls k1 x0_1 x0_1 t102 _ A6.out).mono ?_); rintro e w' ⟨rfl, ⟨nd, rfl⟩⟩; refine ⟨_, rfl, ?_⟩))
     go_roundg k1
     case measure => have := HK1.out; omega
     case rel => exact ⟨(t102), (x1_1 / 2), (t101), uJ, uJ, uJ, H', ⟨uQ⟩, uG⟩
    ·rw [if_neg c4] at H
     have c4b0 : ((Go.bits .and .i64 x1_1 1) == 1) = false := beq_eq_false_iff_ne.mpr c4
     have c4b1 : ((Go.bits .and .i64 x1_1 1) != 1) = true := bne_iff_ne.mpr c4
     replace H := Option.bind_eq_some_iff.mp H
     obtain ⟨t103, A70, H⟩ := H
     replace H : (gf_power.l0 k1 t103 (x1_1 / 2) x5_1) = some r := H
     have A7 := mk0 A70
     clear A70
     have H' := mk0 H
     clear H
     go_wp2_with (first | ((with_reducible refine gCa (f := 65) rfl ?_); refine goesL_ (some 18) rfl rfl Try.func65 uT rfl #[.int .i64 x0_1, .int .i64 x0_1] rfl uk ?_; (with_reducible refine (gf_Times.calls k1 x0_1 x0_1 t103 _ A7.out).mono ?_); rintro e w' ⟨rfl, ⟨nd, rfl⟩⟩; refine ⟨_, rfl, ?_⟩))
     go_roundg k1
     case measure => have := HK1.out; omega
     case rel => exact ⟨(t103), (x1_1 / 2), (x5_1), uJ, uJ, uJ, H', ⟨uQ⟩, uG⟩
   ·rw [if_neg c3] at H
    have c3b0 : decide (0 < x1_1) = false := decide_eq_false c3
    clear c3
    obtain rfl := Option.some.inj H
    go_wp2
    go_ret
    exact ⟨uJ, uG⟩
def gf_Inv.f (k : Nat) (a0 : Int) : Option (Int × Int) := (gf_Is.f a0).bind fun t104 => (if t104 = true then (if a0 = 0 then (some (0, 101)) else ((gf_power.f k a0 254).bind fun t105 => (some (t105, 0)))) else (some (0, 100)))
theorem gf_Inv.mono : ∀ a0 k, LeO (gf_Inv.f k a0) (gf_Inv.f (k + 1) a0) := by
 intro a0 k
 unfold gf_Inv.f
 repeat' with_reducible first | exact gf_power.mono _ _ _ | exact LeO.refl _ | exact LeO.none _ | refine LeO.ite ?_ ?_ | refine LeO.bind ?_ (fun _ => ?_)
set_option maxHeartbeats 8000000 in
set_option maxRecDepth 100000 in
theorem gf_Inv.calls (k : Nat) (a0 : Int) (r1 : Int) (r2 : Int) (w : World) (h : gf_Inv.f k a0 = some (r1, r2)) :
  Calls Try.prog 79 #[.int .i64 a0] w fun e w' => e = .returned (.tuple #[.int .i64 r1, .int .i64 r2]) ∧ Drawn0 w w' := by
 have H : ((gf_Is.f a0).bind fun t104 => (if t104 = true then (if a0 = 0 then (some (0, 101)) else ((gf_power.f k a0 254).bind fun t105 => (some (t105, 0)))) else (some (0, 100)))) = some (r1, r2) := h
 clear h
 replace H := Option.bind_eq_some_iff.mp H
 obtain ⟨t104, A20, H⟩ := H
 replace H : (if t104 = true then (if a0 = 0 then (some (0, 101)) else ((gf_power.f k a0 254).bind fun t105 => (some (t105, 0)))) else (some (0, 100))) = some (r1, r2) := H
 have A2 := mk0 A20
 clear A20
 by_cases c3 : t104 = true
 ·subst c3
  have H1 : (if a0 = 0 then (some (0, 101)) else ((gf_power.f k a0 254).bind fun t105 => (some (t105, 0)))) = some (r1, r2) := by rw [if_pos rfl] at H; exact H
  clear H
  have H := H1
  clear H1
  by_cases c4 : a0 = 0
  ·rw [if_pos c4] at H
   have c4b0 : (a0 == 0) = true := beq_iff_eq.mpr c4
   have c4b1 : (a0 != 0) = false := bne_eq_false_iff_eq.mpr c4
   clear c4
   simp only [Option.some.injEq, Prod.mk.injEq] at H
   obtain ⟨rfl, rfl⟩ := H
   go_enter Try.func79, Try.ntmps79
   go_wp2_with (first | ((with_reducible refine gCa (f := 74) rfl ?_); refine goesL_ (some 6) rfl rfl Try.func74 uT rfl #[.int .i64 a0] rfl uk ?_; (with_reducible refine (gf_Is.calls a0 true _ A2.out).mono ?_); rintro e w' ⟨rfl, ⟨nd, rfl⟩⟩; refine ⟨_, rfl, ?_⟩))
   go_ret2
   exact ⟨uJ, uG⟩
  ·rw [if_neg c4] at H
   have c4b0 : (a0 == 0) = false := beq_eq_false_iff_ne.mpr c4
   have c4b1 : (a0 != 0) = true := bne_iff_ne.mpr c4
   replace H := Option.bind_eq_some_iff.mp H
   obtain ⟨t105, A50, H⟩ := H
   replace H : (some (t105, 0)) = some (r1, r2) := H
   have A5 := mk0 A50
   clear A50
   simp only [Option.some.injEq, Prod.mk.injEq] at H
   obtain ⟨rfl, rfl⟩ := H
   go_enter Try.func79, Try.ntmps79
   go_wp2_with (first | ((with_reducible refine gCa (f := 74) rfl ?_); refine goesL_ (some 6) rfl rfl Try.func74 uT rfl #[.int .i64 a0] rfl uk ?_; (with_reducible refine (gf_Is.calls a0 true _ A2.out).mono ?_); rintro e w' ⟨rfl, ⟨nd, rfl⟩⟩; refine ⟨_, rfl, ?_⟩) | ((with_reducible refine gCa (f := 93) rfl ?_); refine goesL_ (some 12) rfl rfl Try.func93 uT rfl #[.int .i64 a0, .int .i64 254] rfl uk ?_; (with_reducible refine (gf_power.calls k a0 254 t105 _ A5.out).mono ?_); rintro e w' ⟨rfl, ⟨nd, rfl⟩⟩; refine ⟨_, rfl, ?_⟩))
   go_ret2
   exact ⟨uJ, uG⟩
 ·replace c3 := Bool.eq_false_iff.mpr c3
  subst c3
  have H1 : (some (0, 100)) = some (r1, r2) := by rw [if_neg (show ¬ (false = true) by decide)] at H; exact H
  clear H
  have H := H1
  clear H1
  simp only [Option.some.injEq, Prod.mk.injEq] at H
  obtain ⟨rfl, rfl⟩ := H
  go_enter Try.func79, Try.ntmps79
  go_wp2_with (first | ((with_reducible refine gCa (f := 74) rfl ?_); refine goesL_ (some 6) rfl rfl Try.func74 uT rfl #[.int .i64 a0] rfl uk ?_; (with_reducible refine (gf_Is.calls a0 false _ A2.out).mono ?_); rintro e w' ⟨rfl, ⟨nd, rfl⟩⟩; refine ⟨_, rfl, ?_⟩))
  go_ret2
  exact ⟨uJ, uG⟩
def gf_Pow.f (k : Nat) (a0 : Int) (a1 : Int) : Option (Int × Int) := (gf_Is.f a0).bind fun t106 => (if t106 = true then (if a1 < 0 then (some (0, 100)) else (if a1 > 1000 then (some (0, 100)) else ((gf_power.f k a0 a1).bind fun t107 => (some (t107, 0))))) else (some (0, 100)))
theorem gf_Pow.mono : ∀ a0 a1 k, LeO (gf_Pow.f k a0 a1) (gf_Pow.f (k + 1) a0 a1) := by
 intro a0 a1 k
 unfold gf_Pow.f
 repeat' with_reducible first | exact gf_power.mono _ _ _ | exact LeO.refl _ | exact LeO.none _ | refine LeO.ite ?_ ?_ | refine LeO.bind ?_ (fun _ => ?_)
set_option maxHeartbeats 8000000 in
set_option maxRecDepth 100000 in
theorem gf_Pow.calls (k : Nat) (a0 : Int) (a1 : Int) (r1 : Int) (r2 : Int) (w : World) (h : gf_Pow.f k a0 a1 = some (r1, r2)) :
  Calls Try.prog 87 #[.int .i64 a0, .int .i64 a1] w fun e w' => e = .returned (.tuple #[.int .i64 r1, .int .i64 r2]) ∧ Drawn0 w w' := by
 have H : ((gf_Is.f a0).bind fun t106 => (if t106 = true then (if a1 < 0 then (some (0, 100)) else (if a1 > 1000 then (some (0, 100)) else ((gf_power.f k a0 a1).bind fun t107 => (some (t107, 0))))) else (some (0, 100)))) = some (r1, r2) := h
 clear h
 replace H := Option.bind_eq_some_iff.mp H
 obtain ⟨t106, A30, H⟩ := H
 replace H : (if t106 = true then (if a1 < 0 then (some (0, 100)) else (if a1 > 1000 then (some (0, 100)) else ((gf_power.f k a0 a1).bind fun t107 => (some (t107, 0))))) else (some (0, 100))) = some (r1, r2) := H
 have A3 := mk0 A30
 clear A30
 by_cases c4 : t106 = true
 ·subst c4
  have H1 : (if a1 < 0 then (some (0, 100)) else (if a1 > 1000 then (some (0, 100)) else ((gf_power.f k a0 a1).bind fun t107 => (some (t107, 0))))) = some (r1, r2) := by rw [if_pos rfl] at H; exact H
  clear H
  have H := H1
  clear H1
  by_cases c5 : a1 < 0
  ·rw [if_pos c5] at H
   have c5b0 : decide (a1 < 0) = true := decide_eq_true c5
   clear c5
   simp only [Option.some.injEq, Prod.mk.injEq] at H
   obtain ⟨rfl, rfl⟩ := H
   go_enter Try.func87, Try.ntmps87
   go_wp2_with (first | ((with_reducible refine gCa (f := 74) rfl ?_); refine goesL_ (some 7) rfl rfl Try.func74 uT rfl #[.int .i64 a0] rfl uk ?_; (with_reducible refine (gf_Is.calls a0 true _ A3.out).mono ?_); rintro e w' ⟨rfl, ⟨nd, rfl⟩⟩; refine ⟨_, rfl, ?_⟩))
   go_ret2
   exact ⟨uJ, uG⟩
  ·rw [if_neg c5] at H
   have c5b0 : decide (a1 < 0) = false := decide_eq_false c5
   clear c5
   by_cases c6 : a1 > 1000
   ·rw [if_pos c6] at H
    have c6b0 : decide (1000 < a1) = true := decide_eq_true c6
    clear c6
    simp only [Option.some.injEq, Prod.mk.injEq] at H
    obtain ⟨rfl, rfl⟩ := H
    go_enter Try.func87, Try.ntmps87
    go_wp2_with (first | ((with_reducible refine gCa (f := 74) rfl ?_); refine goesL_ (some 7) rfl rfl Try.func74 uT rfl #[.int .i64 a0] rfl uk ?_; (with_reducible refine (gf_Is.calls a0 true _ A3.out).mono ?_); rintro e w' ⟨rfl, ⟨nd, rfl⟩⟩; refine ⟨_, rfl, ?_⟩))
    go_ret2
    exact ⟨uJ, uG⟩
   ·rw [if_neg c6] at H
    have c6b0 : decide (1000 < a1) = false := decide_eq_false c6
    clear c6
    replace H := Option.bind_eq_some_iff.mp H
    obtain ⟨t107, A70, H⟩ := H
    replace H : (some (t107, 0)) = some (r1, r2) := H
    have A7 := mk0 A70
    clear A70
    simp only [Option.some.injEq, Prod.mk.injEq] at H
    obtain ⟨rfl, rfl⟩ := H
    go_enter Try.func87, Try.ntmps87
    go_wp2_with (first | ((with_reducible refine gCa (f := 74) rfl ?_); refine goesL_ (some 7) rfl rfl Try.func74 uT rfl #[.int .i64 a0] rfl uk ?_; (with_reducible refine (gf_Is.calls a0 true _ A3.out).mono ?_); rintro e w' ⟨rfl, ⟨nd, rfl⟩⟩; refine ⟨_, rfl, ?_⟩) | ((with_reducible refine gCa (f := 93) rfl ?_); refine goesL_ (some 19) rfl rfl Try.func93 uT rfl #[.int .i64 a0, .int .i64 a1] rfl uk ?_; (with_reducible refine (gf_power.calls k a0 a1 t107 _ A7.out).mono ?_); rintro e w' ⟨rfl, ⟨nd, rfl⟩⟩; refine ⟨_, rfl, ?_⟩))
    go_ret2
    exact ⟨uJ, uG⟩
 ·replace c4 := Bool.eq_false_iff.mpr c4
  subst c4
  have H1 : (some (0, 100)) = some (r1, r2) := by rw [if_neg (show ¬ (false = true) by decide)] at H; exact H
  clear H
  have H := H1
  clear H1
  simp only [Option.some.injEq, Prod.mk.injEq] at H
  obtain ⟨rfl, rfl⟩ := H
  go_enter Try.func87, Try.ntmps87
  go_wp2_with (first | ((with_reducible refine gCa (f := 74) rfl ?_); refine goesL_ (some 7) rfl rfl Try.func74 uT rfl #[.int .i64 a0] rfl uk ?_; (with_reducible refine (gf_Is.calls a0 false _ A3.out).mono ?_); rintro e w' ⟨rfl, ⟨nd, rfl⟩⟩; refine ⟨_, rfl, ?_⟩))
  go_ret2
  exact ⟨uJ, uG⟩
def gen_May.f (a0_0 : Int) (a0_1 : Int) : Option (Bool) := if a0_0 ≥ 1 then (if a0_0 ≤ 4 then (if a0_1 ≥ 0 then (some (decide (a0_1 ≤ 2))) else (some false)) else (some false)) else (some false)
set_option maxHeartbeats 8000000 in
set_option maxRecDepth 100000 in
theorem gen_May.calls (a0_0 : Int) (a0_1 : Int) (r : Bool) (w : World) (h : gen_May.f a0_0 a0_1 = some r) :
  Calls Try.prog 45 #[.agg #[.int .i64 a0_0, .int .i64 a0_1]] w fun e w' => e = .returned (.bool r) ∧ Below w.heap.size w w' := by
 have hu51 := Try.underlying51
 have HB := mk0 (Below.refl w.heap.size w)
 have H : (if a0_0 ≥ 1 then (if a0_0 ≤ 4 then (if a0_1 ≥ 0 then (some (decide (a0_1 ≤ 2))) else (some false)) else (some false)) else (some false)) = some r := h
 clear h
 by_cases c2 : a0_0 ≥ 1
 ·rw [if_pos c2] at H
  have c2b0 : decide (1 ≤ a0_0) = true := decide_eq_true c2
  clear c2
  by_cases c3 : a0_0 ≤ 4
  ·rw [if_pos c3] at H
   have c3b0 : decide (a0_0 ≤ 4) = true := decide_eq_true c3
   clear c3
   by_cases c4 : a0_1 ≥ 0
   ·rw [if_pos c4] at H
    have c4b0 : decide (0 ≤ a0_1) = true := decide_eq_true c4
    clear c4
    obtain rfl := Option.some.inj H
    go_enter Try.func45, Try.ntmps45
    go_wp2_with (first | ((with_reducible refine gate_dst (N := 1) rfl ?_); refine box_event uW (N := 1) uW (cs := #[.int .i64 a0_0, .int .i64 a0_1]) (t := 51) uL ?_; intro gb108 hg w5 hbox hb; have BK108 := mk0 (hbox); have GW108 := mk0 (nB hg HB); have GE108 := mk0 (nB hg HB); replace HB := mk0 (below_step ut hb); clear hb hbox hg; have hcz6_0 : w5.cell? ⟨gb108, 0, none⟩ = some (.int .i64 a0_0) := (blk_cell BK108.out 0).trans rfl; have hcz6_1 : w5.cell? ⟨gb108, 1, none⟩ = some (.int .i64 a0_1) := (blk_cell BK108.out 1).trans rfl; have hfz6_0 := blk_frozen BK108.out 0; have hfz6_1 := blk_frozen BK108.out 1))
    go_ret
    exact ⟨uz, uX⟩
   ·rw [if_neg c4] at H
    have c4b0 : decide (0 ≤ a0_1) = false := decide_eq_false c4
    clear c4
    obtain rfl := Option.some.inj H
    go_enter Try.func45, Try.ntmps45
    go_wp2_with (first | ((with_reducible refine gate_dst (N := 1) rfl ?_); refine box_event uW (N := 1) uW (cs := #[.int .i64 a0_0, .int .i64 a0_1]) (t := 51) uL ?_; intro gb108 hg w7 hbox hb; have BK108 := mk0 (hbox); have GW108 := mk0 (nB hg HB); have GE108 := mk0 (nB hg HB); replace HB := mk0 (below_step ut hb); clear hb hbox hg; have hcz8_0 : w7.cell? ⟨gb108, 0, none⟩ = some (.int .i64 a0_0) := (blk_cell BK108.out 0).trans rfl; have hcz8_1 : w7.cell? ⟨gb108, 1, none⟩ = some (.int .i64 a0_1) := (blk_cell BK108.out 1).trans rfl; have hfz8_0 := blk_frozen BK108.out 0; have hfz8_1 := blk_frozen BK108.out 1))
    go_ret
    exact ⟨uz, uX⟩
  ·rw [if_neg c3] at H
   have c3b0 : decide (a0_0 ≤ 4) = false := decide_eq_false c3
   clear c3
   obtain rfl := Option.some.inj H
   go_enter Try.func45, Try.ntmps45
   go_wp2_with (first | ((with_reducible refine gate_dst (N := 1) rfl ?_); refine box_event uW (N := 1) uW (cs := #[.int .i64 a0_0, .int .i64 a0_1]) (t := 51) uL ?_; intro gb108 hg w9 hbox hb; have BK108 := mk0 (hbox); have GW108 := mk0 (nB hg HB); have GE108 := mk0 (nB hg HB); replace HB := mk0 (below_step ut hb); clear hb hbox hg; have hcz10_0 : w9.cell? ⟨gb108, 0, none⟩ = some (.int .i64 a0_0) := (blk_cell BK108.out 0).trans rfl; have hcz10_1 : w9.cell? ⟨gb108, 1, none⟩ = some (.int .i64 a0_1) := (blk_cell BK108.out 1).trans rfl; have hfz10_0 := blk_frozen BK108.out 0; have hfz10_1 := blk_frozen BK108.out 1))
   go_ret
   exact ⟨uz, uX⟩
 ·rw [if_neg c2] at H
  have c2b0 : decide (1 ≤ a0_0) = false := decide_eq_false c2
  clear c2
  obtain rfl := Option.some.inj H
  go_enter Try.func45, Try.ntmps45
  go_wp2_with (first | ((with_reducible refine gate_dst (N := 1) rfl ?_); refine box_event uW (N := 1) uW (cs := #[.int .i64 a0_0, .int .i64 a0_1]) (t := 51) uL ?_; intro gb108 hg w11 hbox hb; have BK108 := mk0 (hbox); have GW108 := mk0 (nB hg HB); have GE108 := mk0 (nB hg HB); replace HB := mk0 (below_step ut hb); clear hb hbox hg; have hcz12_0 : w11.cell? ⟨gb108, 0, none⟩ = some (.int .i64 a0_0) := (blk_cell BK108.out 0).trans rfl; have hcz12_1 : w11.cell? ⟨gb108, 1, none⟩ = some (.int .i64 a0_1) := (blk_cell BK108.out 1).trans rfl; have hfz12_0 := blk_frozen BK108.out 0; have hfz12_1 := blk_frozen BK108.out 1))
  go_ret
  exact ⟨uz, uX⟩
def gen_All.f (a0_0 : Int) (a0_1 : Int) : Option (Int) := some (wrap64 (a0_0 + a0_1))
set_option maxHeartbeats 8000000 in
set_option maxRecDepth 100000 in
theorem gen_All.calls (a0_0 : Int) (a0_1 : Int) (r : Int) (w : World) (h : gen_All.f a0_0 a0_1 = some r) :
  Calls Try.prog 86 #[.agg #[.int .i64 a0_0, .int .i64 a0_1]] w fun e w' => e = .returned (.int .i64 r) ∧ Below w.heap.size w w' := by
 have hu51 := Try.underlying51
 have HB := mk0 (Below.refl w.heap.size w)
 have H : (some (wrap64 (a0_0 + a0_1))) = some r := h
 clear h
 obtain rfl := Option.some.inj H
 go_enter Try.func86, Try.ntmps86
 go_wp2_with (first | ((with_reducible refine gate_dst (N := 1) rfl ?_); refine box_event uW (N := 1) uW (cs := #[.int .i64 a0_0, .int .i64 a0_1]) (t := 51) uL ?_; intro gb109 hg w2 hbox hb; have BK109 := mk0 (hbox); have GW109 := mk0 (nB hg HB); have GE109 := mk0 (nB hg HB); replace HB := mk0 (below_step ut hb); clear hb hbox hg; have hcz3_0 : w2.cell? ⟨gb109, 0, none⟩ = some (.int .i64 a0_0) := (blk_cell BK109.out 0).trans rfl; have hcz3_1 : w2.cell? ⟨gb109, 1, none⟩ = some (.int .i64 a0_1) := (blk_cell BK109.out 1).trans rfl; have hfz3_0 := blk_frozen BK109.out 0; have hfz3_1 := blk_frozen BK109.out 1))
 go_ret
 exact ⟨uz, uX⟩
end Go.Proofs.Ytaahnicjjpddjaa.GGf
