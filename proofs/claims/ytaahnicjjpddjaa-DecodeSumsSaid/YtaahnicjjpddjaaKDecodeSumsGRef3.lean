/- Functions of the program as Lean functions, each with a proof that its call comes to what the function says; written by wip/gen.py of our own repo. No condition. -/
import Derived.Test.YtaahnicjjpddjaaKDecodeSumsGRef1
namespace Go.Proofs.Ytaahnicjjpddjaa.GRef
open Go.Proofs.Ytaahnicjjpddjaa.Fn
open Go.Proofs.Ytaahnicjjpddjaa
open Go.RowKit Go.Proofs.YtaahnicjjpddjaaW.PrintWords Go.Proofs.YtaahnicjjpddjaaW.PrintLast Go.Proofs.YtaahnicjjpddjaaW.PrintMore
attribute [local go_sem] max2_int min2_int max_two min_two max_three min_three max_four min_four   -- for this text's walks alone
set_option linter.unusedVariables false
set_option linter.unusedSimpArgs false

/-! ### ossuaryref1_blank: function 66 -/
def ossuaryref1_blank.T5 : Bool × List (List Nat × List Nat) := (true, [([], []), ([0], [0]), ([], []), ([2, 2], [2]), ([3], [3]), ([1, 4], [1, 4]), ([0, 1, 2, 3, 4, 5], []), ([6, 5, 5, 0, 1, 2, 3, 4, 5], [5, 6])])
def ossuaryref1_blank.B5 : List Nat := [0, 1, 0, 4, 12, 31, 63, 127]
theorem ossuaryref1_blank.tab5 : rtab .any (opsOf Try.f66 5) = ossuaryref1_blank.T5 := by kernel_rfl
theorem ossuaryref1_blank.bits5 : waitsOk ossuaryref1_blank.T5.2 ossuaryref1_blank.B5 = true := by kernel_rfl
/-! ### ossuaryref1_mul: function 67 -/
def ossuaryref1_mul.l0 : Nat → Int → Int → Int → Int → Option (Int)
 | 0, _, _, _, _ => none
 | k + 1, x0, x1, x5, x6 => if x6 < 8 then (if 0 ≤ x6 then (if (Go.bits .and .i64 (shr .i64 x1 x6) 1) = 1 then (if (wrap64 (x0 * 2)) > 255 then (ossuaryref1_mul.l0 k (Go.bits .xor .i64 (wrap64 (x0 * 2)) 285) x1 (Go.bits .xor .i64 x5 x0) (wrap64 (x6 + 1))) else (ossuaryref1_mul.l0 k (wrap64 (x0 * 2)) x1 (Go.bits .xor .i64 x5 x0) (wrap64 (x6 + 1)))) else (if (wrap64 (x0 * 2)) > 255 then (ossuaryref1_mul.l0 k (Go.bits .xor .i64 (wrap64 (x0 * 2)) 285) x1 x5 (wrap64 (x6 + 1))) else (ossuaryref1_mul.l0 k (wrap64 (x0 * 2)) x1 x5 (wrap64 (x6 + 1))))) else (none)) else (some x5)
def ossuaryref1_mul.f (k : Nat) (a0 : Int) (a1 : Int) : Option (Int) := ossuaryref1_mul.l0 k a0 a1 0 0
theorem ossuaryref1_mul.mono_l : ∀ k, (∀ y0 y1 y2 y3, LeO (ossuaryref1_mul.l0 k y0 y1 y2 y3) (ossuaryref1_mul.l0 (k + 1) y0 y1 y2 y3))
 | 0 => fun _ _ _ _ r h => by simp [ossuaryref1_mul.l0] at h
 | k + 1 => by
  have ih0 := ossuaryref1_mul.mono_l k
  ·intro y0 y1 y2 y3
   unfold ossuaryref1_mul.l0
   repeat' first
   | (with_reducible exact ih0 _ _ _ _)
   | (with_reducible exact LeO.refl _)
   | (with_reducible exact LeO.none _)
   | (with_reducible refine LeO.ite ?_ ?_)
   | (with_reducible refine LeO.bind ?_ (fun _ => ?_))
   | exact ih0 _ _ _ _
   | exact LeO.none _
   | refine LeO.ite ?_ ?_
   | refine LeO.bind ?_ (fun _ => ?_)
theorem ossuaryref1_mul.mono : ∀ a0 a1 k, LeO (ossuaryref1_mul.f k a0 a1) (ossuaryref1_mul.f (k + 1) a0 a1) := by
 intro a0 a1 k
 have ih0 := ossuaryref1_mul.mono_l k
 unfold ossuaryref1_mul.f
 repeat' first
   | (with_reducible exact ih0 _ _ _ _)
   | (with_reducible exact LeO.refl _)
   | (with_reducible exact LeO.none _)
   | (with_reducible refine LeO.ite ?_ ?_)
   | (with_reducible refine LeO.bind ?_ (fun _ => ?_))
   | exact ih0 _ _ _ _
   | exact LeO.none _
   | refine LeO.ite ?_ ?_
   | refine LeO.bind ?_ (fun _ => ?_)
set_option maxHeartbeats 8000000 in
set_option maxRecDepth 100000 in
theorem ossuaryref1_mul.calls (k : Nat) (a0 : Int) (a1 : Int) (r : Int) (w : World) (h : ossuaryref1_mul.f k a0 a1 = some r) :
  Calls Try.prog 67 #[.int .i64 a0, .int .i64 a1] w fun e w' => e = .returned (.int .i64 r) ∧ Drawn0 w w' := by
 have H : (ossuaryref1_mul.l0 k a0 a1 0 0) = some r := h
 clear h
 have H' := mk0 H
 clear H
 go_enter Try.func67, Try.ntmps67
 go_wp2
 go_loopg [0, 5, 6] k (fun kq v0 v5 v6 w' => ∃ (x0_1 : Int) (x5_1 : Int) (x6_1 : Int), v0 = .int .i64 x0_1 ∧ v5 = .int .i64 x5_1 ∧ v6 = .int .i64 x6_1 ∧ Aside0 (ossuaryref1_mul.l0 kq x0_1 a1 x5_1 x6_1 = some r) ∧ Aside0 (kq ≤ k) ∧ Drawn0 w w')
 case atStart => exact ⟨(a0), (0), (0), (by first | rfl | (simp; done) | (simp [*]; done)), (by first | rfl | (simp; done) | (simp [*]; done)), (by first | rfl | (simp; done) | (simp [*]; done)), H', ⟨Nat.le_refl _⟩, by repeat (first | exact Drawn0.refl _ | apply Drawn0.step)⟩
 case round =>
  clear H'
  try clear p2
  obtain ⟨x0_1, x5_1, x6_1, rfl, rfl, rfl, HA, HK1, ⟨m1, rfl⟩⟩ := hrel
  cases gk with
  | zero => exact absurd HA.out (by simp [ossuaryref1_mul.l0])
  | succ k1 =>
   have H := HA.out
   clear HA
   simp only [ossuaryref1_mul.l0] at H
   by_cases c3 : x6_1 < 8
   ·rw [if_pos c3] at H
    have c3b0 : decide (x6_1 < 8) = true := decide_eq_true c3
    clear c3
    by_cases c4 : 0 ≤ x6_1
    ·rw [if_pos c4] at H
     have c4b0 := eq_true c4
     have c4b1 : decide (0 ≤ x6_1) = true := decide_eq_true c4
     clear c4
     obtain ⟨ji5, hji5⟩ : ∃ j_ : Int, (shr .i64 a1 x6_1) = j_ := ⟨_, rfl⟩
     replace H : (if (Go.bits .and .i64 (ji5) 1) = 1 then (if (wrap64 (x0_1 * 2)) > 255 then (ossuaryref1_mul.l0 k1 (Go.bits .xor .i64 (wrap64 (x0_1 * 2)) 285) a1 (Go.bits .xor .i64 x5_1 x0_1) (wrap64 (x6_1 + 1))) else (ossuaryref1_mul.l0 k1 (wrap64 (x0_1 * 2)) a1 (Go.bits .xor .i64 x5_1 x0_1) (wrap64 (x6_1 + 1)))) else (if (wrap64 (x0_1 * 2)) > 255 then (ossuaryref1_mul.l0 k1 (Go.bits .xor .i64 (wrap64 (x0_1 * 2)) 285) a1 x5_1 (wrap64 (x6_1 + 1))) else (ossuaryref1_mul.l0 k1 (wrap64 (x0_1 * 2)) a1 x5_1 (wrap64 (x6_1 + 1))))) = some r := by first | (rw [hji5] at H; exact H) | (simp only [hji5] at H ⊢; exact H)
     have hji5_ : (a1 / 2 ^ min x6_1.toNat 64) = ji5 := hji5
     have hji5z : x6_1 ≤ 64 → (a1 / 2 ^ x6_1.toNat) = ji5 := shr_small hji5
     by_cases c6 : (Go.bits .and .i64 (ji5) 1) = 1
     ·rw [if_pos c6] at H
      have c6b0 : ((Go.bits .and .i64 (ji5) 1) == 1) = true := beq_iff_eq.mpr c6
      have c6b1 : ((Go.bits .and .i64 (ji5) 1) != 1) = false := bne_eq_false_iff_eq.mpr c6
      clear c6
      by_cases c7 : (wrap64 (x0_1 * 2)) > 255
      ·rw [if_pos c7] at H
       have c7b0 : decide (255 < (wrap64 (x0_1 * 2))) = true := decide_eq_true c7
       clear c7
       have H' := mk0 H
       clear H
       go_wp2
       go_roundg k1
       case measure => have := HK1.out; omega
       case rel => exact ⟨(Go.bits .xor .i64 (wrap64 (x0_1 * 2)) 285), (Go.bits .xor .i64 x5_1 x0_1), (wrap64 (x6_1 + 1)), (by first | rfl | (simp; done) | (simp [*]; done)), (by first | rfl | (simp; done) | (simp [*]; done)), (by first | rfl | (simp; done) | (simp [*]; done)), H', ⟨by have := HK1.out; omega⟩, by repeat (first | exact Drawn0.refl _ | apply Drawn0.step)⟩
      ·rw [if_neg c7] at H
       have c7b0 : decide (255 < (wrap64 (x0_1 * 2))) = false := decide_eq_false c7
       clear c7
       have H' := mk0 H
       clear H
       go_wp2
       go_roundg k1
       case measure => have := HK1.out; omega
       case rel => exact ⟨(wrap64 (x0_1 * 2)), (Go.bits .xor .i64 x5_1 x0_1), (wrap64 (x6_1 + 1)), (by first | rfl | (simp; done) | (simp [*]; done)), (by first | rfl | (simp; done) | (simp [*]; done)), (by first | rfl | (simp; done) | (simp [*]; done)), H', ⟨by have := HK1.out; omega⟩, by repeat (first | exact Drawn0.refl _ | apply Drawn0.step)⟩
     ·rw [if_neg c6] at H
      have c6b0 : ((Go.bits .and .i64 (ji5) 1) == 1) = false := beq_eq_false_iff_ne.mpr c6
      have c6b1 : ((Go.bits .and .i64 (ji5) 1) != 1) = true := bne_iff_ne.mpr c6
      by_cases c8 : (wrap64 (x0_1 * 2)) > 255
      ·rw [if_pos c8] at H
       have c8b0 : decide (255 < (wrap64 (x0_1 * 2))) = true := decide_eq_true c8
       clear c8
       have H' := mk0 H
       clear H
       go_wp2
       go_roundg k1
       case measure => have := HK1.out; omega
       case rel => exact ⟨(Go.bits .xor .i64 (wrap64 (x0_1 * 2)) 285), (x5_1), (wrap64 (x6_1 + 1)), (by first | rfl | (simp; done) | (simp [*]; done)), (by first | rfl | (simp; done) | (simp [*]; done)), (by first | rfl | (simp; done) | (simp [*]; done)), H', ⟨by have := HK1.out; omega⟩, by repeat (first | exact Drawn0.refl _ | apply Drawn0.step)⟩
      ·rw [if_neg c8] at H
       have c8b0 : decide (255 < (wrap64 (x0_1 * 2))) = false := decide_eq_false c8
       clear c8
       have H' := mk0 H
       clear H
       go_wp2
       go_roundg k1
       case measure => have := HK1.out; omega
       case rel => exact ⟨(wrap64 (x0_1 * 2)), (x5_1), (wrap64 (x6_1 + 1)), (by first | rfl | (simp; done) | (simp [*]; done)), (by first | rfl | (simp; done) | (simp [*]; done)), (by first | rfl | (simp; done) | (simp [*]; done)), H', ⟨by have := HK1.out; omega⟩, by repeat (first | exact Drawn0.refl _ | apply Drawn0.step)⟩
    ·rw [if_neg c4] at H
     exact absurd H (by simp)
   ·rw [if_neg c3] at H
    have c3b0 : decide (x6_1 < 8) = false := decide_eq_false c3
    clear c3
    obtain rfl := Option.some.inj H
    go_wp2
    go_ret
    exact ⟨by first | rfl | (simp; done) | (simp [*]; done), by repeat (first | exact Drawn0.refl _ | apply Drawn0.step)⟩

end Go.Proofs.Ytaahnicjjpddjaa.GRef
