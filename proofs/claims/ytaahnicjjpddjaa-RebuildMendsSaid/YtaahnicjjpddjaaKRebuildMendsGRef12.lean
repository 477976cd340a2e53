/- Functions of the program as Lean functions, each with a proof that its call comes to what the function says. No condition. -/
import Derived.Test.YtaahnicjjpddjaaKRebuildMendsGRef1
namespace Go.Proofs.Ytaahnicjjpddjaa.GRef
open Go.Proofs.Ytaahnicjjpddjaa.Fn
open Go.Proofs.Ytaahnicjjpddjaa
open Go.RowKit Go.Proofs.YtaahnicjjpddjaaW.PrintWords Go.Proofs.YtaahnicjjpddjaaW.PrintLast Go.Proofs.YtaahnicjjpddjaaW.PrintMore
attribute [local go_sem] max2_int min2_int max_two min_two max_three min_three max_four min_four   -- for this text's walks alone
set_option linter.unusedVariables false
set_option linter.unusedSimpArgs false
def ossuarylaw0_SameTexts.l0 : Nat → List ByteArray → List ByteArray → Int → Option (Bool)
 | 0, _, _, _ => none
 | k + 1, x0, x1, x5 => if x5 < (x0.length : Int) then (if 0 ≤ x5 then (if x5 < (x1.length : Int) then (if (rdOf ByteArray.empty x0 x5).toList = (rdOf ByteArray.empty x1 x5).toList then (ossuarylaw0_SameTexts.l0 k x0 x1 (wrap64 (x5 + 1))) else (some false)) else (none)) else (none)) else (some true)
def ossuarylaw0_SameTexts.f (k : Nat) (l0 : List ByteArray) (l1 : List ByteArray) : Option (Bool) := if (l0.length : Int) = (l1.length : Int) then (ossuarylaw0_SameTexts.l0 k l0 l1 0) else (some false)
theorem ossuarylaw0_SameTexts.mono_l : ∀ k, (∀ y0 y1 y2, LeO (ossuarylaw0_SameTexts.l0 k y0 y1 y2) (ossuarylaw0_SameTexts.l0 (k + 1) y0 y1 y2))
 | 0 => fun _ _ _ r h => by simp [ossuarylaw0_SameTexts.l0] at h
 | k + 1 => by
  have ih0 := ossuarylaw0_SameTexts.mono_l k
  ·intro y0 y1 y2
   unfold ossuarylaw0_SameTexts.l0
   repeat' with_reducible first | exact ih0 _ _ _ | exact LeO.refl _ | exact LeO.none _ | refine LeO.ite ?_ ?_ | refine LeO.bind ?_ (fun _ => ?_)
theorem ossuarylaw0_SameTexts.mono : ∀ a0 a1 k, LeO (ossuarylaw0_SameTexts.f k a0 a1) (ossuarylaw0_SameTexts.f (k + 1) a0 a1) := by
 intro a0 a1 k
 have ih0 := ossuarylaw0_SameTexts.mono_l k
 unfold ossuarylaw0_SameTexts.f
 repeat' with_reducible first | exact ih0 _ _ _ | exact LeO.refl _ | exact LeO.none _ | refine LeO.ite ?_ ?_ | refine LeO.bind ?_ (fun _ => ?_)
set_option maxHeartbeats 8000000 in
set_option maxRecDepth 100000 in
theorem ossuarylaw0_SameTexts.calls (k : Nat) (A0 : Option Addr) (c0 : Nat) (l0 : List ByteArray) (A1 : Option Addr) (c1 : Nat) (l1 : List ByteArray) (r : Bool) (w : World) (hr0 : Kd.C Kd.string w A0 l0.length l0) (hc0 : l0.length ≤ c0) (hr1 : Kd.C Kd.string w A1 l1.length l1) (hc1 : l1.length ≤ c1) (h : ossuarylaw0_SameTexts.f k l0 l1 = some r) :
  Calls Try.prog 50 #[.slice A0 l0.length c0, .slice A1 l1.length c1] w fun e w' => e = .returned (.bool r) ∧ Drawn0 w w' := by
 have HR0 := mk0 hr0
 have HC0 := mk0 hc0
 clear hr0 hc0
 have HR1 := mk0 hr1
 have HC1 := mk0 hc1
 clear hr1 hc1
 have H : (if (l0.length : Int) = (l1.length : Int) then (ossuarylaw0_SameTexts.l0 k l0 l1 0) else (some false)) = some r := h
 clear h
 by_cases c3 : (l0.length : Int) = (l1.length : Int)
 ·rw [if_pos c3] at H
  have c3b0 : ((l0.length : Int) == (l1.length : Int)) = true := beq_iff_eq.mpr c3
  have c3b1 : ((l0.length : Int) != (l1.length : Int)) = false := bne_eq_false_iff_eq.mpr c3
  have c3b2 : (l0.length == l1.length) = true := by first | simpa using c3 | (simp at c3 ⊢; omega)
  clear c3
  have H' := mk0 H
  clear H
  go_enter Try.func50, Try.ntmps50
  go_wp2
  repeat (go_quiet (fail); try go_wp2)
  go_loopg [5] k (fun kq v5 w' => ∃ (x5_1 : Int), v5 = .int .i64 x5_1 ∧ Aside0 (ossuarylaw0_SameTexts.l0 kq l0 l1 x5_1 = some r) ∧ Aside0 (kq ≤ k) ∧ Drawn0 w w')
  case atStart => exact ⟨(0), uJ, H', ⟨Nat.le_refl _⟩, uG⟩
  case round =>
   clear H'
   try clear c1
   try clear p2
   try clear c3
   try clear c3b0
   try clear c3b1
   try clear c3b2
   obtain ⟨x5_1, rfl, HA, HK1, ⟨m1, rfl⟩⟩ := hrel
   cases gk with
   | zero => exact absurd HA.out (by simp [ossuarylaw0_SameTexts.l0])
   | succ k1 =>
    have H := HA.out
    clear HA
    simp only [ossuarylaw0_SameTexts.l0] at H
    by_cases c4 : x5_1 < (l0.length : Int)
    ·rw [if_pos c4] at H
     have c4b0 : decide (x5_1 < (l0.length : Int)) = true := decide_eq_true c4
     clear c4
     by_cases c5 : 0 ≤ x5_1
     ·rw [if_pos c5] at H
      have c5b0 : decide (0 ≤ x5_1) = true := decide_eq_true c5
      clear c5
      by_cases c6 : x5_1 < (l1.length : Int)
      ·rw [if_pos c6] at H
       have c6b0 : decide (x5_1 < (l1.length : Int)) = true := decide_eq_true c6
       clear c6
       by_cases c7 : (rdOf ByteArray.empty l0 x5_1).toList = (rdOf ByteArray.empty l1 x5_1).toList
       ·rw [if_pos c7] at H
        have c7b0 : ((rdOf ByteArray.empty l0 x5_1).toList == (rdOf ByteArray.empty l1 x5_1).toList) = true := beq_iff_eq.mpr c7
        have c7b1 : ((rdOf ByteArray.empty l0 x5_1).toList != (rdOf ByteArray.empty l1 x5_1).toList) = false := bne_eq_false_iff_eq.mpr c7
        clear c7
        have H' := mk0 H
        clear H
        have p292 : 0 ≤ (x5_1 : Int) := of_decide_eq_true uI
        have q292 : x5_1 < (l0.length : Int) := of_decide_eq_true uI
        obtain ⟨ad292, e292, hx292_0⟩ := Kd.at_string HR0.out x5_1 p292 q292
        cases e292
        replace p292 := eq_true p292
        replace q292 := eq_true q292
        have p293 : 0 ≤ (x5_1 : Int) := of_decide_eq_true uI
        have q293 : x5_1 < (l1.length : Int) := of_decide_eq_true uI
        obtain ⟨ad293, e293, hx293_0⟩ := Kd.at_string HR1.out x5_1 p293 q293
        cases e293
        replace p293 := eq_true p293
        replace q293 := eq_true q293
        go_wp2
        repeat (go_quiet (fail); try go_wp2)
        go_roundg k1
        case measure => have := HK1.out; omega
        case rel => exact ⟨(wrap64 (x5_1 + 1)), uJ, H', ⟨uQ⟩, uG⟩
       ·rw [if_neg c7] at H
        have c7b0 : ((rdOf ByteArray.empty l0 x5_1).toList == (rdOf ByteArray.empty l1 x5_1).toList) = false := beq_eq_false_iff_ne.mpr c7
        have c7b1 : ((rdOf ByteArray.empty l0 x5_1).toList != (rdOf ByteArray.empty l1 x5_1).toList) = true := bne_iff_ne.mpr c7
        obtain rfl := Option.some.inj H
        have p292 : 0 ≤ (x5_1 : Int) := of_decide_eq_true uI
        have q292 : x5_1 < (l0.length : Int) := of_decide_eq_true uI
        obtain ⟨ad292, e292, hx292_0⟩ := Kd.at_string HR0.out x5_1 p292 q292
        cases e292
        replace p292 := eq_true p292
        replace q292 := eq_true q292
        have p293 : 0 ≤ (x5_1 : Int) := of_decide_eq_true uI
        have q293 : x5_1 < (l1.length : Int) := of_decide_eq_true uI
        obtain ⟨ad293, e293, hx293_0⟩ := Kd.at_string HR1.out x5_1 p293 q293
        cases e293
        replace p293 := eq_true p293
        replace q293 := eq_true q293
        go_wp2
        repeat (go_quiet (fail); try go_wp2)
        go_ret
        exact ⟨uJ, uG⟩
      ·rw [if_neg c6] at H
       exact absurd H qa
     ·rw [if_neg c5] at H
      exact absurd H qa
    ·rw [if_neg c4] at H
     have c4b0 : decide (x5_1 < (l0.length : Int)) = false := decide_eq_false c4
     clear c4
     obtain rfl := Option.some.inj H
     go_wp2
     repeat (go_quiet (fail); try go_wp2)
     go_ret
     exact ⟨uJ, uG⟩
 ·rw [if_neg c3] at H
  have c3b0 : ((l0.length : Int) == (l1.length : Int)) = false := beq_eq_false_iff_ne.mpr c3
  have c3b1 : ((l0.length : Int) != (l1.length : Int)) = true := bne_iff_ne.mpr c3
  have c3b2 : (l0.length == l1.length) = false := by first | simpa using c3 | (simp at c3 ⊢; omega)
  obtain rfl := Option.some.inj H
  go_enter Try.func50, Try.ntmps50
  go_wp2
  repeat (go_quiet (fail); try go_wp2)
  go_ret
  exact ⟨uJ, uG⟩
def ossuaryref1_alike.l0 : Nat → List ByteArray → Int → Option (Bool)
 | 0, _, _ => none
 | k + 1, x0, x3 => if x3 < (x0.length : Int) then (if 0 ≤ x3 then (if 0 < (x0.length : Int) then (if ((rdOf ByteArray.empty x0 x3).size : Int) = ((rdOf ByteArray.empty x0 0).size : Int) then (if ((rdOf ByteArray.empty x0 x3).size : Int) > 4096 then (some false) else (ossuaryref1_alike.l0 k x0 (wrap64 (x3 + 1)))) else (some false)) else (none)) else (none)) else (some true)
def ossuaryref1_alike.f (k : Nat) (l0 : List ByteArray) : Option (Bool) := ossuaryref1_alike.l0 k l0 0
theorem ossuaryref1_alike.mono_l : ∀ k, (∀ y0 y1, LeO (ossuaryref1_alike.l0 k y0 y1) (ossuaryref1_alike.l0 (k + 1) y0 y1))
 | 0 => fun _ _ r h => by simp [ossuaryref1_alike.l0] at h
 | k + 1 => by
  have ih0 := ossuaryref1_alike.mono_l k
  ·intro y0 y1
   unfold ossuaryref1_alike.l0
   repeat' with_reducible first | exact ih0 _ _ | exact LeO.refl _ | exact LeO.none _ | refine LeO.ite ?_ ?_ | refine LeO.bind ?_ (fun _ => ?_)
theorem ossuaryref1_alike.mono : ∀ a0 k, LeO (ossuaryref1_alike.f k a0) (ossuaryref1_alike.f (k + 1) a0) := by
 intro a0 k
 have ih0 := ossuaryref1_alike.mono_l k
 unfold ossuaryref1_alike.f
 repeat' with_reducible first | exact ih0 _ _ | exact LeO.refl _ | exact LeO.none _ | refine LeO.ite ?_ ?_ | refine LeO.bind ?_ (fun _ => ?_)
set_option maxHeartbeats 8000000 in
set_option maxRecDepth 100000 in
theorem ossuaryref1_alike.calls (k : Nat) (A0 : Option Addr) (c0 : Nat) (l0 : List ByteArray) (r : Bool) (w : World) (hr0 : Kd.C Kd.string w A0 l0.length l0) (hc0 : l0.length ≤ c0) (h : ossuaryref1_alike.f k l0 = some r) :
  Calls Try.prog 91 #[.slice A0 l0.length c0] w fun e w' => e = .returned (.bool r) ∧ Drawn0 w w' := by
 have HR0 := mk0 hr0
 have HC0 := mk0 hc0
 clear hr0 hc0
 have H : (ossuaryref1_alike.l0 k l0 0) = some r := h
 clear h
 have H' := mk0 H
 clear H
 go_enter Try.func91, Try.ntmps91
 go_wp2
 repeat (go_quiet (fail); try go_wp2)
 go_loopg [3] k (fun kq v3 w' => ∃ (x3_1 : Int), v3 = .int .i64 x3_1 ∧ Aside0 (ossuaryref1_alike.l0 kq l0 x3_1 = some r) ∧ Aside0 (kq ≤ k) ∧ Drawn0 w w')
 case atStart => exact ⟨(0), uJ, H', ⟨Nat.le_refl _⟩, uG⟩
 case round =>
  clear H'
  obtain ⟨x3_1, rfl, HA, HK1, ⟨m1, rfl⟩⟩ := hrel
  cases gk with
  | zero => exact absurd HA.out (by simp [ossuaryref1_alike.l0])
  | succ k1 =>
   have H := HA.out
   clear HA
   simp only [ossuaryref1_alike.l0] at H
   by_cases c2 : x3_1 < (l0.length : Int)
   ·rw [if_pos c2] at H
    have c2b0 : decide (x3_1 < (l0.length : Int)) = true := decide_eq_true c2
    clear c2
    by_cases c3 : 0 ≤ x3_1
    ·rw [if_pos c3] at H
     have c3b0 : decide (0 ≤ x3_1) = true := decide_eq_true c3
     clear c3
     by_cases c4 : 0 < (l0.length : Int)
     ·rw [if_pos c4] at H
      have c4b0 : decide (0 < (l0.length : Int)) = true := decide_eq_true c4
      have c4b1 : decide (0 < l0.length) = true := decide_eq_true uV
      clear c4
      by_cases c5 : ((rdOf ByteArray.empty l0 x3_1).size : Int) = ((rdOf ByteArray.empty l0 0).size : Int)
      ·rw [if_pos c5] at H
       have c5b0 : (((rdOf ByteArray.empty l0 x3_1).size : Int) == ((rdOf ByteArray.empty l0 0).size : Int)) = true := beq_iff_eq.mpr c5
       have c5b1 : (((rdOf ByteArray.empty l0 x3_1).size : Int) != ((rdOf ByteArray.empty l0 0).size : Int)) = false := bne_eq_false_iff_eq.mpr c5
       have c5b2 : ((rdOf ByteArray.empty l0 x3_1).size == (rdOf ByteArray.empty l0 0).size) = true := by first | simpa using c5 | (simp at c5 ⊢; omega)
       clear c5
       by_cases c6 : ((rdOf ByteArray.empty l0 x3_1).size : Int) > 4096
       ·rw [if_pos c6] at H
        have c6b0 : decide (4096 < ((rdOf ByteArray.empty l0 x3_1).size : Int)) = true := decide_eq_true c6
        have c6b1 : decide (4096 < (rdOf ByteArray.empty l0 x3_1).size) = true := decide_eq_true uV
        clear c6
        obtain rfl := Option.some.inj H
        have p301 : 0 ≤ (x3_1 : Int) := of_decide_eq_true uI
        have q301 : x3_1 < (l0.length : Int) := of_decide_eq_true uI
        obtain ⟨ad301, e301, hx301_0⟩ := Kd.at_string HR0.out x3_1 p301 q301
        cases e301
        replace p301 := eq_true p301
        replace q301 := eq_true q301
        have p302 : 0 ≤ (0 : Int) := uV
        have q302 : 0 < (l0.length : Int) := of_decide_eq_true uI
        obtain ⟨ad302, e302, hx302_0⟩ := Kd.at_string HR0.out 0 p302 q302
        obtain rfl : ad301 = ad302 := (by injection e302)
        have qi302 : (0 < l0.length) = True := eq_true uV
        (try rw [show ((0 : Int)).toNat = 0 from rfl] at hx302_0)
        (try rw [Addr.add_zero'] at hx302_0)
        replace p302 := eq_true p302
        replace q302 := eq_true q302
        have p303 : 0 ≤ (x3_1 : Int) := of_decide_eq_true uI
        have q303 : x3_1 < (l0.length : Int) := of_decide_eq_true uI
        obtain ⟨ad303, e303, hx303_0⟩ := Kd.at_string HR0.out x3_1 p303 q303
        obtain rfl : ad301 = ad303 := (by injection e303)
        replace p303 := eq_true p303
        replace q303 := eq_true q303
        go_wp2
        repeat (go_quiet (fail); try go_wp2)
        go_ret
        exact ⟨uJ, uG⟩
       ·rw [if_neg c6] at H
        have c6b0 : decide (4096 < ((rdOf ByteArray.empty l0 x3_1).size : Int)) = false := decide_eq_false c6
        have c6b1 : decide (4096 < (rdOf ByteArray.empty l0 x3_1).size) = false := decide_eq_false uV
        clear c6
        have H' := mk0 H
        clear H
        have p301 : 0 ≤ (x3_1 : Int) := of_decide_eq_true uI
        have q301 : x3_1 < (l0.length : Int) := of_decide_eq_true uI
        obtain ⟨ad301, e301, hx301_0⟩ := Kd.at_string HR0.out x3_1 p301 q301
        cases e301
        replace p301 := eq_true p301
        replace q301 := eq_true q301
        have p302 : 0 ≤ (0 : Int) := uV
        have q302 : 0 < (l0.length : Int) := of_decide_eq_true uI
        obtain ⟨ad302, e302, hx302_0⟩ := Kd.at_string HR0.out 0 p302 q302
        obtain rfl : ad301 = ad302 := (by injection e302)
        have qi302 : (0 < l0.length) = True := eq_true uV
        (try rw [show ((0 : Int)).toNat = 0 from rfl] at hx302_0)
        (try rw [Addr.add_zero'] at hx302_0)
        replace p302 := eq_true p302
        replace q302 := eq_true q302
        have p303 : 0 ≤ (x3_1 : Int) := of_decide_eq_true uI
        have q303 : x3_1 < (l0.length : Int) := of_decide_eq_true uI
        obtain ⟨ad303, e303, hx303_0⟩ := Kd.at_string HR0.out x3_1 p303 q303
        obtain rfl : ad301 = ad303 := (by injection e303)
        replace p303 := eq_true p303
        replace q303 := eq_true q303
        go_wp2
        repeat (go_quiet (fail); try go_wp2)
        go_roundg k1
        case measure => have := HK1.out; omega
        case rel => exact ⟨(wrap64 (x3_1 + 1)), uJ, H', ⟨uQ⟩, uG⟩
      ·rw [if_neg c5] at H
       have c5b0 : (((rdOf ByteArray.empty l0 x3_1).size : Int) == ((rdOf ByteArray.empty l0 0).size : Int)) = false := beq_eq_false_iff_ne.mpr c5
       have c5b1 : (((rdOf ByteArray.empty l0 x3_1).size : Int) != ((rdOf ByteArray.empty l0 0).size : Int)) = true := bne_iff_ne.mpr c5
       have c5b2 : ((rdOf ByteArray.empty l0 x3_1).size == (rdOf ByteArray.empty l0 0).size) = false := by first | simpa using c5 | (simp at c5 ⊢; omega)
       obtain rfl := Option.some.inj H
       have p301 : 0 ≤ (x3_1 : Int) := of_decide_eq_true uI
       have q301 : x3_1 < (l0.length : Int) := of_decide_eq_true uI
       obtain ⟨ad301, e301, hx301_0⟩ := Kd.at_string HR0.out x3_1 p301 q301
       cases e301
       replace p301 := eq_true p301
       replace q301 := eq_true q301
       have p302 : 0 ≤ (0 : Int) := uV
       have q302 : 0 < (l0.length : Int) := of_decide_eq_true uI
       obtain ⟨ad302, e302, hx302_0⟩ := Kd.at_string HR0.out 0 p302 q302
       obtain rfl : ad301 = ad302 := (by injection e302)
       have qi302 : (0 < l0.length) = True := eq_true uV
       (try rw [show ((0 : Int)).toNat = 0 from rfl] at hx302_0)
       (try rw [Addr.add_zero'] at hx302_0)
       replace p302 := eq_true p302
       replace q302 := eq_true q302
       go_wp2
       repeat (go_quiet (fail); try go_wp2)
       go_ret
       exact ⟨uJ, uG⟩
     ·rw [if_neg c4] at H
      exact absurd H qa
    ·rw [if_neg c3] at H
     exact absurd H qa
   ·rw [if_neg c2] at H
    have c2b0 : decide (x3_1 < (l0.length : Int)) = false := decide_eq_false c2
    clear c2
    obtain rfl := Option.some.inj H
    go_wp2
    repeat (go_quiet (fail); try go_wp2)
    go_ret
    exact ⟨uJ, uG⟩
end Go.Proofs.Ytaahnicjjpddjaa.GRef
