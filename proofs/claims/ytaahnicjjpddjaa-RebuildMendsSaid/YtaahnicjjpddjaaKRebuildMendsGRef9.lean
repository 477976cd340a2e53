/- Functions of the program as Lean functions, each with a proof that its call comes to what the function says. No condition. -/
import Derived.Test.YtaahnicjjpddjaaKRebuildMendsGRef3
namespace Go.Proofs.Ytaahnicjjpddjaa.GRef
open Go.Proofs.Ytaahnicjjpddjaa.Fn
open Go.Proofs.Ytaahnicjjpddjaa
open Go.RowKit Go.Proofs.YtaahnicjjpddjaaW.PrintWords Go.Proofs.YtaahnicjjpddjaaW.PrintLast Go.Proofs.YtaahnicjjpddjaaW.PrintMore
attribute [local go_sem] max2_int min2_int max_two min_two max_three min_three max_four min_four   -- for this text's walks alone
set_option linter.unusedVariables false
set_option linter.unusedSimpArgs false
def ossuaryref1_inv.l0 : Nat → Int → Int → Option (Int)
 | 0, _, _ => none
 | k + 1, x0, x3 => if x3 < 256 then ((ossuaryref1_mul.f k x0 x3).bind fun t240 => (if t240 = 1 then (some x3) else (ossuaryref1_inv.l0 k x0 (wrap64 (x3 + 1))))) else (some 0)
def ossuaryref1_inv.f (k : Nat) (a0 : Int) : Option (Int) := ossuaryref1_inv.l0 k a0 1
theorem ossuaryref1_inv.mono_l : ∀ k, (∀ y0 y1, LeO (ossuaryref1_inv.l0 k y0 y1) (ossuaryref1_inv.l0 (k + 1) y0 y1))
 | 0 => fun _ _ r h => by simp [ossuaryref1_inv.l0] at h
 | k + 1 => by
  have ih0 := ossuaryref1_inv.mono_l k
  ·intro y0 y1
   unfold ossuaryref1_inv.l0
   repeat' with_reducible first | exact ih0 _ _ | exact ossuaryref1_mul.mono _ _ _ | exact LeO.refl _ | exact LeO.none _ | refine LeO.ite ?_ ?_ | refine LeO.bind ?_ (fun _ => ?_)
theorem ossuaryref1_inv.mono : ∀ a0 k, LeO (ossuaryref1_inv.f k a0) (ossuaryref1_inv.f (k + 1) a0) := by
 intro a0 k
 have ih0 := ossuaryref1_inv.mono_l k
 unfold ossuaryref1_inv.f
 repeat' with_reducible first | exact ih0 _ _ | exact ossuaryref1_mul.mono _ _ _ | exact LeO.refl _ | exact LeO.none _ | refine LeO.ite ?_ ?_ | refine LeO.bind ?_ (fun _ => ?_)
set_option maxHeartbeats 8000000 in
set_option maxRecDepth 100000 in
theorem ossuaryref1_inv.calls (k : Nat) (a0 : Int) (r : Int) (w : World) (h : ossuaryref1_inv.f k a0 = some r) :
  Calls Try.prog 83 #[.int .i64 a0] w fun e w' => e = .returned (.int .i64 r) ∧ Drawn0 w w' := by
 have H : (ossuaryref1_inv.l0 k a0 1) = some r := h
 clear h
 have H' := mk0 H
 clear H
 go_enter Try.func83, Try.ntmps83
 go_wp2
 go_loopg [3] k (fun kq v3 w' => ∃ (x3_1 : Int), v3 = .int .i64 x3_1 ∧ Aside0 (ossuaryref1_inv.l0 kq a0 x3_1 = some r) ∧ Aside0 (kq ≤ k) ∧ Drawn0 w w')
 case atStart => exact ⟨(1), uJ, H', ⟨Nat.le_refl _⟩, uG⟩
 case round =>
  clear H'
  obtain ⟨x3_1, rfl, HA, HK1, ⟨m1, rfl⟩⟩ := hrel
  cases gk with
  | zero => exact absurd HA.out (by simp [ossuaryref1_inv.l0])
  | succ k1 =>
   have H := HA.out
   clear HA
   simp only [ossuaryref1_inv.l0] at H
   by_cases c2 : x3_1 < 256
   ·rw [if_pos c2] at H
    have c2b0 : decide (x3_1 < 256) = true := decide_eq_true c2
    clear c2
    replace H := Option.bind_eq_some_iff.mp H
    obtain ⟨t240, A30, H⟩ := H
    replace H : (if t240 = 1 then (some x3_1) else (ossuaryref1_inv.l0 k1 a0 (wrap64 (x3_1 + 1)))) = some r := H
    have A3 := mk0 A30
    clear A30
    by_cases c4 : t240 = 1
    ·rw [if_pos c4] at H
     have c4b0 : (t240 == 1) = true := beq_iff_eq.mpr c4
     have c4b1 : (t240 != 1) = false := bne_eq_false_iff_eq.mpr c4
     clear c4
     obtain rfl := Option.some.inj H
     go_wp2_with (first | ((with_reducible refine gate_callee (f := 67) rfl ?_); refine goesL_ (some 10) rfl rfl Try.func67 uT rfl #[.int .i64 a0, .int .i64 x3_1] rfl uk ?_; (with_reducible refine (ossuaryref1_mul.calls k1 a0 x3_1 t240 _ A3.out).mono ?_); rintro e w' ⟨rfl, ⟨nd, rfl⟩⟩; refine ⟨_, rfl, ?_⟩))
     go_ret
     exact ⟨uJ, uG⟩
    ·rw [if_neg c4] at H
     have c4b0 : (t240 == 1) = false := beq_eq_false_iff_ne.mpr c4
     have c4b1 : (t240 != 1) = true := bne_iff_ne.mpr c4
     have H' := mk0 H
     clear H
     go_wp2_with (first | ((with_reducible refine gate_callee (f := 67) rfl ?_); refine goesL_ (some 10) rfl rfl Try.func67 uT rfl #[.int .i64 a0, .int .i64 x3_1] rfl uk ?_; (with_reducible refine (ossuaryref1_mul.calls k1 a0 x3_1 t240 _ A3.out).mono ?_); rintro e w' ⟨rfl, ⟨nd, rfl⟩⟩; refine ⟨_, rfl, ?_⟩))
     go_roundg k1
     case measure => have := HK1.out; omega
     case rel => exact ⟨(wrap64 (x3_1 + 1)), uJ, H', ⟨uQ⟩, uG⟩
   ·rw [if_neg c2] at H
    have c2b0 : decide (x3_1 < 256) = false := decide_eq_false c2
    clear c2
    obtain rfl := Option.some.inj H
    go_wp2
    go_ret
    exact ⟨uJ, uG⟩
def ossuaryref1_times.l0 : Nat → List Int → Int → Int → Option (List Int)
 | 0, _, _, _ => none
 | k + 1, x0, x1, x4 => if x4 < (x0.length : Int) then (if 0 ≤ x4 then ((ossuaryref1_mul.f k (rd x0 x4) x1).bind fun t242 => (ossuaryref1_times.l0 k (x0.set (x4 : Int).toNat t242) x1 (wrap64 (x4 + 1)))) else (none)) else (some x0)
def ossuaryref1_times.f (k : Nat) (l0 : List Int) (a1 : Int) : Option (List Int) := ossuaryref1_times.l0 k l0 a1 0
theorem ossuaryref1_times.mono_l : ∀ k, (∀ y0 y1 y2, LeO (ossuaryref1_times.l0 k y0 y1 y2) (ossuaryref1_times.l0 (k + 1) y0 y1 y2))
 | 0 => fun _ _ _ r h => by simp [ossuaryref1_times.l0] at h
 | k + 1 => by
  have ih0 := ossuaryref1_times.mono_l k
  ·intro y0 y1 y2
   unfold ossuaryref1_times.l0
   repeat' with_reducible first | exact ih0 _ _ _ | exact ossuaryref1_mul.mono _ _ _ | exact LeO.refl _ | exact LeO.none _ | refine LeO.ite ?_ ?_ | refine LeO.bind ?_ (fun _ => ?_)
theorem ossuaryref1_times.mono : ∀ a0 a1 k, LeO (ossuaryref1_times.f k a0 a1) (ossuaryref1_times.f (k + 1) a0 a1) := by
 intro a0 a1 k
 have ih0 := ossuaryref1_times.mono_l k
 unfold ossuaryref1_times.f
 repeat' with_reducible first | exact ih0 _ _ _ | exact ossuaryref1_mul.mono _ _ _ | exact LeO.refl _ | exact LeO.none _ | refine LeO.ite ?_ ?_ | refine LeO.bind ?_ (fun _ => ?_)
set_option maxHeartbeats 8000000 in
set_option maxRecDepth 100000 in
theorem ossuaryref1_times.calls (k : Nat) (P0_ : Nat → Prop) (u9000_ : Value) (l0 : List Int) (a1 : Int) (r : List Int) (w0 w : World) (hB : Below w0.heap.size w0 w) (ho0 : Kd.R (Kd.int .i64) 3 w w0.heap.size P0_ u9000_ l0) (h : ossuaryref1_times.f k l0 a1 = some r) :
  Calls Try.prog 84 #[u9000_, .int .i64 a1] w fun e w' => e = .returned (.tuple #[]) ∧ Kd.R (Kd.int .i64) 3 w' w0.heap.size (fun k_ => (P0_ k_ ∨ w.heap.size ≤ k_)) u9000_ r ∧ Below w0.heap.size w0 w' ∧ Kept w w' (fun k_ => P0_ k_) := by
 have HO0 := mk0 (show Kd.R (Kd.int .i64) 3 w w0.heap.size (fun k_ => (P0_ k_ ∨ w.heap.size ≤ k_)) u9000_ l0 from Kd.R_mono ho0 (fun k_ hk => (.inl hk)))
 have HK := mk0 (Kept.refl w (fun k_ => P0_ k_))
 have HW0 := mk0 hB.size
 have HB := mk0 hB
 clear hB
 have H : (ossuaryref1_times.l0 k l0 a1 0) = some r := h
 clear h
 have H' := mk0 H
 clear H
 go_enter Try.func84, Try.ntmps84
 go_wp2
 go_loopg [4] k (fun kq v4 w' => ∃ (x0_1 : List Int) (x4_1 : Int), v4 = .int .i64 x4_1 ∧ Aside0 (ossuaryref1_times.l0 kq x0_1 a1 x4_1 = some r) ∧ Aside0 (kq ≤ k) ∧ Aside0 (Kd.R (Kd.int .i64) 3 w' w0.heap.size (fun k_ => (P0_ k_ ∨ w.heap.size ≤ k_)) u9000_ x0_1) ∧ Aside0 (Kept w w' (fun k_ => P0_ k_)) ∧ Aside0 (Below w0.heap.size w0 w'))
 case atStart => exact ⟨(l0), (0), uJ, H', ⟨Nat.le_refl _⟩, ⟨rB HO0.out⟩, ⟨um⟩, ⟨ut⟩⟩
 case round =>
  clear H'
  try clear p2
  obtain ⟨x0_1, x4_1, rfl, HA, HK1, HO_0, HK, HB⟩ := hrel
  cases gk with
  | zero => exact absurd HA.out (by simp [ossuaryref1_times.l0])
  | succ k1 =>
   have H := HA.out
   clear HA
   simp only [ossuaryref1_times.l0] at H
   by_cases c3 : x4_1 < (x0_1.length : Int)
   ·rw [if_pos c3] at H
    have c3b0 : decide (x4_1 < (x0_1.length : Int)) = true := decide_eq_true c3
    clear c3
    by_cases c4 : 0 ≤ x4_1
    ·rw [if_pos c4] at H
     have c4b0 : decide (0 ≤ x4_1) = true := decide_eq_true c4
     clear c4
     replace H := Option.bind_eq_some_iff.mp H
     obtain ⟨t242, A50, H⟩ := H
     replace H : (ossuaryref1_times.l0 k1 (x0_1.set (x4_1 : Int).toNat t242) a1 (wrap64 (x4_1 + 1))) = some r := H
     have A5 := mk0 A50
     clear A50
     obtain ⟨y243, hy243⟩ : ∃ y_ : List Int, y_ = (x0_1.set (x4_1 : Int).toNat t242) := ⟨_, rfl⟩
     replace H : (ossuaryref1_times.l0 k1 y243 a1 (wrap64 (x4_1 + 1))) = some r := by first | (rw [hy243]; with_reducible exact H) | (have H2_ := (Option.bind_some _ _).symm.trans H; rw [hy243]; with_reducible exact H2_) | (have H2_ := (Option.bind_some _ _).symm.trans H; with_reducible exact H2_) | with_reducible exact H | (rw [hy243]; exact H) | exact H
     have Ny243 := mk0 hy243
     clear hy243
     have H' := mk0 H
     clear H
     obtain ⟨Ao7, co7, eo7⟩ := Kd.R_slice HO_0.out
     subst eo7
     have p241 : 0 ≤ (x4_1 : Int) := of_decide_eq_true uI
     have q241 : x4_1 < (x0_1.length : Int) := of_decide_eq_true uI
     obtain ⟨ad241, e241, hx241_0⟩ := Kd.at_int (Kd.R_reads' HO_0.out).2.2 x4_1 p241 q241
     cases e241
     replace p241 := eq_true p241
     replace q241 := eq_true q241
     go_wp2_with (first | ((with_reducible refine gate_callee (f := 67) rfl ?_); refine goesL_ (some 18) rfl rfl Try.func67 uT rfl #[.int .i64 (rd x0_1 x4_1), .int .i64 a1] rfl uk ?_; (with_reducible refine (ossuaryref1_mul.calls k1 (rd x0_1 x4_1) a1 t242 _ A5.out).mono ?_); rintro e w' ⟨rfl, ⟨nd, rfl⟩⟩; refine ⟨_, rfl, ?_⟩; (try (rw [drewN_self wr]; generalize hq_ : World.drewN wr _ = wr; have n0_ : Aside0 (Kd.R (Kd.int .i64) 3 wr w0.heap.size (fun k_ => (P0_ k_ ∨ w.heap.size ≤ k_)) (.slice (some ad241) x0_1.length co7) x0_1) := ⟨by rw [← hq_]; exact (rB HO_0.out)⟩; have n1_ : Aside0 (Kept w wr (fun k_ => P0_ k_)) := ⟨by rw [← hq_]; exact um⟩; have n2_ : Aside0 (Below w0.heap.size w0 wr) := ⟨by rw [← hq_]; exact ut⟩; clear HO_0 HK HB hq_; have HO_0 := n0_; have HK := n1_; have HB := n2_; clear n0_ n1_ n2_)); have p6 : 0 ≤ (x4_1 : Int) := of_decide_eq_true uI; have q6 : (x4_1 : Int) < ((x0_1.length : Int) : Int) := of_decide_eq_true uI; obtain ⟨go6, co6, eo6, gb6, gl6, cl6, HG6⟩ := Kd.R_form HO_0.out uV; (first | cases eo6 | (injection eo6 with ea_ en_ ec_; (first | subst ea_ | (injection ea_ with ea_; subst ea_)); subst ec_; clear en_)); have GB6 := mk0 gb6; have GG6 := mk0 HG6; clear gb6 gl6 HG6; have HMgo6 := mk0 (show (P0_ go6 ∨ w.heap.size ≤ go6) from (HO_0.out.1 _ rfl)); (first | simp only [add_plain] at hx241_0 | skip); obtain ⟨hx6_0, hf6_0⟩ := Kd.R_celln 0 HO_0.out (x4_1 : Int) p6 q6; replace p6 := eq_true p6; replace q6 := eq_true q6; obtain ⟨hy8_, hz8_⟩ := Kd.R_celln 0 HO_0.out (x4_1 : Int) (of_decide_eq_true uI) (of_decide_eq_true uI); have HP8 := Kd.R_putg HO_0.out (x4_1 : Int) t242) | ((with_reducible refine gate_store (t := 3) (p := 19) rfl ?_); refine store_event (t := 3) (p := 19) (v := ?vo_w9) (w1 := (wr.setCell ⟨go6, (x4_1 : Int).toNat, none⟩ (.int .i64 t242))) ?hg ?ho ?hn ?hr ?_; (case ho => rfl); (case hg => rfl); (case hn => rfl); (case hr => first | (go_simp; done) | (go_simp; rfl)); intro w9 hw; have hg : wr.grownBy w9 (some go6) := (by rw [hw]; exact HP8.2); have hp_ : Kd.R (Kd.int .i64) 3 w9 w0.heap.size (fun k_ => (P0_ k_ ∨ w.heap.size ≤ k_)) (.slice (some ⟨go6, 0, none⟩) x0_1.length co7) y243 := (by rw [hw, Ny243.out]; exact HP8.1); clear HP8; replace HB := mk0 ((by rw [hw]; exact below_set (HB.out) GB6.out : Below w0.heap.size w0 w9)); replace HK := mk0 (Kept.of_grown (S := (fun k_ => P0_ k_)) hg um (fun k_ e_ => (HO_0.out.1 k_ e_))); replace HO_0 := mk0 (hp_); clear hg hw hp_))
     go_roundg k1
     case measure => have := HK1.out; omega
     case rel => exact ⟨(y243), (wrap64 (x4_1 + 1)), uJ, H', ⟨uQ⟩, ⟨rB HO_0.out⟩, ⟨um⟩, ⟨ut⟩⟩
    ·rw [if_neg c4] at H
     exact absurd H qa
   ·rw [if_neg c3] at H
    have c3b0 : decide (x4_1 < (x0_1.length : Int)) = false := decide_eq_false c3
    clear c3
    obtain rfl := Option.some.inj H
    obtain ⟨Ao10, co10, eo10⟩ := Kd.R_slice HO_0.out
    subst eo10
    go_wp2
    first | go_end0 | ((try simp only [Exit.inBlock, Exit.then]); refine bodyPost_ret (results_none rfl _ _ _) rfl ?_)
    exact ⟨uz, rB HO_0.out, ut, um⟩
def ossuaryref1_less.l0 : Nat → List Int → List Int → Int → Int → Option (List Int)
 | 0, _, _, _, _ => none
 | k + 1, x0, x1, x2, x6 => if x6 < (x0.length : Int) then (if 0 ≤ x6 then (if x6 < (x1.length : Int) then ((ossuaryref1_mul.f k (rd x1 x6) x2).bind fun t246 => (ossuaryref1_less.l0 k (x0.set (x6 : Int).toNat (Go.bits .xor .i64 (rd x0 x6) t246)) x1 x2 (wrap64 (x6 + 1)))) else (none)) else (none)) else (some x0)
def ossuaryref1_less.f (k : Nat) (l0 : List Int) (l1 : List Int) (a2 : Int) : Option (List Int) := ossuaryref1_less.l0 k l0 l1 a2 0
theorem ossuaryref1_less.mono_l : ∀ k, (∀ y0 y1 y2 y3, LeO (ossuaryref1_less.l0 k y0 y1 y2 y3) (ossuaryref1_less.l0 (k + 1) y0 y1 y2 y3))
 | 0 => fun _ _ _ _ r h => by simp [ossuaryref1_less.l0] at h
 | k + 1 => by
  have ih0 := ossuaryref1_less.mono_l k
  ·intro y0 y1 y2 y3
   unfold ossuaryref1_less.l0
   repeat' with_reducible first | exact ih0 _ _ _ _ | exact ossuaryref1_mul.mono _ _ _ | exact LeO.refl _ | exact LeO.none _ | refine LeO.ite ?_ ?_ | refine LeO.bind ?_ (fun _ => ?_)
theorem ossuaryref1_less.mono : ∀ a0 a1 a2 k, LeO (ossuaryref1_less.f k a0 a1 a2) (ossuaryref1_less.f (k + 1) a0 a1 a2) := by
 intro a0 a1 a2 k
 have ih0 := ossuaryref1_less.mono_l k
 unfold ossuaryref1_less.f
 repeat' with_reducible first | exact ih0 _ _ _ _ | exact ossuaryref1_mul.mono _ _ _ | exact LeO.refl _ | exact LeO.none _ | refine LeO.ite ?_ ?_ | refine LeO.bind ?_ (fun _ => ?_)
def ossuaryref1_less.T3 : Bool × List (List Nat × List Nat) := (true, [([], []), ([], []), ([], []), ([], []), ([2, 3], [2, 3]), ([4], [4]), ([], []), ([], []), ([6, 7], [6, 7]), ([8], [8]), ([], []), ([9, 10], [9, 10]), ([5, 11], [5, 11]), ([0, 1, 0, 1, 2, 3, 4, 5, 6, 7, 8, 9, 10, 11, 12], [0, 1]), ([13, 12, 11, 0, 1, 2, 3, 4, 5, 6, 7, 8, 9, 10, 11, 12], [12, 13])])
def ossuaryref1_less.B3 : List Nat := [0, 0, 0, 0, 12, 28, 0, 0, 192, 448, 0, 1984, 4092, 8191, 16383]
theorem ossuaryref1_less.tab3 : rtab .any (opsOf Try.f85 3) = ossuaryref1_less.T3 := by kernel_rfl
theorem ossuaryref1_less.bits3 : waitsOk ossuaryref1_less.T3.2 ossuaryref1_less.B3 = true := by kernel_rfl
set_option maxHeartbeats 8000000 in
set_option maxRecDepth 100000 in
theorem ossuaryref1_less.calls (k : Nat) (P0_ : Nat → Prop) (u9000_ : Value) (l0 : List Int) (A1 : Option Addr) (c1 : Nat) (l1 : List Int) (a2 : Int) (r : List Int) (w0 w : World) (hB : Below w0.heap.size w0 w) (ho0 : Kd.R (Kd.int .i64) 3 w w0.heap.size P0_ u9000_ l0) (hr1 : ∀ W_, Kept w W_ (fun k_ => P0_ k_) → Kd.C (Kd.int .i64) W_ A1 l1.length l1) (hc1 : l1.length ≤ c1) (h : ossuaryref1_less.f k l0 l1 a2 = some r) :
  Calls Try.prog 85 #[u9000_, .slice A1 l1.length c1, .int .i64 a2] w fun e w' => e = .returned (.tuple #[]) ∧ Kd.R (Kd.int .i64) 3 w' w0.heap.size (fun k_ => (P0_ k_ ∨ w.heap.size ≤ k_)) u9000_ r ∧ Below w0.heap.size w0 w' ∧ Kept w w' (fun k_ => P0_ k_) := by
 have HO0 := mk0 (show Kd.R (Kd.int .i64) 3 w w0.heap.size (fun k_ => (P0_ k_ ∨ w.heap.size ≤ k_)) u9000_ l0 from Kd.R_mono ho0 (fun k_ hk => (.inl hk)))
 have HR1 := mk0 hr1
 have HC1 := mk0 hc1
 clear hr1 hc1
 have HK := mk0 (Kept.refl w (fun k_ => P0_ k_))
 have HW0 := mk0 hB.size
 have HB := mk0 hB
 clear hB
 have H : (ossuaryref1_less.l0 k l0 l1 a2 0) = some r := h
 clear h
 have H' := mk0 H
 clear H
 go_enter Try.func85, Try.ntmps85
 go_wp2
 go_loopg [6] k (fun kq v6 w' => ∃ (x0_1 : List Int) (x6_1 : Int), v6 = .int .i64 x6_1 ∧ Aside0 (ossuaryref1_less.l0 kq x0_1 l1 a2 x6_1 = some r) ∧ Aside0 (kq ≤ k) ∧ Aside0 (Kd.R (Kd.int .i64) 3 w' w0.heap.size (fun k_ => (P0_ k_ ∨ w.heap.size ≤ k_)) u9000_ x0_1) ∧ Aside0 (Kept w w' (fun k_ => P0_ k_)) ∧ Aside0 (Below w0.heap.size w0 w'))
 case atStart => exact ⟨(l0), (0), uJ, H', ⟨Nat.le_refl _⟩, ⟨rB HO0.out⟩, ⟨um⟩, ⟨ut⟩⟩
 case round =>
  clear H'
  try clear c1
  try clear p2
  obtain ⟨x0_1, x6_1, rfl, HA, HK1, HO_0, HK, HB⟩ := hrel
  cases gk with
  | zero => exact absurd HA.out (by simp [ossuaryref1_less.l0])
  | succ k1 =>
   have H := HA.out
   clear HA
   simp only [ossuaryref1_less.l0] at H
   by_cases c4 : x6_1 < (x0_1.length : Int)
   ·rw [if_pos c4] at H
    have c4b0 : decide (x6_1 < (x0_1.length : Int)) = true := decide_eq_true c4
    clear c4
    by_cases c5 : 0 ≤ x6_1
    ·rw [if_pos c5] at H
     have c5b0 : decide (0 ≤ x6_1) = true := decide_eq_true c5
     clear c5
     by_cases c6 : x6_1 < (l1.length : Int)
     ·rw [if_pos c6] at H
      have c6b0 : decide (x6_1 < (l1.length : Int)) = true := decide_eq_true c6
      clear c6
      replace H := Option.bind_eq_some_iff.mp H
      obtain ⟨t246, A70, H⟩ := H
      replace H : (ossuaryref1_less.l0 k1 (x0_1.set (x6_1 : Int).toNat (Go.bits .xor .i64 (rd x0_1 x6_1) t246)) l1 a2 (wrap64 (x6_1 + 1))) = some r := H
      have A7 := mk0 A70
      clear A70
      obtain ⟨y247, hy247⟩ : ∃ y_ : List Int, y_ = (x0_1.set (x6_1 : Int).toNat (Go.bits .xor .i64 (rd x0_1 x6_1) t246)) := ⟨_, rfl⟩
      replace H : (ossuaryref1_less.l0 k1 y247 l1 a2 (wrap64 (x6_1 + 1))) = some r := by first | (rw [hy247]; with_reducible exact H) | (have H2_ := (Option.bind_some _ _).symm.trans H; rw [hy247]; with_reducible exact H2_) | (have H2_ := (Option.bind_some _ _).symm.trans H; with_reducible exact H2_) | with_reducible exact H | (rw [hy247]; exact H) | exact H
      have Ny247 := mk0 hy247
      clear hy247
      have H' := mk0 H
      clear H
      obtain ⟨Ao9, co9, eo9⟩ := Kd.R_slice HO_0.out
      subst eo9
      try go_wp2
      replace HO_0 := mk0 (Kd.R_drew HO_0.out)
      replace HK := mk0 (Kept.drew HK.out)
      replace HB := mk0 (below_drew1 HB.out)
      have p244 : 0 ≤ (x6_1 : Int) := of_decide_eq_true uI
      have q244 : x6_1 < (x0_1.length : Int) := of_decide_eq_true uI
      obtain ⟨ad244, e244, hx244_0⟩ := Kd.at_int (Kd.R_reads' HO_0.out).2.2 x6_1 p244 q244
      cases e244
      replace p244 := eq_true p244
      replace q244 := eq_true q244
      have p245 : 0 ≤ (x6_1 : Int) := of_decide_eq_true uI
      have q245 : x6_1 < (l1.length : Int) := of_decide_eq_true uI
      obtain ⟨ad245, e245, hx245_0⟩ := Kd.at_int (Kd.C_kept_now HR1.out HK.out) x6_1 p245 q245
      have hw245_0 := hx245_0
      cases e245
      replace p245 := eq_true p245
      replace q245 := eq_true q245
      refine start_ (n := 15) (S := fun w' => w'.cell? (ad244.add (x6_1).toNat) = some (.int .i64 (rd x0_1 x6_1)) ∧ w'.cell? (ad245.add (x6_1).toNat) = some (.int .i64 (rd l1 x6_1))) (ds := [14]) (bz 15 0) uT rfl rfl ⟨hx244_0, (Kd.foot_int (HR1.out _ (by repeat (first | exact HK.out | apply Kept.alloc | apply Kept.drewN | apply Kept.drew | refine Kept.setCell ?_ HMgo8.out _))) x6_1 (of_eq_true p245) (of_eq_true q245))⟩ (fun hHeld => ?_); refine with_tabW ossuaryref1_less.tab3 ossuaryref1_less.bits3 (fun HT_ HW_ => ?_)
      generalize wr.drew = w10 at HO_0 HK HB hx244_0 hx245_0 hHeld ⊢
      refine pU 0 13 (bz 15 1) HT_.out ?_
      refine pU 1 14 (bz 15 3) HT_.out ?_
      refine pU 2 15 (bz 15 7) HT_.out ?_
      refine pU 3 16 (bz 15 15) HT_.out ?_
      refine pU 4 17 (bz 15 31) HT_.out ?_
      refine pU 6 19 (bz 15 95) HT_.out ?_
      refine pU 7 20 (bz 15 223) HT_.out ?_
      refine pU 8 21 (bz 15 479) HT_.out ?_
      refine pU 10 23 (bz 15 1503) HT_.out ?_
      refine pT2 5 18 (bz 15 1535) HT_.out HW_.out hHeld ?_
      refine pT2 9 22 (bz 15 2047) HT_.out HW_.out hHeld ?_
      refine one_ (i := 11) (N := some 24) (bz 15 4095) rfl rfl (pO HT_.out) uZ (fun K hK => ?_)
      refine goes_ Try.func67 uT rfl #[.int .i64 (rd l1 x6_1), .int .i64 a2] uW rfl rfl uk ?_
      with_reducible refine (ossuaryref1_mul.calls k1 (rd l1 x6_1) a2 t246 _ A7.out).mono ?_
      rintro e w' ⟨rfl, ⟨nd, rfl⟩⟩
      refine ⟨_, rfl, ?_⟩
      have p8 : 0 ≤ (x6_1 : Int) := of_decide_eq_true uI
      have q8 : (x6_1 : Int) < ((x0_1.length : Int) : Int) := of_decide_eq_true uI
      obtain ⟨go8, co8, eo8, gb8, gl8, cl8, HG8⟩ := Kd.R_form HO_0.out uV
      (first | cases eo8 | (injection eo8 with ea_ en_ ec_; (first | subst ea_ | (injection ea_ with ea_; subst ea_)); subst ec_; clear en_))
      have GB8 := mk0 gb8
      have GG8 := mk0 HG8
      clear gb8 gl8 HG8
      have HMgo8 := mk0 (show (P0_ go8 ∨ w.heap.size ≤ go8) from (HO_0.out.1 _ rfl))
      (first | simp only [add_plain] at hx244_0 | skip)
      obtain ⟨hx8_0, hf8_0⟩ := Kd.R_celln 0 HO_0.out (x6_1 : Int) p8 q8
      replace p8 := eq_true p8
      replace q8 := eq_true q8
      have HP11 := Kd.R_putn HO_0.out (x6_1 : Int) (Go.bits .xor .i64 (rd x0_1 x6_1) t246)
      rw [← Ny247.out] at HP11
      have HQ11 := mk0 HP11
      clear HP11
      refine hK.out _ _ ⟨hHeld.1, (Kd.foot_int (HR1.out _ (by repeat (first | exact HK.out | apply Kept.alloc | apply Kept.drewN | apply Kept.drew | refine Kept.setCell ?_ HMgo8.out _))) x6_1 (of_eq_true p245) (of_eq_true q245))⟩ (fun hHeld => ?_)
      clear hK K
      refine pM (some 24) ?_
      refine pU 12 25 (bz 15 8191) HT_.out ?_
      refine pU 13 26 (bz 15 16383) HT_.out ?_
      refine last_ (i := 14) (N := none) (bz 15 32767) rfl rfl (pO HT_.out) uZ (fun K hK => ?_)
      refine skip_ (w1 := ?_) uW rfl ?_ ?_
      rotate_left
      ·go_simp
       rfl
      refine hK.out _ _ ?_
      clear hK K
      refine done_ (done_of HT_.out uT) ?_
      try go_wp2
      go_roundg k1
      case measure => have := HK1.out; omega
      case rel => exact ⟨(y247), (wrap64 (x6_1 + 1)), uJ, H', ⟨uQ⟩, ⟨rB HQ11.out⟩, ⟨by repeat (first | (with_reducible first | exact HK.out | apply Kept.alloc | apply Kept.drewN | apply Kept.drew | refine Kept.setCell ?_ HMgo8.out _) | exact HK.out)⟩, ⟨by repeat (first | (with_reducible first | exact HB.out | apply lA | apply lN | apply lD | refine below_set ?_ GB8.out) | exact HB.out)⟩⟩
     ·rw [if_neg c6] at H
      exact absurd H qa
    ·rw [if_neg c5] at H
     exact absurd H qa
   ·rw [if_neg c4] at H
    have c4b0 : decide (x6_1 < (x0_1.length : Int)) = false := decide_eq_false c4
    clear c4
    obtain rfl := Option.some.inj H
    obtain ⟨Ao12, co12, eo12⟩ := Kd.R_slice HO_0.out
    subst eo12
    go_wp2
    first | go_end0 | ((try simp only [Exit.inBlock, Exit.then]); refine bodyPost_ret (results_none rfl _ _ _) rfl ?_)
    exact ⟨uz, rB HO_0.out, ut, um⟩
end Go.Proofs.Ytaahnicjjpddjaa.GRef
