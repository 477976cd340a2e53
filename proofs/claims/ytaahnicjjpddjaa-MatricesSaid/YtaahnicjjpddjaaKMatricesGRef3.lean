/- Functions of the program as Lean functions, each with a proof that its call comes to what the function says. No condition. -/
import Derived.Test.YtaahnicjjpddjaaKMatricesGRef0
namespace Go.Proofs.Ytaahnicjjpddjaa.GRef
open Go.Proofs.Ytaahnicjjpddjaa.Fn
open Go.Proofs.Ytaahnicjjpddjaa
open Go.RowKit Go.Proofs.YtaahnicjjpddjaaW.PrintWords Go.Proofs.YtaahnicjjpddjaaW.PrintLast Go.Proofs.YtaahnicjjpddjaaW.PrintMore
attribute [local go_sem] max2_int min2_int max_two min_two max_three min_three max_four min_four   -- for this text's walks alone
set_option linter.unusedVariables false
set_option linter.unusedSimpArgs false
def ossuaryref1_blank.l0 : Nat → Int → Int → Int → List (List Int) → Option ((List (List Int)))
 | 0, _, _, _, _ => none
 | k + 1, x0, x1, x6, x129000 => if x6 < x0 then (if 0 ≤ x1 then (if (x1 : Int).toNat ≤ 35184372088832 then (if x129000.length < 5864062014805 then (ossuaryref1_blank.l0 k x0 x1 (wrap64 (x6 + 1)) (x129000 ++ [(List.replicate (x1 : Int).toNat 0)])) else (none)) else (none)) else (none)) else (some x129000)
def ossuaryref1_blank.f (k : Nat) (a0 : Int) (a1 : Int) : Option ((List (List Int))) := ossuaryref1_blank.l0 k a0 a1 0 ([] : List (List Int))
theorem ossuaryref1_blank.mono_l : ∀ k, (∀ y0 y1 y2 y3, LeO (ossuaryref1_blank.l0 k y0 y1 y2 y3) (ossuaryref1_blank.l0 (k + 1) y0 y1 y2 y3))
 | 0 => fun _ _ _ _ r h => by simp [ossuaryref1_blank.l0] at h
 | k + 1 => by
  have ih0 := ossuaryref1_blank.mono_l k
  ·intro y0 y1 y2 y3
   unfold ossuaryref1_blank.l0
   repeat' with_reducible first | exact ih0 _ _ _ _ | exact LeO.refl _ | exact LeO.none _ | refine LeO.ite ?_ ?_ | refine LeO.bind ?_ (fun _ => ?_)
theorem ossuaryref1_blank.mono : ∀ a0 a1 k, LeO (ossuaryref1_blank.f k a0 a1) (ossuaryref1_blank.f (k + 1) a0 a1) := by
 intro a0 a1 k
 have ih0 := ossuaryref1_blank.mono_l k
 unfold ossuaryref1_blank.f
 repeat' with_reducible first | exact ih0 _ _ _ _ | exact LeO.refl _ | exact LeO.none _ | refine LeO.ite ?_ ?_ | refine LeO.bind ?_ (fun _ => ?_)
def ossuaryref1_blank.T5 : Bool × List (List Nat × List Nat) := (true, [([], []), ([0], [0]), ([], []), ([2, 2], [2]), ([3], [3]), ([1, 4], [1, 4]), ([0, 1, 2, 3, 4, 5], []), ([6, 5, 5, 0, 1, 2, 3, 4, 5], [5, 6])])
def ossuaryref1_blank.B5 : List Nat := [0, 1, 0, 4, 12, 31, 63, 127]
theorem ossuaryref1_blank.tab5 : rtab .any (opsOf Try.f66 5) = ossuaryref1_blank.T5 := by kernel_rfl
theorem ossuaryref1_blank.bits5 : waitsOk ossuaryref1_blank.T5.2 ossuaryref1_blank.B5 = true := by kernel_rfl
set_option maxHeartbeats 8000000 in
set_option maxRecDepth 100000 in
theorem ossuaryref1_blank.calls (k : Nat) (a0 : Int) (a1 : Int) (r : List (List Int)) (w : World) (h : ossuaryref1_blank.f k a0 a1 = some r) :
  Calls Try.prog 66 #[.int .i64 a0, .int .i64 a1] w fun e w' => ∃ v0_ : Value, e = .returned (.agg #[v0_]) ∧ Kd.S (Kd.slice 3 (Kd.int .i64)) 25 w' w.heap.size (fun _ => True) v0_ r ∧ Below w.heap.size w w' := by
 have hu24 := Try.underlying24
 have HB := mk0 (Below.refl w.heap.size w)
 have H : (ossuaryref1_blank.l0 k a0 a1 0 ([] : List (List Int))) = some r := h
 clear h
 have H' := mk0 H
 clear H
 go_enter Try.func66, Try.ntmps66
 go_wp2_with (first | ((with_reducible refine gate_dst (N := 4) rfl ?_); refine box_event uT (N := 4) uT (cs := #[.slice none 0 0]) (t := 24) uK ?_; intro gb127 hg w3 hbox hb; have BK127 := mk0 (hbox); have GW127 := mk0 (nB hg HB); have GE127 := mk0 (nB hg HB); replace HB := mk0 (below_step uy hb); clear hb hbox hg) | ((with_reducible refine gate_dst (N := 5) rfl ?_); refine box_event uT (N := 5) uT (cs := #[.slice none 0 0]) (t := 24) uK ?_; intro gb128 hg w4 hbox hb; have BK128 := mk0 (hbox); have GW128 := mk0 (nB hg HB); have GE128 := mk0 (nB hg HB); replace HB := mk0 (below_step ul hb); have NB127_128 := mk0 (nF hg BK127.out); have NB128_127 := mk0 (nE hg BK127.out); replace BK127 := bK BK127 hb; clear hb hbox hg))
 go_loopg [6] k (fun kq v6 w' => ∃ (x6_1 : Int) (x129000_1 : List (List Int)) (u129000 : Value), v6 = .int .i64 x6_1 ∧ Aside0 (ossuaryref1_blank.l0 kq a0 a1 x6_1 x129000_1 = some r) ∧ Aside0 (kq ≤ k) ∧ Aside0 (Kd.S (Kd.slice 3 (Kd.int .i64)) 25 w' w.heap.size (fun _ => True) u129000 x129000_1) ∧ Aside0 (w'.heap[gb127]? = some (.cells #[(.slice none 0 0)] 24 (0, 0))) ∧ Aside0 (w'.heap[gb128]? = some (.cells #[u129000] 24 (0, 0))) ∧ Aside0 (Below w.heap.size w w'))
 case atStart => exact ⟨(0), (([] : List (List Int))), (.slice none 0 0), uJ, H', ⟨Nat.le_refl _⟩, ⟨uh⟩, ⟨bB BK127.out⟩, ⟨bB BK128.out⟩, ⟨ul⟩⟩
 case round =>
  clear H'
  try clear p2
  obtain ⟨x6_1, x129000_1, u129000, rfl, HA, HK1, HO_129000, BK127, BK128, HB⟩ := hrel
  cases gk with
  | zero => exact absurd HA.out (by simp [ossuaryref1_blank.l0])
  | succ k1 =>
   have H := HA.out
   clear HA
   simp only [ossuaryref1_blank.l0] at H
   by_cases c5 : x6_1 < a0
   ·rw [if_pos c5] at H
    have c5b0 : decide (x6_1 < a0) = true := decide_eq_true c5
    clear c5
    by_cases c6 : 0 ≤ a1
    ·rw [if_pos c6] at H
     have c6b0 := eq_true c6
     have c6b1 : decide (0 ≤ a1) = true := decide_eq_true c6
     clear c6
     by_cases c7 : (a1 : Int).toNat ≤ 35184372088832
     ·rw [if_pos c7] at H
      have c7b0 := eq_true c7
      have c7b1 : decide ((a1 : Int).toNat ≤ 35184372088832) = true := decide_eq_true c7
      clear c7
      obtain ⟨y129, hy129⟩ : ∃ y_ : List Int, y_ = (List.replicate (a1 : Int).toNat 0) := ⟨_, rfl⟩
      replace H : (if x129000_1.length < 5864062014805 then (ossuaryref1_blank.l0 k1 a0 a1 (wrap64 (x6_1 + 1)) (x129000_1 ++ [y129])) else (none)) = some r := by first | (rw [hy129]; with_reducible exact H) | (have H2_ := (Option.bind_some _ _).symm.trans H; rw [hy129]; with_reducible exact H2_) | (have H2_ := (Option.bind_some _ _).symm.trans H; with_reducible exact H2_) | with_reducible exact H | (rw [hy129]; exact H) | exact H
      have Ny129 := mk0 hy129
      clear hy129
      by_cases c8 : x129000_1.length < 5864062014805
      ·rw [if_pos c8] at H
       have LMc8 := mk0 c8
       clear c8
       obtain ⟨y132, hy132⟩ : ∃ y_ : List (List Int), y_ = (x129000_1 ++ [y129]) := ⟨_, rfl⟩
       replace H : (ossuaryref1_blank.l0 k1 a0 a1 (wrap64 (x6_1 + 1)) y132) = some r := by first | (rw [hy132]; with_reducible exact H) | (have H2_ := (Option.bind_some _ _).symm.trans H; rw [hy132]; with_reducible exact H2_) | (have H2_ := (Option.bind_some _ _).symm.trans H; with_reducible exact H2_) | with_reducible exact H | (rw [hy132]; exact H) | exact H
       have Ny132 := mk0 hy132
       clear hy132
       have H' := mk0 H
       clear H
       try go_wp2
       replace HO_129000 := mk0 (Kd.S_drew HO_129000.out)
       replace BK127 := mk0 (blk_drew BK127.out)
       replace BK128 := mk0 (blk_drew BK128.out)
       replace HB := mk0 (below_drew1 HB.out)
       refine start_ (n := 8) (S := fun w' => w'.cell? ⟨gb128, 0, none⟩ = some (u129000)) (ds := [7]) (bz 8 0) uP rfl rfl ((blk_cell BK128.out 0).trans rfl) (fun hHeld => ?_); refine with_tabW ossuaryref1_blank.tab5 ossuaryref1_blank.bits5 (fun HT_ HW_ => ?_)
       generalize wr.drew = w9 at HO_129000 BK127 BK128 HB hHeld ⊢
       refine pU 0 12 (bz 8 1) HT_.out ?_
       refine pU 2 14 (bz 8 5) HT_.out ?_
       refine pT1 1 13 (bz 8 7) HT_.out HW_.out hHeld ?_
       refine one_ (i := 3) (N := some 15) (bz 8 15) rfl rfl (pO HT_.out) uQ (fun K hK => ?_)
       refine Kd.R_make_step (Kd.int .i64) _ 3 uT (N := 15) rfl 25 _ _ rfl a1 rfl rfl Try.underlying25 (.int .i64 0) 8 info3 rfl uQ uR 0 (ok := fun _ => True) (okp := fun _ => True) rfl (fun _ hk => hk) trivial (of_decide_eq_true uI) (Nat.le_trans (Nat.mul_le_mul_right _ (of_decide_eq_true uI : a1.toNat ≤ 35184372088832)) uR) (Below.refl _ _) (Nat.le_refl _) ?_
       intro v130 w10 ho11 hb hg_ hnew_
       clear hg_ hnew_
       (first | rw [← Ny129.out] at ho11 | (simp only [Int.reduceToNat] at ho11; rw [← Ny129.out] at ho11))
       replace HO_129000 := mk0 (Kd.S_elder' (sB HO_129000.out) (Kd.R_base ho11) hb)
       have HO131 := mk0 (Kd.R_lower ho11 (below_size ul))
       replace BK127 := bK BK127 hb
       replace BK128 := bK BK128 hb
       replace HB := mk0 (below_step ul hb)
       clear hb ho11
       obtain ⟨Ao13, co13, eo13⟩ := Kd.R_slice HO131.out
       (first | subst eo13 | (injection eo13 with f1_ f2_ f3_; have f4_ := f1_.symm; have f5_ := f3_.symm; clear f1_ f2_ f3_; subst f4_; subst f5_))
       refine hK.out _ _ ((blk_cell BK128.out 0).trans rfl) (fun hHeld => ?_)
       clear hK K
       refine pM (some 15) ?_
       refine one_ (i := 4) (N := some 16) (bz 8 31) rfl rfl (pO HT_.out) uQ (fun K hK => ?_)
       refine value_ (w1 := ?_) (v := ?_) uT rfl ?_ ?_
       rotate_left 2
       ·go_simp
        constructor
        ·rfl
        ·rfl
       refine hK.out _ _ ((blk_cell (blk_alloc BK128.out _) 0).trans rfl) (fun hHeld => ?_)
       clear hK K
       refine pM (some 16) ?_
       refine one_ (i := 5) (N := some 17) (bz 8 63) rfl rfl (pO HT_.out) uQ (fun K hK => ?_)
       refine Kd.S_append_step (Kd.slice 3 (Kd.int .i64)) (w0 := w) w.heap.size uT (.tmp 13) (.tmp 16) 22 25 (.slice none 0 0) 24 rfl Try.underlying22 info25 rfl uQ uR u129000 x129000_1 y129 [.slice Ao13 y129.length co13] (fun _ => True) (fun k_ => some k_ = (.slice Ao13 y129.length co13 : Value).ownBlock) rfl rfl ?aP (fun k_ hk_ => ((Kd.R_mono (ok' := fun k_ => ((fun _ => True)) k_ ∧ some k_ ≠ (u129000 : Value).ownBlock) (Kd.R_apart' (HO131.out) (Kd.S_typed HO_129000.out) uQ) (fun k_ hk => ⟨trivial, hk.2⟩))).1 k_ hk_.symm) ?aF ?aO ?aB ?aS ?aL ?_
       (case aP => exact Kd.M_row (Kd.R_mono (Kd.R_tight rfl (Kd.R_mono (ok' := fun k_ => ((fun _ => True)) k_ ∧ some k_ ≠ (u129000 : Value).ownBlock) (Kd.R_apart' (HO131.out) (Kd.S_typed HO_129000.out) uQ) (fun k_ hk => ⟨trivial, hk.2⟩))) (fun _ h_ => h_)))
       (case aB => exact ul)
       (case aF => exact (fun _ _ => trivial))
       (case aO => exact (by (with_reducible repeat (first | apply sA | apply sN | apply sD)); exact Kd.S_mono HO_129000.out (fun k_ hk => ⟨trivial, fun e_ => hk.2 e_⟩)))
       (case aS => exact (below_size ul))
       (case aL => have := LMc8.out; omega)
       intro v133 w12 ho hb hg hat
       rw [← Ny132.out] at ho
       replace BK127 := mk0 (blk_grown (g := gb127) (o := .cells #[.slice none 0 0] 24 (0, 0)) (bB BK127.out) hg (Kd.S_ne HO_129000.out BK127.out uQ))
       replace BK128 := mk0 (blk_grown (g := gb128) (o := .cells #[u129000] 24 (0, 0)) (bB BK128.out) hg (Kd.S_ne HO_129000.out BK128.out uQ))
       replace HB := mk0 (hb)
       have HO134 := mk0 (ho)
       clear HO_129000 HO131 ho hb hg hat
       obtain ⟨Ao14, co14, eo14⟩ := Kd.S_slice HO134.out
       (first | subst eo14 | (injection eo14 with f1_ f2_ f3_; have f4_ := f1_.symm; have f5_ := f3_.symm; clear f1_ f2_ f3_; subst f4_; subst f5_))
       refine hK.out _ _ ((blk_cell BK128.out 0).trans rfl) (fun hHeld => ?_)
       clear hK K
       refine pM (some 17) ?_
       refine pU 6 18 (bz 8 127) HT_.out ?_
       refine last_ (i := 7) (N := none) (bz 8 255) rfl rfl (pO HT_.out) uQ (fun K hK => ?_)
       have hs15 : w12.cell? ⟨gb128, 0, none⟩ = some (u129000) := (blk_cell BK128.out 0).trans rfl
       have hfs15 := blk_frozen BK128.out 0
       have hns15_0 := NB127_128.out
       have hms15_0 := NB128_127.out
       refine skip_ (w1 := ?_) uT rfl ?_ ?_
       rotate_left
       ·go_simp
        rfl
       refine hK.out _ _ ?_
       clear hK K
       refine done_ (done_of HT_.out uP) ?_
       try go_wp2
       go_roundg k1
       case measure => have := HK1.out; omega
       case rel => exact ⟨(wrap64 (x6_1 + 1)), (y132), (.slice Ao14 y132.length co14), uJ, H', ⟨uO⟩, ⟨by (with_reducible repeat (first | apply sA | apply sN | apply sD)); exact Kd.S_mono (Kd.S_far (p := ⟨gb128, 0, none⟩) (Kd.S_types HO134.out BK128.out uQ) (fun _ hk => hk.2) (.slice Ao14 y132.length co14)) (fun _ hk => trivial)⟩, ⟨by refine bB ?_; refine blk_far ?_ NB127_128.out _; refine bB ?_; exact BK127.out⟩, ⟨by refine bB ?_; refine blk_put (cs := #[u129000]) ?_ 0 _ rfl; refine bB ?_; exact BK128.out⟩, ⟨ul⟩⟩
      ·rw [if_neg c8] at H
       exact absurd H uS
     ·rw [if_neg c7] at H
      exact absurd H uS
    ·rw [if_neg c6] at H
     exact absurd H uS
   ·rw [if_neg c5] at H
    have c5b0 : decide (x6_1 < a0) = false := decide_eq_false c5
    clear c5
    obtain rfl := Option.some.inj H
    have hnb16 := NB128_127.out
    have hnc16 := NB127_128.out
    have hcz17_0 : wr.cell? ⟨gb128, 0, none⟩ = some (u129000) := (blk_cell BK128.out 0).trans rfl
    have hfz17_0 := blk_frozen BK128.out 0
    obtain ⟨Ao18, co18, eo18⟩ := Kd.S_slice HO_129000.out
    subst eo18
    have hcz19_0 : wr.cell? ⟨gb127, 0, none⟩ = some (.slice none 0 0) := (blk_cell BK127.out 0).trans rfl
    have hfz19_0 := blk_frozen BK127.out 0
    go_wp2
    refine bodyPost_ret (results_cell_row rfl _ _ gb127 24 #[.slice Ao18 x129000_1.length co18] (0, 0) _ rfl (by refine bB ?_; refine blk_put (cs := #[.slice none 0 0]) ?_ 0 _ rfl; refine bB ?_; exact BK127.out) Try.underlying24 rfl uP) rfl ?_
    exact ⟨_, uD, by (with_reducible repeat (first | apply sA | apply sN | apply sD)); exact Kd.S_mono (Kd.S_far (p := ⟨gb127, 0, none⟩) (Kd.S_types HO_129000.out BK127.out uQ) (fun _ hk => hk.2) (.slice Ao18 x129000_1.length co18)) (fun _ hk => trivial), ul⟩
def ossuaryref1_mul.l0 : Nat → Int → Int → Int → Int → Option (Int)
 | 0, _, _, _, _ => none
 | k + 1, x0, x1, x5, x6 => if x6 < 8 then (if 0 ≤ x6 then (if (Go.bits .and .i64 (shr .i64 x1 x6) 1) = 1 then (if (wrap64 (x0 * 2)) > 255 then (ossuaryref1_mul.l0 k (Go.bits .xor .i64 (wrap64 (x0 * 2)) 285) x1 (Go.bits .xor .i64 x5 x0) (wrap64 (x6 + 1))) else (ossuaryref1_mul.l0 k (wrap64 (x0 * 2)) x1 (Go.bits .xor .i64 x5 x0) (wrap64 (x6 + 1)))) else (if (wrap64 (x0 * 2)) > 255 then (ossuaryref1_mul.l0 k (Go.bits .xor .i64 (wrap64 (x0 * 2)) 285) x1 x5 (wrap64 (x6 + 1))) else (ossuaryref1_mul.l0 k (wrap64 (x0 * 2)) x1 x5 (wrap64 (x6 + 1))))) else (none)) else (some x5)
def ossuaryref1_mul.f (k : Nat) (a0 : Int) (a1 : Int) : Option (Int) := ossuaryref1_mul.l0 k a0 a1 0 0
theorem ossuaryref1_mul.mono_l : ∀ k, (∀ y0 y1 y2 y3, LeO (ossuaryref1_mul.l0 k y0 y1 y2 y3) (ossuaryref1_mul.l0 (k + 1) y0 y1 y2 y3))
 | 0 => fun _ _ _ _ r h => by simp [ossuaryref1_mul.l0] at h
 | k + 1 => by
  have ih0 := ossuaryref1_mul.mono_l k
  ·intro y0 y1 y2 y3
   unfold ossuaryref1_mul.l0
   repeat' with_reducible first | exact ih0 _ _ _ _ | exact LeO.refl _ | exact LeO.none _ | refine LeO.ite ?_ ?_ | refine LeO.bind ?_ (fun _ => ?_)
theorem ossuaryref1_mul.mono : ∀ a0 a1 k, LeO (ossuaryref1_mul.f k a0 a1) (ossuaryref1_mul.f (k + 1) a0 a1) := by
 intro a0 a1 k
 have ih0 := ossuaryref1_mul.mono_l k
 unfold ossuaryref1_mul.f
 repeat' with_reducible first | exact ih0 _ _ _ _ | exact LeO.refl _ | exact LeO.none _ | refine LeO.ite ?_ ?_ | refine LeO.bind ?_ (fun _ => ?_)
set_option maxHeartbeats 8000000 in
set_option maxRecDepth 100000 in
theorem ossuaryref1_mul.calls (k : Nat) (a0 : Int) (a1 : Int) (r : Int) (w : World) (h : ossuaryref1_mul.f k a0 a1 = some r) :
  Calls Try.prog 67 #[.int .i64 a0, .int .i64 a1] w fun e w' => e = .returned (.int .i64 r) ∧ Drawn0 w w' := by
 have H : (ossuaryref1_mul.l0 k a0 a1 0 0) = some r := h
 clear h
 have H' := mk0 H
 clear H
 go_enter Try.func67, Try.ntmps67
 go_wp2
 go_loopg [0, 5, 6] k (fun kq v0 v5 v6 w' => ∃ (x0_1 : Int) (x5_1 : Int) (x6_1 : Int), v0 = .int .i64 x0_1 ∧ v5 = .int .i64 x5_1 ∧ v6 = .int .i64 x6_1 ∧ Aside0 (ossuaryref1_mul.l0 kq x0_1 a1 x5_1 x6_1 = some r) ∧ Aside0 (kq ≤ k) ∧ Drawn0 w w')
 case atStart => exact ⟨(a0), (0), (0), uJ, uJ, uJ, H', ⟨Nat.le_refl _⟩, uH⟩
 case round =>
  clear H'
  try clear p2
  obtain ⟨x0_1, x5_1, x6_1, rfl, rfl, rfl, HA, HK1, ⟨m1, rfl⟩⟩ := hrel
  cases gk with
  | zero => exact absurd HA.out (by simp [ossuaryref1_mul.l0])
  | succ k1 =>
   have H := HA.out
   clear HA
   simp only [ossuaryref1_mul.l0] at H
   by_cases c3 : x6_1 < 8
   ·rw [if_pos c3] at H
    have c3b0 : decide (x6_1 < 8) = true := decide_eq_true c3
    clear c3
    by_cases c4 : 0 ≤ x6_1
    ·rw [if_pos c4] at H
     have c4b0 := eq_true c4
     have c4b1 : decide (0 ≤ x6_1) = true := decide_eq_true c4
     clear c4
     obtain ⟨ji5, hji5⟩ : ∃ j_ : Int, (shr .i64 a1 x6_1) = j_ := ⟨_, rfl⟩
     replace H : (if (Go.bits .and .i64 (ji5) 1) = 1 then (if (wrap64 (x0_1 * 2)) > 255 then (ossuaryref1_mul.l0 k1 (Go.bits .xor .i64 (wrap64 (x0_1 * 2)) 285) a1 (Go.bits .xor .i64 x5_1 x0_1) (wrap64 (x6_1 + 1))) else (ossuaryref1_mul.l0 k1 (wrap64 (x0_1 * 2)) a1 (Go.bits .xor .i64 x5_1 x0_1) (wrap64 (x6_1 + 1)))) else (if (wrap64 (x0_1 * 2)) > 255 then (ossuaryref1_mul.l0 k1 (Go.bits .xor .i64 (wrap64 (x0_1 * 2)) 285) a1 x5_1 (wrap64 (x6_1 + 1))) else (ossuaryref1_mul.l0 k1 (wrap64 (x0_1 * 2)) a1 x5_1 (wrap64 (x6_1 + 1))))) = some r := by first | (rw [hji5] at H; exact H) | (simp only [hji5] at H ⊢; exact H)
     have hji5_ : (a1 / 2 ^ min x6_1.toNat 64) = ji5 := hji5
     have hji5z : x6_1 ≤ 64 → (a1 / 2 ^ x6_1.toNat) = ji5 := shr_small hji5
     by_cases c6 : (Go.bits .and .i64 (ji5) 1) = 1
     ·rw [if_pos c6] at H
      have c6b0 : ((Go.bits .and .i64 (ji5) 1) == 1) = true := beq_iff_eq.mpr c6
      have c6b1 : ((Go.bits .and .i64 (ji5) 1) != 1) = false := bne_eq_false_iff_eq.mpr c6
      clear c6
      by_cases c7 : (wrap64 (x0_1 * 2)) > 255
      ·rw [if_pos c7] at H
       have c7b0 : decide (255 < (wrap64 (x0_1 * 2))) = true := decide_eq_true c7
       clear c7
       have H' := mk0 H
       clear H
       go_wp2
       go_roundg k1
       case measure => have := HK1.out; omega
       case rel => exact ⟨(Go.bits .xor .i64 (wrap64 (x0_1 * 2)) 285), (Go.bits .xor .i64 x5_1 x0_1), (wrap64 (x6_1 + 1)), uJ, uJ, uJ, H', ⟨uO⟩, uH⟩
      ·rw [if_neg c7] at H
       have c7b0 : decide (255 < (wrap64 (x0_1 * 2))) = false := decide_eq_false c7
       clear c7
       have H' := mk0 H
       clear H
       go_wp2
       go_roundg k1
       case measure => have := HK1.out; omega
       case rel => exact ⟨(wrap64 (x0_1 * 2)), (Go.bits .xor .i64 x5_1 x0_1), (wrap64 (x6_1 + 1)), uJ, uJ, uJ, H', ⟨uO⟩, uH⟩
     ·rw [if_neg c6] at H
      have c6b0 : ((Go.bits .and .i64 (ji5) 1) == 1) = false := beq_eq_false_iff_ne.mpr c6
      have c6b1 : ((Go.bits .and .i64 (ji5) 1) != 1) = true := bne_iff_ne.mpr c6
      by_cases c8 : (wrap64 (x0_1 * 2)) > 255
      ·rw [if_pos c8] at H
       have c8b0 : decide (255 < (wrap64 (x0_1 * 2))) = true := decide_eq_true c8
       clear c8
       have H' := mk0 H
       clear H
       go_wp2
       go_roundg k1
       case measure => have := HK1.out; omega
       case rel => exact ⟨(Go.bits .xor .i64 (wrap64 (x0_1 * 2)) 285), (x5_1), (wrap64 (x6_1 + 1)), uJ, uJ, uJ, H', ⟨uO⟩, uH⟩
      ·rw [if_neg c8] at H
       have c8b0 : decide (255 < (wrap64 (x0_1 * 2))) = false := decide_eq_false c8
       clear c8
       have H' := mk0 H
       clear H
       go_wp2
       go_roundg k1
       case measure => have := HK1.out; omega
       case rel => exact ⟨(wrap64 (x0_1 * 2)), (x5_1), (wrap64 (x6_1 + 1)), uJ, uJ, uJ, H', ⟨uO⟩, uH⟩
    ·rw [if_neg c4] at H
     exact absurd H uS
   ·rw [if_neg c3] at H
    have c3b0 : decide (x6_1 < 8) = false := decide_eq_false c3
    clear c3
    obtain rfl := Option.some.inj H
    go_wp2
    go_ret
    exact ⟨uJ, uH⟩
end Go.Proofs.Ytaahnicjjpddjaa.GRef
