/- Functions of the program as Lean functions, each with a proof that its call comes to what the function says. No condition. -/
import Derived.Test.YtaahnicjjpddjaaKMatricesGRef3
namespace Go.Proofs.Ytaahnicjjpddjaa.GRef
open Go.Proofs.Ytaahnicjjpddjaa.Fn
open Go.Proofs.Ytaahnicjjpddjaa
open Go.RowKit Go.Proofs.YtaahnicjjpddjaaW.PrintWords Go.Proofs.YtaahnicjjpddjaaW.PrintLast Go.Proofs.YtaahnicjjpddjaaW.PrintMore
attribute [local go_sem] max2_int min2_int max_two min_two max_three min_three max_four min_four   -- for this text's walks alone
set_option linter.unusedVariables false
set_option linter.unusedSimpArgs false
mutual
def ossuaryref1_Identity.j0 : Nat → Int → Bool → Option ((List (List Int)) × Int)
 | 0, _, _ => none
 | k + 1, x0, x11 => if x11 = true then (some (([] : List (List Int)), 300)) else ((ossuaryref1_blank.f k x0 x0).bind fun t176 => (ossuaryref1_Identity.l0 k x0 0 t176))
def ossuaryref1_Identity.l0 : Nat → Int → Int → List (List Int) → Option ((List (List Int)) × Int)
 | 0, _, _, _ => none
 | k + 1, x0, x5, x180000 => if x5 < x0 then (if 0 ≤ x5 then (if x5 < (x180000.length : Int) then (if x5 < ((rd_L2 x180000 x5).length : Int) then (ossuaryref1_Identity.l0 k x0 (wrap64 (x5 + 1)) (x180000.set (x5 : Int).toNat ((rd_L2 x180000 x5).set (x5 : Int).toNat 1))) else (none)) else (none)) else (none)) else (some (x180000, 0))
end
def ossuaryref1_Identity.f (k : Nat) (a0 : Int) : Option ((List (List Int)) × Int) := if a0 < 1 then (ossuaryref1_Identity.j0 k a0 true) else (ossuaryref1_Identity.j0 k a0 (decide (a0 > 12)))
theorem ossuaryref1_Identity.mono_l : ∀ k, (∀ y0 y1, LeO (ossuaryref1_Identity.j0 k y0 y1) (ossuaryref1_Identity.j0 (k + 1) y0 y1)) ∧ (∀ y0 y1 y2, LeO (ossuaryref1_Identity.l0 k y0 y1 y2) (ossuaryref1_Identity.l0 (k + 1) y0 y1 y2))
 | 0 => ⟨fun _ _ r h => by simp [ossuaryref1_Identity.j0] at h, fun _ _ _ r h => by simp [ossuaryref1_Identity.l0] at h⟩
 | k + 1 => by
  obtain ⟨ih0, ih1⟩ := ossuaryref1_Identity.mono_l k
  refine ⟨?_, ?_⟩
  ·intro y0 y1
   unfold ossuaryref1_Identity.j0
   repeat' with_reducible first | exact ih0 _ _ | exact ih1 _ _ _ | exact ossuaryref1_blank.mono _ _ _ | exact LeO.refl _ | exact LeO.none _ | refine LeO.ite ?_ ?_ | refine LeO.bind ?_ (fun _ => ?_)
  ·intro y0 y1 y2
   unfold ossuaryref1_Identity.l0
   repeat' with_reducible first | exact ih0 _ _ | exact ih1 _ _ _ | exact ossuaryref1_blank.mono _ _ _ | exact LeO.refl _ | exact LeO.none _ | refine LeO.ite ?_ ?_ | refine LeO.bind ?_ (fun _ => ?_)
theorem ossuaryref1_Identity.mono : ∀ a0 k, LeO (ossuaryref1_Identity.f k a0) (ossuaryref1_Identity.f (k + 1) a0) := by
 intro a0 k
 obtain ⟨ih0, ih1⟩ := ossuaryref1_Identity.mono_l k
 unfold ossuaryref1_Identity.f
 repeat' with_reducible first | exact ih0 _ _ | exact ih1 _ _ _ | exact ossuaryref1_blank.mono _ _ _ | exact LeO.refl _ | exact LeO.none _ | refine LeO.ite ?_ ?_ | refine LeO.bind ?_ (fun _ => ?_)
set_option maxHeartbeats 8000000 in
set_option maxRecDepth 100000 in
theorem ossuaryref1_Identity.calls (k : Nat) (a0 : Int) (r1 : List (List Int)) (r2 : Int) (w : World) (h : ossuaryref1_Identity.f k a0 = some (r1, r2)) :
  Calls Try.prog 33 #[.int .i64 a0] w fun e w' => ∃ v0_ : Value, e = .returned (.tuple #[.agg #[v0_], .int .i64 r2]) ∧ Kd.S (Kd.slice 3 (Kd.int .i64)) 25 w' w.heap.size (fun _ => True) v0_ r1 ∧ Below w.heap.size w w' := by
 have hu24 := Try.underlying24
 have HB := mk0 (Below.refl w.heap.size w)
 have H : (if a0 < 1 then (ossuaryref1_Identity.j0 k a0 true) else (ossuaryref1_Identity.j0 k a0 (decide (a0 > 12)))) = some (r1, r2) := h
 clear h
 have HC2 := mk0 H
 clear H
 go_enter Try.func33, Try.ntmps33
 go_upto_region 1 with (first | ((with_reducible refine gate_dst (N := 2) rfl ?_); refine box_event uT (N := 2) uT (cs := #[.slice none 0 0]) (t := 24) uK ?_; intro gb175 hg w3 hbox hb; have BK175 := mk0 (hbox); have GW175 := mk0 (nB hg HB); have GE175 := mk0 (nB hg HB); replace HB := mk0 (below_step uy hb); clear hb hbox hg))
 (try simp only [Act.put, List.setIfInBounds_toArray, List.set_cons_zero, List.set_cons_succ])
 go_cut [11] (fun v11 wc => ∃ (kq : Nat) (x11_1 : Bool), v11 = .bool x11_1 ∧ Aside0 (ossuaryref1_Identity.j0 kq a0 x11_1 = some (r1, r2)) ∧ Aside0 (kq ≤ k) ∧ Aside0 (wc.heap[gb175]? = some (.cells #[(.slice none 0 0)] 24 (0, 0))) ∧ Aside0 (Below w.heap.size w wc))
 case first =>
  have H := HC2.out
  clear HC2
  by_cases c4 : a0 < 1
  ·rw [if_pos c4] at H
   have c4b0 : decide (a0 < 1) = true := decide_eq_true c4
   clear c4
   (first | rw [c4b0] | (simp only [i64_w, i32_w]; rw [c4b0]) | skip)
   have H' := mk0 H
   clear H
   go_wp2
   go_meet
   case rel => exact ⟨_, (true), uJ, H', ⟨uL⟩, ⟨bB BK175.out⟩, ⟨ul⟩⟩
  ·rw [if_neg c4] at H
   have c4b0 : decide (a0 < 1) = false := decide_eq_false c4
   clear c4
   (first | rw [c4b0] | (simp only [i64_w, i32_w]; rw [c4b0]) | skip)
   have H' := mk0 H
   clear H
   go_wp2
   go_meet
   case rel => exact ⟨_, (decide (a0 > 12)), uJ, H', ⟨uL⟩, ⟨bB BK175.out⟩, ⟨ul⟩⟩
 case rest =>
  clear HC2
  try clear p2
  try clear c3
  try clear c4
  try clear c4b0
  obtain ⟨kq, x11_1, rfl, HA, HJ1, BK175, HB⟩ := hcut
  cases kq with
  | zero => exact absurd HA.out (by simp [ossuaryref1_Identity.j0])
  | succ kj1 =>
   have H := HA.out
   clear HA
   simp only [ossuaryref1_Identity.j0] at H
   by_cases c5 : x11_1 = true
   ·subst c5
    have H1 : (some (([] : List (List Int)), 300)) = some (r1, r2) := by rw [if_pos rfl] at H; exact H
    clear H
    have H := H1
    clear H1
    simp only [Option.some.injEq, Prod.mk.injEq] at H
    obtain ⟨rfl, rfl⟩ := H
    have hcz6_0 : wc.cell? ⟨gb175, 0, none⟩ = some (.slice none 0 0) := (blk_cell BK175.out 0).trans rfl
    have hfz6_0 := blk_frozen BK175.out 0
    go_wp2
    refine bodyPost_ret (results_ct rfl _ _ gb175 24 #[.slice none 0 0] (0, 0) _ rfl (by refine bB ?_; refine blk_put (cs := #[.slice none 0 0]) ?_ 0 _ rfl; refine bB ?_; exact BK175.out) Try.underlying24 rfl uP) rfl ?_
    exact ⟨_, uD, uh, ul⟩
   ·replace c5 := Bool.eq_false_iff.mpr c5
    subst c5
    have H1 : ((ossuaryref1_blank.f kj1 a0 a0).bind fun t176 => (ossuaryref1_Identity.l0 kj1 a0 0 t176)) = some (r1, r2) := by rw [if_neg (show ¬ (false = true) by decide)] at H; exact H
    clear H
    have H := H1
    clear H1
    replace H := Option.bind_eq_some_iff.mp H
    obtain ⟨t176, A70, H⟩ := H
    replace H : (ossuaryref1_Identity.l0 kj1 a0 0 t176) = some (r1, r2) := H
    have A7 := mk0 A70
    clear A70
    have H' := mk0 H
    clear H
    go_wp2_with (first | ((with_reducible refine gate_callee (f := 66) rfl ?_); refine goesL_ (some 15) rfl rfl Try.func66 uP rfl #[.int .i64 a0, .int .i64 a0] rfl ui ?_; (with_reducible refine (ossuaryref1_blank.calls kj1 a0 a0 t176 _ A7.out).mono ?_); rintro e w8 ⟨v177, rfl, ho0, hb⟩; refine ⟨_, rfl, ?_⟩; have HO178 := mk0 (Kd.S_lower ho0 (below_size ul)); replace BK175 := bK BK175 hb; replace HB := mk0 (below_step ul hb); (try clear hb); (try clear hb2); (try clear hk); (try clear hi); (try clear ho0)) | ((with_reducible refine gate_dst (N := 4) rfl ?_); refine box_event uT (N := 4) uT (cs := #[.slice none 0 0]) (t := 24) uK ?_; intro gb179 hg w9 hbox hb; replace HO178 := mk0 (Kd.S_below (sB HO178.out) hb); have BK179 := mk0 (hbox); have GW179 := mk0 (nB hg HB); have GE179 := mk0 (nB hg HB); replace HB := mk0 (below_step ul hb); have NB175_179 := mk0 (nF hg BK175.out); have NB179_175 := mk0 (nE hg BK175.out); replace BK175 := bK BK175 hb; clear hb hbox hg; obtain ⟨Ao10, co10, eo10⟩ := Kd.S_slice HO178.out; subst eo10; have hnb11 := NB179_175.out; have hnc11 := NB175_179.out; have hcz12_0 : w9.cell? ⟨gb179, 0, none⟩ = some (.slice none 0 0) := (blk_cell BK179.out 0).trans rfl; have hfz12_0 := blk_frozen BK179.out 0))
    go_loopg [5] kj1 (fun kq v5 w' => ∃ (x5_2 : Int) (x180000_2 : List (List Int)) (u180000 : Value), v5 = .int .i64 x5_2 ∧ Aside0 (ossuaryref1_Identity.l0 kq a0 x5_2 x180000_2 = some (r1, r2)) ∧ Aside0 (kq ≤ kj1) ∧ Aside0 (Kd.S (Kd.slice 3 (Kd.int .i64)) 25 w' w.heap.size (fun _ => True) u180000 x180000_2) ∧ Aside0 (w'.heap[gb175]? = some (.cells #[(.slice none 0 0)] 24 (0, 0))) ∧ Aside0 (w'.heap[gb179]? = some (.cells #[u180000] 24 (0, 0))) ∧ Aside0 (Below w.heap.size w w'))
    case atStart => exact ⟨(0), (t176), (.slice Ao10 t176.length co10), uJ, H', ⟨Nat.le_refl _⟩, ⟨by (with_reducible repeat (first | apply sA | apply sN | apply sD)); exact Kd.S_mono (Kd.S_far (p := ⟨gb179, 0, none⟩) (Kd.S_types HO178.out BK179.out uQ) (fun _ hk => hk.2) (.slice Ao10 t176.length co10)) (fun _ hk => trivial)⟩, ⟨by refine bB ?_; refine blk_far ?_ NB175_179.out _; refine bB ?_; exact BK175.out⟩, ⟨by refine bB ?_; refine blk_put (cs := #[.slice none 0 0]) ?_ 0 _ rfl; refine bB ?_; exact BK179.out⟩, ⟨ul⟩⟩
    case round =>
     clear H'
     try clear c1
     try clear p2
     try clear c3
     try clear c4
     try clear c4b0
     try clear c5
     try clear c6
     try clear c11
     try clear hcz12_0
     try clear hcz6_0
     try clear hfz12_0
     try clear hfz6_0
     try clear p2
     obtain ⟨x5_2, x180000_2, u180000, rfl, HA, HK2, HO_180000, BK175, BK179, HB⟩ := hrel
     cases gk with
     | zero => exact absurd HA.out (by simp [ossuaryref1_Identity.l0])
     | succ k2 =>
      have H := HA.out
      clear HA
      simp only [ossuaryref1_Identity.l0] at H
      by_cases c13 : x5_2 < a0
      ·rw [if_pos c13] at H
       have c13b0 : decide (x5_2 < a0) = true := decide_eq_true c13
       clear c13
       by_cases c14 : 0 ≤ x5_2
       ·rw [if_pos c14] at H
        have c14b0 : decide (0 ≤ x5_2) = true := decide_eq_true c14
        clear c14
        by_cases c15 : x5_2 < (x180000_2.length : Int)
        ·rw [if_pos c15] at H
         have c15b0 : decide (x5_2 < (x180000_2.length : Int)) = true := decide_eq_true c15
         clear c15
         by_cases c16 : x5_2 < ((rd_L2 x180000_2 x5_2).length : Int)
         ·rw [if_pos c16] at H
          have c16b0 : decide (x5_2 < ((rd_L2 x180000_2 x5_2).length : Int)) = true := decide_eq_true c16
          clear c16
          obtain ⟨y181, hy181⟩ : ∃ y_ : List Int, y_ = ((rd_L2 x180000_2 x5_2).set (x5_2 : Int).toNat 1) := ⟨_, rfl⟩
          replace H : (ossuaryref1_Identity.l0 k2 a0 (wrap64 (x5_2 + 1)) (x180000_2.set (x5_2 : Int).toNat y181)) = some (r1, r2) := by first | (rw [hy181]; with_reducible exact H) | (have H2_ := (Option.bind_some _ _).symm.trans H; rw [hy181]; with_reducible exact H2_) | (have H2_ := (Option.bind_some _ _).symm.trans H; with_reducible exact H2_) | with_reducible exact H | (rw [hy181]; exact H) | exact H
          have Ny181 := mk0 hy181
          clear hy181
          obtain ⟨y183, hy183⟩ : ∃ y_ : List (List Int), y_ = (x180000_2.set (x5_2 : Int).toNat y181) := ⟨_, rfl⟩
          replace H : (ossuaryref1_Identity.l0 k2 a0 (wrap64 (x5_2 + 1)) y183) = some (r1, r2) := by first | (rw [hy183]; with_reducible exact H) | (have H2_ := (Option.bind_some _ _).symm.trans H; rw [hy183]; with_reducible exact H2_) | (have H2_ := (Option.bind_some _ _).symm.trans H; with_reducible exact H2_) | with_reducible exact H | (rw [hy183]; exact H) | exact H
          have Ny183 := mk0 hy183
          clear hy183
          have H' := mk0 H
          clear H
          have hnb18 := NB179_175.out
          have hnc18 := NB175_179.out
          have hcz19_0 : wr.cell? ⟨gb179, 0, none⟩ = some (u180000) := (blk_cell BK179.out 0).trans rfl
          have hfz19_0 := blk_frozen BK179.out 0
          obtain ⟨Ao20, co20, eo20⟩ := Kd.S_slice HO_180000.out
          subst eo20
          have p180 : 0 ≤ (x5_2 : Int) := of_decide_eq_true uI
          have q180 : x5_2 < (x180000_2.length : Int) := of_decide_eq_true uI
          obtain ⟨ad180, A180_0, c180_0, e180, hx180_0, hl180_0, hi180_0⟩ := at_L2 (Kd.S_reads' HO_180000.out).2.2 x5_2 p180 q180
          cases e180
          obtain ⟨ce180, hce180, hMe180, hcc180⟩ := Kd.S_get HO_180000.out [] x5_2 p180 (by first | exact q180 | exact of_decide_eq_true uI | (have e_ := (Kd.S_reads' HO_180000.out).1; omega))
          obtain ⟨ve180_0, rfl, ge180_0⟩ := hMe180
          have hv180_0 := hcc180 0 _ rfl
          rw [Nat.add_zero, show ((Kd.slice 3 (Kd.int .i64))).sz = 1 from rfl, Nat.mul_one] at hv180_0
          replace hv180_0 := Option.some.inj (hv180_0.symm.trans hx180_0)
          rw [hv180_0] at ge180_0
          have HL180_0 := mk0 (show Kd.R (Kd.int .i64) 3 _ _ _ _ (rd_L2 x180000_2 x5_2) from ge180_0)
          clear hv180_0 ge180_0
          have HX180_0 := mk0 hx180_0
          clear hcc180 hce180
          have HR180_0 := mk0 hi180_0
          have HC180_0 := mk0 hl180_0
          clear hi180_0 hl180_0
          replace p180 := eq_true p180
          replace q180 := eq_true q180
          have p17 : 0 ≤ (x5_2 : Int) := of_decide_eq_true uI
          have q17 : (x5_2 : Int) < (((rd_L2 x180000_2 x5_2).length : Int) : Int) := of_decide_eq_true uI
          obtain ⟨go17, co17, eo17, gb17, gl17, cl17, HG17⟩ := Kd.R_form HL180_0.out uR
          (first | cases eo17 | (injection eo17 with ea_ en_ ec_; (first | subst ea_ | (injection ea_ with ea_; subst ea_)); subst ec_; clear en_))
          have GB17 := mk0 gb17
          have GG17 := mk0 HG17
          clear gb17 gl17 HG17
          obtain ⟨hx17_0, hf17_0⟩ := Kd.R_celln 0 HL180_0.out (x5_2 : Int) p17 q17
          replace p17 := eq_true p17
          replace q17 := eq_true q17
          have hq21 : (x5_2 : Int) < (x180000_2.length : Int) := (by have h_ : (x5_2 : Int) < ((x180000_2.length : Int) : Int) := of_decide_eq_true uI; first | exact h_ | (have e_ := (Kd.S_reads' HO_180000.out).1; omega) | simpa only [List.length_set, List.length_set] using h_)
          obtain ⟨oki21, ce21, hcl21, hM21, hcc21, hok21, hbk21⟩ := Kd.S_borrow HO_180000.out [] (x5_2 : Int) (of_decide_eq_true uI) hq21
          obtain ⟨ve21_0, rfl, ge21_0⟩ := hM21
          have hv21 := hcc21 0 _ rfl
          rw [Nat.add_zero, show ((Kd.slice 3 (Kd.int .i64))).sz = 1 from rfl, Nat.mul_one] at hv21
          replace hv21 := Option.some.inj (hv21.symm.trans HX180_0.out)
          subst hv21
          clear hcc21 hcl21
          replace ge21_0 := (show Kd.R (Kd.int .i64) 3 _ _ _ _ (rd_L2 x180000_2 x5_2) from ge21_0)
          have HP21 := Kd.R_putg ge21_0 (x5_2 : Int) 1
          go_wp2_with (first | ((with_reducible refine gate_store (t := 3) (p := 27) rfl ?_); refine store_event (t := 3) (p := 27) (v := ?vo_w22) (w1 := (wr.setCell ⟨go17, (x5_2 : Int).toNat, none⟩ (.int .i64 1))) ?hg ?ho ?hn ?hr ?_; (case ho => rfl); (case hg => rfl); (case hn => rfl); (case hr => first | (go_simp; done) | (go_simp; rfl)); intro w22 hw; have hg : wr.grownBy w22 (some go17) := (by rw [hw]; exact HP21.2); have hz_ : Kd.R (Kd.int .i64) 3 w22 w.heap.size oki21 (.slice (some ⟨go17, 0, none⟩) (rd_L2 x180000_2 x5_2).length c180_0) y181 := (by rw [hw, Ny181.out]; exact HP21.1); have hp_ : Kd.S (Kd.slice 3 (Kd.int .i64)) 25 w22 w.heap.size (fun _ => True) (.slice (some ad180) x180000_2.length co20) y183 := (by rw [Ny183.out]; exact hbk21 hg (fun k_ e_ => by injection e_ with e_; subst e_; exact ge21_0.1 _ rfl) (Kd.M_row hz_)); have hm_ := Kd.R_mono hz_ hok21; clear HP21 hbk21; replace HO_180000 := mk0 (hp_); replace BK175 := mk0 (blk_grown (g := gb175) (o := .cells #[.slice none 0 0] 24 (0, 0)) (bB BK175.out) hg (Kd.R_ne HL180_0.out BK175.out uQ)); replace BK179 := mk0 (blk_grown (g := gb179) (o := .cells #[.slice (some ad180) x180000_2.length co20] 24 (0, 0)) (bB BK179.out) hg (Kd.R_ne HL180_0.out BK179.out uQ)); replace HB := mk0 ((by rw [hw]; exact below_set (HB.out) GB17.out : Below w.heap.size w w22)); have HL184 := mk0 (hm_); have HC182 := mk0 ((Kd.R_reads' hm_).2.1); clear HL180_0; clear hg hw hp_ hz_ hm_ hok21))
          go_roundg k2
          case measure => have := HJ1.out; have := HK2.out; omega
          case rel => exact ⟨(wrap64 (x5_2 + 1)), (y183), (.slice (some ad180) x180000_2.length co20), uJ, H', ⟨by have := HJ1.out; have := HK2.out; omega⟩, ⟨sB HO_180000.out⟩, ⟨bB BK175.out⟩, ⟨bB BK179.out⟩, ⟨ul⟩⟩
         ·rw [if_neg c16] at H
          exact absurd H uS
        ·rw [if_neg c15] at H
         exact absurd H uS
       ·rw [if_neg c14] at H
        exact absurd H uS
      ·rw [if_neg c13] at H
       have c13b0 : decide (x5_2 < a0) = false := decide_eq_false c13
       clear c13
       simp only [Option.some.injEq, Prod.mk.injEq] at H
       obtain ⟨rfl, rfl⟩ := H
       have hnb23 := NB179_175.out
       have hnc23 := NB175_179.out
       have hcz24_0 : wr.cell? ⟨gb179, 0, none⟩ = some (u180000) := (blk_cell BK179.out 0).trans rfl
       have hfz24_0 := blk_frozen BK179.out 0
       obtain ⟨Ao25, co25, eo25⟩ := Kd.S_slice HO_180000.out
       subst eo25
       have hcz26_0 : wr.cell? ⟨gb175, 0, none⟩ = some (.slice none 0 0) := (blk_cell BK175.out 0).trans rfl
       have hfz26_0 := blk_frozen BK175.out 0
       go_wp2
       refine bodyPost_ret (results_ct rfl _ _ gb175 24 #[.slice Ao25 x180000_2.length co25] (0, 0) _ rfl (by refine bB ?_; refine blk_put (cs := #[.slice none 0 0]) ?_ 0 _ rfl; refine bB ?_; exact BK175.out) Try.underlying24 rfl uP) rfl ?_
       exact ⟨_, uD, by (with_reducible repeat (first | apply sA | apply sN | apply sD)); exact Kd.S_mono (Kd.S_far (p := ⟨gb175, 0, none⟩) (Kd.S_types HO_180000.out BK175.out uQ) (fun _ hk => hk.2) (.slice Ao25 x180000_2.length co25)) (fun _ hk => trivial), ul⟩
def ossuarylaw0_SpoilInts.l0 : Nat → List Int → Int → Option (List Int)
 | 0, _, _ => none
 | k + 1, x0, x2 => if x2 < (x0.length : Int) then (if 0 ≤ x2 then (ossuarylaw0_SpoilInts.l0 k (x0.set (x2 : Int).toNat (wrap64 ((-9) - (rd x0 x2)))) (wrap64 (x2 + 1))) else (none)) else (some x0)
def ossuarylaw0_SpoilInts.f (k : Nat) (l0 : List Int) : Option (List Int) := ossuarylaw0_SpoilInts.l0 k l0 0
theorem ossuarylaw0_SpoilInts.mono_l : ∀ k, (∀ y0 y1, LeO (ossuarylaw0_SpoilInts.l0 k y0 y1) (ossuarylaw0_SpoilInts.l0 (k + 1) y0 y1))
 | 0 => fun _ _ r h => by simp [ossuarylaw0_SpoilInts.l0] at h
 | k + 1 => by
  have ih0 := ossuarylaw0_SpoilInts.mono_l k
  ·intro y0 y1
   unfold ossuarylaw0_SpoilInts.l0
   repeat' with_reducible first | exact ih0 _ _ | exact LeO.refl _ | exact LeO.none _ | refine LeO.ite ?_ ?_ | refine LeO.bind ?_ (fun _ => ?_)
theorem ossuarylaw0_SpoilInts.mono : ∀ a0 k, LeO (ossuarylaw0_SpoilInts.f k a0) (ossuarylaw0_SpoilInts.f (k + 1) a0) := by
 intro a0 k
 have ih0 := ossuarylaw0_SpoilInts.mono_l k
 unfold ossuarylaw0_SpoilInts.f
 repeat' with_reducible first | exact ih0 _ _ | exact LeO.refl _ | exact LeO.none _ | refine LeO.ite ?_ ?_ | refine LeO.bind ?_ (fun _ => ?_)
set_option maxHeartbeats 8000000 in
set_option maxRecDepth 100000 in
theorem ossuarylaw0_SpoilInts.calls (k : Nat) (P0_ : Nat → Prop) (u9000_ : Value) (l0 : List Int) (r : List Int) (w0 w : World) (hB : Below w0.heap.size w0 w) (ho0 : Kd.R (Kd.int .i64) 3 w w0.heap.size P0_ u9000_ l0) (h : ossuarylaw0_SpoilInts.f k l0 = some r) :
  Calls Try.prog 76 #[u9000_] w fun e w' => e = .returned (.tuple #[]) ∧ Kd.R (Kd.int .i64) 3 w' w0.heap.size (fun k_ => (P0_ k_ ∨ w.heap.size ≤ k_)) u9000_ r ∧ Below w0.heap.size w0 w' ∧ Kept w w' (fun k_ => P0_ k_) := by
 have HO0 := mk0 (show Kd.R (Kd.int .i64) 3 w w0.heap.size (fun k_ => (P0_ k_ ∨ w.heap.size ≤ k_)) u9000_ l0 from Kd.R_mono ho0 (fun k_ hk => (.inl hk)))
 have HK := mk0 (Kept.refl w (fun k_ => P0_ k_))
 have HW0 := mk0 hB.size
 have HB := mk0 hB
 clear hB
 have H : (ossuarylaw0_SpoilInts.l0 k l0 0) = some r := h
 clear h
 have H' := mk0 H
 clear H
 go_enter Try.func76, Try.ntmps76
 go_wp2
 go_loopg [2] k (fun kq v2 w' => ∃ (x0_1 : List Int) (x2_1 : Int), v2 = .int .i64 x2_1 ∧ Aside0 (ossuarylaw0_SpoilInts.l0 kq x0_1 x2_1 = some r) ∧ Aside0 (kq ≤ k) ∧ Aside0 (Kd.R (Kd.int .i64) 3 w' w0.heap.size (fun k_ => (P0_ k_ ∨ w.heap.size ≤ k_)) u9000_ x0_1) ∧ Aside0 (Kept w w' (fun k_ => P0_ k_)) ∧ Aside0 (Below w0.heap.size w0 w'))
 case atStart => exact ⟨(l0), (0), uJ, H', ⟨Nat.le_refl _⟩, ⟨rB HO0.out⟩, ⟨uk⟩, ⟨uy⟩⟩
 case round =>
  clear H'
  obtain ⟨x0_1, x2_1, rfl, HA, HK1, HO_0, HK, HB⟩ := hrel
  cases gk with
  | zero => exact absurd HA.out (by simp [ossuarylaw0_SpoilInts.l0])
  | succ k1 =>
   have H := HA.out
   clear HA
   simp only [ossuarylaw0_SpoilInts.l0] at H
   by_cases c2 : x2_1 < (x0_1.length : Int)
   ·rw [if_pos c2] at H
    have c2b0 : decide (x2_1 < (x0_1.length : Int)) = true := decide_eq_true c2
    clear c2
    by_cases c3 : 0 ≤ x2_1
    ·rw [if_pos c3] at H
     have c3b0 : decide (0 ≤ x2_1) = true := decide_eq_true c3
     clear c3
     obtain ⟨y186, hy186⟩ : ∃ y_ : List Int, y_ = (x0_1.set (x2_1 : Int).toNat (wrap64 ((-9) - (rd x0_1 x2_1)))) := ⟨_, rfl⟩
     replace H : (ossuarylaw0_SpoilInts.l0 k1 y186 (wrap64 (x2_1 + 1))) = some r := by first | (rw [hy186]; with_reducible exact H) | (have H2_ := (Option.bind_some _ _).symm.trans H; rw [hy186]; with_reducible exact H2_) | (have H2_ := (Option.bind_some _ _).symm.trans H; with_reducible exact H2_) | with_reducible exact H | (rw [hy186]; exact H) | exact H
     have Ny186 := mk0 hy186
     clear hy186
     have H' := mk0 H
     clear H
     obtain ⟨Ao5, co5, eo5⟩ := Kd.R_slice HO_0.out
     subst eo5
     have p185 : 0 ≤ (x2_1 : Int) := of_decide_eq_true uI
     have q185 : x2_1 < (x0_1.length : Int) := of_decide_eq_true uI
     obtain ⟨ad185, e185, hx185_0⟩ := Kd.at_int (Kd.R_reads' HO_0.out).2.2 x2_1 p185 q185
     cases e185
     replace p185 := eq_true p185
     replace q185 := eq_true q185
     have p4 : 0 ≤ (x2_1 : Int) := of_decide_eq_true uI
     have q4 : (x2_1 : Int) < ((x0_1.length : Int) : Int) := of_decide_eq_true uI
     obtain ⟨go4, co4, eo4, gb4, gl4, cl4, HG4⟩ := Kd.R_form HO_0.out uR
     (first | cases eo4 | (injection eo4 with ea_ en_ ec_; (first | subst ea_ | (injection ea_ with ea_; subst ea_)); subst ec_; clear en_))
     have GB4 := mk0 gb4
     have GG4 := mk0 HG4
     clear gb4 gl4 HG4
     have HMgo4 := mk0 (show (P0_ go4 ∨ w.heap.size ≤ go4) from (HO_0.out.1 _ rfl))
     (first | simp only [add_plain] at hx185_0 | skip)
     obtain ⟨hx4_0, hf4_0⟩ := Kd.R_celln 0 HO_0.out (x2_1 : Int) p4 q4
     replace p4 := eq_true p4
     replace q4 := eq_true q4
     have HP6 := Kd.R_putg HO_0.out (x2_1 : Int) (wrap64 ((-9) - (rd x0_1 x2_1)))
     go_wp2_with (first | ((with_reducible refine gate_store (t := 3) (p := 16) rfl ?_); refine store_event (t := 3) (p := 16) (v := ?vo_w7) (w1 := (wr.setCell ⟨go4, (x2_1 : Int).toNat, none⟩ (.int .i64 (wrap64 ((-9) - (rd x0_1 x2_1)))))) ?hg ?ho ?hn ?hr ?_; (case ho => rfl); (case hg => rfl); (case hn => rfl); (case hr => first | (go_simp; done) | (go_simp; rfl)); intro w7 hw; have hg : wr.grownBy w7 (some go4) := (by rw [hw]; exact HP6.2); have hp_ : Kd.R (Kd.int .i64) 3 w7 w0.heap.size (fun k_ => (P0_ k_ ∨ w.heap.size ≤ k_)) (.slice (some ⟨go4, 0, none⟩) x0_1.length co5) y186 := (by rw [hw, Ny186.out]; exact HP6.1); clear HP6; replace HB := mk0 ((by rw [hw]; exact below_set (HB.out) GB4.out : Below w0.heap.size w0 w7)); replace HK := mk0 (Kept.of_grown (S := (fun k_ => P0_ k_)) hg uk (fun k_ e_ => (HO_0.out.1 k_ e_))); replace HO_0 := mk0 (hp_); clear hg hw hp_))
     go_roundg k1
     case measure => have := HK1.out; omega
     case rel => exact ⟨(y186), (wrap64 (x2_1 + 1)), uJ, H', ⟨uO⟩, ⟨rB HO_0.out⟩, ⟨uk⟩, ⟨uy⟩⟩
    ·rw [if_neg c3] at H
     exact absurd H uS
   ·rw [if_neg c2] at H
    have c2b0 : decide (x2_1 < (x0_1.length : Int)) = false := decide_eq_false c2
    clear c2
    obtain rfl := Option.some.inj H
    obtain ⟨Ao8, co8, eo8⟩ := Kd.R_slice HO_0.out
    subst eo8
    go_wp2
    first | go_end0 | ((try simp only [Exit.inBlock, Exit.then]); refine bodyPost_ret (results_none rfl _ _ _) rfl ?_)
    exact ⟨uD, rB HO_0.out, uy, uk⟩
end Go.Proofs.Ytaahnicjjpddjaa.GRef
