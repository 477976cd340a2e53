/- Functions of the program as Lean functions, each with a proof that its call comes to what the function says. No condition. -/
import Derived.Test.YtaahnicjjpddjaaKRebuildMendsGRgen0
namespace Go.Proofs.Ytaahnicjjpddjaa.GRgen
open Go.Proofs.Ytaahnicjjpddjaa.Fn
open Go.Proofs.Ytaahnicjjpddjaa
open Go.RowKit Go.Proofs.YtaahnicjjpddjaaW.PrintWords Go.Proofs.YtaahnicjjpddjaaW.PrintLast
set_option linter.unusedVariables false
set_option linter.unusedSimpArgs false
theorem cut_over (t e : TypeId) (kh : IntKind) {P : Program} {i : TypeInfo} (ht : P.underlying t = some (.slice e)) (hi : P.info? e = some i) (A : Option Addr) (n c : Nat) (j : Int) (h0 : 0 ≤ j) (hc : j ≤ c) :
    ∀ W : World, (Instr.slice t (.slice A n c) none (some (.int kh j)) none).run P W = .ok (.slice A j.toNat c) W := by
  intro W
  have hel : P.elem t = e := by simp [Program.elem, ht]
  have hu : P.underlying t = some (.slice (P.elem t)) := by rw [hel]; exact ht
  have ha : (A.map fun x => x.add 0) = A := by cases A <;> simp [Addr.add]
  rw [run_slice_h W t A n c hu kh j h0 hc, hel]
  simp [sizeOf, typeInfo, hi, sliced, Result.andThen, ha]
mutual
noncomputable def ossuaryref1_Gen.l0 : Nat → Int → Int → Int → List (List Int) → Option ((List (List Int)) × Int)
 | 0, _, _, _, _ => none
 | k + 1, x5, x105000, x105001, x111000 => if x5 < (x111000.length : Int) then (ossuaryref1_Gen.l1 k x5 0 x105000 x105001 x111000) else (if 0 ≤ x105000 then (if x105000 ≤ (x111000.length : Int) then ((Pr.inv.f (x111000.take x105000.toNat)).bind fun bt111 => ((GRef.ossuaryref1_MulMatrix.f k x111000 bt111.1).bind fun bt116 => (some (bt116.1, 0)))) else (none)) else (none))
noncomputable def ossuaryref1_Gen.l1 : Nat → Int → Int → Int → Int → List (List Int) → Option ((List (List Int)) × Int)
 | 0, _, _, _, _, _ => none
 | k + 1, x5, x6, x105000, x105001, x111000 => if x6 < x105000 then ((GRef.ossuaryref1_Pow.f k x5 x6).bind fun bt121 => (if 0 ≤ x5 then (if x5 < (x111000.length : Int) then (if 0 ≤ x6 then (if x6 < ((rd_L1 x111000 x5).length : Int) then (ossuaryref1_Gen.l1 k x5 (wrap64 (x6 + 1)) x105000 x105001 (x111000.set (x5 : Int).toNat ((rd_L1 x111000 x5).set (x6 : Int).toNat bt121.1))) else (none)) else (none)) else (none)) else (none))) else (ossuaryref1_Gen.l0 k (wrap64 (x5 + 1)) x105000 x105001 x111000)
end
noncomputable def ossuaryref1_Gen.f (k : Nat) (a0_0 : Int) (a0_1 : Int) : Option ((List (List Int)) × Int) := (GRef.ossuaryref1_ShapeMay.f a0_0 a0_1).bind fun t106 => (if t106 = true then ((GRef.ossuaryref1_blank.f k (wrap64 (a0_0 + a0_1)) a0_0).bind fun t107 => (ossuaryref1_Gen.l0 k 0 a0_0 a0_1 t107)) else (some (([] : List (List Int)), 500)))
theorem ossuaryref1_Gen.mono_l : ∀ k, (∀ y0 y1 y2 y3, LeO (ossuaryref1_Gen.l0 k y0 y1 y2 y3) (ossuaryref1_Gen.l0 (k + 1) y0 y1 y2 y3)) ∧ (∀ y0 y1 y2 y3 y4, LeO (ossuaryref1_Gen.l1 k y0 y1 y2 y3 y4) (ossuaryref1_Gen.l1 (k + 1) y0 y1 y2 y3 y4))
 | 0 => ⟨fun _ _ _ _ r h => by simp [ossuaryref1_Gen.l0] at h, fun _ _ _ _ _ r h => by simp [ossuaryref1_Gen.l1] at h⟩
 | k + 1 => by
  obtain ⟨ih0, ih1⟩ := ossuaryref1_Gen.mono_l k
  refine ⟨?_, ?_⟩
  ·intro y0 y1 y2 y3
   unfold ossuaryref1_Gen.l0
   repeat' with_reducible first | exact ih0 _ _ _ _ | exact ih1 _ _ _ _ _ | exact GRef.ossuaryref1_MulMatrix.mono _ _ _ | exact GRef.ossuaryref1_Pow.mono _ _ _ | exact GRef.ossuaryref1_blank.mono _ _ _ | exact LeO.refl _ | exact LeO.none _ | refine LeO.ite ?_ ?_ | refine LeO.bind ?_ (fun _ => ?_)
  ·intro y0 y1 y2 y3 y4
   unfold ossuaryref1_Gen.l1
   repeat' with_reducible first | exact ih0 _ _ _ _ | exact ih1 _ _ _ _ _ | exact GRef.ossuaryref1_MulMatrix.mono _ _ _ | exact GRef.ossuaryref1_Pow.mono _ _ _ | exact GRef.ossuaryref1_blank.mono _ _ _ | exact LeO.refl _ | exact LeO.none _ | refine LeO.ite ?_ ?_ | refine LeO.bind ?_ (fun _ => ?_)
theorem ossuaryref1_Gen.mono : ∀ a0 a1 k, LeO (ossuaryref1_Gen.f k a0 a1) (ossuaryref1_Gen.f (k + 1) a0 a1) := by
 intro a0 a1 k
 obtain ⟨ih0, ih1⟩ := ossuaryref1_Gen.mono_l k
 unfold ossuaryref1_Gen.f
 repeat' with_reducible first | exact ih0 _ _ _ _ | exact ih1 _ _ _ _ _ | exact GRef.ossuaryref1_MulMatrix.mono _ _ _ | exact GRef.ossuaryref1_Pow.mono _ _ _ | exact GRef.ossuaryref1_blank.mono _ _ _ | exact LeO.refl _ | exact LeO.none _ | refine LeO.ite ?_ ?_ | refine LeO.bind ?_ (fun _ => ?_)
set_option maxHeartbeats 8000000 in
set_option maxRecDepth 100000 in
theorem ossuaryref1_Gen.calls (k : Nat) (a0_0 : Int) (a0_1 : Int) (r1 : List (List Int)) (r2 : Int) (w : World) (h : ossuaryref1_Gen.f k a0_0 a0_1 = some (r1, r2)) :
  Calls Try.prog 44 #[.agg #[.int .i64 a0_0, .int .i64 a0_1]] w fun e w' => ∃ v0_ : Value, e = .returned (.tuple #[.agg #[v0_], .int .i64 r2]) ∧ Kd.S (Kd.slice 3 (Kd.int .i64)) 25 w' w.heap.size (fun _ => True) v0_ r1 ∧ Below w.heap.size w w' := by
 have hu51 := Try.underlying51
 have hu24 := Try.underlying24
 have HB := mk0 (Below.refl w.heap.size w)
 have H : ((GRef.ossuaryref1_ShapeMay.f a0_0 a0_1).bind fun t106 => (if t106 = true then ((GRef.ossuaryref1_blank.f k (wrap64 (a0_0 + a0_1)) a0_0).bind fun t107 => (ossuaryref1_Gen.l0 k 0 a0_0 a0_1 t107)) else (some (([] : List (List Int)), 500)))) = some (r1, r2) := h
 clear h
 replace H := Option.bind_eq_some_iff.mp H
 obtain ⟨t106, A20, H⟩ := H
 replace H : (if t106 = true then ((GRef.ossuaryref1_blank.f k (wrap64 (a0_0 + a0_1)) a0_0).bind fun t107 => (ossuaryref1_Gen.l0 k 0 a0_0 a0_1 t107)) else (some (([] : List (List Int)), 500))) = some (r1, r2) := H
 have A2 := mk0 A20
 clear A20
 by_cases c3 : t106 = true
 ·subst c3
  have H1 : ((GRef.ossuaryref1_blank.f k (wrap64 (a0_0 + a0_1)) a0_0).bind fun t107 => (ossuaryref1_Gen.l0 k 0 a0_0 a0_1 t107)) = some (r1, r2) := by rw [if_pos rfl] at H; exact H
  clear H
  have H := H1
  clear H1
  replace H := Option.bind_eq_some_iff.mp H
  obtain ⟨t107, A40, H⟩ := H
  replace H : (ossuaryref1_Gen.l0 k 0 a0_0 a0_1 t107) = some (r1, r2) := H
  have A4 := mk0 A40
  clear A40
  have H' := mk0 H
  clear H
  go_enter Try.func44, Try.ntmps44
  go_wp2_with (first | ((with_reducible refine gate_dst (N := 1) rfl ?_); refine box_event uW (N := 1) uW (cs := #[.int .i64 a0_0, .int .i64 a0_1]) (t := 51) uL ?_; intro gb104 hg w5 hbox hb; have BK104 := mk0 (hbox); have GW104 := mk0 (nB hg HB); have GE104 := mk0 (nB hg HB); replace HB := mk0 (below_step ut hb); clear hb hbox hg) | ((with_reducible refine gate_dst (N := 2) rfl ?_); refine box_event uW (N := 2) uW (cs := #[.slice none 0 0]) (t := 24) uL ?_; intro gb105 hg w6 hbox hb; have BK105 := mk0 (hbox); have GW105 := mk0 (nB hg HB); have GE105 := mk0 (nB hg HB); replace HB := mk0 (below_step uX hb); have NB104_105 := mk0 (nF hg BK104.out); have NB105_104 := mk0 (nE hg BK104.out); replace BK104 := bK BK104 hb; clear hb hbox hg; have hnb7 := NB104_105.out; have hnc7 := NB105_104.out; have hcz8_0 : w6.cell? ⟨gb104, 0, none⟩ = some (.int .i64 a0_0) := (blk_cell BK104.out 0).trans rfl; have hcz8_1 : w6.cell? ⟨gb104, 1, none⟩ = some (.int .i64 a0_1) := (blk_cell BK104.out 1).trans rfl; have hfz8_0 := blk_frozen BK104.out 0; have hfz8_1 := blk_frozen BK104.out 1) | ((with_reducible refine gCa (f := 46) rfl ?_); refine goesL_ (some 14) rfl rfl Try.func46 uT rfl #[.agg #[.int .i64 a0_0, .int .i64 a0_1]] rfl uk ?_; (with_reducible refine (GRef.ossuaryref1_ShapeMay.calls a0_0 a0_1 true _ A2.out).mono ?_); rintro e w9 ⟨rfl, hb⟩; refine ⟨_, rfl, ?_⟩; replace BK104 := bK BK104 hb; replace BK105 := bK BK105 hb; replace HB := mk0 (below_step uX hb); (try clear hb); have hcz10_0 : w9.cell? ⟨gb104, 0, none⟩ = some (.int .i64 a0_0) := (blk_cell BK104.out 0).trans rfl; have hcz10_1 : w9.cell? ⟨gb104, 1, none⟩ = some (.int .i64 a0_1) := (blk_cell BK104.out 1).trans rfl; have hfz10_0 := blk_frozen BK104.out 0; have hfz10_1 := blk_frozen BK104.out 1) | ((with_reducible refine gCa (f := 66) rfl ?_); refine goesL_ (some 24) rfl rfl Try.func66 uT rfl #[.int .i64 (wrap64 (a0_0 + a0_1)), .int .i64 a0_0] rfl uk ?_; (with_reducible refine (GRef.ossuaryref1_blank.calls k (wrap64 (a0_0 + a0_1)) a0_0 t107 _ A4.out).mono ?_); rintro e w11 ⟨v108, rfl, ho0, hb⟩; refine ⟨_, rfl, ?_⟩; have HO109 := mk0 (Kd.S_lower ho0 (below_size uX)); replace BK104 := bK BK104 hb; replace BK105 := bK BK105 hb; replace HB := mk0 (below_step uX hb); (try clear hb); (try clear ho0)) | ((with_reducible refine gate_dst (N := 4) rfl ?_); refine box_event uW (N := 4) uW (cs := #[.slice none 0 0]) (t := 24) uL ?_; intro gb110 hg w12 hbox hb; replace HO109 := mk0 (Kd.S_below (sB HO109.out) hb); have BK110 := mk0 (hbox); have GW110 := mk0 (nB hg HB); have GE110 := mk0 (nB hg HB); replace HB := mk0 (below_step uX hb); have NB104_110 := mk0 (nF hg BK104.out); have NB110_104 := mk0 (nE hg BK104.out); replace BK104 := bK BK104 hb; have NB105_110 := mk0 (nF hg BK105.out); have NB110_105 := mk0 (nE hg BK105.out); replace BK105 := bK BK105 hb; clear hb hbox hg; obtain ⟨Ao13, co13, eo13⟩ := Kd.S_slice HO109.out; subst eo13; have hnb14 := NB110_104.out; have hnc14 := NB104_110.out; have hnb15 := NB110_105.out; have hnc15 := NB105_110.out; have hcz16_0 : w12.cell? ⟨gb110, 0, none⟩ = some (.slice none 0 0) := (blk_cell BK110.out 0).trans rfl; have hfz16_0 := blk_frozen BK110.out 0))
  go_loopg [5] k (fun kq v5 w' => ∃ (x5_1 : Int) (x111000_1 : List (List Int)) (u111000 : Value), v5 = .int .i64 x5_1 ∧ Aside0 (ossuaryref1_Gen.l0 kq x5_1 a0_0 a0_1 x111000_1 = some (r1, r2)) ∧ Aside0 (kq ≤ k) ∧ Aside0 (Kd.S (Kd.slice 3 (Kd.int .i64)) 25 w' w.heap.size (fun _ => True) u111000 x111000_1) ∧ Aside0 (w'.heap[gb104]? = some (.cells #[.int .i64 a0_0, .int .i64 a0_1] 51 (0, 0))) ∧ Aside0 (w'.heap[gb105]? = some (.cells #[(.slice none 0 0)] 24 (0, 0))) ∧ Aside0 (w'.heap[gb110]? = some (.cells #[u111000] 24 (0, 0))) ∧ Aside0 (Below w.heap.size w w'))
  case atStart => exact ⟨(0), (t107), (.slice Ao13 t107.length co13), uJ, H', ⟨Nat.le_refl _⟩, ⟨by (with_reducible repeat (first | apply sA | apply sN | apply sD)); exact Kd.S_mono (Kd.S_far (p := ⟨gb110, 0, none⟩) (Kd.S_types HO109.out BK110.out uZ) (fun _ hk => hk.2) (.slice Ao13 t107.length co13)) (fun _ hk => trivial)⟩, ⟨by refine bB ?_; refine blk_far ?_ NB104_110.out _; refine bB ?_; exact BK104.out⟩, ⟨by refine bB ?_; refine blk_far ?_ NB105_110.out _; refine bB ?_; exact BK105.out⟩, ⟨by refine bB ?_; refine blk_put (cs := #[.slice none 0 0]) ?_ 0 _ rfl; refine bB ?_; exact BK110.out⟩, ⟨uX⟩⟩
  case round =>
   clear H'
   try clear c1
   try clear p2
   try clear c3
   try clear c4
   try clear c6
   try clear p6
   try clear c7
   try clear c14
   try clear c15
   try clear hcz10_0
   try clear hcz10_1
   try clear hcz16_0
   try clear hcz8_0
   try clear hcz8_1
   try clear hfz10_0
   try clear hfz10_1
   try clear hfz16_0
   try clear hfz8_0
   try clear hfz8_1
   obtain ⟨x5_1, x111000_1, u111000, rfl, HA, HK1, HO_111000, BK104, BK105, BK110, HB⟩ := hrel
   cases gk with
   | zero => exact absurd HA.out (by simp [ossuaryref1_Gen.l0])
   | succ k1 =>
    have H := HA.out
    clear HA
    simp only [ossuaryref1_Gen.l0] at H
    by_cases c17 : x5_1 < (x111000_1.length : Int)
    ·rw [if_pos c17] at H
     have c17b0 : decide (x5_1 < (x111000_1.length : Int)) = true := decide_eq_true c17
     clear c17
     have H' := mk0 H
     clear H
     have hnb18 := NB110_104.out
     have hnc18 := NB104_110.out
     have hnb19 := NB110_105.out
     have hnc19 := NB105_110.out
     have hcz20_0 : wr.cell? ⟨gb110, 0, none⟩ = some (u111000) := (blk_cell BK110.out 0).trans rfl
     have hfz20_0 := blk_frozen BK110.out 0
     obtain ⟨Ao21, co21, eo21⟩ := Kd.S_slice HO_111000.out
     subst eo21
     go_wp2
     go_loopg [6] k1 (fun kq v6 w' => ∃ (x6_2 : Int) (x111000_2 : List (List Int)) (u111000 : Value), v6 = .int .i64 x6_2 ∧ Aside0 (ossuaryref1_Gen.l1 kq x5_1 x6_2 a0_0 a0_1 x111000_2 = some (r1, r2)) ∧ Aside0 (kq ≤ k1) ∧ Aside0 (Kd.S (Kd.slice 3 (Kd.int .i64)) 25 w' w.heap.size (fun _ => True) u111000 x111000_2) ∧ Aside0 (w'.heap[gb104]? = some (.cells #[.int .i64 a0_0, .int .i64 a0_1] 51 (0, 0))) ∧ Aside0 (w'.heap[gb105]? = some (.cells #[(.slice none 0 0)] 24 (0, 0))) ∧ Aside0 (w'.heap[gb110]? = some (.cells #[u111000] 24 (0, 0))) ∧ Aside0 (Below w.heap.size w w'))
     case atStart => exact ⟨(0), (x111000_1), (.slice Ao21 x111000_1.length co21), uJ, H', ⟨Nat.le_refl _⟩, ⟨sB HO_111000.out⟩, ⟨bB BK104.out⟩, ⟨bB BK105.out⟩, ⟨bB BK110.out⟩, ⟨uX⟩⟩
     case round =>
      clear H'
      try clear c1
      try clear p2
      try clear c3
      try clear c4
      try clear c6
      try clear p6
      try clear c7
      try clear c14
      try clear c15
      try clear c17
      try clear c17b0
      try clear c18
      try clear c19
      try clear hcz10_0
      try clear hcz10_1
      try clear hcz16_0
      try clear hcz20_0
      try clear hcz8_0
      try clear hcz8_1
      try clear hfz10_0
      try clear hfz10_1
      try clear hfz16_0
      try clear hfz20_0
      try clear hfz8_0
      try clear hfz8_1
      try clear p2
      try clear p6
      obtain ⟨x6_2, x111000_2, u111000, rfl, HA, HK2, HO_111000, BK104, BK105, BK110, HB⟩ := hrel
      cases gk with
      | zero => exact absurd HA.out (by simp [ossuaryref1_Gen.l1])
      | succ k2 =>
       have H := HA.out
       clear HA
       simp only [ossuaryref1_Gen.l1] at H
       by_cases c22 : x6_2 < a0_0
       ·rw [if_pos c22] at H
        have c22b0 : decide (x6_2 < a0_0) = true := decide_eq_true c22
        clear c22
        replace H := Option.bind_eq_some_iff.mp H
        obtain ⟨⟨t121, t122⟩, A230, H⟩ := H
        replace H : (if 0 ≤ x5_1 then (if x5_1 < (x111000_2.length : Int) then (if 0 ≤ x6_2 then (if x6_2 < ((rd_L1 x111000_2 x5_1).length : Int) then (ossuaryref1_Gen.l1 k2 x5_1 (wrap64 (x6_2 + 1)) a0_0 a0_1 (x111000_2.set (x5_1 : Int).toNat ((rd_L1 x111000_2 x5_1).set (x6_2 : Int).toNat t121))) else (none)) else (none)) else (none)) else (none)) = some (r1, r2) := H
        have A23 := mk0 A230
        clear A230
        by_cases c24 : 0 ≤ x5_1
        ·rw [if_pos c24] at H
         have c24b0 : decide (0 ≤ x5_1) = true := decide_eq_true c24
         clear c24
         by_cases c25 : x5_1 < (x111000_2.length : Int)
         ·rw [if_pos c25] at H
          have c25b0 : decide (x5_1 < (x111000_2.length : Int)) = true := decide_eq_true c25
          clear c25
          by_cases c26 : 0 ≤ x6_2
          ·rw [if_pos c26] at H
           have c26b0 : decide (0 ≤ x6_2) = true := decide_eq_true c26
           clear c26
           by_cases c27 : x6_2 < ((rd_L1 x111000_2 x5_1).length : Int)
           ·rw [if_pos c27] at H
            have c27b0 : decide (x6_2 < ((rd_L1 x111000_2 x5_1).length : Int)) = true := decide_eq_true c27
            clear c27
            obtain ⟨y124, hy124⟩ : ∃ y_ : List Int, y_ = ((rd_L1 x111000_2 x5_1).set (x6_2 : Int).toNat t121) := ⟨_, rfl⟩
            replace H : (ossuaryref1_Gen.l1 k2 x5_1 (wrap64 (x6_2 + 1)) a0_0 a0_1 (x111000_2.set (x5_1 : Int).toNat y124)) = some (r1, r2) := by first | (rw [hy124]; with_reducible exact H) | (have H2_ := (Option.bind_some _ _).symm.trans H; rw [hy124]; with_reducible exact H2_) | (have H2_ := (Option.bind_some _ _).symm.trans H; with_reducible exact H2_) | with_reducible exact H | (rw [hy124]; exact H) | exact H
            have Ny124 := mk0 hy124
            clear hy124
            obtain ⟨y126, hy126⟩ : ∃ y_ : List (List Int), y_ = (x111000_2.set (x5_1 : Int).toNat y124) := ⟨_, rfl⟩
            replace H : (ossuaryref1_Gen.l1 k2 x5_1 (wrap64 (x6_2 + 1)) a0_0 a0_1 y126) = some (r1, r2) := by first | (rw [hy126]; with_reducible exact H) | (have H2_ := (Option.bind_some _ _).symm.trans H; rw [hy126]; with_reducible exact H2_) | (have H2_ := (Option.bind_some _ _).symm.trans H; with_reducible exact H2_) | with_reducible exact H | (rw [hy126]; exact H) | exact H
            have Ny126 := mk0 hy126
            clear hy126
            have H' := mk0 H
            clear H
            have hnb29 := NB104_105.out
            have hnc29 := NB105_104.out
            have hnb30 := NB104_110.out
            have hnc30 := NB110_104.out
            have hcz31_0 : wr.cell? ⟨gb104, 0, none⟩ = some (.int .i64 a0_0) := (blk_cell BK104.out 0).trans rfl
            have hcz31_1 : wr.cell? ⟨gb104, 1, none⟩ = some (.int .i64 a0_1) := (blk_cell BK104.out 1).trans rfl
            have hfz31_0 := blk_frozen BK104.out 0
            have hfz31_1 := blk_frozen BK104.out 1
            go_wp2_with (first | ((with_reducible refine gCa (f := 88) rfl ?_); refine goesL_ (some 41) rfl rfl Try.func88 uT rfl #[.int .i64 x5_1, .int .i64 x6_2] rfl uk ?_; (with_reducible refine (GRef.ossuaryref1_Pow.calls k2 x5_1 x6_2 t121 t122 _ A23.out).mono ?_); rintro e w' ⟨rfl, ⟨nd, rfl⟩⟩; refine ⟨_, rfl, ?_⟩; (try (rw [dSe wr]; generalize hq_ : World.drewN wr _ = wr; have n0_ : Aside0 (Kd.S (Kd.slice 3 (Kd.int .i64)) 25 wr w.heap.size (fun _ => True) u111000 x111000_2) := ⟨by rw [← hq_]; exact (sB HO_111000.out)⟩; have n1_ : Aside0 (wr.heap[gb104]? = some (.cells #[.int .i64 a0_0, .int .i64 a0_1] 51 (0, 0))) := ⟨by rw [← hq_]; exact (bB BK104.out)⟩; have n2_ : Aside0 (wr.heap[gb105]? = some (.cells #[.slice none 0 0] 24 (0, 0))) := ⟨by rw [← hq_]; exact (bB BK105.out)⟩; have n3_ : Aside0 (wr.heap[gb110]? = some (.cells #[u111000] 24 (0, 0))) := ⟨by rw [← hq_]; exact (bB BK110.out)⟩; have n4_ : Aside0 (Below w.heap.size w wr) := ⟨uh⟩; clear HO_111000 BK104 BK105 BK110 HB hq_; have HO_111000 := n0_; have BK104 := n1_; have BK105 := n2_; have BK110 := n3_; have HB := n4_; clear n0_ n1_ n2_ n3_ n4_)); have hnb32 := NB110_105.out; have hnc32 := NB105_110.out; have hcz33_0 : wr.cell? ⟨gb110, 0, none⟩ = some (u111000) := (blk_cell BK110.out 0).trans rfl; have hfz33_0 := blk_frozen BK110.out 0; obtain ⟨Ao34, co34, eo34⟩ := Kd.S_slice HO_111000.out; subst eo34; have p123 : 0 ≤ (x5_1 : Int) := of_decide_eq_true uI; have q123 : x5_1 < (x111000_2.length : Int) := of_decide_eq_true uI; obtain ⟨ad123, A123_0, c123_0, e123, hx123_0, hl123_0, hi123_0⟩ := at_L1 (Kd.S_reads' HO_111000.out).2.2 x5_1 p123 q123; cases e123; obtain ⟨ce123, hce123, hMe123, hcc123⟩ := Kd.S_get HO_111000.out [] x5_1 p123 (by first | exact q123 | exact of_decide_eq_true uI | (have e_ := (Kd.S_reads' HO_111000.out).1; omega)); obtain ⟨ve123_0, rfl, ge123_0⟩ := hMe123; have hv123_0 := hcc123 0 _ rfl; rw [Nat.add_zero, show ((Kd.slice 3 (Kd.int .i64))).sz = 1 from rfl, Nat.mul_one] at hv123_0; replace hv123_0 := Option.some.inj (hv123_0.symm.trans hx123_0); rw [hv123_0] at ge123_0; have HL123_0 := mk0 (show Kd.R (Kd.int .i64) 3 _ _ _ _ (rd_L1 x111000_2 x5_1) from ge123_0); clear hv123_0 ge123_0; have HX123_0 := mk0 hx123_0; clear hcc123 hce123; have HR123_0 := mk0 hi123_0; have HC123_0 := mk0 hl123_0; clear hi123_0 hl123_0; replace p123 := eq_true p123; replace q123 := eq_true q123; have p28 : 0 ≤ (x6_2 : Int) := of_decide_eq_true uI; have q28 : (x6_2 : Int) < (((rd_L1 x111000_2 x5_1).length : Int) : Int) := of_decide_eq_true uI; obtain ⟨go28, co28, eo28, gb28, gl28, cl28, HG28⟩ := Kd.R_form HL123_0.out uV; (first | cases eo28 | (injection eo28 with ea_ en_ ec_; (first | subst ea_ | (injection ea_ with ea_; subst ea_)); subst ec_; clear en_)); have GB28 := mk0 gb28; have GG28 := mk0 HG28; clear gb28 gl28 HG28; obtain ⟨hx28_0, hf28_0⟩ := Kd.R_celln 0 HL123_0.out (x6_2 : Int) p28 q28; replace p28 := eq_true p28; replace q28 := eq_true q28; have hq35 : (x5_1 : Int) < (x111000_2.length : Int) := (by have h_ : (x5_1 : Int) < ((x111000_2.length : Int) : Int) := of_decide_eq_true uI; first | exact h_ | (have e_ := (Kd.S_reads' HO_111000.out).1; omega) | simpa only [List.length_set, List.length_set] using h_); obtain ⟨oki35, ce35, hcl35, hM35, hcc35, hok35, hbk35⟩ := Kd.S_borrow HO_111000.out [] (x5_1 : Int) (of_decide_eq_true uI) hq35; obtain ⟨ve35_0, rfl, ge35_0⟩ := hM35; have hv35 := hcc35 0 _ rfl; rw [Nat.add_zero, show ((Kd.slice 3 (Kd.int .i64))).sz = 1 from rfl, Nat.mul_one] at hv35; replace hv35 := Option.some.inj (hv35.symm.trans HX123_0.out); subst hv35; clear hcc35 hcl35; replace ge35_0 := (show Kd.R (Kd.int .i64) 3 _ _ _ _ (rd_L1 x111000_2 x5_1) from ge35_0); have HP35 := Kd.R_putg ge35_0 (x6_2 : Int) t121) | ((with_reducible refine gate_store (t := 3) (p := 51) rfl ?_); refine store_event (t := 3) (p := 51) (v := ?vo_w36) (w1 := (wr.setCell ⟨go28, (x6_2 : Int).toNat, none⟩ (.int .i64 t121))) ?hg ?ho ?hn ?hr ?_; (case ho => rfl); (case hg => rfl); (case hn => rfl); (case hr => first | (go_simp; done) | (go_simp; rfl)); intro w36 hw; have hg : wr.grownBy w36 (some go28) := (by rw [hw]; exact HP35.2); have hz_ : Kd.R (Kd.int .i64) 3 w36 w.heap.size oki35 (.slice (some ⟨go28, 0, none⟩) (rd_L1 x111000_2 x5_1).length c123_0) y124 := (by rw [hw, Ny124.out]; exact HP35.1); have hp_ : Kd.S (Kd.slice 3 (Kd.int .i64)) 25 w36 w.heap.size (fun _ => True) (.slice (some ad123) x111000_2.length co34) y126 := (by rw [Ny126.out]; exact hbk35 hg (fun k_ e_ => by injection e_ with e_; subst e_; exact ge35_0.1 _ rfl) (Kd.M_row hz_)); have hm_ := Kd.R_mono hz_ hok35; clear HP35 hbk35; replace HO_111000 := mk0 (hp_); replace BK104 := mk0 (blk_grown (g := gb104) (o := .cells #[.int .i64 a0_0, .int .i64 a0_1] 51 (0, 0)) (bB BK104.out) hg (Kd.R_ne HL123_0.out BK104.out uZ)); replace BK105 := mk0 (blk_grown (g := gb105) (o := .cells #[.slice none 0 0] 24 (0, 0)) (bB BK105.out) hg (Kd.R_ne HL123_0.out BK105.out uZ)); replace BK110 := mk0 (blk_grown (g := gb110) (o := .cells #[.slice (some ad123) x111000_2.length co34] 24 (0, 0)) (bB BK110.out) hg (Kd.R_ne HL123_0.out BK110.out uZ)); replace HB := mk0 ((by rw [hw]; exact below_set (HB.out) GB28.out : Below w.heap.size w w36)); have HL127 := mk0 (hm_); have HC125 := mk0 ((Kd.R_reads' hm_).2.1); clear HL123_0; clear hg hw hp_ hz_ hm_ hok35))
            go_roundg k2
            case measure => have := HK1.out; have := HK2.out; omega
            case rel => exact ⟨(wrap64 (x6_2 + 1)), (y126), (.slice (some ad123) x111000_2.length co34), uJ, H', ⟨uM⟩, ⟨sB HO_111000.out⟩, ⟨bB BK104.out⟩, ⟨bB BK105.out⟩, ⟨bB BK110.out⟩, ⟨uX⟩⟩
           ·rw [if_neg c27] at H
            exact absurd H qa
          ·rw [if_neg c26] at H
           exact absurd H qa
         ·rw [if_neg c25] at H
          exact absurd H qa
        ·rw [if_neg c24] at H
         exact absurd H qa
       ·rw [if_neg c22] at H
        have c22b0 : decide (x6_2 < a0_0) = false := decide_eq_false c22
        clear c22
        have H' := mk0 H
        clear H
        have hnb37 := NB104_105.out
        have hnc37 := NB105_104.out
        have hnb38 := NB104_110.out
        have hnc38 := NB110_104.out
        have hcz39_0 : wr.cell? ⟨gb104, 0, none⟩ = some (.int .i64 a0_0) := (blk_cell BK104.out 0).trans rfl
        have hcz39_1 : wr.cell? ⟨gb104, 1, none⟩ = some (.int .i64 a0_1) := (blk_cell BK104.out 1).trans rfl
        have hfz39_0 := blk_frozen BK104.out 0
        have hfz39_1 := blk_frozen BK104.out 1
        go_wp2
        go_roundg k2
        case measure => have := HK1.out; have := HK2.out; omega
        case rel => exact ⟨(wrap64 (x5_1 + 1)), (x111000_2), (u111000), uJ, H', ⟨uM⟩, ⟨sB HO_111000.out⟩, ⟨bB BK104.out⟩, ⟨bB BK105.out⟩, ⟨bB BK110.out⟩, ⟨uX⟩⟩
    ·rw [if_neg c17] at H
     have c17b0 : decide (x5_1 < (x111000_1.length : Int)) = false := decide_eq_false c17
     clear c17
     have cA : 0 ≤ a0_0 := Classical.byContradiction (fun h_ => by rw [if_neg h_] at H; exact absurd H qa)
     rw [if_pos cA] at H
     have cB : a0_0 ≤ (x111000_1.length : Int) := Classical.byContradiction (fun h_ => by rw [if_neg h_] at H; exact absurd H qa)
     rw [if_pos cB] at H
     replace H := Option.bind_eq_some_iff.mp H
     obtain ⟨⟨t111, t114⟩, A400, H⟩ := H
     replace H : ((GRef.ossuaryref1_MulMatrix.f k1 x111000_1 t111).bind fun bt116 => (some (bt116.1, 0))) = some (r1, r2) := H
     have A40 := mk0 A400
     clear A400
     replace H := Option.bind_eq_some_iff.mp H
     obtain ⟨⟨t116, t119⟩, A410, H⟩ := H
     replace H : (some (t116, 0)) = some (r1, r2) := H
     have A41 := mk0 A410
     clear A410
     simp only [Option.some.injEq, Prod.mk.injEq] at H
     obtain ⟨rfl, rfl⟩ := H
     have hnb42 := NB110_104.out
     have hnc42 := NB104_110.out
     have hnb43 := NB110_105.out
     have hnc43 := NB105_110.out
     have hcz44_0 : wr.cell? ⟨gb110, 0, none⟩ = some (u111000) := (blk_cell BK110.out 0).trans rfl
     have hfz44_0 := blk_frozen BK110.out 0
     obtain ⟨Ao45, co45, eo45⟩ := Kd.S_slice HO_111000.out
     subst eo45
     have hnb46 := NB104_105.out
     have hnc46 := NB105_104.out
     have hcz47_0 : wr.cell? ⟨gb104, 0, none⟩ = some (.int .i64 a0_0) := (blk_cell BK104.out 0).trans rfl
     have hcz47_1 : wr.cell? ⟨gb104, 1, none⟩ = some (.int .i64 a0_1) := (blk_cell BK104.out 1).trans rfl
     have hfz47_0 := blk_frozen BK104.out 0
     have hfz47_1 := blk_frozen BK104.out 1
     obtain ⟨i25_, hi25_, _, _, _⟩ := info_parts Fn.cln_info25
     have hlen_ : (x111000_1.take a0_0.toNat).length = a0_0.toNat := by rw [List.length_take]; omega
     have hcut_ := cut_over (P := Try.prog) 22 25 .i64 Try.underlying22 hi25_ Ao45 x111000_1.length co45 a0_0 cA (by have := (Kd.S_reads' HO_111000.out).2.1; omega)
     rw [← hlen_] at hcut_
     have LT_ := Aside0.mk (show a0_0.toNat ≤ x111000_1.length by omega)
     have LC_ := Aside0.mk (show (x111000_1.take a0_0.toNat).length ≤ co45 by have := (Kd.S_reads' HO_111000.out).2.1; omega)
     clear cA cB hi25_ hlen_
     go_wp2_with (first | ((with_reducible refine gCa (f := 41) rfl ?_); refine goesL_ (some 59) rfl rfl Try.func41 uT rfl #[.agg #[.slice Ao45 (x111000_1.take a0_0.toNat).length co45]] rfl uk ?_; (with_reducible refine (Pr.rinv.calls _ _ (x111000_1.take a0_0.toNat) t111 t114 _ ?side1 ?side2 A40.out).mono ?_); (case side1 => repeat (first | exact Kd.C_take (Kd.S_reads' HO_111000.out).2.2 LT_.out | (with_reducible refine Kd.C_alloc ?_ _) | (with_reducible refine Kd.C_drewN ?_ _) | (with_reducible refine Kd.C_drew ?_))); (case side2 => exact LC_.out); rintro e w48 ⟨v112, rfl, ho0, hb⟩; refine ⟨_, rfl, ?_⟩; have HO113 := mk0 (Kd.S_lower (Kd.S_new' ho0 (Kd.S_lt (sB HO_111000.out))) (below_size uX)); replace HO_111000 := mk0 (Kd.S_elder' (sB HO_111000.out) (Kd.S_base ho0) hb); replace BK104 := bK BK104 hb; replace BK105 := bK BK105 hb; replace BK110 := bK BK110 hb; replace HB := mk0 (below_step uX hb); (try clear hb); (try clear hb2); (try clear hk); (try clear hi); (try clear ho0)) | ((with_reducible refine gate_dst (N := 9) rfl ?_); refine box_event uW (N := 9) uW (cs := #[.slice none 0 0]) (t := 24) uL ?_; intro gb115 hg w49 hbox hb; replace HO_111000 := mk0 (Kd.S_below (sB HO_111000.out) hb); replace HO113 := mk0 (Kd.S_below (sB HO113.out) hb); have BK115 := mk0 (hbox); have GW115 := mk0 (nB hg HB); have GE115 := mk0 (nB hg HB); replace HB := mk0 (below_step uX hb); have NB104_115 := mk0 (nF hg BK104.out); have NB115_104 := mk0 (nE hg BK104.out); replace BK104 := bK BK104 hb; have NB105_115 := mk0 (nF hg BK105.out); have NB115_105 := mk0 (nE hg BK105.out); replace BK105 := bK BK105 hb; have NB110_115 := mk0 (nF hg BK110.out); have NB115_110 := mk0 (nE hg BK110.out); replace BK110 := bK BK110 hb; clear hb hbox hg; obtain ⟨Ao50, co50, eo50⟩ := Kd.S_slice HO113.out; subst eo50; have hnb51 := NB115_104.out; have hnc51 := NB104_115.out; have hnb52 := NB115_105.out; have hnc52 := NB105_115.out; have hnb53 := NB115_110.out; have hnc53 := NB110_115.out; have hcz54_0 : w49.cell? ⟨gb115, 0, none⟩ = some (.slice none 0 0) := (blk_cell BK115.out 0).trans rfl; have hfz54_0 := blk_frozen BK115.out 0; have hcz55_0 : w49.cell? ⟨gb110, 0, none⟩ = some (.slice Ao45 x111000_1.length co45) := (blk_cell BK110.out 0).trans rfl; have hfz55_0 := blk_frozen BK110.out 0) | ((with_reducible refine gCa (f := 29) rfl ?_); refine goesL_ (some 65) rfl rfl Try.func29 uT rfl #[.agg #[.slice Ao45 x111000_1.length co45], .agg #[.slice Ao50 t111.length co50]] rfl uk ?_; (with_reducible refine (GRef.ossuaryref1_MulMatrix.calls k1 _ _ x111000_1 _ _ t111 t116 t119 _ ?side1 ?side2 ?side3 ?side4 A41.out).mono ?_); (case side1 => refine (Kd.S_reads' (e := 25) (base := w.heap.size) (ok := fun k_ => (True ∧ some k_ ≠ (.slice Ao50 t111.length co50 : Value).ownBlock)) (n := x111000_1.length) (c := co45) ?_).2.2; exact (by (with_reducible repeat (first | apply sA | apply sN | apply sD)); exact (Kd.S_mono (Kd.S_far (p := ⟨gb115, 0, none⟩) (Kd.S_types HO_111000.out BK115.out uZ) (fun _ hk => hk.2) (.slice Ao50 t111.length co50)) (fun _ h_ => h_.1)))); (case side2 => exact (Kd.S_reads' HO_111000.out).2.1); (case side3 => refine (Kd.S_reads' (e := 25) (base := w.heap.size) (ok := fun k_ => (True ∧ some k_ ≠ (.slice Ao45 x111000_1.length co45 : Value).ownBlock)) (n := t111.length) (c := co50) ?_).2.2; exact (by (with_reducible repeat (first | apply sA | apply sN | apply sD)); exact (Kd.S_mono (Kd.S_far (p := ⟨gb115, 0, none⟩) (Kd.S_types HO113.out BK115.out uZ) (fun _ hk => hk.2) (.slice Ao50 t111.length co50)) (fun _ h_ => h_.1)))); (case side4 => exact (Kd.S_reads' HO113.out).2.1); rintro e w56 ⟨v117, rfl, ho0, hb⟩; refine ⟨_, rfl, ?_⟩; have HO118 := mk0 (Kd.S_lower (Kd.S_new' (Kd.S_new' ho0 (Kd.S_lt (by (with_reducible repeat (first | apply sA | apply sN | apply sD)); exact (Kd.S_mono (Kd.S_far (p := ⟨gb115, 0, none⟩) (Kd.S_types HO_111000.out BK115.out uZ) (fun _ hk => hk.2) (.slice Ao50 t111.length co50)) (fun _ h_ => h_.1))))) (Kd.S_lt (by (with_reducible repeat (first | apply sA | apply sN | apply sD)); exact (Kd.S_mono (Kd.S_far (p := ⟨gb115, 0, none⟩) (Kd.S_types HO113.out BK115.out uZ) (fun _ hk => hk.2) (.slice Ao50 t111.length co50)) (fun _ h_ => h_.1))))) (below_size uX)); replace HO_111000 := mk0 (Kd.S_elder' (by (with_reducible repeat (first | apply sA | apply sN | apply sD)); exact (Kd.S_mono (Kd.S_far (p := ⟨gb115, 0, none⟩) (Kd.S_types HO_111000.out BK115.out uZ) (fun _ hk => hk.2) (.slice Ao50 t111.length co50)) (fun _ h_ => h_.1))) (Kd.S_base ho0) hb); replace HO113 := mk0 (Kd.S_elder' (by (with_reducible repeat (first | apply sA | apply sN | apply sD)); exact (Kd.S_mono (Kd.S_far (p := ⟨gb115, 0, none⟩) (Kd.S_types HO113.out BK115.out uZ) (fun _ hk => hk.2) (.slice Ao50 t111.length co50)) (fun _ h_ => h_.1))) (Kd.S_base ho0) hb); replace BK104 := mk0 (blk_below (g := gb104) (o := .cells #[.int .i64 a0_0, .int .i64 a0_1] 51 (0, 0)) (by refine bB ?_; refine blk_far ?_ NB104_115.out _; refine bB ?_; exact BK104.out) hb); replace BK105 := mk0 (blk_below (g := gb105) (o := .cells #[.slice none 0 0] 24 (0, 0)) (by refine bB ?_; refine blk_far ?_ NB105_115.out _; refine bB ?_; exact BK105.out) hb); replace BK110 := mk0 (blk_below (g := gb110) (o := .cells #[.slice Ao45 x111000_1.length co45] 24 (0, 0)) (by refine bB ?_; refine blk_far ?_ NB110_115.out _; refine bB ?_; exact BK110.out) hb); replace BK115 := mk0 (blk_below (g := gb115) (o := .cells #[.slice Ao50 t111.length co50] 24 (0, 0)) uv hb); replace HB := mk0 (below_step uX hb); (try clear hb); (try clear hb2); (try clear hk); (try clear hi); (try clear ho0)) | ((with_reducible refine gate_dst (N := 11) rfl ?_); refine box_event uW (N := 11) uW (cs := #[.slice none 0 0]) (t := 24) uL ?_; intro gb120 hg w57 hbox hb; replace HO_111000 := mk0 (Kd.S_below (sB HO_111000.out) hb); replace HO113 := mk0 (Kd.S_below (sB HO113.out) hb); replace HO118 := mk0 (Kd.S_below (sB HO118.out) hb); have BK120 := mk0 (hbox); have GW120 := mk0 (nB hg HB); have GE120 := mk0 (nB hg HB); replace HB := mk0 (below_step uX hb); have NB104_120 := mk0 (nF hg BK104.out); have NB120_104 := mk0 (nE hg BK104.out); replace BK104 := bK BK104 hb; have NB105_120 := mk0 (nF hg BK105.out); have NB120_105 := mk0 (nE hg BK105.out); replace BK105 := bK BK105 hb; have NB110_120 := mk0 (nF hg BK110.out); have NB120_110 := mk0 (nE hg BK110.out); replace BK110 := bK BK110 hb; have NB115_120 := mk0 (nF hg BK115.out); have NB120_115 := mk0 (nE hg BK115.out); replace BK115 := bK BK115 hb; clear hb hbox hg; obtain ⟨Ao58, co58, eo58⟩ := Kd.S_slice HO118.out; subst eo58; have hnb59 := NB120_104.out; have hnc59 := NB104_120.out; have hnb60 := NB120_105.out; have hnc60 := NB105_120.out; have hnb61 := NB120_110.out; have hnc61 := NB110_120.out; have hnb62 := NB120_115.out; have hnc62 := NB115_120.out; have hcz63_0 : w57.cell? ⟨gb120, 0, none⟩ = some (.slice none 0 0) := (blk_cell BK120.out 0).trans rfl; have hfz63_0 := blk_frozen BK120.out 0; have hcz64_0 : w57.cell? ⟨gb105, 0, none⟩ = some (.slice none 0 0) := (blk_cell BK105.out 0).trans rfl; have hfz64_0 := blk_frozen BK105.out 0))
     refine bodyPost_ret (results_ct rfl _ _ gb105 24 #[.slice Ao58 t116.length co58] (0, 0) _ rfl (by refine bB ?_; refine blk_put (cs := #[.slice none 0 0]) ?_ 0 _ rfl; refine bB ?_; refine blk_far ?_ NB105_120.out _; refine bB ?_; exact BK105.out) Try.underlying24 rfl uT) rfl ?_
     exact ⟨_, uz, by (with_reducible repeat (first | apply sA | apply sN | apply sD)); exact Kd.S_mono (Kd.S_far (p := ⟨gb105, 0, none⟩) (Kd.S_far (p := ⟨gb120, 0, none⟩) (Kd.S_types (Kd.S_types HO118.out BK120.out uZ) BK105.out uZ) (fun _ hk => hk.1.2) (.slice Ao58 t116.length co58)) (fun _ hk => hk.2) (.slice Ao58 t116.length co58)) (fun _ hk => trivial), uX⟩
 ·replace c3 := Bool.eq_false_iff.mpr c3
  subst c3
  have H1 : (some (([] : List (List Int)), 500)) = some (r1, r2) := by rw [if_neg (show ¬ (false = true) by decide)] at H; exact H
  clear H
  have H := H1
  clear H1
  simp only [Option.some.injEq, Prod.mk.injEq] at H
  obtain ⟨rfl, rfl⟩ := H
  go_enter Try.func44, Try.ntmps44
  go_wp2_with (first | ((with_reducible refine gate_dst (N := 1) rfl ?_); refine box_event uW (N := 1) uW (cs := #[.int .i64 a0_0, .int .i64 a0_1]) (t := 51) uL ?_; intro gb104 hg w65 hbox hb; have BK104 := mk0 (hbox); have GW104 := mk0 (nB hg HB); have GE104 := mk0 (nB hg HB); replace HB := mk0 (below_step ut hb); clear hb hbox hg) | ((with_reducible refine gate_dst (N := 2) rfl ?_); refine box_event uW (N := 2) uW (cs := #[.slice none 0 0]) (t := 24) uL ?_; intro gb105 hg w66 hbox hb; have BK105 := mk0 (hbox); have GW105 := mk0 (nB hg HB); have GE105 := mk0 (nB hg HB); replace HB := mk0 (below_step uX hb); have NB104_105 := mk0 (nF hg BK104.out); have NB105_104 := mk0 (nE hg BK104.out); replace BK104 := bK BK104 hb; clear hb hbox hg; have hnb67 := NB104_105.out; have hnc67 := NB105_104.out; have hcz68_0 : w66.cell? ⟨gb104, 0, none⟩ = some (.int .i64 a0_0) := (blk_cell BK104.out 0).trans rfl; have hcz68_1 : w66.cell? ⟨gb104, 1, none⟩ = some (.int .i64 a0_1) := (blk_cell BK104.out 1).trans rfl; have hfz68_0 := blk_frozen BK104.out 0; have hfz68_1 := blk_frozen BK104.out 1) | ((with_reducible refine gCa (f := 46) rfl ?_); refine goesL_ (some 14) rfl rfl Try.func46 uT rfl #[.agg #[.int .i64 a0_0, .int .i64 a0_1]] rfl uk ?_; (with_reducible refine (GRef.ossuaryref1_ShapeMay.calls a0_0 a0_1 false _ A2.out).mono ?_); rintro e w69 ⟨rfl, hb⟩; refine ⟨_, rfl, ?_⟩; replace BK104 := bK BK104 hb; replace BK105 := bK BK105 hb; replace HB := mk0 (below_step uX hb); (try clear hb); have hcz70_0 : w69.cell? ⟨gb105, 0, none⟩ = some (.slice none 0 0) := (blk_cell BK105.out 0).trans rfl; have hfz70_0 := blk_frozen BK105.out 0))
  refine bodyPost_ret (results_ct rfl _ _ gb105 24 #[.slice none 0 0] (0, 0) _ rfl (by refine bB ?_; refine blk_put (cs := #[.slice none 0 0]) ?_ 0 _ rfl; refine bB ?_; exact BK105.out) Try.underlying24 rfl uT) rfl ?_
  exact ⟨_, uz, uj, uX⟩
end Go.Proofs.Ytaahnicjjpddjaa.GRgen
