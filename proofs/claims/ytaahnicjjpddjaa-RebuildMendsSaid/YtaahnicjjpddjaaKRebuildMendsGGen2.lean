/- Functions of the program as Lean functions, each with a proof that its call comes to what the function says. No condition. -/
import Derived.Test.YtaahnicjjpddjaaKRebuildMendsGGen0
namespace Go.Proofs.Ytaahnicjjpddjaa.GGen
open Go.Proofs.Ytaahnicjjpddjaa.Fn
open Go.Proofs.Ytaahnicjjpddjaa
open Go.RowKit Go.Proofs.YtaahnicjjpddjaaW.PrintWords Go.Proofs.YtaahnicjjpddjaaW.PrintLast
set_option linter.unusedVariables false
set_option linter.unusedSimpArgs false
theorem cut_over (t e : TypeId) (kh : IntKind) {P : Program} {i : TypeInfo} (ht : P.underlying t = some (.slice e)) (hi : P.info? e = some i) (A : Option Addr) (n c : Nat) (j : Int) (h0 : 0 ≤ j) (hc : j ≤ c) :
    ∀ W : World, (Instr.slice t (.slice A n c) none (some (.int kh j)) none).run P W = .ok (.slice A j.toNat c) W := by
  intro W
  have hel : P.elem t = e := by simp [Program.elem, ht]
  have hu : P.underlying t = some (.slice (P.elem t)) := by rw [hel]; exact ht
  have ha : (A.map fun x => x.add 0) = A := by cases A <;> simp [Addr.add]
  rw [run_slice_h W t A n c hu kh j h0 hc, hel]
  simp [sizeOf, typeInfo, hi, sliced, Result.andThen, ha]
mutual
noncomputable def gen_Matrix.l0 : Nat → Int → Int → Int → Int → List (List Int) → Option ((List (List Int)) × Int)
 | 0, _, _, _, _, _ => none
 | k + 1, x17, x18, x112000, x112001, x115000 => if x18 < x17 then (if 0 ≤ x112000 then (if (x112000 : Int).toNat ≤ 35184372088832 then ((some (List.replicate (x112000 : Int).toNat 0 : List Int)).bind fun y126 => (gen_Matrix.l1 k x18 y126 x17 x18 (y126.length : Int) 0 x112000 x112001 x115000)) else (none)) else (none)) else (if 0 ≤ x112000 then (if x112000 ≤ (x115000.length : Int) then ((Pr.inv.f (x115000.take x112000.toNat)).bind fun bt116 => ((GMul.matrix_Mul.f k x115000 bt116.1).bind fun bt121 => (some (bt121.1, 0)))) else (none)) else (none))
noncomputable def gen_Matrix.l1 : Nat → Int → List Int → Int → Int → Int → Int → Int → Int → List (List Int) → Option ((List (List Int)) × Int)
 | 0, _, _, _, _, _, _, _, _, _ => none
 | k + 1, x5, x6, x17, x18, x25, x26, x112000, x112001, x115000 => if x26 < x25 then ((GGf.gf_Pow.f k x5 x26).bind fun bt129 => (if 0 ≤ x26 then (if x26 < (x6.length : Int) then (gen_Matrix.l1 k x5 (x6.set (x26 : Int).toNat bt129.1) x17 x18 x25 (wrap64 (x26 + 1)) x112000 x112001 x115000) else (none)) else (none))) else (if x115000.length < 5864062014805 then (gen_Matrix.l0 k x17 (wrap64 (x18 + 1)) x112000 x112001 (x115000 ++ [x6])) else (none))
end
noncomputable def gen_Matrix.f (k : Nat) (a0_0 : Int) (a0_1 : Int) : Option ((List (List Int)) × Int) := (GGf.gen_May.f a0_0 a0_1).bind fun t113 => (if t113 = true then ((GGf.gen_All.f a0_0 a0_1).bind fun t115 => (gen_Matrix.l0 k t115 0 a0_0 a0_1 ([] : List (List Int)))) else (some (([] : List (List Int)), 500)))
theorem gen_Matrix.mono_l : ∀ k, (∀ y0 y1 y2 y3 y4, LeO (gen_Matrix.l0 k y0 y1 y2 y3 y4) (gen_Matrix.l0 (k + 1) y0 y1 y2 y3 y4)) ∧ (∀ y0 y1 y2 y3 y4 y5 y6 y7 y8, LeO (gen_Matrix.l1 k y0 y1 y2 y3 y4 y5 y6 y7 y8) (gen_Matrix.l1 (k + 1) y0 y1 y2 y3 y4 y5 y6 y7 y8))
 | 0 => ⟨fun _ _ _ _ _ r h => by simp [gen_Matrix.l0] at h, fun _ _ _ _ _ _ _ _ _ r h => by simp [gen_Matrix.l1] at h⟩
 | k + 1 => by
  obtain ⟨ih0, ih1⟩ := gen_Matrix.mono_l k
  refine ⟨?_, ?_⟩
  ·intro y0 y1 y2 y3 y4
   unfold gen_Matrix.l0
   repeat' with_reducible first | exact ih0 _ _ _ _ _ | exact ih1 _ _ _ _ _ _ _ _ _ | exact GGf.gf_Pow.mono _ _ _ | exact GMul.matrix_Mul.mono _ _ _ | exact LeO.refl _ | exact LeO.none _ | refine LeO.ite ?_ ?_ | refine LeO.bind ?_ (fun _ => ?_)
  ·intro y0 y1 y2 y3 y4 y5 y6 y7 y8
   unfold gen_Matrix.l1
   repeat' with_reducible first | exact ih0 _ _ _ _ _ | exact ih1 _ _ _ _ _ _ _ _ _ | exact GGf.gf_Pow.mono _ _ _ | exact GMul.matrix_Mul.mono _ _ _ | exact LeO.refl _ | exact LeO.none _ | refine LeO.ite ?_ ?_ | refine LeO.bind ?_ (fun _ => ?_)
theorem gen_Matrix.mono : ∀ a0 a1 k, LeO (gen_Matrix.f k a0 a1) (gen_Matrix.f (k + 1) a0 a1) := by
 intro a0 a1 k
 obtain ⟨ih0, ih1⟩ := gen_Matrix.mono_l k
 unfold gen_Matrix.f
 repeat' with_reducible first | exact ih0 _ _ _ _ _ | exact ih1 _ _ _ _ _ _ _ _ _ | exact GGf.gf_Pow.mono _ _ _ | exact GMul.matrix_Mul.mono _ _ _ | exact LeO.refl _ | exact LeO.none _ | refine LeO.ite ?_ ?_ | refine LeO.bind ?_ (fun _ => ?_)
set_option maxHeartbeats 8000000 in
set_option maxRecDepth 100000 in
theorem gen_Matrix.calls (k : Nat) (a0_0 : Int) (a0_1 : Int) (r1 : List (List Int)) (r2 : Int) (w : World) (h : gen_Matrix.f k a0_0 a0_1 = some (r1, r2)) :
  Calls Try.prog 43 #[.agg #[.int .i64 a0_0, .int .i64 a0_1]] w fun e w' => ∃ v0_ : Value, e = .returned (.tuple #[.agg #[v0_], .int .i64 r2]) ∧ Kd.S (Kd.slice 3 (Kd.int .i64)) 25 w' w.heap.size (fun _ => True) v0_ r1 ∧ Below w.heap.size w w' := by
 have hu51 := Try.underlying51
 have hu24 := Try.underlying24
 have HB := mk0 (Below.refl w.heap.size w)
 have H : ((GGf.gen_May.f a0_0 a0_1).bind fun t113 => (if t113 = true then ((GGf.gen_All.f a0_0 a0_1).bind fun t115 => (gen_Matrix.l0 k t115 0 a0_0 a0_1 ([] : List (List Int)))) else (some (([] : List (List Int)), 500)))) = some (r1, r2) := h
 clear h
 replace H := Option.bind_eq_some_iff.mp H
 obtain ⟨t113, A20, H⟩ := H
 replace H : (if t113 = true then ((GGf.gen_All.f a0_0 a0_1).bind fun t115 => (gen_Matrix.l0 k t115 0 a0_0 a0_1 ([] : List (List Int)))) else (some (([] : List (List Int)), 500))) = some (r1, r2) := H
 have A2 := mk0 A20
 clear A20
 by_cases c3 : t113 = true
 ·subst c3
  have H1 : ((GGf.gen_All.f a0_0 a0_1).bind fun t115 => (gen_Matrix.l0 k t115 0 a0_0 a0_1 ([] : List (List Int)))) = some (r1, r2) := by rw [if_pos rfl] at H; exact H
  clear H
  have H := H1
  clear H1
  replace H := Option.bind_eq_some_iff.mp H
  obtain ⟨t115, A40, H⟩ := H
  replace H : (gen_Matrix.l0 k t115 0 a0_0 a0_1 ([] : List (List Int))) = some (r1, r2) := H
  have A4 := mk0 A40
  clear A40
  have H' := mk0 H
  clear H
  go_enter Try.func43, Try.ntmps43
  go_wp2_with (first | ((with_reducible refine gate_dst (N := 1) rfl ?_); refine box_event uW (N := 1) uW (cs := #[.int .i64 a0_0, .int .i64 a0_1]) (t := 51) uL ?_; intro gb111 hg w5 hbox hb; have BK111 := mk0 (hbox); have GW111 := mk0 (nB hg HB); have GE111 := mk0 (nB hg HB); replace HB := mk0 (below_step ut hb); clear hb hbox hg) | ((with_reducible refine gate_dst (N := 2) rfl ?_); refine box_event uW (N := 2) uW (cs := #[.slice none 0 0]) (t := 24) uL ?_; intro gb112 hg w6 hbox hb; have BK112 := mk0 (hbox); have GW112 := mk0 (nB hg HB); have GE112 := mk0 (nB hg HB); replace HB := mk0 (below_step uX hb); have NB111_112 := mk0 (nF hg BK111.out); have NB112_111 := mk0 (nE hg BK111.out); replace BK111 := bK BK111 hb; clear hb hbox hg; have hnb7 := NB111_112.out; have hnc7 := NB112_111.out; have hcz8_0 : w6.cell? ⟨gb111, 0, none⟩ = some (.int .i64 a0_0) := (blk_cell BK111.out 0).trans rfl; have hcz8_1 : w6.cell? ⟨gb111, 1, none⟩ = some (.int .i64 a0_1) := (blk_cell BK111.out 1).trans rfl; have hfz8_0 := blk_frozen BK111.out 0; have hfz8_1 := blk_frozen BK111.out 1) | ((with_reducible refine gCa (f := 45) rfl ?_); refine goesL_ (some 13) rfl rfl Try.func45 uT rfl #[.agg #[.int .i64 a0_0, .int .i64 a0_1]] rfl uk ?_; (with_reducible refine (GGf.gen_May.calls a0_0 a0_1 true _ A2.out).mono ?_); rintro e w9 ⟨rfl, hb⟩; refine ⟨_, rfl, ?_⟩; replace BK111 := bK BK111 hb; replace BK112 := bK BK112 hb; replace HB := mk0 (below_step uX hb); (try clear hb)) | ((with_reducible refine gate_dst (N := 4) rfl ?_); refine box_event uW (N := 4) uW (cs := #[.slice none 0 0]) (t := 24) uL ?_; intro gb114 hg w10 hbox hb; have BK114 := mk0 (hbox); have GW114 := mk0 (nB hg HB); have GE114 := mk0 (nB hg HB); replace HB := mk0 (below_step uX hb); have NB111_114 := mk0 (nF hg BK111.out); have NB114_111 := mk0 (nE hg BK111.out); replace BK111 := bK BK111 hb; have NB112_114 := mk0 (nF hg BK112.out); have NB114_112 := mk0 (nE hg BK112.out); replace BK112 := bK BK112 hb; clear hb hbox hg; have hnb11 := NB111_114.out; have hnc11 := NB114_111.out; have hcz12_0 : w10.cell? ⟨gb111, 0, none⟩ = some (.int .i64 a0_0) := (blk_cell BK111.out 0).trans rfl; have hcz12_1 : w10.cell? ⟨gb111, 1, none⟩ = some (.int .i64 a0_1) := (blk_cell BK111.out 1).trans rfl; have hfz12_0 := blk_frozen BK111.out 0; have hfz12_1 := blk_frozen BK111.out 1) | ((with_reducible refine gCa (f := 86) rfl ?_); refine goesL_ (some 17) rfl rfl Try.func86 uT rfl #[.agg #[.int .i64 a0_0, .int .i64 a0_1]] rfl uk ?_; (with_reducible refine (GGf.gen_All.calls a0_0 a0_1 t115 _ A4.out).mono ?_); rintro e w13 ⟨rfl, hb⟩; refine ⟨_, rfl, ?_⟩; replace BK111 := bK BK111 hb; replace BK112 := bK BK112 hb; replace BK114 := bK BK114 hb; replace HB := mk0 (below_step uX hb); (try clear hb)))
  go_loopg [18] k (fun kq v18 w' => ∃ (x18_1 : Int) (x115000_1 : List (List Int)) (u115000 : Value), v18 = .int .i64 x18_1 ∧ Aside0 (gen_Matrix.l0 kq t115 x18_1 a0_0 a0_1 x115000_1 = some (r1, r2)) ∧ Aside0 (kq ≤ k) ∧ Aside0 (Kd.S (Kd.slice 3 (Kd.int .i64)) 25 w' w.heap.size (fun _ => True) u115000 x115000_1) ∧ Aside0 (w'.heap[gb111]? = some (.cells #[.int .i64 a0_0, .int .i64 a0_1] 51 (0, 0))) ∧ Aside0 (w'.heap[gb112]? = some (.cells #[(.slice none 0 0)] 24 (0, 0))) ∧ Aside0 (w'.heap[gb114]? = some (.cells #[u115000] 24 (0, 0))) ∧ Aside0 (Below w.heap.size w w'))
  case atStart => exact ⟨(0), (([] : List (List Int))), (.slice none 0 0), uJ, H', ⟨Nat.le_refl _⟩, ⟨uj⟩, ⟨bB BK111.out⟩, ⟨bB BK112.out⟩, ⟨bB BK114.out⟩, ⟨uX⟩⟩
  case round =>
   clear H'
   try clear c1
   try clear p2
   try clear c3
   try clear c4
   try clear c7
   try clear c8
   try clear c11
   try clear hcz12_0
   try clear hcz12_1
   try clear hcz8_0
   try clear hcz8_1
   try clear hfz12_0
   try clear hfz12_1
   try clear hfz8_0
   try clear hfz8_1
   obtain ⟨x18_1, x115000_1, u115000, rfl, HA, HK1, HO_115000, BK111, BK112, BK114, HB⟩ := hrel
   cases gk with
   | zero => exact absurd HA.out (by simp [gen_Matrix.l0])
   | succ k1 =>
    have H := HA.out
    clear HA
    simp only [gen_Matrix.l0] at H
    by_cases c14 : x18_1 < t115
    ·rw [if_pos c14] at H
     have c14b0 : decide (x18_1 < t115) = true := decide_eq_true c14
     clear c14
     by_cases c15 : 0 ≤ a0_0
     ·rw [if_pos c15] at H
      have c15b0 := eq_true c15
      have c15b1 : decide (0 ≤ a0_0) = true := decide_eq_true c15
      clear c15
      by_cases c16 : (a0_0 : Int).toNat ≤ 35184372088832
      ·rw [if_pos c16] at H
       have c16b0 := eq_true c16
       have c16b1 : decide ((a0_0 : Int).toNat ≤ 35184372088832) = true := decide_eq_true c16
       clear c16
       obtain ⟨y126, hy126⟩ : ∃ y_ : List Int, y_ = (List.replicate (a0_0 : Int).toNat 0) := ⟨_, rfl⟩
       replace H : (gen_Matrix.l1 k1 x18_1 y126 t115 x18_1 (y126.length : Int) 0 a0_0 a0_1 x115000_1) = some (r1, r2) := by first | (rw [hy126]; with_reducible exact H) | (have H2_ := (Option.bind_some _ _).symm.trans H; rw [hy126]; with_reducible exact H2_) | (have H2_ := (Option.bind_some _ _).symm.trans H; with_reducible exact H2_) | with_reducible exact H | (rw [hy126]; exact H) | exact H
       have Ny126 := mk0 hy126
       clear hy126
       have H' := mk0 H
       clear H
       have hnb17 := NB111_112.out
       have hnc17 := NB112_111.out
       have hnb18 := NB111_114.out
       have hnc18 := NB114_111.out
       have hcz19_0 : wr.cell? ⟨gb111, 0, none⟩ = some (.int .i64 a0_0) := (blk_cell BK111.out 0).trans rfl
       have hcz19_1 : wr.cell? ⟨gb111, 1, none⟩ = some (.int .i64 a0_1) := (blk_cell BK111.out 1).trans rfl
       have hfz19_0 := blk_frozen BK111.out 0
       have hfz19_1 := blk_frozen BK111.out 1
       go_wp2_with (first | ((with_reducible refine gate_dst (N := 23) rfl ?_); refine Kd.R_make (Kd.int .i64) _ 3 rfl (N := 23) rfl 25 _ _ rfl a0_0 rfl rfl Try.underlying25 (.int .i64 0) 8 info3 rfl uZ uV 0 (ok := fun _ => True) (okp := fun _ => True) rfl (fun _ hk => hk) trivial (of_decide_eq_true uI) (Nat.le_trans (Nat.mul_le_mul_right _ (of_decide_eq_true uI : a0_0.toNat ≤ 35184372088832)) uV) (Below.refl _ _) (Nat.le_refl _) ?_; intro v127 w20 ho21 hb hg_ hnew_; clear hg_ hnew_; (first | rw [← Ny126.out] at ho21 | (simp only [Int.reduceToNat] at ho21; rw [← Ny126.out] at ho21)); replace HO_115000 := mk0 (Kd.S_elder' (sB HO_115000.out) (Kd.R_base ho21) hb); have HO128 := mk0 (Kd.R_lower ho21 (below_size uX)); replace BK111 := bK BK111 hb; replace BK112 := bK BK112 hb; replace BK114 := bK BK114 hb; replace HB := mk0 (below_step uX hb); clear hb ho21; obtain ⟨Ao22, co22, eo22⟩ := Kd.R_slice HO128.out; subst eo22))
       go_loopg [26] k1 (fun kq v26 w' => ∃ (x6_2 : List Int) (x26_2 : Int), v26 = .int .i64 x26_2 ∧ Aside0 (gen_Matrix.l1 kq x18_1 x6_2 t115 x18_1 (y126.length : Int) x26_2 a0_0 a0_1 x115000_1 = some (r1, r2)) ∧ Aside0 (kq ≤ k1) ∧ Aside0 (Kd.R (Kd.int .i64) 3 w' w.heap.size (fun _ => True) (.slice Ao22 y126.length co22) x6_2) ∧ Aside0 (Kd.S (Kd.slice 3 (Kd.int .i64)) 25 w' w.heap.size (fun k_ => some k_ ≠ ((.slice Ao22 y126.length co22) : Value).ownBlock) u115000 x115000_1) ∧ Aside0 (w'.heap[gb111]? = some (.cells #[.int .i64 a0_0, .int .i64 a0_1] 51 (0, 0))) ∧ Aside0 (w'.heap[gb112]? = some (.cells #[(.slice none 0 0)] 24 (0, 0))) ∧ Aside0 (w'.heap[gb114]? = some (.cells #[u115000] 24 (0, 0))) ∧ Aside0 (Below w.heap.size w w'))
       case atStart => exact ⟨(y126), (0), uJ, H', ⟨Nat.le_refl _⟩, ⟨rB HO128.out⟩, ⟨by (with_reducible repeat (first | apply sA | apply sN | apply sD)); exact Kd.S_mono HO_115000.out (fun _ hk => hk.2)⟩, ⟨bB BK111.out⟩, ⟨bB BK112.out⟩, ⟨bB BK114.out⟩, ⟨uX⟩⟩
       case round =>
        clear H'
        try clear c1
        try clear p2
        try clear c3
        try clear c4
        try clear c7
        try clear c8
        try clear c11
        try clear c14
        try clear c14b0
        try clear c15
        try clear c15b0
        try clear c15b1
        try clear c16
        try clear c16b0
        try clear c16b1
        try clear c17
        try clear c18
        try clear hcz12_0
        try clear hcz12_1
        try clear hcz19_0
        try clear hcz19_1
        try clear hcz8_0
        try clear hcz8_1
        try clear hfz12_0
        try clear hfz12_1
        try clear hfz19_0
        try clear hfz19_1
        try clear hfz8_0
        try clear hfz8_1
        try clear p2
        obtain ⟨x6_2, x26_2, rfl, HA, HK2, HO_6, HO_115000, BK111, BK112, BK114, HB⟩ := hrel
        have hl6_2 := (Kd.R_reads' HO_6.out).1
        rw [hl6_2] at HO_6
        (try simp only [hl6_2])
        (try simp only [hl6_2] at BK111)
        (try simp only [hl6_2] at BK112)
        (try simp only [hl6_2] at BK114)
        (try simp only [hl6_2] at HO_115000)
        cases gk with
        | zero => exact absurd HA.out (by simp [gen_Matrix.l1])
        | succ k2 =>
         have H := HA.out
         clear HA
         simp only [gen_Matrix.l1] at H
         by_cases c23 : x26_2 < (y126.length : Int)
         ·rw [if_pos c23] at H
          have c23b0 : decide (x26_2 < (y126.length : Int)) = true := decide_eq_true c23
          (try (have c23h0 := c23b0; simp only [hl6_2] at c23h0))
          clear c23
          replace H := Option.bind_eq_some_iff.mp H
          obtain ⟨⟨t129, t130⟩, A240, H⟩ := H
          replace H : (if 0 ≤ x26_2 then (if x26_2 < (x6_2.length : Int) then (gen_Matrix.l1 k2 x18_1 (x6_2.set (x26_2 : Int).toNat t129) t115 x18_1 (y126.length : Int) (wrap64 (x26_2 + 1)) a0_0 a0_1 x115000_1) else (none)) else (none)) = some (r1, r2) := H
          have A24 := mk0 A240
          clear A240
          by_cases c25 : 0 ≤ x26_2
          ·rw [if_pos c25] at H
           have c25b0 : decide (0 ≤ x26_2) = true := decide_eq_true c25
           (try (have c25h0 := c25b0; simp only [hl6_2] at c25h0))
           clear c25
           by_cases c26 : x26_2 < (x6_2.length : Int)
           ·rw [if_pos c26] at H
            have c26b0 : decide (x26_2 < (x6_2.length : Int)) = true := decide_eq_true c26
            (try (have c26h0 := c26b0; simp only [hl6_2] at c26h0))
            clear c26
            obtain ⟨y131, hy131⟩ : ∃ y_ : List Int, y_ = (x6_2.set (x26_2 : Int).toNat t129) := ⟨_, rfl⟩
            replace H : (gen_Matrix.l1 k2 x18_1 y131 t115 x18_1 (y126.length : Int) (wrap64 (x26_2 + 1)) a0_0 a0_1 x115000_1) = some (r1, r2) := by first | (rw [hy131]; with_reducible exact H) | (have H2_ := (Option.bind_some _ _).symm.trans H; rw [hy131]; with_reducible exact H2_) | (have H2_ := (Option.bind_some _ _).symm.trans H; with_reducible exact H2_) | with_reducible exact H | (rw [hy131]; exact H) | exact H
            have Ny131 := mk0 hy131
            clear hy131
            have H' := mk0 H
            clear H
            go_wp2_with (first | ((with_reducible refine gCa (f := 87) rfl ?_); refine goesL_ (some 34) rfl rfl Try.func87 uT rfl #[.int .i64 x18_1, .int .i64 x26_2] rfl uk ?_; (with_reducible refine (GGf.gf_Pow.calls k2 x18_1 x26_2 t129 t130 _ A24.out).mono ?_); rintro e w' ⟨rfl, ⟨nd, rfl⟩⟩; refine ⟨_, rfl, ?_⟩; (try (rw [dSe wr]; generalize hq_ : World.drewN wr _ = wr; have n0_ : Aside0 (Kd.S (Kd.slice 3 (Kd.int .i64)) 25 wr w.heap.size (fun k_ => some k_ ≠ (.slice Ao22 x6_2.length co22 : Value).ownBlock) u115000 x115000_1) := ⟨by rw [← hq_]; exact (sB HO_115000.out)⟩; have n1_ : Aside0 (Kd.R (Kd.int .i64) 3 wr w.heap.size (fun _ => True) (.slice Ao22 x6_2.length co22) x6_2) := ⟨by rw [← hq_]; exact (rB HO_6.out)⟩; have n2_ : Aside0 (wr.heap[gb111]? = some (.cells #[.int .i64 a0_0, .int .i64 a0_1] 51 (0, 0))) := ⟨by rw [← hq_]; exact (bB BK111.out)⟩; have n3_ : Aside0 (wr.heap[gb112]? = some (.cells #[.slice none 0 0] 24 (0, 0))) := ⟨by rw [← hq_]; exact (bB BK112.out)⟩; have n4_ : Aside0 (wr.heap[gb114]? = some (.cells #[u115000] 24 (0, 0))) := ⟨by rw [← hq_]; exact (bB BK114.out)⟩; have n5_ : Aside0 (Below w.heap.size w wr) := ⟨uh⟩; clear HO_115000 HO_6 BK111 BK112 BK114 HB hq_; have HO_115000 := n0_; have HO_6 := n1_; have BK111 := n2_; have BK112 := n3_; have BK114 := n4_; have HB := n5_; clear n0_ n1_ n2_ n3_ n4_ n5_)); have p27 : 0 ≤ (x26_2 : Int) := of_decide_eq_true uI; have q27 : (x26_2 : Int) < ((x6_2.length : Int) : Int) := of_decide_eq_true uI; obtain ⟨go27, co27, eo27, gb27, gl27, cl27, HG27⟩ := Kd.R_form HO_6.out uV; (first | cases eo27 | (injection eo27 with ea_ en_ ec_; (first | subst ea_ | (injection ea_ with ea_; subst ea_)); subst ec_; clear en_)); have GB27 := mk0 gb27; have GG27 := mk0 HG27; clear gb27 gl27 HG27; obtain ⟨hx27_0, hf27_0⟩ := Kd.R_celln 0 HO_6.out (x26_2 : Int) p27 q27; replace p27 := eq_true p27; replace q27 := eq_true q27; obtain ⟨hy28_, hz28_⟩ := Kd.R_celln 0 HO_6.out (x26_2 : Int) (of_decide_eq_true uI) (of_decide_eq_true uI); have HP28 := Kd.R_putg HO_6.out (x26_2 : Int) t129) | ((with_reducible refine gate_store (t := 3) (p := 37) rfl ?_); refine store_event (t := 3) (p := 37) (v := ?vo_w29) (w1 := (wr.setCell ⟨go27, (x26_2 : Int).toNat, none⟩ (.int .i64 t129))) ?hg ?ho ?hn ?hr ?_; (case ho => rfl); (case hg => rfl); (case hn => rfl); (case hr => first | (go_simp; done) | (go_simp; rfl)); intro w29 hw; have hg : wr.grownBy w29 (some go27) := (by rw [hw]; exact HP28.2); have hp_ : Kd.R (Kd.int .i64) 3 w29 w.heap.size (fun _ => True) (.slice (some ⟨go27, 0, none⟩) x6_2.length co22) y131 := (by rw [hw, Ny131.out]; exact HP28.1); clear HP28; replace HO_115000 := mk0 (Kd.S_after (v := (.slice (some ⟨go27, 0, none⟩) x6_2.length co22)) (v1 := (.slice (some ⟨go27, 0, none⟩) x6_2.length co22)) (ok := (fun _ => True)) (by (with_reducible repeat (first | apply sA | apply sN | apply sD)); exact Kd.S_mono HO_115000.out (fun _ hk => ⟨trivial, hk⟩)) hg (.inl rfl)); replace BK111 := mk0 (blk_grown (g := gb111) (o := .cells #[.int .i64 a0_0, .int .i64 a0_1] 51 (0, 0)) (bB BK111.out) hg (Kd.R_ne HO_6.out BK111.out uZ)); replace BK112 := mk0 (blk_grown (g := gb112) (o := .cells #[.slice none 0 0] 24 (0, 0)) (bB BK112.out) hg (Kd.R_ne HO_6.out BK112.out uZ)); replace BK114 := mk0 (blk_grown (g := gb114) (o := .cells #[u115000] 24 (0, 0)) (bB BK114.out) hg (Kd.R_ne HO_6.out BK114.out uZ)); replace HO_6 := mk0 (hp_); replace HB := mk0 ((by rw [hw]; exact below_set (HB.out) GB27.out : Below w.heap.size w w29)); clear hg hw hp_))
            (try simp only [← hl6_2])
            go_roundg k2
            case measure => have := HK1.out; have := HK2.out; omega
            case rel => exact ⟨(y131), (wrap64 (x26_2 + 1)), uJ, H', ⟨uM⟩, ⟨by (try simp only [hl6_2]); (with_reducible repeat (first | apply rA | apply rN | apply rD)); exact HO_6.out⟩, ⟨by (try simp only [hl6_2]); (with_reducible repeat (first | apply sA | apply sN | apply sD)); exact Kd.S_mono HO_115000.out (fun _ hk => hk.2)⟩, ⟨by (try simp only [hl6_2]); refine bB ?_; exact BK111.out⟩, ⟨by (try simp only [hl6_2]); refine bB ?_; exact BK112.out⟩, ⟨by (try simp only [hl6_2]); refine bB ?_; exact BK114.out⟩, ⟨uX⟩⟩
           ·rw [if_neg c26] at H
            exact absurd H qa
          ·rw [if_neg c25] at H
           exact absurd H qa
         ·rw [if_neg c23] at H
          have c23b0 : decide (x26_2 < (y126.length : Int)) = false := decide_eq_false c23
          (try (have c23h0 := c23b0; simp only [hl6_2] at c23h0))
          clear c23
          by_cases c30 : x115000_1.length < 5864062014805
          ·rw [if_pos c30] at H
           have LMc30 := mk0 c30
           clear c30
           obtain ⟨y132, hy132⟩ : ∃ y_ : List (List Int), y_ = (x115000_1 ++ [x6_2]) := ⟨_, rfl⟩
           replace H : (gen_Matrix.l0 k2 t115 (wrap64 (x18_1 + 1)) a0_0 a0_1 y132) = some (r1, r2) := by first | (rw [hy132]; with_reducible exact H) | (have H2_ := (Option.bind_some _ _).symm.trans H; rw [hy132]; with_reducible exact H2_) | (have H2_ := (Option.bind_some _ _).symm.trans H; with_reducible exact H2_) | with_reducible exact H | (rw [hy132]; exact H) | exact H
           have Ny132 := mk0 hy132
           clear hy132
           have H' := mk0 H
           clear H
           have hnb31 := NB114_111.out
           have hnc31 := NB111_114.out
           have hnb32 := NB114_112.out
           have hnc32 := NB112_114.out
           have hcz33_0 : wr.cell? ⟨gb114, 0, none⟩ = some (u115000) := (blk_cell BK114.out 0).trans rfl
           have hfz33_0 := blk_frozen BK114.out 0
           go_wp2_with (first | ((with_reducible refine gBu (b := .append) (xs := #[.tmp 40, .tmp 42]) rfl ?_); at_builtin; refine Kd.S_append (Kd.slice 3 (Kd.int .i64)) (w0 := w) w.heap.size rfl (.tmp 40) (.tmp 42) 22 25 (.slice none 0 0) 24 rfl Try.underlying22 info25 rfl uZ uV u115000 x115000_1 x6_2 [.slice Ao22 x6_2.length co22] (fun _ => True) (fun k_ => some k_ = (.slice Ao22 x6_2.length co22 : Value).ownBlock) rfl rfl ?aP (fun k_ hk_ => ((Kd.R_mono (ok' := fun k_ => ((fun _ => True)) k_ ∧ some k_ ≠ (u115000 : Value).ownBlock) (Kd.R_apart' (HO_6.out) (Kd.S_typed HO_115000.out) uZ) (fun k_ hk => ⟨trivial, hk.2⟩))).1 k_ hk_.symm) ?aF ?aO ?aB ?aS ?aL ?_; (case aP => exact Kd.M_row (Kd.R_mono (Kd.R_tight rfl (Kd.R_mono (ok' := fun k_ => ((fun _ => True)) k_ ∧ some k_ ≠ (u115000 : Value).ownBlock) (Kd.R_apart' (HO_6.out) (Kd.S_typed HO_115000.out) uZ) (fun k_ hk => ⟨trivial, hk.2⟩))) (fun _ h_ => h_))); (case aB => exact uX); (case aF => exact (fun _ _ => trivial)); (case aO => exact (by (with_reducible repeat (first | apply sA | apply sN | apply sD)); exact Kd.S_mono HO_115000.out (fun k_ hk => ⟨trivial, fun e_ => hk e_⟩))); (case aS => exact (below_size uX)); (case aL => have := LMc30.out; omega); intro v133 w34 ho hb hg hat; rw [← Ny132.out] at ho; replace BK111 := mk0 (blk_grown (g := gb111) (o := .cells #[.int .i64 a0_0, .int .i64 a0_1] 51 (0, 0)) (bB BK111.out) hg (Kd.S_ne HO_115000.out BK111.out uZ)); replace BK112 := mk0 (blk_grown (g := gb112) (o := .cells #[.slice none 0 0] 24 (0, 0)) (bB BK112.out) hg (Kd.S_ne HO_115000.out BK112.out uZ)); replace BK114 := mk0 (blk_grown (g := gb114) (o := .cells #[u115000] 24 (0, 0)) (bB BK114.out) hg (Kd.S_ne HO_115000.out BK114.out uZ)); replace HB := mk0 (hb); have HO134 := mk0 (ho); clear HO_115000 HO_6; clear ho hb hg hat; obtain ⟨Ao35, co35, eo35⟩ := Kd.S_slice HO134.out; subst eo35; have hcz36_0 : w34.cell? ⟨gb114, 0, none⟩ = some (u115000) := (blk_cell BK114.out 0).trans rfl; have hfz36_0 := blk_frozen BK114.out 0))
           (try simp only [← hl6_2])
           go_roundg k2
           case measure => have := HK1.out; have := HK2.out; omega
           case rel => exact ⟨(wrap64 (x18_1 + 1)), (y132), (.slice Ao35 y132.length co35), uJ, H', ⟨uM⟩, ⟨by (try simp only [hl6_2]); (with_reducible repeat (first | apply sA | apply sN | apply sD)); exact Kd.S_mono (Kd.S_far (p := ⟨gb114, 0, none⟩) (Kd.S_types HO134.out BK114.out uZ) (fun _ hk => hk.2) (.slice Ao35 y132.length co35)) (fun _ hk => trivial)⟩, ⟨by (try simp only [hl6_2]); refine bB ?_; refine blk_far ?_ NB111_114.out _; refine bB ?_; exact BK111.out⟩, ⟨by (try simp only [hl6_2]); refine bB ?_; refine blk_far ?_ NB112_114.out _; refine bB ?_; exact BK112.out⟩, ⟨by (try simp only [hl6_2]); refine bB ?_; refine blk_put (cs := #[u115000]) ?_ 0 _ rfl; refine bB ?_; exact BK114.out⟩, ⟨uX⟩⟩
          ·rw [if_neg c30] at H
           exact absurd H qa
      ·rw [if_neg c16] at H
       exact absurd H qa
     ·rw [if_neg c15] at H
      exact absurd H qa
    ·rw [if_neg c14] at H
     have c14b0 : decide (x18_1 < t115) = false := decide_eq_false c14
     clear c14
     have cA : 0 ≤ a0_0 := Classical.byContradiction (fun h_ => by rw [if_neg h_] at H; exact absurd H qa)
     rw [if_pos cA] at H
     have cB : a0_0 ≤ (x115000_1.length : Int) := Classical.byContradiction (fun h_ => by rw [if_neg h_] at H; exact absurd H qa)
     rw [if_pos cB] at H
     replace H := Option.bind_eq_some_iff.mp H
     obtain ⟨⟨t116, t119⟩, A370, H⟩ := H
     replace H : ((GMul.matrix_Mul.f k1 x115000_1 t116).bind fun bt121 => (some (bt121.1, 0))) = some (r1, r2) := H
     have A37 := mk0 A370
     clear A370
     replace H := Option.bind_eq_some_iff.mp H
     obtain ⟨⟨t121, t124⟩, A380, H⟩ := H
     replace H : (some (t121, 0)) = some (r1, r2) := H
     have A38 := mk0 A380
     clear A380
     simp only [Option.some.injEq, Prod.mk.injEq] at H
     obtain ⟨rfl, rfl⟩ := H
     have hnb39 := NB114_111.out
     have hnc39 := NB111_114.out
     have hnb40 := NB114_112.out
     have hnc40 := NB112_114.out
     have hcz41_0 : wr.cell? ⟨gb114, 0, none⟩ = some (u115000) := (blk_cell BK114.out 0).trans rfl
     have hfz41_0 := blk_frozen BK114.out 0
     have hnb42 := NB111_112.out
     have hnc42 := NB112_111.out
     have hcz43_0 : wr.cell? ⟨gb111, 0, none⟩ = some (.int .i64 a0_0) := (blk_cell BK111.out 0).trans rfl
     have hcz43_1 : wr.cell? ⟨gb111, 1, none⟩ = some (.int .i64 a0_1) := (blk_cell BK111.out 1).trans rfl
     have hfz43_0 := blk_frozen BK111.out 0
     have hfz43_1 := blk_frozen BK111.out 1
     obtain ⟨Ao44, co44, eo44⟩ := Kd.S_slice HO_115000.out
     subst eo44
     obtain ⟨i25_, hi25_, _, _, _⟩ := info_parts Fn.cln_info25
     have hlen_ : (x115000_1.take a0_0.toNat).length = a0_0.toNat := by rw [List.length_take]; omega
     have hcut_ := cut_over (P := Try.prog) 22 25 .i64 Try.underlying22 hi25_ Ao44 x115000_1.length co44 a0_0 cA (by have := (Kd.S_reads' HO_115000.out).2.1; omega)
     rw [← hlen_] at hcut_
     have LT_ := Aside0.mk (show a0_0.toNat ≤ x115000_1.length by omega)
     have LC_ := Aside0.mk (show (x115000_1.take a0_0.toNat).length ≤ co44 by have := (Kd.S_reads' HO_115000.out).2.1; omega)
     clear cA cB hi25_ hlen_
     go_wp2_with (first | ((with_reducible refine gCa (f := 40) rfl ?_); refine goesL_ (some 53) rfl rfl Try.func40 uT rfl #[.agg #[.slice Ao44 (x115000_1.take a0_0.toNat).length co44]] rfl uk ?_; (with_reducible refine (Pr.inv.calls _ _ (x115000_1.take a0_0.toNat) t116 t119 _ ?side1 ?side2 A37.out).mono ?_); (case side1 => repeat (first | exact Kd.C_take (Kd.S_reads' HO_115000.out).2.2 LT_.out | (with_reducible refine Kd.C_alloc ?_ _) | (with_reducible refine Kd.C_drewN ?_ _) | (with_reducible refine Kd.C_drew ?_))); (case side2 => exact LC_.out); rintro e w45 ⟨v117, rfl, ho0, hb⟩; refine ⟨_, rfl, ?_⟩; have HO118 := mk0 (Kd.S_lower (Kd.S_new' ho0 (Kd.S_lt (sB HO_115000.out))) (below_size uX)); replace HO_115000 := mk0 (Kd.S_elder' (sB HO_115000.out) (Kd.S_base ho0) hb); replace BK111 := bK BK111 hb; replace BK112 := bK BK112 hb; replace BK114 := bK BK114 hb; replace HB := mk0 (below_step uX hb); (try clear hb); (try clear hb2); (try clear hk); (try clear hi); (try clear ho0)) | ((with_reducible refine gate_dst (N := 8) rfl ?_); refine box_event uW (N := 8) uW (cs := #[.slice none 0 0]) (t := 24) uL ?_; intro gb120 hg w46 hbox hb; replace HO_115000 := mk0 (Kd.S_below (sB HO_115000.out) hb); replace HO118 := mk0 (Kd.S_below (sB HO118.out) hb); have BK120 := mk0 (hbox); have GW120 := mk0 (nB hg HB); have GE120 := mk0 (nB hg HB); replace HB := mk0 (below_step uX hb); have NB111_120 := mk0 (nF hg BK111.out); have NB120_111 := mk0 (nE hg BK111.out); replace BK111 := bK BK111 hb; have NB112_120 := mk0 (nF hg BK112.out); have NB120_112 := mk0 (nE hg BK112.out); replace BK112 := bK BK112 hb; have NB114_120 := mk0 (nF hg BK114.out); have NB120_114 := mk0 (nE hg BK114.out); replace BK114 := bK BK114 hb; clear hb hbox hg; obtain ⟨Ao47, co47, eo47⟩ := Kd.S_slice HO118.out; subst eo47; have hnb48 := NB120_111.out; have hnc48 := NB111_120.out; have hnb49 := NB120_112.out; have hnc49 := NB112_120.out; have hnb50 := NB120_114.out; have hnc50 := NB114_120.out; have hcz51_0 : w46.cell? ⟨gb120, 0, none⟩ = some (.slice none 0 0) := (blk_cell BK120.out 0).trans rfl; have hfz51_0 := blk_frozen BK120.out 0; have hcz52_0 : w46.cell? ⟨gb114, 0, none⟩ = some (.slice Ao44 x115000_1.length co44) := (blk_cell BK114.out 0).trans rfl; have hfz52_0 := blk_frozen BK114.out 0) | ((with_reducible refine gCa (f := 28) rfl ?_); refine goesL_ (some 59) rfl rfl Try.func28 uT rfl #[.agg #[.slice Ao44 x115000_1.length co44], .agg #[.slice Ao47 t116.length co47]] rfl uk ?_; (with_reducible refine (GMul.matrix_Mul.calls k1 _ _ x115000_1 _ _ t116 t121 t124 _ ?side1 ?side2 ?side3 ?side4 A38.out).mono ?_); (case side1 => refine (Kd.S_reads' (e := 25) (base := w.heap.size) (ok := fun k_ => (True ∧ some k_ ≠ (.slice Ao47 t116.length co47 : Value).ownBlock)) (n := x115000_1.length) (c := co44) ?_).2.2; exact (by (with_reducible repeat (first | apply sA | apply sN | apply sD)); exact (Kd.S_mono (Kd.S_far (p := ⟨gb120, 0, none⟩) (Kd.S_types HO_115000.out BK120.out uZ) (fun _ hk => hk.2) (.slice Ao47 t116.length co47)) (fun _ h_ => h_.1)))); (case side2 => exact (Kd.S_reads' HO_115000.out).2.1); (case side3 => refine (Kd.S_reads' (e := 25) (base := w.heap.size) (ok := fun k_ => (True ∧ some k_ ≠ (.slice Ao44 x115000_1.length co44 : Value).ownBlock)) (n := t116.length) (c := co47) ?_).2.2; exact (by (with_reducible repeat (first | apply sA | apply sN | apply sD)); exact (Kd.S_mono (Kd.S_far (p := ⟨gb120, 0, none⟩) (Kd.S_types HO118.out BK120.out uZ) (fun _ hk => hk.2) (.slice Ao47 t116.length co47)) (fun _ h_ => h_.1)))); (case side4 => exact (Kd.S_reads' HO118.out).2.1); rintro e w53 ⟨v122, rfl, ho0, hb⟩; refine ⟨_, rfl, ?_⟩; have HO123 := mk0 (Kd.S_lower (Kd.S_new' (Kd.S_new' ho0 (Kd.S_lt (by (with_reducible repeat (first | apply sA | apply sN | apply sD)); exact (Kd.S_mono (Kd.S_far (p := ⟨gb120, 0, none⟩) (Kd.S_types HO_115000.out BK120.out uZ) (fun _ hk => hk.2) (.slice Ao47 t116.length co47)) (fun _ h_ => h_.1))))) (Kd.S_lt (by (with_reducible repeat (first | apply sA | apply sN | apply sD)); exact (Kd.S_mono (Kd.S_far (p := ⟨gb120, 0, none⟩) (Kd.S_types HO118.out BK120.out uZ) (fun _ hk => hk.2) (.slice Ao47 t116.length co47)) (fun _ h_ => h_.1))))) (below_size uX)); replace HO_115000 := mk0 (Kd.S_elder' (by (with_reducible repeat (first | apply sA | apply sN | apply sD)); exact (Kd.S_mono (Kd.S_far (p := ⟨gb120, 0, none⟩) (Kd.S_types HO_115000.out BK120.out uZ) (fun _ hk => hk.2) (.slice Ao47 t116.length co47)) (fun _ h_ => h_.1))) (Kd.S_base ho0) hb); replace HO118 := mk0 (Kd.S_elder' (by (with_reducible repeat (first | apply sA | apply sN | apply sD)); exact (Kd.S_mono (Kd.S_far (p := ⟨gb120, 0, none⟩) (Kd.S_types HO118.out BK120.out uZ) (fun _ hk => hk.2) (.slice Ao47 t116.length co47)) (fun _ h_ => h_.1))) (Kd.S_base ho0) hb); replace BK111 := mk0 (blk_below (g := gb111) (o := .cells #[.int .i64 a0_0, .int .i64 a0_1] 51 (0, 0)) (by refine bB ?_; refine blk_far ?_ NB111_120.out _; refine bB ?_; exact BK111.out) hb); replace BK112 := mk0 (blk_below (g := gb112) (o := .cells #[.slice none 0 0] 24 (0, 0)) (by refine bB ?_; refine blk_far ?_ NB112_120.out _; refine bB ?_; exact BK112.out) hb); replace BK114 := mk0 (blk_below (g := gb114) (o := .cells #[.slice Ao44 x115000_1.length co44] 24 (0, 0)) (by refine bB ?_; refine blk_far ?_ NB114_120.out _; refine bB ?_; exact BK114.out) hb); replace BK120 := mk0 (blk_below (g := gb120) (o := .cells #[.slice Ao47 t116.length co47] 24 (0, 0)) (by refine bB ?_; refine blk_put (cs := #[.slice none 0 0]) ?_ 0 _ rfl; refine bB ?_; exact BK120.out) hb); replace HB := mk0 (below_step uX hb); (try clear hb); (try clear hb2); (try clear hk); (try clear hi); (try clear ho0)) | ((with_reducible refine gate_dst (N := 10) rfl ?_); refine box_event uW (N := 10) uW (cs := #[.slice none 0 0]) (t := 24) uL ?_; intro gb125 hg w54 hbox hb; replace HO_115000 := mk0 (Kd.S_below (sB HO_115000.out) hb); replace HO118 := mk0 (Kd.S_below (sB HO118.out) hb); replace HO123 := mk0 (Kd.S_below (sB HO123.out) hb); have BK125 := mk0 (hbox); have GW125 := mk0 (nB hg HB); have GE125 := mk0 (nB hg HB); replace HB := mk0 (below_step uX hb); have NB111_125 := mk0 (nF hg BK111.out); have NB125_111 := mk0 (nE hg BK111.out); replace BK111 := bK BK111 hb; have NB112_125 := mk0 (nF hg BK112.out); have NB125_112 := mk0 (nE hg BK112.out); replace BK112 := bK BK112 hb; have NB114_125 := mk0 (nF hg BK114.out); have NB125_114 := mk0 (nE hg BK114.out); replace BK114 := bK BK114 hb; have NB120_125 := mk0 (nF hg BK120.out); have NB125_120 := mk0 (nE hg BK120.out); replace BK120 := bK BK120 hb; clear hb hbox hg; obtain ⟨Ao55, co55, eo55⟩ := Kd.S_slice HO123.out; subst eo55; have hnb56 := NB125_111.out; have hnc56 := NB111_125.out; have hnb57 := NB125_112.out; have hnc57 := NB112_125.out; have hnb58 := NB125_114.out; have hnc58 := NB114_125.out; have hnb59 := NB125_120.out; have hnc59 := NB120_125.out; have hcz60_0 : w54.cell? ⟨gb125, 0, none⟩ = some (.slice none 0 0) := (blk_cell BK125.out 0).trans rfl; have hfz60_0 := blk_frozen BK125.out 0; have hcz61_0 : w54.cell? ⟨gb112, 0, none⟩ = some (.slice none 0 0) := (blk_cell BK112.out 0).trans rfl; have hfz61_0 := blk_frozen BK112.out 0))
     refine bodyPost_ret (results_ct rfl _ _ gb112 24 #[.slice Ao55 t121.length co55] (0, 0) _ rfl (by refine bB ?_; refine blk_put (cs := #[.slice none 0 0]) ?_ 0 _ rfl; refine bB ?_; refine blk_far ?_ NB112_125.out _; refine bB ?_; exact BK112.out) Try.underlying24 rfl uT) rfl ?_
     exact ⟨_, uz, by (with_reducible repeat (first | apply sA | apply sN | apply sD)); exact Kd.S_mono (Kd.S_far (p := ⟨gb112, 0, none⟩) (Kd.S_far (p := ⟨gb125, 0, none⟩) (Kd.S_types (Kd.S_types HO123.out BK125.out uZ) BK112.out uZ) (fun _ hk => hk.1.2) (.slice Ao55 t121.length co55)) (fun _ hk => hk.2) (.slice Ao55 t121.length co55)) (fun _ hk => trivial), uX⟩
 ·replace c3 := Bool.eq_false_iff.mpr c3
  subst c3
  have H1 : (some (([] : List (List Int)), 500)) = some (r1, r2) := by rw [if_neg (show ¬ (false = true) by decide)] at H; exact H
  clear H
  have H := H1
  clear H1
  simp only [Option.some.injEq, Prod.mk.injEq] at H
  obtain ⟨rfl, rfl⟩ := H
  go_enter Try.func43, Try.ntmps43
  go_wp2_with (first | ((with_reducible refine gate_dst (N := 1) rfl ?_); refine box_event uW (N := 1) uW (cs := #[.int .i64 a0_0, .int .i64 a0_1]) (t := 51) uL ?_; intro gb111 hg w62 hbox hb; have BK111 := mk0 (hbox); have GW111 := mk0 (nB hg HB); have GE111 := mk0 (nB hg HB); replace HB := mk0 (below_step ut hb); clear hb hbox hg) | ((with_reducible refine gate_dst (N := 2) rfl ?_); refine box_event uW (N := 2) uW (cs := #[.slice none 0 0]) (t := 24) uL ?_; intro gb112 hg w63 hbox hb; have BK112 := mk0 (hbox); have GW112 := mk0 (nB hg HB); have GE112 := mk0 (nB hg HB); replace HB := mk0 (below_step uX hb); have NB111_112 := mk0 (nF hg BK111.out); have NB112_111 := mk0 (nE hg BK111.out); replace BK111 := bK BK111 hb; clear hb hbox hg; have hnb64 := NB111_112.out; have hnc64 := NB112_111.out; have hcz65_0 : w63.cell? ⟨gb111, 0, none⟩ = some (.int .i64 a0_0) := (blk_cell BK111.out 0).trans rfl; have hcz65_1 : w63.cell? ⟨gb111, 1, none⟩ = some (.int .i64 a0_1) := (blk_cell BK111.out 1).trans rfl; have hfz65_0 := blk_frozen BK111.out 0; have hfz65_1 := blk_frozen BK111.out 1) | ((with_reducible refine gCa (f := 45) rfl ?_); refine goesL_ (some 13) rfl rfl Try.func45 uT rfl #[.agg #[.int .i64 a0_0, .int .i64 a0_1]] rfl uk ?_; (with_reducible refine (GGf.gen_May.calls a0_0 a0_1 false _ A2.out).mono ?_); rintro e w66 ⟨rfl, hb⟩; refine ⟨_, rfl, ?_⟩; replace BK111 := bK BK111 hb; replace BK112 := bK BK112 hb; replace HB := mk0 (below_step uX hb); (try clear hb); have hcz67_0 : w66.cell? ⟨gb112, 0, none⟩ = some (.slice none 0 0) := (blk_cell BK112.out 0).trans rfl; have hfz67_0 := blk_frozen BK112.out 0))
  refine bodyPost_ret (results_ct rfl _ _ gb112 24 #[.slice none 0 0] (0, 0) _ rfl (by refine bB ?_; refine blk_put (cs := #[.slice none 0 0]) ?_ 0 _ rfl; refine bB ?_; exact BK112.out) Try.underlying24 rfl uT) rfl ?_
  exact ⟨_, uz, uj, uX⟩
end Go.Proofs.Ytaahnicjjpddjaa.GGen
