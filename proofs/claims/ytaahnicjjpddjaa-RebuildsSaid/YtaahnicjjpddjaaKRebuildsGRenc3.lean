/- Functions of the program as Lean functions, each with a proof that its call comes to what the function says. No condition. -/
import Derived.Test.YtaahnicjjpddjaaKRebuildsGRenc2
namespace Go.Proofs.Ytaahnicjjpddjaa.GRenc
open Go.Proofs.Ytaahnicjjpddjaa.Fn
open Go.Proofs.Ytaahnicjjpddjaa
open Go.RowKit Go.Proofs.YtaahnicjjpddjaaW.PrintWords Go.Proofs.YtaahnicjjpddjaaW.PrintLast
set_option linter.unusedVariables false
set_option linter.unusedSimpArgs false
noncomputable def ossuaryref1_Rebuild.f (k : Nat) (a0_0 : Int) (a0_1 : Int) (l1 : List ByteArray) (l2 : List Bool) : Option (List ByteArray × Int) := (ossuaryref1_Decode.f k a0_0 a0_1 l1 l2).bind fun bt159 => (if bt159.2 = 700 then (some (([] : List ByteArray), 800)) else (if bt159.2 = 0 then ((ossuaryref1_Encode.f k a0_0 a0_1 bt159.1).bind fun bt163 => (if bt159.1.length + bt163.1.length < 8796093022208 then (some ((bt159.1 ++ bt163.1), 0)) else (none))) else (some (([] : List ByteArray), 801))))
theorem ossuaryref1_Rebuild.mono : ∀ a0 a1 a2 a3 k, LeO (ossuaryref1_Rebuild.f k a0 a1 a2 a3) (ossuaryref1_Rebuild.f (k + 1) a0 a1 a2 a3) := by
 intro a0 a1 a2 a3 k
 unfold ossuaryref1_Rebuild.f
 repeat' with_reducible first | exact ossuaryref1_Decode.mono _ _ _ _ _ | exact ossuaryref1_Encode.mono _ _ _ _ | exact LeO.refl _ | exact LeO.none _ | refine LeO.ite ?_ ?_ | refine LeO.bind ?_ (fun _ => ?_)
set_option maxHeartbeats 8000000 in
set_option maxRecDepth 100000 in
theorem ossuaryref1_Rebuild.calls (k : Nat) (a0_0 : Int) (a0_1 : Int) (A1 : Option Addr) (c1 : Nat) (l1 : List ByteArray) (A2 : Option Addr) (c2 : Nat) (l2 : List Bool) (r1 : List ByteArray) (r2 : Int) (w : World) (hr1 : Kd.C Kd.string w A1 l1.length l1) (hc1 : l1.length ≤ c1) (hr2 : Kd.C Kd.bool w A2 l2.length l2) (hc2 : l2.length ≤ c2) (h : ossuaryref1_Rebuild.f k a0_0 a0_1 l1 l2 = some (r1, r2)) :
  Calls Try.prog 60 #[.agg #[.int .i64 a0_0, .int .i64 a0_1], .slice A1 l1.length c1, .slice A2 l2.length c2] w fun e w' => ∃ v0_ : Value, e = .returned (.tuple #[v0_, .int .i64 r2]) ∧ Kd.R Kd.string 9 w' w.heap.size (fun _ => True) v0_ r1 ∧ Below w.heap.size w w' := by
 have hu51 := Try.underlying51
 have HR1 := mk0 hr1
 have HC1 := mk0 hc1
 clear hr1 hc1
 have HR2 := mk0 hr2
 have HC2 := mk0 hc2
 clear hr2 hc2
 have HB := mk0 (Below.refl w.heap.size w)
 have H : ((ossuaryref1_Decode.f k a0_0 a0_1 l1 l2).bind fun bt159 => (if bt159.2 = 700 then (some (([] : List ByteArray), 800)) else (if bt159.2 = 0 then ((ossuaryref1_Encode.f k a0_0 a0_1 bt159.1).bind fun bt163 => (if bt159.1.length + bt163.1.length < 8796093022208 then (some ((bt159.1 ++ bt163.1), 0)) else (none))) else (some (([] : List ByteArray), 801))))) = some (r1, r2) := h
 clear h
 replace H := Option.bind_eq_some_iff.mp H
 obtain ⟨⟨t159, t162⟩, A40, H⟩ := H
 replace H : (if t162 = 700 then (some (([] : List ByteArray), 800)) else (if t162 = 0 then ((ossuaryref1_Encode.f k a0_0 a0_1 t159).bind fun bt163 => (if t159.length + bt163.1.length < 8796093022208 then (some ((t159 ++ bt163.1), 0)) else (none))) else (some (([] : List ByteArray), 801)))) = some (r1, r2) := H
 have A4 := mk0 A40
 clear A40
 by_cases c5 : t162 = 700
 ·rw [if_pos c5] at H
  have c5b0 : (t162 == 700) = true := beq_iff_eq.mpr c5
  have c5b1 : (t162 != 700) = false := bne_eq_false_iff_eq.mpr c5
  clear c5
  simp only [Option.some.injEq, Prod.mk.injEq] at H
  obtain ⟨rfl, rfl⟩ := H
  go_enter Try.func60, Try.ntmps60
  go_wp2_with (first | ((with_reducible refine gate_dst (N := 3) rfl ?_); refine box_event uY (N := 3) uY (cs := #[.int .i64 a0_0, .int .i64 a0_1]) (t := 51) uM ?_; intro gb158 hg w6 hbox hb; have BK158 := mk0 (hbox); have GW158 := mk0 (nB hg HB); have GE158 := mk0 (nB hg HB); replace HB := mk0 (below_step ut hb); clear hb hbox hg; have hcz7_0 : w6.cell? ⟨gb158, 0, none⟩ = some (.int .i64 a0_0) := (blk_cell BK158.out 0).trans rfl; have hcz7_1 : w6.cell? ⟨gb158, 1, none⟩ = some (.int .i64 a0_1) := (blk_cell BK158.out 1).trans rfl; have hfz7_0 := blk_frozen BK158.out 0; have hfz7_1 := blk_frozen BK158.out 1) | ((with_reducible refine gCa (f := 54) rfl ?_); refine goesL_ (some 16) rfl rfl Try.func54 uV rfl #[.agg #[.int .i64 a0_0, .int .i64 a0_1], .slice A1 l1.length c1, .slice A2 l2.length c2] rfl uk ?_; (with_reducible refine (ossuaryref1_Decode.calls k a0_0 a0_1 _ _ l1 _ _ l2 t159 t162 _ ?side1 ?side2 ?side3 ?side4 A4.out).mono ?_); (case side1 => exact cB (Kd.C_below HR1.out HB.out)); (case side2 => exact HC1.out); (case side3 => exact cB (Kd.C_below HR2.out HB.out)); (case side4 => exact HC2.out); rintro e w8 ⟨v160, rfl, ho0, hb⟩; refine ⟨_, rfl, ?_⟩; have HO161 := mk0 (Kd.R_lower ho0 (below_size uZ)); replace BK158 := bK BK158 hb; replace HB := mk0 (below_step uZ hb); (try clear hb); (try clear hb2); (try clear hk); (try clear hi); (try clear ho0)))
  go_ret2
  exact ⟨_, uA, ui, uZ⟩
 ·rw [if_neg c5] at H
  have c5b0 : (t162 == 700) = false := beq_eq_false_iff_ne.mpr c5
  have c5b1 : (t162 != 700) = true := bne_iff_ne.mpr c5
  by_cases c9 : t162 = 0
  ·rw [if_pos c9] at H
   have c9b0 : (t162 == 0) = true := beq_iff_eq.mpr c9
   have c9b1 : (t162 != 0) = false := bne_eq_false_iff_eq.mpr c9
   clear c9
   replace H := Option.bind_eq_some_iff.mp H
   obtain ⟨⟨t163, t166⟩, A100, H⟩ := H
   replace H : (if t159.length + t163.length < 8796093022208 then (some ((t159 ++ t163), 0)) else (none)) = some (r1, r2) := H
   have A10 := mk0 A100
   clear A100
   by_cases c11 : t159.length + t163.length < 8796093022208
   ·rw [if_pos c11] at H
    have LMc11 := mk0 c11
    clear c11
    obtain ⟨y167, hy167⟩ : ∃ y_ : List ByteArray, y_ = (t159 ++ t163) := ⟨_, rfl⟩
    replace H : (some (y167, 0)) = some (r1, r2) := by first | (rw [hy167]; with_reducible exact H) | (have H2_ := (Option.bind_some _ _).symm.trans H; rw [hy167]; with_reducible exact H2_) | (have H2_ := (Option.bind_some _ _).symm.trans H; with_reducible exact H2_) | with_reducible exact H | (rw [hy167]; exact H) | exact H
    have Ny167 := mk0 hy167
    clear hy167
    simp only [Option.some.injEq, Prod.mk.injEq] at H
    obtain ⟨rfl, rfl⟩ := H
    go_enter Try.func60, Try.ntmps60
    go_wp2_with (first | ((with_reducible refine gate_dst (N := 3) rfl ?_); refine box_event uY (N := 3) uY (cs := #[.int .i64 a0_0, .int .i64 a0_1]) (t := 51) uM ?_; intro gb158 hg w12 hbox hb; have BK158 := mk0 (hbox); have GW158 := mk0 (nB hg HB); have GE158 := mk0 (nB hg HB); replace HB := mk0 (below_step ut hb); clear hb hbox hg; have hcz13_0 : w12.cell? ⟨gb158, 0, none⟩ = some (.int .i64 a0_0) := (blk_cell BK158.out 0).trans rfl; have hcz13_1 : w12.cell? ⟨gb158, 1, none⟩ = some (.int .i64 a0_1) := (blk_cell BK158.out 1).trans rfl; have hfz13_0 := blk_frozen BK158.out 0; have hfz13_1 := blk_frozen BK158.out 1) | ((with_reducible refine gCa (f := 54) rfl ?_); refine goesL_ (some 16) rfl rfl Try.func54 uV rfl #[.agg #[.int .i64 a0_0, .int .i64 a0_1], .slice A1 l1.length c1, .slice A2 l2.length c2] rfl uk ?_; (with_reducible refine (ossuaryref1_Decode.calls k a0_0 a0_1 _ _ l1 _ _ l2 t159 t162 _ ?side1 ?side2 ?side3 ?side4 A4.out).mono ?_); (case side1 => exact cB (Kd.C_below HR1.out HB.out)); (case side2 => exact HC1.out); (case side3 => exact cB (Kd.C_below HR2.out HB.out)); (case side4 => exact HC2.out); rintro e w14 ⟨v160, rfl, ho0, hb⟩; refine ⟨_, rfl, ?_⟩; have HO161 := mk0 (Kd.R_lower ho0 (below_size uZ)); replace BK158 := bK BK158 hb; replace HB := mk0 (below_step uZ hb); (try clear hb); (try clear hb2); (try clear hk); (try clear hi); (try clear ho0); have hcz15_0 : w14.cell? ⟨gb158, 0, none⟩ = some (.int .i64 a0_0) := (blk_cell BK158.out 0).trans rfl; have hcz15_1 : w14.cell? ⟨gb158, 1, none⟩ = some (.int .i64 a0_1) := (blk_cell BK158.out 1).trans rfl; have hfz15_0 := blk_frozen BK158.out 0; have hfz15_1 := blk_frozen BK158.out 1; obtain ⟨Ao16, co16, eo16⟩ := Kd.R_slice HO161.out; subst eo16) | ((with_reducible refine gCa (f := 49) rfl ?_); refine goesL_ (some 26) rfl rfl Try.func49 uV rfl #[.agg #[.int .i64 a0_0, .int .i64 a0_1], .slice Ao16 t159.length co16] rfl uk ?_; (with_reducible refine (ossuaryref1_Encode.calls k a0_0 a0_1 _ _ t159 t163 t166 _ ?side1 ?side2 A10.out).mono ?_); (case side1 => exact cB (Kd.R_reads' HO161.out).2.2); (case side2 => exact (Kd.R_reads' HO161.out).2.1); rintro e w17 ⟨v164, rfl, ho0, hb⟩; refine ⟨_, rfl, ?_⟩; have HO165 := mk0 (Kd.R_lower (Kd.R_new' ho0 (Kd.R_lt (rB HO161.out))) (below_size uZ)); replace HO161 := mk0 (Kd.R_elder' (rB HO161.out) (Kd.R_base ho0) hb); replace BK158 := bK BK158 hb; replace HB := mk0 (below_step uZ hb); (try clear hb); (try clear hb2); (try clear hk); (try clear hi); (try clear ho0); obtain ⟨Ao19, co19, eo19⟩ := Kd.R_slice HO165.out; subst eo19) | ((with_reducible refine gBu (b := .append) (xs := #[.tmp 29, .tmp 30]) rfl ?_); at_builtin; refine Kd.R_append_rows Kd.string (w0 := w) w.heap.size rfl (.tmp 29) (.tmp 30) 58 9 (.string ⟨#[]⟩) 16 rfl Try.underlying58 info9 rfl q9 uX (.slice Ao16 t159.length co16) t159 t163 _ _ _ (fun k_ => some k_ ≠ (.slice Ao19 t163.length co19 : Value).ownBlock) (fun _ => False) rfl rfl ?aO ?aR (fun _ _ h => h) (fun _ h => h.elim) ?aF ?aB ?aS ?aL ?_; (case aR => repeat (first | exact (Kd.R_reads' HO165.out).2.2 | (with_reducible refine Kd.C_alloc ?_ _) | (with_reducible refine Kd.C_drewN ?_ _) | (with_reducible refine Kd.C_drew ?_))); (case aB => exact uZ); (case aF => exact (fun k_ hk => Kd.fresh' (Kd.R_lt (rB HO165.out)) k_ hk)); (case aO => exact (by (with_reducible repeat (first | apply rA | apply rN | apply rD)); exact Kd.R_mono HO161.out (fun _ hk => hk.2))); (case aS => exact (below_size uZ)); (case aL => have := LMc11.out; omega); intro v168 w18 ho hb hg hat; rw [← Ny167.out] at ho; replace BK158 := mk0 (blk_grown (g := gb158) (o := .cells #[.int .i64 a0_0, .int .i64 a0_1] 51 (0, 0)) (bB BK158.out) hg (Kd.R_ne HO161.out BK158.out q9)); replace HO165 := mk0 (Kd.R_after (ok := (fun _ => True)) (rB HO165.out) hg hat); replace HB := mk0 (hb); have HO169 := mk0 (ho); clear HO161; clear ho hb hg hat))
    go_ret2
    exact ⟨_, uA, by (with_reducible repeat (first | apply rA | apply rN | apply rD)); exact Kd.R_mono HO169.out (fun _ hk => trivial), uZ⟩
   ·rw [if_neg c11] at H
    exact absurd H qa
  ·rw [if_neg c9] at H
   have c9b0 : (t162 == 0) = false := beq_eq_false_iff_ne.mpr c9
   have c9b1 : (t162 != 0) = true := bne_iff_ne.mpr c9
   simp only [Option.some.injEq, Prod.mk.injEq] at H
   obtain ⟨rfl, rfl⟩ := H
   go_enter Try.func60, Try.ntmps60
   go_wp2_with (first | ((with_reducible refine gate_dst (N := 3) rfl ?_); refine box_event uY (N := 3) uY (cs := #[.int .i64 a0_0, .int .i64 a0_1]) (t := 51) uM ?_; intro gb158 hg w20 hbox hb; have BK158 := mk0 (hbox); have GW158 := mk0 (nB hg HB); have GE158 := mk0 (nB hg HB); replace HB := mk0 (below_step ut hb); clear hb hbox hg; have hcz21_0 : w20.cell? ⟨gb158, 0, none⟩ = some (.int .i64 a0_0) := (blk_cell BK158.out 0).trans rfl; have hcz21_1 : w20.cell? ⟨gb158, 1, none⟩ = some (.int .i64 a0_1) := (blk_cell BK158.out 1).trans rfl; have hfz21_0 := blk_frozen BK158.out 0; have hfz21_1 := blk_frozen BK158.out 1) | ((with_reducible refine gCa (f := 54) rfl ?_); refine goesL_ (some 16) rfl rfl Try.func54 uV rfl #[.agg #[.int .i64 a0_0, .int .i64 a0_1], .slice A1 l1.length c1, .slice A2 l2.length c2] rfl uk ?_; (with_reducible refine (ossuaryref1_Decode.calls k a0_0 a0_1 _ _ l1 _ _ l2 t159 t162 _ ?side1 ?side2 ?side3 ?side4 A4.out).mono ?_); (case side1 => exact cB (Kd.C_below HR1.out HB.out)); (case side2 => exact HC1.out); (case side3 => exact cB (Kd.C_below HR2.out HB.out)); (case side4 => exact HC2.out); rintro e w22 ⟨v160, rfl, ho0, hb⟩; refine ⟨_, rfl, ?_⟩; have HO161 := mk0 (Kd.R_lower ho0 (below_size uZ)); replace BK158 := bK BK158 hb; replace HB := mk0 (below_step uZ hb); (try clear hb); (try clear hb2); (try clear hk); (try clear hi); (try clear ho0)))
   go_ret2
   exact ⟨_, uA, ui, uZ⟩
end Go.Proofs.Ytaahnicjjpddjaa.GRenc
