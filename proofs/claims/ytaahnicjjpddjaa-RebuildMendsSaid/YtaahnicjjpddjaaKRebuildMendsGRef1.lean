/- Functions of the program as Lean functions, each with a proof that its call comes to what the function says. No condition. -/
import Derived.Test.YtaahnicjjpddjaaKRebuildMendsGEnc1
import Derived.Test.YtaahnicjjpddjaaKRebuildMendsGEnc2
import Derived.Test.YtaahnicjjpddjaaKRebuildMendsWMore
section
namespace Go.Proofs.Ytaahnicjjpddjaa.GEnc
open Go.Proofs.Ytaahnicjjpddjaa.Fn
open Go.Proofs.Ytaahnicjjpddjaa
open Go.RowKit Go.Proofs.YtaahnicjjpddjaaW.PrintWords Go.Proofs.YtaahnicjjpddjaaW.PrintLast
set_option linter.unusedVariables false
set_option linter.unusedSimpArgs false
noncomputable def rebuild_Rebuild.f (k : Nat) (a0_0 : Int) (a0_1 : Int) (l1 : List ByteArray) (l2 : List Bool) : Option (List ByteArray × Int) := (decode_Decode.f k a0_0 a0_1 l1 l2).bind fun bt173 => (if bt173.2 = 0 then ((encode_Encode.f k a0_0 a0_1 bt173.1).bind fun bt177 => (if bt173.1.length + bt177.1.length < 8796093022208 then (some ((bt173.1 ++ bt177.1), 0)) else (none))) else (if bt173.2 = 701 then (some (([] : List ByteArray), 801)) else (some (([] : List ByteArray), 800))))
theorem rebuild_Rebuild.mono : ∀ a0 a1 a2 a3 k, LeO (rebuild_Rebuild.f k a0 a1 a2 a3) (rebuild_Rebuild.f (k + 1) a0 a1 a2 a3) := by
 intro a0 a1 a2 a3 k
 unfold rebuild_Rebuild.f
 repeat' with_reducible first | exact decode_Decode.mono _ _ _ _ _ | exact encode_Encode.mono _ _ _ _ | exact LeO.refl _ | exact LeO.none _ | refine LeO.ite ?_ ?_ | refine LeO.bind ?_ (fun _ => ?_)
set_option maxHeartbeats 8000000 in
set_option maxRecDepth 100000 in
theorem rebuild_Rebuild.calls (k : Nat) (a0_0 : Int) (a0_1 : Int) (A1 : Option Addr) (c1 : Nat) (l1 : List ByteArray) (A2 : Option Addr) (c2 : Nat) (l2 : List Bool) (r1 : List ByteArray) (r2 : Int) (w : World) (hr1 : Kd.C Kd.string w A1 l1.length l1) (hc1 : l1.length ≤ c1) (hr2 : Kd.C Kd.bool w A2 l2.length l2) (hc2 : l2.length ≤ c2) (h : rebuild_Rebuild.f k a0_0 a0_1 l1 l2 = some (r1, r2)) :
  Calls Try.prog 59 #[.agg #[.int .i64 a0_0, .int .i64 a0_1], .slice A1 l1.length c1, .slice A2 l2.length c2] w fun e w' => ∃ v0_ : Value, e = .returned (.tuple #[v0_, .int .i64 r2]) ∧ Kd.R Kd.string 9 w' w.heap.size (fun _ => True) v0_ r1 ∧ Below w.heap.size w w' := by
 have hu51 := Try.underlying51
 have HR1 := mk0 hr1
 have HC1 := mk0 hc1
 clear hr1 hc1
 have HR2 := mk0 hr2
 have HC2 := mk0 hc2
 clear hr2 hc2
 have HB := mk0 (Below.refl w.heap.size w)
 have H : ((decode_Decode.f k a0_0 a0_1 l1 l2).bind fun bt173 => (if bt173.2 = 0 then ((encode_Encode.f k a0_0 a0_1 bt173.1).bind fun bt177 => (if bt173.1.length + bt177.1.length < 8796093022208 then (some ((bt173.1 ++ bt177.1), 0)) else (none))) else (if bt173.2 = 701 then (some (([] : List ByteArray), 801)) else (some (([] : List ByteArray), 800))))) = some (r1, r2) := h
 clear h
 replace H := Option.bind_eq_some_iff.mp H
 obtain ⟨⟨t173, t176⟩, A40, H⟩ := H
 replace H : (if t176 = 0 then ((encode_Encode.f k a0_0 a0_1 t173).bind fun bt177 => (if t173.length + bt177.1.length < 8796093022208 then (some ((t173 ++ bt177.1), 0)) else (none))) else (if t176 = 701 then (some (([] : List ByteArray), 801)) else (some (([] : List ByteArray), 800)))) = some (r1, r2) := H
 have A4 := mk0 A40
 clear A40
 by_cases c5 : t176 = 0
 ·rw [if_pos c5] at H
  have c5b0 : (t176 == 0) = true := beq_iff_eq.mpr c5
  have c5b1 : (t176 != 0) = false := bne_eq_false_iff_eq.mpr c5
  clear c5
  replace H := Option.bind_eq_some_iff.mp H
  obtain ⟨⟨t177, t180⟩, A60, H⟩ := H
  replace H : (if t173.length + t177.length < 8796093022208 then (some ((t173 ++ t177), 0)) else (none)) = some (r1, r2) := H
  have A6 := mk0 A60
  clear A60
  by_cases c7 : t173.length + t177.length < 8796093022208
  ·rw [if_pos c7] at H
   have LMc7 := mk0 c7
   clear c7
   obtain ⟨y181, hy181⟩ : ∃ y_ : List ByteArray, y_ = (t173 ++ t177) := ⟨_, rfl⟩
   replace H : (some (y181, 0)) = some (r1, r2) := by first | (rw [hy181]; with_reducible exact H) | (have H2_ := (Option.bind_some _ _).symm.trans H; rw [hy181]; with_reducible exact H2_) | (have H2_ := (Option.bind_some _ _).symm.trans H; with_reducible exact H2_) | with_reducible exact H | (rw [hy181]; exact H) | exact H
   have Ny181 := mk0 hy181
   clear hy181
   simp only [Option.some.injEq, Prod.mk.injEq] at H
   obtain ⟨rfl, rfl⟩ := H
   go_enter Try.func59, Try.ntmps59
   go_wp2_with (first | ((with_reducible refine gate_dst (N := 3) rfl ?_); refine box_event uW (N := 3) uW (cs := #[.int .i64 a0_0, .int .i64 a0_1]) (t := 51) uL ?_; intro gb172 hg w8 hbox hb; have BK172 := mk0 (hbox); have GW172 := mk0 (nB hg HB); have GE172 := mk0 (nB hg HB); replace HB := mk0 (below_step ut hb); clear hb hbox hg; have hcz9_0 : w8.cell? ⟨gb172, 0, none⟩ = some (.int .i64 a0_0) := (blk_cell BK172.out 0).trans rfl; have hcz9_1 : w8.cell? ⟨gb172, 1, none⟩ = some (.int .i64 a0_1) := (blk_cell BK172.out 1).trans rfl; have hfz9_0 := blk_frozen BK172.out 0; have hfz9_1 := blk_frozen BK172.out 1) | ((with_reducible refine gCa (f := 53) rfl ?_); refine goesL_ (some 16) rfl rfl Try.func53 uT rfl #[.agg #[.int .i64 a0_0, .int .i64 a0_1], .slice A1 l1.length c1, .slice A2 l2.length c2] rfl uk ?_; (with_reducible refine (decode_Decode.calls k a0_0 a0_1 _ _ l1 _ _ l2 t173 t176 _ ?side1 ?side2 ?side3 ?side4 A4.out).mono ?_); (case side1 => exact cB (Kd.C_below HR1.out HB.out)); (case side2 => exact HC1.out); (case side3 => exact cB (Kd.C_below HR2.out HB.out)); (case side4 => exact HC2.out); rintro e w10 ⟨v174, rfl, ho0, hb⟩; refine ⟨_, rfl, ?_⟩; have HO175 := mk0 (Kd.R_lower ho0 (below_size uX)); replace BK172 := bK BK172 hb; replace HB := mk0 (below_step uX hb); (try clear hb); (try clear hb2); (try clear hk); (try clear hi); (try clear ho0); have hcz11_0 : w10.cell? ⟨gb172, 0, none⟩ = some (.int .i64 a0_0) := (blk_cell BK172.out 0).trans rfl; have hcz11_1 : w10.cell? ⟨gb172, 1, none⟩ = some (.int .i64 a0_1) := (blk_cell BK172.out 1).trans rfl; have hfz11_0 := blk_frozen BK172.out 0; have hfz11_1 := blk_frozen BK172.out 1; obtain ⟨Ao12, co12, eo12⟩ := Kd.R_slice HO175.out; subst eo12) | ((with_reducible refine gCa (f := 48) rfl ?_); refine goesL_ (some 27) rfl rfl Try.func48 uT rfl #[.agg #[.int .i64 a0_0, .int .i64 a0_1], .slice Ao12 t173.length co12] rfl uk ?_; (with_reducible refine (encode_Encode.calls k a0_0 a0_1 _ _ t173 t177 t180 _ ?side1 ?side2 A6.out).mono ?_); (case side1 => exact cB (Kd.R_reads' HO175.out).2.2); (case side2 => exact (Kd.R_reads' HO175.out).2.1); rintro e w13 ⟨v178, rfl, ho0, hb⟩; refine ⟨_, rfl, ?_⟩; have HO179 := mk0 (Kd.R_lower (Kd.R_new' ho0 (Kd.R_lt (rB HO175.out))) (below_size uX)); replace HO175 := mk0 (Kd.R_elder' (rB HO175.out) (Kd.R_base ho0) hb); replace BK172 := bK BK172 hb; replace HB := mk0 (below_step uX hb); (try clear hb); (try clear hb2); (try clear hk); (try clear hi); (try clear ho0); obtain ⟨Ao15, co15, eo15⟩ := Kd.R_slice HO179.out; subst eo15) | ((with_reducible refine gBu (b := .append) (xs := #[.tmp 30, .tmp 31]) rfl ?_); at_builtin; refine Kd.R_append_rows Kd.string (w0 := w) w.heap.size rfl (.tmp 30) (.tmp 31) 58 9 (.string ⟨#[]⟩) 16 rfl Try.underlying58 info9 rfl uZ uV (.slice Ao12 t173.length co12) t173 t177 _ _ _ (fun k_ => some k_ ≠ (.slice Ao15 t177.length co15 : Value).ownBlock) (fun _ => False) rfl rfl ?aO ?aR (fun _ _ h => h) (fun _ h => h.elim) ?aF ?aB ?aS ?aL ?_; (case aR => repeat (first | exact (Kd.R_reads' HO179.out).2.2 | (with_reducible refine Kd.C_alloc ?_ _) | (with_reducible refine Kd.C_drewN ?_ _) | (with_reducible refine Kd.C_drew ?_))); (case aB => exact uX); (case aF => exact (fun k_ hk => Kd.fresh' (Kd.R_lt (rB HO179.out)) k_ hk)); (case aO => exact (by (with_reducible repeat (first | apply rA | apply rN | apply rD)); exact Kd.R_mono HO175.out (fun _ hk => hk.2))); (case aS => exact (below_size uX)); (case aL => have := LMc7.out; omega); intro v182 w14 ho hb hg hat; rw [← Ny181.out] at ho; replace BK172 := mk0 (blk_grown (g := gb172) (o := .cells #[.int .i64 a0_0, .int .i64 a0_1] 51 (0, 0)) (bB BK172.out) hg (Kd.R_ne HO175.out BK172.out uZ)); replace HO179 := mk0 (Kd.R_after (ok := (fun _ => True)) (rB HO179.out) hg hat); replace HB := mk0 (hb); have HO183 := mk0 (ho); clear HO175; clear ho hb hg hat))
   go_ret2
   exact ⟨_, uz, by (with_reducible repeat (first | apply rA | apply rN | apply rD)); exact Kd.R_mono HO183.out (fun _ hk => trivial), uX⟩
  ·rw [if_neg c7] at H
   exact absurd H qa
 ·rw [if_neg c5] at H
  have c5b0 : (t176 == 0) = false := beq_eq_false_iff_ne.mpr c5
  have c5b1 : (t176 != 0) = true := bne_iff_ne.mpr c5
  by_cases c16 : t176 = 701
  ·rw [if_pos c16] at H
   have c16b0 : (t176 == 701) = true := beq_iff_eq.mpr c16
   have c16b1 : (t176 != 701) = false := bne_eq_false_iff_eq.mpr c16
   clear c16
   simp only [Option.some.injEq, Prod.mk.injEq] at H
   obtain ⟨rfl, rfl⟩ := H
   go_enter Try.func59, Try.ntmps59
   go_wp2_with (first | ((with_reducible refine gate_dst (N := 3) rfl ?_); refine box_event uW (N := 3) uW (cs := #[.int .i64 a0_0, .int .i64 a0_1]) (t := 51) uL ?_; intro gb172 hg w17 hbox hb; have BK172 := mk0 (hbox); have GW172 := mk0 (nB hg HB); have GE172 := mk0 (nB hg HB); replace HB := mk0 (below_step ut hb); clear hb hbox hg; have hcz18_0 : w17.cell? ⟨gb172, 0, none⟩ = some (.int .i64 a0_0) := (blk_cell BK172.out 0).trans rfl; have hcz18_1 : w17.cell? ⟨gb172, 1, none⟩ = some (.int .i64 a0_1) := (blk_cell BK172.out 1).trans rfl; have hfz18_0 := blk_frozen BK172.out 0; have hfz18_1 := blk_frozen BK172.out 1) | ((with_reducible refine gCa (f := 53) rfl ?_); refine goesL_ (some 16) rfl rfl Try.func53 uT rfl #[.agg #[.int .i64 a0_0, .int .i64 a0_1], .slice A1 l1.length c1, .slice A2 l2.length c2] rfl uk ?_; (with_reducible refine (decode_Decode.calls k a0_0 a0_1 _ _ l1 _ _ l2 t173 t176 _ ?side1 ?side2 ?side3 ?side4 A4.out).mono ?_); (case side1 => exact cB (Kd.C_below HR1.out HB.out)); (case side2 => exact HC1.out); (case side3 => exact cB (Kd.C_below HR2.out HB.out)); (case side4 => exact HC2.out); rintro e w19 ⟨v174, rfl, ho0, hb⟩; refine ⟨_, rfl, ?_⟩; have HO175 := mk0 (Kd.R_lower ho0 (below_size uX)); replace BK172 := bK BK172 hb; replace HB := mk0 (below_step uX hb); (try clear hb); (try clear hb2); (try clear hk); (try clear hi); (try clear ho0)))
   go_ret2
   exact ⟨_, uz, ui, uX⟩
  ·rw [if_neg c16] at H
   have c16b0 : (t176 == 701) = false := beq_eq_false_iff_ne.mpr c16
   have c16b1 : (t176 != 701) = true := bne_iff_ne.mpr c16
   simp only [Option.some.injEq, Prod.mk.injEq] at H
   obtain ⟨rfl, rfl⟩ := H
   go_enter Try.func59, Try.ntmps59
   go_wp2_with (first | ((with_reducible refine gate_dst (N := 3) rfl ?_); refine box_event uW (N := 3) uW (cs := #[.int .i64 a0_0, .int .i64 a0_1]) (t := 51) uL ?_; intro gb172 hg w20 hbox hb; have BK172 := mk0 (hbox); have GW172 := mk0 (nB hg HB); have GE172 := mk0 (nB hg HB); replace HB := mk0 (below_step ut hb); clear hb hbox hg; have hcz21_0 : w20.cell? ⟨gb172, 0, none⟩ = some (.int .i64 a0_0) := (blk_cell BK172.out 0).trans rfl; have hcz21_1 : w20.cell? ⟨gb172, 1, none⟩ = some (.int .i64 a0_1) := (blk_cell BK172.out 1).trans rfl; have hfz21_0 := blk_frozen BK172.out 0; have hfz21_1 := blk_frozen BK172.out 1) | ((with_reducible refine gCa (f := 53) rfl ?_); refine goesL_ (some 16) rfl rfl Try.func53 uT rfl #[.agg #[.int .i64 a0_0, .int .i64 a0_1], .slice A1 l1.length c1, .slice A2 l2.length c2] rfl uk ?_; (with_reducible refine (decode_Decode.calls k a0_0 a0_1 _ _ l1 _ _ l2 t173 t176 _ ?side1 ?side2 ?side3 ?side4 A4.out).mono ?_); (case side1 => exact cB (Kd.C_below HR1.out HB.out)); (case side2 => exact HC1.out); (case side3 => exact cB (Kd.C_below HR2.out HB.out)); (case side4 => exact HC2.out); rintro e w22 ⟨v174, rfl, ho0, hb⟩; refine ⟨_, rfl, ?_⟩; have HO175 := mk0 (Kd.R_lower ho0 (below_size uX)); replace BK172 := bK BK172 hb; replace HB := mk0 (below_step uX hb); (try clear hb); (try clear hb2); (try clear hk); (try clear hi); (try clear ho0)))
   go_ret2
   exact ⟨_, uz, ui, uX⟩
end Go.Proofs.Ytaahnicjjpddjaa.GEnc
end
section
namespace Go.Proofs.Ytaahnicjjpddjaa.GRef
open Go.Proofs.Ytaahnicjjpddjaa.Fn
open Go.Proofs.Ytaahnicjjpddjaa
open Go.RowKit Go.Proofs.YtaahnicjjpddjaaW.PrintWords Go.Proofs.YtaahnicjjpddjaaW.PrintLast Go.Proofs.YtaahnicjjpddjaaW.PrintMore
attribute [local go_sem] max2_int min2_int max_two min_two max_three min_three max_four min_four   -- for this text's walks alone
set_option linter.unusedVariables false
set_option linter.unusedSimpArgs false
def errW : Option Int → Value
 | none => .nilIface
 | some c => .iface 0 (.int .i64 c)
theorem errW_none : errW none = .nilIface := rfl
theorem errW_some (c : Int) : errW (some c) = .iface 0 (.int .i64 c) := rfl
theorem info3 : (Try.prog.info? 3).map (fun i => (i.zero, i.size, i.bytes)) = some (some (.int .i64 0), 1, 8) := by kernel_rfl
theorem info5 : (Try.prog.info? 5).map (fun i => (i.zero, i.size, i.bytes)) = some (some (.int .u8 0), 1, 1) := by kernel_rfl
theorem info25 : (Try.prog.info? 25).map (fun i => (i.zero, i.size, i.bytes)) = some (some (.slice none 0 0), 1, 24) := by kernel_rfl
def rd_L2 (xs : List (List Int)) (i : Int) : (List Int) := xs.getD i.toNat ([] : List Int)
theorem at_L2 {w : World} {A : Option Addr} {n : Nat} {xs : List (List Int)} (h : Kd.C (Kd.slice 3 (Kd.int .i64)) w A n xs) (i : Int) (h0 : 0 ≤ i) (h1 : i < n) : ∃ ad A0 c0, A = some ad ∧ w.cell? (ad.add i.toNat) = some (.slice A0 (rd_L2 xs i).length c0) ∧ (rd_L2 xs i).length ≤ c0 ∧ (Kd.int .i64).C w A0 (rd_L2 xs i).length (rd_L2 xs i) := by
 obtain ⟨ad, c, e, _, hK, hc0⟩ := Kd.C_get h ([] : List Int) i h0 h1
 have hc : ∀ j u, c[j]? = some u → w.cell? (ad.add (i.toNat * 1 + j)) = some u := hc0
 obtain ⟨A0, c0, rfl, l0, g0⟩ := hK
 exact ⟨ad, A0, c0, e, uF, l0, g0⟩
end Go.Proofs.Ytaahnicjjpddjaa.GRef
end
section
namespace Go.Proofs.Ytaahnicjjpddjaa.GRef
open Go.Proofs.Ytaahnicjjpddjaa.Fn
open Go.Proofs.Ytaahnicjjpddjaa
open Go.RowKit Go.Proofs.YtaahnicjjpddjaaW.PrintWords Go.Proofs.YtaahnicjjpddjaaW.PrintLast Go.Proofs.YtaahnicjjpddjaaW.PrintMore
attribute [local go_sem] max2_int min2_int max_two min_two max_three min_three max_four min_four   -- for this text's walks alone
set_option linter.unusedVariables false
set_option linter.unusedSimpArgs false
def ossuarylaw0_CopyMatrix.T5 : Bool × List (List Nat × List Nat) := (true, [([], []), ([0], [0]), ([], []), ([], []), ([3], [3]), ([], []), ([4, 5], [4, 5]), ([6], [6]), ([2, 7], [2, 7]), ([8], [8]), ([1, 9, 8], [1, 9]), ([0, 1, 2, 3, 4, 5, 6, 7, 8, 9, 10], []), ([11, 10, 10, 0, 1, 2, 3, 4, 5, 6, 7, 8, 9, 10], [10, 11])])
def ossuarylaw0_CopyMatrix.B5 : List Nat := [0, 1, 0, 0, 8, 0, 56, 120, 252, 508, 1023, 2047, 4095]
theorem ossuarylaw0_CopyMatrix.tab5 : rtab .any (opsOf Try.f27 5) = ossuarylaw0_CopyMatrix.T5 := by kernel_rfl
theorem ossuarylaw0_CopyMatrix.bits5 : waitsOk ossuarylaw0_CopyMatrix.T5.2 ossuarylaw0_CopyMatrix.B5 = true := by kernel_rfl
def ossuaryref1_byteNum.f (a0 : Int) : Option (Bool) := if a0 ≥ 0 then (some (decide (a0 ≤ 255))) else (some false)
set_option maxHeartbeats 8000000 in
set_option maxRecDepth 100000 in
theorem ossuaryref1_byteNum.calls (a0 : Int) (r : Bool) (w : World) (h : ossuaryref1_byteNum.f a0 = some r) :
  Calls Try.prog 75 #[.int .i64 a0] w fun e w' => e = .returned (.bool r) ∧ Drawn0 w w' := by
 have H : (if a0 ≥ 0 then (some (decide (a0 ≤ 255))) else (some false)) = some r := h
 clear h
 by_cases c2 : a0 ≥ 0
 ·rw [if_pos c2] at H
  have c2b0 : decide (0 ≤ a0) = true := decide_eq_true c2
  clear c2
  obtain rfl := Option.some.inj H
  go_enter Try.func75, Try.ntmps75
  go_wp2
  go_ret
  exact ⟨uJ, uG⟩
 ·rw [if_neg c2] at H
  have c2b0 : decide (0 ≤ a0) = false := decide_eq_false c2
  clear c2
  obtain rfl := Option.some.inj H
  go_enter Try.func75, Try.ntmps75
  go_wp2
  go_ret
  exact ⟨uJ, uG⟩
end Go.Proofs.Ytaahnicjjpddjaa.GRef
end
