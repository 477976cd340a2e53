/- Functions of the program as Lean functions, each with a proof that its call comes to what the function says. No condition. -/
import Derived.Test.YtaahnicjjpddjaaKRebuildMendsGRgen1
import Derived.Test.YtaahnicjjpddjaaKRebuildMendsGRef13
section
namespace Go.Proofs.Ytaahnicjjpddjaa.GRef
open Go.Proofs.Ytaahnicjjpddjaa.Fn
open Go.Proofs.Ytaahnicjjpddjaa
open Go.RowKit Go.Proofs.YtaahnicjjpddjaaW.PrintWords Go.Proofs.YtaahnicjjpddjaaW.PrintLast Go.Proofs.YtaahnicjjpddjaaW.PrintMore
attribute [local go_sem] max2_int min2_int max_two min_two max_three min_three max_four min_four   -- for this text's walks alone
set_option linter.unusedVariables false
set_option linter.unusedSimpArgs false
def ossuaryref1_Pick.T9 : Bool × List (List Nat × List Nat) := (true, [([], []), ([0], [0]), ([], []), ([], []), ([3], [3]), ([], []), ([], []), ([5, 6], [5, 6]), ([7], [7]), ([4, 8], [4, 8]), ([9], [9]), ([2, 10], [2, 10]), ([11], [11]), ([1, 12, 11], [1, 12]), ([0, 1, 2, 3, 4, 5, 6, 7, 8, 9, 10, 11, 12, 13], []), ([14, 13, 13, 0, 1, 2, 3, 4, 5, 6, 7, 8, 9, 10, 11, 12, 13], [13, 14])])
def ossuaryref1_Pick.B9 : List Nat := [0, 1, 0, 0, 8, 0, 0, 96, 224, 504, 1016, 2044, 4092, 8191, 16383, 32767]
theorem ossuaryref1_Pick.tab9 : rtab .any (opsOf Try.f31 9) = ossuaryref1_Pick.T9 := by kernel_rfl
theorem ossuaryref1_Pick.bits9 : waitsOk ossuaryref1_Pick.T9.2 ossuaryref1_Pick.B9 = true := by kernel_rfl
end Go.Proofs.Ytaahnicjjpddjaa.GRef
end
section
namespace Go.Proofs.Ytaahnicjjpddjaa.GRenc
open Go.Proofs.Ytaahnicjjpddjaa.Fn
open Go.Proofs.Ytaahnicjjpddjaa
open Go.RowKit Go.Proofs.YtaahnicjjpddjaaW.PrintWords Go.Proofs.YtaahnicjjpddjaaW.PrintLast
set_option linter.unusedVariables false
set_option linter.unusedSimpArgs false
noncomputable def errW : Option Int → Value
 | none => .nilIface
 | some c => .iface 0 (.int .i64 c)
theorem errW_none : errW none = .nilIface := rfl
theorem errW_some (c : Int) : errW (some c) = .iface 0 (.int .i64 c) := rfl
theorem info3 : (Try.prog.info? 3).map (fun i => (i.zero, i.size, i.bytes)) = some (some (.int .i64 0), 1, 8) := by kernel_rfl
theorem info9 : (Try.prog.info? 9).map (fun i => (i.zero, i.size, i.bytes)) = some (some (.string ⟨#[]⟩), 1, 16) := by kernel_rfl
noncomputable def rd_L1 (xs : List (List Int)) (i : Int) : (List Int) := xs.getD i.toNat ([] : List Int)
theorem at_L1 {w : World} {A : Option Addr} {n : Nat} {xs : List (List Int)} (h : Kd.C (Kd.slice 3 (Kd.int .i64)) w A n xs) (i : Int) (h0 : 0 ≤ i) (h1 : i < n) : ∃ ad A0 c0, A = some ad ∧ w.cell? (ad.add i.toNat) = some (.slice A0 (rd_L1 xs i).length c0) ∧ (rd_L1 xs i).length ≤ c0 ∧ (Kd.int .i64).C w A0 (rd_L1 xs i).length (rd_L1 xs i) := by
 obtain ⟨ad, c, e, _, hK, hc0⟩ := Kd.C_get h ([] : List Int) i h0 h1
 have hc : ∀ j u, c[j]? = some u → w.cell? (ad.add (i.toNat * 1 + j)) = some u := hc0
 obtain ⟨A0, c0, rfl, l0, g0⟩ := hK
 exact ⟨ad, A0, c0, e, uF, l0, g0⟩
noncomputable def rd_L2 (xs : List (List (List Int))) (i : Int) : (List (List Int)) := xs.getD i.toNat ([] : List (List Int))
theorem at_L2 {w : World} {A : Option Addr} {n : Nat} {xs : List (List (List Int))} (h : Kd.C (Kd.slice 25 (Kd.slice 3 (Kd.int .i64))) w A n xs) (i : Int) (h0 : 0 ≤ i) (h1 : i < n) : ∃ ad A0 c0, A = some ad ∧ w.cell? (ad.add i.toNat) = some (.slice A0 (rd_L2 xs i).length c0) ∧ (rd_L2 xs i).length ≤ c0 ∧ (Kd.slice 3 (Kd.int .i64)).C w A0 (rd_L2 xs i).length (rd_L2 xs i) := by
 obtain ⟨ad, c, e, _, hK, hc0⟩ := Kd.C_get h ([] : List (List Int)) i h0 h1
 have hc : ∀ j u, c[j]? = some u → w.cell? (ad.add (i.toNat * 1 + j)) = some u := hc0
 obtain ⟨A0, c0, rfl, l0, g0⟩ := hK
 exact ⟨ad, A0, c0, e, uF, l0, g0⟩
end Go.Proofs.Ytaahnicjjpddjaa.GRenc
end
section
namespace Go.Proofs.Ytaahnicjjpddjaa.GRenc
open Go.Proofs.Ytaahnicjjpddjaa.Fn
open Go.Proofs.Ytaahnicjjpddjaa
open Go.RowKit Go.Proofs.YtaahnicjjpddjaaW.PrintWords Go.Proofs.YtaahnicjjpddjaaW.PrintLast
set_option linter.unusedVariables false
set_option linter.unusedSimpArgs false
mutual
noncomputable def ossuaryref1_Encode.j0 : Nat → List ByteArray → Bool → Int → Int → Option (List ByteArray × Int)
 | 0, _, _, _, _ => none
 | k + 1, x1, x26, x105000, x105001 => if x26 = true then (some (([] : List ByteArray), 600)) else ((GRgen.ossuaryref1_Gen.f k x105000 x105001).bind fun bt107 => (ossuaryref1_Encode.l0 k x1 ([] : List ByteArray) x105000 x105000 x105001 bt107.1))
noncomputable def ossuaryref1_Encode.l0 : Nat → List ByteArray → List ByteArray → Int → Int → Int → List (List Int) → Option (List ByteArray × Int)
 | 0, _, _, _, _, _, _ => none
 | k + 1, x1, x8, x9, x105000, x105001, x112000 => if x9 < (wrap64 (x105000 + x105001)) then (if 0 ≤ x9 then (if x9 < (x112000.length : Int) then ((GRef.ossuaryref1_Combine.f k (rd_L1 x112000 x9) x1).bind fun bt113 => (if x8.length < 8796093022208 then (ossuaryref1_Encode.l0 k x1 (x8 ++ [bt113.1]) (wrap64 (x9 + 1)) x105000 x105001 x112000) else (none))) else (none)) else (none)) else (some (x8, 0))
end
noncomputable def ossuaryref1_Encode.f (k : Nat) (a0_0 : Int) (a0_1 : Int) (l1 : List ByteArray) : Option (List ByteArray × Int) := (GRef.ossuaryref1_ShapeMay.f a0_0 a0_1).bind fun t105 => (if t105 = true then (if (l1.length : Int) = a0_0 then ((GRef.ossuaryref1_alike.f k l1).bind fun t106 => (ossuaryref1_Encode.j0 k l1 (!t106) a0_0 a0_1)) else (ossuaryref1_Encode.j0 k l1 true a0_0 a0_1)) else (ossuaryref1_Encode.j0 k l1 true a0_0 a0_1))
theorem ossuaryref1_Encode.mono_l : ∀ k, (∀ y0 y1 y2 y3, LeO (ossuaryref1_Encode.j0 k y0 y1 y2 y3) (ossuaryref1_Encode.j0 (k + 1) y0 y1 y2 y3)) ∧ (∀ y0 y1 y2 y3 y4 y5, LeO (ossuaryref1_Encode.l0 k y0 y1 y2 y3 y4 y5) (ossuaryref1_Encode.l0 (k + 1) y0 y1 y2 y3 y4 y5))
 | 0 => ⟨fun _ _ _ _ r h => by simp [ossuaryref1_Encode.j0] at h, fun _ _ _ _ _ _ r h => by simp [ossuaryref1_Encode.l0] at h⟩
 | k + 1 => by
  obtain ⟨ih0, ih1⟩ := ossuaryref1_Encode.mono_l k
  refine ⟨?_, ?_⟩
  ·intro y0 y1 y2 y3
   unfold ossuaryref1_Encode.j0
   repeat' with_reducible first | exact ih0 _ _ _ _ | exact ih1 _ _ _ _ _ _ | exact GRef.ossuaryref1_Combine.mono _ _ _ | exact GRef.ossuaryref1_alike.mono _ _ | exact GRgen.ossuaryref1_Gen.mono _ _ _ | exact LeO.refl _ | exact LeO.none _ | refine LeO.ite ?_ ?_ | refine LeO.bind ?_ (fun _ => ?_)
  ·intro y0 y1 y2 y3 y4 y5
   unfold ossuaryref1_Encode.l0
   repeat' with_reducible first | exact ih0 _ _ _ _ | exact ih1 _ _ _ _ _ _ | exact GRef.ossuaryref1_Combine.mono _ _ _ | exact GRef.ossuaryref1_alike.mono _ _ | exact GRgen.ossuaryref1_Gen.mono _ _ _ | exact LeO.refl _ | exact LeO.none _ | refine LeO.ite ?_ ?_ | refine LeO.bind ?_ (fun _ => ?_)
theorem ossuaryref1_Encode.mono : ∀ a0 a1 a2 k, LeO (ossuaryref1_Encode.f k a0 a1 a2) (ossuaryref1_Encode.f (k + 1) a0 a1 a2) := by
 intro a0 a1 a2 k
 obtain ⟨ih0, ih1⟩ := ossuaryref1_Encode.mono_l k
 unfold ossuaryref1_Encode.f
 repeat' with_reducible first | exact ih0 _ _ _ _ | exact ih1 _ _ _ _ _ _ | exact GRef.ossuaryref1_Combine.mono _ _ _ | exact GRef.ossuaryref1_alike.mono _ _ | exact GRgen.ossuaryref1_Gen.mono _ _ _ | exact LeO.refl _ | exact LeO.none _ | refine LeO.ite ?_ ?_ | refine LeO.bind ?_ (fun _ => ?_)
set_option maxHeartbeats 8000000 in
set_option maxRecDepth 100000 in
theorem ossuaryref1_Encode.calls (k : Nat) (a0_0 : Int) (a0_1 : Int) (A1 : Option Addr) (c1 : Nat) (l1 : List ByteArray) (r1 : List ByteArray) (r2 : Int) (w : World) (hr1 : Kd.C Kd.string w A1 l1.length l1) (hc1 : l1.length ≤ c1) (h : ossuaryref1_Encode.f k a0_0 a0_1 l1 = some (r1, r2)) :
  Calls Try.prog 49 #[.agg #[.int .i64 a0_0, .int .i64 a0_1], .slice A1 l1.length c1] w fun e w' => ∃ v0_ : Value, e = .returned (.tuple #[v0_, .int .i64 r2]) ∧ Kd.R Kd.string 9 w' w.heap.size (fun _ => True) v0_ r1 ∧ Below w.heap.size w w' := by
 have hu51 := Try.underlying51
 have hu24 := Try.underlying24
 have HR1 := mk0 hr1
 have HC1 := mk0 hc1
 clear hr1 hc1
 have HB := mk0 (Below.refl w.heap.size w)
 have H : ((GRef.ossuaryref1_ShapeMay.f a0_0 a0_1).bind fun t105 => (if t105 = true then (if (l1.length : Int) = a0_0 then ((GRef.ossuaryref1_alike.f k l1).bind fun t106 => (ossuaryref1_Encode.j0 k l1 (!t106) a0_0 a0_1)) else (ossuaryref1_Encode.j0 k l1 true a0_0 a0_1)) else (ossuaryref1_Encode.j0 k l1 true a0_0 a0_1))) = some (r1, r2) := h
 clear h
 have HC3 := mk0 H
 clear H
 go_enter Try.func49, Try.ntmps49
 go_upto_region 1 with (first | ((with_reducible refine gate_dst (N := 2) rfl ?_); (try (refine gate_guard uW ?_; dsimp only)); refine box_event uW (N := 2) uW (cs := #[.int .i64 a0_0, .int .i64 a0_1]) (t := 51) uL ?_; intro gb104 hg w4 hbox hb; have BK104 := mk0 (hbox); have GW104 := mk0 (nB hg HB); have GE104 := mk0 (nB hg HB); replace HB := mk0 (below_step ut hb); clear hb hbox hg))
 (try simp only [Act.put, List.setIfInBounds_toArray, List.set_cons_zero, List.set_cons_succ])
 go_cut [26] (fun v26 wc => ∃ (kq : Nat) (x26_2 : Bool), v26 = .bool x26_2 ∧ Aside0 (ossuaryref1_Encode.j0 kq l1 x26_2 a0_0 a0_1 = some (r1, r2)) ∧ Aside0 (kq ≤ k) ∧ Aside0 (wc.heap[gb104]? = some (.cells #[.int .i64 a0_0, .int .i64 a0_1] 51 (0, 0))) ∧ Aside0 (Below w.heap.size w wc))
 case first =>
  have H := HC3.out
  clear HC3
  replace H := Option.bind_eq_some_iff.mp H
  obtain ⟨t105, A50, H⟩ := H
  replace H : (if t105 = true then (if (l1.length : Int) = a0_0 then ((GRef.ossuaryref1_alike.f k l1).bind fun t106 => (ossuaryref1_Encode.j0 k l1 (!t106) a0_0 a0_1)) else (ossuaryref1_Encode.j0 k l1 true a0_0 a0_1)) else (ossuaryref1_Encode.j0 k l1 true a0_0 a0_1)) = some (r1, r2) := H
  have A5 := mk0 A50
  clear A50
  by_cases c6 : t105 = true
  ·subst c6
   have H1 : (if (l1.length : Int) = a0_0 then ((GRef.ossuaryref1_alike.f k l1).bind fun t106 => (ossuaryref1_Encode.j0 k l1 (!t106) a0_0 a0_1)) else (ossuaryref1_Encode.j0 k l1 true a0_0 a0_1)) = some (r1, r2) := by rw [if_pos rfl] at H; exact H
   clear H
   have H := H1
   clear H1
   by_cases c7 : (l1.length : Int) = a0_0
   ·rw [if_pos c7] at H
    have c7b0 : ((l1.length : Int) == a0_0) = true := beq_iff_eq.mpr c7
    have c7b1 : ((l1.length : Int) != a0_0) = false := bne_eq_false_iff_eq.mpr c7
    clear c7
    (first | rw [c7b0] | (simp only [i64_w, i32_w]; rw [c7b0]) | skip)
    replace H := Option.bind_eq_some_iff.mp H
    obtain ⟨t106, A80, H⟩ := H
    replace H : (ossuaryref1_Encode.j0 k l1 (!t106) a0_0 a0_1) = some (r1, r2) := H
    have A8 := mk0 A80
    clear A80
    have H' := mk0 H
    clear H
    have hcz9_0 : w4.cell? ⟨gb104, 0, none⟩ = some (.int .i64 a0_0) := (blk_cell BK104.out 0).trans rfl
    have hcz9_1 : w4.cell? ⟨gb104, 1, none⟩ = some (.int .i64 a0_1) := (blk_cell BK104.out 1).trans rfl
    have hfz9_0 := blk_frozen BK104.out 0
    have hfz9_1 := blk_frozen BK104.out 1
    go_wp2_with (first | ((with_reducible refine gCa (f := 46) rfl ?_); refine goesL_ (some 13) rfl rfl Try.func46 uT rfl #[.agg #[.int .i64 a0_0, .int .i64 a0_1]] rfl uk ?_; (with_reducible refine (GRef.ossuaryref1_ShapeMay.calls a0_0 a0_1 true _ A5.out).mono ?_); rintro e w10 ⟨rfl, hb⟩; refine ⟨_, rfl, ?_⟩; replace BK104 := bK BK104 hb; replace HB := mk0 (below_step uX hb); (try clear hb); have hcz11_0 : w10.cell? ⟨gb104, 0, none⟩ = some (.int .i64 a0_0) := (blk_cell BK104.out 0).trans rfl; have hcz11_1 : w10.cell? ⟨gb104, 1, none⟩ = some (.int .i64 a0_1) := (blk_cell BK104.out 1).trans rfl; have hfz11_0 := blk_frozen BK104.out 0; have hfz11_1 := blk_frozen BK104.out 1) | (go_at_call 91; (with_reducible refine (GRef.ossuaryref1_alike.calls k _ _ l1 t106 _ ?side1 ?side2 A8.out).mono ?_); (case side1 => exact cB (Kd.C_below HR1.out HB.out)); (case side2 => exact HC1.out); rintro e w' ⟨rfl, ⟨nd, rfl⟩⟩))
    go_meet
    case rel => exact ⟨_, (!t106), uJ, H', ⟨uO⟩, ⟨bB BK104.out⟩, ⟨uX⟩⟩
   ·rw [if_neg c7] at H
    have c7b0 : ((l1.length : Int) == a0_0) = false := beq_eq_false_iff_ne.mpr c7
    have c7b1 : ((l1.length : Int) != a0_0) = true := bne_iff_ne.mpr c7
    (first | rw [c7b0] | (simp only [i64_w, i32_w]; rw [c7b0]) | skip)
    have H' := mk0 H
    clear H
    have hcz12_0 : w4.cell? ⟨gb104, 0, none⟩ = some (.int .i64 a0_0) := (blk_cell BK104.out 0).trans rfl
    have hcz12_1 : w4.cell? ⟨gb104, 1, none⟩ = some (.int .i64 a0_1) := (blk_cell BK104.out 1).trans rfl
    have hfz12_0 := blk_frozen BK104.out 0
    have hfz12_1 := blk_frozen BK104.out 1
    go_wp2_with (first | ((with_reducible refine gCa (f := 46) rfl ?_); refine goesL_ (some 13) rfl rfl Try.func46 uT rfl #[.agg #[.int .i64 a0_0, .int .i64 a0_1]] rfl uk ?_; (with_reducible refine (GRef.ossuaryref1_ShapeMay.calls a0_0 a0_1 true _ A5.out).mono ?_); rintro e w13 ⟨rfl, hb⟩; refine ⟨_, rfl, ?_⟩; replace BK104 := bK BK104 hb; replace HB := mk0 (below_step uX hb); (try clear hb); have hcz14_0 : w13.cell? ⟨gb104, 0, none⟩ = some (.int .i64 a0_0) := (blk_cell BK104.out 0).trans rfl; have hcz14_1 : w13.cell? ⟨gb104, 1, none⟩ = some (.int .i64 a0_1) := (blk_cell BK104.out 1).trans rfl; have hfz14_0 := blk_frozen BK104.out 0; have hfz14_1 := blk_frozen BK104.out 1))
    go_meet
    case rel => exact ⟨_, (true), uJ, H', ⟨uO⟩, ⟨bB BK104.out⟩, ⟨uX⟩⟩
  ·replace c6 := Bool.eq_false_iff.mpr c6
   subst c6
   have H1 : (ossuaryref1_Encode.j0 k l1 true a0_0 a0_1) = some (r1, r2) := by rw [if_neg (show ¬ (false = true) by decide)] at H; exact H
   clear H
   have H := H1
   clear H1
   have H' := mk0 H
   clear H
   have hcz15_0 : w4.cell? ⟨gb104, 0, none⟩ = some (.int .i64 a0_0) := (blk_cell BK104.out 0).trans rfl
   have hcz15_1 : w4.cell? ⟨gb104, 1, none⟩ = some (.int .i64 a0_1) := (blk_cell BK104.out 1).trans rfl
   have hfz15_0 := blk_frozen BK104.out 0
   have hfz15_1 := blk_frozen BK104.out 1
   go_wp2_with (first | ((with_reducible refine gCa (f := 46) rfl ?_); refine goesL_ (some 13) rfl rfl Try.func46 uT rfl #[.agg #[.int .i64 a0_0, .int .i64 a0_1]] rfl uk ?_; (with_reducible refine (GRef.ossuaryref1_ShapeMay.calls a0_0 a0_1 false _ A5.out).mono ?_); rintro e w16 ⟨rfl, hb⟩; refine ⟨_, rfl, ?_⟩; replace BK104 := bK BK104 hb; replace HB := mk0 (below_step uX hb); (try clear hb)))
   go_meet
   case rel => exact ⟨_, (true), uJ, H', ⟨uO⟩, ⟨bB BK104.out⟩, ⟨uX⟩⟩
 case rest =>
  clear HC3
  try clear c1
  try clear p2
  try clear c4
  try clear c6
  try clear c7
  try clear c7b0
  try clear c7b1
  try clear hcz11_0
  try clear hcz11_1
  try clear hcz12_0
  try clear hcz12_1
  try clear hcz14_0
  try clear hcz14_1
  try clear hcz15_0
  try clear hcz15_1
  try clear hcz9_0
  try clear hcz9_1
  try clear hfz11_0
  try clear hfz11_1
  try clear hfz12_0
  try clear hfz12_1
  try clear hfz14_0
  try clear hfz14_1
  try clear hfz15_0
  try clear hfz15_1
  try clear hfz9_0
  try clear hfz9_1
  obtain ⟨kq, x26_2, rfl, HA, HJ2, BK104, HB⟩ := hcut
  cases kq with
  | zero => exact absurd HA.out (by simp [ossuaryref1_Encode.j0])
  | succ kj2 =>
   have H := HA.out
   clear HA
   simp only [ossuaryref1_Encode.j0] at H
   by_cases c17 : x26_2 = true
   ·subst c17
    have H1 : (some (([] : List ByteArray), 600)) = some (r1, r2) := by rw [if_pos rfl] at H; exact H
    clear H
    have H := H1
    clear H1
    simp only [Option.some.injEq, Prod.mk.injEq] at H
    obtain ⟨rfl, rfl⟩ := H
    go_wp2
    go_ret2
    exact ⟨_, uz, ui, uX⟩
   ·replace c17 := Bool.eq_false_iff.mpr c17
    subst c17
    have H1 : ((GRgen.ossuaryref1_Gen.f kj2 a0_0 a0_1).bind fun bt107 => (ossuaryref1_Encode.l0 kj2 l1 ([] : List ByteArray) a0_0 a0_0 a0_1 bt107.1)) = some (r1, r2) := by rw [if_neg (show ¬ (false = true) by decide)] at H; exact H
    clear H
    have H := H1
    clear H1
    replace H := Option.bind_eq_some_iff.mp H
    obtain ⟨⟨t107, t110⟩, A180, H⟩ := H
    replace H : (ossuaryref1_Encode.l0 kj2 l1 ([] : List ByteArray) a0_0 a0_0 a0_1 t107) = some (r1, r2) := H
    have A18 := mk0 A180
    clear A180
    have H' := mk0 H
    clear H
    have hcz19_0 : wc.cell? ⟨gb104, 0, none⟩ = some (.int .i64 a0_0) := (blk_cell BK104.out 0).trans rfl
    have hcz19_1 : wc.cell? ⟨gb104, 1, none⟩ = some (.int .i64 a0_1) := (blk_cell BK104.out 1).trans rfl
    have hfz19_0 := blk_frozen BK104.out 0
    have hfz19_1 := blk_frozen BK104.out 1
    go_wp2_with (first | ((with_reducible refine gCa (f := 44) rfl ?_); refine goesL_ (some 29) rfl rfl Try.func44 uT rfl #[.agg #[.int .i64 a0_0, .int .i64 a0_1]] rfl uk ?_; (with_reducible refine (GRgen.ossuaryref1_Gen.calls kj2 a0_0 a0_1 t107 t110 _ A18.out).mono ?_); rintro e w20 ⟨v108, rfl, ho0, hb⟩; refine ⟨_, rfl, ?_⟩; have HO109 := mk0 (Kd.S_lower ho0 (below_size uX)); replace BK104 := bK BK104 hb; replace HB := mk0 (below_step uX hb); (try clear hb); (try clear hb2); (try clear hk); (try clear hi); (try clear ho0)) | ((with_reducible refine gate_dst (N := 6) rfl ?_); (try (refine gate_guard uW ?_; dsimp only)); refine box_event uW (N := 6) uW (cs := #[.slice none 0 0]) (t := 24) uL ?_; intro gb111 hg w21 hbox hb; replace HO109 := mk0 (Kd.S_below (sB HO109.out) hb); have BK111 := mk0 (hbox); have GW111 := mk0 (nB hg HB); have GE111 := mk0 (nB hg HB); replace HB := mk0 (below_step uX hb); have NB104_111 := mk0 (nF hg BK104.out); have NB111_104 := mk0 (nE hg BK104.out); replace BK104 := bK BK104 hb; clear hb hbox hg; obtain ⟨Ao22, co22, eo22⟩ := Kd.S_slice HO109.out; subst eo22; have hnb23 := NB111_104.out; have hnc23 := NB104_111.out; have hcz24_0 : w21.cell? ⟨gb111, 0, none⟩ = some (.slice none 0 0) := (blk_cell BK111.out 0).trans rfl; have hfz24_0 := blk_frozen BK111.out 0; have hcz25_0 : w21.cell? ⟨gb104, 0, none⟩ = some (.int .i64 a0_0) := (blk_cell BK104.out 0).trans rfl; have hcz25_1 : w21.cell? ⟨gb104, 1, none⟩ = some (.int .i64 a0_1) := (blk_cell BK104.out 1).trans rfl; have hfz25_0 := blk_frozen BK104.out 0; have hfz25_1 := blk_frozen BK104.out 1))
    go_loopg [8, 9] kj2 (fun kq v8 v9 w' => ∃ (x8_2 : List ByteArray) (x9_2 : Int), v9 = .int .i64 x9_2 ∧ Aside0 (ossuaryref1_Encode.l0 kq l1 x8_2 x9_2 a0_0 a0_1 t107 = some (r1, r2)) ∧ Aside0 (kq ≤ kj2) ∧ Aside0 (Kd.R Kd.string 9 w' w.heap.size (fun _ => True) v8 x8_2) ∧ Aside0 (Kd.S (Kd.slice 3 (Kd.int .i64)) 25 w' w.heap.size (fun _ => True) (.slice Ao22 t107.length co22) t107) ∧ Aside0 (w'.heap[gb104]? = some (.cells #[.int .i64 a0_0, .int .i64 a0_1] 51 (0, 0))) ∧ Aside0 (w'.heap[gb111]? = some (.cells #[(.slice Ao22 t107.length co22)] 24 (0, 0))) ∧ Aside0 (Below w.heap.size w w'))
    case atStart => exact ⟨(([] : List ByteArray)), (a0_0), uJ, H', ⟨Nat.le_refl _⟩, ⟨ui⟩, ⟨by (with_reducible repeat (first | apply sA | apply sN | apply sD)); exact Kd.S_mono (Kd.S_far (p := ⟨gb111, 0, none⟩) (Kd.S_types HO109.out BK111.out uZ) (fun _ hk => hk.2) (.slice Ao22 t107.length co22)) (fun _ hk => trivial)⟩, ⟨by refine bB ?_; refine blk_far ?_ NB104_111.out _; refine bB ?_; exact BK104.out⟩, ⟨uu⟩, ⟨uX⟩⟩
    case round =>
     clear H'
     try clear c1
     try clear c2
     try clear p2
     try clear c4
     try clear c6
     try clear c7
     try clear c7b0
     try clear c7b1
     try clear c17
     try clear c23
     try clear hcz11_0
     try clear hcz11_1
     try clear hcz12_0
     try clear hcz12_1
     try clear hcz14_0
     try clear hcz14_1
     try clear hcz15_0
     try clear hcz15_1
     try clear hcz19_0
     try clear hcz19_1
     try clear hcz24_0
     try clear hcz25_0
     try clear hcz25_1
     try clear hcz9_0
     try clear hcz9_1
     try clear hfz11_0
     try clear hfz11_1
     try clear hfz12_0
     try clear hfz12_1
     try clear hfz14_0
     try clear hfz14_1
     try clear hfz15_0
     try clear hfz15_1
     try clear hfz19_0
     try clear hfz19_1
     try clear hfz24_0
     try clear hfz25_0
     try clear hfz25_1
     try clear hfz9_0
     try clear hfz9_1
     try clear p2
     obtain ⟨x8_2, x9_2, rfl, HA, HK2, HO_8, HO_112000, BK104, BK111, HB⟩ := hrel
     cases gk with
     | zero => exact absurd HA.out (by simp [ossuaryref1_Encode.l0])
     | succ k2 =>
      have H := HA.out
      clear HA
      simp only [ossuaryref1_Encode.l0] at H
      by_cases c26 : x9_2 < (wrap64 (a0_0 + a0_1))
      ·rw [if_pos c26] at H
       have c26b0 : decide (x9_2 < (wrap64 (a0_0 + a0_1))) = true := decide_eq_true c26
       clear c26
       by_cases c27 : 0 ≤ x9_2
       ·rw [if_pos c27] at H
        have c27b0 : decide (0 ≤ x9_2) = true := decide_eq_true c27
        clear c27
        by_cases c28 : x9_2 < (t107.length : Int)
        ·rw [if_pos c28] at H
         have c28b0 : decide (x9_2 < (t107.length : Int)) = true := decide_eq_true c28
         clear c28
         replace H := Option.bind_eq_some_iff.mp H
         obtain ⟨⟨t113, t114⟩, A290, H⟩ := H
         replace H : (if x8_2.length < 8796093022208 then (ossuaryref1_Encode.l0 k2 l1 (x8_2 ++ [t113]) (wrap64 (x9_2 + 1)) a0_0 a0_1 t107) else (none)) = some (r1, r2) := H
         have A29 := mk0 A290
         clear A290
         by_cases c30 : x8_2.length < 8796093022208
         ·rw [if_pos c30] at H
          have LMc30 := mk0 c30
          clear c30
          obtain ⟨y115, hy115⟩ : ∃ y_ : List ByteArray, y_ = (x8_2 ++ [t113]) := ⟨_, rfl⟩
          replace H : (ossuaryref1_Encode.l0 k2 l1 y115 (wrap64 (x9_2 + 1)) a0_0 a0_1 t107) = some (r1, r2) := by first | (rw [hy115]; with_reducible exact H) | (have H2_ := (Option.bind_some _ _).symm.trans H; rw [hy115]; with_reducible exact H2_) | (have H2_ := (Option.bind_some _ _).symm.trans H; with_reducible exact H2_) | with_reducible exact H | (rw [hy115]; exact H) | exact H
          have Ny115 := mk0 hy115
          clear hy115
          have H' := mk0 H
          clear H
          have hnb31 := NB104_111.out
          have hnc31 := NB111_104.out
          have hcz32_0 : wr.cell? ⟨gb104, 0, none⟩ = some (.int .i64 a0_0) := (blk_cell BK104.out 0).trans rfl
          have hcz32_1 : wr.cell? ⟨gb104, 1, none⟩ = some (.int .i64 a0_1) := (blk_cell BK104.out 1).trans rfl
          have hfz32_0 := blk_frozen BK104.out 0
          have hfz32_1 := blk_frozen BK104.out 1
          have hcz33_0 : wr.cell? ⟨gb111, 0, none⟩ = some (.slice Ao22 t107.length co22) := (blk_cell BK111.out 0).trans rfl
          have hfz33_0 := blk_frozen BK111.out 0
          have p112 : 0 ≤ (x9_2 : Int) := of_decide_eq_true uI
          have q112 : x9_2 < (t107.length : Int) := of_decide_eq_true uI
          obtain ⟨ad112, A112_0, c112_0, e112, hx112_0, hl112_0, hi112_0⟩ := at_L1 (Kd.S_reads' HO_112000.out).2.2 x9_2 p112 q112
          cases e112
          obtain ⟨ce112, hce112, hMe112, hcc112⟩ := Kd.S_get HO_112000.out [] x9_2 p112 (by first | exact q112 | exact of_decide_eq_true uI | (have e_ := (Kd.S_reads' HO_112000.out).1; omega))
          obtain ⟨ve112_0, rfl, ge112_0⟩ := hMe112
          have hv112_0 := hcc112 0 _ rfl
          rw [Nat.add_zero, show ((Kd.slice 3 (Kd.int .i64))).sz = 1 from rfl, Nat.mul_one] at hv112_0
          replace hv112_0 := Option.some.inj (hv112_0.symm.trans hx112_0)
          rw [hv112_0] at ge112_0
          have HL112_0 := mk0 (show Kd.R (Kd.int .i64) 3 _ _ _ _ (rd_L1 t107 x9_2) from ge112_0)
          clear hv112_0 ge112_0 hcc112 hce112
          have HR112_0 := mk0 hi112_0
          have HC112_0 := mk0 hl112_0
          clear hi112_0 hl112_0
          replace p112 := eq_true p112
          replace q112 := eq_true q112
          go_wp2_with (first | ((with_reducible refine gCa (f := 58) rfl ?_); refine goesL_ (some 50) rfl rfl Try.func58 uT rfl #[.slice A112_0 (rd_L1 t107 x9_2).length c112_0, .slice A1 l1.length c1] rfl uk ?_; (with_reducible refine (GRef.ossuaryref1_Combine.calls k2 _ _ (rd_L1 t107 x9_2) _ _ l1 t113 t114 _ ?side1 ?side2 ?side3 ?side4 A29.out).mono ?_); (case side1 => repeat (first | exact (by repeat (first | (with_reducible exact HR112_0.out) | (with_reducible refine Kd.C_alloc ?_ _) | (with_reducible refine Kd.C_drewN ?_ _) | (with_reducible refine Kd.C_drew ?_) | exact HR112_0.out)) | (with_reducible refine Kd.C_alloc ?_ _) | (with_reducible refine Kd.C_drewN ?_ _) | (with_reducible refine Kd.C_drew ?_))); (case side2 => exact HC112_0.out); (case side3 => exact cB (Kd.C_below HR1.out HB.out)); (case side4 => exact HC1.out); rintro e w34 ⟨rfl, hb⟩; refine ⟨_, rfl, ?_⟩; replace HO_8 := mk0 (Kd.R_below (rB HO_8.out) hb); replace HO_112000 := mk0 (Kd.S_below (sB HO_112000.out) hb); replace HL112_0 := mk0 (Kd.R_below (rB HL112_0.out) hb); replace BK104 := bK BK104 hb; replace BK111 := bK BK111 hb; replace HR112_0 := mk0 (Kd.C_below (by repeat (first | (with_reducible exact HR112_0.out) | (with_reducible refine Kd.C_alloc ?_ _) | (with_reducible refine Kd.C_drewN ?_ _) | (with_reducible refine Kd.C_drew ?_) | exact HR112_0.out)) hb); replace HB := mk0 (below_step uX hb); (try clear hb); (try clear hk)) | ((with_reducible refine gBu (b := .append) (xs := #[.tmp 53, .tmp 55]) rfl ?_); (try (refine gate_guard uW ?_; dsimp only)); at_builtin; refine Kd.R_append Kd.string (w0 := w) w.heap.size rfl (.tmp 53) (.tmp 55) 58 9 (.string ⟨#[]⟩) 16 rfl Try.underlying58 info9 rfl uZ uV u8 x8_2 t113 [.string t113] (fun _ => True) (fun _ => False) rfl rfl ?aP (fun _ hk => hk.elim) ?aF ?aO ?aB ?aS ?aL ?_; (case aP => exact rfl); (case aB => exact uX); (case aF => exact (fun _ _ => trivial)); (case aO => exact (rB HO_8.out)); (case aS => exact (below_size uX)); (case aL => have := LMc30.out; omega); intro v116 w35 ho hb hg hat; rw [← Ny115.out] at ho; replace HO_112000 := mk0 (Kd.S_over' (sB HO_112000.out) (Kd.R_typed (rB HO_8.out)) uZ hg); replace BK104 := mk0 (blk_grown (g := gb104) (o := .cells #[.int .i64 a0_0, .int .i64 a0_1] 51 (0, 0)) (bB BK104.out) hg (Kd.R_ne HO_8.out BK104.out uZ)); replace BK111 := mk0 (blk_grown (g := gb111) (o := .cells #[.slice (some ad112) t107.length co22] 24 (0, 0)) (bB BK111.out) hg (Kd.R_ne HO_8.out BK111.out uZ)); replace HL112_0 := mk0 (Kd.R_over' (rB HL112_0.out) (Kd.R_typed (rB HO_8.out)) uZ hg); replace HB := mk0 (hb); have HO117 := mk0 (ho); clear HO_8; clear ho hb hg hat))
          go_roundg k2
          case measure => have := HJ2.out; have := HK2.out; omega
          case rel => exact ⟨(y115), (wrap64 (x9_2 + 1)), uJ, H', ⟨uN⟩, ⟨rB HO117.out⟩, ⟨sB HO_112000.out⟩, ⟨bB BK104.out⟩, ⟨bB BK111.out⟩, ⟨uX⟩⟩
         ·rw [if_neg c30] at H
          exact absurd H qa
        ·rw [if_neg c28] at H
         exact absurd H qa
       ·rw [if_neg c27] at H
        exact absurd H qa
      ·rw [if_neg c26] at H
       have c26b0 : decide (x9_2 < (wrap64 (a0_0 + a0_1))) = false := decide_eq_false c26
       clear c26
       simp only [Option.some.injEq, Prod.mk.injEq] at H
       obtain ⟨rfl, rfl⟩ := H
       have hnb36 := NB104_111.out
       have hnc36 := NB111_104.out
       have hcz37_0 : wr.cell? ⟨gb104, 0, none⟩ = some (.int .i64 a0_0) := (blk_cell BK104.out 0).trans rfl
       have hcz37_1 : wr.cell? ⟨gb104, 1, none⟩ = some (.int .i64 a0_1) := (blk_cell BK104.out 1).trans rfl
       have hfz37_0 := blk_frozen BK104.out 0
       have hfz37_1 := blk_frozen BK104.out 1
       go_wp2
       go_ret2
       exact ⟨_, uz, rB HO_8.out, uX⟩
end Go.Proofs.Ytaahnicjjpddjaa.GRenc
end
