/- Functions of the program as Lean functions, each with a proof that its call comes to what the function says. No condition. -/
import Derived.Test.YtaahnicjjpddjaaKRebuildCodeGRebuildCode0
namespace Go.Proofs.Ytaahnicjjpddjaa.GRebuildCode
open Go.Proofs.Ytaahnicjjpddjaa.Fn
open Go.Proofs.Ytaahnicjjpddjaa
open Go.RowKit Go.Proofs.YtaahnicjjpddjaaW.PrintWords Go.Proofs.YtaahnicjjpddjaaW.PrintLast
set_option linter.unusedVariables false
set_option linter.unusedSimpArgs false
noncomputable def ossuarylaw8_awake.f (k : Nat)  : Option (Bool) := (GEnc.rebuild_Rebuild.f k 2 1 (([(⟨#[97]⟩ : ByteArray), (⟨#[]⟩ : ByteArray), (⟨#[103]⟩ : ByteArray)] : List ByteArray)) (([true, false, true] : List Bool))).bind fun bt113 => ((GEnc.rebuild_Rebuild.f k 2 1 (([(⟨#[97]⟩ : ByteArray), (⟨#[]⟩ : ByteArray), (⟨#[]⟩ : ByteArray)] : List ByteArray)) (([true, false, false] : List Bool))).bind fun bt123 => ((GEnc.rebuild_Rebuild.f k 2 1 ([] : List ByteArray) ([] : List Bool)).bind fun bt127 => ((GVec.ossuarylaw0_SameTexts.f k bt113.1 (([(⟨#[97]⟩ : ByteArray), (⟨#[98]⟩ : ByteArray), (⟨#[103]⟩ : ByteArray)] : List ByteArray))).bind fun t134 => (if t134 = true then ((GBase.ossuarylaw0_Num.f bt113.2).bind fun t135 => (if t135 = 0 then ((GBase.ossuarylaw0_Num.f bt123.2).bind fun t136 => (if t136 = 801 then ((GBase.ossuarylaw0_Num.f bt127.2).bind fun t137 => (some (t137 == 800))) else (some false))) else (some false))) else (some false)))))
theorem ossuarylaw8_awake.mono : ∀ k, LeO (ossuarylaw8_awake.f k ) (ossuarylaw8_awake.f (k + 1) ) := by
 intro  k
 unfold ossuarylaw8_awake.f
 repeat' with_reducible first | exact GEnc.rebuild_Rebuild.mono _ _ _ _ _ | exact GVec.ossuarylaw0_SameTexts.mono _ _ _ | exact LeO.refl _ | exact LeO.none _ | refine LeO.ite ?_ ?_ | refine LeO.bind ?_ (fun _ => ?_)
set_option maxHeartbeats 8000000 in
set_option maxRecDepth 100000 in
theorem ossuarylaw8_awake.calls (k : Nat)  (r : Bool) (w : World) (h : ossuarylaw8_awake.f k  = some r) (hT : r = true := by rfl) :
  Calls Try.prog 61 #[] w fun e w' => e = .returned (.bool r) ∧ Below w.heap.size w w' := by
 have HTrue := mk0 hT
 clear hT
 have hu51 := Try.underlying51
 have HB := mk0 (Below.refl w.heap.size w)
 have H : ((GEnc.rebuild_Rebuild.f k 2 1 (([(⟨#[97]⟩ : ByteArray), (⟨#[]⟩ : ByteArray), (⟨#[103]⟩ : ByteArray)] : List ByteArray)) (([true, false, true] : List Bool))).bind fun bt113 => ((GEnc.rebuild_Rebuild.f k 2 1 (([(⟨#[97]⟩ : ByteArray), (⟨#[]⟩ : ByteArray), (⟨#[]⟩ : ByteArray)] : List ByteArray)) (([true, false, false] : List Bool))).bind fun bt123 => ((GEnc.rebuild_Rebuild.f k 2 1 ([] : List ByteArray) ([] : List Bool)).bind fun bt127 => ((GVec.ossuarylaw0_SameTexts.f k bt113.1 (([(⟨#[97]⟩ : ByteArray), (⟨#[98]⟩ : ByteArray), (⟨#[103]⟩ : ByteArray)] : List ByteArray))).bind fun t134 => (if t134 = true then ((GBase.ossuarylaw0_Num.f bt113.2).bind fun t135 => (if t135 = 0 then ((GBase.ossuarylaw0_Num.f bt123.2).bind fun t136 => (if t136 = 801 then ((GBase.ossuarylaw0_Num.f bt127.2).bind fun t137 => (some (t137 == 800))) else (some false))) else (some false))) else (some false)))))) = some r := h
 clear h
 obtain ⟨y107, hy107⟩ : ∃ y_ : List ByteArray, y_ = (([(⟨#[97]⟩ : ByteArray), (⟨#[]⟩ : ByteArray), (⟨#[103]⟩ : ByteArray)] : List ByteArray)) := ⟨_, rfl⟩
 replace H : ((GEnc.rebuild_Rebuild.f k 2 1 y107 (([true, false, true] : List Bool))).bind fun bt113 => ((GEnc.rebuild_Rebuild.f k 2 1 (([(⟨#[97]⟩ : ByteArray), (⟨#[]⟩ : ByteArray), (⟨#[]⟩ : ByteArray)] : List ByteArray)) (([true, false, false] : List Bool))).bind fun bt123 => ((GEnc.rebuild_Rebuild.f k 2 1 ([] : List ByteArray) ([] : List Bool)).bind fun bt127 => ((GVec.ossuarylaw0_SameTexts.f k bt113.1 (([(⟨#[97]⟩ : ByteArray), (⟨#[98]⟩ : ByteArray), (⟨#[103]⟩ : ByteArray)] : List ByteArray))).bind fun t134 => (if t134 = true then ((GBase.ossuarylaw0_Num.f bt113.2).bind fun t135 => (if t135 = 0 then ((GBase.ossuarylaw0_Num.f bt123.2).bind fun t136 => (if t136 = 801 then ((GBase.ossuarylaw0_Num.f bt127.2).bind fun t137 => (some (t137 == 800))) else (some false))) else (some false))) else (some false)))))) = some r := by first | (rw [hy107]; with_reducible exact H) | (have H2_ := (Option.bind_some _ _).symm.trans H; rw [hy107]; with_reducible exact H2_) | (have H2_ := (Option.bind_some _ _).symm.trans H; with_reducible exact H2_) | with_reducible exact H | (rw [hy107]; exact H) | exact H
 have Ny107 := mk0 hy107
 clear hy107
 obtain ⟨y110, hy110⟩ : ∃ y_ : List Bool, y_ = (([true, false, true] : List Bool)) := ⟨_, rfl⟩
 replace H : ((GEnc.rebuild_Rebuild.f k 2 1 y107 y110).bind fun bt113 => ((GEnc.rebuild_Rebuild.f k 2 1 (([(⟨#[97]⟩ : ByteArray), (⟨#[]⟩ : ByteArray), (⟨#[]⟩ : ByteArray)] : List ByteArray)) (([true, false, false] : List Bool))).bind fun bt123 => ((GEnc.rebuild_Rebuild.f k 2 1 ([] : List ByteArray) ([] : List Bool)).bind fun bt127 => ((GVec.ossuarylaw0_SameTexts.f k bt113.1 (([(⟨#[97]⟩ : ByteArray), (⟨#[98]⟩ : ByteArray), (⟨#[103]⟩ : ByteArray)] : List ByteArray))).bind fun t134 => (if t134 = true then ((GBase.ossuarylaw0_Num.f bt113.2).bind fun t135 => (if t135 = 0 then ((GBase.ossuarylaw0_Num.f bt123.2).bind fun t136 => (if t136 = 801 then ((GBase.ossuarylaw0_Num.f bt127.2).bind fun t137 => (some (t137 == 800))) else (some false))) else (some false))) else (some false)))))) = some r := by first | (rw [hy110]; with_reducible exact H) | (have H2_ := (Option.bind_some _ _).symm.trans H; rw [hy110]; with_reducible exact H2_) | (have H2_ := (Option.bind_some _ _).symm.trans H; with_reducible exact H2_) | with_reducible exact H | (rw [hy110]; exact H) | exact H
 have Ny110 := mk0 hy110
 clear hy110
 replace H := Option.bind_eq_some_iff.mp H
 obtain ⟨⟨t113, t116⟩, A10, H⟩ := H
 replace H : ((GEnc.rebuild_Rebuild.f k 2 1 (([(⟨#[97]⟩ : ByteArray), (⟨#[]⟩ : ByteArray), (⟨#[]⟩ : ByteArray)] : List ByteArray)) (([true, false, false] : List Bool))).bind fun bt123 => ((GEnc.rebuild_Rebuild.f k 2 1 ([] : List ByteArray) ([] : List Bool)).bind fun bt127 => ((GVec.ossuarylaw0_SameTexts.f k t113 (([(⟨#[97]⟩ : ByteArray), (⟨#[98]⟩ : ByteArray), (⟨#[103]⟩ : ByteArray)] : List ByteArray))).bind fun t134 => (if t134 = true then ((GBase.ossuarylaw0_Num.f t116).bind fun t135 => (if t135 = 0 then ((GBase.ossuarylaw0_Num.f bt123.2).bind fun t136 => (if t136 = 801 then ((GBase.ossuarylaw0_Num.f bt127.2).bind fun t137 => (some (t137 == 800))) else (some false))) else (some false))) else (some false))))) = some r := H
 have A1 := mk0 A10
 clear A10
 obtain ⟨y117, hy117⟩ : ∃ y_ : List ByteArray, y_ = (([(⟨#[97]⟩ : ByteArray), (⟨#[]⟩ : ByteArray), (⟨#[]⟩ : ByteArray)] : List ByteArray)) := ⟨_, rfl⟩
 replace H : ((GEnc.rebuild_Rebuild.f k 2 1 y117 (([true, false, false] : List Bool))).bind fun bt123 => ((GEnc.rebuild_Rebuild.f k 2 1 ([] : List ByteArray) ([] : List Bool)).bind fun bt127 => ((GVec.ossuarylaw0_SameTexts.f k t113 (([(⟨#[97]⟩ : ByteArray), (⟨#[98]⟩ : ByteArray), (⟨#[103]⟩ : ByteArray)] : List ByteArray))).bind fun t134 => (if t134 = true then ((GBase.ossuarylaw0_Num.f t116).bind fun t135 => (if t135 = 0 then ((GBase.ossuarylaw0_Num.f bt123.2).bind fun t136 => (if t136 = 801 then ((GBase.ossuarylaw0_Num.f bt127.2).bind fun t137 => (some (t137 == 800))) else (some false))) else (some false))) else (some false))))) = some r := by first | (rw [hy117]; with_reducible exact H) | (have H2_ := (Option.bind_some _ _).symm.trans H; rw [hy117]; with_reducible exact H2_) | (have H2_ := (Option.bind_some _ _).symm.trans H; with_reducible exact H2_) | with_reducible exact H | (rw [hy117]; exact H) | exact H
 have Ny117 := mk0 hy117
 clear hy117
 obtain ⟨y120, hy120⟩ : ∃ y_ : List Bool, y_ = (([true, false, false] : List Bool)) := ⟨_, rfl⟩
 replace H : ((GEnc.rebuild_Rebuild.f k 2 1 y117 y120).bind fun bt123 => ((GEnc.rebuild_Rebuild.f k 2 1 ([] : List ByteArray) ([] : List Bool)).bind fun bt127 => ((GVec.ossuarylaw0_SameTexts.f k t113 (([(⟨#[97]⟩ : ByteArray), (⟨#[98]⟩ : ByteArray), (⟨#[103]⟩ : ByteArray)] : List ByteArray))).bind fun t134 => (if t134 = true then ((GBase.ossuarylaw0_Num.f t116).bind fun t135 => (if t135 = 0 then ((GBase.ossuarylaw0_Num.f bt123.2).bind fun t136 => (if t136 = 801 then ((GBase.ossuarylaw0_Num.f bt127.2).bind fun t137 => (some (t137 == 800))) else (some false))) else (some false))) else (some false))))) = some r := by first | (rw [hy120]; with_reducible exact H) | (have H2_ := (Option.bind_some _ _).symm.trans H; rw [hy120]; with_reducible exact H2_) | (have H2_ := (Option.bind_some _ _).symm.trans H; with_reducible exact H2_) | with_reducible exact H | (rw [hy120]; exact H) | exact H
 have Ny120 := mk0 hy120
 clear hy120
 replace H := Option.bind_eq_some_iff.mp H
 obtain ⟨⟨t123, t126⟩, A20, H⟩ := H
 replace H : ((GEnc.rebuild_Rebuild.f k 2 1 ([] : List ByteArray) ([] : List Bool)).bind fun bt127 => ((GVec.ossuarylaw0_SameTexts.f k t113 (([(⟨#[97]⟩ : ByteArray), (⟨#[98]⟩ : ByteArray), (⟨#[103]⟩ : ByteArray)] : List ByteArray))).bind fun t134 => (if t134 = true then ((GBase.ossuarylaw0_Num.f t116).bind fun t135 => (if t135 = 0 then ((GBase.ossuarylaw0_Num.f t126).bind fun t136 => (if t136 = 801 then ((GBase.ossuarylaw0_Num.f bt127.2).bind fun t137 => (some (t137 == 800))) else (some false))) else (some false))) else (some false)))) = some r := H
 have A2 := mk0 A20
 clear A20
 replace H := Option.bind_eq_some_iff.mp H
 obtain ⟨⟨t127, t130⟩, A30, H⟩ := H
 replace H : ((GVec.ossuarylaw0_SameTexts.f k t113 (([(⟨#[97]⟩ : ByteArray), (⟨#[98]⟩ : ByteArray), (⟨#[103]⟩ : ByteArray)] : List ByteArray))).bind fun t134 => (if t134 = true then ((GBase.ossuarylaw0_Num.f t116).bind fun t135 => (if t135 = 0 then ((GBase.ossuarylaw0_Num.f t126).bind fun t136 => (if t136 = 801 then ((GBase.ossuarylaw0_Num.f t130).bind fun t137 => (some (t137 == 800))) else (some false))) else (some false))) else (some false))) = some r := H
 have A3 := mk0 A30
 clear A30
 obtain ⟨y131, hy131⟩ : ∃ y_ : List ByteArray, y_ = (([(⟨#[97]⟩ : ByteArray), (⟨#[98]⟩ : ByteArray), (⟨#[103]⟩ : ByteArray)] : List ByteArray)) := ⟨_, rfl⟩
 replace H : ((GVec.ossuarylaw0_SameTexts.f k t113 y131).bind fun t134 => (if t134 = true then ((GBase.ossuarylaw0_Num.f t116).bind fun t135 => (if t135 = 0 then ((GBase.ossuarylaw0_Num.f t126).bind fun t136 => (if t136 = 801 then ((GBase.ossuarylaw0_Num.f t130).bind fun t137 => (some (t137 == 800))) else (some false))) else (some false))) else (some false))) = some r := by first | (rw [hy131]; with_reducible exact H) | (have H2_ := (Option.bind_some _ _).symm.trans H; rw [hy131]; with_reducible exact H2_) | (have H2_ := (Option.bind_some _ _).symm.trans H; with_reducible exact H2_) | with_reducible exact H | (rw [hy131]; exact H) | exact H
 have Ny131 := mk0 hy131
 clear hy131
 replace H := Option.bind_eq_some_iff.mp H
 obtain ⟨t134, A40, H⟩ := H
 replace H : (if t134 = true then ((GBase.ossuarylaw0_Num.f t116).bind fun t135 => (if t135 = 0 then ((GBase.ossuarylaw0_Num.f t126).bind fun t136 => (if t136 = 801 then ((GBase.ossuarylaw0_Num.f t130).bind fun t137 => (some (t137 == 800))) else (some false))) else (some false))) else (some false)) = some r := H
 have A4 := mk0 A40
 clear A40
 by_cases c5 : t134 = true
 ·subst c5
  have H1 : ((GBase.ossuarylaw0_Num.f t116).bind fun t135 => (if t135 = 0 then ((GBase.ossuarylaw0_Num.f t126).bind fun t136 => (if t136 = 801 then ((GBase.ossuarylaw0_Num.f t130).bind fun t137 => (some (t137 == 800))) else (some false))) else (some false))) = some r := by rw [if_pos rfl] at H; exact H
  clear H
  have H := H1
  clear H1
  replace H := Option.bind_eq_some_iff.mp H
  obtain ⟨t135, A60, H⟩ := H
  replace H : (if t135 = 0 then ((GBase.ossuarylaw0_Num.f t126).bind fun t136 => (if t136 = 801 then ((GBase.ossuarylaw0_Num.f t130).bind fun t137 => (some (t137 == 800))) else (some false))) else (some false)) = some r := H
  have A6 := mk0 A60
  clear A60
  by_cases c7 : t135 = 0
  ·rw [if_pos c7] at H
   have c7b0 : (t135 == 0) = true := beq_iff_eq.mpr c7
   have c7b1 : (t135 != 0) = false := bne_eq_false_iff_eq.mpr c7
   clear c7
   replace H := Option.bind_eq_some_iff.mp H
   obtain ⟨t136, A80, H⟩ := H
   replace H : (if t136 = 801 then ((GBase.ossuarylaw0_Num.f t130).bind fun t137 => (some (t137 == 800))) else (some false)) = some r := H
   have A8 := mk0 A80
   clear A80
   by_cases c9 : t136 = 801
   ·rw [if_pos c9] at H
    have c9b0 : (t136 == 801) = true := beq_iff_eq.mpr c9
    have c9b1 : (t136 != 801) = false := bne_eq_false_iff_eq.mpr c9
    clear c9
    replace H := Option.bind_eq_some_iff.mp H
    obtain ⟨t137, A100, H⟩ := H
    replace H : (some (t137 == 800)) = some r := H
    have A10 := mk0 A100
    clear A100
    obtain rfl := Option.some.inj H
    go_enter Try.func61, Try.ntmps61
    go_wp2_with (first | ((with_reducible refine gate_dst (N := 1) rfl ?_); refine box_event uV (N := 1) uV (cs := #[.int .i64 0, .int .i64 0]) (t := 51) uK ?_; intro gb106 hg w11 hbox hb; have BK106 := mk0 (hbox); have GW106 := mk0 (nB hg HB); have GE106 := mk0 (nB hg HB); replace HB := mk0 (below_step us hb); clear hb hbox hg; have hcz12_0 : w11.cell? ⟨gb106, 0, none⟩ = some (.int .i64 0) := (blk_cell BK106.out 0).trans rfl; have hcz12_1 : w11.cell? ⟨gb106, 1, none⟩ = some (.int .i64 0) := (blk_cell BK106.out 1).trans rfl; have hfz12_0 := blk_frozen BK106.out 0; have hfz12_1 := blk_frozen BK106.out 1) | ((with_reducible refine gate_dst (N := 11) rfl ?_); refine Kd.R_lit Kd.string _ 9 ?hg (N := 11) ?hd (xs := ([(⟨#[97]⟩ : ByteArray), (⟨#[]⟩ : ByteArray), (⟨#[103]⟩ : ByteArray)] : List ByteArray)) (inner := [.string (⟨#[97]⟩ : ByteArray), .string (⟨#[]⟩ : ByteArray), .string (⟨#[103]⟩ : ByteArray)]) (ok := fun _ => True) (okp := fun _ => True) ?hr ?hp (fun _ hk => hk) trivial (Below.refl _ _) (Nat.le_refl _) uZ ?_; (case hd => rfl); (case hg => rfl); (case hr => first | (go_simp; done) | (go_simp; rfl)); (case hp => exact (Reps.one (show Kd.M Kd.string _ _ _ (⟨#[97]⟩ : ByteArray) [.string (⟨#[97]⟩ : ByteArray)] from rfl) (Reps.one (show Kd.M Kd.string _ _ _ (⟨#[]⟩ : ByteArray) [.string (⟨#[]⟩ : ByteArray)] from rfl) (Reps.one (show Kd.M Kd.string _ _ _ (⟨#[103]⟩ : ByteArray) [.string (⟨#[103]⟩ : ByteArray)] from rfl) (Reps.none _ _))))); intro v108 w13 ho14 hb hg_ hnew_; clear hg_ hnew_; (first | rw [← Ny107.out] at ho14 | (simp only [Int.reduceToNat] at ho14; rw [← Ny107.out] at ho14)); have HO109 := mk0 (Kd.R_lower ho14 (below_size uW)); replace BK106 := mk0 (blk_below (g := gb106) (o := .cells #[.int .i64 2, .int .i64 1] 51 (0, 0)) (by refine bB ?_; refine blk_put (cs := #[.int .i64 2, .int .i64 0]) ?_ 1 _ rfl; refine bB ?_; refine blk_put (cs := #[.int .i64 0, .int .i64 0]) ?_ 0 _ rfl; refine bB ?_; exact BK106.out) hb); replace HB := mk0 (below_step uW hb); clear hb ho14) | ((with_reducible refine gate_dst (N := 12) rfl ?_); refine Kd.R_lit Kd.bool _ 4 ?hg (N := 12) ?hd (xs := ([true, false, true] : List Bool)) (inner := [.bool true, .bool false, .bool true]) (ok := fun _ => True) (okp := fun _ => True) ?hr ?hp (fun _ hk => hk) trivial (Below.refl _ _) (Nat.le_refl _) uZ ?_; (case hd => rfl); (case hg => rfl); (case hr => first | (go_simp; done) | (go_simp; rfl)); (case hp => exact (Reps.one (show Kd.M Kd.bool _ _ _ true [.bool true] from rfl) (Reps.one (show Kd.M Kd.bool _ _ _ false [.bool false] from rfl) (Reps.one (show Kd.M Kd.bool _ _ _ true [.bool true] from rfl) (Reps.none _ _))))); intro v111 w15 ho16 hb hg_ hnew_; clear hg_ hnew_; (first | rw [← Ny110.out] at ho16 | (simp only [Int.reduceToNat] at ho16; rw [← Ny110.out] at ho16)); replace HO109 := mk0 (Kd.R_below (rB HO109.out) hb); have HO112 := mk0 (Kd.R_lower ho16 (below_size uW)); replace BK106 := bK BK106 hb; replace HB := mk0 (below_step uW hb); clear hb ho16; obtain ⟨Ao17, co17, eo17⟩ := Kd.R_slice HO109.out; subst eo17; obtain ⟨Ao18, co18, eo18⟩ := Kd.R_slice HO112.out; subst eo18) | ((with_reducible refine gCa (f := 59) rfl ?_); refine goesL_ (some 13) rfl rfl Try.func59 uS rfl #[.agg #[.int .i64 2, .int .i64 1], .slice Ao17 y107.length co17, .slice Ao18 y110.length co18] rfl uj ?_; (with_reducible refine (GEnc.rebuild_Rebuild.calls k 2 1 _ _ y107 _ _ y110 t113 t116 _ ?side1 ?side2 ?side3 ?side4 A1.out).mono ?_); (case side1 => exact cB (Kd.R_reads' HO109.out).2.2); (case side2 => exact (Kd.R_reads' HO109.out).2.1); (case side3 => exact cB (Kd.R_reads' HO112.out).2.2); (case side4 => exact (Kd.R_reads' HO112.out).2.1); rintro e w19 ⟨v114, rfl, ho0, hb⟩; refine ⟨_, rfl, ?_⟩; replace HO112 := mk0 (Kd.R_below (rB HO112.out) hb); have HO115 := mk0 (Kd.R_lower (Kd.R_new' ho0 (Kd.R_lt (rB HO109.out))) (below_size uW)); replace HO109 := mk0 (Kd.R_elder' (rB HO109.out) (Kd.R_base ho0) hb); replace BK106 := bK BK106 hb; replace HB := mk0 (below_step uW hb); (try clear hb); (try clear hb2); (try clear hk); (try clear hi); (try clear ho0); have hcz20_0 : w19.cell? ⟨gb106, 0, none⟩ = some (.int .i64 2) := (blk_cell BK106.out 0).trans rfl; have hcz20_1 : w19.cell? ⟨gb106, 1, none⟩ = some (.int .i64 1) := (blk_cell BK106.out 1).trans rfl; have hfz20_0 := blk_frozen BK106.out 0; have hfz20_1 := blk_frozen BK106.out 1) | ((with_reducible refine gate_dst (N := 18) rfl ?_); refine Kd.R_lit Kd.string _ 9 ?hg (N := 18) ?hd (xs := ([(⟨#[97]⟩ : ByteArray), (⟨#[]⟩ : ByteArray), (⟨#[]⟩ : ByteArray)] : List ByteArray)) (inner := [.string (⟨#[97]⟩ : ByteArray), .string (⟨#[]⟩ : ByteArray), .string (⟨#[]⟩ : ByteArray)]) (ok := fun _ => True) (okp := fun _ => True) ?hr ?hp (fun _ hk => hk) trivial (Below.refl _ _) (Nat.le_refl _) uZ ?_; (case hd => rfl); (case hg => rfl); (case hr => first | (go_simp; done) | (go_simp; rfl)); (case hp => exact (Reps.one (show Kd.M Kd.string _ _ _ (⟨#[97]⟩ : ByteArray) [.string (⟨#[97]⟩ : ByteArray)] from rfl) (Reps.one (show Kd.M Kd.string _ _ _ (⟨#[]⟩ : ByteArray) [.string (⟨#[]⟩ : ByteArray)] from rfl) (Reps.one (show Kd.M Kd.string _ _ _ (⟨#[]⟩ : ByteArray) [.string (⟨#[]⟩ : ByteArray)] from rfl) (Reps.none _ _))))); intro v118 w21 ho22 hb hg_ hnew_; clear hg_ hnew_; (first | rw [← Ny117.out] at ho22 | (simp only [Int.reduceToNat] at ho22; rw [← Ny117.out] at ho22)); replace HO112 := mk0 (Kd.R_below (rB HO112.out) hb); have HO119 := mk0 (Kd.R_lower (Kd.R_new' (Kd.R_new' ho22 (Kd.R_lt (rB HO109.out))) (Kd.R_lt (rB HO115.out))) (below_size uW)); replace HO109 := mk0 (Kd.R_elder' (rB HO109.out) (Kd.R_base ho22) hb); replace HO115 := mk0 (Kd.R_elder' (rB HO115.out) (Kd.R_base ho22) hb); replace BK106 := bK BK106 hb; replace HB := mk0 (below_step uW hb); clear hb ho22) | ((with_reducible refine gate_dst (N := 19) rfl ?_); refine Kd.R_lit Kd.bool _ 4 ?hg (N := 19) ?hd (xs := ([true, false, false] : List Bool)) (inner := [.bool true, .bool false, .bool false]) (ok := fun _ => True) (okp := fun _ => True) ?hr ?hp (fun _ hk => hk) trivial (Below.refl _ _) (Nat.le_refl _) uZ ?_; (case hd => rfl); (case hg => rfl); (case hr => first | (go_simp; done) | (go_simp; rfl)); (case hp => exact (Reps.one (show Kd.M Kd.bool _ _ _ true [.bool true] from rfl) (Reps.one (show Kd.M Kd.bool _ _ _ false [.bool false] from rfl) (Reps.one (show Kd.M Kd.bool _ _ _ false [.bool false] from rfl) (Reps.none _ _))))); intro v121 w23 ho24 hb hg_ hnew_; clear hg_ hnew_; (first | rw [← Ny120.out] at ho24 | (simp only [Int.reduceToNat] at ho24; rw [← Ny120.out] at ho24)); replace HO109 := mk0 (Kd.R_below (rB HO109.out) hb); replace HO115 := mk0 (Kd.R_below (rB HO115.out) hb); replace HO119 := mk0 (Kd.R_below (rB HO119.out) hb); have HO122 := mk0 (Kd.R_lower (Kd.R_new' ho24 (Kd.R_lt (rB HO112.out))) (below_size uW)); replace HO112 := mk0 (Kd.R_elder' (rB HO112.out) (Kd.R_base ho24) hb); replace BK106 := bK BK106 hb; replace HB := mk0 (below_step uW hb); clear hb ho24; obtain ⟨Ao25, co25, eo25⟩ := Kd.R_slice HO119.out; subst eo25; obtain ⟨Ao26, co26, eo26⟩ := Kd.R_slice HO122.out; subst eo26) | ((with_reducible refine gCa (f := 59) rfl ?_); refine goesL_ (some 20) rfl rfl Try.func59 uS rfl #[.agg #[.int .i64 2, .int .i64 1], .slice Ao25 y117.length co25, .slice Ao26 y120.length co26] rfl uj ?_; (with_reducible refine (GEnc.rebuild_Rebuild.calls k 2 1 _ _ y117 _ _ y120 t123 t126 _ ?side1 ?side2 ?side3 ?side4 A2.out).mono ?_); (case side1 => exact cB (Kd.R_reads' HO119.out).2.2); (case side2 => exact (Kd.R_reads' HO119.out).2.1); (case side3 => exact cB (Kd.R_reads' HO122.out).2.2); (case side4 => exact (Kd.R_reads' HO122.out).2.1); rintro e w27 ⟨v124, rfl, ho0, hb⟩; refine ⟨_, rfl, ?_⟩; replace HO112 := mk0 (Kd.R_below (rB HO112.out) hb); replace HO122 := mk0 (Kd.R_below (rB HO122.out) hb); have HO125 := mk0 (Kd.R_lower (Kd.R_new' (Kd.R_new' (Kd.R_new' ho0 (Kd.R_lt (rB HO109.out))) (Kd.R_lt (rB HO115.out))) (Kd.R_lt (rB HO119.out))) (below_size uW)); replace HO109 := mk0 (Kd.R_elder' (rB HO109.out) (Kd.R_base ho0) hb); replace HO115 := mk0 (Kd.R_elder' (rB HO115.out) (Kd.R_base ho0) hb); replace HO119 := mk0 (Kd.R_elder' (rB HO119.out) (Kd.R_base ho0) hb); replace BK106 := bK BK106 hb; replace HB := mk0 (below_step uW hb); (try clear hb); (try clear hb2); (try clear hk); (try clear hi); (try clear ho0); have hcz28_0 : w27.cell? ⟨gb106, 0, none⟩ = some (.int .i64 2) := (blk_cell BK106.out 0).trans rfl; have hcz28_1 : w27.cell? ⟨gb106, 1, none⟩ = some (.int .i64 1) := (blk_cell BK106.out 1).trans rfl; have hfz28_0 := blk_frozen BK106.out 0; have hfz28_1 := blk_frozen BK106.out 1) | ((with_reducible refine gCa (f := 59) rfl ?_); refine goesL_ (some 25) rfl rfl Try.func59 uS rfl #[.agg #[.int .i64 2, .int .i64 1], .slice none 0 0, .slice none 0 0] rfl uj ?_; (refine (GEnc.rebuild_Rebuild.calls k 2 1 _ _ ([] : List ByteArray) _ _ ([] : List Bool) t127 t130 _ ?side1 ?side2 ?side3 ?side4 A3.out).mono ?_); (case side1 => exact Kd.C_nil _ _); (case side2 => exact Nat.le_refl _); (case side3 => exact Kd.C_nil _ _); (case side4 => exact Nat.le_refl _); rintro e w29 ⟨v128, rfl, ho0, hb⟩; refine ⟨_, rfl, ?_⟩; replace HO112 := mk0 (Kd.R_below (rB HO112.out) hb); replace HO122 := mk0 (Kd.R_below (rB HO122.out) hb); have HO129 := mk0 (Kd.R_lower (Kd.R_new' (Kd.R_new' (Kd.R_new' (Kd.R_new' ho0 (Kd.R_lt (rB HO109.out))) (Kd.R_lt (rB HO115.out))) (Kd.R_lt (rB HO119.out))) (Kd.R_lt (rB HO125.out))) (below_size uW)); replace HO109 := mk0 (Kd.R_elder' (rB HO109.out) (Kd.R_base ho0) hb); replace HO115 := mk0 (Kd.R_elder' (rB HO115.out) (Kd.R_base ho0) hb); replace HO119 := mk0 (Kd.R_elder' (rB HO119.out) (Kd.R_base ho0) hb); replace HO125 := mk0 (Kd.R_elder' (rB HO125.out) (Kd.R_base ho0) hb); replace BK106 := bK BK106 hb; replace HB := mk0 (below_step uW hb); (try clear hb); (try clear hb2); (try clear hk); (try clear hi); (try clear ho0)) | ((with_reducible refine gate_dst (N := 29) rfl ?_); refine Kd.R_lit Kd.string _ 9 ?hg (N := 29) ?hd (xs := ([(⟨#[97]⟩ : ByteArray), (⟨#[98]⟩ : ByteArray), (⟨#[103]⟩ : ByteArray)] : List ByteArray)) (inner := [.string (⟨#[97]⟩ : ByteArray), .string (⟨#[98]⟩ : ByteArray), .string (⟨#[103]⟩ : ByteArray)]) (ok := fun _ => True) (okp := fun _ => True) ?hr ?hp (fun _ hk => hk) trivial (Below.refl _ _) (Nat.le_refl _) uZ ?_; (case hd => rfl); (case hg => rfl); (case hr => first | (go_simp; done) | (go_simp; rfl)); (case hp => exact (Reps.one (show Kd.M Kd.string _ _ _ (⟨#[97]⟩ : ByteArray) [.string (⟨#[97]⟩ : ByteArray)] from rfl) (Reps.one (show Kd.M Kd.string _ _ _ (⟨#[98]⟩ : ByteArray) [.string (⟨#[98]⟩ : ByteArray)] from rfl) (Reps.one (show Kd.M Kd.string _ _ _ (⟨#[103]⟩ : ByteArray) [.string (⟨#[103]⟩ : ByteArray)] from rfl) (Reps.none _ _))))); intro v132 w30 ho31 hb hg_ hnew_; clear hg_ hnew_; (first | rw [← Ny131.out] at ho31 | (simp only [Int.reduceToNat] at ho31; rw [← Ny131.out] at ho31)); replace HO112 := mk0 (Kd.R_below (rB HO112.out) hb); replace HO122 := mk0 (Kd.R_below (rB HO122.out) hb); have HO133 := mk0 (Kd.R_lower (Kd.R_new' (Kd.R_new' (Kd.R_new' (Kd.R_new' (Kd.R_new' ho31 (Kd.R_lt (rB HO109.out))) (Kd.R_lt (rB HO115.out))) (Kd.R_lt (rB HO119.out))) (Kd.R_lt (rB HO125.out))) (Kd.R_lt (rB HO129.out))) (below_size uW)); replace HO109 := mk0 (Kd.R_elder' (rB HO109.out) (Kd.R_base ho31) hb); replace HO115 := mk0 (Kd.R_elder' (rB HO115.out) (Kd.R_base ho31) hb); replace HO119 := mk0 (Kd.R_elder' (rB HO119.out) (Kd.R_base ho31) hb); replace HO125 := mk0 (Kd.R_elder' (rB HO125.out) (Kd.R_base ho31) hb); replace HO129 := mk0 (Kd.R_elder' (rB HO129.out) (Kd.R_base ho31) hb); replace BK106 := bK BK106 hb; replace HB := mk0 (below_step uW hb); clear hb ho31; obtain ⟨Ao32, co32, eo32⟩ := Kd.R_slice HO115.out; subst eo32; obtain ⟨Ao33, co33, eo33⟩ := Kd.R_slice HO133.out; subst eo33) | ((with_reducible refine gCa (f := 50) rfl ?_); refine goesL_ (some 30) rfl rfl Try.func50 uS rfl #[.slice Ao32 t113.length co32, .slice Ao33 y131.length co33] rfl uj ?_; (with_reducible refine (GVec.ossuarylaw0_SameTexts.calls k _ _ t113 _ _ y131 true _ ?side1 ?side2 ?side3 ?side4 A4.out).mono ?_); (case side1 => exact cB (Kd.R_reads' HO115.out).2.2); (case side2 => exact (Kd.R_reads' HO115.out).2.1); (case side3 => exact cB (Kd.R_reads' HO133.out).2.2); (case side4 => exact (Kd.R_reads' HO133.out).2.1); rintro e w' ⟨rfl, ⟨nd, rfl⟩⟩; refine ⟨_, rfl, ?_⟩) | (go_at_call 35; (with_reducible refine (GBase.ossuarylaw0_Num.calls t116 t135 _ A6.out).mono ?_); rintro e w' ⟨rfl, ⟨nd, rfl⟩⟩) | (go_at_call 35; (with_reducible refine (GBase.ossuarylaw0_Num.calls t126 t136 _ A8.out).mono ?_); rintro e w' ⟨rfl, ⟨nd, rfl⟩⟩) | (go_at_call 35; (with_reducible refine (GBase.ossuarylaw0_Num.calls t130 t137 _ A10.out).mono ?_); rintro e w' ⟨rfl, ⟨nd, rfl⟩⟩))
    go_ret
    exact ⟨uy, uW⟩
   ·rw [if_neg c9] at H
    have c9b0 : (t136 == 801) = false := beq_eq_false_iff_ne.mpr c9
    have c9b1 : (t136 != 801) = true := bne_iff_ne.mpr c9
    exact absurd ((Option.some.inj H).trans HTrue.out) uY
  ·rw [if_neg c7] at H
   have c7b0 : (t135 == 0) = false := beq_eq_false_iff_ne.mpr c7
   have c7b1 : (t135 != 0) = true := bne_iff_ne.mpr c7
   exact absurd ((Option.some.inj H).trans HTrue.out) uY
 ·replace c5 := Bool.eq_false_iff.mpr c5
  subst c5
  have H1 : (some false) = some r := by rw [if_neg (show ¬ (false = true) by decide)] at H; exact H
  clear H
  have H := H1
  clear H1
  exact absurd ((Option.some.inj H).trans HTrue.out) uY
noncomputable def ossuarylaw8_some.l0 : Nat → Int → Int → Int → List Bool → Int → Int → Option (List Bool)
 | 0, _, _, _, _, _, _ => none
 | k + 1, x0, x1, x2, x7, x8, x9 => if x9 < x0 then (if 0 ≤ x9 then (if (Go.bits .and .i64 (shr .i64 x2 x9) 1) = 1 then (if x9 < (x7.length : Int) then ((some (x7.set (x9 : Int).toNat true : List Bool)).bind fun y141 => (if rdOf false y141 x9 = true then (ossuarylaw8_some.l0 k x0 x1 x2 y141 (wrap64 (x8 + 1)) (wrap64 (x9 + 1))) else (ossuarylaw8_some.l0 k x0 x1 x2 y141 x8 (wrap64 (x9 + 1))))) else (none)) else (if x9 < (x7.length : Int) then ((some (x7.set (x9 : Int).toNat (decide ((wrap64 (x0 - x9)) ≤ (wrap64 (x1 - x8)))) : List Bool)).bind fun y143 => (if rdOf false y143 x9 = true then (ossuarylaw8_some.l0 k x0 x1 x2 y143 (wrap64 (x8 + 1)) (wrap64 (x9 + 1))) else (ossuarylaw8_some.l0 k x0 x1 x2 y143 x8 (wrap64 (x9 + 1))))) else (none))) else (none)) else (some x7)
noncomputable def ossuarylaw8_some.f (k : Nat) (a0 : Int) (a1 : Int) (a2 : Int) : Option (List Bool) := if 0 ≤ a0 then (if (a0 : Int).toNat ≤ 281474976710656 then (ossuarylaw8_some.l0 k a0 a1 a2 (List.replicate (a0 : Int).toNat false) 0 0) else (none)) else (none)
theorem ossuarylaw8_some.mono_l : ∀ k, (∀ y0 y1 y2 y3 y4 y5, LeO (ossuarylaw8_some.l0 k y0 y1 y2 y3 y4 y5) (ossuarylaw8_some.l0 (k + 1) y0 y1 y2 y3 y4 y5))
 | 0 => fun _ _ _ _ _ _ r h => by simp [ossuarylaw8_some.l0] at h
 | k + 1 => by
  have ih0 := ossuarylaw8_some.mono_l k
  ·intro y0 y1 y2 y3 y4 y5
   unfold ossuarylaw8_some.l0
   repeat' with_reducible first | exact ih0 _ _ _ _ _ _ | exact LeO.refl _ | exact LeO.none _ | refine LeO.ite ?_ ?_ | refine LeO.bind ?_ (fun _ => ?_)
theorem ossuarylaw8_some.mono : ∀ a0 a1 a2 k, LeO (ossuarylaw8_some.f k a0 a1 a2) (ossuarylaw8_some.f (k + 1) a0 a1 a2) := by
 intro a0 a1 a2 k
 have ih0 := ossuarylaw8_some.mono_l k
 unfold ossuarylaw8_some.f
 repeat' with_reducible first | exact ih0 _ _ _ _ _ _ | exact LeO.refl _ | exact LeO.none _ | refine LeO.ite ?_ ?_ | refine LeO.bind ?_ (fun _ => ?_)
set_option maxHeartbeats 8000000 in
set_option maxRecDepth 100000 in
theorem ossuarylaw8_some.calls (k : Nat) (a0 : Int) (a1 : Int) (a2 : Int) (r : List Bool) (w : World) (h : ossuarylaw8_some.f k a0 a1 a2 = some r) :
  Calls Try.prog 62 #[.int .i64 a0, .int .i64 a1, .int .i64 a2] w fun e w' => ∃ v0_ : Value, e = .returned (v0_) ∧ Kd.R Kd.bool 4 w' w.heap.size (fun _ => True) v0_ r ∧ Below w.heap.size w w' := by
 have HB := mk0 (Below.refl w.heap.size w)
 have H : (if 0 ≤ a0 then (if (a0 : Int).toNat ≤ 281474976710656 then (ossuarylaw8_some.l0 k a0 a1 a2 (List.replicate (a0 : Int).toNat false) 0 0) else (none)) else (none)) = some r := h
 clear h
 by_cases c4 : 0 ≤ a0
 ·rw [if_pos c4] at H
  have c4b0 := eq_true c4
  have c4b1 : decide (0 ≤ a0) = true := decide_eq_true c4
  clear c4
  by_cases c5 : (a0 : Int).toNat ≤ 281474976710656
  ·rw [if_pos c5] at H
   have c5b0 := eq_true c5
   have c5b1 : decide ((a0 : Int).toNat ≤ 281474976710656) = true := decide_eq_true c5
   clear c5
   obtain ⟨y138, hy138⟩ : ∃ y_ : List Bool, y_ = (List.replicate (a0 : Int).toNat false) := ⟨_, rfl⟩
   replace H : (ossuarylaw8_some.l0 k a0 a1 a2 y138 0 0) = some r := by first | (rw [hy138]; with_reducible exact H) | (have H2_ := (Option.bind_some _ _).symm.trans H; rw [hy138]; with_reducible exact H2_) | (have H2_ := (Option.bind_some _ _).symm.trans H; with_reducible exact H2_) | with_reducible exact H | (rw [hy138]; exact H) | exact H
   have Ny138 := mk0 hy138
   clear hy138
   have H' := mk0 H
   clear H
   go_enter Try.func62, Try.ntmps62
   go_wp2_with (first | ((with_reducible refine gate_dst (N := 11) rfl ?_); refine Kd.R_make Kd.bool _ 4 rfl (N := 11) rfl 68 _ _ rfl a0 rfl rfl Try.underlying68 (.bool false) 1 info4 rfl uY uU false (ok := fun _ => True) (okp := fun _ => True) rfl (fun _ hk => hk) trivial (of_decide_eq_true uH) (Nat.le_trans (Nat.mul_le_mul_right _ (of_decide_eq_true uH : a0.toNat ≤ 281474976710656)) uU) (Below.refl _ _) (Nat.le_refl _) ?_; intro v139 w6 ho7 hb hg_ hnew_; clear hg_ hnew_; (first | rw [← Ny138.out] at ho7 | (simp only [Int.reduceToNat] at ho7; rw [← Ny138.out] at ho7)); have HO140 := mk0 (Kd.R_lower ho7 (below_size us)); replace HB := mk0 (below_step us hb); clear hb ho7))
   go_loopg [8, 9] k (fun kq v8 v9 w' => ∃ (x7_1 : List Bool) (x8_1 : Int) (x9_1 : Int), v8 = .int .i64 x8_1 ∧ v9 = .int .i64 x9_1 ∧ Aside0 (ossuarylaw8_some.l0 kq a0 a1 a2 x7_1 x8_1 x9_1 = some r) ∧ Aside0 (kq ≤ k) ∧ Aside0 (Kd.R Kd.bool 4 w' w.heap.size (fun _ => True) v139 x7_1) ∧ Aside0 (Below w.heap.size w w'))
   case atStart => exact ⟨(y138), (0), (0), uI, uI, H', ⟨Nat.le_refl _⟩, ⟨rB HO140.out⟩, ⟨us⟩⟩
   case round =>
    clear H'
    try clear p2
    try clear c4
    try clear c4b0
    try clear c4b1
    try clear c5
    try clear c5b0
    try clear c5b1
    try clear c6
    obtain ⟨x7_1, x8_1, x9_1, rfl, rfl, HA, HK1, HO_7, HB⟩ := hrel
    cases gk with
    | zero => exact absurd HA.out (by simp [ossuarylaw8_some.l0])
    | succ k1 =>
     have H := HA.out
     clear HA
     simp only [ossuarylaw8_some.l0] at H
     by_cases c8 : x9_1 < a0
     ·rw [if_pos c8] at H
      have c8b0 : decide (x9_1 < a0) = true := decide_eq_true c8
      clear c8
      by_cases c9 : 0 ≤ x9_1
      ·rw [if_pos c9] at H
       have c9b0 := eq_true c9
       have c9b1 : decide (0 ≤ x9_1) = true := decide_eq_true c9
       clear c9
       obtain ⟨ji10, hji10⟩ : ∃ j_ : Int, (shr .i64 a2 x9_1) = j_ := ⟨_, rfl⟩
       replace H : (if (Go.bits .and .i64 (ji10) 1) = 1 then (if x9_1 < (x7_1.length : Int) then ((some (x7_1.set (x9_1 : Int).toNat true : List Bool)).bind fun y141 => (if rdOf false y141 x9_1 = true then (ossuarylaw8_some.l0 k1 a0 a1 a2 y141 (wrap64 (x8_1 + 1)) (wrap64 (x9_1 + 1))) else (ossuarylaw8_some.l0 k1 a0 a1 a2 y141 x8_1 (wrap64 (x9_1 + 1))))) else (none)) else (if x9_1 < (x7_1.length : Int) then ((some (x7_1.set (x9_1 : Int).toNat (decide ((wrap64 (a0 - x9_1)) ≤ (wrap64 (a1 - x8_1)))) : List Bool)).bind fun y143 => (if rdOf false y143 x9_1 = true then (ossuarylaw8_some.l0 k1 a0 a1 a2 y143 (wrap64 (x8_1 + 1)) (wrap64 (x9_1 + 1))) else (ossuarylaw8_some.l0 k1 a0 a1 a2 y143 x8_1 (wrap64 (x9_1 + 1))))) else (none))) = some r := by first | (rw [hji10] at H; exact H) | (simp only [hji10] at H ⊢; exact H)
       have hji10_ : (a2 / 2 ^ min x9_1.toNat 64) = ji10 := hji10
       have hji10z : x9_1 ≤ 64 → (a2 / 2 ^ x9_1.toNat) = ji10 := shr_small hji10
       by_cases c11 : (Go.bits .and .i64 (ji10) 1) = 1
       ·rw [if_pos c11] at H
        have c11b0 : ((Go.bits .and .i64 (ji10) 1) == 1) = true := beq_iff_eq.mpr c11
        have c11b1 : ((Go.bits .and .i64 (ji10) 1) != 1) = false := bne_eq_false_iff_eq.mpr c11
        clear c11
        by_cases c12 : x9_1 < (x7_1.length : Int)
        ·rw [if_pos c12] at H
         have c12b0 : decide (x9_1 < (x7_1.length : Int)) = true := decide_eq_true c12
         clear c12
         obtain ⟨y141, hy141⟩ : ∃ y_ : List Bool, y_ = (x7_1.set (x9_1 : Int).toNat true) := ⟨_, rfl⟩
         replace H : (if rdOf false y141 x9_1 = true then (ossuarylaw8_some.l0 k1 a0 a1 a2 y141 (wrap64 (x8_1 + 1)) (wrap64 (x9_1 + 1))) else (ossuarylaw8_some.l0 k1 a0 a1 a2 y141 x8_1 (wrap64 (x9_1 + 1)))) = some r := by first | (rw [hy141]; with_reducible exact H) | (have H2_ := (Option.bind_some _ _).symm.trans H; rw [hy141]; with_reducible exact H2_) | (have H2_ := (Option.bind_some _ _).symm.trans H; with_reducible exact H2_) | with_reducible exact H | (rw [hy141]; exact H) | exact H
         have Ny141 := mk0 hy141
         clear hy141
         obtain ⟨bq14, hbq14⟩ : ∃ b_ : Bool, b_ = (rdOf false y141 x9_1) := ⟨_, rfl⟩
         replace H : (if bq14 = true then (ossuarylaw8_some.l0 k1 a0 a1 a2 y141 (wrap64 (x8_1 + 1)) (wrap64 (x9_1 + 1))) else (ossuarylaw8_some.l0 k1 a0 a1 a2 y141 x8_1 (wrap64 (x9_1 + 1)))) = some r := by rw [← hbq14] at H; exact H
         have Nbq14 := mk0 hbq14
         clear hbq14
         by_cases c15 : bq14 = true
         ·subst c15
          have H1 : (ossuarylaw8_some.l0 k1 a0 a1 a2 y141 (wrap64 (x8_1 + 1)) (wrap64 (x9_1 + 1))) = some r := by rw [if_pos rfl] at H; exact H
          clear H
          have H := H1
          clear H1
          have H' := mk0 H
          clear H
          have p13 : 0 ≤ (x9_1 : Int) := of_decide_eq_true uH
          have q13 : (x9_1 : Int) < ((x7_1.length : Int) : Int) := of_decide_eq_true uH
          obtain ⟨go13, co13, eo13, gb13, gl13, cl13, HG13⟩ := Kd.R_form HO_7.out uU
          (first | cases eo13 | (injection eo13 with ea_ en_ ec_; (first | subst ea_ | (injection ea_ with ea_; subst ea_)); subst ec_; clear en_))
          have GB13 := mk0 gb13
          have GG13 := mk0 HG13
          clear gb13 gl13 HG13
          obtain ⟨hx13_0, hf13_0⟩ := Kd.R_celln false HO_7.out (x9_1 : Int) p13 q13
          replace p13 := eq_true p13
          replace q13 := eq_true q13
          have HP16 := Kd.R_putg HO_7.out (x9_1 : Int) true
          go_wp2_with (first | ((with_reducible refine gate_store (t := 4) (p := 33) rfl ?_); refine store_event (t := 4) (p := 33) (v := ?vo_w17) (w1 := (wr.setCell ⟨go13, (x9_1 : Int).toNat, none⟩ (.bool true))) ?hg ?ho ?hn ?hr ?_; (case ho => rfl); (case hg => rfl); (case hn => rfl); (case hr => first | (go_simp; done) | (go_simp; rfl)); intro w17 hw; have hg : wr.grownBy w17 (some go13) := (by rw [hw]; exact HP16.2); have hp_ : Kd.R Kd.bool 4 w17 w.heap.size (fun _ => True) (.slice (some ⟨go13, 0, none⟩) x7_1.length co13) y141 := (by rw [hw, Ny141.out]; exact HP16.1); clear HP16; replace HO_7 := mk0 (hp_); replace HB := mk0 ((by rw [hw]; exact below_set (HB.out) GB13.out : Below w.heap.size w w17)); clear hg hw hp_; have p142 : 0 ≤ (x9_1 : Int) := of_decide_eq_true uH; have q142 : x9_1 < (y141.length : Int) := (by have h_ : (x9_1 : Int) < ((x7_1.length : Int) : Int) := of_decide_eq_true uH; first | (have e_ := (Kd.R_reads' HO_7.out).1; omega) | simpa only [Ny141.out, List.length_set] using h_); have ql142 : ((x9_1 : Int) < ((x7_1.length : Int) : Int)) = True := eq_true (of_decide_eq_true uH); obtain ⟨ad142, e142, hx142_0⟩ := Kd.at_bool (Kd.R_reads' HO_7.out).2.2 x9_1 p142 q142; (try rw [← Nbq14.out] at hx142_0); obtain rfl : (⟨go13, 0, none⟩ : Addr) = ad142 := (by injection e142); (first | simp only [add_plain] at hx142_0 | simp only [add_at] at hx142_0 | simp only [Addr.add, Nat.zero_add] at hx142_0 | skip); replace p142 := eq_true p142; replace q142 := eq_true q142))
          go_roundg k1
          case measure => have := HK1.out; omega
          case rel => exact ⟨(y141), (wrap64 (x8_1 + 1)), (wrap64 (x9_1 + 1)), uI, uI, H', ⟨uP⟩, ⟨rB HO_7.out⟩, ⟨us⟩⟩
         ·replace c15 := Bool.eq_false_iff.mpr c15
          subst c15
          have H1 : (ossuarylaw8_some.l0 k1 a0 a1 a2 y141 x8_1 (wrap64 (x9_1 + 1))) = some r := by rw [if_neg (show ¬ (false = true) by decide)] at H; exact H
          clear H
          have H := H1
          clear H1
          have H' := mk0 H
          clear H
          have p13 : 0 ≤ (x9_1 : Int) := of_decide_eq_true uH
          have q13 : (x9_1 : Int) < ((x7_1.length : Int) : Int) := of_decide_eq_true uH
          obtain ⟨go13, co13, eo13, gb13, gl13, cl13, HG13⟩ := Kd.R_form HO_7.out uU
          (first | cases eo13 | (injection eo13 with ea_ en_ ec_; (first | subst ea_ | (injection ea_ with ea_; subst ea_)); subst ec_; clear en_))
          have GB13 := mk0 gb13
          have GG13 := mk0 HG13
          clear gb13 gl13 HG13
          obtain ⟨hx13_0, hf13_0⟩ := Kd.R_celln false HO_7.out (x9_1 : Int) p13 q13
          replace p13 := eq_true p13
          replace q13 := eq_true q13
          have HP18 := Kd.R_putg HO_7.out (x9_1 : Int) true
          go_wp2_with (first | ((with_reducible refine gate_store (t := 4) (p := 33) rfl ?_); refine store_event (t := 4) (p := 33) (v := ?vo_w19) (w1 := (wr.setCell ⟨go13, (x9_1 : Int).toNat, none⟩ (.bool true))) ?hg ?ho ?hn ?hr ?_; (case ho => rfl); (case hg => rfl); (case hn => rfl); (case hr => first | (go_simp; done) | (go_simp; rfl)); intro w19 hw; have hg : wr.grownBy w19 (some go13) := (by rw [hw]; exact HP18.2); have hp_ : Kd.R Kd.bool 4 w19 w.heap.size (fun _ => True) (.slice (some ⟨go13, 0, none⟩) x7_1.length co13) y141 := (by rw [hw, Ny141.out]; exact HP18.1); clear HP18; replace HO_7 := mk0 (hp_); replace HB := mk0 ((by rw [hw]; exact below_set (HB.out) GB13.out : Below w.heap.size w w19)); clear hg hw hp_; have p142 : 0 ≤ (x9_1 : Int) := of_decide_eq_true uH; have q142 : x9_1 < (y141.length : Int) := (by have h_ : (x9_1 : Int) < ((x7_1.length : Int) : Int) := of_decide_eq_true uH; first | (have e_ := (Kd.R_reads' HO_7.out).1; omega) | simpa only [Ny141.out, List.length_set] using h_); have ql142 : ((x9_1 : Int) < ((x7_1.length : Int) : Int)) = True := eq_true (of_decide_eq_true uH); obtain ⟨ad142, e142, hx142_0⟩ := Kd.at_bool (Kd.R_reads' HO_7.out).2.2 x9_1 p142 q142; (try rw [← Nbq14.out] at hx142_0); obtain rfl : (⟨go13, 0, none⟩ : Addr) = ad142 := (by injection e142); (first | simp only [add_plain] at hx142_0 | simp only [add_at] at hx142_0 | simp only [Addr.add, Nat.zero_add] at hx142_0 | skip); replace p142 := eq_true p142; replace q142 := eq_true q142))
          go_roundg k1
          case measure => have := HK1.out; omega
          case rel => exact ⟨(y141), (x8_1), (wrap64 (x9_1 + 1)), uI, uI, H', ⟨uP⟩, ⟨rB HO_7.out⟩, ⟨us⟩⟩
        ·rw [if_neg c12] at H
         exact absurd H uZ
       ·rw [if_neg c11] at H
        have c11b0 : ((Go.bits .and .i64 (ji10) 1) == 1) = false := beq_eq_false_iff_ne.mpr c11
        have c11b1 : ((Go.bits .and .i64 (ji10) 1) != 1) = true := bne_iff_ne.mpr c11
        by_cases c20 : x9_1 < (x7_1.length : Int)
        ·rw [if_pos c20] at H
         have c20b0 : decide (x9_1 < (x7_1.length : Int)) = true := decide_eq_true c20
         clear c20
         obtain ⟨y143, hy143⟩ : ∃ y_ : List Bool, y_ = (x7_1.set (x9_1 : Int).toNat (decide ((wrap64 (a0 - x9_1)) ≤ (wrap64 (a1 - x8_1))))) := ⟨_, rfl⟩
         replace H : (if rdOf false y143 x9_1 = true then (ossuarylaw8_some.l0 k1 a0 a1 a2 y143 (wrap64 (x8_1 + 1)) (wrap64 (x9_1 + 1))) else (ossuarylaw8_some.l0 k1 a0 a1 a2 y143 x8_1 (wrap64 (x9_1 + 1)))) = some r := by first | (rw [hy143]; with_reducible exact H) | (have H2_ := (Option.bind_some _ _).symm.trans H; rw [hy143]; with_reducible exact H2_) | (have H2_ := (Option.bind_some _ _).symm.trans H; with_reducible exact H2_) | with_reducible exact H | (rw [hy143]; exact H) | exact H
         have Ny143 := mk0 hy143
         clear hy143
         obtain ⟨bq22, hbq22⟩ : ∃ b_ : Bool, b_ = (rdOf false y143 x9_1) := ⟨_, rfl⟩
         replace H : (if bq22 = true then (ossuarylaw8_some.l0 k1 a0 a1 a2 y143 (wrap64 (x8_1 + 1)) (wrap64 (x9_1 + 1))) else (ossuarylaw8_some.l0 k1 a0 a1 a2 y143 x8_1 (wrap64 (x9_1 + 1)))) = some r := by rw [← hbq22] at H; exact H
         have Nbq22 := mk0 hbq22
         clear hbq22
         by_cases c23 : bq22 = true
         ·subst c23
          have H1 : (ossuarylaw8_some.l0 k1 a0 a1 a2 y143 (wrap64 (x8_1 + 1)) (wrap64 (x9_1 + 1))) = some r := by rw [if_pos rfl] at H; exact H
          clear H
          have H := H1
          clear H1
          have H' := mk0 H
          clear H
          have p21 : 0 ≤ (x9_1 : Int) := of_decide_eq_true uH
          have q21 : (x9_1 : Int) < ((x7_1.length : Int) : Int) := of_decide_eq_true uH
          obtain ⟨go21, co21, eo21, gb21, gl21, cl21, HG21⟩ := Kd.R_form HO_7.out uU
          (first | cases eo21 | (injection eo21 with ea_ en_ ec_; (first | subst ea_ | (injection ea_ with ea_; subst ea_)); subst ec_; clear en_))
          have GB21 := mk0 gb21
          have GG21 := mk0 HG21
          clear gb21 gl21 HG21
          obtain ⟨hx21_0, hf21_0⟩ := Kd.R_celln false HO_7.out (x9_1 : Int) p21 q21
          replace p21 := eq_true p21
          replace q21 := eq_true q21
          have HP24 := Kd.R_putg HO_7.out (x9_1 : Int) (decide ((wrap64 (a0 - x9_1)) ≤ (wrap64 (a1 - x8_1))))
          go_wp2_with (first | ((with_reducible refine gate_store (t := 4) (p := 33) rfl ?_); refine store_event (t := 4) (p := 33) (v := ?vo_w25) (w1 := (wr.setCell ⟨go21, (x9_1 : Int).toNat, none⟩ (.bool (decide ((wrap64 (a0 - x9_1)) ≤ (wrap64 (a1 - x8_1))))))) ?hg ?ho ?hn ?hr ?_; (case ho => rfl); (case hg => rfl); (case hn => rfl); (case hr => first | (go_simp; done) | (go_simp; rfl)); intro w25 hw; have hg : wr.grownBy w25 (some go21) := (by rw [hw]; exact HP24.2); have hp_ : Kd.R Kd.bool 4 w25 w.heap.size (fun _ => True) (.slice (some ⟨go21, 0, none⟩) x7_1.length co21) y143 := (by rw [hw, Ny143.out]; exact HP24.1); clear HP24; replace HO_7 := mk0 (hp_); replace HB := mk0 ((by rw [hw]; exact below_set (HB.out) GB21.out : Below w.heap.size w w25)); clear hg hw hp_; have p144 : 0 ≤ (x9_1 : Int) := of_decide_eq_true uH; have q144 : x9_1 < (y143.length : Int) := (by have h_ : (x9_1 : Int) < ((x7_1.length : Int) : Int) := of_decide_eq_true uH; first | (have e_ := (Kd.R_reads' HO_7.out).1; omega) | simpa only [Ny143.out, List.length_set] using h_); have ql144 : ((x9_1 : Int) < ((x7_1.length : Int) : Int)) = True := eq_true (of_decide_eq_true uH); obtain ⟨ad144, e144, hx144_0⟩ := Kd.at_bool (Kd.R_reads' HO_7.out).2.2 x9_1 p144 q144; (try rw [← Nbq22.out] at hx144_0); obtain rfl : (⟨go21, 0, none⟩ : Addr) = ad144 := (by injection e144); (first | simp only [add_plain] at hx144_0 | simp only [add_at] at hx144_0 | simp only [Addr.add, Nat.zero_add] at hx144_0 | skip); replace p144 := eq_true p144; replace q144 := eq_true q144))
          go_roundg k1
          case measure => have := HK1.out; omega
          case rel => exact ⟨(y143), (wrap64 (x8_1 + 1)), (wrap64 (x9_1 + 1)), uI, uI, H', ⟨uP⟩, ⟨rB HO_7.out⟩, ⟨us⟩⟩
         ·replace c23 := Bool.eq_false_iff.mpr c23
          subst c23
          have H1 : (ossuarylaw8_some.l0 k1 a0 a1 a2 y143 x8_1 (wrap64 (x9_1 + 1))) = some r := by rw [if_neg (show ¬ (false = true) by decide)] at H; exact H
          clear H
          have H := H1
          clear H1
          have H' := mk0 H
          clear H
          have p21 : 0 ≤ (x9_1 : Int) := of_decide_eq_true uH
          have q21 : (x9_1 : Int) < ((x7_1.length : Int) : Int) := of_decide_eq_true uH
          obtain ⟨go21, co21, eo21, gb21, gl21, cl21, HG21⟩ := Kd.R_form HO_7.out uU
          (first | cases eo21 | (injection eo21 with ea_ en_ ec_; (first | subst ea_ | (injection ea_ with ea_; subst ea_)); subst ec_; clear en_))
          have GB21 := mk0 gb21
          have GG21 := mk0 HG21
          clear gb21 gl21 HG21
          obtain ⟨hx21_0, hf21_0⟩ := Kd.R_celln false HO_7.out (x9_1 : Int) p21 q21
          replace p21 := eq_true p21
          replace q21 := eq_true q21
          have HP26 := Kd.R_putg HO_7.out (x9_1 : Int) (decide ((wrap64 (a0 - x9_1)) ≤ (wrap64 (a1 - x8_1))))
          go_wp2_with (first | ((with_reducible refine gate_store (t := 4) (p := 33) rfl ?_); refine store_event (t := 4) (p := 33) (v := ?vo_w27) (w1 := (wr.setCell ⟨go21, (x9_1 : Int).toNat, none⟩ (.bool (decide ((wrap64 (a0 - x9_1)) ≤ (wrap64 (a1 - x8_1))))))) ?hg ?ho ?hn ?hr ?_; (case ho => rfl); (case hg => rfl); (case hn => rfl); (case hr => first | (go_simp; done) | (go_simp; rfl)); intro w27 hw; have hg : wr.grownBy w27 (some go21) := (by rw [hw]; exact HP26.2); have hp_ : Kd.R Kd.bool 4 w27 w.heap.size (fun _ => True) (.slice (some ⟨go21, 0, none⟩) x7_1.length co21) y143 := (by rw [hw, Ny143.out]; exact HP26.1); clear HP26; replace HO_7 := mk0 (hp_); replace HB := mk0 ((by rw [hw]; exact below_set (HB.out) GB21.out : Below w.heap.size w w27)); clear hg hw hp_; have p144 : 0 ≤ (x9_1 : Int) := of_decide_eq_true uH; have q144 : x9_1 < (y143.length : Int) := (by have h_ : (x9_1 : Int) < ((x7_1.length : Int) : Int) := of_decide_eq_true uH; first | (have e_ := (Kd.R_reads' HO_7.out).1; omega) | simpa only [Ny143.out, List.length_set] using h_); have ql144 : ((x9_1 : Int) < ((x7_1.length : Int) : Int)) = True := eq_true (of_decide_eq_true uH); obtain ⟨ad144, e144, hx144_0⟩ := Kd.at_bool (Kd.R_reads' HO_7.out).2.2 x9_1 p144 q144; (try rw [← Nbq22.out] at hx144_0); obtain rfl : (⟨go21, 0, none⟩ : Addr) = ad144 := (by injection e144); (first | simp only [add_plain] at hx144_0 | simp only [add_at] at hx144_0 | simp only [Addr.add, Nat.zero_add] at hx144_0 | skip); replace p144 := eq_true p144; replace q144 := eq_true q144))
          go_roundg k1
          case measure => have := HK1.out; omega
          case rel => exact ⟨(y143), (x8_1), (wrap64 (x9_1 + 1)), uI, uI, H', ⟨uP⟩, ⟨rB HO_7.out⟩, ⟨us⟩⟩
        ·rw [if_neg c20] at H
         exact absurd H uZ
      ·rw [if_neg c9] at H
       exact absurd H uZ
     ·rw [if_neg c8] at H
      have c8b0 : decide (x9_1 < a0) = false := decide_eq_false c8
      clear c8
      obtain rfl := Option.some.inj H
      go_wp2
      go_ret
      exact ⟨_, uy, rB HO_7.out, us⟩
  ·rw [if_neg c5] at H
   exact absurd H uZ
 ·rw [if_neg c4] at H
  exact absurd H uZ
end Go.Proofs.Ytaahnicjjpddjaa.GRebuildCode
