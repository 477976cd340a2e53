/- Functions of the program as Lean functions, each with a proof that its call comes to what the function says. No condition. -/
import Derived.Test.YtaahnicjjpddjaaKDecodeFirstGDecodeFirst0
namespace Go.Proofs.Ytaahnicjjpddjaa.GDecodeFirst
open Go.Proofs.Ytaahnicjjpddjaa.Fn
open Go.Proofs.Ytaahnicjjpddjaa
open Go.RowKit Go.Proofs.YtaahnicjjpddjaaW.PrintWords Go.Proofs.YtaahnicjjpddjaaW.PrintLast
set_option linter.unusedVariables false
set_option linter.unusedSimpArgs false
def mn (a b : Int) : Int := if b < a then b else a   -- the smaller
noncomputable def ossuarylaw7_awake.f (k : Nat)  : Option (Bool) := (GEnc.decode_Decode.f k 2 1 (([(⟨#[]⟩ : ByteArray), (⟨#[98]⟩ : ByteArray), (⟨#[103]⟩ : ByteArray)] : List ByteArray)) (([false, true, true] : List Bool))).bind fun bt113 => ((GEnc.decode_Decode.f k 2 1 (([(⟨#[]⟩ : ByteArray), (⟨#[98]⟩ : ByteArray), (⟨#[]⟩ : ByteArray)] : List ByteArray)) (([false, true, false] : List Bool))).bind fun bt123 => ((GEnc.decode_Decode.f k 2 1 (([(⟨#[]⟩ : ByteArray), (⟨#[98]⟩ : ByteArray)] : List ByteArray)) (([false, true] : List Bool))).bind fun bt133 => ((GVec.ossuarylaw0_SameTexts.f k bt113.1 (([(⟨#[97]⟩ : ByteArray), (⟨#[98]⟩ : ByteArray)] : List ByteArray))).bind fun t140 => (if t140 = true then ((GBase.ossuarylaw0_Num.f bt113.2).bind fun t141 => (if t141 = 0 then ((GBase.ossuarylaw0_Num.f bt123.2).bind fun t142 => (if t142 = 701 then ((GBase.ossuarylaw0_Num.f bt133.2).bind fun t143 => (some (t143 == 700))) else (some false))) else (some false))) else (some false)))))
theorem ossuarylaw7_awake.mono : ∀ k, LeO (ossuarylaw7_awake.f k ) (ossuarylaw7_awake.f (k + 1) ) := by
 intro  k
 unfold ossuarylaw7_awake.f
 repeat' with_reducible first | exact GEnc.decode_Decode.mono _ _ _ _ _ | exact GVec.ossuarylaw0_SameTexts.mono _ _ _ | exact LeO.refl _ | exact LeO.none _ | refine LeO.ite ?_ ?_ | refine LeO.bind ?_ (fun _ => ?_)
set_option maxHeartbeats 8000000 in
set_option maxRecDepth 100000 in
theorem ossuarylaw7_awake.calls (k : Nat)  (r : Bool) (w : World) (h : ossuarylaw7_awake.f k  = some r) (hT : r = true := by rfl) :
  Calls Try.prog 55 #[] w fun e w' => e = .returned (.bool r) ∧ Below w.heap.size w w' := by
 have HTrue := mk0 hT
 clear hT
 have hu51 := Try.underlying51
 have HB := mk0 (Below.refl w.heap.size w)
 have H : ((GEnc.decode_Decode.f k 2 1 (([(⟨#[]⟩ : ByteArray), (⟨#[98]⟩ : ByteArray), (⟨#[103]⟩ : ByteArray)] : List ByteArray)) (([false, true, true] : List Bool))).bind fun bt113 => ((GEnc.decode_Decode.f k 2 1 (([(⟨#[]⟩ : ByteArray), (⟨#[98]⟩ : ByteArray), (⟨#[]⟩ : ByteArray)] : List ByteArray)) (([false, true, false] : List Bool))).bind fun bt123 => ((GEnc.decode_Decode.f k 2 1 (([(⟨#[]⟩ : ByteArray), (⟨#[98]⟩ : ByteArray)] : List ByteArray)) (([false, true] : List Bool))).bind fun bt133 => ((GVec.ossuarylaw0_SameTexts.f k bt113.1 (([(⟨#[97]⟩ : ByteArray), (⟨#[98]⟩ : ByteArray)] : List ByteArray))).bind fun t140 => (if t140 = true then ((GBase.ossuarylaw0_Num.f bt113.2).bind fun t141 => (if t141 = 0 then ((GBase.ossuarylaw0_Num.f bt123.2).bind fun t142 => (if t142 = 701 then ((GBase.ossuarylaw0_Num.f bt133.2).bind fun t143 => (some (t143 == 700))) else (some false))) else (some false))) else (some false)))))) = some r := h
 clear h
 obtain ⟨y107, hy107⟩ : ∃ y_ : List ByteArray, y_ = (([(⟨#[]⟩ : ByteArray), (⟨#[98]⟩ : ByteArray), (⟨#[103]⟩ : ByteArray)] : List ByteArray)) := ⟨_, rfl⟩
 replace H : ((GEnc.decode_Decode.f k 2 1 y107 (([false, true, true] : List Bool))).bind fun bt113 => ((GEnc.decode_Decode.f k 2 1 (([(⟨#[]⟩ : ByteArray), (⟨#[98]⟩ : ByteArray), (⟨#[]⟩ : ByteArray)] : List ByteArray)) (([false, true, false] : List Bool))).bind fun bt123 => ((GEnc.decode_Decode.f k 2 1 (([(⟨#[]⟩ : ByteArray), (⟨#[98]⟩ : ByteArray)] : List ByteArray)) (([false, true] : List Bool))).bind fun bt133 => ((GVec.ossuarylaw0_SameTexts.f k bt113.1 (([(⟨#[97]⟩ : ByteArray), (⟨#[98]⟩ : ByteArray)] : List ByteArray))).bind fun t140 => (if t140 = true then ((GBase.ossuarylaw0_Num.f bt113.2).bind fun t141 => (if t141 = 0 then ((GBase.ossuarylaw0_Num.f bt123.2).bind fun t142 => (if t142 = 701 then ((GBase.ossuarylaw0_Num.f bt133.2).bind fun t143 => (some (t143 == 700))) else (some false))) else (some false))) else (some false)))))) = some r := by first | (rw [hy107]; with_reducible exact H) | (have H2_ := (Option.bind_some _ _).symm.trans H; rw [hy107]; with_reducible exact H2_) | (have H2_ := (Option.bind_some _ _).symm.trans H; with_reducible exact H2_) | with_reducible exact H | (rw [hy107]; exact H) | exact H
 have Ny107 := mk0 hy107
 clear hy107
 obtain ⟨y110, hy110⟩ : ∃ y_ : List Bool, y_ = (([false, true, true] : List Bool)) := ⟨_, rfl⟩
 replace H : ((GEnc.decode_Decode.f k 2 1 y107 y110).bind fun bt113 => ((GEnc.decode_Decode.f k 2 1 (([(⟨#[]⟩ : ByteArray), (⟨#[98]⟩ : ByteArray), (⟨#[]⟩ : ByteArray)] : List ByteArray)) (([false, true, false] : List Bool))).bind fun bt123 => ((GEnc.decode_Decode.f k 2 1 (([(⟨#[]⟩ : ByteArray), (⟨#[98]⟩ : ByteArray)] : List ByteArray)) (([false, true] : List Bool))).bind fun bt133 => ((GVec.ossuarylaw0_SameTexts.f k bt113.1 (([(⟨#[97]⟩ : ByteArray), (⟨#[98]⟩ : ByteArray)] : List ByteArray))).bind fun t140 => (if t140 = true then ((GBase.ossuarylaw0_Num.f bt113.2).bind fun t141 => (if t141 = 0 then ((GBase.ossuarylaw0_Num.f bt123.2).bind fun t142 => (if t142 = 701 then ((GBase.ossuarylaw0_Num.f bt133.2).bind fun t143 => (some (t143 == 700))) else (some false))) else (some false))) else (some false)))))) = some r := by first | (rw [hy110]; with_reducible exact H) | (have H2_ := (Option.bind_some _ _).symm.trans H; rw [hy110]; with_reducible exact H2_) | (have H2_ := (Option.bind_some _ _).symm.trans H; with_reducible exact H2_) | with_reducible exact H | (rw [hy110]; exact H) | exact H
 have Ny110 := mk0 hy110
 clear hy110
 replace H := Option.bind_eq_some_iff.mp H
 obtain ⟨⟨t113, t116⟩, A10, H⟩ := H
 replace H : ((GEnc.decode_Decode.f k 2 1 (([(⟨#[]⟩ : ByteArray), (⟨#[98]⟩ : ByteArray), (⟨#[]⟩ : ByteArray)] : List ByteArray)) (([false, true, false] : List Bool))).bind fun bt123 => ((GEnc.decode_Decode.f k 2 1 (([(⟨#[]⟩ : ByteArray), (⟨#[98]⟩ : ByteArray)] : List ByteArray)) (([false, true] : List Bool))).bind fun bt133 => ((GVec.ossuarylaw0_SameTexts.f k t113 (([(⟨#[97]⟩ : ByteArray), (⟨#[98]⟩ : ByteArray)] : List ByteArray))).bind fun t140 => (if t140 = true then ((GBase.ossuarylaw0_Num.f t116).bind fun t141 => (if t141 = 0 then ((GBase.ossuarylaw0_Num.f bt123.2).bind fun t142 => (if t142 = 701 then ((GBase.ossuarylaw0_Num.f bt133.2).bind fun t143 => (some (t143 == 700))) else (some false))) else (some false))) else (some false))))) = some r := H
 have A1 := mk0 A10
 clear A10
 obtain ⟨y117, hy117⟩ : ∃ y_ : List ByteArray, y_ = (([(⟨#[]⟩ : ByteArray), (⟨#[98]⟩ : ByteArray), (⟨#[]⟩ : ByteArray)] : List ByteArray)) := ⟨_, rfl⟩
 replace H : ((GEnc.decode_Decode.f k 2 1 y117 (([false, true, false] : List Bool))).bind fun bt123 => ((GEnc.decode_Decode.f k 2 1 (([(⟨#[]⟩ : ByteArray), (⟨#[98]⟩ : ByteArray)] : List ByteArray)) (([false, true] : List Bool))).bind fun bt133 => ((GVec.ossuarylaw0_SameTexts.f k t113 (([(⟨#[97]⟩ : ByteArray), (⟨#[98]⟩ : ByteArray)] : List ByteArray))).bind fun t140 => (if t140 = true then ((GBase.ossuarylaw0_Num.f t116).bind fun t141 => (if t141 = 0 then ((GBase.ossuarylaw0_Num.f bt123.2).bind fun t142 => (if t142 = 701 then ((GBase.ossuarylaw0_Num.f bt133.2).bind fun t143 => (some (t143 == 700))) else (some false))) else (some false))) else (some false))))) = some r := by first | (rw [hy117]; with_reducible exact H) | (have H2_ := (Option.bind_some _ _).symm.trans H; rw [hy117]; with_reducible exact H2_) | (have H2_ := (Option.bind_some _ _).symm.trans H; with_reducible exact H2_) | with_reducible exact H | (rw [hy117]; exact H) | exact H
 have Ny117 := mk0 hy117
 clear hy117
 obtain ⟨y120, hy120⟩ : ∃ y_ : List Bool, y_ = (([false, true, false] : List Bool)) := ⟨_, rfl⟩
 replace H : ((GEnc.decode_Decode.f k 2 1 y117 y120).bind fun bt123 => ((GEnc.decode_Decode.f k 2 1 (([(⟨#[]⟩ : ByteArray), (⟨#[98]⟩ : ByteArray)] : List ByteArray)) (([false, true] : List Bool))).bind fun bt133 => ((GVec.ossuarylaw0_SameTexts.f k t113 (([(⟨#[97]⟩ : ByteArray), (⟨#[98]⟩ : ByteArray)] : List ByteArray))).bind fun t140 => (if t140 = true then ((GBase.ossuarylaw0_Num.f t116).bind fun t141 => (if t141 = 0 then ((GBase.ossuarylaw0_Num.f bt123.2).bind fun t142 => (if t142 = 701 then ((GBase.ossuarylaw0_Num.f bt133.2).bind fun t143 => (some (t143 == 700))) else (some false))) else (some false))) else (some false))))) = some r := by first | (rw [hy120]; with_reducible exact H) | (have H2_ := (Option.bind_some _ _).symm.trans H; rw [hy120]; with_reducible exact H2_) | (have H2_ := (Option.bind_some _ _).symm.trans H; with_reducible exact H2_) | with_reducible exact H | (rw [hy120]; exact H) | exact H
 have Ny120 := mk0 hy120
 clear hy120
 replace H := Option.bind_eq_some_iff.mp H
 obtain ⟨⟨t123, t126⟩, A20, H⟩ := H
 replace H : ((GEnc.decode_Decode.f k 2 1 (([(⟨#[]⟩ : ByteArray), (⟨#[98]⟩ : ByteArray)] : List ByteArray)) (([false, true] : List Bool))).bind fun bt133 => ((GVec.ossuarylaw0_SameTexts.f k t113 (([(⟨#[97]⟩ : ByteArray), (⟨#[98]⟩ : ByteArray)] : List ByteArray))).bind fun t140 => (if t140 = true then ((GBase.ossuarylaw0_Num.f t116).bind fun t141 => (if t141 = 0 then ((GBase.ossuarylaw0_Num.f t126).bind fun t142 => (if t142 = 701 then ((GBase.ossuarylaw0_Num.f bt133.2).bind fun t143 => (some (t143 == 700))) else (some false))) else (some false))) else (some false)))) = some r := H
 have A2 := mk0 A20
 clear A20
 obtain ⟨y127, hy127⟩ : ∃ y_ : List ByteArray, y_ = (([(⟨#[]⟩ : ByteArray), (⟨#[98]⟩ : ByteArray)] : List ByteArray)) := ⟨_, rfl⟩
 replace H : ((GEnc.decode_Decode.f k 2 1 y127 (([false, true] : List Bool))).bind fun bt133 => ((GVec.ossuarylaw0_SameTexts.f k t113 (([(⟨#[97]⟩ : ByteArray), (⟨#[98]⟩ : ByteArray)] : List ByteArray))).bind fun t140 => (if t140 = true then ((GBase.ossuarylaw0_Num.f t116).bind fun t141 => (if t141 = 0 then ((GBase.ossuarylaw0_Num.f t126).bind fun t142 => (if t142 = 701 then ((GBase.ossuarylaw0_Num.f bt133.2).bind fun t143 => (some (t143 == 700))) else (some false))) else (some false))) else (some false)))) = some r := by first | (rw [hy127]; with_reducible exact H) | (have H2_ := (Option.bind_some _ _).symm.trans H; rw [hy127]; with_reducible exact H2_) | (have H2_ := (Option.bind_some _ _).symm.trans H; with_reducible exact H2_) | with_reducible exact H | (rw [hy127]; exact H) | exact H
 have Ny127 := mk0 hy127
 clear hy127
 obtain ⟨y130, hy130⟩ : ∃ y_ : List Bool, y_ = (([false, true] : List Bool)) := ⟨_, rfl⟩
 replace H : ((GEnc.decode_Decode.f k 2 1 y127 y130).bind fun bt133 => ((GVec.ossuarylaw0_SameTexts.f k t113 (([(⟨#[97]⟩ : ByteArray), (⟨#[98]⟩ : ByteArray)] : List ByteArray))).bind fun t140 => (if t140 = true then ((GBase.ossuarylaw0_Num.f t116).bind fun t141 => (if t141 = 0 then ((GBase.ossuarylaw0_Num.f t126).bind fun t142 => (if t142 = 701 then ((GBase.ossuarylaw0_Num.f bt133.2).bind fun t143 => (some (t143 == 700))) else (some false))) else (some false))) else (some false)))) = some r := by first | (rw [hy130]; with_reducible exact H) | (have H2_ := (Option.bind_some _ _).symm.trans H; rw [hy130]; with_reducible exact H2_) | (have H2_ := (Option.bind_some _ _).symm.trans H; with_reducible exact H2_) | with_reducible exact H | (rw [hy130]; exact H) | exact H
 have Ny130 := mk0 hy130
 clear hy130
 replace H := Option.bind_eq_some_iff.mp H
 obtain ⟨⟨t133, t136⟩, A30, H⟩ := H
 replace H : ((GVec.ossuarylaw0_SameTexts.f k t113 (([(⟨#[97]⟩ : ByteArray), (⟨#[98]⟩ : ByteArray)] : List ByteArray))).bind fun t140 => (if t140 = true then ((GBase.ossuarylaw0_Num.f t116).bind fun t141 => (if t141 = 0 then ((GBase.ossuarylaw0_Num.f t126).bind fun t142 => (if t142 = 701 then ((GBase.ossuarylaw0_Num.f t136).bind fun t143 => (some (t143 == 700))) else (some false))) else (some false))) else (some false))) = some r := H
 have A3 := mk0 A30
 clear A30
 obtain ⟨y137, hy137⟩ : ∃ y_ : List ByteArray, y_ = (([(⟨#[97]⟩ : ByteArray), (⟨#[98]⟩ : ByteArray)] : List ByteArray)) := ⟨_, rfl⟩
 replace H : ((GVec.ossuarylaw0_SameTexts.f k t113 y137).bind fun t140 => (if t140 = true then ((GBase.ossuarylaw0_Num.f t116).bind fun t141 => (if t141 = 0 then ((GBase.ossuarylaw0_Num.f t126).bind fun t142 => (if t142 = 701 then ((GBase.ossuarylaw0_Num.f t136).bind fun t143 => (some (t143 == 700))) else (some false))) else (some false))) else (some false))) = some r := by first | (rw [hy137]; with_reducible exact H) | (have H2_ := (Option.bind_some _ _).symm.trans H; rw [hy137]; with_reducible exact H2_) | (have H2_ := (Option.bind_some _ _).symm.trans H; with_reducible exact H2_) | with_reducible exact H | (rw [hy137]; exact H) | exact H
 have Ny137 := mk0 hy137
 clear hy137
 replace H := Option.bind_eq_some_iff.mp H
 obtain ⟨t140, A40, H⟩ := H
 replace H : (if t140 = true then ((GBase.ossuarylaw0_Num.f t116).bind fun t141 => (if t141 = 0 then ((GBase.ossuarylaw0_Num.f t126).bind fun t142 => (if t142 = 701 then ((GBase.ossuarylaw0_Num.f t136).bind fun t143 => (some (t143 == 700))) else (some false))) else (some false))) else (some false)) = some r := H
 have A4 := mk0 A40
 clear A40
 by_cases c5 : t140 = true
 ·subst c5
  have H1 : ((GBase.ossuarylaw0_Num.f t116).bind fun t141 => (if t141 = 0 then ((GBase.ossuarylaw0_Num.f t126).bind fun t142 => (if t142 = 701 then ((GBase.ossuarylaw0_Num.f t136).bind fun t143 => (some (t143 == 700))) else (some false))) else (some false))) = some r := by rw [if_pos rfl] at H; exact H
  clear H
  have H := H1
  clear H1
  replace H := Option.bind_eq_some_iff.mp H
  obtain ⟨t141, A60, H⟩ := H
  replace H : (if t141 = 0 then ((GBase.ossuarylaw0_Num.f t126).bind fun t142 => (if t142 = 701 then ((GBase.ossuarylaw0_Num.f t136).bind fun t143 => (some (t143 == 700))) else (some false))) else (some false)) = some r := H
  have A6 := mk0 A60
  clear A60
  by_cases c7 : t141 = 0
  ·rw [if_pos c7] at H
   have c7b0 : (t141 == 0) = true := beq_iff_eq.mpr c7
   have c7b1 : (t141 != 0) = false := bne_eq_false_iff_eq.mpr c7
   clear c7
   replace H := Option.bind_eq_some_iff.mp H
   obtain ⟨t142, A80, H⟩ := H
   replace H : (if t142 = 701 then ((GBase.ossuarylaw0_Num.f t136).bind fun t143 => (some (t143 == 700))) else (some false)) = some r := H
   have A8 := mk0 A80
   clear A80
   by_cases c9 : t142 = 701
   ·rw [if_pos c9] at H
    have c9b0 : (t142 == 701) = true := beq_iff_eq.mpr c9
    have c9b1 : (t142 != 701) = false := bne_eq_false_iff_eq.mpr c9
    clear c9
    replace H := Option.bind_eq_some_iff.mp H
    obtain ⟨t143, A100, H⟩ := H
    replace H : (some (t143 == 700)) = some r := H
    have A10 := mk0 A100
    clear A100
    obtain rfl := Option.some.inj H
    go_enter Try.func55, Try.ntmps55
    go_wp2_with (first | ((with_reducible refine gate_dst (N := 1) rfl ?_); refine box_event uX (N := 1) uX (cs := #[.int .i64 0, .int .i64 0]) (t := 51) uM ?_; intro gb106 hg w11 hbox hb; have BK106 := mk0 (hbox); have GW106 := mk0 (nB hg HB); have GE106 := mk0 (nB hg HB); replace HB := mk0 (below_step uu hb); clear hb hbox hg; have hcz12_0 : w11.cell? ⟨gb106, 0, none⟩ = some (.int .i64 0) := (blk_cell BK106.out 0).trans rfl; have hcz12_1 : w11.cell? ⟨gb106, 1, none⟩ = some (.int .i64 0) := (blk_cell BK106.out 1).trans rfl; have hfz12_0 := blk_frozen BK106.out 0; have hfz12_1 := blk_frozen BK106.out 1) | ((with_reducible refine gate_dst (N := 11) rfl ?_); refine Kd.R_lit Kd.string _ 9 ?hg (N := 11) ?hd (xs := ([(⟨#[]⟩ : ByteArray), (⟨#[98]⟩ : ByteArray), (⟨#[103]⟩ : ByteArray)] : List ByteArray)) (inner := [.string (⟨#[]⟩ : ByteArray), .string (⟨#[98]⟩ : ByteArray), .string (⟨#[103]⟩ : ByteArray)]) (ok := fun _ => True) (okp := fun _ => True) ?hr ?hp (fun _ hk => hk) trivial (Below.refl _ _) (Nat.le_refl _) qb ?_; (case hd => rfl); (case hg => rfl); (case hr => first | (go_simp; done) | (go_simp; rfl)); (case hp => exact (Reps.one (show Kd.M Kd.string _ _ _ (⟨#[]⟩ : ByteArray) [.string (⟨#[]⟩ : ByteArray)] from rfl) (Reps.one (show Kd.M Kd.string _ _ _ (⟨#[98]⟩ : ByteArray) [.string (⟨#[98]⟩ : ByteArray)] from rfl) (Reps.one (show Kd.M Kd.string _ _ _ (⟨#[103]⟩ : ByteArray) [.string (⟨#[103]⟩ : ByteArray)] from rfl) (Reps.none _ _))))); intro v108 w13 ho14 hb hg_ hnew_; clear hg_ hnew_; (first | rw [← Ny107.out] at ho14 | (simp only [Int.reduceToNat] at ho14; rw [← Ny107.out] at ho14)); have HO109 := mk0 (Kd.R_lower ho14 (below_size uY)); replace BK106 := mk0 (blk_below (g := gb106) (o := .cells #[.int .i64 2, .int .i64 1] 51 (0, 0)) (by refine bB ?_; refine blk_put (cs := #[.int .i64 2, .int .i64 0]) ?_ 1 _ rfl; refine bB ?_; refine blk_put (cs := #[.int .i64 0, .int .i64 0]) ?_ 0 _ rfl; refine bB ?_; exact BK106.out) hb); replace HB := mk0 (below_step uY hb); clear hb ho14) | ((with_reducible refine gate_dst (N := 12) rfl ?_); refine Kd.R_lit Kd.bool _ 4 ?hg (N := 12) ?hd (xs := ([false, true, true] : List Bool)) (inner := [.bool false, .bool true, .bool true]) (ok := fun _ => True) (okp := fun _ => True) ?hr ?hp (fun _ hk => hk) trivial (Below.refl _ _) (Nat.le_refl _) qb ?_; (case hd => rfl); (case hg => rfl); (case hr => first | (go_simp; done) | (go_simp; rfl)); (case hp => exact (Reps.one (show Kd.M Kd.bool _ _ _ false [.bool false] from rfl) (Reps.one (show Kd.M Kd.bool _ _ _ true [.bool true] from rfl) (Reps.one (show Kd.M Kd.bool _ _ _ true [.bool true] from rfl) (Reps.none _ _))))); intro v111 w15 ho16 hb hg_ hnew_; clear hg_ hnew_; (first | rw [← Ny110.out] at ho16 | (simp only [Int.reduceToNat] at ho16; rw [← Ny110.out] at ho16)); replace HO109 := mk0 (Kd.R_below (rB HO109.out) hb); have HO112 := mk0 (Kd.R_lower ho16 (below_size uY)); replace BK106 := bK BK106 hb; replace HB := mk0 (below_step uY hb); clear hb ho16; obtain ⟨Ao17, co17, eo17⟩ := Kd.R_slice HO109.out; subst eo17; obtain ⟨Ao18, co18, eo18⟩ := Kd.R_slice HO112.out; subst eo18) | ((with_reducible refine gCa (f := 53) rfl ?_); refine goesL_ (some 13) rfl rfl Try.func53 uU rfl #[.agg #[.int .i64 2, .int .i64 1], .slice Ao17 y107.length co17, .slice Ao18 y110.length co18] rfl ui ?_; (with_reducible refine (GEnc.decode_Decode.calls k 2 1 _ _ y107 _ _ y110 t113 t116 _ ?side1 ?side2 ?side3 ?side4 A1.out).mono ?_); (case side1 => exact cB (Kd.R_reads' HO109.out).2.2); (case side2 => exact (Kd.R_reads' HO109.out).2.1); (case side3 => exact cB (Kd.R_reads' HO112.out).2.2); (case side4 => exact (Kd.R_reads' HO112.out).2.1); rintro e w19 ⟨v114, rfl, ho0, hb⟩; refine ⟨_, rfl, ?_⟩; replace HO112 := mk0 (Kd.R_below (rB HO112.out) hb); have HO115 := mk0 (Kd.R_lower (Kd.R_new' ho0 (Kd.R_lt (rB HO109.out))) (below_size uY)); replace HO109 := mk0 (Kd.R_elder' (rB HO109.out) (Kd.R_base ho0) hb); replace BK106 := bK BK106 hb; replace HB := mk0 (below_step uY hb); (try clear hb); (try clear hb2); (try clear hk); (try clear hi); (try clear ho0); have hcz20_0 : w19.cell? ⟨gb106, 0, none⟩ = some (.int .i64 2) := (blk_cell BK106.out 0).trans rfl; have hcz20_1 : w19.cell? ⟨gb106, 1, none⟩ = some (.int .i64 1) := (blk_cell BK106.out 1).trans rfl; have hfz20_0 := blk_frozen BK106.out 0; have hfz20_1 := blk_frozen BK106.out 1) | ((with_reducible refine gate_dst (N := 18) rfl ?_); refine Kd.R_lit Kd.string _ 9 ?hg (N := 18) ?hd (xs := ([(⟨#[]⟩ : ByteArray), (⟨#[98]⟩ : ByteArray), (⟨#[]⟩ : ByteArray)] : List ByteArray)) (inner := [.string (⟨#[]⟩ : ByteArray), .string (⟨#[98]⟩ : ByteArray), .string (⟨#[]⟩ : ByteArray)]) (ok := fun _ => True) (okp := fun _ => True) ?hr ?hp (fun _ hk => hk) trivial (Below.refl _ _) (Nat.le_refl _) qb ?_; (case hd => rfl); (case hg => rfl); (case hr => first | (go_simp; done) | (go_simp; rfl)); (case hp => exact (Reps.one (show Kd.M Kd.string _ _ _ (⟨#[]⟩ : ByteArray) [.string (⟨#[]⟩ : ByteArray)] from rfl) (Reps.one (show Kd.M Kd.string _ _ _ (⟨#[98]⟩ : ByteArray) [.string (⟨#[98]⟩ : ByteArray)] from rfl) (Reps.one (show Kd.M Kd.string _ _ _ (⟨#[]⟩ : ByteArray) [.string (⟨#[]⟩ : ByteArray)] from rfl) (Reps.none _ _))))); intro v118 w21 ho22 hb hg_ hnew_; clear hg_ hnew_; (first | rw [← Ny117.out] at ho22 | (simp only [Int.reduceToNat] at ho22; rw [← Ny117.out] at ho22)); replace HO112 := mk0 (Kd.R_below (rB HO112.out) hb); have HO119 := mk0 (Kd.R_lower (Kd.R_new' (Kd.R_new' ho22 (Kd.R_lt (rB HO109.out))) (Kd.R_lt (rB HO115.out))) (below_size uY)); replace HO109 := mk0 (Kd.R_elder' (rB HO109.out) (Kd.R_base ho22) hb); replace HO115 := mk0 (Kd.R_elder' (rB HO115.out) (Kd.R_base ho22) hb); replace BK106 := bK BK106 hb; replace HB := mk0 (below_step uY hb); clear hb ho22) | ((with_reducible refine gate_dst (N := 19) rfl ?_); refine Kd.R_lit Kd.bool _ 4 ?hg (N := 19) ?hd (xs := ([false, true, false] : List Bool)) (inner := [.bool false, .bool true, .bool false]) (ok := fun _ => True) (okp := fun _ => True) ?hr ?hp (fun _ hk => hk) trivial (Below.refl _ _) (Nat.le_refl _) qb ?_; (case hd => rfl); (case hg => rfl); (case hr => first | (go_simp; done) | (go_simp; rfl)); (case hp => exact (Reps.one (show Kd.M Kd.bool _ _ _ false [.bool false] from rfl) (Reps.one (show Kd.M Kd.bool _ _ _ true [.bool true] from rfl) (Reps.one (show Kd.M Kd.bool _ _ _ false [.bool false] from rfl) (Reps.none _ _))))); intro v121 w23 ho24 hb hg_ hnew_; clear hg_ hnew_; (first | rw [← Ny120.out] at ho24 | (simp only [Int.reduceToNat] at ho24; rw [← Ny120.out] at ho24)); replace HO109 := mk0 (Kd.R_below (rB HO109.out) hb); replace HO115 := mk0 (Kd.R_below (rB HO115.out) hb); replace HO119 := mk0 (Kd.R_below (rB HO119.out) hb); have HO122 := mk0 (Kd.R_lower (Kd.R_new' ho24 (Kd.R_lt (rB HO112.out))) (below_size uY)); replace HO112 := mk0 (Kd.R_elder' (rB HO112.out) (Kd.R_base ho24) hb); replace BK106 := bK BK106 hb; replace HB := mk0 (below_step uY hb); clear hb ho24; obtain ⟨Ao25, co25, eo25⟩ := Kd.R_slice HO119.out; subst eo25; obtain ⟨Ao26, co26, eo26⟩ := Kd.R_slice HO122.out; subst eo26) | ((with_reducible refine gCa (f := 53) rfl ?_); refine goesL_ (some 20) rfl rfl Try.func53 uU rfl #[.agg #[.int .i64 2, .int .i64 1], .slice Ao25 y117.length co25, .slice Ao26 y120.length co26] rfl ui ?_; (with_reducible refine (GEnc.decode_Decode.calls k 2 1 _ _ y117 _ _ y120 t123 t126 _ ?side1 ?side2 ?side3 ?side4 A2.out).mono ?_); (case side1 => exact cB (Kd.R_reads' HO119.out).2.2); (case side2 => exact (Kd.R_reads' HO119.out).2.1); (case side3 => exact cB (Kd.R_reads' HO122.out).2.2); (case side4 => exact (Kd.R_reads' HO122.out).2.1); rintro e w27 ⟨v124, rfl, ho0, hb⟩; refine ⟨_, rfl, ?_⟩; replace HO112 := mk0 (Kd.R_below (rB HO112.out) hb); replace HO122 := mk0 (Kd.R_below (rB HO122.out) hb); have HO125 := mk0 (Kd.R_lower (Kd.R_new' (Kd.R_new' (Kd.R_new' ho0 (Kd.R_lt (rB HO109.out))) (Kd.R_lt (rB HO115.out))) (Kd.R_lt (rB HO119.out))) (below_size uY)); replace HO109 := mk0 (Kd.R_elder' (rB HO109.out) (Kd.R_base ho0) hb); replace HO115 := mk0 (Kd.R_elder' (rB HO115.out) (Kd.R_base ho0) hb); replace HO119 := mk0 (Kd.R_elder' (rB HO119.out) (Kd.R_base ho0) hb); replace BK106 := bK BK106 hb; replace HB := mk0 (below_step uY hb); (try clear hb); (try clear hb2); (try clear hk); (try clear hi); (try clear ho0); have hcz28_0 : w27.cell? ⟨gb106, 0, none⟩ = some (.int .i64 2) := (blk_cell BK106.out 0).trans rfl; have hcz28_1 : w27.cell? ⟨gb106, 1, none⟩ = some (.int .i64 1) := (blk_cell BK106.out 1).trans rfl; have hfz28_0 := blk_frozen BK106.out 0; have hfz28_1 := blk_frozen BK106.out 1) | ((with_reducible refine gate_dst (N := 25) rfl ?_); refine Kd.R_lit Kd.string _ 9 ?hg (N := 25) ?hd (xs := ([(⟨#[]⟩ : ByteArray), (⟨#[98]⟩ : ByteArray)] : List ByteArray)) (inner := [.string (⟨#[]⟩ : ByteArray), .string (⟨#[98]⟩ : ByteArray)]) (ok := fun _ => True) (okp := fun _ => True) ?hr ?hp (fun _ hk => hk) trivial (Below.refl _ _) (Nat.le_refl _) qb ?_; (case hd => rfl); (case hg => rfl); (case hr => first | (go_simp; done) | (go_simp; rfl)); (case hp => exact (Reps.one (show Kd.M Kd.string _ _ _ (⟨#[]⟩ : ByteArray) [.string (⟨#[]⟩ : ByteArray)] from rfl) (Reps.one (show Kd.M Kd.string _ _ _ (⟨#[98]⟩ : ByteArray) [.string (⟨#[98]⟩ : ByteArray)] from rfl) (Reps.none _ _)))); intro v128 w29 ho30 hb hg_ hnew_; clear hg_ hnew_; (first | rw [← Ny127.out] at ho30 | (simp only [Int.reduceToNat] at ho30; rw [← Ny127.out] at ho30)); replace HO112 := mk0 (Kd.R_below (rB HO112.out) hb); replace HO122 := mk0 (Kd.R_below (rB HO122.out) hb); have HO129 := mk0 (Kd.R_lower (Kd.R_new' (Kd.R_new' (Kd.R_new' (Kd.R_new' ho30 (Kd.R_lt (rB HO109.out))) (Kd.R_lt (rB HO115.out))) (Kd.R_lt (rB HO119.out))) (Kd.R_lt (rB HO125.out))) (below_size uY)); replace HO109 := mk0 (Kd.R_elder' (rB HO109.out) (Kd.R_base ho30) hb); replace HO115 := mk0 (Kd.R_elder' (rB HO115.out) (Kd.R_base ho30) hb); replace HO119 := mk0 (Kd.R_elder' (rB HO119.out) (Kd.R_base ho30) hb); replace HO125 := mk0 (Kd.R_elder' (rB HO125.out) (Kd.R_base ho30) hb); replace BK106 := bK BK106 hb; replace HB := mk0 (below_step uY hb); clear hb ho30) | ((with_reducible refine gate_dst (N := 26) rfl ?_); refine Kd.R_lit Kd.bool _ 4 ?hg (N := 26) ?hd (xs := ([false, true] : List Bool)) (inner := [.bool false, .bool true]) (ok := fun _ => True) (okp := fun _ => True) ?hr ?hp (fun _ hk => hk) trivial (Below.refl _ _) (Nat.le_refl _) qb ?_; (case hd => rfl); (case hg => rfl); (case hr => first | (go_simp; done) | (go_simp; rfl)); (case hp => exact (Reps.one (show Kd.M Kd.bool _ _ _ false [.bool false] from rfl) (Reps.one (show Kd.M Kd.bool _ _ _ true [.bool true] from rfl) (Reps.none _ _)))); intro v131 w31 ho32 hb hg_ hnew_; clear hg_ hnew_; (first | rw [← Ny130.out] at ho32 | (simp only [Int.reduceToNat] at ho32; rw [← Ny130.out] at ho32)); replace HO109 := mk0 (Kd.R_below (rB HO109.out) hb); replace HO115 := mk0 (Kd.R_below (rB HO115.out) hb); replace HO119 := mk0 (Kd.R_below (rB HO119.out) hb); replace HO125 := mk0 (Kd.R_below (rB HO125.out) hb); replace HO129 := mk0 (Kd.R_below (rB HO129.out) hb); have HO132 := mk0 (Kd.R_lower (Kd.R_new' (Kd.R_new' ho32 (Kd.R_lt (rB HO112.out))) (Kd.R_lt (rB HO122.out))) (below_size uY)); replace HO112 := mk0 (Kd.R_elder' (rB HO112.out) (Kd.R_base ho32) hb); replace HO122 := mk0 (Kd.R_elder' (rB HO122.out) (Kd.R_base ho32) hb); replace BK106 := bK BK106 hb; replace HB := mk0 (below_step uY hb); clear hb ho32; obtain ⟨Ao33, co33, eo33⟩ := Kd.R_slice HO129.out; subst eo33; obtain ⟨Ao34, co34, eo34⟩ := Kd.R_slice HO132.out; subst eo34) | ((with_reducible refine gCa (f := 53) rfl ?_); refine goesL_ (some 27) rfl rfl Try.func53 uU rfl #[.agg #[.int .i64 2, .int .i64 1], .slice Ao33 y127.length co33, .slice Ao34 y130.length co34] rfl ui ?_; (with_reducible refine (GEnc.decode_Decode.calls k 2 1 _ _ y127 _ _ y130 t133 t136 _ ?side1 ?side2 ?side3 ?side4 A3.out).mono ?_); (case side1 => exact cB (Kd.R_reads' HO129.out).2.2); (case side2 => exact (Kd.R_reads' HO129.out).2.1); (case side3 => exact cB (Kd.R_reads' HO132.out).2.2); (case side4 => exact (Kd.R_reads' HO132.out).2.1); rintro e w35 ⟨v134, rfl, ho0, hb⟩; refine ⟨_, rfl, ?_⟩; replace HO112 := mk0 (Kd.R_below (rB HO112.out) hb); replace HO122 := mk0 (Kd.R_below (rB HO122.out) hb); replace HO132 := mk0 (Kd.R_below (rB HO132.out) hb); have HO135 := mk0 (Kd.R_lower (Kd.R_new' (Kd.R_new' (Kd.R_new' (Kd.R_new' (Kd.R_new' ho0 (Kd.R_lt (rB HO109.out))) (Kd.R_lt (rB HO115.out))) (Kd.R_lt (rB HO119.out))) (Kd.R_lt (rB HO125.out))) (Kd.R_lt (rB HO129.out))) (below_size uY)); replace HO109 := mk0 (Kd.R_elder' (rB HO109.out) (Kd.R_base ho0) hb); replace HO115 := mk0 (Kd.R_elder' (rB HO115.out) (Kd.R_base ho0) hb); replace HO119 := mk0 (Kd.R_elder' (rB HO119.out) (Kd.R_base ho0) hb); replace HO125 := mk0 (Kd.R_elder' (rB HO125.out) (Kd.R_base ho0) hb); replace HO129 := mk0 (Kd.R_elder' (rB HO129.out) (Kd.R_base ho0) hb); replace BK106 := bK BK106 hb; replace HB := mk0 (below_step uY hb); (try clear hb); (try clear hb2); (try clear hk); (try clear hi); (try clear ho0)) | ((with_reducible refine gate_dst (N := 31) rfl ?_); refine Kd.R_lit Kd.string _ 9 ?hg (N := 31) ?hd (xs := ([(⟨#[97]⟩ : ByteArray), (⟨#[98]⟩ : ByteArray)] : List ByteArray)) (inner := [.string (⟨#[97]⟩ : ByteArray), .string (⟨#[98]⟩ : ByteArray)]) (ok := fun _ => True) (okp := fun _ => True) ?hr ?hp (fun _ hk => hk) trivial (Below.refl _ _) (Nat.le_refl _) qb ?_; (case hd => rfl); (case hg => rfl); (case hr => first | (go_simp; done) | (go_simp; rfl)); (case hp => exact (Reps.one (show Kd.M Kd.string _ _ _ (⟨#[97]⟩ : ByteArray) [.string (⟨#[97]⟩ : ByteArray)] from rfl) (Reps.one (show Kd.M Kd.string _ _ _ (⟨#[98]⟩ : ByteArray) [.string (⟨#[98]⟩ : ByteArray)] from rfl) (Reps.none _ _)))); intro v138 w36 ho37 hb hg_ hnew_; clear hg_ hnew_; (first | rw [← Ny137.out] at ho37 | (simp only [Int.reduceToNat] at ho37; rw [← Ny137.out] at ho37)); replace HO112 := mk0 (Kd.R_below (rB HO112.out) hb); replace HO122 := mk0 (Kd.R_below (rB HO122.out) hb); replace HO132 := mk0 (Kd.R_below (rB HO132.out) hb); have HO139 := mk0 (Kd.R_lower (Kd.R_new' (Kd.R_new' (Kd.R_new' (Kd.R_new' (Kd.R_new' (Kd.R_new' ho37 (Kd.R_lt (rB HO109.out))) (Kd.R_lt (rB HO115.out))) (Kd.R_lt (rB HO119.out))) (Kd.R_lt (rB HO125.out))) (Kd.R_lt (rB HO129.out))) (Kd.R_lt (rB HO135.out))) (below_size uY)); replace HO109 := mk0 (Kd.R_elder' (rB HO109.out) (Kd.R_base ho37) hb); replace HO115 := mk0 (Kd.R_elder' (rB HO115.out) (Kd.R_base ho37) hb); replace HO119 := mk0 (Kd.R_elder' (rB HO119.out) (Kd.R_base ho37) hb); replace HO125 := mk0 (Kd.R_elder' (rB HO125.out) (Kd.R_base ho37) hb); replace HO129 := mk0 (Kd.R_elder' (rB HO129.out) (Kd.R_base ho37) hb); replace HO135 := mk0 (Kd.R_elder' (rB HO135.out) (Kd.R_base ho37) hb); replace BK106 := bK BK106 hb; replace HB := mk0 (below_step uY hb); clear hb ho37; obtain ⟨Ao38, co38, eo38⟩ := Kd.R_slice HO115.out; subst eo38; obtain ⟨Ao39, co39, eo39⟩ := Kd.R_slice HO139.out; subst eo39) | ((with_reducible refine gCa (f := 50) rfl ?_); refine goesL_ (some 32) rfl rfl Try.func50 uU rfl #[.slice Ao38 t113.length co38, .slice Ao39 y137.length co39] rfl ui ?_; (with_reducible refine (GVec.ossuarylaw0_SameTexts.calls k _ _ t113 _ _ y137 true _ ?side1 ?side2 ?side3 ?side4 A4.out).mono ?_); (case side1 => exact cB (Kd.R_reads' HO115.out).2.2); (case side2 => exact (Kd.R_reads' HO115.out).2.1); (case side3 => exact cB (Kd.R_reads' HO139.out).2.2); (case side4 => exact (Kd.R_reads' HO139.out).2.1); rintro e w' ⟨rfl, ⟨nd, rfl⟩⟩; refine ⟨_, rfl, ?_⟩) | (go_at_call 35; (with_reducible refine (GBase.ossuarylaw0_Num.calls t116 t141 _ A6.out).mono ?_); rintro e w' ⟨rfl, ⟨nd, rfl⟩⟩) | (go_at_call 35; (with_reducible refine (GBase.ossuarylaw0_Num.calls t126 t142 _ A8.out).mono ?_); rintro e w' ⟨rfl, ⟨nd, rfl⟩⟩) | (go_at_call 35; (with_reducible refine (GBase.ossuarylaw0_Num.calls t136 t143 _ A10.out).mono ?_); rintro e w' ⟨rfl, ⟨nd, rfl⟩⟩))
    go_ret
    exact ⟨uz, uY⟩
   ·rw [if_neg c9] at H
    have c9b0 : (t142 == 701) = false := beq_eq_false_iff_ne.mpr c9
    have c9b1 : (t142 != 701) = true := bne_iff_ne.mpr c9
    exact absurd ((Option.some.inj H).trans HTrue.out) qa
  ·rw [if_neg c7] at H
   have c7b0 : (t141 == 0) = false := beq_eq_false_iff_ne.mpr c7
   have c7b1 : (t141 != 0) = true := bne_iff_ne.mpr c7
   exact absurd ((Option.some.inj H).trans HTrue.out) qa
 ·replace c5 := Bool.eq_false_iff.mpr c5
  subst c5
  have H1 : (some false) = some r := by rw [if_neg (show ¬ (false = true) by decide)] at H; exact H
  clear H
  have H := H1
  clear H1
  exact absurd ((Option.some.inj H).trans HTrue.out) qa
noncomputable def ossuarylaw7_pieces.l0 : Nat → ByteArray → Int → Int → List ByteArray → Int → Option (List ByteArray)
 | 0, _, _, _, _, _ => none
 | k + 1, x0, x1, x5, x6, x7 => if x7 < x1 then (if 0 ≤ (wrap64 (x5 * x7)) then (if (wrap64 (x5 * x7)) ≤ (wrap64 ((wrap64 (x5 * x7)) + x5)) then (if (wrap64 ((wrap64 (x5 * x7)) + x5)) ≤ (x0.size : Int) then (if x6.length < 8796093022208 then (ossuarylaw7_pieces.l0 k x0 x1 x5 (x6 ++ [x0.extract ((wrap64 (x5 * x7)) : Int).toNat ((wrap64 ((wrap64 (x5 * x7)) + x5)) : Int).toNat]) (wrap64 (x7 + 1))) else (none)) else (none)) else (none)) else (none)) else (some x6)
noncomputable def ossuarylaw7_pieces.f (k : Nat) (a0 : ByteArray) (a1 : Int) : Option (List ByteArray) := if a1 = 0 then (none) else (ossuarylaw7_pieces.l0 k a0 a1 (mn (wrap64 ((a0.size : Int) / a1)) 60) ([] : List ByteArray) 0)
theorem ossuarylaw7_pieces.mono_l : ∀ k, (∀ y0 y1 y2 y3 y4, LeO (ossuarylaw7_pieces.l0 k y0 y1 y2 y3 y4) (ossuarylaw7_pieces.l0 (k + 1) y0 y1 y2 y3 y4))
 | 0 => fun _ _ _ _ _ r h => by simp [ossuarylaw7_pieces.l0] at h
 | k + 1 => by
  have ih0 := ossuarylaw7_pieces.mono_l k
  ·intro y0 y1 y2 y3 y4
   unfold ossuarylaw7_pieces.l0
   repeat' with_reducible first | exact ih0 _ _ _ _ _ | exact LeO.refl _ | exact LeO.none _ | refine LeO.ite ?_ ?_ | refine LeO.bind ?_ (fun _ => ?_)
theorem ossuarylaw7_pieces.mono : ∀ a0 a1 k, LeO (ossuarylaw7_pieces.f k a0 a1) (ossuarylaw7_pieces.f (k + 1) a0 a1) := by
 intro a0 a1 k
 have ih0 := ossuarylaw7_pieces.mono_l k
 unfold ossuarylaw7_pieces.f
 repeat' with_reducible first | exact ih0 _ _ _ _ _ | exact LeO.refl _ | exact LeO.none _ | refine LeO.ite ?_ ?_ | refine LeO.bind ?_ (fun _ => ?_)
set_option maxHeartbeats 8000000 in
set_option maxRecDepth 100000 in
theorem ossuarylaw7_pieces.calls (k : Nat) (a0 : ByteArray) (a1 : Int) (r : List ByteArray) (w : World) (h : ossuarylaw7_pieces.f k a0 a1 = some r) :
  Calls Try.prog 56 #[.string a0, .int .i64 a1] w fun e w' => ∃ v0_ : Value, e = .returned (v0_) ∧ Kd.R Kd.string 9 w' w.heap.size (fun _ => True) v0_ r ∧ Below w.heap.size w w' := by
 have HB := mk0 (Below.refl w.heap.size w)
 have H : (if a1 = 0 then (none) else (ossuarylaw7_pieces.l0 k a0 a1 (mn (wrap64 ((a0.size : Int) / a1)) 60) ([] : List ByteArray) 0)) = some r := h
 clear h
 by_cases c3 : a1 = 0
 ·rw [if_pos c3] at H
  exact absurd H qb
 ·rw [if_neg c3] at H
  have c3b0 : (a1 == 0) = false := beq_eq_false_iff_ne.mpr c3
  have c3b1 : (a1 != 0) = true := bne_iff_ne.mpr c3
  obtain ⟨ji4, hji4⟩ : ∃ j_ : Int, (mn (wrap64 ((a0.size : Int) / a1)) 60) = j_ := ⟨_, rfl⟩
  replace H : (ossuarylaw7_pieces.l0 k a0 a1 ji4 ([] : List ByteArray) 0) = some r := by first | (rw [hji4] at H; exact H) | (simp only [hji4] at H ⊢; exact H)
  (try (have hji4h : ji4 ≤ 60 := by (rw [← hji4]; unfold mn; (repeat' split) <;> omega)))
  (try (have hji4g : ji4 ≤ 64 := by omega))
  have hji4_ : (if 60 < (wrap64 ((a0.size : Int) / a1)) then 60 else (wrap64 ((a0.size : Int) / a1))) = ji4 := hji4
  have H' := mk0 H
  clear H
  go_enter Try.func56, Try.ntmps56
  go_wp2
  go_loopg [6, 7] k (fun kq v6 v7 w' => ∃ (x6_1 : List ByteArray) (x7_1 : Int), v7 = .int .i64 x7_1 ∧ Aside0 (ossuarylaw7_pieces.l0 kq a0 a1 ji4 x6_1 x7_1 = some r) ∧ Aside0 (kq ≤ k) ∧ Aside0 (Kd.R Kd.string 9 w' w.heap.size (fun _ => True) v6 x6_1) ∧ Aside0 (Below w.heap.size w w'))
  case atStart => exact ⟨(([] : List ByteArray)), (0), uK, H', ⟨Nat.le_refl _⟩, ⟨uh⟩, ⟨uu⟩⟩
  case round =>
   clear H'
   try clear p2
   try clear c3
   try clear c3b0
   try clear c3b1
   obtain ⟨x6_1, x7_1, rfl, HA, HK1, HO_6, HB⟩ := hrel
   cases gk with
   | zero => exact absurd HA.out (by simp [ossuarylaw7_pieces.l0])
   | succ k1 =>
    have H := HA.out
    clear HA
    simp only [ossuarylaw7_pieces.l0] at H
    by_cases c5 : x7_1 < a1
    ·rw [if_pos c5] at H
     have c5b0 : decide (x7_1 < a1) = true := decide_eq_true c5
     clear c5
     obtain ⟨ji6, hji6⟩ : ∃ j_ : Int, (wrap64 (ji4 * x7_1)) = j_ := ⟨_, rfl⟩
     replace H : (if 0 ≤ (ji6) then (if (ji6) ≤ (wrap64 ((ji6) + ji4)) then (if (wrap64 ((ji6) + ji4)) ≤ (a0.size : Int) then (if x6_1.length < 8796093022208 then (ossuarylaw7_pieces.l0 k1 a0 a1 ji4 (x6_1 ++ [a0.extract ((ji6) : Int).toNat ((wrap64 ((ji6) + ji4)) : Int).toNat]) (wrap64 (x7_1 + 1))) else (none)) else (none)) else (none)) else (none)) = some r := by first | (rw [hji6] at H; exact H) | (simp only [hji6] at H ⊢; exact H)
     have hji6w : (IntKind.i64.wrap (ji4 * x7_1)) = ji6 := (i64_w _).trans hji6
     by_cases c7 : 0 ≤ (ji6)
     ·rw [if_pos c7] at H
      have c7b0 := eq_true c7
      have c7b1 : decide (0 ≤ (ji6)) = true := decide_eq_true c7
      clear c7
      by_cases c8 : (ji6) ≤ (wrap64 ((ji6) + ji4))
      ·rw [if_pos c8] at H
       have c8b0 := eq_true c8
       have c8b1 : decide ((ji6) ≤ (wrap64 ((ji6) + ji4))) = true := decide_eq_true c8
       by_cases c9 : (wrap64 ((ji6) + ji4)) ≤ (a0.size : Int)
       ·rw [if_pos c9] at H
        have c9b0 := eq_true c9
        have c9b1 : decide ((wrap64 ((ji6) + ji4)) ≤ (a0.size : Int)) = true := decide_eq_true c9
        by_cases c10 : x6_1.length < 8796093022208
        ·rw [if_pos c10] at H
         have LMc10 := mk0 c10
         clear c10
         obtain ⟨y144, hy144⟩ : ∃ y_ : List ByteArray, y_ = (x6_1 ++ [a0.extract ((ji6) : Int).toNat ((wrap64 ((ji6) + ji4)) : Int).toNat]) := ⟨_, rfl⟩
         replace H : (ossuarylaw7_pieces.l0 k1 a0 a1 ji4 y144 (wrap64 (x7_1 + 1))) = some r := by first | (rw [hy144]; with_reducible exact H) | (have H2_ := (Option.bind_some _ _).symm.trans H; rw [hy144]; with_reducible exact H2_) | (have H2_ := (Option.bind_some _ _).symm.trans H; with_reducible exact H2_) | with_reducible exact H | (rw [hy144]; exact H) | exact H
         have Ny144 := mk0 hy144
         clear hy144
         have H' := mk0 H
         clear H
         go_wp2_with (first | ((with_reducible refine gBu (b := .append) (xs := #[.tmp 18, .tmp 29]) rfl ?_); at_builtin; refine Kd.R_append Kd.string (w0 := w) w.heap.size rfl (.tmp 18) (.tmp 29) 58 9 (.string ⟨#[]⟩) 16 rfl Try.underlying58 info9 rfl qa uW u6 x6_1 (a0.extract ((ji6) : Int).toNat ((wrap64 ((ji6) + ji4)) : Int).toNat) [.string (a0.extract ((ji6) : Int).toNat ((wrap64 ((ji6) + ji4)) : Int).toNat)] (fun _ => True) (fun _ => False) rfl rfl ?aP (fun _ hk => hk.elim) ?aF ?aO ?aB ?aS ?aL ?_; (case aP => exact rfl); (case aB => exact uu); (case aF => exact (fun _ _ => trivial)); (case aO => exact (rB HO_6.out)); (case aS => exact (below_size uu)); (case aL => have := LMc10.out; omega); intro v145 w11 ho hb hg hat; rw [← Ny144.out] at ho; replace HB := mk0 (hb); have HO146 := mk0 (ho); clear HO_6; clear ho hb hg hat))
         go_roundg k1
         case measure => have := HK1.out; omega
         case rel => exact ⟨(y144), (wrap64 (x7_1 + 1)), uK, H', ⟨uR⟩, ⟨rB HO146.out⟩, ⟨uu⟩⟩
        ·rw [if_neg c10] at H
         exact absurd H qb
       ·rw [if_neg c9] at H
        exact absurd H qb
      ·rw [if_neg c8] at H
       exact absurd H qb
     ·rw [if_neg c7] at H
      exact absurd H qb
    ·rw [if_neg c5] at H
     have c5b0 : decide (x7_1 < a1) = false := decide_eq_false c5
     clear c5
     obtain rfl := Option.some.inj H
     go_wp2
     go_ret
     exact ⟨_, by first | rfl | (simp [errW_none, errW_some] <;> rfl) | (simp only [← hji4]; first | rfl | (simp [errW_none, errW_some] <;> rfl)) | (simp [*, errW_none, errW_some] <;> rfl), rB HO_6.out, uu⟩
end Go.Proofs.Ytaahnicjjpddjaa.GDecodeFirst
