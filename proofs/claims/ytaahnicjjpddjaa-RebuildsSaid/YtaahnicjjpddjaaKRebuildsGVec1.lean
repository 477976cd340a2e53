/- The program's making of the code's matrix comes to it, at every shape. Plain algebra; no condition. The reference's making of the code's matrix: what it comes to. Plain; no condition. Functions of the program as Lean functions, each with a proof that its call comes to what the function says. No condition. -/
import Derived.Test.YtaahnicjjpddjaaKRebuildsGGen2
import Derived.Test.YtaahnicjjpddjaaKRebuildsGRgen1
section
namespace Go.Proofs.Ytaahnicjjpddjaa.Pr
open Go.RowKit Go.Proofs.YtaahnicjjpddjaaW.PrintWords Go.Proofs.YtaahnicjjpddjaaW.PrintLast Go.Proofs.YtaahnicjjpddjaaW.PrintMore Go.Proofs.Ytaahnicjjpddjaa.Fld Go.Proofs.Ytaahnicjjpddjaa.Mat Go.Proofs.Ytaahnicjjpddjaa.Fn Go.Proofs.Ytaahnicjjpddjaa.GGen
theorem toI_num {i : Nat} (h : i < 256) : toI (num i) = (i : Int) := by
  unfold toI num
  rw [BitVec.toNat_ofNat, Nat.mod_eq_of_lt uX]
theorem fmat_take (g : Nat → Nat → F) (n m d : Nat) (h : d ≤ n) : (fmat g n m).take d = fmat g d m := by
  apply List.ext_getElem
  · rw [List.length_take, fmat_length, fmat_length]; omega
  · intro i h1 h2
    rw [List.getElem_take, fmat_get, fmat_get]
theorem genmay_f (d p : Int) : GGf.gen_May.f d p = some (decide (1 ≤ d ∧ d ≤ 4 ∧ 0 ≤ p ∧ p ≤ 2)) := by
  unfold GGf.gen_May.f
  by_cases h1 : d ≥ 1
  · rw [if_pos h1]
    by_cases h2 : d ≤ 4
    · rw [if_pos h2]
      by_cases h3 : p ≥ 0
      · rw [if_pos h3]
        exact congrArg some (decide_eq_decide.2 ⟨fun h => ⟨h1, h2, h3, h⟩, fun h => h.2.2.2⟩)
      · rw [if_neg h3, decide_eq_false (fun h => h3 h.2.2.1)]
    · rw [if_neg h2, decide_eq_false (fun h => h2 h.2.1)]
  · rw [if_neg h1, decide_eq_false (fun h => h1 h.1)]
theorem gen_in (i d n : Nat) (hi : i < n) (hn : n ≤ 12) (hd : d ≤ 12) (p : Int) (acc : List (List Int)) (hacc : acc.length ≤ 12) (e : Nat) :
    ∀ (k j : Nat), j + e = d → e + 20 < k → gen_Matrix.l1 k (i : Int) (partRow (fun j => toI (van num i j)) j d) (n : Int) (i : Int) (d : Int) (j : Int) (d : Int) p acc = gen_Matrix.l0 (k - (e + 1)) (n : Int) (((i + 1 : Nat) : Int)) (d : Int) p (acc ++ [rowOf (fun j => toI (van num i j)) d]) := by
  induction e with
  | zero =>
    intro k j hj hk
    obtain ⟨k, rfl⟩ : ∃ m, k = m + 1 := ⟨k - 1, uX⟩
    simp only [gen_Matrix.l1]
    have e : j = d := by omega
    subst e
    rw [if_neg uX, if_pos uX, succ_wrap i uX, partRow_all]
    rfl
  | succ e ih =>
    intro k j hj hk
    obtain ⟨k, rfl⟩ : ∃ m, k = m + 1 := ⟨k - 1, uX⟩
    simp only [gen_Matrix.l1]
    have hp : GGf.gf_Pow.f k (i : Int) (j : Int) = some (toI (van num i j), 0) := by
      rw [← toI_num (show i < 256 by omega)]
      exact GfsGf.gpow_f uX (num i) j uX
    rw [if_pos uX, hp]
    simp only [Option.bind_some]
    rw [if_pos uX, partRow_length _ _ _ uX, if_pos uX, Int.toNat_natCast, partRow_set (fun j => toI (van num i j)) _ _ uX, succ_wrap j uX, ih k (j + 1) uX uX, show k + 1 - (e + 1 + 1) = k - (e + 1) from by omega]
theorem gen_out (d n : Nat) (h1 : 1 ≤ d) (hd : d ≤ n) (hn : n ≤ 12) (p : Int) (e : Nat) :
    ∀ (k i : Nat), i + e = n → e * (d + 2) + 250 < k → gen_Matrix.l0 k (n : Int) (i : Int) (d : Int) p (fmat (van num) i d) = some (fmat (code d) n d, 0) := by
  induction e with
  | zero =>
    intro k i hi hk
    obtain ⟨k, rfl⟩ : ∃ m, k = m + 1 := ⟨k - 1, uX⟩
    obtain rfl : n = i := by omega
    simp only [gen_Matrix.l0]
    rw [if_neg uX, if_pos uX, fmat_length, if_pos uX, Int.toNat_natCast, fmat_take _ _ _ _ hd, inv_ok h1 uX (back_left uX)]
    simp only [Option.bind_some]
    rw [mul_f uX (van num) (back d) n d d uX hn h1 uX h1 uX]
    rfl
  | succ e ih =>
    intro k i hi hk
    obtain ⟨k, rfl⟩ : ∃ m, k = m + 1 := ⟨k - 1, uX⟩
    have hmul : (e + 1) * (d + 2) = e * (d + 2) + (d + 2) := Nat.succ_mul _ _
    simp only [gen_Matrix.l0]
    rw [if_pos uX, if_pos uX, if_pos uX, Int.toNat_natCast]
    simp only [Option.bind_some, List.length_replicate]
    have h := gen_in i d n uX hn uX p (fmat (van num) i d) uQ d k 0 uX uX
    have e0 : partRow (fun j => toI (van num i j)) 0 d = List.replicate d 0 := by unfold partRow rowOf; simp
    rw [e0] at h
    refine h.trans ?_
    have e1 : fmat (van num) i d ++ [rowOf (fun j => toI (van num i j)) d] = fmat (van num) (i + 1) d := (matOf_succ _ _ _).symm
    rw [e1]
    exact ih _ (i + 1) uX uX
theorem gen_f {k : Nat} (hk : 400 < k) (d p : Nat) (h1 : 1 ≤ d) (h2 : d ≤ 4) (h3 : p ≤ 2) : gen_Matrix.f k (d : Int) (p : Int) = some (fmat (code d) (d + p) d, 0) := by
  unfold gen_Matrix.f
  rw [genmay_f, decide_eq_true ⟨uX, uX, uX, uX⟩]
  simp only [Option.bind_some, if_true]
  unfold GGf.gen_All.f
  rw [wrap64_in uX uX, Option.bind_some, show (d : Int) + (p : Int) = ((d + p : Nat) : Int) from rfl]
  have hmul : (d + p) * (d + 2) ≤ 6 * 6 := Nat.mul_le_mul uX uX
  exact gen_out d (d + p) h1 uX uX (p : Int) (d + p) k 0 uX uX
theorem gen_no {k : Nat} (d p : Int) (h : ¬ (1 ≤ d ∧ d ≤ 4 ∧ 0 ≤ p ∧ p ≤ 2)) : gen_Matrix.f k d p = some ([], 500) := by
  unfold gen_Matrix.f
  rw [genmay_f, decide_eq_false h]
  simp
/-- by hand. -/
theorem code_lit (d n : Nat) (hd : d ≤ 12) (L : List (List Int)) (hL : fmat (ent L) n d = L) (h : ∀ i, i < n → ∀ j, j < d → mm d (ent L) (van num) i j = van num i j) : fmat (code d) n d = L := by
  rw [← hL]
  exact fmat_congr _ _ _ _ (fun i j hi hj => (code_one hd (ent L) i (h i hi) j hj).symm)
end Go.Proofs.Ytaahnicjjpddjaa.Pr
end
section
namespace Go.Proofs.Ytaahnicjjpddjaa.Pr
open Go.RowKit Go.Proofs.YtaahnicjjpddjaaW.PrintWords Go.Proofs.YtaahnicjjpddjaaW.PrintLast Go.Proofs.YtaahnicjjpddjaaW.PrintMore Go.Proofs.Ytaahnicjjpddjaa.Fld Go.Proofs.Ytaahnicjjpddjaa.Mat Go.Proofs.Ytaahnicjjpddjaa.Fn
theorem rdG (m : List (List Int)) (i : Nat) (h : i < m.length) : GRgen.rd_L1 m (i : Int) = m[i] := by
  show m.getD (i : Int).toNat [] = m[i]
  rw [Int.toNat_natCast, getD_get _ _ _ h]
theorem rg_1 (n d i : Nat) (hi : i < n) (h1 : n ≤ 12) (h2 : d ≤ 12) (p : Int) (R : List (List Int) × Int) (K : Nat)
    (H : ∀ k, K < k → GRgen.ossuaryref1_Gen.l0 k ((i + 1 : Nat) : Int) (d : Int) p (fmat (St (van num) (i + 1) 0 0#8) n d) = some R) (e : Nat) :
    ∀ k j, j + e = d → K + e + 1100 < k → GRgen.ossuaryref1_Gen.l1 k (i : Int) (j : Int) (d : Int) p (fmat (St (van num) i j 0#8) n d) = some R := by
  induction e with
  | zero =>
    intro k j hj hk
    obtain ⟨k, rfl⟩ : ∃ m, k = m + 1 := ⟨k - 1, uX⟩
    obtain rfl : j = d := by omega
    simp only [GRgen.ossuaryref1_Gen.l1]
    rw [if_neg uX, succ_wrap i uX, St_row]
    exact H k uX
  | succ e ih =>
    intro k j hj hk
    obtain ⟨k, rfl⟩ : ∃ m, k = m + 1 := ⟨k - 1, uX⟩
    have ih' := ih k (j + 1) uX uX
    have hp : GRef.ossuaryref1_Pow.f k (i : Int) (j : Int) = some (toI (van num i j), 0) := by
      rw [← toI_num (show i < 256 by omega)]
      exact RefGf.rPow_f uX (num i) j uX
    simp only [GRgen.ossuaryref1_Gen.l1]
    rw [if_pos uX, hp]
    simp only [Option.bind_some]
    rw [rdG _ i uQ, fmat_get, rowOf_length, fmat_length, if_pos uX, if_pos uX, if_pos uX, if_pos uX, Int.toNat_natCast, Int.toNat_natCast, fmat_setAt, St_set, St_next, succ_wrap j uX]
    exact ih'
theorem rg_0 (n d : Nat) (hd1 : 1 ≤ d) (hdn : d ≤ n) (h1 : n ≤ 12) (p : Int) (e : Nat) :
    ∀ k i, i + e = n → e * 1200 + 8000 < k → GRgen.ossuaryref1_Gen.l0 k (i : Int) (d : Int) p (fmat (St (van num) i 0 0#8) n d) = some (fmat (code d) n d, 0) := by
  induction e with
  | zero =>
    intro k i hi hk
    obtain ⟨k, rfl⟩ : ∃ m, k = m + 1 := ⟨k - 1, uX⟩
    obtain rfl : i = n := by omega
    simp only [GRgen.ossuaryref1_Gen.l0]
    rw [St_all, fmat_length, if_neg uX, if_pos uX, if_pos uX, Int.toNat_natCast, fmat_take _ _ _ _ hdn, inv_ok hd1 uX (back_left uX)]
    simp only [Option.bind_some]
    rw [rmulM_f uX (van num) (back d) i d d uX h1 hd1 uX hd1 uX]
    rfl
  | succ e ih =>
    intro k i hi hk
    obtain ⟨k, rfl⟩ : ∃ m, k = m + 1 := ⟨k - 1, uX⟩
    simp only [GRgen.ossuaryref1_Gen.l0]
    rw [fmat_length, if_pos uX]
    exact rg_1 n d i uX h1 uX p _ (e * 1200 + 8000) (fun k hk' => ih k (i + 1) uX hk') d k 0 uX uX
theorem rshape_f (d p : Int) : GRef.ossuaryref1_ShapeMay.f d p = some (decide (1 ≤ d ∧ d ≤ 4 ∧ 0 ≤ p ∧ p ≤ 2)) := genmay_f d p
theorem rgen_f {k : Nat} (hk : 20000 < k) (d p : Nat) (h1 : 1 ≤ d) (h2 : d ≤ 4) (h3 : p ≤ 2) : GRgen.ossuaryref1_Gen.f k (d : Int) (p : Int) = some (fmat (code d) (d + p) d, 0) := by
  unfold GRgen.ossuaryref1_Gen.f
  rw [rshape_f, decide_eq_true ⟨uX, uX, uX, uX⟩]
  simp only [Option.bind_some, if_true]
  rw [wrap64_in uX uX, show (d : Int) + (p : Int) = ((d + p : Nat) : Int) from rfl, blank_f uX (d + p) d uX uX]
  simp only [Option.bind_some]
  rw [St_zero (van num)]
  exact rg_0 (d + p) d h1 uX uX (p : Int) (d + p) k 0 uX uX
end Go.Proofs.Ytaahnicjjpddjaa.Pr
end
section
namespace Go.Proofs.Ytaahnicjjpddjaa.GVec
open Go.RowKit Go.Proofs.YtaahnicjjpddjaaW.PrintWords Go.Proofs.YtaahnicjjpddjaaW.PrintLast
set_option linter.unusedVariables false
set_option linter.unusedSimpArgs false
def errW : Option Int → Value
 | none => .nilIface
 | some c => .iface 0 (.int .i64 c)
theorem errW_none : errW none = .nilIface := rfl
theorem errW_some (c : Int) : errW (some c) = .iface 0 (.int .i64 c) := rfl
theorem info5 : (Try.prog.info? 5).map (fun i => (i.zero, i.size, i.bytes)) = some (some (.int .u8 0), 1, 1) := by kernel_rfl
end Go.Proofs.Ytaahnicjjpddjaa.GVec
end
section
namespace Go.Proofs.Ytaahnicjjpddjaa.GVec
open Go.RowKit Go.Proofs.YtaahnicjjpddjaaW.PrintWords Go.Proofs.YtaahnicjjpddjaaW.PrintLast
set_option linter.unusedVariables false
set_option linter.unusedSimpArgs false
def vec_Alike.l0 : Nat → List ByteArray → List ByteArray → Int → Int → Option (Bool)
 | 0, _, _, _, _ => none
 | k + 1, x0, x5, x6, x7 => if x7 < x6 then (if 0 ≤ x7 then (if x7 < (x5.length : Int) then (if 0 < (x0.length : Int) then (if ((rdOf ByteArray.empty x5 x7).size : Int) = ((rdOf ByteArray.empty x0 0).size : Int) then (if ((rdOf ByteArray.empty x5 x7).size : Int) > 4096 then (some false) else (vec_Alike.l0 k x0 x5 x6 (wrap64 (x7 + 1)))) else (some false)) else (none)) else (none)) else (none)) else (some true)
def vec_Alike.f (k : Nat) (l0 : List ByteArray) : Option (Bool) := vec_Alike.l0 k l0 l0 (l0.length : Int) 0
theorem vec_Alike.mono_l : ∀ k, (∀ y0 y1 y2 y3, LeO (vec_Alike.l0 k y0 y1 y2 y3) (vec_Alike.l0 (k + 1) y0 y1 y2 y3))
 | 0 => fun _ _ _ _ r h => by simp [vec_Alike.l0] at h
 | k + 1 => by
  have ih0 := vec_Alike.mono_l k
  ·intro y0 y1 y2 y3
   unfold vec_Alike.l0
   repeat' with_reducible first | exact ih0 _ _ _ _ | exact LeO.refl _ | exact LeO.none _ | refine LeO.ite ?_ ?_ | refine LeO.bind ?_ (fun _ => ?_)
theorem vec_Alike.mono : ∀ a0 k, LeO (vec_Alike.f k a0) (vec_Alike.f (k + 1) a0) := by
 intro a0 k
 have ih0 := vec_Alike.mono_l k
 unfold vec_Alike.f
 repeat' with_reducible first | exact ih0 _ _ _ _ | exact LeO.refl _ | exact LeO.none _ | refine LeO.ite ?_ ?_ | refine LeO.bind ?_ (fun _ => ?_)
set_option maxHeartbeats 8000000 in
set_option maxRecDepth 100000 in
theorem vec_Alike.calls (k : Nat) (A0 : Option Addr) (c0 : Nat) (l0 : List ByteArray) (r : Bool) (w : World) (hr0 : Kd.C Kd.string w A0 l0.length l0) (hc0 : l0.length ≤ c0) (h : vec_Alike.f k l0 = some r) :
  Calls Try.prog 89 #[.slice A0 l0.length c0] w fun e w' => e = .returned (.bool r) ∧ Drawn0 w w' := by
 have HR0 := mk0 hr0
 have HC0 := mk0 hc0
 clear hr0 hc0
 have H : (vec_Alike.l0 k l0 l0 (l0.length : Int) 0) = some r := h
 clear h
 have H' := mk0 H
 clear H
 go_enter Try.func89, Try.ntmps89
 go_wp2
 go_loopg [7] k (fun kq v7 w' => ∃ (x7_1 : Int), v7 = .int .i64 x7_1 ∧ Aside0 (vec_Alike.l0 kq l0 l0 (l0.length : Int) x7_1 = some r) ∧ Aside0 (kq ≤ k) ∧ Drawn0 w w')
 case atStart => exact ⟨(0), uK, H', ⟨Nat.le_refl _⟩, uH⟩
 case round =>
  clear H'
  obtain ⟨x7_1, rfl, HA, HK1, ⟨m1, rfl⟩⟩ := hrel
  cases gk with
  | zero => exact absurd HA.out (by simp [vec_Alike.l0])
  | succ k1 =>
   have H := HA.out
   clear HA
   simp only [vec_Alike.l0] at H
   by_cases c2 : x7_1 < (l0.length : Int)
   ·rw [if_pos c2] at H
    have c2b0 : decide (x7_1 < (l0.length : Int)) = true := decide_eq_true c2
    clear c2
    by_cases c3 : 0 ≤ x7_1
    ·rw [if_pos c3] at H
     have c3b0 : decide (0 ≤ x7_1) = true := decide_eq_true c3
     clear c3
     by_cases c4 : x7_1 < (l0.length : Int)
     ·rw [if_pos c4] at H
      have c4b0 : decide (x7_1 < (l0.length : Int)) = true := decide_eq_true c4
      clear c4
      by_cases c5 : 0 < (l0.length : Int)
      ·rw [if_pos c5] at H
       have c5b0 : decide (0 < (l0.length : Int)) = true := decide_eq_true c5
       have c5b1 : decide (0 < l0.length) = true := decide_eq_true uX
       clear c5
       by_cases c6 : ((rdOf ByteArray.empty l0 x7_1).size : Int) = ((rdOf ByteArray.empty l0 0).size : Int)
       ·rw [if_pos c6] at H
        have c6b0 : (((rdOf ByteArray.empty l0 x7_1).size : Int) == ((rdOf ByteArray.empty l0 0).size : Int)) = true := beq_iff_eq.mpr c6
        have c6b1 : (((rdOf ByteArray.empty l0 x7_1).size : Int) != ((rdOf ByteArray.empty l0 0).size : Int)) = false := bne_eq_false_iff_eq.mpr c6
        have c6b2 : ((rdOf ByteArray.empty l0 x7_1).size == (rdOf ByteArray.empty l0 0).size) = true := by first | simpa using c6 | (simp at c6 ⊢; omega)
        clear c6
        by_cases c7 : ((rdOf ByteArray.empty l0 x7_1).size : Int) > 4096
        ·rw [if_pos c7] at H
         have c7b0 : decide (4096 < ((rdOf ByteArray.empty l0 x7_1).size : Int)) = true := decide_eq_true c7
         have c7b1 : decide (4096 < (rdOf ByteArray.empty l0 x7_1).size) = true := decide_eq_true uX
         clear c7
         obtain rfl := Option.some.inj H
         have p101 : 0 ≤ (x7_1 : Int) := of_decide_eq_true uJ
         have q101 : x7_1 < (l0.length : Int) := of_decide_eq_true uJ
         obtain ⟨ad101, e101, hx101_0⟩ := Kd.at_string HR0.out x7_1 p101 q101
         cases e101
         replace p101 := eq_true p101
         replace q101 := eq_true q101
         have p102 : 0 ≤ (0 : Int) := uX
         have q102 : 0 < (l0.length : Int) := of_decide_eq_true uJ
         obtain ⟨ad102, e102, hx102_0⟩ := Kd.at_string HR0.out 0 p102 q102
         obtain rfl : ad101 = ad102 := (by injection e102)
         have qi102 : (0 < l0.length) = True := eq_true uX
         (try rw [show ((0 : Int)).toNat = 0 from rfl] at hx102_0)
         (try rw [Addr.add_zero'] at hx102_0)
         replace p102 := eq_true p102
         replace q102 := eq_true q102
         go_wp2
         go_ret
         exact ⟨uK, uH⟩
        ·rw [if_neg c7] at H
         have c7b0 : decide (4096 < ((rdOf ByteArray.empty l0 x7_1).size : Int)) = false := decide_eq_false c7
         have c7b1 : decide (4096 < (rdOf ByteArray.empty l0 x7_1).size) = false := decide_eq_false uX
         clear c7
         have H' := mk0 H
         clear H
         have p101 : 0 ≤ (x7_1 : Int) := of_decide_eq_true uJ
         have q101 : x7_1 < (l0.length : Int) := of_decide_eq_true uJ
         obtain ⟨ad101, e101, hx101_0⟩ := Kd.at_string HR0.out x7_1 p101 q101
         cases e101
         replace p101 := eq_true p101
         replace q101 := eq_true q101
         have p102 : 0 ≤ (0 : Int) := uX
         have q102 : 0 < (l0.length : Int) := of_decide_eq_true uJ
         obtain ⟨ad102, e102, hx102_0⟩ := Kd.at_string HR0.out 0 p102 q102
         obtain rfl : ad101 = ad102 := (by injection e102)
         have qi102 : (0 < l0.length) = True := eq_true uX
         (try rw [show ((0 : Int)).toNat = 0 from rfl] at hx102_0)
         (try rw [Addr.add_zero'] at hx102_0)
         replace p102 := eq_true p102
         replace q102 := eq_true q102
         go_wp2
         go_roundg k1
         case measure => have := HK1.out; omega
         case rel => exact ⟨(wrap64 (x7_1 + 1)), uK, H', ⟨uR⟩, uH⟩
       ·rw [if_neg c6] at H
        have c6b0 : (((rdOf ByteArray.empty l0 x7_1).size : Int) == ((rdOf ByteArray.empty l0 0).size : Int)) = false := beq_eq_false_iff_ne.mpr c6
        have c6b1 : (((rdOf ByteArray.empty l0 x7_1).size : Int) != ((rdOf ByteArray.empty l0 0).size : Int)) = true := bne_iff_ne.mpr c6
        have c6b2 : ((rdOf ByteArray.empty l0 x7_1).size == (rdOf ByteArray.empty l0 0).size) = false := by first | simpa using c6 | (simp at c6 ⊢; omega)
        obtain rfl := Option.some.inj H
        have p101 : 0 ≤ (x7_1 : Int) := of_decide_eq_true uJ
        have q101 : x7_1 < (l0.length : Int) := of_decide_eq_true uJ
        obtain ⟨ad101, e101, hx101_0⟩ := Kd.at_string HR0.out x7_1 p101 q101
        cases e101
        replace p101 := eq_true p101
        replace q101 := eq_true q101
        have p102 : 0 ≤ (0 : Int) := uX
        have q102 : 0 < (l0.length : Int) := of_decide_eq_true uJ
        obtain ⟨ad102, e102, hx102_0⟩ := Kd.at_string HR0.out 0 p102 q102
        obtain rfl : ad101 = ad102 := (by injection e102)
        have qi102 : (0 < l0.length) = True := eq_true uX
        (try rw [show ((0 : Int)).toNat = 0 from rfl] at hx102_0)
        (try rw [Addr.add_zero'] at hx102_0)
        replace p102 := eq_true p102
        replace q102 := eq_true q102
        go_wp2
        go_ret
        exact ⟨uK, uH⟩
      ·rw [if_neg c5] at H
       exact absurd H qa
     ·rw [if_neg c4] at H
      exact absurd H qa
    ·rw [if_neg c3] at H
     exact absurd H qa
   ·rw [if_neg c2] at H
    have c2b0 : decide (x7_1 < (l0.length : Int)) = false := decide_eq_false c2
    clear c2
    obtain rfl := Option.some.inj H
    go_wp2
    go_ret
    exact ⟨uK, uH⟩
end Go.Proofs.Ytaahnicjjpddjaa.GVec
end
