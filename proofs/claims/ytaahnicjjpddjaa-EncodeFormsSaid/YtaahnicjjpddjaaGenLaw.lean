/- The program's making of the code's matrix comes to it, at every shape. Plain algebra; no condition. -/
import Derived.Test.YtaahnicjjpddjaaVan
import Derived.Test.YtaahnicjjpddjaaGGen2
namespace Go.Proofs.Ytaahnicjjpddjaa.Pr
open Go.RowKit Go.Proofs.YtaahnicjjpddjaaW.PrintWords Go.Proofs.YtaahnicjjpddjaaW.PrintLast Go.Proofs.YtaahnicjjpddjaaW.PrintMore Go.Proofs.Ytaahnicjjpddjaa.Fld Go.Proofs.Ytaahnicjjpddjaa.Mat Go.Proofs.Ytaahnicjjpddjaa.Fn Go.Proofs.Ytaahnicjjpddjaa.GGen

theorem toI_num {i : Nat} (h : i < 256) : toI (num i) = (i : Int) := by
  unfold toI num
  rw [BitVec.toNat_ofNat, Nat.mod_eq_of_lt (by omega)]
theorem fmat_take (g : Nat → Nat → F) (n m d : Nat) (h : d ≤ n) : (fmat g n m).take d = fmat g d m := by
  apply List.ext_getElem
  · rw [List.length_take, fmat_length, fmat_length]; omega
  · intro i h1 h2
    rw [List.getElem_take, fmat_get, fmat_get]
theorem genmay_f (d p : Int) : GGf.gen_May.f d p = some (decide (1 ≤ d ∧ d ≤ 4 ∧ 0 ≤ p ∧ p ≤ 2)) := by
  unfold GGf.gen_May.f
  by_cases h1 : d ≥ 1
  · rw [if_pos h1]
    by_cases h2 : d ≤ 4
    · rw [if_pos h2]
      by_cases h3 : p ≥ 0
      · rw [if_pos h3]
        exact congrArg some (decide_eq_decide.2 ⟨fun h => ⟨h1, h2, h3, h⟩, fun h => h.2.2.2⟩)
      · rw [if_neg h3, decide_eq_false (fun h => h3 h.2.2.1)]
    · rw [if_neg h2, decide_eq_false (fun h => h2 h.2.1)]
  · rw [if_neg h1, decide_eq_false (fun h => h1 h.1)]

theorem gen_in (i d n : Nat) (hi : i < n) (hn : n ≤ 12) (hd : d ≤ 12) (p : Int) (acc : List (List Int)) (hacc : acc.length ≤ 12) (e : Nat) :
    ∀ (k j : Nat), j + e = d → e + 20 < k → gen_Matrix.l1 k (i : Int) (partRow (fun j => toI (van num i j)) j d) (n : Int) (i : Int) (d : Int) (j : Int) (d : Int) p acc = gen_Matrix.l0 (k - (e + 1)) (n : Int) (((i + 1 : Nat) : Int)) (d : Int) p (acc ++ [rowOf (fun j => toI (van num i j)) d]) := by
  induction e with
  | zero =>
    intro k j hj hk
    obtain ⟨k, rfl⟩ : ∃ m, k = m + 1 := ⟨k - 1, by omega⟩
    simp only [gen_Matrix.l1]
    have e : j = d := by omega
    subst e
    rw [if_neg (by omega), if_pos (by omega), succ_wrap i (by omega), partRow_all]
    rfl
  | succ e ih =>
    intro k j hj hk
    obtain ⟨k, rfl⟩ : ∃ m, k = m + 1 := ⟨k - 1, by omega⟩
    simp only [gen_Matrix.l1]
    have hp : GGf.gf_Pow.f k (i : Int) (j : Int) = some (toI (van num i j), 0) := by
      rw [← toI_num (show i < 256 by omega)]
      exact GfsGf.gpow_f (by omega) (num i) j (by omega)
    rw [if_pos (by omega), hp]
    simp only [Option.bind_some]
    rw [if_pos (by omega), partRow_length _ _ _ (by omega), if_pos (by omega), Int.toNat_natCast, partRow_set (fun j => toI (van num i j)) _ _ (by omega), succ_wrap j (by omega), ih k (j + 1) (by omega) (by omega), show k + 1 - (e + 1 + 1) = k - (e + 1) from by omega]

theorem gen_out (d n : Nat) (h1 : 1 ≤ d) (hd : d ≤ n) (hn : n ≤ 12) (p : Int) (e : Nat) :
    ∀ (k i : Nat), i + e = n → e * (d + 2) + 250 < k → gen_Matrix.l0 k (n : Int) (i : Int) (d : Int) p (fmat (van num) i d) = some (fmat (code d) n d, 0) := by
  induction e with
  | zero =>
    intro k i hi hk
    obtain ⟨k, rfl⟩ : ∃ m, k = m + 1 := ⟨k - 1, by omega⟩
    obtain rfl : n = i := by omega
    simp only [gen_Matrix.l0]
    rw [if_neg (by omega), if_pos (by omega), fmat_length, if_pos (by omega), Int.toNat_natCast, fmat_take _ _ _ _ hd, inv_ok h1 (by omega) (back_left (by omega))]
    simp only [Option.bind_some]
    rw [mul_f (by omega) (van num) (back d) n d d (by omega) hn h1 (by omega) h1 (by omega)]
    rfl
  | succ e ih =>
    intro k i hi hk
    obtain ⟨k, rfl⟩ : ∃ m, k = m + 1 := ⟨k - 1, by omega⟩
    have hmul : (e + 1) * (d + 2) = e * (d + 2) + (d + 2) := Nat.succ_mul _ _
    simp only [gen_Matrix.l0]
    rw [if_pos (by omega), if_pos (by omega), if_pos (by omega), Int.toNat_natCast]
    simp only [Option.bind_some, List.length_replicate]
    have h := gen_in i d n (by omega) hn (by omega) p (fmat (van num) i d) (by rw [fmat_length]; omega) d k 0 (by omega) (by omega)
    have e0 : partRow (fun j => toI (van num i j)) 0 d = List.replicate d 0 := by unfold partRow rowOf; simp
    rw [e0] at h
    refine h.trans ?_
    have e1 : fmat (van num) i d ++ [rowOf (fun j => toI (van num i j)) d] = fmat (van num) (i + 1) d := (matOf_succ _ _ _).symm
    rw [e1]
    exact ih _ (i + 1) (by omega) (by omega)

theorem gen_f {k : Nat} (hk : 400 < k) (d p : Nat) (h1 : 1 ≤ d) (h2 : d ≤ 4) (h3 : p ≤ 2) : gen_Matrix.f k (d : Int) (p : Int) = some (fmat (code d) (d + p) d, 0) := by
  unfold gen_Matrix.f
  rw [genmay_f, decide_eq_true ⟨by omega, by omega, by omega, by omega⟩]
  simp only [Option.bind_some, if_true]
  unfold GGf.gen_All.f
  rw [wrap64_in (by omega) (by omega), Option.bind_some, show (d : Int) + (p : Int) = ((d + p : Nat) : Int) from rfl]
  have hmul : (d + p) * (d + 2) ≤ 6 * 6 := Nat.mul_le_mul (by omega) (by omega)
  exact gen_out d (d + p) h1 (by omega) (by omega) (p : Int) (d + p) k 0 (by omega) (by omega)
theorem gen_no {k : Nat} (d p : Int) (h : ¬ (1 ≤ d ∧ d ≤ 4 ∧ 0 ≤ p ∧ p ≤ 2)) : gen_Matrix.f k d p = some ([], 500) := by
  unfold gen_Matrix.f
  rw [genmay_f, decide_eq_false h]
  simp
/-- by hand. -/
theorem code_lit (d n : Nat) (hd : d ≤ 12) (L : List (List Int)) (hL : fmat (ent L) n d = L) (h : ∀ i, i < n → ∀ j, j < d → mm d (ent L) (van num) i j = van num i j) : fmat (code d) n d = L := by
  rw [← hL]
  exact fmat_congr _ _ _ _ (fun i j hi hj => (code_one hd (ent L) i (h i hi) j hj).symm)
end Go.Proofs.Ytaahnicjjpddjaa.Pr
