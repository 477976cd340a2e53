/- The program's making of the code's matrix comes to it, at every shape. Plain algebra; no condition. Shapes and rows by a number: what remainders come to; rows that are picked. Plain; no condition. -/
import Derived.Test.YtaahnicjjpddjaaKDecodeSumsVan
import Derived.Test.YtaahnicjjpddjaaKDecodeSumsGGen2
section
namespace Go.Proofs.Ytaahnicjjpddjaa.Pr
open Go.RowKit Go.Proofs.YtaahnicjjpddjaaW.PrintWords Go.Proofs.YtaahnicjjpddjaaW.PrintLast Go.Proofs.YtaahnicjjpddjaaW.PrintMore Go.Proofs.Ytaahnicjjpddjaa.Fld Go.Proofs.Ytaahnicjjpddjaa.Mat Go.Proofs.Ytaahnicjjpddjaa.Fn Go.Proofs.Ytaahnicjjpddjaa.GGen

theorem toI_num {i : Nat} (h : i < 256) : toI (num i) = (i : Int) := by
  unfold toI num
  rw [BitVec.toNat_ofNat, Nat.mod_eq_of_lt (by omega)]
theorem fmat_take (g : Nat → Nat → F) (n m d : Nat) (h : d ≤ n) : (fmat g n m).take d = fmat g d m := by
  apply List.ext_getElem
  · rw [List.length_take, fmat_length, fmat_length]; omega
  · intro i h1 h2
    rw [List.getElem_take, fmat_get, fmat_get]
theorem genmay_f (d p : Int) : GGf.gen_May.f d p = some (decide (1 ≤ d ∧ d ≤ 4 ∧ 0 ≤ p ∧ p ≤ 2)) := by
  unfold GGf.gen_May.f
  by_cases h1 : d ≥ 1
  · rw [if_pos h1]
    by_cases h2 : d ≤ 4
    · rw [if_pos h2]
      by_cases h3 : p ≥ 0
      · rw [if_pos h3]
        exact congrArg some (decide_eq_decide.2 ⟨fun h => ⟨h1, h2, h3, h⟩, fun h => h.2.2.2⟩)
      · rw [if_neg h3, decide_eq_false (fun h => h3 h.2.2.1)]
    · rw [if_neg h2, decide_eq_false (fun h => h2 h.2.1)]
  · rw [if_neg h1, decide_eq_false (fun h => h1 h.1)]

theorem gen_in (i d n : Nat) (hi : i < n) (hn : n ≤ 12) (hd : d ≤ 12) (p : Int) (acc : List (List Int)) (hacc : acc.length ≤ 12) (e : Nat) :
    ∀ (k j : Nat), j + e = d → e + 20 < k → gen_Matrix.l1 k (i : Int) (partRow (fun j => toI (van num i j)) j d) (n : Int) (i : Int) (d : Int) (j : Int) (d : Int) p acc = gen_Matrix.l0 (k - (e + 1)) (n : Int) (((i + 1 : Nat) : Int)) (d : Int) p (acc ++ [rowOf (fun j => toI (van num i j)) d]) := by
  induction e with
  | zero =>
    intro k j hj hk
    obtain ⟨k, rfl⟩ : ∃ m, k = m + 1 := ⟨k - 1, by omega⟩
    simp only [gen_Matrix.l1]
    have e : j = d := by omega
    subst e
    rw [if_neg (by omega), if_pos (by omega), succ_wrap i (by omega), partRow_all]
    rfl
  | succ e ih =>
    intro k j hj hk
    obtain ⟨k, rfl⟩ : ∃ m, k = m + 1 := ⟨k - 1, by omega⟩
    simp only [gen_Matrix.l1]
    have hp : GGf.gf_Pow.f k (i : Int) (j : Int) = some (toI (van num i j), 0) := by
      rw [← toI_num (show i < 256 by omega)]
      exact GfsGf.gpow_f (by omega) (num i) j (by omega)
    rw [if_pos (by omega), hp]
    simp only [Option.bind_some]
    rw [if_pos (by omega), partRow_length _ _ _ (by omega), if_pos (by omega), Int.toNat_natCast, partRow_set (fun j => toI (van num i j)) _ _ (by omega), succ_wrap j (by omega), ih k (j + 1) (by omega) (by omega), show k + 1 - (e + 1 + 1) = k - (e + 1) from by omega]

theorem gen_out (d n : Nat) (h1 : 1 ≤ d) (hd : d ≤ n) (hn : n ≤ 12) (p : Int) (e : Nat) :
    ∀ (k i : Nat), i + e = n → e * (d + 2) + 250 < k → gen_Matrix.l0 k (n : Int) (i : Int) (d : Int) p (fmat (van num) i d) = some (fmat (code d) n d, 0) := by
  induction e with
  | zero =>
    intro k i hi hk
    obtain ⟨k, rfl⟩ : ∃ m, k = m + 1 := ⟨k - 1, by omega⟩
    obtain rfl : n = i := by omega
    simp only [gen_Matrix.l0]
    rw [if_neg (by omega), if_pos (by omega), fmat_length, if_pos (by omega), Int.toNat_natCast, fmat_take _ _ _ _ hd, inv_ok h1 (by omega) (back_left (by omega))]
    simp only [Option.bind_some]
    rw [mul_f (by omega) (van num) (back d) n d d (by omega) hn h1 (by omega) h1 (by omega)]
    rfl
  | succ e ih =>
    intro k i hi hk
    obtain ⟨k, rfl⟩ : ∃ m, k = m + 1 := ⟨k - 1, by omega⟩
    have hmul : (e + 1) * (d + 2) = e * (d + 2) + (d + 2) := Nat.succ_mul _ _
    simp only [gen_Matrix.l0]
    rw [if_pos (by omega), if_pos (by omega), if_pos (by omega), Int.toNat_natCast]
    simp only [Option.bind_some, List.length_replicate]
    have h := gen_in i d n (by omega) hn (by omega) p (fmat (van num) i d) (by rw [fmat_length]; omega) d k 0 (by omega) (by omega)
    have e0 : partRow (fun j => toI (van num i j)) 0 d = List.replicate d 0 := by unfold partRow rowOf; simp
    rw [e0] at h
    refine h.trans ?_
    have e1 : fmat (van num) i d ++ [rowOf (fun j => toI (van num i j)) d] = fmat (van num) (i + 1) d := (matOf_succ _ _ _).symm
    rw [e1]
    exact ih _ (i + 1) (by omega) (by omega)

theorem gen_f {k : Nat} (hk : 400 < k) (d p : Nat) (h1 : 1 ≤ d) (h2 : d ≤ 4) (h3 : p ≤ 2) : gen_Matrix.f k (d : Int) (p : Int) = some (fmat (code d) (d + p) d, 0) := by
  unfold gen_Matrix.f
  rw [genmay_f, decide_eq_true ⟨by omega, by omega, by omega, by omega⟩]
  simp only [Option.bind_some, if_true]
  unfold GGf.gen_All.f
  rw [wrap64_in (by omega) (by omega), Option.bind_some, show (d : Int) + (p : Int) = ((d + p : Nat) : Int) from rfl]
  have hmul : (d + p) * (d + 2) ≤ 6 * 6 := Nat.mul_le_mul (by omega) (by omega)
  exact gen_out d (d + p) h1 (by omega) (by omega) (p : Int) (d + p) k 0 (by omega) (by omega)
theorem gen_no {k : Nat} (d p : Int) (h : ¬ (1 ≤ d ∧ d ≤ 4 ∧ 0 ≤ p ∧ p ≤ 2)) : gen_Matrix.f k d p = some ([], 500) := by
  unfold gen_Matrix.f
  rw [genmay_f, decide_eq_false h]
  simp
/-- by hand. -/
theorem code_lit (d n : Nat) (hd : d ≤ 12) (L : List (List Int)) (hL : fmat (ent L) n d = L) (h : ∀ i, i < n → ∀ j, j < d → mm d (ent L) (van num) i j = van num i j) : fmat (code d) n d = L := by
  rw [← hL]
  exact fmat_congr _ _ _ _ (fun i j hi hj => (code_one hd (ent L) i (h i hi) j hj).symm)
end Go.Proofs.Ytaahnicjjpddjaa.Pr
end
section
namespace Go.Proofs.Ytaahnicjjpddjaa.Pr
open Go.RowKit Go.Proofs.YtaahnicjjpddjaaW.PrintWords Go.Proofs.YtaahnicjjpddjaaW.PrintLast Go.Proofs.YtaahnicjjpddjaaW.PrintMore Go.Proofs.Ytaahnicjjpddjaa.Fld Go.Proofs.Ytaahnicjjpddjaa.Mat Go.Proofs.Ytaahnicjjpddjaa.Fn

theorem mod_u (x : Int) (n : Nat) (h1 : 1 ≤ n) (h2 : n ≤ 64) : ∃ r : Nat, r < n ∧ wrap64 (Int.tmod (IntKind.u64.wrap x) (n : Int)) = (r : Int) := by
  have hw : IntKind.u64.wrap x = x % 18446744073709551616 := rfl
  have h3 := Int.emod_nonneg x (show (18446744073709551616 : Int) ≠ 0 by omega)
  have h4 : Int.tmod (x % 18446744073709551616) (n : Int) = (x % 18446744073709551616) % (n : Int) := Int.tmod_eq_emod_of_nonneg h3
  have h5 := Int.emod_nonneg (x % 18446744073709551616) (show (n : Int) ≠ 0 by omega)
  have h6 := Int.emod_lt_of_pos (x % 18446744073709551616) (show (0 : Int) < n by omega)
  refine ⟨((x % 18446744073709551616) % (n : Int)).toNat, by omega, ?_⟩
  rw [hw, h4, wrap64_in (by omega) (by omega)]
  omega
theorem rowsIn_get {n : Nat} {rows : List Int} (h : rowsIn n rows = true) {i : Nat} (hi : i < rows.length) : 0 ≤ rows[i] ∧ rows[i].toNat < n := by
  have h1 := List.all_eq_true.1 h _ (List.getElem_mem hi)
  rw [Bool.and_eq_true] at h1
  have h2 := of_decide_eq_true h1.1
  have h3 := of_decide_eq_true h1.2
  exact ⟨h2, by omega⟩
theorem pick_fmat (g : Nat → Nat → F) (n m : Nat) (rows : List Int) (h : rowsIn n rows = true) : rows.map (fun r => (fmat g n m).getD r.toNat []) = fmat (fun i j => g (rows.getD i 0).toNat j) rows.length m := by
  apply List.ext_getElem
  · rw [List.length_map, fmat_length]
  · intro i h1 h2
    rw [List.length_map] at h1
    have h3 := (rowsIn_get h h1).2
    rw [List.getElem_map, getD_get _ _ _ (by rw [fmat_length]; exact h3), fmat_get, fmat_get, getD_get rows 0 i h1]
theorem pick_ok {k : Nat} (hk : 200 < k) (g : Nat → Nat → F) (n m : Nat) (n1 : 1 ≤ n) (n2 : n ≤ 12) (m1 : 1 ≤ m) (m2 : m ≤ 12) (rows : List Int) (h1 : 1 ≤ rows.length) (h2 : rows.length ≤ 12) (h : rowsIn n rows = true) :
    GBase.matrix_Pick.f k (fmat g n m) rows = some (fmat (fun i j => g (rows.getD i 0).toNat j) rows.length m, 0) := by
  rw [pick_f hk, fmat_length, if_pos ⟨fmat_may _ _ _ n1 n2 m1 m2, ⟨h1, h2⟩, h⟩, pick_fmat _ _ _ _ h]

def upto (n : Nat) : List Int := (List.range n).map fun (i : Nat) => (i : Int)
/-- distinct rows of the code's matrix, picked, have an inverse. -/
theorem code_picked {d : Nat} (_ : 1 ≤ d) (hd : d ≤ 12) {n : Nat} (hn : n ≤ 12) (rows : List Int) (hl : rows.length = d) (h : rowsIn n rows = true) (hnd : rows.Nodup) :
    ∃ y, eqM d (mm d y (fun i j => code d (rows.getD i 0).toNat j)) delta := by
  refine code_rows hd (fun i => (rows.getD i 0).toNat) (fun i hi => ?_) (fun i j hi hj e => ?_)
  · rw [getD_get _ _ _ (by omega)]
    have := (rowsIn_get h (show i < rows.length by omega)).2
    omega
  · rw [getD_get _ _ _ (show i < rows.length by omega), getD_get _ _ _ (show j < rows.length by omega)] at e
    have h2 := (rowsIn_get h (show i < rows.length by omega)).1
    have h3 := (rowsIn_get h (show j < rows.length by omega)).1
    exact (List.getElem_inj hnd).1 (show rows[i] = rows[j] by omega)
theorem code21 : fmat (code 2) 3 2 = [[1, 0], [0, 1], [3, 2]] := code_lit 2 3 (by omega) _ (by decide +kernel) (by decide +kernel)
end Go.Proofs.Ytaahnicjjpddjaa.Pr
end
