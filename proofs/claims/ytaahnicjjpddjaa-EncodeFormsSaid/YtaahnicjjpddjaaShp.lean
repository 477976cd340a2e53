/- Shapes and rows by a number: what remainders come to; rows that are picked. Plain; no condition. -/
import Derived.Test.YtaahnicjjpddjaaGenLaw
namespace Go.Proofs.Ytaahnicjjpddjaa.Pr
open Go.RowKit Go.Proofs.YtaahnicjjpddjaaW.PrintWords Go.Proofs.YtaahnicjjpddjaaW.PrintLast Go.Proofs.YtaahnicjjpddjaaW.PrintMore Go.Proofs.Ytaahnicjjpddjaa.Fld Go.Proofs.Ytaahnicjjpddjaa.Mat Go.Proofs.Ytaahnicjjpddjaa.Fn

theorem mod_u (x : Int) (n : Nat) (h1 : 1 ≤ n) (h2 : n ≤ 64) : ∃ r : Nat, r < n ∧ wrap64 (Int.tmod (IntKind.u64.wrap x) (n : Int)) = (r : Int) := by
  have hw : IntKind.u64.wrap x = x % 18446744073709551616 := rfl
  have h3 := Int.emod_nonneg x (show (18446744073709551616 : Int) ≠ 0 by omega)
  have h4 : Int.tmod (x % 18446744073709551616) (n : Int) = (x % 18446744073709551616) % (n : Int) := Int.tmod_eq_emod_of_nonneg h3
  have h5 := Int.emod_nonneg (x % 18446744073709551616) (show (n : Int) ≠ 0 by omega)
  have h6 := Int.emod_lt_of_pos (x % 18446744073709551616) (show (0 : Int) < n by omega)
  refine ⟨((x % 18446744073709551616) % (n : Int)).toNat, by omega, ?_⟩
  rw [hw, h4, wrap64_in (by omega) (by omega)]
  omega
theorem rowsIn_get {n : Nat} {rows : List Int} (h : rowsIn n rows = true) {i : Nat} (hi : i < rows.length) : 0 ≤ rows[i] ∧ rows[i].toNat < n := by
  have h1 := List.all_eq_true.1 h _ (List.getElem_mem hi)
  rw [Bool.and_eq_true] at h1
  have h2 := of_decide_eq_true h1.1
  have h3 := of_decide_eq_true h1.2
  exact ⟨h2, by omega⟩
theorem pick_fmat (g : Nat → Nat → F) (n m : Nat) (rows : List Int) (h : rowsIn n rows = true) : rows.map (fun r => (fmat g n m).getD r.toNat []) = fmat (fun i j => g (rows.getD i 0).toNat j) rows.length m := by
  apply List.ext_getElem
  · rw [List.length_map, fmat_length]
  · intro i h1 h2
    rw [List.length_map] at h1
    have h3 := (rowsIn_get h h1).2
    rw [List.getElem_map, getD_get _ _ _ (by rw [fmat_length]; exact h3), fmat_get, fmat_get, getD_get rows 0 i h1]
theorem pick_ok {k : Nat} (hk : 200 < k) (g : Nat → Nat → F) (n m : Nat) (n1 : 1 ≤ n) (n2 : n ≤ 12) (m1 : 1 ≤ m) (m2 : m ≤ 12) (rows : List Int) (h1 : 1 ≤ rows.length) (h2 : rows.length ≤ 12) (h : rowsIn n rows = true) :
    GBase.matrix_Pick.f k (fmat g n m) rows = some (fmat (fun i j => g (rows.getD i 0).toNat j) rows.length m, 0) := by
  rw [pick_f hk, fmat_length, if_pos ⟨fmat_may _ _ _ n1 n2 m1 m2, ⟨h1, h2⟩, h⟩, pick_fmat _ _ _ _ h]

def upto (n : Nat) : List Int := (List.range n).map fun (i : Nat) => (i : Int)
theorem upto_length (n : Nat) : (upto n).length = n := by simp [upto]
theorem upto_succ (n : Nat) : upto (n + 1) = upto n ++ [(n : Int)] := by unfold upto; rw [List.range_succ, List.map_append]; rfl
theorem upto_get (n i : Nat) (h : i < n) : (upto n).getD i 0 = i := by rw [getD_get _ _ _ (by rw [upto_length]; exact h)]; simp [upto]
theorem upto_in (n k : Nat) (h : n ≤ k) : rowsIn k (upto n) = true := by
  unfold rowsIn
  rw [List.all_eq_true]
  intro r hr
  obtain ⟨i, hi, rfl⟩ := List.getElem_of_mem hr
  have hi' : i < n := by rw [upto_length] at hi; exact hi
  have e := upto_get n i hi'
  rw [getD_get _ _ _ hi] at e
  rw [e, Bool.and_eq_true]
  exact ⟨decide_eq_true (by omega), decide_eq_true (by omega)⟩

/-- distinct rows of the code's matrix, picked, have an inverse. -/
theorem code_picked {d : Nat} (_ : 1 ≤ d) (hd : d ≤ 12) {n : Nat} (hn : n ≤ 12) (rows : List Int) (hl : rows.length = d) (h : rowsIn n rows = true) (hnd : rows.Nodup) :
    ∃ y, eqM d (mm d y (fun i j => code d (rows.getD i 0).toNat j)) delta := by
  refine code_rows hd (fun i => (rows.getD i 0).toNat) (fun i hi => ?_) (fun i j hi hj e => ?_)
  · rw [getD_get _ _ _ (by omega)]
    have := (rowsIn_get h (show i < rows.length by omega)).2
    omega
  · rw [getD_get _ _ _ (show i < rows.length by omega), getD_get _ _ _ (show j < rows.length by omega)] at e
    have h2 := (rowsIn_get h (show i < rows.length by omega)).1
    have h3 := (rowsIn_get h (show j < rows.length by omega)).1
    exact (List.getElem_inj hnd).1 (show rows[i] = rows[j] by omega)
theorem code21 : fmat (code 2) 3 2 = [[1, 0], [0, 1], [3, 2]] := code_lit 2 3 (by omega) _ (by decide +kernel) (by decide +kernel)
end Go.Proofs.Ytaahnicjjpddjaa.Pr
