/- Rows picked from a product are the product of the rows picked: at every input. -/
import Derived.Test.YtaahnicjjpddjaaGMatrixPicks2
import Derived.Test.YtaahnicjjpddjaaMat
namespace Go.Proofs.Ytaahnicjjpddjaa.Pure
open Go.RowKit Go.Proofs.Ytaahnicjjpddjaa.GMatrixPicks Go.Proofs.YtaahnicjjpddjaaW.PrintWords Go.Proofs.YtaahnicjjpddjaaW.PrintLast Go.Proofs.YtaahnicjjpddjaaW.PrintMore Go.Proofs.Ytaahnicjjpddjaa.Fld Go.Proofs.Ytaahnicjjpddjaa.Mat Go.Proofs.Ytaahnicjjpddjaa.Fn Go.Proofs.Ytaahnicjjpddjaa.MadeW

--@ awake
def mY : List (List Int) := [[1, 2], [3, 4]]
theorem mY_id {k : Nat} (hk : 200 < k) : GMul.matrix_Mul.f k mY (idM 2) = some (mY, 0) := by
  have h := mul_f hk (ent mY) delta 2 2 2 (by omega) (by omega) (by omega) (by omega) (by omega) (by omega)
  have e1 : fmat (ent mY) 2 2 = mY := by decide +kernel
  have e2 : fmat (mm 2 (ent mY) delta) 2 2 = mY := by decide +kernel
  rw [e1, e2] at h
  exact h
theorem awake_f {k : Nat} (hk : 200 < k) : ossuarylaw3_awake.f k = some true := by
  unfold ossuarylaw3_awake.f
  have e1 : GBase.matrix_Identity.f k 2 = some (idM 2, 0) := identity_f hk 2 (by omega) (by omega)
  have e3 : GBase.matrix_Pick.f k mY [1, 1, 0] = some ([[3, 4], [3, 4], [1, 2]], 0) := by
    rw [pick_f hk, if_pos (by decide +kernel)]; rfl
  have e4 : GBase.matrix_Pick.f k mY [2] = some ([], 300) := by
    rw [pick_f hk, if_neg (by decide +kernel)]
  have e5 : GMul.matrix_Mul.f k mY [[3, 4], [3, 4], [1, 2]] = some ([], 300) := mul_no hk _ _ (by decide +kernel)
  have e6 : ∀ m : List (List Int), m.length ≤ 12 → (∀ r ∈ m, r.length ≤ 12) → GBase.ossuarylaw0_SameMatrix.f k m m = some true := by
    intro m h1 h2
    rw [sameM_f _ _ 12 (by omega) (by omega) h2 (by omega), decide_eq_true rfl]
  have e7 : GBase.matrix_May.f k mY = some true := by rw [may_f (by omega)]; congr 1
  have e8 : GBase.matrix_May.f k [] = some false := by rw [may_f (by omega)]; rfl
  show ((some mY).bind fun y112 => _) = _
  simp only [Option.bind_some, e1, mY_id hk, e3, e4, e5, e7, e8, num_f]
  rw [e6 mY (by decide) (by decide)]
  simp only [Option.bind_some]
  rw [e6 _ (by decide) (by decide)]
  simp
--@ end

theorem rowsIn_get {n : Nat} {rows : List Int} (h : rowsIn n rows = true) {i : Nat} (hi : i < rows.length) : 0 ≤ rows[i] ∧ rows[i].toNat < n := by
  have h1 := List.all_eq_true.1 h _ (List.getElem_mem hi)
  rw [Bool.and_eq_true] at h1
  have h2 := of_decide_eq_true h1.1
  have h3 := of_decide_eq_true h1.2
  exact ⟨h2, by omega⟩
theorem pick_fmat (g : Nat → Nat → F) (n m : Nat) (rows : List Int) (h : rowsIn n rows = true) : rows.map (fun r => (fmat g n m).getD r.toNat []) = fmat (fun i j => g (rows.getD i 0).toNat j) rows.length m := by
  apply List.ext_getElem
  · rw [List.length_map, fmat_length]
  · intro i h1 h2
    rw [List.length_map] at h1
    have h3 := (rowsIn_get h h1).2
    rw [List.getElem_map, getD_get _ _ _ (by rw [fmat_length]; exact h3), fmat_get, fmat_get, getD_get rows 0 i h1]

theorem picks_end {k : Nat} (hk : 200 < k) (A B : Nat → Nat → F) (n m p : Nat) (n1 : 1 ≤ n) (n2 : n ≤ 12) (m1 : 1 ≤ m) (m2 : m ≤ 12) (p1 : 1 ≤ p) (p2 : p ≤ 12) (rows : List Int) (hr : rows.length ≤ 12) (hin : rowsIn n rows = true) :
    ossuarylaw3_MatrixPicks.j2 (k + 1) rows (fmat A n m) (fmat B m p) (fmat (mm m A B) n p) = some true := by
  simp only [ossuarylaw3_MatrixPicks.j2, num_f]
  by_cases h0 : rows.length < 1
  · rw [if_pos (by omega)]
  · rw [if_neg (by omega), pick_f hk, pick_f hk, fmat_length, fmat_length, if_pos ⟨fmat_may _ _ _ n1 n2 p1 p2, ⟨by omega, hr⟩, hin⟩, if_pos ⟨fmat_may _ _ _ n1 n2 m1 m2, ⟨by omega, hr⟩, hin⟩, pick_fmat _ _ _ _ hin, pick_fmat _ _ _ _ hin]
    simp only [Option.bind_some]
    rw [mul_f hk _ B rows.length m p (by omega) hr m1 m2 p1 p2]
    simp only [Option.bind_some, if_true]
    rw [sameF hk (fun i j => mm m A B (rows.getD i 0).toNat j) (mm m (fun i j => A (rows.getD i 0).toNat j) B) rows.length p hr p2 (fun i j _ _ => rfl)]
    rfl

theorem row_in (x : Int) (n : Nat) (n1 : 1 ≤ n) (n2 : n ≤ 12) : IntKind.u64.wrap (n : Int) = n ∧ (0 ≤ wrap64 (Int.tmod (IntKind.u64.wrap x) (n : Int)) ∧ wrap64 (Int.tmod (IntKind.u64.wrap x) (n : Int)) < n) := by
  have hw : ∀ y : Int, IntKind.u64.wrap y = y % 18446744073709551616 := fun y => rfl
  have h1 := Int.emod_nonneg x (show (18446744073709551616 : Int) ≠ 0 by omega)
  have h2 : Int.tmod (x % 18446744073709551616) (n : Int) = (x % 18446744073709551616) % (n : Int) := Int.tmod_eq_emod_of_nonneg h1
  have h3 := Int.emod_nonneg (x % 18446744073709551616) (show (n : Int) ≠ 0 by omega)
  have h4 := Int.emod_lt_of_pos (x % 18446744073709551616) (show (0 : Int) < n by omega)
  rw [hw, hw, h2, wrap64_in (by omega) (by omega)]
  exact ⟨by omega, h3, h4⟩

theorem picks_l {K : Nat} (hK : 200 < K) (A B : Nat → Nat → F) (n m p : Nat) (n1 : 1 ≤ n) (n2 : n ≤ 12) (m1 : 1 ≤ m) (m2 : m ≤ 12) (p1 : 1 ≤ p) (p2 : p ≤ 12) (xs : List Int) (d : Nat) :
    ∀ (i : Nat) (rows : List Int), i + d = 12 → rows.length = i → rowsIn n rows = true → ossuarylaw3_MatrixPicks.l0 (K + 2 + d) xs rows (i : Int) (fmat A n m) (fmat B m p) (fmat (mm m A B) n p) = some true := by
  induction d with
  | zero =>
    intro i rows hi hl hin
    simp only [ossuarylaw3_MatrixPicks.l0]
    have e := picks_end hK A B n m p n1 n2 m1 m2 p1 p2 rows (by omega) hin
    by_cases h : (i : Int) < (xs.length : Int)
    · rw [if_pos h, if_neg (by omega)]; exact e
    · rw [if_neg h]; exact e
  | succ d ih =>
    intro i rows hi hl hin
    rw [show K + 2 + (d + 1) = (K + 2 + d) + 1 from rfl]
    simp only [ossuarylaw3_MatrixPicks.l0]
    obtain ⟨hw, hlo, hhi⟩ := row_in (rd xs (i : Int)) n n1 n2
    by_cases h : (i : Int) < (xs.length : Int)
    · rw [if_pos h, if_pos (by omega), if_pos (by omega), fmat_length, hw, if_neg (by omega), if_pos (by omega), succ_wrap i (by omega)]
      refine ih (i + 1) _ (by omega) (by rw [List.length_append, hl]; rfl) ?_
      unfold rowsIn
      rw [List.all_append, Bool.and_eq_true]
      refine ⟨hin, ?_⟩
      simp only [List.all_cons, List.all_nil, Bool.and_true]
      rw [decide_eq_true hlo, decide_eq_true hhi]; rfl
    · rw [if_neg h]
      have e := picks_end (k := K + 1 + d) (by omega) A B n m p n1 n2 m1 m2 p1 p2 rows (by omega) hin
      rw [show K + 2 + d = K + 1 + d + 1 by omega]
      exact e

theorem picks (a b : List (List Int)) (xs : List Int) : ossuarylaw3_MatrixPicks.f 600 a b xs = some true := by
  unfold ossuarylaw3_MatrixPicks.f
  rw [awake_f (by omega)]
  have j0 : ∀ b' r, ossuarylaw3_MatrixPicks.j0 600 xs b' a b r = if b' = true then some ((r.length : Int) == 0) else ossuarylaw3_MatrixPicks.l0 599 xs [] 0 a b r := by
    intro b' r
    rw [show (600 : Nat) = 599 + 1 from rfl]
    simp only [ossuarylaw3_MatrixPicks.j0]
  simp only [Option.bind_some, if_true, num_f, j0]
  rcases mul_may (k := 600) (by omega) a b with ⟨r, h1, ha, hb, hab⟩ | h1
  · obtain ⟨A, n, m, rfl, n1, n2, m1, m2⟩ := may_ex ha
    obtain ⟨B, m', p, rfl, _, _, p1, p2⟩ := may_ex hb
    rw [fmat_cols _ _ _ (by omega), fmat_length] at hab
    subst hab
    rw [mul_f (by omega) A B n m p n1 n2 m1 m2 p1 p2]
    simp only [Option.bind_some, if_true]
    rw [fmat_length, decide_eq_false (by omega)]
    simp only [Bool.false_eq_true, if_false]
    exact picks_l (K := 585) (by omega) A B n m p n1 n2 m1 m2 p1 p2 xs 12 0 [] rfl rfl rfl
  · rw [h1]; simp

theorem MatrixPicks {G G' G'' : Prop} {S S' S'' : Prop} (a : List (List Int)) (_ : G) (_ : S) (b : List (List Int)) (_ : G') (_ : S') (xs : List Int) (_ : G'') (_ : S'') : ∃ k, ossuarylaw3_MatrixPicks.f k a b xs = some true := ⟨600, picks a b xs⟩
end Go.Proofs.Ytaahnicjjpddjaa.Pure
