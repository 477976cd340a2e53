/- The inverse of a product is the product of inverses, the other way round, and a matrix with two equal rows has none: at every input. -/
import Derived.Test.YtaahnicjjpddjaaGInvertProduct2
import Derived.Test.YtaahnicjjpddjaaInvTwo
namespace Go.Proofs.Ytaahnicjjpddjaa.Pure
open Go.RowKit Go.Proofs.Ytaahnicjjpddjaa.GInvertProduct Go.Proofs.YtaahnicjjpddjaaW.PrintWords Go.Proofs.YtaahnicjjpddjaaW.PrintLast Go.Proofs.YtaahnicjjpddjaaW.PrintMore Go.Proofs.Ytaahnicjjpddjaa.Fld Go.Proofs.Ytaahnicjjpddjaa.Mat Go.Proofs.Ytaahnicjjpddjaa.Fn Go.Proofs.Ytaahnicjjpddjaa.Pr

theorem awake4_f {k : Nat} (hk : 200 < k) : ossuarylaw4_awake.f k = some true := by
  unfold ossuarylaw4_awake.f
  have e1 : inv.f [[0, 1], [2, 0]] = some ([[0, 142], [1, 0]], 0) := inv_lit _ _ 2 (by omega) (by omega) (by decide +kernel) (by decide +kernel) (by decide +kernel)
  have e2 : inv.f [[1, 1], [1, 1]] = some ([], 401) := by
    have h := inv_none (A := ent [[1, 1], [1, 1]]) (n := 2) (by omega) (by omega) (sing_rows (i := 0) (l := 1) (by omega) (by omega) (by omega) (by decide +kernel))
    rw [show fmat (ent [[1, 1], [1, 1]]) 2 2 = [[1, 1], [1, 1]] by decide +kernel] at h
    exact h
  have e3 : inv.f [[1, 2]] = some ([], 400) := inv_form (by decide +kernel)
  rw [e1, e2, e3]
  simp only [Option.bind_some, num_f]
  rw [sameL hk _ (by decide) (by decide)]
  simp

theorem rowsIn_get {n : Nat} {rows : List Int} (h : rowsIn n rows = true) {i : Nat} (hi : i < rows.length) : 0 ≤ rows[i] ∧ rows[i].toNat < n := by
  have h1 := List.all_eq_true.1 h _ (List.getElem_mem hi)
  rw [Bool.and_eq_true] at h1
  have h2 := of_decide_eq_true h1.1
  have h3 := of_decide_eq_true h1.2
  exact ⟨h2, by omega⟩
theorem pick_fmat (g : Nat → Nat → F) (n m : Nat) (rows : List Int) (h : rowsIn n rows = true) : rows.map (fun r => (fmat g n m).getD r.toNat []) = fmat (fun i j => g (rows.getD i 0).toNat j) rows.length m := by
  apply List.ext_getElem
  · rw [List.length_map, fmat_length]
  · intro i h1 h2
    rw [List.length_map] at h1
    have h3 := (rowsIn_get h h1).2
    rw [List.getElem_map, getD_get _ _ _ (by rw [fmat_length]; exact h3), fmat_get, fmat_get, getD_get rows 0 i h1]

def upto (n : Nat) : List Int := (List.range n).map fun (i : Nat) => (i : Int)
theorem upto_length (n : Nat) : (upto n).length = n := by simp [upto]
theorem upto_succ (n : Nat) : upto (n + 1) = upto n ++ [(n : Int)] := by unfold upto; rw [List.range_succ, List.map_append]; rfl
theorem upto_get (n i : Nat) (h : i < n) : (upto n).getD i 0 = i := by rw [getD_get _ _ _ (by rw [upto_length]; exact h)]; simp [upto]
/-- the rows, the first one the last one. -/
def twice (n : Nat) : List Int := (upto n).set 0 ((n : Int) - 1)
theorem twice_length (n : Nat) : (twice n).length = n := by unfold twice; rw [List.length_set, upto_length]
theorem twice_get (n i : Nat) (h : i < n) : (twice n).getD i 0 = if i = 0 then (n : Int) - 1 else i := by
  rw [getD_get _ _ _ (by rw [twice_length]; exact h)]
  unfold twice
  rw [List.getElem_set]
  by_cases e : i = 0
  · rw [if_pos e.symm, if_pos e]
  · rw [if_neg (fun h => e h.symm), if_neg e]; simp [upto]
theorem twice_in (n : Nat) : rowsIn n (twice n) = true := by
  unfold rowsIn
  rw [List.all_eq_true]
  intro r hr
  obtain ⟨i, hi, rfl⟩ := List.getElem_of_mem hr
  have hi' : i < n := by rw [twice_length] at hi; exact hi
  have e := twice_get n i hi'
  rw [getD_get _ _ _ hi] at e
  rw [e]
  by_cases e2 : i = 0
  · rw [if_pos e2, Bool.and_eq_true]; exact ⟨decide_eq_true (by omega), decide_eq_true (by omega)⟩
  · rw [if_neg e2, Bool.and_eq_true]; exact ⟨decide_eq_true (by omega), decide_eq_true (by omega)⟩

theorem prod_end {k : Nat} (hk : 200 < k) (A B x y : Nat → Nat → F) (n : Nat) (n1 : 1 ≤ n) (n2 : n ≤ 12) (hx : eqM n (mm n x A) delta) (hy : eqM n (mm n y B) delta) :
    ossuarylaw4_InvertProduct.l0 (k + 1) 0 0 0 (upto n) (n : Int) (fmat A n n) (fmat (mm n y x) n n) (fmat (mm n y x) n n) = some true := by
  simp only [ossuarylaw4_InvertProduct.l0, num_f]
  rw [fmat_length, upto_length, if_neg (by omega), if_pos (by omega), wrap64_in (by omega) (by omega)]
  show ((GBase.matrix_Pick.f k (fmat A n n) (twice n)).bind fun bt197 => _) = some true
  rw [pick_f hk, fmat_length, if_pos ⟨fmat_may _ _ _ n1 n2 n1 n2, ⟨by rw [twice_length]; omega, by rw [twice_length]; omega⟩, twice_in n⟩, pick_fmat _ _ _ _ (twice_in n), twice_length]
  simp only [Option.bind_some, if_true]
  rw [sameF hk _ _ n n n2 n2 (fun _ _ _ _ => rfl)]
  by_cases h1 : n = 1
  · subst h1
    have e : fmat (fun i j => A ((twice 1).getD i 0).toNat j) 1 1 = fmat A 1 1 := fmat_congr _ _ _ _ (fun i j hi _ => by
      rw [twice_get 1 i hi, if_pos (by omega), show i = 0 by omega]; rfl)
    rw [e, inv_ok n1 n2 hx]
    rfl
  · have hs := inv_none (A := fun i j => A ((twice n).getD i 0).toNat j) n1 n2 (sing_rows (i := 0) (l := n - 1) (by omega) (by omega) (by omega) (fun j _ => by
      show A ((twice n).getD 0 0).toNat j = A ((twice n).getD (n - 1) 0).toNat j
      rw [twice_get n 0 (by omega), twice_get n (n - 1) (by omega), if_pos rfl, if_neg (by omega), show ((n : Int) - 1).toNat = ((n - 1 : Nat) : Int).toNat by omega]))
    rw [hs]
    simp only [Option.bind_some, if_true]
    rw [decide_eq_true (by omega)]
    rfl

theorem prod_l {K : Nat} (hK : 200 < K) (A B x y : Nat → Nat → F) (n : Nat) (n1 : 1 ≤ n) (n2 : n ≤ 12) (hx : eqM n (mm n x A) delta) (hy : eqM n (mm n y B) delta) (d : Nat) :
    ∀ i, i + d = n → ossuarylaw4_InvertProduct.l0 (K + 1 + d) 0 0 0 (upto i) (i : Int) (fmat A n n) (fmat (mm n y x) n n) (fmat (mm n y x) n n) = some true := by
  induction d with
  | zero =>
    intro i hi
    obtain rfl : n = i := by omega
    exact prod_end hK A B x y n n1 n2 hx hy
  | succ d ih =>
    intro i hi
    rw [show K + 1 + (d + 1) = (K + 1 + d) + 1 from rfl]
    simp only [ossuarylaw4_InvertProduct.l0]
    rw [fmat_length, upto_length, if_pos (by omega), if_pos (by omega), succ_wrap i (by omega), ← upto_succ]
    exact ih (i + 1) (by omega)

theorem j0_true {k : Nat} (a b x y : List (List Int)) : ossuarylaw4_InvertProduct.j0 (k + 1) true a b x y = some true := by
  simp only [ossuarylaw4_InvertProduct.j0, if_true]
theorem product (a b : List (List Int)) : ossuarylaw4_InvertProduct.f 400 a b = some true := by
  unfold ossuarylaw4_InvertProduct.f
  rw [awake4_f (by omega)]
  simp only [Option.bind_some, if_true, num_f]
  have ht : ∀ a b x y, ossuarylaw4_InvertProduct.j0 400 true a b x y = some true := fun a b x y => j0_true (k := 399) a b x y
  rcases inv_cases a with ⟨n, A, x, n1, n2, rfl, hx, _, ha⟩ | ⟨n, A, n1, n2, rfl, _, ha⟩ | ha
  · rcases inv_cases b with ⟨p, B, y, p1, p2, rfl, hy, hy', hb⟩ | ⟨p, B, p1, p2, rfl, _, hb⟩ | hb
    · rw [ha, hb]
      simp only [Option.bind_some, if_true, fmat_length]
      by_cases e : n = p
      · subst e
        rw [if_pos rfl, decide_eq_false (by omega), show (400 : Nat) = 399 + 1 from rfl]
        simp only [ossuarylaw4_InvertProduct.j0]
        rw [if_neg (by decide), mul_f (by omega) A B n n n n1 n2 n1 n2 n1 n2, mul_f (by omega) y x n n n n1 n2 n1 n2 n1 n2]
        simp only [Option.bind_some]
        have hi : eqM n (mm n (mm n y x) (mm n A B)) delta := by
          refine (assocM n y x (mm n A B)).trans ((mm_eq (eqM.refl n y) ((assocM n x A B).symm.trans ((mm_eq hx (eqM.refl n B)).trans (deltaM n B)))).trans hy)
        rw [inv_ok n1 n2 hi]
        simp only [Option.bind_some]
        have h := prod_l (K := 398 - n) (by omega) A B x y n n1 n2 hx hy n 0 (by omega)
        rw [show 398 - n + 1 + n = 399 by omega] at h
        exact h
      · rw [if_neg (by omega), ht]
    · rw [ha, hb]; simp [ht]
    · rw [ha, hb]; simp [ht]
  · rw [ha]
    rcases inv_cases b with ⟨p, B, y, p1, p2, rfl, hy, hy', hb⟩ | ⟨p, B, p1, p2, rfl, _, hb⟩ | hb <;> rw [hb] <;> simp [ht]
  · rw [ha]
    rcases inv_cases b with ⟨p, B, y, p1, p2, rfl, hy, hy', hb⟩ | ⟨p, B, p1, p2, rfl, _, hb⟩ | hb <;> rw [hb] <;> simp [ht]

theorem InvertProduct {G G' S S' : Prop} (a : List (List Int)) (_ : G) (_ : S) (b : List (List Int)) (_ : G') (_ : S') : ∃ k, ossuarylaw4_InvertProduct.f k a b = some true := ⟨400, product a b⟩
end Go.Proofs.Ytaahnicjjpddjaa.Pure
