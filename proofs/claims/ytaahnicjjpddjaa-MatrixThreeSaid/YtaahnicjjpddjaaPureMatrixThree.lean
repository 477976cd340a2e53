/- Of three matrices: products are one and the same whichever two are multiplied first, and the identity leaves a matrix as it is; at every input. -/
import Derived.Test.YtaahnicjjpddjaaGMatrixThree2
import Derived.Test.YtaahnicjjpddjaaMat
namespace Go.Proofs.Ytaahnicjjpddjaa.Pure
open Go.RowKit Go.Proofs.Ytaahnicjjpddjaa.GMatrixThree Go.Proofs.YtaahnicjjpddjaaW.PrintWords Go.Proofs.YtaahnicjjpddjaaW.PrintLast Go.Proofs.YtaahnicjjpddjaaW.PrintMore Go.Proofs.Ytaahnicjjpddjaa.Fld Go.Proofs.Ytaahnicjjpddjaa.Mat Go.Proofs.Ytaahnicjjpddjaa.Fn Go.Proofs.Ytaahnicjjpddjaa.MadeW

--@ awake
def mY : List (List Int) := [[1, 2], [3, 4]]
theorem mY_id {k : Nat} (hk : 200 < k) : GMul.matrix_Mul.f k mY (idM 2) = some (mY, 0) := by
  have h := mul_f hk (ent mY) delta 2 2 2 (by omega) (by omega) (by omega) (by omega) (by omega) (by omega)
  have e1 : fmat (ent mY) 2 2 = mY := by decide +kernel
  have e2 : fmat (mm 2 (ent mY) delta) 2 2 = mY := by decide +kernel
  rw [e1, e2] at h
  exact h
theorem awake_f {k : Nat} (hk : 200 < k) : ossuarylaw3_awake.f k = some true := by
  unfold ossuarylaw3_awake.f
  have e1 : GBase.matrix_Identity.f k 2 = some (idM 2, 0) := identity_f hk 2 (by omega) (by omega)
  have e3 : GBase.matrix_Pick.f k mY [1, 1, 0] = some ([[3, 4], [3, 4], [1, 2]], 0) := by
    rw [pick_f hk, if_pos (by decide +kernel)]; rfl
  have e4 : GBase.matrix_Pick.f k mY [2] = some ([], 300) := by
    rw [pick_f hk, if_neg (by decide +kernel)]
  have e5 : GMul.matrix_Mul.f k mY [[3, 4], [3, 4], [1, 2]] = some ([], 300) := mul_no hk _ _ (by decide +kernel)
  have e6 : ∀ m : List (List Int), m.length ≤ 12 → (∀ r ∈ m, r.length ≤ 12) → GBase.ossuarylaw0_SameMatrix.f k m m = some true := by
    intro m h1 h2
    rw [sameM_f _ _ 12 (by omega) (by omega) h2 (by omega), decide_eq_true rfl]
  have e7 : GBase.matrix_May.f k mY = some true := by rw [may_f (by omega)]; congr 1
  have e8 : GBase.matrix_May.f k [] = some false := by rw [may_f (by omega)]; rfl
  show ((some mY).bind fun y112 => _) = _
  simp only [Option.bind_some, e1, mY_id hk, e3, e4, e5, e7, e8, num_f]
  rw [e6 mY (by decide) (by decide)]
  simp only [Option.bind_some]
  rw [e6 _ (by decide) (by decide)]
  simp
--@ end

theorem three {k : Nat} (hk : 200 < k) (a b c : List (List Int)) : ossuarylaw3_MatrixThree.f (k + 1) a b c = some true := by
  unfold ossuarylaw3_MatrixThree.f
  rw [awake_f (by omega)]
  simp only [Option.bind_some, if_true, ossuarylaw3_MatrixThree.j0, num_f]
  rcases mul_may (k := k + 1) (by omega) a b with ⟨r, h1, ha, hb, hab⟩ | h1
  · rcases mul_may (k := k + 1) (by omega) b c with ⟨s, h2, _, hc, hbc⟩ | h2
    · obtain ⟨A, n, m, rfl, n1, n2, m1, m2⟩ := may_ex ha
      obtain ⟨B, m', p, rfl, _, _, p1, p2⟩ := may_ex hb
      obtain ⟨C, p', q, rfl, _, _, q1, q2⟩ := may_ex hc
      rw [fmat_cols _ _ _ (by omega), fmat_length] at hab
      rw [fmat_cols _ _ _ (by omega), fmat_length] at hbc
      subst hab
      subst hbc
      rw [mul_f (by omega) A B n m p n1 n2 m1 m2 p1 p2] at h1 ⊢
      rw [mul_f (by omega) B C m p q m1 m2 p1 p2 q1 q2] at h2 ⊢
      simp only [Option.bind_some, if_true, bne_self_eq_false, Bool.false_eq_true, if_false]
      rw [mul_f (by omega) (mm m A B) C n p q n1 n2 p1 p2 q1 q2, mul_f (by omega) A (mm p B C) n m q n1 n2 m1 m2 q1 q2, fmat_length, identity_f (by omega) n n1 n2]
      simp only [Option.bind_some, if_true, idM]
      rw [mul_f (by omega) delta A n n m n1 n2 n1 n2 m1 m2]
      simp only [Option.bind_some, if_true]
      rw [sameF (by omega) _ _ n q n2 q2 (fun i j _ _ => mm_assoc m p A B C i j)]
      simp only [Option.bind_some, if_true]
      rw [sameF (by omega) _ _ n m n2 m2 (fun i j hi _ => delta_mm n A i j hi)]
      rfl
    · rw [h1, h2]; simp
  · rcases mul_may (k := k + 1) (by omega) b c with ⟨s, h2, _, hc, hbc⟩ | h2
    · rw [h1, h2]; simp
    · rw [h1, h2]; simp

theorem MatrixThree {G G' G'' : Prop} {S S' S'' : Prop} (a : List (List Int)) (_ : G) (_ : S) (b : List (List Int)) (_ : G') (_ : S') (c : List (List Int)) (_ : G'') (_ : S'') : ∃ k, ossuarylaw3_MatrixThree.f k a b c = some true := ⟨500 + 1, three (by omega) a b c⟩
end Go.Proofs.Ytaahnicjjpddjaa.Pure
