/- Matrices, rows that are none: what the call of the law comes to, at every number. The law's call comes to true at every number: no condition. Arguments opened as the printed contracts want them: slices of numbers, bools, strings, and of slices, each with its reach. No condition. -/
import Derived.Test.YtaahnicjjpddjaaKMatrixFormsMatFormsW
import Derived.Test.YtaahnicjjpddjaaKMatrixFormsShp
import Derived.Lib.SmallJoins
section
namespace Go.Proofs.Ytaahnicjjpddjaa.MatW
open Go.RowKit Go.Proofs.YtaahnicjjpddjaaW.PrintWords Go.Proofs.YtaahnicjjpddjaaW.PrintLast Go.Proofs.YtaahnicjjpddjaaW.PrintMore Go.Proofs.Ytaahnicjjpddjaa.Fld Go.Proofs.Ytaahnicjjpddjaa.Mat Go.Proofs.Ytaahnicjjpddjaa.Fn Go.Proofs.Ytaahnicjjpddjaa.MadeW Go.Proofs.Ytaahnicjjpddjaa.GAwm Go.Proofs.Ytaahnicjjpddjaa Go.Proofs.Ytaahnicjjpddjaa.Pr
def mY : List (List Int) := [[1, 2], [3, 4]]
theorem mY_id {k : Nat} (hk : 200 < k) : GMulF.matrix_Mul.f k mY (idM 2) = some (mY, 0) := by
  have h := MatF.mul_f hk (ent mY) delta 2 2 2 uP uP uP uP uP uP
  have e1 : fmat (ent mY) 2 2 = mY := by decide +kernel
  have e2 : fmat (mm 2 (ent mY) delta) 2 2 = mY := by decide +kernel
  rw [e1, e2] at h
  exact h
theorem awake_f {k : Nat} (hk : 200 < k) : ossuarylaw3_awake.f k = some true := by
  unfold ossuarylaw3_awake.f
  have e1 : GBase.matrix_Identity.f k 2 = some (idM 2, 0) := identity_f hk 2 uP uP
  have e3 : GBase.matrix_Pick.f k mY [1, 1, 0] = some ([[3, 4], [3, 4], [1, 2]], 0) := by
    rw [pick_f hk, if_pos (by decide +kernel)]; rfl
  have e4 : GBase.matrix_Pick.f k mY [2] = some ([], 300) := by
    rw [pick_f hk, if_neg (by decide +kernel)]
  have e5 : GMulF.matrix_Mul.f k mY [[3, 4], [3, 4], [1, 2]] = some ([], 300) := MatF.mul_no hk _ _ (by decide +kernel)
  have e6 : ∀ m : List (List Int), m.length ≤ 12 → (∀ r ∈ m, r.length ≤ 12) → GBase.ossuarylaw0_SameMatrix.f k m m = some true := by
    intro m h1 h2
    rw [sameM_f _ _ 12 uP uP h2 uP, decide_eq_true rfl]
  have e7 : GBase.matrix_May.f k mY = some true := by rw [may_f uP]; congr 1
  have e8 : GBase.matrix_May.f k [] = some false := by rw [may_f uP]; rfl
  show ((some mY).bind fun y112 => _) = _
  simp only [Option.bind_some, e1, mY_id hk, e3, e4, e5, e7, e8, num_f]
  rw [e6 mY uO uO]
  simp only [Option.bind_some]
  rw [e6 _ uO uO]
  simp
theorem calls (a0 a1 : Int) (r : Bool) (w : World) (h : r = true) : Calls Try.prog 5 #[.int .i64 a0, .int .i64 a1] w fun e w' => e = .returned (.bool r) ∧ Below w.heap.size w w' := by
  subst h
  obtain ⟨b, hb⟩ : ∃ b, Go.bits .and .i64 a1 1023 = b := ⟨_, rfl⟩
  have hb0 : 0 ≤ b ∧ b < 1024 := by rw [← hb, and_1023]; omega
  have hc : wrap64 (1 + b) = 1 + b := wrap64_in uP uP
  obtain ⟨q, hq, e⟩ := mod_u a0 7 uP uP
  rw [show ((7 : Nat) : Int) = 7 from rfl] at e
  exact walk 201 (q : Int) a0 a1 b (1 + b) _ _ _ _ _ w (awake_f uP) hb e uP hc rfl rfl rfl rfl rfl uP uP
end Go.Proofs.Ytaahnicjjpddjaa.MatW
end
section
namespace Go.Proofs.Ytaahnicjjpddjaa.Pure
set_option linter.unusedVariables false
theorem MatrixForms {G G' : Prop} (a0 : Int) (_ : G) (a1 : Int) (_ : G') : true = true := rfl
end Go.Proofs.Ytaahnicjjpddjaa.Pure
end
section
namespace Go.Proofs.Ytaahnicjjpddjaa.Opn
end Go.Proofs.Ytaahnicjjpddjaa.Opn
end
