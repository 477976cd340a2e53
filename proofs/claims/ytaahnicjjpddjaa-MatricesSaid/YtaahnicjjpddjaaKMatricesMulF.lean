/- The whole of the printed product: what it comes to, refused or not. Plain; no condition. -/
import Derived.Test.YtaahnicjjpddjaaKMatricesMat
import Derived.Test.YtaahnicjjpddjaaKMatricesGMulF2
namespace Go.Proofs.Ytaahnicjjpddjaa.MatF
open Go.RowKit Go.Proofs.YtaahnicjjpddjaaW.PrintWords Go.Proofs.YtaahnicjjpddjaaW.PrintLast Go.Proofs.YtaahnicjjpddjaaW.PrintMore Go.Proofs.Ytaahnicjjpddjaa.Fn Go.Proofs.Ytaahnicjjpddjaa.MadeW Go.Proofs.Ytaahnicjjpddjaa Go.Proofs.Ytaahnicjjpddjaa.Fld Go.Proofs.Ytaahnicjjpddjaa.Mat
theorem rdL_mul (m : List (List Int)) (i : Nat) (h : i < m.length) : GMulF.rd_L1 m (i : Int) = m[i] := by
  unfold GMulF.rd_L1; rw [Int.toNat_natCast, getD_get m [] i h]
theorem mul_f {k : Nat} (hk : 200 < k) (a b : Nat → Nat → F) (n m c : Nat) (h1 : 1 ≤ n) (h2 : n ≤ 12) (h3 : 1 ≤ m) (h4 : m ≤ 12) (h5 : 1 ≤ c) (h6 : c ≤ 12) :
    GMulF.matrix_Mul.f k (fmat a n m) (fmat b m c) = some (fmat (mm m a b) n c, 0) := by
  unfold GMulF.matrix_Mul.f
  rw [may_f uR, may_f uR, fmat_may a n m h1 h2 h3 h4, fmat_may b m c h3 h4 h5 h6]
  simp only [Option.bind_some, if_true]
  have e1 : (GMulF.rd_L1 (fmat a n m) 0).length = m := by
    rw [show (0 : Int) = ((0 : Nat) : Int) from rfl, rdL_mul _ 0 uN, ← cols_get _ uN, fmat_cols a n m uR]
  have e2 : (GMulF.rd_L1 (fmat b m c) 0).length = c := by
    rw [show (0 : Int) = ((0 : Nat) : Int) from rfl, rdL_mul _ 0 uN, ← cols_get _ uN, fmat_cols b m c uR]
  rw [e1, e2, fmat_length, fmat_length, if_pos uR, if_pos rfl, if_pos uR]
  have h : mulMade.f k (n : Int) (c : Int) (fmat a n m) (fmat b m c) = some (fmat (mm m a b) n c) := by
    unfold mulMade.f
    rw [Int.toNat_natCast, if_pos]
    · refine made_f hk _ (fun i j => toI (mm m a b i j)) n c h2 h6 (fun i j hi hj => ?_)
      unfold dotAt
      rw [fmat_length, fmat_length, if_pos ⟨uR, uR, uR, uR⟩, Int.toNat_natCast, Int.toNat_natCast, dotF_sum]
      congr 2
      unfold mm
      apply sum_congr
      intro k hk
      rw [fmat_ent a n m i k hi hk, fmat_ent b m c k j hk hj]
    · refine ⟨?_, rfl⟩
      unfold mulOk
      rw [fmat_length, fmat_ok, fmat_ok, decide_eq_true h4]; rfl
  rw [h]; rfl
theorem mul_no {k : Nat} (hk : 200 < k) (a b : List (List Int)) (h : ¬ (mayB a = true ∧ mayB b = true ∧ cols a = b.length)) : GMulF.matrix_Mul.f k a b = some ([], 300) := by
  unfold GMulF.matrix_Mul.f
  rw [may_f uR, may_f uR]
  simp only [Option.bind_some]
  by_cases ha : mayB a = true
  · rw [if_pos ha]
    by_cases hb : mayB b = true
    · rw [if_pos hb]
      have h0 := (may_fmat ha).1
      rw [if_pos uR, show (0 : Int) = ((0 : Nat) : Int) from rfl, rdL_mul a 0 uR, ← cols_get a uR, if_neg (fun e => h ⟨ha, hb, uR⟩)]
    · rw [if_neg hb]
  · rw [if_neg ha]
end Go.Proofs.Ytaahnicjjpddjaa.MatF
