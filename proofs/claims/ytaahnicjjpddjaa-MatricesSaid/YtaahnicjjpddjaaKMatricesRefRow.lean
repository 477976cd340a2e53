/- Functions of the program as Lean functions, each with a proof that its call comes to what the function says. No condition. What the printed functions of the field come to, in the field's own words; with enough rounds, for every number of the field. The reference's row operations on one row of a pair of matrices: what they come to. Plain; no condition. -/
import Derived.Test.YtaahnicjjpddjaaKMatricesGRef1
import Derived.Test.YtaahnicjjpddjaaKMatricesGRef3
section
namespace Go.Proofs.Ytaahnicjjpddjaa.GRef
end Go.Proofs.Ytaahnicjjpddjaa.GRef
end
section
namespace Go.Proofs.Ytaahnicjjpddjaa.GRef
open Go.Proofs.Ytaahnicjjpddjaa.Fn
open Go.Proofs.Ytaahnicjjpddjaa
open Go.RowKit Go.Proofs.YtaahnicjjpddjaaW.PrintWords Go.Proofs.YtaahnicjjpddjaaW.PrintLast Go.Proofs.YtaahnicjjpddjaaW.PrintMore
attribute [local go_sem] max2_int min2_int max_two min_two max_three min_three max_four min_four   -- for this text's walks alone
set_option linter.unusedVariables false
set_option linter.unusedSimpArgs false
def ossuaryref1_less.T3 : Bool × List (List Nat × List Nat) := (true, [([], []), ([], []), ([], []), ([], []), ([2, 3], [2, 3]), ([4], [4]), ([], []), ([], []), ([6, 7], [6, 7]), ([8], [8]), ([], []), ([9, 10], [9, 10]), ([5, 11], [5, 11]), ([0, 1, 0, 1, 2, 3, 4, 5, 6, 7, 8, 9, 10, 11, 12], [0, 1]), ([13, 12, 11, 0, 1, 2, 3, 4, 5, 6, 7, 8, 9, 10, 11, 12], [12, 13])])
def ossuaryref1_less.B3 : List Nat := [0, 0, 0, 0, 12, 28, 0, 0, 192, 448, 0, 1984, 4092, 8191, 16383]
theorem ossuaryref1_less.tab3 : rtab .any (opsOf Try.f85 3) = ossuaryref1_less.T3 := by kernel_rfl
theorem ossuaryref1_less.bits3 : waitsOk ossuaryref1_less.T3.2 ossuaryref1_less.B3 = true := by kernel_rfl
end Go.Proofs.Ytaahnicjjpddjaa.GRef
end
section
namespace Go.Proofs.Ytaahnicjjpddjaa.RefGf
open Go.RowKit Go.Proofs.Ytaahnicjjpddjaa.GRef Go.Proofs.Ytaahnicjjpddjaa.Fld Go.Proofs.YtaahnicjjpddjaaW.PrintWords Go.Proofs.YtaahnicjjpddjaaW.PrintLast Go.Proofs.YtaahnicjjpddjaaW.PrintMore
theorem succ_of {n k : Nat} (h : n < k) : ∃ m, k = m + 1 := ⟨k - 1, uR⟩
theorem shr_at (b i : Nat) (hi : i < 8) : shr .i64 (b : Int) (i : Int) = ((b / 2 ^ i : Nat) : Int) := by
  unfold shr
  have e : min (i : Int).toNat IntKind.i64.bits = i := by
    have : IntKind.i64.bits = 64 := rfl
    rw [this, Int.toNat_natCast]; omega
  rw [e]
  rw [Int.natCast_ediv, Int.natCast_pow]; rfl
theorem rmul_l (d : Nat) : ∀ (k : Nat) (a o : F) (b i : Nat), b < 256 → i + d = 8 → d < k → ossuaryref1_mul.l0 k (toI a) (b : Int) (toI o) (i : Int) = some (toI (o ^^^ fmN d a (b / 2 ^ i))) := by
  induction d with
  | zero =>
    intro k a o b i hb hi hk
    obtain ⟨k, rfl⟩ := succ_of hk
    simp only [ossuaryref1_mul.l0]
    rw [if_neg uR]
    simp [fmN]
  | succ d ih =>
    intro k a o b i hb hi hk
    obtain ⟨k, rfl⟩ := succ_of hk
    have hw : wrap64 ((i : Int) + 1) = ((i + 1 : Nat) : Int) := wrap64_in uR uR
    have hd : b / 2 ^ (i + 1) = b / 2 ^ i / 2 := by rw [Nat.pow_succ, Nat.div_div_eq_div_mul]
    simp only [ossuaryref1_mul.l0]
    rw [if_pos uR, if_pos uR, shr_at b i uR, and_1, dbl_wrap, hw, fmN_succ, ← hd]
    by_cases h1 : b / 2 ^ i % 2 = 1
    · rw [if_pos uR]
      have hbit : bitF (b / 2 ^ i) a = a := by unfold bitF; rw [if_pos h1]
      rw [hbit, ← BitVec.xor_assoc, xor_i64]
      by_cases h2 : toI a * 2 ≥ 256
      · rw [if_pos uR, dbl_hi a h2]
        exact ih k _ _ _ _ hb uR uR
      · rw [if_neg uR, dbl_lo a h2]
        exact ih k _ _ _ _ hb uR uR
    · rw [if_neg uR]
      have hbit : bitF (b / 2 ^ i) a = 0#8 := by unfold bitF; rw [if_neg h1]
      rw [hbit, BitVec.zero_xor]
      by_cases h2 : toI a * 2 ≥ 256
      · rw [if_pos uR, dbl_hi a h2]
        exact ih k _ _ _ _ hb uR uR
      · rw [if_neg uR, dbl_lo a h2]
        exact ih k _ _ _ _ hb uR uR
theorem rmul_f {k : Nat} (hk : 8 < k) (a b : F) : ossuaryref1_mul.f k (toI a) (toI b) = some (toI (fm a b)) := by
  have h := rmul_l 8 k a 0#8 b.toNat 0 b.isLt rfl hk
  rw [BitVec.zero_xor, Nat.pow_zero, Nat.div_one] at h
  exact h
end Go.Proofs.Ytaahnicjjpddjaa.RefGf
end
section
namespace Go.Proofs.Ytaahnicjjpddjaa.Pr
open Go.RowKit Go.Proofs.YtaahnicjjpddjaaW.PrintWords Go.Proofs.YtaahnicjjpddjaaW.PrintLast Go.Proofs.YtaahnicjjpddjaaW.PrintMore Go.Proofs.Ytaahnicjjpddjaa.Fld Go.Proofs.Ytaahnicjjpddjaa.Mat Go.Proofs.Ytaahnicjjpddjaa.GRef
theorem rowOf_set (g : Nat → Int) (n i : Nat) (x : Int) : (rowOf g n).set i x = rowOf (fun j => if j = i then x else g j) n := by
  apply List.ext_getElem
  · rw [List.length_set, rowOf_length, rowOf_length]
  · intro j h1 h2
    rw [List.getElem_set, rowOf_get, rowOf_get]
    by_cases e : i = j
    · rw [if_pos e, if_pos e.symm]
    · rw [if_neg e, if_neg (fun h => e h.symm)]
theorem rowOf_congr {g h : Nat → Int} {n : Nat} (e : ∀ j, j < n → g j = h j) : rowOf g n = rowOf h n := by
  apply List.ext_getElem
  · rw [rowOf_length, rowOf_length]
  · intro j h1 h2
    rw [rowOf_get, rowOf_get]
    exact e j (by rw [rowOf_length] at h1; exact h1)
section
variable {w w' : World} {n : Nat} {gs Cs : Nat → Nat} {hs : Nat → Nat → Nat × Nat} {v : Nat → Nat → Nat → F}
theorem Keep24.kept {t a : Nat} (hk : Kept w w' (fun k => k = (hs t a).1)) (hr : ∃ cur, w.heap[(hs t a).1]? = some (.cells cur 3 (0, 0))) : Keep24 w w' := by
  refine ⟨hk.1, fun k cs e => blk_kept e hk (fun e' => ?_)⟩
  obtain ⟨cur, hr⟩ := hr
  rw [e', hr] at e
  exact absurd (Obj.cells.inj (Option.some.inj e)).2.1 uQ
end
end Go.Proofs.Ytaahnicjjpddjaa.Pr
end
