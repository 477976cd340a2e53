/- Functions of the program as Lean functions, each with a proof that its call comes to what the function says; written by wip/gen.py of our own repo. No condition. What the printed functions of the field come to, in the field's own words; with enough rounds, for every number of the field. -/
import Derived.Test.YtaahnicjjpddjaaKDecodeSumsGRef1
import Derived.Test.YtaahnicjjpddjaaKDecodeSumsGRef3
import Derived.Test.YtaahnicjjpddjaaKDecodeSumsGRef10
import Derived.Test.YtaahnicjjpddjaaKDecodeSumsGfsGf
section
namespace Go.Proofs.Ytaahnicjjpddjaa.GRef
open Go.Proofs.Ytaahnicjjpddjaa.Fn
open Go.Proofs.Ytaahnicjjpddjaa
open Go.RowKit Go.Proofs.YtaahnicjjpddjaaW.PrintWords Go.Proofs.YtaahnicjjpddjaaW.PrintLast Go.Proofs.YtaahnicjjpddjaaW.PrintMore
attribute [local go_sem] max2_int min2_int max_two min_two max_three min_three max_four min_four   -- for this text's walks alone
set_option linter.unusedVariables false
set_option linter.unusedSimpArgs false

/-! ### ossuaryref1_inv: function 83 -/
/-! ### ossuaryref1_times: function 84 -/
/-! ### ossuaryref1_less: function 85 -/
def ossuaryref1_less.T3 : Bool × List (List Nat × List Nat) := (true, [([], []), ([], []), ([], []), ([], []), ([2, 3], [2, 3]), ([4], [4]), ([], []), ([], []), ([6, 7], [6, 7]), ([8], [8]), ([], []), ([9, 10], [9, 10]), ([5, 11], [5, 11]), ([0, 1, 0, 1, 2, 3, 4, 5, 6, 7, 8, 9, 10, 11, 12], [0, 1]), ([13, 12, 11, 0, 1, 2, 3, 4, 5, 6, 7, 8, 9, 10, 11, 12], [12, 13])])
def ossuaryref1_less.B3 : List Nat := [0, 0, 0, 0, 12, 28, 0, 0, 192, 448, 0, 1984, 4092, 8191, 16383]
theorem ossuaryref1_less.tab3 : rtab .any (opsOf Try.f85 3) = ossuaryref1_less.T3 := by kernel_rfl
theorem ossuaryref1_less.bits3 : waitsOk ossuaryref1_less.T3.2 ossuaryref1_less.B3 = true := by kernel_rfl
-- NOT PRINTED: function 41 (ossuaryref1_Invert)

end Go.Proofs.Ytaahnicjjpddjaa.GRef
end
section
namespace Go.Proofs.Ytaahnicjjpddjaa.RefGf
open Go.RowKit Go.Proofs.Ytaahnicjjpddjaa.GRef Go.Proofs.Ytaahnicjjpddjaa.Fld Go.Proofs.YtaahnicjjpddjaaW.PrintWords Go.Proofs.YtaahnicjjpddjaaW.PrintLast Go.Proofs.YtaahnicjjpddjaaW.PrintMore

theorem succ_of {n k : Nat} (h : n < k) : ∃ m, k = m + 1 := ⟨k - 1, by omega⟩

theorem bn_yes {n : Int} (h0 : 0 ≤ n) (h1 : n < 256) : ossuaryref1_byteNum.f n = some true := by
  unfold ossuaryref1_byteNum.f; rw [if_pos h0, decide_eq_true (by omega)]
theorem bn_no {n : Int} (h : n < 0 ∨ 256 ≤ n) : ossuaryref1_byteNum.f n = some false := by
  unfold ossuaryref1_byteNum.f
  by_cases h0 : n ≥ 0
  · rw [if_pos h0, decide_eq_false (by omega)]
  · rw [if_neg h0]
theorem shr_at (b i : Nat) (hi : i < 8) : shr .i64 (b : Int) (i : Int) = ((b / 2 ^ i : Nat) : Int) := by
  unfold shr
  have e : min (i : Int).toNat IntKind.i64.bits = i := by
    have : IntKind.i64.bits = 64 := rfl
    rw [this, Int.toNat_natCast]; omega
  rw [e]
  rw [Int.natCast_ediv, Int.natCast_pow]; rfl

theorem rmul_l (d : Nat) : ∀ (k : Nat) (a o : F) (b i : Nat), b < 256 → i + d = 8 → d < k → ossuaryref1_mul.l0 k (toI a) (b : Int) (toI o) (i : Int) = some (toI (o ^^^ fmN d a (b / 2 ^ i))) := by
  induction d with
  | zero =>
    intro k a o b i hb hi hk
    obtain ⟨k, rfl⟩ := succ_of hk
    simp only [ossuaryref1_mul.l0]
    rw [if_neg (by omega)]
    simp [fmN]
  | succ d ih =>
    intro k a o b i hb hi hk
    obtain ⟨k, rfl⟩ := succ_of hk
    have hw : wrap64 ((i : Int) + 1) = ((i + 1 : Nat) : Int) := wrap64_in (by omega) (by omega)
    have hd : b / 2 ^ (i + 1) = b / 2 ^ i / 2 := by rw [Nat.pow_succ, Nat.div_div_eq_div_mul]
    simp only [ossuaryref1_mul.l0]
    rw [if_pos (by omega), if_pos (by omega), shr_at b i (by omega), and_1, dbl_wrap, hw, fmN_succ, ← hd]
    by_cases h1 : b / 2 ^ i % 2 = 1
    · rw [if_pos (by omega)]
      have hbit : bitF (b / 2 ^ i) a = a := by unfold bitF; rw [if_pos h1]
      rw [hbit, ← BitVec.xor_assoc, xor_i64]
      by_cases h2 : toI a * 2 ≥ 256
      · rw [if_pos (by omega), dbl_hi a h2]
        exact ih k _ _ _ _ hb (by omega) (by omega)
      · rw [if_neg (by omega), dbl_lo a h2]
        exact ih k _ _ _ _ hb (by omega) (by omega)
    · rw [if_neg (by omega)]
      have hbit : bitF (b / 2 ^ i) a = 0#8 := by unfold bitF; rw [if_neg h1]
      rw [hbit, BitVec.zero_xor]
      by_cases h2 : toI a * 2 ≥ 256
      · rw [if_pos (by omega), dbl_hi a h2]
        exact ih k _ _ _ _ hb (by omega) (by omega)
      · rw [if_neg (by omega), dbl_lo a h2]
        exact ih k _ _ _ _ hb (by omega) (by omega)

theorem rmul_f {k : Nat} (hk : 8 < k) (a b : F) : ossuaryref1_mul.f k (toI a) (toI b) = some (toI (fm a b)) := by
  have h := rmul_l 8 k a 0#8 b.toNat 0 b.isLt rfl hk
  rw [BitVec.zero_xor, Nat.pow_zero, Nat.div_one] at h
  exact h
end Go.Proofs.Ytaahnicjjpddjaa.RefGf
end
