/- What the printed functions of the field come to, in the field's own words; with enough rounds, for every number of the field. -/
import Derived.Test.YtaahnicjjpddjaaGGf1
import Derived.Test.YtaahnicjjpddjaaNum
namespace Go.Proofs.Ytaahnicjjpddjaa.GfsGf
open Go.RowKit Go.Proofs.Ytaahnicjjpddjaa.GGf Go.Proofs.Ytaahnicjjpddjaa.Fld Go.Proofs.YtaahnicjjpddjaaW.PrintWords Go.Proofs.YtaahnicjjpddjaaW.PrintLast Go.Proofs.YtaahnicjjpddjaaW.PrintMore

theorem succ_of {n k : Nat} (h : n < k) : ∃ m, k = m + 1 := ⟨k - 1, by omega⟩

theorem gfis_yes {n : Int} (h0 : 0 ≤ n) (h1 : n < 256) : gf_Is.f n = some true := by
  unfold gf_Is.f; rw [if_pos h0, decide_eq_true h1]
theorem gfis_no {n : Int} (h : n < 0 ∨ 256 ≤ n) : gf_Is.f n = some false := by
  unfold gf_Is.f
  by_cases h0 : n ≥ 0
  · rw [if_pos h0, decide_eq_false (by omega)]
  · rw [if_neg h0]
theorem gfis (a : F) : gf_Is.f (toI a) = some true := gfis_yes (toI_lo a) (toI_hi a)
theorem times_l (n : Nat) : ∀ (k : Nat) (a o : F) (b : Nat), b < 2 ^ n → n < k → gf_Times.l0 k (toI a) (b : Int) (toI o) = some (toI (o ^^^ fmN n a b)) := by
  induction n with
  | zero =>
    intro k a o b hb hk
    obtain ⟨k, rfl⟩ := succ_of hk
    have hb0 : b = 0 := by have : (2 : Nat) ^ 0 = 1 := rfl; omega
    subst hb0
    simp only [gf_Times.l0]
    rw [if_neg (by omega)]
    simp [fmN]
  | succ n ih =>
    intro k a o b hb hk
    obtain ⟨k, rfl⟩ := succ_of hk
    have hb2 : b / 2 < 2 ^ n := by have : (2 : Nat) ^ (n + 1) = 2 ^ n * 2 := rfl; omega
    have hd : (b : Int) / 2 = ((b / 2 : Nat) : Int) := by omega
    simp only [gf_Times.l0]
    by_cases h0 : b = 0
    · subst h0
      rw [if_neg (by omega), fmN_zero_right]
      simp
    · rw [if_pos (by omega), and_1, dbl_wrap, hd, fmN_succ]
      by_cases h1 : b % 2 = 1
      · rw [if_pos (by omega)]
        have hbit : bitF b a = a := by unfold bitF; rw [if_pos h1]
        rw [hbit, ← BitVec.xor_assoc, xor_i64]
        by_cases h2 : toI a * 2 ≥ 256
        · rw [if_pos h2, dbl_hi a h2]
          exact ih k _ _ _ hb2 (by omega)
        · rw [if_neg h2, dbl_lo a h2]
          exact ih k _ _ _ hb2 (by omega)
      · rw [if_neg (by omega)]
        have hbit : bitF b a = 0#8 := by unfold bitF; rw [if_neg h1]
        rw [hbit, BitVec.zero_xor]
        by_cases h2 : toI a * 2 ≥ 256
        · rw [if_pos h2, dbl_hi a h2]
          exact ih k _ _ _ hb2 (by omega)
        · rw [if_neg h2, dbl_lo a h2]
          exact ih k _ _ _ hb2 (by omega)

theorem times_f {k : Nat} (hk : 8 < k) (a b : F) : gf_Times.f k (toI a) (toI b) = some (toI (fm a b)) := by
  have h := times_l 8 k a 0#8 b.toNat b.isLt hk
  rw [BitVec.zero_xor] at h
  exact h
theorem power_l (n : Nat) : ∀ (k : Nat) (a o : F) (e : Nat), e < 2 ^ n → n + 9 < k → gf_power.l0 k (toI a) (e : Int) (toI o) = some (toI (fm o (fp a e))) := by
  induction n with
  | zero =>
    intro k a o e he hk
    obtain ⟨k, rfl⟩ := succ_of hk
    have he0 : e = 0 := by have : (2 : Nat) ^ 0 = 1 := rfl; omega
    subst he0
    simp only [gf_power.l0]
    rw [if_neg (by omega), fp, fm_one]
  | succ n ih =>
    intro k a o e he hk
    obtain ⟨k, rfl⟩ := succ_of hk
    have he2 : e / 2 < 2 ^ n := by have : (2 : Nat) ^ (n + 1) = 2 ^ n * 2 := rfl; omega
    have hd : (e : Int) / 2 = ((e / 2 : Nat) : Int) := by omega
    simp only [gf_power.l0]
    by_cases h0 : e = 0
    · subst h0
      rw [if_neg (by omega), fp, fm_one]
    · rw [if_pos (by omega), and_1, hd]
      simp only [times_f (show 8 < k by omega), Option.bind_some]
      have e1 : fp (fm a a) (e / 2) = fp a (2 * (e / 2)) := fp_sq _ _
      by_cases h1 : e % 2 = 1
      · rw [if_pos (by omega), ih k _ _ _ he2 (by omega), e1, fm_assoc]
        have e2 : fm a (fp a (2 * (e / 2))) = fp a e := by
          rw [fm_comm]; show fp a (2 * (e / 2) + 1) = _; rw [show 2 * (e / 2) + 1 = e from by omega]
        rw [e2]
      · rw [if_neg (by omega), ih k _ _ _ he2 (by omega), e1, show 2 * (e / 2) = e from by omega]

theorem power_f {k : Nat} (hk : 19 < k) (a : F) (e : Nat) (he : e < 1024) : gf_power.f k (toI a) (e : Int) = some (toI (fp a e)) := by
  have h := power_l 10 k a 1#8 e he hk
  rw [one_fm] at h
  exact h
theorem ginv_f {k : Nat} (hk : 19 < k) (a : F) (h : a ≠ 0#8) : gf_Inv.f k (toI a) = some (toI (fi a), 0) := by
  unfold gf_Inv.f
  have hp := power_f hk a 254 (by omega)
  have hn : ¬ toI a = 0 := fun e => h ((toI_eq_zero a).1 e)
  simp only [gfis, Option.bind_some, if_true, if_neg hn]
  rw [show ((254 : Nat) : Int) = 254 from rfl] at hp
  rw [hp]; rfl
theorem ginv_zero {k : Nat} : gf_Inv.f k 0 = some (0, 101) := by
  unfold gf_Inv.f
  rw [gfis_yes (by omega) (by omega)]; rfl
theorem ginv_no {k : Nat} {x : Int} (h : x < 0 ∨ 256 ≤ x) : gf_Inv.f k x = some (0, 100) := by
  unfold gf_Inv.f
  rw [gfis_no h]; rfl
theorem gpow_f {k : Nat} (hk : 19 < k) (a : F) (e : Nat) (he : e ≤ 1000) : gf_Pow.f k (toI a) (e : Int) = some (toI (fp a e), 0) := by
  unfold gf_Pow.f
  simp only [gfis, Option.bind_some, if_true]
  rw [if_neg (by omega), if_neg (by omega), power_f hk a e (by omega)]; rfl
theorem gpow_no {k : Nat} {x e : Int} (h : (x < 0 ∨ 256 ≤ x) ∨ (0 ≤ x ∧ x < 256) ∧ (e < 0 ∨ 1000 < e)) : gf_Pow.f k x e = some (0, 100) := by
  unfold gf_Pow.f
  rcases h with h | ⟨⟨h0, h1⟩, h⟩
  · rw [gfis_no h]; rfl
  · rw [gfis_yes h0 h1]
    simp only [Option.bind_some, if_true]
    by_cases h2 : e < 0
    · rw [if_pos h2]
    · rw [if_neg h2, if_pos (by omega)]
end Go.Proofs.Ytaahnicjjpddjaa.GfsGf
