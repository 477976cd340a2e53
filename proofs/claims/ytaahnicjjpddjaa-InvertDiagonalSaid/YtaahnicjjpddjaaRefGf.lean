/- What the printed functions of the field come to, in the field's own words; with enough rounds, for every number of the field. -/
import Derived.Test.YtaahnicjjpddjaaGRef1
import Derived.Test.YtaahnicjjpddjaaGRef10
import Derived.Test.YtaahnicjjpddjaaGRef3
import Derived.Test.YtaahnicjjpddjaaGRef9
import Derived.Test.YtaahnicjjpddjaaNum
namespace Go.Proofs.Ytaahnicjjpddjaa.RefGf
open Go.RowKit Go.Proofs.Ytaahnicjjpddjaa.GRef Go.Proofs.Ytaahnicjjpddjaa.Fld Go.Proofs.YtaahnicjjpddjaaW.PrintWords Go.Proofs.YtaahnicjjpddjaaW.PrintLast Go.Proofs.YtaahnicjjpddjaaW.PrintMore

theorem succ_of {n k : Nat} (h : n < k) : ∃ m, k = m + 1 := ⟨k - 1, by omega⟩

theorem bn_yes {n : Int} (h0 : 0 ≤ n) (h1 : n < 256) : ossuaryref1_byteNum.f n = some true := by
  unfold ossuaryref1_byteNum.f; rw [if_pos h0, decide_eq_true (by omega)]
theorem bn_no {n : Int} (h : n < 0 ∨ 256 ≤ n) : ossuaryref1_byteNum.f n = some false := by
  unfold ossuaryref1_byteNum.f
  by_cases h0 : n ≥ 0
  · rw [if_pos h0, decide_eq_false (by omega)]
  · rw [if_neg h0]
theorem bn (a : F) : ossuaryref1_byteNum.f (toI a) = some true := bn_yes (toI_lo a) (toI_hi a)
theorem shr_at (b i : Nat) (hi : i < 8) : shr .i64 (b : Int) (i : Int) = ((b / 2 ^ i : Nat) : Int) := by
  unfold shr
  have e : min (i : Int).toNat IntKind.i64.bits = i := by
    have : IntKind.i64.bits = 64 := rfl
    rw [this, Int.toNat_natCast]; omega
  rw [e]
  rw [Int.natCast_ediv, Int.natCast_pow]; rfl

theorem rmul_l (d : Nat) : ∀ (k : Nat) (a o : F) (b i : Nat), b < 256 → i + d = 8 → d < k → ossuaryref1_mul.l0 k (toI a) (b : Int) (toI o) (i : Int) = some (toI (o ^^^ fmN d a (b / 2 ^ i))) := by
  induction d with
  | zero =>
    intro k a o b i hb hi hk
    obtain ⟨k, rfl⟩ := succ_of hk
    simp only [ossuaryref1_mul.l0]
    rw [if_neg (by omega)]
    simp [fmN]
  | succ d ih =>
    intro k a o b i hb hi hk
    obtain ⟨k, rfl⟩ := succ_of hk
    have hw : wrap64 ((i : Int) + 1) = ((i + 1 : Nat) : Int) := wrap64_in (by omega) (by omega)
    have hd : b / 2 ^ (i + 1) = b / 2 ^ i / 2 := by rw [Nat.pow_succ, Nat.div_div_eq_div_mul]
    simp only [ossuaryref1_mul.l0]
    rw [if_pos (by omega), if_pos (by omega), shr_at b i (by omega), and_1, dbl_wrap, hw, fmN_succ, ← hd]
    by_cases h1 : b / 2 ^ i % 2 = 1
    · rw [if_pos (by omega)]
      have hbit : bitF (b / 2 ^ i) a = a := by unfold bitF; rw [if_pos h1]
      rw [hbit, ← BitVec.xor_assoc, xor_i64]
      by_cases h2 : toI a * 2 ≥ 256
      · rw [if_pos (by omega), dbl_hi a h2]
        exact ih k _ _ _ _ hb (by omega) (by omega)
      · rw [if_neg (by omega), dbl_lo a h2]
        exact ih k _ _ _ _ hb (by omega) (by omega)
    · rw [if_neg (by omega)]
      have hbit : bitF (b / 2 ^ i) a = 0#8 := by unfold bitF; rw [if_neg h1]
      rw [hbit, BitVec.zero_xor]
      by_cases h2 : toI a * 2 ≥ 256
      · rw [if_pos (by omega), dbl_hi a h2]
        exact ih k _ _ _ _ hb (by omega) (by omega)
      · rw [if_neg (by omega), dbl_lo a h2]
        exact ih k _ _ _ _ hb (by omega) (by omega)

theorem rmul_f {k : Nat} (hk : 8 < k) (a b : F) : ossuaryref1_mul.f k (toI a) (toI b) = some (toI (fm a b)) := by
  have h := rmul_l 8 k a 0#8 b.toNat 0 b.isLt rfl hk
  rw [BitVec.zero_xor, Nat.pow_zero, Nat.div_one] at h
  exact h
theorem rinv_l (a : F) (ha : a ≠ 0#8) (d : Nat) : ∀ (k : Nat) (x : Int), 0 ≤ x → x + d = toI (fi a) → d + 9 < k → ossuaryref1_inv.l0 k (toI a) x = some (toI (fi a)) := by
  induction d with
  | zero =>
    intro k x h0 hx hk
    obtain ⟨k, rfl⟩ := succ_of hk
    have hx' : x = toI (fi a) := by omega
    subst hx'
    have hh := toI_hi (fi a)
    simp only [ossuaryref1_inv.l0]
    rw [if_pos hh, rmul_f (by omega), fm_fi a ha]
    rfl
  | succ d ih =>
    intro k x h0 hx hk
    obtain ⟨k, rfl⟩ := succ_of hk
    have hh := toI_hi (fi a)
    obtain ⟨y, rfl⟩ := ex_toI h0 (by omega)
    have hne : ¬ toI (fm a y) = 1 := by
      intro e
      have := fi_unique a y (toI_inj e)
      rw [this] at hx; omega
    simp only [ossuaryref1_inv.l0]
    rw [if_pos (by omega), rmul_f (by omega)]
    simp only [Option.bind_some]
    rw [if_neg hne, wrap64_in (by omega) (by omega)]
    exact ih k _ (by omega) (by omega) (by omega)
theorem fi_ne (a : F) (ha : a ≠ 0#8) : fi a ≠ 0#8 := by
  intro e
  have h := fm_fi a ha
  rw [e, fm_zero] at h
  exact absurd h (by decide)
theorem rinv_f {k : Nat} (hk : 270 < k) (a : F) (ha : a ≠ 0#8) : ossuaryref1_inv.f k (toI a) = some (toI (fi a)) := by
  have h0 := toI_lo (fi a)
  have h1 := toI_hi (fi a)
  have h2 : toI (fi a) ≠ 0 := fun e => fi_ne a ha ((toI_eq_zero _).1 e)
  exact rinv_l a ha (toI (fi a) - 1).toNat k 1 (by omega) (by omega) (by omega)
theorem rpow_l (d : Nat) : ∀ (k : Nat) (a : F) (i : Nat), i + d ≤ 1000 → d + 9 < k → ossuaryref1_Pow.l0 k (toI a) ((i + d : Nat) : Int) (toI (fp a i)) (i : Int) = some (toI (fp a (i + d)), 0) := by
  induction d with
  | zero =>
    intro k a i hi hk
    obtain ⟨k, rfl⟩ := succ_of hk
    simp only [ossuaryref1_Pow.l0]
    rw [if_neg (by omega)]; rfl
  | succ d ih =>
    intro k a i hi hk
    obtain ⟨k, rfl⟩ := succ_of hk
    have hw : wrap64 ((i : Int) + 1) = ((i + 1 : Nat) : Int) := wrap64_in (by omega) (by omega)
    simp only [ossuaryref1_Pow.l0]
    rw [if_pos (by omega), rmul_f (by omega)]
    simp only [Option.bind_some]
    have h := ih k a (i + 1) (by omega) (by omega)
    rw [show i + 1 + d = i + (d + 1) from by omega] at h
    rw [hw]
    exact h
theorem rPow_f {k : Nat} (hk : 1020 < k) (a : F) (e : Nat) (he : e ≤ 1000) : ossuaryref1_Pow.f k (toI a) (e : Int) = some (toI (fp a e), 0) := by
  unfold ossuaryref1_Pow.f
  rw [bn]
  simp only [Option.bind_some, if_true]
  rw [if_neg (by omega), decide_eq_false (by omega)]
  obtain ⟨k, rfl⟩ := succ_of hk
  simp only [ossuaryref1_Pow.j0]
  rw [if_neg (by decide)]
  have h := rpow_l e k a 0 (by omega) (by omega)
  rw [Nat.zero_add] at h
  exact h
theorem rPow_no {k : Nat} (hk : 0 < k) {x e : Int} (h : (x < 0 ∨ 256 ≤ x) ∨ (0 ≤ x ∧ x < 256) ∧ (e < 0 ∨ 1000 < e)) : ossuaryref1_Pow.f k x e = some (0, 100) := by
  obtain ⟨k, rfl⟩ := succ_of hk
  unfold ossuaryref1_Pow.f
  rcases h with h | ⟨⟨h0, h1⟩, h⟩
  · rw [bn_no h]; rfl
  · rw [bn_yes h0 h1]
    simp only [Option.bind_some, if_true]
    by_cases h2 : e < 0
    · rw [if_pos h2]; rfl
    · rw [if_neg h2, decide_eq_true (by omega)]; rfl
end Go.Proofs.Ytaahnicjjpddjaa.RefGf
