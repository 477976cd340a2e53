/- What the printed functions of the field come to, in the field's own words; with enough rounds, for every number of the field. The reference's row operations on one row of a pair of matrices: what they come to. Plain; no condition. -/
import Derived.Test.YtaahnicjjpddjaaKRebuildsGRef10
import Derived.Test.YtaahnicjjpddjaaKRebuildsGRef9
import Derived.Test.YtaahnicjjpddjaaKRebuildsInvOne
section
namespace Go.Proofs.Ytaahnicjjpddjaa.RefGf
open Go.RowKit Go.Proofs.Ytaahnicjjpddjaa.GRef Go.Proofs.Ytaahnicjjpddjaa.Fld Go.Proofs.YtaahnicjjpddjaaW.PrintWords Go.Proofs.YtaahnicjjpddjaaW.PrintLast Go.Proofs.YtaahnicjjpddjaaW.PrintMore
theorem succ_of {n k : Nat} (h : n < k) : ∃ m, k = m + 1 := ⟨k - 1, uX⟩
theorem bn_yes {n : Int} (h0 : 0 ≤ n) (h1 : n < 256) : ossuaryref1_byteNum.f n = some true := by
  unfold ossuaryref1_byteNum.f; rw [if_pos h0, decide_eq_true uX]
theorem bn_no {n : Int} (h : n < 0 ∨ 256 ≤ n) : ossuaryref1_byteNum.f n = some false := by
  unfold ossuaryref1_byteNum.f
  by_cases h0 : n ≥ 0
  · rw [if_pos h0, decide_eq_false uX]
  · rw [if_neg h0]
theorem bn (a : F) : ossuaryref1_byteNum.f (toI a) = some true := bn_yes (toI_lo a) (toI_hi a)
theorem shr_at (b i : Nat) (hi : i < 8) : shr .i64 (b : Int) (i : Int) = ((b / 2 ^ i : Nat) : Int) := by
  unfold shr
  have e : min (i : Int).toNat IntKind.i64.bits = i := by
    have : IntKind.i64.bits = 64 := rfl
    rw [this, Int.toNat_natCast]; omega
  rw [e]
  rw [Int.natCast_ediv, Int.natCast_pow]; rfl
theorem rmul_l (d : Nat) : ∀ (k : Nat) (a o : F) (b i : Nat), b < 256 → i + d = 8 → d < k → ossuaryref1_mul.l0 k (toI a) (b : Int) (toI o) (i : Int) = some (toI (o ^^^ fmN d a (b / 2 ^ i))) := by
  induction d with
  | zero =>
    intro k a o b i hb hi hk
    obtain ⟨k, rfl⟩ := succ_of hk
    simp only [ossuaryref1_mul.l0]
    rw [if_neg uX]
    simp [fmN]
  | succ d ih =>
    intro k a o b i hb hi hk
    obtain ⟨k, rfl⟩ := succ_of hk
    have hw : wrap64 ((i : Int) + 1) = ((i + 1 : Nat) : Int) := wrap64_in uX uX
    have hd : b / 2 ^ (i + 1) = b / 2 ^ i / 2 := by rw [Nat.pow_succ, Nat.div_div_eq_div_mul]
    simp only [ossuaryref1_mul.l0]
    rw [if_pos uX, if_pos uX, shr_at b i uX, and_1, dbl_wrap, hw, fmN_succ, ← hd]
    by_cases h1 : b / 2 ^ i % 2 = 1
    · rw [if_pos uX]
      have hbit : bitF (b / 2 ^ i) a = a := by unfold bitF; rw [if_pos h1]
      rw [hbit, ← BitVec.xor_assoc, xor_i64]
      by_cases h2 : toI a * 2 ≥ 256
      · rw [if_pos uX, dbl_hi a h2]
        exact ih k _ _ _ _ hb uX uX
      · rw [if_neg uX, dbl_lo a h2]
        exact ih k _ _ _ _ hb uX uX
    · rw [if_neg uX]
      have hbit : bitF (b / 2 ^ i) a = 0#8 := by unfold bitF; rw [if_neg h1]
      rw [hbit, BitVec.zero_xor]
      by_cases h2 : toI a * 2 ≥ 256
      · rw [if_pos uX, dbl_hi a h2]
        exact ih k _ _ _ _ hb uX uX
      · rw [if_neg uX, dbl_lo a h2]
        exact ih k _ _ _ _ hb uX uX
theorem rmul_f {k : Nat} (hk : 8 < k) (a b : F) : ossuaryref1_mul.f k (toI a) (toI b) = some (toI (fm a b)) := by
  have h := rmul_l 8 k a 0#8 b.toNat 0 b.isLt rfl hk
  rw [BitVec.zero_xor, Nat.pow_zero, Nat.div_one] at h
  exact h
theorem rinv_l (a : F) (ha : a ≠ 0#8) (d : Nat) : ∀ (k : Nat) (x : Int), 0 ≤ x → x + d = toI (fi a) → d + 9 < k → ossuaryref1_inv.l0 k (toI a) x = some (toI (fi a)) := by
  induction d with
  | zero =>
    intro k x h0 hx hk
    obtain ⟨k, rfl⟩ := succ_of hk
    have hx' : x = toI (fi a) := by omega
    subst hx'
    have hh := toI_hi (fi a)
    simp only [ossuaryref1_inv.l0]
    rw [if_pos hh, rmul_f uX, fm_fi a ha]
    rfl
  | succ d ih =>
    intro k x h0 hx hk
    obtain ⟨k, rfl⟩ := succ_of hk
    have hh := toI_hi (fi a)
    obtain ⟨y, rfl⟩ := ex_toI h0 uX
    have hne : ¬ toI (fm a y) = 1 := by
      intro e
      have := fi_unique a y (toI_inj e)
      rw [this] at hx; omega
    simp only [ossuaryref1_inv.l0]
    rw [if_pos uX, rmul_f uX]
    simp only [Option.bind_some]
    rw [if_neg hne, wrap64_in uX uX]
    exact ih k _ uX uX uX
theorem fi_ne (a : F) (ha : a ≠ 0#8) : fi a ≠ 0#8 := by
  intro e
  have h := fm_fi a ha
  rw [e, fm_zero] at h
  exact absurd h q9
theorem rinv_f {k : Nat} (hk : 270 < k) (a : F) (ha : a ≠ 0#8) : ossuaryref1_inv.f k (toI a) = some (toI (fi a)) := by
  have h0 := toI_lo (fi a)
  have h1 := toI_hi (fi a)
  have h2 : toI (fi a) ≠ 0 := fun e => fi_ne a ha ((toI_eq_zero _).1 e)
  exact rinv_l a ha (toI (fi a) - 1).toNat k 1 uX uX uX
theorem rpow_l (d : Nat) : ∀ (k : Nat) (a : F) (i : Nat), i + d ≤ 1000 → d + 9 < k → ossuaryref1_Pow.l0 k (toI a) ((i + d : Nat) : Int) (toI (fp a i)) (i : Int) = some (toI (fp a (i + d)), 0) := by
  induction d with
  | zero =>
    intro k a i hi hk
    obtain ⟨k, rfl⟩ := succ_of hk
    simp only [ossuaryref1_Pow.l0]
    rw [if_neg uX]; rfl
  | succ d ih =>
    intro k a i hi hk
    obtain ⟨k, rfl⟩ := succ_of hk
    have hw : wrap64 ((i : Int) + 1) = ((i + 1 : Nat) : Int) := wrap64_in uX uX
    simp only [ossuaryref1_Pow.l0]
    rw [if_pos uX, rmul_f uX]
    simp only [Option.bind_some]
    have h := ih k a (i + 1) uX uX
    rw [show i + 1 + d = i + (d + 1) from by omega] at h
    rw [hw]
    exact h
theorem rPow_f {k : Nat} (hk : 1020 < k) (a : F) (e : Nat) (he : e ≤ 1000) : ossuaryref1_Pow.f k (toI a) (e : Int) = some (toI (fp a e), 0) := by
  unfold ossuaryref1_Pow.f
  rw [bn]
  simp only [Option.bind_some, if_true]
  rw [if_neg uX, decide_eq_false uX]
  obtain ⟨k, rfl⟩ := succ_of hk
  simp only [ossuaryref1_Pow.j0]
  rw [if_neg q9]
  have h := rpow_l e k a 0 uX uX
  rw [Nat.zero_add] at h
  exact h
end Go.Proofs.Ytaahnicjjpddjaa.RefGf
end
section
namespace Go.Proofs.Ytaahnicjjpddjaa.Pr
open Go.RowKit Go.Proofs.YtaahnicjjpddjaaW.PrintWords Go.Proofs.YtaahnicjjpddjaaW.PrintLast Go.Proofs.YtaahnicjjpddjaaW.PrintMore Go.Proofs.Ytaahnicjjpddjaa.Fld Go.Proofs.Ytaahnicjjpddjaa.Mat Go.Proofs.Ytaahnicjjpddjaa.GRef
theorem rowOf_set (g : Nat → Int) (n i : Nat) (x : Int) : (rowOf g n).set i x = rowOf (fun j => if j = i then x else g j) n := by
  apply List.ext_getElem
  · rw [List.length_set, rowOf_length, rowOf_length]
  · intro j h1 h2
    rw [List.getElem_set, rowOf_get, rowOf_get]
    by_cases e : i = j
    · rw [if_pos e, if_pos e.symm]
    · rw [if_neg e, if_neg (fun h => e h.symm)]
theorem rowOf_congr {g h : Nat → Int} {n : Nat} (e : ∀ j, j < n → g j = h j) : rowOf g n = rowOf h n := by
  apply List.ext_getElem
  · rw [rowOf_length, rowOf_length]
  · intro j h1 h2
    rw [rowOf_get, rowOf_get]
    exact e j (by rw [rowOf_length] at h1; exact h1)
theorem rd_rowOf (g : Nat → Int) (n i : Nat) (h : i < n) : rd (rowOf g n) (i : Int) = g i := by
  show (rowOf g n).getD (i : Int).toNat 0 = g i
  rw [Int.toNat_natCast, getD_get _ _ _ (by rw [rowOf_length]; exact h), rowOf_get]
theorem rtimes_l (r : Nat → F) (y : F) (n : Nat) (hn : n ≤ 12) (d : Nat) : ∀ (k i : Nat), i + d = n → d + 9 < k →
    ossuaryref1_times.l0 k (rowOf (fun j => toI (if j < i then fm (r j) y else r j)) n) (toI y) (i : Int) = some (rowOf (fun j => toI (fm (r j) y)) n) := by
  induction d with
  | zero =>
    intro k i hi hk
    obtain ⟨k, rfl⟩ : ∃ m, k = m + 1 := ⟨k - 1, uX⟩
    simp only [ossuaryref1_times.l0]
    rw [rowOf_length, if_neg uX]
    exact congrArg some (rowOf_congr (fun j hj => by simp only [if_pos (show j < i by omega)]))
  | succ d ih =>
    intro k i hi hk
    obtain ⟨k, rfl⟩ : ∃ m, k = m + 1 := ⟨k - 1, uX⟩
    simp only [ossuaryref1_times.l0]
    rw [rowOf_length, if_pos uX, if_pos uX, rd_rowOf _ _ _ uX]
    simp only [if_neg (Nat.lt_irrefl i)]
    rw [RefGf.rmul_f uX, Option.bind_some, Int.toNat_natCast, rowOf_set, succ_wrap i uX]
    rw [← ih k (i + 1) uX uX]
    refine congrArg (fun l => ossuaryref1_times.l0 k l (toI y) ((i + 1 : Nat) : Int)) (rowOf_congr (fun j _ => ?_))
    by_cases e : j = i
    · simp only [if_pos e, if_pos (show j < i + 1 by omega)]; rw [e]
    · by_cases e2 : j < i
      · simp only [if_neg e, if_pos e2, if_pos (show j < i + 1 by omega)]
      · simp only [if_neg e, if_neg e2, if_neg (show ¬ j < i + 1 by omega)]
theorem rtimes_f {k : Nat} (hk : 30 < k) (r : Nat → F) (y : F) (n : Nat) (hn : n ≤ 12) : ossuaryref1_times.f k (rowOf (fun j => toI (r j)) n) (toI y) = some (rowOf (fun j => toI (fm (r j) y)) n) := by
  have h := rtimes_l r y n hn n k 0 uX uX
  simp only [Nat.not_lt_zero, if_false] at h
  exact h
theorem rless_l (r s : Nat → F) (y : F) (n : Nat) (hn : n ≤ 12) (d : Nat) : ∀ (k i : Nat), i + d = n → d + 9 < k →
    ossuaryref1_less.l0 k (rowOf (fun j => toI (if j < i then r j ^^^ fm (s j) y else r j)) n) (rowOf (fun j => toI (s j)) n) (toI y) (i : Int) = some (rowOf (fun j => toI (r j ^^^ fm (s j) y)) n) := by
  induction d with
  | zero =>
    intro k i hi hk
    obtain ⟨k, rfl⟩ : ∃ m, k = m + 1 := ⟨k - 1, uX⟩
    simp only [ossuaryref1_less.l0]
    rw [rowOf_length, if_neg uX]
    exact congrArg some (rowOf_congr (fun j hj => by simp only [if_pos (show j < i by omega)]))
  | succ d ih =>
    intro k i hi hk
    obtain ⟨k, rfl⟩ : ∃ m, k = m + 1 := ⟨k - 1, uX⟩
    simp only [ossuaryref1_less.l0]
    rw [rowOf_length, rowOf_length, if_pos uX, if_pos uX, if_pos uX, rd_rowOf _ _ _ uX, rd_rowOf _ _ _ uX]
    simp only [if_neg (Nat.lt_irrefl i)]
    rw [RefGf.rmul_f uX, Option.bind_some, xor_i64, Int.toNat_natCast, rowOf_set, succ_wrap i uX]
    rw [← ih k (i + 1) uX uX]
    refine congrArg (fun l => ossuaryref1_less.l0 k l (rowOf (fun j => toI (s j)) n) (toI y) ((i + 1 : Nat) : Int)) (rowOf_congr (fun j _ => ?_))
    by_cases e : j = i
    · simp only [if_pos e, if_pos (show j < i + 1 by omega)]; rw [e]
    · by_cases e2 : j < i
      · simp only [if_neg e, if_pos e2, if_pos (show j < i + 1 by omega)]
      · simp only [if_neg e, if_neg e2, if_neg (show ¬ j < i + 1 by omega)]
theorem rless_f {k : Nat} (hk : 30 < k) (r s : Nat → F) (y : F) (n : Nat) (hn : n ≤ 12) : ossuaryref1_less.f k (rowOf (fun j => toI (r j)) n) (rowOf (fun j => toI (s j)) n) (toI y) = some (rowOf (fun j => toI (r j ^^^ fm (s j) y)) n) := by
  have h := rless_l r s y n hn n k 0 uX uX
  simp only [Nat.not_lt_zero, if_false] at h
  exact h
theorem hdr_inj {n : Nat} {h h' : Nat × Nat} (e : hdr n h = hdr n h') : h = h' := by
  unfold hdr at e
  injection e with e1 _ e3
  injection e1 with e1
  injection e1 with e1
  exact Prod.ext e1 e3
section
variable {w w' : World} {n : Nat} {gs Cs : Nat → Nat} {hs : Nat → Nat → Nat × Nat} {v : Nat → Nat → Nat → F}
/-- row a of matrix t, as r. -/
def setRow (v : Nat → Nat → Nat → F) (t a : Nat) (r : Nat → F) : Nat → Nat → Nat → F := fun t' i j => if t' = t ∧ i = a then r j else v t' i j
theorem Two.row_kept (H : Two w n gs Cs hs v) {t a base : Nat} {ok : Nat → Prop} {r : Nat → F} (ht : t < 2) (ha : a < n) (hk : Kept w w' (fun k => k = (hs t a).1)) (hR : Kd.R (Kd.int .i64) 3 w' base ok (hdr n (hs t a)) (rowOf (fun j => toI (r j)) n)) :
    Two w' n gs Cs hs (setRow v t a r) := by
  refine ⟨fun t' ht' => (H.out t' ht').of_eq (fun _ ho => blk_kept ho hk (out_ne_row (H.out t' ht') (H.row t a ht ha))), fun t' i ht' hi => ?_, H.apart, H.gapart⟩
  by_cases e : t' = t ∧ i = a
  · obtain ⟨rfl, rfl⟩ := e
    obtain ⟨hd, e1, e2, _⟩ := row_of_R uX hR
    rw [← hdr_inj e1] at e2
    exact e2.congr (fun j _ => by unfold setRow; rw [if_pos ⟨rfl, rfl⟩])
  · refine ((H.row t' i ht' hi).of_eq (fun _ ho => blk_kept ho hk (fun e' => e (H.apart t' i t a ht' hi ht ha e')))).congr (fun j _ => ?_)
    unfold setRow
    rw [if_neg e]
theorem Keep24.kept {t a : Nat} (hk : Kept w w' (fun k => k = (hs t a).1)) (hr : ∃ cur, w.heap[(hs t a).1]? = some (.cells cur 3 (0, 0))) : Keep24 w w' := by
  refine ⟨hk.1, fun k cs e => blk_kept e hk (fun e' => ?_)⟩
  obtain ⟨cur, hr⟩ := hr
  rw [e', hr] at e
  exact absurd (Obj.cells.inj (Option.some.inj e)).2.1 q9
theorem RowAt.toC {h : Nat × Nat} {r : Nat → F} (H : RowAt w h n r) : Kd.C (Kd.int .i64) w (some ⟨h.1, 0, none⟩) n (rowOf (fun j => toI (r j)) n) := by
  have h1 := R_of_row (base := 0) (ok := fun _ => True) H (Nat.zero_le _) trivial
  have h3 := (Kd.R_reads' h1).2.2
  rw [rowOf_length] at h3
  exact h3
end
end Go.Proofs.Ytaahnicjjpddjaa.Pr
end
