/- The reference's row operations on one row of a pair of matrices: what they come to. Plain; no condition. -/
import Derived.Test.YtaahnicjjpddjaaInvOne
import Derived.Test.YtaahnicjjpddjaaRefGf
import Derived.Test.YtaahnicjjpddjaaGRef9
namespace Go.Proofs.Ytaahnicjjpddjaa.Pr
open Go.RowKit Go.Proofs.YtaahnicjjpddjaaW.PrintWords Go.Proofs.YtaahnicjjpddjaaW.PrintLast Go.Proofs.YtaahnicjjpddjaaW.PrintMore Go.Proofs.Ytaahnicjjpddjaa.Fld Go.Proofs.Ytaahnicjjpddjaa.Mat Go.Proofs.Ytaahnicjjpddjaa.GRef

theorem rowOf_set (g : Nat → Int) (n i : Nat) (x : Int) : (rowOf g n).set i x = rowOf (fun j => if j = i then x else g j) n := by
  apply List.ext_getElem
  · rw [List.length_set, rowOf_length, rowOf_length]
  · intro j h1 h2
    rw [List.getElem_set, rowOf_get, rowOf_get]
    by_cases e : i = j
    · rw [if_pos e, if_pos e.symm]
    · rw [if_neg e, if_neg (fun h => e h.symm)]
theorem rowOf_congr {g h : Nat → Int} {n : Nat} (e : ∀ j, j < n → g j = h j) : rowOf g n = rowOf h n := by
  apply List.ext_getElem
  · rw [rowOf_length, rowOf_length]
  · intro j h1 h2
    rw [rowOf_get, rowOf_get]
    exact e j (by rw [rowOf_length] at h1; exact h1)
theorem rd_rowOf (g : Nat → Int) (n i : Nat) (h : i < n) : rd (rowOf g n) (i : Int) = g i := by
  show (rowOf g n).getD (i : Int).toNat 0 = g i
  rw [Int.toNat_natCast, getD_get _ _ _ (by rw [rowOf_length]; exact h), rowOf_get]
theorem rtimes_l (r : Nat → F) (y : F) (n : Nat) (hn : n ≤ 12) (d : Nat) : ∀ (k i : Nat), i + d = n → d + 9 < k →
    ossuaryref1_times.l0 k (rowOf (fun j => toI (if j < i then fm (r j) y else r j)) n) (toI y) (i : Int) = some (rowOf (fun j => toI (fm (r j) y)) n) := by
  induction d with
  | zero =>
    intro k i hi hk
    obtain ⟨k, rfl⟩ : ∃ m, k = m + 1 := ⟨k - 1, by omega⟩
    simp only [ossuaryref1_times.l0]
    rw [rowOf_length, if_neg (by omega)]
    exact congrArg some (rowOf_congr (fun j hj => by simp only [if_pos (show j < i by omega)]))
  | succ d ih =>
    intro k i hi hk
    obtain ⟨k, rfl⟩ : ∃ m, k = m + 1 := ⟨k - 1, by omega⟩
    simp only [ossuaryref1_times.l0]
    rw [rowOf_length, if_pos (by omega), if_pos (by omega), rd_rowOf _ _ _ (by omega)]
    simp only [if_neg (Nat.lt_irrefl i)]
    rw [RefGf.rmul_f (by omega), Option.bind_some, Int.toNat_natCast, rowOf_set, succ_wrap i (by omega)]
    rw [← ih k (i + 1) (by omega) (by omega)]
    refine congrArg (fun l => ossuaryref1_times.l0 k l (toI y) ((i + 1 : Nat) : Int)) (rowOf_congr (fun j _ => ?_))
    by_cases e : j = i
    · simp only [if_pos e, if_pos (show j < i + 1 by omega)]; rw [e]
    · by_cases e2 : j < i
      · simp only [if_neg e, if_pos e2, if_pos (show j < i + 1 by omega)]
      · simp only [if_neg e, if_neg e2, if_neg (show ¬ j < i + 1 by omega)]
theorem rtimes_f {k : Nat} (hk : 30 < k) (r : Nat → F) (y : F) (n : Nat) (hn : n ≤ 12) : ossuaryref1_times.f k (rowOf (fun j => toI (r j)) n) (toI y) = some (rowOf (fun j => toI (fm (r j) y)) n) := by
  have h := rtimes_l r y n hn n k 0 (by omega) (by omega)
  simp only [Nat.not_lt_zero, if_false] at h
  exact h
theorem rless_l (r s : Nat → F) (y : F) (n : Nat) (hn : n ≤ 12) (d : Nat) : ∀ (k i : Nat), i + d = n → d + 9 < k →
    ossuaryref1_less.l0 k (rowOf (fun j => toI (if j < i then r j ^^^ fm (s j) y else r j)) n) (rowOf (fun j => toI (s j)) n) (toI y) (i : Int) = some (rowOf (fun j => toI (r j ^^^ fm (s j) y)) n) := by
  induction d with
  | zero =>
    intro k i hi hk
    obtain ⟨k, rfl⟩ : ∃ m, k = m + 1 := ⟨k - 1, by omega⟩
    simp only [ossuaryref1_less.l0]
    rw [rowOf_length, if_neg (by omega)]
    exact congrArg some (rowOf_congr (fun j hj => by simp only [if_pos (show j < i by omega)]))
  | succ d ih =>
    intro k i hi hk
    obtain ⟨k, rfl⟩ : ∃ m, k = m + 1 := ⟨k - 1, by omega⟩
    simp only [ossuaryref1_less.l0]
    rw [rowOf_length, rowOf_length, if_pos (by omega), if_pos (by omega), if_pos (by omega), rd_rowOf _ _ _ (by omega), rd_rowOf _ _ _ (by omega)]
    simp only [if_neg (Nat.lt_irrefl i)]
    rw [RefGf.rmul_f (by omega), Option.bind_some, xor_i64, Int.toNat_natCast, rowOf_set, succ_wrap i (by omega)]
    rw [← ih k (i + 1) (by omega) (by omega)]
    refine congrArg (fun l => ossuaryref1_less.l0 k l (rowOf (fun j => toI (s j)) n) (toI y) ((i + 1 : Nat) : Int)) (rowOf_congr (fun j _ => ?_))
    by_cases e : j = i
    · simp only [if_pos e, if_pos (show j < i + 1 by omega)]; rw [e]
    · by_cases e2 : j < i
      · simp only [if_neg e, if_pos e2, if_pos (show j < i + 1 by omega)]
      · simp only [if_neg e, if_neg e2, if_neg (show ¬ j < i + 1 by omega)]
theorem rless_f {k : Nat} (hk : 30 < k) (r s : Nat → F) (y : F) (n : Nat) (hn : n ≤ 12) : ossuaryref1_less.f k (rowOf (fun j => toI (r j)) n) (rowOf (fun j => toI (s j)) n) (toI y) = some (rowOf (fun j => toI (r j ^^^ fm (s j) y)) n) := by
  have h := rless_l r s y n hn n k 0 (by omega) (by omega)
  simp only [Nat.not_lt_zero, if_false] at h
  exact h

theorem hdr_inj {n : Nat} {h h' : Nat × Nat} (e : hdr n h = hdr n h') : h = h' := by
  unfold hdr at e
  injection e with e1 _ e3
  injection e1 with e1
  injection e1 with e1
  exact Prod.ext e1 e3
section
variable {w w' : World} {n : Nat} {gs Cs : Nat → Nat} {hs : Nat → Nat → Nat × Nat} {v : Nat → Nat → Nat → F}
/-- row a of matrix t, as r. -/
def setRow (v : Nat → Nat → Nat → F) (t a : Nat) (r : Nat → F) : Nat → Nat → Nat → F := fun t' i j => if t' = t ∧ i = a then r j else v t' i j
theorem Two.row_kept (H : Two w n gs Cs hs v) {t a base : Nat} {ok : Nat → Prop} {r : Nat → F} (ht : t < 2) (ha : a < n) (hk : Kept w w' (fun k => k = (hs t a).1)) (hR : Kd.R (Kd.int .i64) 3 w' base ok (hdr n (hs t a)) (rowOf (fun j => toI (r j)) n)) :
    Two w' n gs Cs hs (setRow v t a r) := by
  refine ⟨fun t' ht' => (H.out t' ht').of_eq (fun _ ho => blk_kept ho hk (out_ne_row (H.out t' ht') (H.row t a ht ha))), fun t' i ht' hi => ?_, H.apart, H.gapart⟩
  by_cases e : t' = t ∧ i = a
  · obtain ⟨rfl, rfl⟩ := e
    obtain ⟨hd, e1, e2, _⟩ := row_of_R (by omega) hR
    rw [← hdr_inj e1] at e2
    exact e2.congr (fun j _ => by unfold setRow; rw [if_pos ⟨rfl, rfl⟩])
  · refine ((H.row t' i ht' hi).of_eq (fun _ ho => blk_kept ho hk (fun e' => e (H.apart t' i t a ht' hi ht ha e')))).congr (fun j _ => ?_)
    unfold setRow
    rw [if_neg e]
theorem Keep24.kept {t a : Nat} (hk : Kept w w' (fun k => k = (hs t a).1)) (hr : ∃ cur, w.heap[(hs t a).1]? = some (.cells cur 3 (0, 0))) : Keep24 w w' := by
  refine ⟨hk.1, fun k cs e => blk_kept e hk (fun e' => ?_)⟩
  obtain ⟨cur, hr⟩ := hr
  rw [e', hr] at e
  exact absurd (Obj.cells.inj (Option.some.inj e)).2.1 (by decide)
theorem RowAt.toC {h : Nat × Nat} {r : Nat → F} (H : RowAt w h n r) : Kd.C (Kd.int .i64) w (some ⟨h.1, 0, none⟩) n (rowOf (fun j => toI (r j)) n) := by
  have h1 := R_of_row (base := 0) (ok := fun _ => True) H (Nat.zero_le _) trivial
  have h3 := (Kd.R_reads' h1).2.2
  rw [rowOf_length] at h3
  exact h3
end
end Go.Proofs.Ytaahnicjjpddjaa.Pr
