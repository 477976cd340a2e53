/- Matrices, rows, numbers of any kind: what the call of the law comes to. -/
import Derived.Test.YtaahnicjjpddjaaKMatricesMatricesW
import Derived.Test.YtaahnicjjpddjaaKMatricesRefMul
import Derived.Test.YtaahnicjjpddjaaKMatricesShp
namespace Go.Proofs.Ytaahnicjjpddjaa.MatR
open Go.RowKit Go.Proofs.YtaahnicjjpddjaaW.PrintWords Go.Proofs.YtaahnicjjpddjaaW.PrintLast Go.Proofs.YtaahnicjjpddjaaW.PrintMore Go.Proofs.Ytaahnicjjpddjaa.Fld Go.Proofs.Ytaahnicjjpddjaa.Mat Go.Proofs.Ytaahnicjjpddjaa.Fn Go.Proofs.Ytaahnicjjpddjaa.MadeW Go.Proofs.Ytaahnicjjpddjaa Go.Proofs.Ytaahnicjjpddjaa.Pr Go.Proofs.Ytaahnicjjpddjaa.GRef
theorem succ_up (i : Nat) (h : i < 9223372036854775807) : wrap64 ((i : Int) + 1) = ((i + 1 : Nat) : Int) := wrap64_in uR uR
theorem copy_l (m : List (List Int)) (hm : m.length * 24 ≤ 140737488351232) (hr : ∀ r ∈ m, r.length * 8 ≤ 140737488351232) (d : Nat) : ∀ (k i : Nat), i + d = m.length → d < k →
    ossuarylaw0_CopyMatrix.l0 k (i : Int) m (m.take i) = some m := by
  induction d with
  | zero =>
    intro k i hi hk
    obtain ⟨k, rfl⟩ : ∃ m, k = m + 1 := ⟨k - 1, uR⟩
    simp only [ossuarylaw0_CopyMatrix.l0]
    rw [if_neg uR, List.take_of_length_le uR]
  | succ d ih =>
    intro k i hi hk
    obtain ⟨k, rfl⟩ : ∃ m, k = m + 1 := ⟨k - 1, uR⟩
    simp only [ossuarylaw0_CopyMatrix.l0]
    have hri := hr m[i] (List.getElem_mem uR)
    rw [if_pos uR]
    simp only [Option.bind_some]
    rw [if_pos uR, rdR m i uR, if_pos (by simp; omega), if_pos (by rw [List.length_take]; omega), List.nil_append, ← List.take_succ_eq_append_getElem uR, succ_up i uR]
    exact ih k (i + 1) uR uR
theorem copy_f {k : Nat} (m : List (List Int)) (hm : m.length * 24 ≤ 140737488351232) (hr : ∀ r ∈ m, r.length * 8 ≤ 140737488351232) (hk : m.length < k) : ossuarylaw0_CopyMatrix.f k m = some m := by
  have h := copy_l m hm hr m.length k 0 uR hk
  rw [List.take_zero] at h
  exact h
def mY : List (List Int) := [[1, 2], [3, 4]]
theorem mY_id {k : Nat} (hk : 200 < k) : GMulF.matrix_Mul.f k mY (idM 2) = some (mY, 0) := by
  have h := MatF.mul_f hk (ent mY) delta 2 2 2 uR uR uR uR uR uR
  have e1 : fmat (ent mY) 2 2 = mY := by decide +kernel
  have e2 : fmat (mm 2 (ent mY) delta) 2 2 = mY := by decide +kernel
  rw [e1, e2] at h
  exact h
theorem sameT {k : Nat} (hk : 200 < k) (m : List (List Int)) (h1 : m.length ≤ 12) (h2 : ∀ r ∈ m, r.length ≤ 12) : GBase.ossuarylaw0_SameMatrix.f k m m = some true := by
  rw [sameM_f _ _ 12 uR uR h2 uR, decide_eq_true rfl]
theorem awake_f {k : Nat} (hk : 200 < k) : GAwm.ossuarylaw3_awake.f k = some true := by
  unfold GAwm.ossuarylaw3_awake.f
  have e1 : GBase.matrix_Identity.f k 2 = some (idM 2, 0) := identity_f hk 2 uR uR
  have e3 : GBase.matrix_Pick.f k mY [1, 1, 0] = some ([[3, 4], [3, 4], [1, 2]], 0) := by
    rw [pick_f hk, if_pos (by decide +kernel)]; rfl
  have e4 : GBase.matrix_Pick.f k mY [2] = some ([], 300) := by
    rw [pick_f hk, if_neg (by decide +kernel)]
  have e5 : GMulF.matrix_Mul.f k mY [[3, 4], [3, 4], [1, 2]] = some ([], 300) := MatF.mul_no hk _ _ (by decide +kernel)
  have e7 : GBase.matrix_May.f k mY = some true := by rw [may_f uR]; congr 1
  have e8 : GBase.matrix_May.f k [] = some false := by rw [may_f uR]; rfl
  show ((some mY).bind fun y112 => _) = _
  simp only [Option.bind_some, e1, mY_id hk, e3, e4, e5, e7, e8, num_f]
  rw [sameT hk mY uQ uQ]
  simp only [Option.bind_some]
  rw [sameT hk _ uQ uQ]
  simp
theorem same_mtx {k : Nat} (hk : 200 < k) {p : List (List Int)} (h : Mtx p) : GBase.ossuarylaw0_SameMatrix.f k p p = some true := by
  rcases h with rfl | ⟨n, m, a, _, h2, _, h4, rfl⟩
  · exact sameT hk _ uQ uQ
  · exact sameF hk a a n m h2 h4 (fun _ _ _ _ => rfl)
theorem rmul_no {k : Nat} (hk : 300 < k) (a b : List (List Int)) (h : ¬ (mayB a = true ∧ mayB b = true ∧ cols a = b.length)) : ossuaryref1_MulMatrix.f k a b = some ([], 300) := by
  unfold ossuaryref1_MulMatrix.f
  rw [rmay_f uR, rmay_f uR]
  simp only [Option.bind_some]
  obtain ⟨k, rfl⟩ : ∃ m, k = m + 1 := ⟨k - 1, uR⟩
  by_cases ha : mayB a = true
  · rw [if_pos ha]
    by_cases hb : mayB b = true
    · rw [if_pos hb]
      have hl := (may_fmat ha).1.1
      have e0 : (rd_L2 a 0).length = cols a := by rw [show (0 : Int) = ((0 : Nat) : Int) from rfl, rdR a 0 uR, cols_get _ uR]
      rw [if_pos uR, e0]
      have hc : ((cols a : Int) != (b.length : Int)) = true := bne_iff_ne.2 (fun e => h ⟨ha, hb, uR⟩)
      rw [hc]
      simp only [ossuaryref1_MulMatrix.j0, if_true]
    · rw [if_neg hb]
      simp only [ossuaryref1_MulMatrix.j0, if_true]
  · rw [if_neg ha]
    simp only [ossuaryref1_MulMatrix.j0, if_true]
theorem mul_same {k : Nat} (hk : 7500 < k) (a b : List (List Int)) : ∃ p e, GMulF.matrix_Mul.f k a b = some (p, e) ∧ ossuaryref1_MulMatrix.f k a b = some (p, e) ∧ Mtx p := by
  by_cases h : mayB a = true ∧ mayB b = true ∧ cols a = b.length
  · obtain ⟨ha, hb, hab⟩ := h
    obtain ⟨A, n, m, rfl, n1, n2, m1, m2⟩ := may_ex ha
    obtain ⟨B, m', p, rfl, _, _, p1, p2⟩ := may_ex hb
    rw [fmat_cols _ _ _ uR, fmat_length] at hab
    subst hab
    exact ⟨_, _, MatF.mul_f uR A B n m p n1 n2 m1 m2 p1 p2, rmulM_f hk A B n m p n1 n2 m1 m2 p1 p2, Or.inr ⟨n, p, _, n1, n2, p1, p2, rfl⟩⟩
  · exact ⟨_, _, MatF.mul_no uR a b h, rmul_no uR a b h, Or.inl rfl⟩
theorem rowsIn_cons (n : Nat) (x : Int) (l : List Int) : rowsIn n (x :: l) = ((decide (0 ≤ x) && decide (x < (n : Int))) && rowsIn n l) := by unfold rowsIn; rw [List.all_cons]
theorem rpick_l (g : Nat → Nat → F) (n m : Nat) (_ : n ≤ 12) (hm : m ≤ 12) (rows : List Int) (h2 : rows.length ≤ 12) (e : Nat) : ∀ (k i : Nat), i + e = rows.length → e < k →
    ossuaryref1_Pick.l0 k rows (i : Int) (fmat g n m) (fmat (fun i j => g (rows.getD i 0).toNat j) i m) = some (if rowsIn n (rows.drop i) = true then (fmat (fun i j => g (rows.getD i 0).toNat j) rows.length m, 0) else ([], 300)) := by
  induction e with
  | zero =>
    intro k i hi hk
    obtain ⟨k, rfl⟩ : ∃ m, k = m + 1 := ⟨k - 1, uR⟩
    simp only [ossuaryref1_Pick.l0]
    rw [if_neg uR, List.drop_eq_nil_of_le uR, if_pos (show rowsIn n [] = true from rfl), show i = rows.length by omega]
  | succ e ih =>
    intro k i hi hk
    obtain ⟨k, rfl⟩ : ∃ m, k = m + 1 := ⟨k - 1, uR⟩
    have ih' := ih k (i + 1) uR uR
    have hi2 : i < rows.length := by omega
    rw [List.drop_eq_getElem_cons hi2, rowsIn_cons]
    simp only [ossuaryref1_Pick.l0]
    rw [if_pos uR, if_pos uR, rd_at rows i hi2, fmat_length]
    by_cases r0 : rows[i] < 0
    · rw [if_pos r0, decide_eq_false uR, Bool.false_and, Bool.false_and, if_neg uQ]
    · rw [if_neg r0]
      by_cases r1 : rows[i] ≥ (n : Int)
      · rw [if_pos r1, decide_eq_false (p := rows[i] < (n : Int)) uR, Bool.and_false, Bool.false_and, if_neg uQ]
      · rw [if_neg r1, decide_eq_true uR, decide_eq_true uR, Bool.true_and, Bool.true_and]
        obtain ⟨r, hr⟩ : ∃ r : Nat, rows[i] = (r : Int) := ⟨rows[i].toNat, uR⟩
        have hr2 : r < n := by omega
        have e1 : fmat (fun i j => g (rows.getD i 0).toNat j) i m ++ [rowOf (fun j => toI (g r j)) m] = fmat (fun i j => g (rows.getD i 0).toNat j) (i + 1) m := by
          have hg : rows.getD i 0 = (r : Int) := by rw [getD_get rows 0 i hi2]; exact hr
          refine Eq.trans ?_ (matOf_succ _ _ _).symm
          simp only [hg, Int.toNat_natCast]
          rfl
        rw [hr]
        simp only [Option.bind_some, List.nil_append, List.length_nil]
        rw [if_pos uR, if_pos uR, rdR _ r uN, fmat_get, rowOf_length, if_pos uR, fmat_length, if_pos uR, e1, succ_up i uR]
        exact ih'
theorem pick_same {k : Nat} (hk : 300 < k) (a : List (List Int)) (rows : List Int) : ∃ r e, GBase.matrix_Pick.f k a rows = some (r, e) ∧ ossuaryref1_Pick.f k a rows = some (r, e) ∧ Mtx r := by
  rw [pick_f uR]
  unfold ossuaryref1_Pick.f
  rw [rmay_f uR]
  obtain ⟨k, rfl⟩ : ∃ m, k = m + 1 := ⟨k - 1, uR⟩
  simp only [Option.bind_some]
  by_cases ha : mayB a = true
  · rw [if_pos ha]
    obtain ⟨A, n, m, rfl, n1, n2, m1, m2⟩ := may_ex ha
    by_cases h1 : rows.length < 1
    · rw [if_neg (fun h => by have := h.2.1.1; omega), if_pos uR]
      simp only [ossuaryref1_Pick.j0, if_true]
      exact ⟨_, _, rfl, rfl, Or.inl rfl⟩
    · rw [if_neg (c := (rows.length : Int) < 1) uR]
      by_cases h2 : 12 < rows.length
      · rw [if_neg (fun h => by have := h.2.1.2; omega), decide_eq_true uR]
        simp only [ossuaryref1_Pick.j0, if_true]
        exact ⟨_, _, rfl, rfl, Or.inl rfl⟩
      · rw [decide_eq_false (p := (rows.length : Int) > 12) uR]
        simp only [ossuaryref1_Pick.j0, Bool.false_eq_true, if_false]
        have h3 := rpick_l A n m n2 m2 rows uR rows.length k 0 uR uR
        rw [List.drop_zero] at h3
        have e0 : fmat (fun i j => A (rows.getD i 0).toNat j) 0 m = [] := rfl
        rw [e0] at h3
        rw [show ((0 : Nat) : Int) = 0 from rfl] at h3
        rw [h3, fmat_length]
        by_cases h4 : rowsIn n rows = true
        · rw [if_pos ⟨ha, ⟨uR, uR⟩, h4⟩, if_pos h4, pick_fmat _ _ _ _ h4]
          exact ⟨_, _, rfl, rfl, Or.inr ⟨rows.length, m, _, uR, uR, m1, m2, rfl⟩⟩
        · rw [if_neg (fun h => h4 h.2.2), if_neg h4]
          exact ⟨_, _, rfl, rfl, Or.inl rfl⟩
  · rw [if_neg (fun h => ha h.1), if_neg ha]
    simp only [ossuaryref1_Pick.j0, if_true]
    exact ⟨_, _, rfl, rfl, Or.inl rfl⟩
theorem id_same {k : Nat} (hk : 300 < k) (x : Int) : ∃ t e, GBase.matrix_Identity.f k x = some (t, e) ∧ ossuaryref1_Identity.f k x = some (t, e) ∧ Mtx t := by
  by_cases h : x < 1 ∨ 12 < x
  · refine ⟨_, _, identity_no x h, ?_, Or.inl rfl⟩
    unfold ossuaryref1_Identity.f
    obtain ⟨k, rfl⟩ : ∃ m, k = m + 1 := ⟨k - 1, uR⟩
    by_cases h1 : x < 1
    · rw [if_pos h1]
      simp only [ossuaryref1_Identity.j0, if_true]
    · rw [if_neg h1, decide_eq_true uR]
      simp only [ossuaryref1_Identity.j0, if_true]
  · obtain ⟨n, rfl⟩ : ∃ n : Nat, x = (n : Int) := ⟨x.toNat, uR⟩
    exact ⟨_, _, identity_f uR n uR uR, rid_f uR n uR uR, Or.inr ⟨n, n, delta, uR, uR, uR, uR, rfl⟩⟩
def Small (l : List (List Int)) : Prop := l.length * 24 ≤ 140737488351232 ∧ ∀ r ∈ l, r.length * 8 ≤ 140737488351232
theorem calls (A : Option Addr) (ca : Nat) (la : List (List Int)) (B : Option Addr) (cb : Nat) (lb : List (List Int)) (R : Option Addr) (cr : Nat) (rows : List Int) (kk : Int) (r : Bool) (w : World)
    (hA : Kd.C (Kd.slice 3 (Kd.int .i64)) w A la.length la) (hca : la.length ≤ ca) (hB : Kd.C (Kd.slice 3 (Kd.int .i64)) w B lb.length lb) (hcb : lb.length ≤ cb) (hR : Kd.C (Kd.int .i64) w R rows.length rows) (hcr : rows.length ≤ cr) (h : r = true ∧ Small la ∧ Small lb) :
    Calls Try.prog 3 #[.agg #[.slice A la.length ca], .agg #[.slice B lb.length cb], .slice R rows.length cr, .int .i64 kk] w fun e w' => e = .returned (.bool r) ∧ Below w.heap.size w w' := by
  obtain ⟨rfl, ⟨a1, a2⟩, b1, b2⟩ := h
  obtain ⟨K, hK⟩ : ∃ K, K = la.length + lb.length + 17592186044905 := ⟨_, rfl⟩
  obtain ⟨p, e1, m1, m2, m3⟩ := mul_same (k := K) uR la lb
  obtain ⟨q, e2, p1, p2, p3⟩ := pick_same (k := K) uR la rows
  obtain ⟨t, e3, i1, i2, i3⟩ := id_same (k := K) uR kk
  refine walk K A B R ca cb cr la lb rows kk p q t e1 e2 e3 (mayB la) w hA hca hB hcb hR hcr (copy_f la a1 a2 uR) (copy_f lb b1 b2 uR) m1 m2 p1 p2 i1 i2 (may_f uR la) (rmay_f uR la) (same_mtx uR m3) (same_mtx uR p3) (same_mtx uR i3) ?_ ?_ (awake_f uR) m3 p3
  · rw [sameM_f la la 17592186043904 uR uR (fun r h => by have := a2 r h; omega) uR, decide_eq_true rfl]
  · rw [sameM_f lb lb 17592186043904 uR uR (fun r h => by have := b2 r h; omega) uR, decide_eq_true rfl]
end Go.Proofs.Ytaahnicjjpddjaa.MatR
