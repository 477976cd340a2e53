/- The first rows are the identity, and as many rows as there are data, any of them, have an inverse: at every number. -/
import Derived.Test.YtaahnicjjpddjaaGGenAny2
import Derived.Test.YtaahnicjjpddjaaShp
namespace Go.Proofs.Ytaahnicjjpddjaa.Pure
open Go.RowKit Go.Proofs.Ytaahnicjjpddjaa.GGenAny Go.Proofs.YtaahnicjjpddjaaW.PrintWords Go.Proofs.YtaahnicjjpddjaaW.PrintLast Go.Proofs.YtaahnicjjpddjaaW.PrintMore Go.Proofs.Ytaahnicjjpddjaa.Fld Go.Proofs.Ytaahnicjjpddjaa.Mat Go.Proofs.Ytaahnicjjpddjaa.Fn Go.Proofs.Ytaahnicjjpddjaa.Pr

theorem awake5_f {k : Nat} (hk : 400 < k) : ossuarylaw5_awake.f k = some true := by
  unfold ossuarylaw5_awake.f
  have e1 : GGen.gen_Matrix.f k 2 1 = some ([[1, 0], [0, 1], [3, 2]], 0) := by rw [← code21]; exact gen_f hk 2 1 (by omega) (by omega) (by omega)
  have e2 : GGen.gen_Matrix.f k 0 0 = some ([], 500) := gen_no 0 0 (by omega)
  rw [e1, e2]
  simp only [Option.bind_some, num_f]
  rw [sameL (by omega) _ (by decide) (by decide)]
  simp only [Option.bind_some, if_true, genmay_f]
  rfl


/-- the bit of a number. -/
def bit (x : Int) (i : Nat) : Int := Go.bits .and .i64 (shr .i64 x (i : Int)) 1
theorem bit_or (x : Int) (i : Nat) : bit x i = 0 ∨ bit x i = 1 := by unfold bit; rw [and_1]; omega
def ones (x : Int) : Nat → Nat
  | 0 => 0
  | n + 1 => ones x n + if bit x n = 1 then 1 else 0
theorem ones_le (x : Int) (n : Nat) : ones x n ≤ n := by
  induction n with
  | zero => exact Nat.le_refl _
  | succ n ih => rw [ones]; split <;> omega
/-- rows so far: distinct, in their bounds; those whose bit is not 1 are below i. -/
structure Rws (x : Int) (n i : Nat) (rows : List Int) : Prop where
  nd : rows.Nodup
  lo : ∀ r ∈ rows, ∃ t : Nat, r = (t : Int) ∧ t < n ∧ (bit x t ≠ 1 → t < i)
theorem Rws.inn {x : Int} {n i : Nat} {rows : List Int} (h : Rws x n i rows) : rowsIn n rows = true := by
  unfold rowsIn
  rw [List.all_eq_true]
  intro r hr
  obtain ⟨t, rfl, h1, _⟩ := h.lo r hr
  rw [Bool.and_eq_true]
  exact ⟨decide_eq_true (by omega), decide_eq_true (by omega)⟩
theorem Rws.next {x : Int} {n i : Nat} {rows : List Int} (h : Rws x n i rows) : Rws x n (i + 1) rows :=
  ⟨h.nd, fun r hr => by obtain ⟨t, e, h1, h2⟩ := h.lo r hr; exact ⟨t, e, h1, fun hb => by have := h2 hb; omega⟩⟩
theorem Rws.add {x : Int} {n i : Nat} {rows : List Int} (h : Rws x n i rows) (hi : i < n) (hne : ((i : Nat) : Int) ∉ rows) : Rws x n (i + 1) (rows ++ [(i : Int)]) := by
  refine ⟨List.nodup_append.2 ⟨h.nd, by simp, fun a ha b hb e => ?_⟩, fun r hr => ?_⟩
  · rw [List.mem_singleton.1 hb] at e
    exact hne (e ▸ ha)
  · rcases List.mem_append.1 hr with h1 | h1
    · exact h.next.lo r h1
    · exact ⟨i, List.mem_singleton.1 h1, hi, fun _ => by omega⟩

theorem any_end (d p : Nat) (h1 : 1 ≤ d) (h2 : d ≤ 4) (h3 : p ≤ 2) (rows : List Int) (hl : rows.length = d) (hin : rowsIn (d + p) rows = true) (hnd : rows.Nodup) (e : Nat) : ∀ (k i : Nat), i + e = d → 300 + e < k →
    ossuarylaw5_GenAny.l2 k rows (upto i) (i : Int) (d : Int) (p : Int) (fmat (code d) (d + p) d) = some true := by
  induction e with
  | zero =>
    intro k i hi hk
    obtain ⟨k, rfl⟩ : ∃ m, k = m + 1 := ⟨k - 1, by omega⟩
    obtain rfl : d = i := by omega
    simp only [ossuarylaw5_GenAny.l2, num_f]
    obtain ⟨y, hy⟩ := code_picked h1 (by omega) (show d + p ≤ 12 by omega) rows hl hin hnd
    rw [if_neg (by omega), pick_ok (by omega) _ _ _ (by omega) (by omega) (by omega) (by omega) rows (by omega) (by omega) hin, pick_ok (by omega) _ _ _ (by omega) (by omega) (by omega) (by omega) (upto d) (by rw [upto_length]; omega) (by rw [upto_length]; omega) (upto_in _ _ (by omega)), hl, upto_length, identity_f (by omega) d h1 (by omega)]
    simp only [Option.bind_some]
    rw [inv_ok h1 (by omega) hy]
    simp only [Option.bind_some, if_true, idM]
    rw [sameF (by omega) _ _ d d (by omega) (by omega) (fun i' j hi' hj => by rw [upto_get _ _ hi']; exact code_top (by omega) i' j hi' hj)]
    rfl
  | succ e ih =>
    intro k i hi hk
    obtain ⟨k, rfl⟩ : ∃ m, k = m + 1 := ⟨k - 1, by omega⟩
    simp only [ossuarylaw5_GenAny.l2]
    rw [if_pos (by omega), upto_length, if_pos (by omega), succ_wrap i (by omega), ← upto_succ]
    exact ih k (i + 1) (by omega) (by omega)
theorem any_rest (x : Int) (d p : Nat) (h1 : 1 ≤ d) (h2 : d ≤ 4) (h3 : p ≤ 2) (e : Nat) : ∀ (k i : Nat) (rows : List Int), i + e = d + p → 320 + 2 * e < k → Rws x (d + p) i rows → rows.length = min d (ones x (d + p) + (i - ones x i)) →
    ossuarylaw5_GenAny.l1 k x ((d + p : Nat) : Int) rows (i : Int) (d : Int) (p : Int) (fmat (code d) (d + p) d) = some true := by
  induction e with
  | zero =>
    intro k i rows hi hk hr hl
    obtain ⟨k, rfl⟩ : ∃ m, k = m + 2 := ⟨k - 2, by omega⟩
    have := ones_le x (d + p)
    rw [show i = d + p by omega] at hl
    simp only [ossuarylaw5_GenAny.l1, ossuarylaw5_GenAny.j3]
    rw [if_neg (by omega)]
    simp only [Bool.false_eq_true, if_false]
    exact any_end d p h1 h2 h3 rows (by omega) hr.inn hr.nd d k 0 (by omega) (by omega)
  | succ e ih =>
    intro k i rows hi hk hr hl
    obtain ⟨k, rfl⟩ : ∃ m, k = m + 2 := ⟨k - 2, by omega⟩
    have ho := ones_le x i
    simp only [ossuarylaw5_GenAny.l1, ossuarylaw5_GenAny.j3]
    rw [if_pos (by omega)]
    by_cases hlt : rows.length < d
    · rw [decide_eq_true (by omega), if_pos rfl, if_pos (by omega)]
      by_cases hb : bit x i = 0
      · have hb' : Go.bits .and .i64 (shr .i64 x (i : Int)) 1 = 0 := hb
        rw [if_pos hb', if_pos (by omega), succ_wrap i (by omega)]
        refine ih (k) (i + 1) _ (by omega) (by omega) (hr.add (by omega) (fun hm => ?_)) ?_
        · obtain ⟨t, e1, _, h5⟩ := hr.lo _ hm
          obtain rfl : t = i := by omega
          have := h5 (by omega)
          omega
        · rw [List.length_append, List.length_singleton, ones, if_neg (by omega)]; omega
      · have hb1 : bit x i = 1 := by have := bit_or x i; omega
        have hb' : ¬ Go.bits .and .i64 (shr .i64 x (i : Int)) 1 = 0 := hb
        rw [if_neg hb', succ_wrap i (by omega)]
        refine ih (k) (i + 1) _ (by omega) (by omega) hr.next ?_
        rw [ones, if_pos hb1]; omega
    · rw [decide_eq_false (by omega)]
      simp only [Bool.false_eq_true, if_false]
      exact any_end d p h1 h2 h3 rows (by omega) hr.inn hr.nd d k 0 (by omega) (by omega)
theorem any_first (x : Int) (d p : Nat) (h1 : 1 ≤ d) (h2 : d ≤ 4) (h3 : p ≤ 2) (e : Nat) : ∀ (k i : Nat) (rows : List Int), i + e = d + p → 340 + e < k → Rws x (d + p) 0 rows → (∀ r ∈ rows, r < (i : Int)) → rows.length = min d (ones x i) →
    ossuarylaw5_GenAny.l0 k x ((d + p : Nat) : Int) rows (i : Int) (d : Int) (p : Int) (fmat (code d) (d + p) d) = some true := by
  induction e with
  | zero =>
    intro k i rows hi hk hr _ hl
    obtain ⟨k, rfl⟩ : ∃ m, k = m + 1 := ⟨k - 1, by omega⟩
    simp only [ossuarylaw5_GenAny.l0]
    rw [if_neg (by omega)]
    exact any_rest x d p h1 h2 h3 (d + p) k 0 rows (by omega) (by omega) hr (by rw [hl, show i = d + p by omega, ones]; omega)
  | succ e ih =>
    intro k i rows hi hk hr hlo hl
    obtain ⟨k, rfl⟩ : ∃ m, k = m + 1 := ⟨k - 1, by omega⟩
    simp only [ossuarylaw5_GenAny.l0]
    rw [if_pos (by omega), if_pos (by omega)]
    have hlo' : ∀ r ∈ rows, r < ((i + 1 : Nat) : Int) := fun r hr => by have := hlo r hr; omega
    by_cases hb : bit x i = 1
    · have ho : ones x (i + 1) = ones x i + 1 := by rw [ones, if_pos hb]
      have hb' : Go.bits .and .i64 (shr .i64 x (i : Int)) 1 = 1 := hb
      rw [if_pos hb']
      by_cases hlt : rows.length < d
      · rw [if_pos (by omega), if_pos (by omega), succ_wrap i (by omega)]
        refine ih k (i + 1) _ (by omega) (by omega) ?_ (fun r hr => ?_) (by rw [List.length_append, List.length_singleton]; omega)
        · have h4 := (hr.next).add (i := 1) (n := d + p)
          refine ⟨List.nodup_append.2 ⟨hr.nd, by simp, fun a ha b hb e => ?_⟩, fun r hr' => ?_⟩
          · rw [List.mem_singleton.1 hb] at e
            have := hlo a ha
            omega
          · rcases List.mem_append.1 hr' with h5 | h5
            · exact hr.lo r h5
            · exact ⟨i, List.mem_singleton.1 h5, by omega, fun h6 => absurd hb h6⟩
        · rcases List.mem_append.1 hr with h5 | h5
          · exact hlo' r h5
          · rw [List.mem_singleton.1 h5]; omega
      · rw [if_neg (by omega), succ_wrap i (by omega)]
        exact ih k (i + 1) _ (by omega) (by omega) hr hlo' (by omega)
    · have ho : ones x (i + 1) = ones x i := by rw [ones, if_neg hb]; rfl
      have hb' : ¬ Go.bits .and .i64 (shr .i64 x (i : Int)) 1 = 1 := hb
      rw [if_neg hb', succ_wrap i (by omega)]
      exact ih k (i + 1) _ (by omega) (by omega) hr hlo' (by omega)
theorem any_f {k : Nat} (hk : 450 < k) (a0 a1 a2 : Int) : ossuarylaw5_GenAny.f (k + 1) a0 a1 a2 = some true := by
  unfold ossuarylaw5_GenAny.f
  rw [awake5_f (by omega)]
  simp only [Option.bind_some, if_true]
  obtain ⟨r, hr, e⟩ := mod_u a0 4 (by omega) (by omega)
  obtain ⟨p, hp, e'⟩ := mod_u a1 3 (by omega) (by omega)
  rw [show ((4 : Nat) : Int) = 4 from rfl] at e
  rw [show ((3 : Nat) : Int) = 3 from rfl] at e'
  rw [e, e', wrap64_in (n := 1 + (r : Int)) (by omega) (by omega), show 1 + (r : Int) = ((1 + r : Nat) : Int) by omega, gen_f (by omega) (1 + r) p (by omega) (by omega) (by omega), wrap64_in (by omega) (by omega)]
  simp only [Option.bind_some, num_f, if_true, fmat_length]
  rw [show ((1 + r : Nat) : Int) + (p : Int) = ((1 + r + p : Nat) : Int) by omega, bne_self_eq_false]
  simp only [ossuarylaw5_GenAny.j0, Bool.false_eq_true, if_false]
  exact any_first a2 (1 + r) p (by omega) (by omega) (by omega) (1 + r + p) k 0 [] (by omega) (by omega) ⟨List.nodup_nil, fun _ h => by cases h⟩ (fun _ h => by cases h) (by rw [ones]; simp)
theorem GenAny {G G' G'' : Prop} (a0 : Int) (_ : G) (a1 : Int) (_ : G') (a2 : Int) (_ : G'') : ∃ k, ossuarylaw5_GenAny.f k a0 a1 a2 = some true := ⟨501, any_f (k := 500) (by omega) a0 a1 a2⟩
end Go.Proofs.Ytaahnicjjpddjaa.Pure
