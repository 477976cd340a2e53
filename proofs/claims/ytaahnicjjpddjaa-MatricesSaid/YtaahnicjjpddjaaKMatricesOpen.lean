/- Any matrices, rows, number: the law's condition is what matrices in memory fulfil. Arguments opened as the printed contracts want them: slices of numbers, bools, strings, and of slices, each with its reach. No condition. -/
import Derived.Test.YtaahnicjjpddjaaKMatricesMatricesC
import Derived.Lib.SmallJoins
section
namespace Go.Proofs.Ytaahnicjjpddjaa.Pure
set_option linter.unusedVariables false
theorem Matrices {G1 G2 : Int → Prop} {G3 S3 G4 : Prop} (a : List (List Int)) (g1 : ∀ r ∈ a, (∀ x ∈ r, G1 x) ∧ r.length * 8 ≤ 140737488351232) (s1 : a.length * 24 ≤ 140737488351232) (b : List (List Int)) (g2 : ∀ r ∈ b, (∀ x ∈ r, G2 x) ∧ r.length * 8 ≤ 140737488351232) (s2 : b.length * 24 ≤ 140737488351232) (rows : List Int) (_ : G3) (_ : S3) (kk : Int) (_ : G4) : true = true ∧ MatR.Small a ∧ MatR.Small b :=
  ⟨rfl, ⟨s1, fun r h => (g1 r h).2⟩, s2, fun r h => (g2 r h).2⟩
end Go.Proofs.Ytaahnicjjpddjaa.Pure
end
section
namespace Go.Proofs.Ytaahnicjjpddjaa.Opn
open Go.RowKit Go.ChangeShapes Go.WideShapes Go.Joins Go.Deep Go.Proofs.YtaahnicjjpddjaaW.PrintWords
section
variable {H : Type}
/-- What reads as a datum of type e is of kind d, and G holds of it. -/
def Opens (enc : TypeId × Value → H) (P : Program) (W : World) (e : TypeId) {α : Type} (d : Kd α) (G : α → Prop) : Prop :=
  ∀ (n : Nat) (V : Value) (D : DataW H) (Pl : List MemPlace), DataW.trod enc P W 0 (fun _ => true) true n e [V] = some (D, Pl) →
    (∀ m ∈ D.weights P e, m ≤ 140737488351232) → ∃ x, d.K W x [V] ∧ G x
variable {enc : TypeId × Value → H} {P : Program} {W : World}
theorem opens_int {e : TypeId} {k : IntKind} (he : P.underlying e = some (.int k)) : Opens enc P W e (Kd.int k) (fun x => (Lit.int k x).wf = true) := by
  intro n V D Pl h _
  obtain ⟨x, hcs, _, hw⟩ := DataW.trod_int he h
  exact ⟨x, hcs, hw⟩
theorem weights_mem_all {e : TypeId} {n : Nat} : ∀ {ds : List (DataW H)} {d : DataW H}, d ∈ ds → n ∈ d.weights P e → n ∈ DataW.weightsAll P e ds
  | d0 :: ds, d, hd, hn => by
    simp only [DataW.weightsAll, List.mem_append]
    rcases List.mem_cons.1 hd with rfl | h
    · exact .inl hn
    · exact .inr (weights_mem_all h hn)
  | [], _, hd, _ => by simp at hd
theorem opens_slice {t e : TypeId} {α : Type} {d : Kd α} {G : α → Prop} (B : Nat) (ht : P.underlying t = some (.slice e)) (hc : P.cellsOf e = 1) (hB : P.bytesOf e = B) (hd : d.sz = 1)
    (ho : Opens enc P W e d G) : Opens enc P W t (Kd.slice e d) (fun xs => (∀ x ∈ xs, G x) ∧ xs.length * B ≤ 140737488351232) := by
  intro n V D Pl h hz
  rcases open_slice1 ht hc h with ⟨hcs, _⟩ | ⟨a, len, cap, m, n', V', D', Pl', hcs, _, hl, hm, hmm, hx, each⟩
  · simp only [List.cons.injEq, and_true] at hcs
    subst hcs
    exact ⟨[], ⟨none, 0, rfl, Nat.le_refl _, Kd.C_nil _ _⟩, by simp, by simp⟩
  · simp only [if_true] at hmm
    subst hmm
    simp only [List.cons.injEq, and_true] at hcs
    subst hcs
    simp only [Prod.mk.injEq] at hx
    have hw : (len + (m - len)) * B ≤ 140737488351232 ∧ ∀ i, i < len → ∀ q ∈ (D' i).weights P e, q ≤ 140737488351232 := by
      rw [hx.1] at hz
      simp only [DataW.weights, ht, List.mem_cons, List.mem_append] at hz
      constructor
      · have h1 := hz _ (.inl rfl)
        simp only [List.length_map, List.length_range, hB] at h1
        exact h1
      · intro i hi q hq
        exact hz q (.inr (.inl (weights_mem_all (List.mem_map.2 ⟨i, List.mem_range.2 hi, rfl⟩) hq)))
    have hex : ∀ i, i < len → ∃ x : α, d.K W x [V' i] ∧ G x := fun i hi => ho n' (V' i) (D' i) (Pl' i) (each i (by omega)).2 (hw.2 i hi)
    have hex2 : ∀ i, ∃ x : Option α, i < len → ∃ y, x = some y ∧ d.K W y [V' i] ∧ G y := by
      intro i
      by_cases hi : i < len
      · obtain ⟨x, hx⟩ := hex i hi
        exact ⟨some x, fun _ => ⟨x, rfl, hx⟩⟩
      · exact ⟨none, fun h => absurd h hi⟩
    let X : Nat → Option α := fun i => (hex2 i).choose
    have hX : ∀ i, i < len → ∃ y, X i = some y ∧ d.K W y [V' i] ∧ G y := fun i => (hex2 i).choose_spec
    let xs : List α := (List.range len).filterMap X
    have hall : ∀ k, k ≤ len → ((List.range k).filterMap X).length = k ∧ ∀ j, j < k → ∃ y, ((List.range k).filterMap X)[j]? = some y ∧ d.K W y [V' j] ∧ G y := by
      intro k
      induction k with
      | zero => intro _; exact ⟨rfl, fun j hj => absurd hj (by omega)⟩
      | succ k ih =>
        intro hk
        obtain ⟨h1, h2⟩ := ih (by omega)
        obtain ⟨y, hy, hy2⟩ := hX k (by omega)
        have e1 : (List.range (k + 1)).filterMap X = (List.range k).filterMap X ++ [y] := by
          rw [List.range_succ, List.filterMap_append]
          simp [hy]
        rw [e1]
        refine ⟨by rw [List.length_append, h1]; rfl, fun j hj => ?_⟩
        by_cases hj2 : j < k
        · obtain ⟨z, hz1, hz2⟩ := h2 j hj2
          exact ⟨z, by rw [List.getElem?_append_left (by omega)]; exact hz1, hz2⟩
        · have : j = k := by omega
          subst this
          exact ⟨y, by rw [List.getElem?_append_right (by omega), h1]; simp, hy2⟩
    obtain ⟨hlen, hget⟩ := hall len (Nat.le_refl _)
    have hxl : xs.length = len := hlen
    refine ⟨xs, ⟨some a, m, by rw [hlen], by rw [hlen]; exact hl, ⟨rfl, by rw [hlen]; unfold maxLen at hm; omega, fun _ => ⟨a, rfl, ?_⟩⟩⟩, ?_, ?_⟩
    · intro j p hp
      have hj : j < len := by
        have := (List.getElem?_eq_some_iff.1 hp).1
        omega
      obtain ⟨y, hy1, hy2, _⟩ := hget j hj
      have e2 : p = y := Option.some.inj (hp.symm.trans hy1)
      subst e2
      refine ⟨[V' j], by rw [hd]; rfl, hy2, fun i u hu => ?_⟩
      have hi0 : i = 0 := by
        have := (List.getElem?_eq_some_iff.1 hu).1
        simpa using this
      subst hi0
      have hu' : V' j = u := by simpa using hu
      rw [hd, Nat.mul_one, Nat.add_zero, ← hu']
      exact (each j (by omega)).1
    · intro x hx2
      obtain ⟨j, hj, hxj⟩ := List.mem_iff_getElem.1 hx2
      have hj' : j < len := by omega
      obtain ⟨y, hy1, _, hy3⟩ := hget j hj'
      have e2 : some x = some y := by rw [← hy1]; exact (List.getElem?_eq_some_iff.2 ⟨hj, hxj⟩).symm
      rw [Option.some.inj e2]; exact hy3
    · rw [hlen]
      exact Nat.le_trans (Nat.mul_le_mul_right _ (by omega)) hw.1
/-- A parameter of a slice's type. -/
theorem param_slice {t e : TypeId} {α : Type} {d : Kd α} {G : α → Prop} {r : Reach} {b0 B : Nat} {v : Value} {D : DataW H} {p : List MemPlace} {ts : List TypeId} {ds : List (DataW H)} {j : Nat}
    (ht : P.underlying t = some (.slice e)) (hc : P.cellsOf e = 1) (hB : P.bytesOf e = B) (hd : d.sz = 1) (ho : Opens enc P W e d G)
    (hv : Value.okWide P W r b0 t v) (h : DataW.Trod enc P W 0 (fun _ => true) true t v D p)
    (hsz : (DataW.weightsEach P ts ds).all (· ≤ reachBytes) = true) (hj : ts[j]? = some t) (hD : ds[j]? = some D) :
    ∃ A c xs, v = .slice A (List.length xs) c ∧ xs.length ≤ c ∧ d.C W A xs.length xs ∧ (∀ x ∈ xs, G x) ∧ xs.length * B ≤ 140737488351232 := by
  obtain ⟨a, len, cap, rfl⟩ := okWide_slice ht hv
  obtain ⟨n, hf⟩ := h
  have hz : ∀ m ∈ D.weights P t, m ≤ 140737488351232 := fun m hm => by
    have := List.all_eq_true.1 hsz _ (DataW.weights_mem_each hj hD m hm)
    exact of_decide_eq_true this
  obtain ⟨xs, ⟨A, c, hcs, hl, hC⟩, hG⟩ := opens_slice (enc := enc) B ht hc hB hd ho n (.slice a len cap) D p (by simpa [Value.cells] using hf) hz
  simp only [List.cons.injEq, and_true] at hcs
  exact ⟨A, c, xs, hcs, hl, hC, hG.1, hG.2⟩
/-- A parameter that is a struct of one slice. -/
theorem param_box {t s e : TypeId} {f0 : Field} {α : Type} {d : Kd α} {G : α → Prop} {r : Reach} {b0 B : Nat} {v : Value} {D : DataW H} {p : List MemPlace} {ts : List TypeId} {ds : List (DataW H)} {j : Nat}
    (hs : P.underlying t = some (.struct #[f0])) (hone : oneCellFields P #[f0] = true) (hC : P.cellsOf t = 1) (hf0 : f0.type = s)
    (ht : P.underlying s = some (.slice e)) (hc : P.cellsOf e = 1) (hB : P.bytesOf e = B) (hd : d.sz = 1) (ho : Opens enc P W e d G)
    (hv : Value.okWide P W r b0 t v) (h : DataW.Trod enc P W 0 (fun _ => true) true t v D p)
    (hsz : (DataW.weightsEach P ts ds).all (· ≤ reachBytes) = true) (hj : ts[j]? = some t) (hD : ds[j]? = some D) :
    ∃ A c xs, v = .agg #[.slice A (List.length xs) c] ∧ xs.length ≤ c ∧ d.C W A xs.length xs ∧ (∀ x ∈ xs, G x) ∧ xs.length * B ≤ 140737488351232 := by
  obtain ⟨cs, rfl, hsz'⟩ := okWide_struct hs hv
  obtain ⟨c0, rfl⟩ : ∃ c0, cs = #[c0] := by
    rw [hC] at hsz'
    match cs, hsz' with
    | ⟨[x]⟩, _ => exact ⟨x, rfl⟩
  obtain ⟨n, hf⟩ := h
  obtain ⟨y0, n', hx, _, hy⟩ := trod_struct1 hs hf
  obtain ⟨o0, k0⟩ := hone_of hone 0 f0 rfl
  simp only [Prod.mk.injEq] at hx
  have hz : ∀ m ∈ y0.1.weights P s, m ≤ 140737488351232 := fun m hm => by
    have hm2 : m ∈ D.weights P t := by
      rw [hx.1]
      simp only [DataW.weights, hs, DataW.weightsEach, List.map_cons, List.map_nil, hf0, List.append_nil]
      exact hm
    have := List.all_eq_true.1 hsz _ (DataW.weights_mem_each hj hD m hm2)
    exact of_decide_eq_true this
  have hy2 : DataW.trod enc P W 0 (fun _ => true) true n' s [c0] = some (y0.1, y0.2) := by
    rw [← hf0]
    simpa [Value.cells, o0, k0] using hy
  obtain ⟨xs, ⟨A, c, hcs, hl, hCC⟩, hG⟩ := opens_slice (enc := enc) B ht hc hB hd ho n' c0 y0.1 y0.2 hy2 hz
  simp only [List.cons.injEq, and_true] at hcs
  subst hcs
  exact ⟨A, c, xs, rfl, hl, hCC, hG.1, hG.2⟩
end
end Go.Proofs.Ytaahnicjjpddjaa.Opn
end
