/- Invert's helpers: what stands where in memory, row operations, the calls in it, walked by hand. No condition. -/
import Derived.Test.YtaahnicjjpddjaaKRebuildMendsMat
/- Two matrices side by side in memory, rows of rows with headers: what stands where, through stores. Plain; no condition. -/
namespace Go.Proofs.Ytaahnicjjpddjaa.Pr
open Go.RowKit Go.Proofs.YtaahnicjjpddjaaW.PrintWords Go.Proofs.YtaahnicjjpddjaaW.PrintLast Go.Proofs.YtaahnicjjpddjaaW.PrintMore Go.Proofs.Ytaahnicjjpddjaa.Fld
/-- a row's header: block, capacity. -/
def hdr (n : Nat) (h : Nat × Nat) : Value := .slice (some ⟨h.1, 0, none⟩) n h.2
def RowAt (w : World) (h : Nat × Nat) (n : Nat) (r : Nat → F) : Prop :=
  ∃ cur, w.heap[h.1]? = some (.cells cur 3 (0, 0)) ∧ cur.size = h.2 ∧ n ≤ h.2 ∧ h.2 ≤ maxLen ∧ ∀ j, j < n → cur[j]? = some (.int .i64 (toI (r j)))
def OutAt (w : World) (g C n : Nat) (hs : Nat → Nat × Nat) : Prop :=
  ∃ cur, w.heap[g]? = some (.cells cur 25 (0, 0)) ∧ cur.size = C ∧ n ≤ C ∧ C ≤ maxLen ∧ ∀ i, i < n → cur[i]? = some (hdr n (hs i))
theorem RowAt.of_eq {w w' : World} {h : Nat × Nat} {n : Nat} {r : Nat → F} (H : RowAt w h n r) (e : ∀ o, w.heap[h.1]? = some o → w'.heap[h.1]? = some o) : RowAt w' h n r := by
  obtain ⟨cur, h1, h2⟩ := H
  exact ⟨cur, e _ h1, h2⟩
theorem OutAt.of_eq {w w' : World} {g C n : Nat} {hs : Nat → Nat × Nat} (H : OutAt w g C n hs) (e : ∀ o, w.heap[g]? = some o → w'.heap[g]? = some o) : OutAt w' g C n hs := by
  obtain ⟨cur, h1, h2⟩ := H
  exact ⟨cur, e _ h1, h2⟩
theorem RowAt.congr {w : World} {h : Nat × Nat} {n : Nat} {r s : Nat → F} (H : RowAt w h n r) (e : ∀ j, j < n → r j = s j) : RowAt w h n s := by
  obtain ⟨cur, h1, h2, h3, h4, h5⟩ := H
  exact ⟨cur, h1, h2, h3, h4, fun j hj => by rw [← e j hj]; exact h5 j hj⟩
theorem RowAt.cell {w : World} {h : Nat × Nat} {n : Nat} {r : Nat → F} (H : RowAt w h n r) {j : Nat} (hj : j < n) : w.cell? ⟨h.1, j, none⟩ = some (.int .i64 (toI (r j))) := by
  obtain ⟨cur, h1, h2, h3, h4, h5⟩ := H
  exact (blk_cell h1 j).trans (h5 j hj)
theorem RowAt.frozen {w : World} {h : Nat × Nat} {n : Nat} {r : Nat → F} (H : RowAt w h n r) (j : Nat) : w.frozen? ⟨h.1, j, none⟩ = false := by
  obtain ⟨cur, h1, _⟩ := H
  exact blk_frozen h1 j
theorem OutAt.cell {w : World} {g C n : Nat} {hs : Nat → Nat × Nat} (H : OutAt w g C n hs) {i : Nat} (hi : i < n) : w.cell? ⟨g, i, none⟩ = some (hdr n (hs i)) := by
  obtain ⟨cur, h1, h2, h3, h4, h5⟩ := H
  exact (blk_cell h1 i).trans (h5 i hi)
theorem OutAt.frozen {w : World} {g C n : Nat} {hs : Nat → Nat × Nat} (H : OutAt w g C n hs) (i : Nat) : w.frozen? ⟨g, i, none⟩ = false := by
  obtain ⟨cur, h1, _⟩ := H
  exact blk_frozen h1 i
theorem RowAt.far {w : World} {h : Nat × Nat} {n : Nat} {r : Nat → F} (H : RowAt w h n r) {p : Addr} (hp : h.1 ≠ p.block) (u : Value) : RowAt (w.setCell p u) h n r :=
  H.of_eq (fun _ ho => (Below.heap_setCell w p u h.1 hp).trans ho)
theorem OutAt.far {w : World} {g C n : Nat} {hs : Nat → Nat × Nat} (H : OutAt w g C n hs) {p : Addr} (hp : g ≠ p.block) (u : Value) : OutAt (w.setCell p u) g C n hs :=
  H.of_eq (fun _ ho => (Below.heap_setCell w p u g hp).trans ho)
theorem RowAt.put {w : World} {h : Nat × Nat} {n : Nat} {r : Nat → F} (H : RowAt w h n r) (j : Nat) (x : F) : RowAt (w.setCell ⟨h.1, j, none⟩ (.int .i64 (toI x))) h n (fun t => if t = j then x else r t) := by
  obtain ⟨cur, h1, h2, h3, h4, h5⟩ := H
  refine ⟨cur.setIfInBounds j (.int .i64 (toI x)), blk_put h1 j _ rfl, by rw [Array.size_setIfInBounds]; exact h2, h3, h4, fun t ht => ?_⟩
  rw [Array.getElem?_setIfInBounds]
  by_cases e : j = t
  · rw [if_pos e, if_pos uV]; simp only [if_pos e.symm]
  · rw [if_neg e]; simp only [if_neg (fun e' : t = j => e e'.symm)]
    exact h5 t ht
theorem OutAt.put {w : World} {g C n : Nat} {hs : Nat → Nat × Nat} (H : OutAt w g C n hs) (i : Nat) (x : Nat × Nat) : OutAt (w.setCell ⟨g, i, none⟩ (hdr n x)) g C n (fun t => if t = i then x else hs t) := by
  obtain ⟨cur, h1, h2, h3, h4, h5⟩ := H
  refine ⟨cur.setIfInBounds i (hdr n x), blk_put h1 i _ rfl, by rw [Array.size_setIfInBounds]; exact h2, h3, h4, fun t ht => ?_⟩
  rw [Array.getElem?_setIfInBounds]
  by_cases e : i = t
  · rw [if_pos e, if_pos uV]; simp only [if_pos e.symm]
  · rw [if_neg e]; simp only [if_neg (fun e' : t = i => e e'.symm)]
    exact h5 t ht
theorem out_ne_row {w : World} {g C n : Nat} {hs : Nat → Nat × Nat} {h : Nat × Nat} {m : Nat} {r : Nat → F} (H : OutAt w g C n hs) (K : RowAt w h m r) : g ≠ h.1 := by
  obtain ⟨cur, h1, _⟩ := H
  obtain ⟨cur', h1', _⟩ := K
  intro e
  rw [e, h1'] at h1
  have := Obj.cells.inj (Option.some.inj h1)
  exact absurd this.2.1 uZ
/-- Two matrices of n rows and n columns, all rows in blocks of their own. -/
structure Two (w : World) (n : Nat) (gs Cs : Nat → Nat) (hs : Nat → Nat → Nat × Nat) (v : Nat → Nat → Nat → F) : Prop where
  out : ∀ t, t < 2 → OutAt w (gs t) (Cs t) n (hs t)
  row : ∀ t i, t < 2 → i < n → RowAt w (hs t i) n (v t i)
  apart : ∀ t i t' i', t < 2 → i < n → t' < 2 → i' < n → (hs t i).1 = (hs t' i').1 → t = t' ∧ i = i'
  gapart : gs 0 ≠ gs 1
def upd (v : Nat → Nat → Nat → F) (t i j : Nat) (x : F) : Nat → Nat → Nat → F := fun t' i' j' => if t' = t ∧ i' = i ∧ j' = j then x else v t' i' j'
variable {w w' : World} {n : Nat} {gs Cs : Nat → Nat} {hs : Nat → Nat → Nat × Nat} {v : Nat → Nat → Nat → F}
theorem Two.of_eq (H : Two w n gs Cs hs v) (e : ∀ (k : Nat) (o : Obj), w.heap[k]? = some o → w'.heap[k]? = some o) : Two w' n gs Cs hs v :=
  ⟨fun t ht => (H.out t ht).of_eq (e _), fun t i ht hi => (H.row t i ht hi).of_eq (e _), H.apart, H.gapart⟩
theorem Two.below (H : Two w n gs Cs hs v) (hb : Below w.heap.size w w') : Two w' n gs Cs hs v := H.of_eq (fun _ _ ho => blk_below ho hb)
theorem Two.drewN (H : Two w n gs Cs hs v) (m : Nat) : Two (w.drewN m) n gs Cs hs v := H.of_eq (fun _ _ ho => ho)
theorem Two.drew (H : Two w n gs Cs hs v) : Two w.drew n gs Cs hs v := H.of_eq (fun _ _ ho => ho)
theorem Two.congr {v' : Nat → Nat → Nat → F} (H : Two w n gs Cs hs v) (e : ∀ t i j, t < 2 → i < n → j < n → v t i j = v' t i j) : Two w n gs Cs hs v' :=
  ⟨H.out, fun t i ht hi => (H.row t i ht hi).congr (fun j hj => e t i j ht hi hj), H.apart, H.gapart⟩
theorem Two.far (H : Two w n gs Cs hs v) {p : Addr} (h1 : ∀ t, t < 2 → gs t ≠ p.block) (h2 : ∀ t i, t < 2 → i < n → (hs t i).1 ≠ p.block) (u : Value) : Two (w.setCell p u) n gs Cs hs v :=
  ⟨fun t ht => (H.out t ht).far (h1 t ht) u, fun t i ht hi => (H.row t i ht hi).far (h2 t i ht hi) u, H.apart, H.gapart⟩
theorem Two.put (H : Two w n gs Cs hs v) {t i : Nat} (ht : t < 2) (hi : i < n) (j : Nat) (x : F) : Two (w.setCell ⟨(hs t i).1, j, none⟩ (.int .i64 (toI x))) n gs Cs hs (upd v t i j x) := by
  refine ⟨fun t' ht' => (H.out t' ht').far (out_ne_row (H.out t' ht') (H.row t i ht hi)) _, fun t' i' ht' hi' => ?_, H.apart, H.gapart⟩
  by_cases e : t' = t ∧ i' = i
  · obtain ⟨rfl, rfl⟩ := e
    refine ((H.row t' i' ht hi).put j x).congr (fun j' _ => ?_)
    unfold upd
    by_cases e : j' = j
    · rw [if_pos e, if_pos ⟨rfl, rfl, e⟩]
    · rw [if_neg e, if_neg (fun h => e h.2.2)]
  · refine ((H.row t' i' ht' hi').far (fun h => e (H.apart t' i' t i ht' hi' ht hi h)) _).congr (fun j' _ => ?_)
    unfold upd
    rw [if_neg (fun h => e ⟨h.1, h.2.1⟩)]
end Go.Proofs.Ytaahnicjjpddjaa.Pr
/- Boxes of one kind that stay as they are, through draws, new memory and stores elsewhere. Plain; no condition. -/
namespace Go.Proofs.Ytaahnicjjpddjaa.Pr
open Go.RowKit Go.Proofs.YtaahnicjjpddjaaW.PrintWords Go.Proofs.YtaahnicjjpddjaaW.PrintLast Go.Proofs.YtaahnicjjpddjaaW.PrintMore Go.Proofs.Ytaahnicjjpddjaa.Fld
/-- every box of type 24 that stood, stands; memory has not shrunk. -/
structure Keep24 (w w' : World) : Prop where
  size : w.heap.size ≤ w'.heap.size
  box : ∀ (k : Nat) (cs : Array Value), w.heap[k]? = some (.cells cs 24 (0, 0)) → w'.heap[k]? = some (.cells cs 24 (0, 0))
theorem Keep24.refl (w : World) : Keep24 w w := ⟨Nat.le_refl _, fun _ _ h => h⟩
theorem Keep24.trans {a b c : World} (h : Keep24 a b) (h' : Keep24 b c) : Keep24 a c := ⟨Nat.le_trans h.size h'.size, fun k cs e => h'.box k cs (h.box k cs e)⟩
theorem Keep24.drew {w w' : World} (h : Keep24 w w') : Keep24 w w'.drew := ⟨h.size, h.box⟩
theorem Keep24.drewN {w w' : World} (h : Keep24 w w') (m : Nat) : Keep24 w (w'.drewN m) := ⟨h.size, h.box⟩
theorem Keep24.below {w w' w'' : World} (h : Keep24 w w') (hb : Below w'.heap.size w' w'') : Keep24 w w'' :=
  ⟨Nat.le_trans h.size hb.size, fun k cs e => blk_below (h.box k cs e) hb⟩
theorem Keep24.alloc {w w' : World} (h : Keep24 w w') (o : Obj) : Keep24 w (w'.alloc o) :=
  h.below ((Below.refl _ _).alloc (Nat.le_refl _) _)
theorem Keep24.new {w w' : World} (h : Keep24 w w') {p : Addr} (hp : w.heap.size ≤ p.block) (u : Value) : Keep24 w (w'.setCell p u) :=
  ⟨by rw [World.size_setCell]; exact h.size, fun k cs e => by
    have hk : k < w.heap.size := by
      rcases Nat.lt_or_ge k w.heap.size with hlt | hge
      · exact hlt
      · rw [Array.getElem?_eq_none hge] at e; cases e
    exact (Below.heap_setCell w' p u k uV).trans (h.box k cs e)⟩
theorem Keep24.typ {w w' : World} (h : Keep24 w w') {p : Addr} {cur : Array Value} {t : TypeId} (ho : w'.heap[p.block]? = some (.cells cur t (0, 0))) (ht : t ≠ 24) (u : Value) : Keep24 w (w'.setCell p u) :=
  ⟨by rw [World.size_setCell]; exact h.size, fun k cs e => by
    have hk : k ≠ p.block := by
      intro e'
      have h1 := h.box k cs e
      rw [e', ho] at h1
      exact ht (Obj.cells.inj (Option.some.inj h1)).2.1
    exact (Below.heap_setCell w' p u k hk).trans (h.box k cs e)⟩
theorem RowAt.blk {w : World} {hd : Nat × Nat} {n : Nat} {r : Nat → F} (H : RowAt w hd n r) : ∃ cur, w.heap[hd.1]? = some (.cells cur 3 (0, 0)) := by
  obtain ⟨cur, h1, _⟩ := H
  exact ⟨cur, h1⟩
theorem OutAt.blk {w : World} {g C n : Nat} {hs : Nat → Nat × Nat} (H : OutAt w g C n hs) : ∃ cur, w.heap[g]? = some (.cells cur 25 (0, 0)) := by
  obtain ⟨cur, h1, _⟩ := H
  exact ⟨cur, h1⟩
theorem Keep24.row {w w' : World} {b j : Nat} {u : Value} (h : Keep24 w w') (H : ∃ cur, w'.heap[b]? = some (.cells cur 3 (0, 0))) : Keep24 w (w'.setCell ⟨b, j, none⟩ u) := by
  obtain ⟨cur, h1⟩ := H
  exact h.typ (p := ⟨b, j, none⟩) h1 uZ u
theorem Keep24.out {w w' : World} {g j : Nat} {u : Value} (h : Keep24 w w') (H : ∃ cur, w'.heap[g]? = some (.cells cur 25 (0, 0))) : Keep24 w (w'.setCell ⟨g, j, none⟩ u) := by
  obtain ⟨cur, h1⟩ := H
  exact h.typ (p := ⟨g, j, none⟩) h1 uZ u
theorem Keep24.out2 {w w' : World} {g i j : Nat} {u u' : Value} (h : Keep24 w w') (H : ∃ cur, w'.heap[g]? = some (.cells cur 25 (0, 0))) : Keep24 w ((w'.setCell ⟨g, i, none⟩ u).setCell ⟨g, j, none⟩ u') := by
  obtain ⟨cur, h1⟩ := H
  exact (h.typ (p := ⟨g, i, none⟩) h1 uZ u).typ (p := ⟨g, j, none⟩) (blk_put h1 i u rfl) uZ u'
end Go.Proofs.Ytaahnicjjpddjaa.Pr
/- Rows multiplied and added in place, in both matrices of a pair: the calls' walks, by hand. No condition. -/
namespace Go.Proofs.Ytaahnicjjpddjaa.Pr
open Go.RowKit Go.Proofs.YtaahnicjjpddjaaW.PrintWords Go.Proofs.YtaahnicjjpddjaaW.PrintLast Go.Proofs.YtaahnicjjpddjaaW.PrintMore Go.Proofs.Ytaahnicjjpddjaa.Fld
def pairAt (w : World) (pg n : Nat) (gs Cs : Nat → Nat) : Prop := w.heap[pg]? = some (.cells #[.slice (some ⟨gs 0, 0, none⟩) n (Cs 0), .slice (some ⟨gs 1, 0, none⟩) n (Cs 1)] 91 (0, 0))
/-- row a of both, times y, up to: whole matrices below t, places below s in matrix t. -/
def scaled (v : Nat → Nat → Nat → F) (a : Nat) (y : F) (t s : Nat) : Nat → Nat → Nat → F := fun t' i j => if i = a ∧ (t' < t ∨ (t' = t ∧ j < s)) then fm (v t' i j) y else v t' i j
theorem scaled_step (v : Nat → Nat → Nat → F) (a : Nat) (y : F) (t s : Nat) : upd (scaled v a y t s) t a s (fm (scaled v a y t s t a s) y) = scaled v a y t (s + 1) := by
  funext t' i j
  unfold upd scaled
  by_cases e : t' = t ∧ i = a ∧ j = s
  · obtain ⟨rfl, rfl, rfl⟩ := e
    rw [if_pos ⟨rfl, rfl, rfl⟩, if_neg uV, if_pos ⟨rfl, .inr ⟨rfl, uV⟩⟩]
  · rw [if_neg e]
    by_cases e2 : i = a ∧ (t' < t ∨ (t' = t ∧ j < s))
    · rw [if_pos e2, if_pos uV]
    · rw [if_neg e2, if_neg uV]
theorem pair_cell {w : World} {pg n : Nat} {gs Cs : Nat → Nat} (h : pairAt w pg n gs Cs) {t : Nat} (ht : t < 2) : w.cell? ⟨pg, t, none⟩ = some (.slice (some ⟨gs t, 0, none⟩) n (Cs t)) := by
  rcases (show t = 0 ∨ t = 1 by omega) with rfl | rfl
  · exact (blk_cell h 0).trans rfl
  · exact (blk_cell h 1).trans rfl
theorem pair_lt {w : World} {pg n : Nat} {gs Cs : Nat → Nat} (h : pairAt w pg n gs Cs) : pg < w.heap.size := blk_lt h
theorem Two.lt_out {w : World} {n : Nat} {gs Cs : Nat → Nat} {hs : Nat → Nat → Nat × Nat} {v : Nat → Nat → Nat → F} (H : Two w n gs Cs hs v) {t : Nat} (ht : t < 2) : gs t < w.heap.size := by
  obtain ⟨_, h, _⟩ := H.out t ht
  exact blk_lt h
theorem Two.lt_row {w : World} {n : Nat} {gs Cs : Nat → Nat} {hs : Nat → Nat → Nat × Nat} {v : Nat → Nat → Nat → F} (H : Two w n gs Cs hs v) {t i : Nat} (ht : t < 2) (hi : i < n) : (hs t i).1 < w.heap.size := by
  obtain ⟨_, h, _⟩ := H.row t i ht hi
  exact blk_lt h
theorem scaled_next (v : Nat → Nat → Nat → F) (a : Nat) (y : F) (t n t' i j : Nat) (hj : j < n) : scaled v a y t n t' i j = scaled v a y (t + 1) 0 t' i j := by
  unfold scaled
  by_cases e : i = a ∧ (t' < t ∨ (t' = t ∧ j < n))
  · rw [if_pos e, if_pos uV]
  · rw [if_neg e, if_neg uV]
theorem pair_ne_row {w : World} {pg n : Nat} {gs Cs : Nat → Nat} {hs : Nat → Nat → Nat × Nat} {v : Nat → Nat → Nat → F} (h : pairAt w pg n gs Cs) (H : Two w n gs Cs hs v) {t i : Nat} (ht : t < 2) (hi : i < n) : pg ≠ (hs t i).1 := by
  obtain ⟨cur, h1, _⟩ := H.row t i ht hi
  exact blk_ne h h1 uZ
theorem pair_ne_out {w : World} {pg n : Nat} {gs Cs : Nat → Nat} {hs : Nat → Nat → Nat × Nat} {v : Nat → Nat → Nat → F} (h : pairAt w pg n gs Cs) (H : Two w n gs Cs hs v) {t : Nat} (ht : t < 2) : pg ≠ gs t := by
  obtain ⟨cur, h1, _⟩ := H.out t ht
  exact blk_ne h h1 uZ
/-- a block made now is none of those. -/
def Fresh (gx pg n : Nat) (gs : Nat → Nat) (hs : Nat → Nat → Nat × Nat) : Prop := pg ≠ gx ∧ (∀ t, t < 2 → gs t ≠ gx) ∧ (∀ t i, t < 2 → i < n → (hs t i).1 ≠ gx)
theorem fresh_block {w : World} {gx pg n : Nat} {gs Cs : Nat → Nat} {hs : Nat → Nat → Nat × Nat} {v : Nat → Nat → Nat → F} (hg : gx = w.heap.size) (H : Two w n gs Cs hs v) (hP : pairAt w pg n gs Cs) : Fresh gx pg n gs hs :=
  ⟨by have := pair_lt hP; omega, fun t ht => by have := H.lt_out ht; omega, fun t i ht hi => by have := H.lt_row ht hi; omega⟩
set_option maxHeartbeats 2000000 in
set_option maxRecDepth 100000 in
theorem scale_calls (W0 : World) (pg n : Nat) (gs Cs : Nat → Nat) (hs : Nat → Nat → Nat × Nat) (v : Nat → Nat → Nat → F) (a : Nat) (y : F) (w : World)
    (hn : n ≤ 12) (ha : a < n) (hP : pairAt w pg n gs Cs) (hT : Two w n gs Cs hs v) (hB : Below W0.heap.size W0 w) (hnew : ∀ t i, t < 2 → i < n → W0.heap.size ≤ (hs t i).1) :
    Calls Try.prog 80 #[.pointer (some ⟨pg, 0, none⟩), .int .i64 a, .int .i64 (toI y)] w fun e w' => e = .returned (.tuple #[]) ∧ Two w' n gs Cs hs (scaled v a y 2 0) ∧ pairAt w' pg n gs Cs ∧ Below W0.heap.size W0 w' ∧ Keep24 w w' := by
  have hu24 := Try.underlying24
  have HP := Aside0.mk hP
  have HT := Aside0.mk hT
  have HB := Aside0.mk hB
  have HK := Aside0.mk (Keep24.refl w)
  have HN := Aside0.mk hnew
  clear hP hT hB hnew
  have hs0 : scaled v a y 0 0 = v := by funext t' i j; unfold scaled; rw [if_neg uV]
  go_enter Try.func80, Try.ntmps80
  go_wp2
  go_loopw [12] (fun v12 wr => ∃ t : Nat, v12 = .int .i64 t ∧ t ≤ 2 ∧ Aside0 (Two wr n gs Cs hs (scaled v a y t 0)) ∧ Aside0 (pairAt wr pg n gs Cs) ∧ Aside0 (Below W0.heap.size W0 wr) ∧ Aside0 (Keep24 w wr)) (fun v _ => 2 - (intOf v).toNat)
  case atStart => exact ⟨0, rfl, uV, ⟨by rw [hs0]; exact HT.out⟩, HP, HB, HK⟩
  case round =>
    clear HT HP HB HK
    obtain ⟨t, rfl, ht2, HT, HP, HB, HK⟩ := hrel
    by_cases ht : t < 2
    · have q1 : decide ((t : Int) < 2) = true := decide_eq_true uV
      have q2 : decide ((a : Int) < (n : Int)) = true := decide_eq_true uV
      have x1 := pair_cell HP.out ht
      have x2 : wr.cell? ⟨gs t, a, none⟩ = some (.slice (some ⟨(hs t a).1, 0, none⟩) n (hs t a).2) := (HT.out.out t ht).cell ha
      have GER := Aside0.mk (HN.out t a ht ha)
      obtain ⟨gr, hgr⟩ : ∃ x, x = (hs t a).1 := ⟨_, rfl⟩
      obtain ⟨cr, hcr⟩ : ∃ x, x = (hs t a).2 := ⟨_, rfl⟩
      rw [← hgr, ← hcr] at x2
      rw [← hgr] at GER
      have HGR := Aside0.mk hgr
      have HCR := Aside0.mk hcr
      clear hgr hcr
      go_wp2_with (first
        | ((with_reducible refine gate_dst (N := 7) rfl ?_); refine box_event uW (N := 7) uW (cs := #[.slice none 0 0]) (t := 24) uL ?_; intro gx hg w18 hbox hb;
           have n0_ := Aside0.mk (below_step ul hb); have n1_ := Aside0.mk (hbox); have n2_ := Aside0.mk ((by rw [hg]; exact (below_size ul) : W0.heap.size ≤ gx));
           have n6_ := Aside0.mk (HK.out.below hb); have n7_ := Aside0.mk (show w.heap.size ≤ gx by rw [hg]; exact HK.out.size); have n3_ := Aside0.mk (HT.out.below hb); have n4_ := Aside0.mk (blk_below HP.out hb); have n5_ := Aside0.mk (fresh_block hg HT.out HP.out);
           clear HB HT HP HK x1 x2; have HB := n0_; have BKX := n1_; have GEX := n2_; have HT := n3_; have HP : Aside0 (pairAt w18 pg n gs Cs) := n4_; have NX := n5_; have HK := n6_; have KX := n7_; clear n0_ n1_ n2_ n3_ n4_ n5_ n6_ n7_; clear hb hbox hg; have hcz := (blk_cell BKX.out 0); have hfz := blk_frozen BKX.out 0; have hne1 := NX.out.2.1 t ht; have hne2 := (NX.out.2.1 t ht).symm;
           have x1 := pair_cell HP.out ht;
           have x2 : w18.cell? ⟨gs t, a, none⟩ = some (.slice (some ⟨gr, 0, none⟩) n cr) := by rw [HGR.out, HCR.out]; exact (HT.out.out t ht).cell ha))
      have HB1 := Aside0.mk (show Below W0.heap.size W0 (w18.setCell ⟨gx, 0, none⟩ (.slice (some ⟨gs t, 0, none⟩) n (Cs t))) from ud)
      have HK1 := Aside0.mk (HK.out.new (p := ⟨gx, 0, none⟩) KX.out (.slice (some ⟨gs t, 0, none⟩) n (Cs t)))
      have HT1 := Aside0.mk (HT.out.far (p := ⟨gx, 0, none⟩) (fun t' h' => NX.out.2.1 t' h') (fun t' i' h' k' => NX.out.2.2 t' i' h' k') (.slice (some ⟨gs t, 0, none⟩) n (Cs t)))
      have HP1 : Aside0 (pairAt (w18.setCell ⟨gx, 0, none⟩ (.slice (some ⟨gs t, 0, none⟩) n (Cs t))) pg n gs Cs) := ⟨blk_far HP.out NX.out.1 _⟩
      have BK1 := Aside0.mk (blk_put BKX.out 0 (.slice (some ⟨gs t, 0, none⟩) n (Cs t)) rfl)
      clear HB HT HP HK BKX x1 x2 hcz hfz
      go_loopw [23] (fun v23 wr => ∃ s : Nat, v23 = .int .i64 s ∧ s ≤ n ∧ Aside0 (Two wr n gs Cs hs (scaled v a y t s)) ∧ Aside0 (pairAt wr pg n gs Cs) ∧ Aside0 (wr.heap[gx]? = some (.cells #[.slice (some ⟨gs t, 0, none⟩) n (Cs t)] 24 (0, 0))) ∧ Aside0 (Below W0.heap.size W0 wr) ∧ Aside0 (Keep24 w wr)) (fun v _ => n - (intOf v).toNat)
      case atStart => exact ⟨0, rfl, uV, HT1, HP1, BK1, HB1, HK1⟩
      case round =>
        clear HB1 HT1 HP1 BK1 HK1
        obtain ⟨s, rfl, hsn, HT, HP, BKX, HB, HK⟩ := hrel
        by_cases hlt : s < n
        · have q3 : decide ((s : Int) < (n : Int)) = true := decide_eq_true uV
          have x3 : wr.cell? ⟨gr, s, none⟩ = some (.int .i64 (toI (scaled v a y t s t a s))) := by rw [HGR.out]; exact (HT.out.row t a ht ha).cell hlt
          have x2 : wr.cell? ⟨gs t, a, none⟩ = some (.slice (some ⟨gr, 0, none⟩) n cr) := by rw [HGR.out, HCR.out]; exact (HT.out.out t ht).cell ha
          have xb : wr.cell? ⟨gx, 0, none⟩ = some (.slice (some ⟨gs t, 0, none⟩) n (Cs t)) := (blk_cell BKX.out 0).trans rfl
          have xf : wr.frozen? ⟨gr, s, none⟩ = false := by rw [HGR.out]; exact (HT.out.row t a ht ha).frozen s
          have HS := Aside0.mk (scaled_step v a y t s)
          generalize scaled v a y t s t a s = c at *
          have HM := Aside0.mk (GfsGf.times_f (show 8 < 9 by omega) c y)
          go_wp2
          go_region_with (go_at_call 65; (with_reducible refine (GGf.gf_Times.calls 9 _ _ _ _ HM.out).mono ?_); rintro e w' ⟨rfl, ⟨nd, rfl⟩⟩)
          all_goals (go_wp2; go_roundw)
          all_goals (first
            | exact ⟨s + 1, uU, uV, ⟨by rw [← HS.out, HGR.out]; (with_reducible repeat (first | refine Two.drewN ?_ _ | refine Two.drew ?_)); refine Two.put ?_ ht ha s _; (with_reducible repeat (first | refine Two.drewN ?_ _ | refine Two.drew ?_)); exact HT.out⟩, ⟨by unfold pairAt; refine bB ?_; refine blk_far ?_ (by rw [HGR.out]; exact (pair_ne_row HP.out HT.out ht ha)) _; refine bB ?_; exact HP.out⟩, ⟨by refine bB ?_; refine blk_far ?_ (by rw [HGR.out]; exact (NX.out.2.2 t a ht ha).symm) _; refine bB ?_; exact BKX.out⟩, ⟨ud⟩, ⟨by rw [HGR.out]; (with_reducible repeat (first | refine Keep24.drewN ?_ _ | refine Keep24.drew ?_)); refine Keep24.row ?_ (HT.out.row t a ht ha).blk; (with_reducible repeat (first | refine Keep24.drewN ?_ _ | refine Keep24.drew ?_)); exact HK.out⟩⟩
            | (simp only [intOf]; omega))
        · have e : s = n := by omega
          subst e
          have q3 : decide ((s : Int) < (s : Int)) = false := decide_eq_false uV
          go_wp2
          go_roundw
          case rel => exact ⟨t + 1, uU, uV, ⟨HT.out.congr (fun t' i j h1 h2 h3 => scaled_next v a y t s t' i j h3)⟩, HP, HB, HK⟩
          case measure => simp only [intOf]; omega
    · have e : t = 2 := by omega
      subst e
      have q : decide (((2 : Nat) : Int) < 2) = false := by decide
      go_wp2
      go_end0
      exact ⟨rfl, HT.out, HP.out, HB.out, HK.out⟩
end Go.Proofs.Ytaahnicjjpddjaa.Pr
/- A row, times a number, added to another one in place, in both matrices of a pair: the call's walk, by hand. No condition. -/
namespace Go.Proofs.Ytaahnicjjpddjaa.Pr
open Go.RowKit Go.Proofs.YtaahnicjjpddjaaW.PrintWords Go.Proofs.YtaahnicjjpddjaaW.PrintLast Go.Proofs.YtaahnicjjpddjaaW.PrintMore Go.Proofs.Ytaahnicjjpddjaa.Fld
/-- row b of both, row a times y added, up to: whole matrices below t, places below s in matrix t. -/
def cleared (v : Nat → Nat → Nat → F) (a b : Nat) (y : F) (t s : Nat) : Nat → Nat → Nat → F := fun t' i j => if i = b ∧ (t' < t ∨ (t' = t ∧ j < s)) then v t' i j ^^^ fm (v t' a j) y else v t' i j
theorem cleared_at (v : Nat → Nat → Nat → F) (a b : Nat) (y : F) (t s : Nat) (h : a ≠ b) (j : Nat) : cleared v a b y t s t a j = v t a j := by
  unfold cleared; rw [if_neg (fun e => h e.1)]
theorem cleared_to (v : Nat → Nat → Nat → F) (a b : Nat) (y : F) (t s : Nat) : cleared v a b y t s t b s = v t b s := by
  unfold cleared; rw [if_neg uV]
theorem cleared_step (v : Nat → Nat → Nat → F) (a b : Nat) (y : F) (t s : Nat) : upd (cleared v a b y t s) t b s (v t b s ^^^ fm (v t a s) y) = cleared v a b y t (s + 1) := by
  funext t' i j
  unfold upd cleared
  by_cases e : t' = t ∧ i = b ∧ j = s
  · obtain ⟨rfl, rfl, rfl⟩ := e
    rw [if_pos ⟨rfl, rfl, rfl⟩, if_pos ⟨rfl, .inr ⟨rfl, uV⟩⟩]
  · rw [if_neg e]
    by_cases e2 : i = b ∧ (t' < t ∨ (t' = t ∧ j < s))
    · rw [if_pos e2, if_pos uV]
    · rw [if_neg e2, if_neg uV]
theorem cleared_next (v : Nat → Nat → Nat → F) (a b : Nat) (y : F) (t n t' i j : Nat) (hj : j < n) : cleared v a b y t n t' i j = cleared v a b y (t + 1) 0 t' i j := by
  unfold cleared
  by_cases e : i = b ∧ (t' < t ∨ (t' = t ∧ j < n))
  · rw [if_pos e, if_pos uV]
  · rw [if_neg e, if_neg uV]
set_option maxHeartbeats 2000000 in
set_option maxRecDepth 100000 in
theorem clear_calls (W0 : World) (pg n : Nat) (gs Cs : Nat → Nat) (hs : Nat → Nat → Nat × Nat) (v : Nat → Nat → Nat → F) (a b : Nat) (y : F) (w : World)
    (hn : n ≤ 12) (ha : a < n) (hb' : b < n) (hab : a ≠ b) (hP : pairAt w pg n gs Cs) (hT : Two w n gs Cs hs v) (hB : Below W0.heap.size W0 w) (hnew : ∀ t i, t < 2 → i < n → W0.heap.size ≤ (hs t i).1) :
    Calls Try.prog 81 #[.pointer (some ⟨pg, 0, none⟩), .int .i64 a, .int .i64 b, .int .i64 (toI y)] w fun e w' => e = .returned (.tuple #[]) ∧ Two w' n gs Cs hs (cleared v a b y 2 0) ∧ pairAt w' pg n gs Cs ∧ Below W0.heap.size W0 w' ∧ Keep24 w w' := by
  have hu24 := Try.underlying24
  have HP := Aside0.mk hP
  have HT := Aside0.mk hT
  have HB := Aside0.mk hB
  have HK := Aside0.mk (Keep24.refl w)
  have HN := Aside0.mk hnew
  clear hP hT hB hnew
  have hs0 : cleared v a b y 0 0 = v := by funext t' i j; unfold cleared; rw [if_neg uV]
  go_enter Try.func81, Try.ntmps81
  go_wp2
  go_loopw [14] (fun v12 wr => ∃ t : Nat, v12 = .int .i64 t ∧ t ≤ 2 ∧ Aside0 (Two wr n gs Cs hs (cleared v a b y t 0)) ∧ Aside0 (pairAt wr pg n gs Cs) ∧ Aside0 (Below W0.heap.size W0 wr) ∧ Aside0 (Keep24 w wr)) (fun v _ => 2 - (intOf v).toNat)
  case atStart => exact ⟨0, rfl, uV, ⟨by rw [hs0]; exact HT.out⟩, HP, HB, HK⟩
  case round =>
    clear HT HP HB HK
    obtain ⟨t, rfl, ht2, HT, HP, HB, HK⟩ := hrel
    by_cases ht : t < 2
    · have q1 : decide ((t : Int) < 2) = true := decide_eq_true uV
      have q2 : decide ((a : Int) < (n : Int)) = true := decide_eq_true uV
      have x1 := pair_cell HP.out ht
      have x2 : wr.cell? ⟨gs t, a, none⟩ = some (.slice (some ⟨(hs t a).1, 0, none⟩) n (hs t a).2) := (HT.out.out t ht).cell ha
      have GER := Aside0.mk (HN.out t b ht hb')
      obtain ⟨gr, hgr⟩ : ∃ x, x = (hs t a).1 := ⟨_, rfl⟩
      obtain ⟨cr, hcr⟩ : ∃ x, x = (hs t a).2 := ⟨_, rfl⟩
      obtain ⟨gb, hgb⟩ : ∃ x, x = (hs t b).1 := ⟨_, rfl⟩
      obtain ⟨cb, hcb⟩ : ∃ x, x = (hs t b).2 := ⟨_, rfl⟩
      rw [← hgr, ← hcr] at x2
      rw [← hgb] at GER
      have HGB := Aside0.mk hgb
      have HCB := Aside0.mk hcb
      have HGR := Aside0.mk hgr
      have HCR := Aside0.mk hcr
      clear hgr hcr hgb hcb
      go_wp2_with (first
        | ((with_reducible refine gate_dst (N := 9) rfl ?_); refine box_event uW (N := 9) uW (cs := #[.slice none 0 0]) (t := 24) uL ?_; intro gx hg w18 hbox hb;
           have n0_ := Aside0.mk (below_step ul hb); have n1_ := Aside0.mk (hbox); have n2_ := Aside0.mk ((by rw [hg]; exact (below_size ul) : W0.heap.size ≤ gx));
           have n6_ := Aside0.mk (HK.out.below hb); have n7_ := Aside0.mk (show w.heap.size ≤ gx by rw [hg]; exact HK.out.size); have n3_ := Aside0.mk (HT.out.below hb); have n4_ := Aside0.mk (blk_below HP.out hb); have n5_ := Aside0.mk (fresh_block hg HT.out HP.out);
           clear HB HT HP HK x1 x2; have HB := n0_; have BKX := n1_; have GEX := n2_; have HT := n3_; have HP : Aside0 (pairAt w18 pg n gs Cs) := n4_; have NX := n5_; have HK := n6_; have KX := n7_; clear n0_ n1_ n2_ n3_ n4_ n5_ n6_ n7_; clear hb hbox hg; have hcz := (blk_cell BKX.out 0); have hfz := blk_frozen BKX.out 0; have hne1 := NX.out.2.1 t ht; have hne2 := (NX.out.2.1 t ht).symm;
           have x1 := pair_cell HP.out ht;
           have x2 : w18.cell? ⟨gs t, a, none⟩ = some (.slice (some ⟨gr, 0, none⟩) n cr) := by rw [HGR.out, HCR.out]; exact (HT.out.out t ht).cell ha))
      have HB1 := Aside0.mk (show Below W0.heap.size W0 (w18.setCell ⟨gx, 0, none⟩ (.slice (some ⟨gs t, 0, none⟩) n (Cs t))) from ud)
      have HK1 := Aside0.mk (HK.out.new (p := ⟨gx, 0, none⟩) KX.out (.slice (some ⟨gs t, 0, none⟩) n (Cs t)))
      have HT1 := Aside0.mk (HT.out.far (p := ⟨gx, 0, none⟩) (fun t' h' => NX.out.2.1 t' h') (fun t' i' h' k' => NX.out.2.2 t' i' h' k') (.slice (some ⟨gs t, 0, none⟩) n (Cs t)))
      have HP1 : Aside0 (pairAt (w18.setCell ⟨gx, 0, none⟩ (.slice (some ⟨gs t, 0, none⟩) n (Cs t))) pg n gs Cs) := ⟨blk_far HP.out NX.out.1 _⟩
      have BK1 := Aside0.mk (blk_put BKX.out 0 (.slice (some ⟨gs t, 0, none⟩) n (Cs t)) rfl)
      clear HB HT HP HK BKX x1 x2 hcz hfz
      go_loopw [25] (fun v23 wr => ∃ s : Nat, v23 = .int .i64 s ∧ s ≤ n ∧ Aside0 (Two wr n gs Cs hs (cleared v a b y t s)) ∧ Aside0 (pairAt wr pg n gs Cs) ∧ Aside0 (wr.heap[gx]? = some (.cells #[.slice (some ⟨gs t, 0, none⟩) n (Cs t)] 24 (0, 0))) ∧ Aside0 (Below W0.heap.size W0 wr) ∧ Aside0 (Keep24 w wr)) (fun v _ => n - (intOf v).toNat)
      case atStart => exact ⟨0, rfl, uV, HT1, HP1, BK1, HB1, HK1⟩
      case round =>
        clear HB1 HT1 HP1 BK1 HK1
        obtain ⟨s, rfl, hsn, HT, HP, BKX, HB, HK⟩ := hrel
        by_cases hlt : s < n
        · have q3 : decide ((s : Int) < (n : Int)) = true := decide_eq_true uV
          have x3 : wr.cell? ⟨gr, s, none⟩ = some (.int .i64 (toI (v t a s))) := by rw [HGR.out, ← cleared_at v a b y t s hab]; exact (HT.out.row t a ht ha).cell hlt
          have x4 : wr.cell? ⟨gb, s, none⟩ = some (.int .i64 (toI (v t b s))) := by rw [HGB.out, ← cleared_to v a b y t s]; exact (HT.out.row t b ht hb').cell hlt
          have x2 : wr.cell? ⟨gs t, b, none⟩ = some (.slice (some ⟨gb, 0, none⟩) n cb) := by rw [HGB.out, HCB.out]; exact (HT.out.out t ht).cell hb'
          have xb : wr.cell? ⟨gx, 0, none⟩ = some (.slice (some ⟨gs t, 0, none⟩) n (Cs t)) := (blk_cell BKX.out 0).trans rfl
          have xf : wr.frozen? ⟨gb, s, none⟩ = false := by rw [HGB.out]; exact (HT.out.row t b ht hb').frozen s
          have q4 : decide ((b : Int) < (n : Int)) = true := decide_eq_true uV
          have HS := Aside0.mk (cleared_step v a b y t s)
          generalize v t a s = c at *
          generalize v t b s = d at *
          have HX := xor_i64 d (fm c y)
          have HM := Aside0.mk (GfsGf.times_f (show 8 < 9 by omega) c y)
          go_wp2
          go_region_with (go_at_call 65; (with_reducible refine (GGf.gf_Times.calls 9 _ _ _ _ HM.out).mono ?_); rintro e w' ⟨rfl, ⟨nd, rfl⟩⟩)
          all_goals (go_wp2; go_roundw)
          all_goals (first
            | exact ⟨s + 1, uU, uV, ⟨by rw [← HS.out, HGB.out]; (with_reducible repeat (first | refine Two.drewN ?_ _ | refine Two.drew ?_)); refine Two.put ?_ ht hb' s _; (with_reducible repeat (first | refine Two.drewN ?_ _ | refine Two.drew ?_)); exact HT.out⟩, ⟨by unfold pairAt; refine bB ?_; refine blk_far ?_ (by rw [HGB.out]; exact (pair_ne_row HP.out HT.out ht hb')) _; refine bB ?_; exact HP.out⟩, ⟨by refine bB ?_; refine blk_far ?_ (by rw [HGB.out]; exact (NX.out.2.2 t b ht hb').symm) _; refine bB ?_; exact BKX.out⟩, ⟨ud⟩, ⟨by rw [HGB.out]; (with_reducible repeat (first | refine Keep24.drewN ?_ _ | refine Keep24.drew ?_)); refine Keep24.row ?_ (HT.out.row t b ht hb').blk; (with_reducible repeat (first | refine Keep24.drewN ?_ _ | refine Keep24.drew ?_)); exact HK.out⟩⟩
            | (simp only [intOf]; omega))
        · have e : s = n := by omega
          subst e
          have q3 : decide ((s : Int) < (s : Int)) = false := decide_eq_false uV
          go_wp2
          go_roundw
          case rel => exact ⟨t + 1, uU, uV, ⟨HT.out.congr (fun t' i j h1 h2 h3 => cleared_next v a b y t s t' i j h3)⟩, HP, HB, HK⟩
          case measure => simp only [intOf]; omega
    · have e : t = 2 := by omega
      subst e
      have q : decide (((2 : Nat) : Int) < 2) = false := by decide
      go_wp2
      go_end0
      exact ⟨rfl, HT.out, HP.out, HB.out, HK.out⟩
end Go.Proofs.Ytaahnicjjpddjaa.Pr
/- A row brought to a place whose number is not 0, in both matrices of a pair: the call's walk, by hand. No condition. -/
namespace Go.Proofs.Ytaahnicjjpddjaa.Pr
open Go.RowKit Go.Proofs.YtaahnicjjpddjaaW.PrintWords Go.Proofs.YtaahnicjjpddjaaW.PrintLast Go.Proofs.YtaahnicjjpddjaaW.PrintMore Go.Proofs.Ytaahnicjjpddjaa.Fld
theorem OutAt.congr {w : World} {g C n : Nat} {hs hs' : Nat → Nat × Nat} (H : OutAt w g C n hs) (e : ∀ i, i < n → hs i = hs' i) : OutAt w g C n hs' := by
  obtain ⟨cur, h1, h2, h3, h4, h5⟩ := H
  exact ⟨cur, h1, h2, h3, h4, fun i hi => by rw [← e i hi]; exact h5 i hi⟩
/-- places a and i of matrix t, the other way round. -/
def swap1 {α : Type} (f : Nat → Nat → α) (t a i : Nat) : Nat → Nat → α := fun t' k => if t' = t then (if k = i then f t a else if k = a then f t i else f t' k) else f t' k
/-- .. of all matrices below t. -/
def swaps {α : Type} (f : Nat → Nat → α) (a i t : Nat) : Nat → Nat → α := fun t' k => if t' < t then (if k = i then f t' a else if k = a then f t' i else f t' k) else f t' k
theorem swaps_zero {α : Type} (f : Nat → Nat → α) (a i : Nat) : swaps f a i 0 = f := by funext t' k; unfold swaps; rw [if_neg uV]
theorem swaps_at {α : Type} (f : Nat → Nat → α) (a i t k : Nat) : swaps f a i t t k = f t k := by unfold swaps; rw [if_neg uV]
theorem swaps_step {α : Type} (f : Nat → Nat → α) (a i t : Nat) : swap1 (swaps f a i t) t a i = swaps f a i (t + 1) := by
  funext t' k
  unfold swap1
  by_cases e : t' = t
  · subst e
    rw [if_pos rfl, swaps_at, swaps_at, swaps_at]
    unfold swaps
    rw [if_pos (show t' < t' + 1 by omega)]
  · rw [if_neg e]
    unfold swaps
    by_cases h : t' < t
    · rw [if_pos h, if_pos (show t' < t + 1 by omega)]
    · rw [if_neg h, if_neg (show ¬ t' < t + 1 by omega)]
variable {w w' : World} {n : Nat} {gs Cs : Nat → Nat} {hs : Nat → Nat → Nat × Nat} {v : Nat → Nat → Nat → F}
/-- where a place's row comes from. -/
def from1 (t a i t' k : Nat) : Nat := if t' = t then (if k = i then a else if k = a then i else k) else k
theorem swap1_from {α : Type} (f : Nat → Nat → α) (t a i t' k : Nat) : swap1 f t a i t' k = f t' (from1 t a i t' k) := by
  unfold swap1 from1
  by_cases h : t' = t
  · subst h
    rw [if_pos rfl, if_pos rfl]
    by_cases h1 : k = i
    · rw [if_pos h1, if_pos h1]
    · rw [if_neg h1, if_neg h1]
      by_cases h2 : k = a
      · rw [if_pos h2, if_pos h2]
      · rw [if_neg h2, if_neg h2]
  · rw [if_neg h, if_neg h]
theorem from1_lt {t a i t' k n : Nat} (ha : a < n) (hi : i < n) (hk : k < n) : from1 t a i t' k < n := by
  unfold from1
  split
  · split
    · exact ha
    · split
      · exact hi
      · exact hk
  · exact hk
theorem from1_inj {t a i t' k k' : Nat} (h : from1 t a i t' k = from1 t a i t' k') : k = k' := by
  unfold from1 at h
  split at h
  · split at h <;> split at h <;> (try split at h) <;> (try split at h) <;> omega
  · exact h
theorem Two.swap (H : Two w n gs Cs hs v) {t a i : Nat} (ht : t < 2) (ha : a < n) (hi : i < n) :
    Two ((w.setCell ⟨gs t, a, none⟩ (hdr n (hs t i))).setCell ⟨gs t, i, none⟩ (hdr n (hs t a))) n gs Cs (swap1 hs t a i) (swap1 v t a i) := by
  refine ⟨fun t' ht' => ?_, fun t' k ht' hk => ?_, fun t1 k1 t2 k2 h1 h2 h3 h4 e => ?_, H.gapart⟩
  · by_cases e : t' = t
    · subst e
      refine (((H.out t' ht').put a (hs t' i)).put i (hs t' a)).congr (fun k _ => ?_)
      unfold swap1
      rw [if_pos rfl]
    · have hne : gs t' ≠ gs t := by
        rcases (show (t' = 0 ∧ t = 1) ∨ (t' = 1 ∧ t = 0) by omega) with ⟨rfl, rfl⟩ | ⟨rfl, rfl⟩
        · exact H.gapart
        · exact H.gapart.symm
      refine (((H.out t' ht').far (p := ⟨gs t, a, none⟩) hne _).far (p := ⟨gs t, i, none⟩) hne _).congr (fun k _ => ?_)
      unfold swap1
      rw [if_neg e]
  · rw [swap1_from, swap1_from]
    have h0 := H.row t' (from1 t a i t' k) ht' (from1_lt ha hi hk)
    have hne := (out_ne_row (H.out t ht) h0).symm
    exact (h0.far (p := ⟨gs t, a, none⟩) hne _).far (p := ⟨gs t, i, none⟩) hne _
  · rw [swap1_from, swap1_from] at e
    obtain ⟨e1, e2⟩ := H.apart _ _ _ _ h1 (from1_lt ha hi h2) h3 (from1_lt ha hi h4) e
    subst e1
    exact ⟨rfl, from1_inj e2⟩
set_option maxHeartbeats 2000000 in
set_option maxRecDepth 100000 in
theorem pivot_calls (W0 : World) (pg n : Nat) (gs Cs : Nat → Nat) (hs : Nat → Nat → Nat × Nat) (v : Nat → Nat → Nat → F) (a : Nat) (w : World)
    (hn : n ≤ 12) (ha : a < n) (hP : pairAt w pg n gs Cs) (hT : Two w n gs Cs hs v) (hB : Below W0.heap.size W0 w) (hnew : ∀ t, t < 2 → W0.heap.size ≤ gs t) :
    Calls Try.prog 78 #[.pointer (some ⟨pg, 0, none⟩), .int .i64 a] w fun e w' => pairAt w' pg n gs Cs ∧ Below W0.heap.size W0 w' ∧ Keep24 w w' ∧
      ((∃ i, a ≤ i ∧ i < n ∧ (∀ k, a ≤ k → k < i → v 0 k a = 0#8) ∧ v 0 i a ≠ 0#8 ∧ e = .returned (.bool true) ∧ Two w' n gs Cs (swaps hs a i 2) (swaps v a i 2)) ∨
       ((∀ k, a ≤ k → k < n → v 0 k a = 0#8) ∧ e = .returned (.bool false) ∧ Two w' n gs Cs hs v)) := by
  have hu24 := Try.underlying24
  have HP := Aside0.mk hP
  have HT := Aside0.mk hT
  have HB := Aside0.mk hB
  have HK := Aside0.mk (Keep24.refl w)
  have HN := Aside0.mk hnew
  have x0 : w.cell? ⟨pg, 0, none⟩ = some (.slice (some ⟨gs 0, 0, none⟩) n (Cs 0)) := pair_cell hP uV
  clear hP hT hB hnew
  go_enter Try.func78, Try.ntmps78
  go_wp2
  clear x0
  go_loopw [6] (fun v6 wr => ∃ i : Nat, v6 = .int .i64 i ∧ a ≤ i ∧ i ≤ n ∧ Aside0 (∀ k, a ≤ k → k < i → v 0 k a = 0#8) ∧ Aside0 (Two wr n gs Cs hs v) ∧ Aside0 (pairAt wr pg n gs Cs) ∧ Aside0 (Below W0.heap.size W0 wr) ∧ Aside0 (Keep24 w wr)) (fun v _ => n - (intOf v).toNat)
  case atStart => exact ⟨a, rfl, uV, uV, ⟨fun k h1 h2 => by omega⟩, HT, HP, HB, HK⟩
  case round =>
    clear HT HP HB HK
    obtain ⟨i, rfl, hai, hin, HZ, HT, HP, HB, HK⟩ := hrel
    by_cases hlt : i < n
    · have q1 : decide ((i : Int) < (n : Int)) = true := decide_eq_true uV
      have q2 : decide ((a : Int) < (n : Int)) = true := decide_eq_true uV
      have x1 : wr.cell? ⟨gs 0, i, none⟩ = some (.slice (some ⟨(hs 0 i).1, 0, none⟩) n (hs 0 i).2) := (HT.out.out 0 uV).cell hlt
      have x2 : wr.cell? ⟨(hs 0 i).1, a, none⟩ = some (.int .i64 (toI (v 0 i a))) := (HT.out.row 0 i uV hlt).cell ha
      by_cases hz : v 0 i a = 0#8
      · rw [hz] at x2
        have e0 : toI 0#8 = 0 := rfl
        rw [e0] at x2
        go_wp2
        go_roundw
        case rel => exact ⟨i + 1, uU, uV, uV, ⟨fun k h1 h2 => if e : k = i then e ▸ hz else HZ.out k h1 uV⟩, HT, HP, HB, HK⟩
        case measure => simp only [intOf]; omega
      · have e0 : (toI (v 0 i a) != 0) = true := bne_iff_ne.mpr (fun h => hz ((toI_eq_zero _).1 h))
        go_wp2
        have HT0 : Aside0 (Two wr n gs Cs (swaps hs a i 0) (swaps v a i 0)) := ⟨by rw [swaps_zero, swaps_zero]; exact HT.out⟩
        clear x1 x2 e0
        have HI := Aside0.mk hlt
        have HA := Aside0.mk (And.intro hai hz)
        clear hai hz
        go_loopw [31] (fun v31 wr => ∃ t : Nat, v31 = .int .i64 t ∧ t ≤ 2 ∧ Aside0 (Two wr n gs Cs (swaps hs a i t) (swaps v a i t)) ∧ Aside0 (pairAt wr pg n gs Cs) ∧ Aside0 (Below W0.heap.size W0 wr) ∧ Aside0 (Keep24 w wr)) (fun v _ => 2 - (intOf v).toNat)
        case atStart => exact ⟨0, rfl, uV, HT0, HP, HB, HK⟩
        case round =>
          clear HT0 HT HP HB HK
          obtain ⟨t, rfl, ht2, HT, HP, HB, HK⟩ := hrel
          by_cases ht : t < 2
          · have q3 : decide ((t : Int) < 2) = true := decide_eq_true uV
            have x1 := pair_cell HP.out ht
            have GEO := Aside0.mk (HN.out t ht)
            go_wp2_with (first
              | ((with_reducible refine gate_dst (N := 8) rfl ?_); refine box_event uW (N := 8) uW (cs := #[.slice none 0 0]) (t := 24) uL ?_; intro gx hg w18 hbox hb;
                 have n0_ := Aside0.mk (below_step ul hb); have n1_ := Aside0.mk (hbox); have n2_ := Aside0.mk ((by rw [hg]; exact (below_size ul) : W0.heap.size ≤ gx));
                 have n6_ := Aside0.mk (HK.out.below hb); have n7_ := Aside0.mk (show w.heap.size ≤ gx by rw [hg]; exact HK.out.size); have n3_ := Aside0.mk (HT.out.below hb); have n4_ := Aside0.mk (blk_below HP.out hb); have n5_ := Aside0.mk (fresh_block hg HT.out HP.out);
                 clear HB HT HP HK x1; have HB := n0_; have BKX := n1_; have GEX := n2_; have HT := n3_; have HP : Aside0 (pairAt w18 pg n gs Cs) := n4_; have NX := n5_; have HK := n6_; have KX := n7_; clear n0_ n1_ n2_ n3_ n4_ n5_ n6_ n7_; clear hb hbox hg; have hcz := (blk_cell BKX.out 0); have hfz := blk_frozen BKX.out 0;
                 have hne1 := NX.out.2.1 t ht; have hne2 := (NX.out.2.1 t ht).symm;
                 have x1 := pair_cell HP.out ht))
            have HB1 := Aside0.mk (show Below W0.heap.size W0 (w18.setCell ⟨gx, 0, none⟩ (.slice (some ⟨gs t, 0, none⟩) n (Cs t))) from by repeat (first | (with_reducible first | exact HB.out | apply below_alloc | apply pw_below_drewN | apply below_drew1 | refine below_set ?_ GEX.out | refine below_set ?_ GEO.out) | exact HB.out))
            have HK1 := Aside0.mk (HK.out.new (p := ⟨gx, 0, none⟩) KX.out (.slice (some ⟨gs t, 0, none⟩) n (Cs t)))
            have HT1 := Aside0.mk (HT.out.far (p := ⟨gx, 0, none⟩) (fun t' h' => NX.out.2.1 t' h') (fun t' i' h' k' => NX.out.2.2 t' i' h' k') (.slice (some ⟨gs t, 0, none⟩) n (Cs t)))
            have HP1 : Aside0 (pairAt (w18.setCell ⟨gx, 0, none⟩ (.slice (some ⟨gs t, 0, none⟩) n (Cs t))) pg n gs Cs) := ⟨blk_far HP.out NX.out.1 _⟩
            have BK1 := Aside0.mk (blk_put BKX.out 0 (.slice (some ⟨gs t, 0, none⟩) n (Cs t)) rfl)
            clear HB HT HP HK BKX x1 hcz hfz
            generalize (w18.setCell ⟨gx, 0, none⟩ (.slice (some ⟨gs t, 0, none⟩) n (Cs t))) = wx at HB1 HT1 HP1 BK1 HK1 ⊢
            have y1 : wx.cell? ⟨gs t, a, none⟩ = some (.slice (some ⟨(hs t a).1, 0, none⟩) n (hs t a).2) := by have h := (HT1.out.out t ht).cell ha; rw [swaps_at] at h; exact h
            have y2 : wx.cell? ⟨gs t, i, none⟩ = some (.slice (some ⟨(hs t i).1, 0, none⟩) n (hs t i).2) := by have h := (HT1.out.out t ht).cell HI.out; rw [swaps_at] at h; exact h
            have y3 : wx.frozen? ⟨gs t, a, none⟩ = false := (HT1.out.out t ht).frozen a
            have y4 : wx.frozen? ⟨gs t, i, none⟩ = false := (HT1.out.out t ht).frozen i
            have yb : wx.cell? ⟨gx, 0, none⟩ = some (.slice (some ⟨gs t, 0, none⟩) n (Cs t)) := (blk_cell BK1.out 0).trans rfl
            have HO1 := ((HT1.out.out t ht).put a (hs t i))
            have z1 : (wx.setCell ⟨gs t, a, none⟩ (.slice (some ⟨(hs t i).1, 0, none⟩) n (hs t i).2)).cell? ⟨gs t, i, none⟩ = some (.slice (some ⟨(hs t i).1, 0, none⟩) n (hs t i).2) := by
              refine (HO1.cell HI.out).trans ?_
              simp only [swaps_at, ite_self]
              rfl
            have z2 : (wx.setCell ⟨gs t, a, none⟩ (.slice (some ⟨(hs t i).1, 0, none⟩) n (hs t i).2)).frozen? ⟨gs t, i, none⟩ = false := HO1.frozen i
            clear HO1
            go_wp2
            go_region
            all_goals (go_wp2; go_roundw)
            all_goals (first
              | exact ⟨t + 1, uU, uV, ⟨by rw [← swaps_step, ← swaps_step]; (with_reducible repeat (first | refine Two.drewN ?_ _ | refine Two.drew ?_)); have h := HT1.out.swap ht ha HI.out; rw [swaps_at, swaps_at] at h; exact h⟩, ⟨by unfold pairAt; refine bB ?_; refine blk_far ?_ (pair_ne_out HP1.out HT1.out ht) _; refine bB ?_; refine blk_far ?_ (pair_ne_out HP1.out HT1.out ht) _; refine bB ?_; exact HP1.out⟩, ⟨by repeat (first | (with_reducible first | exact HB1.out | apply below_alloc | apply pw_below_drewN | apply below_drew1 | refine below_set ?_ GEX.out | refine below_set ?_ GEO.out) | exact HB1.out)⟩, ⟨by (with_reducible repeat (first | refine Keep24.drewN ?_ _ | refine Keep24.drew ?_)); refine Keep24.out2 ?_ (HT1.out.out t ht).blk; (with_reducible repeat (first | refine Keep24.drewN ?_ _ | refine Keep24.drew ?_)); exact HK1.out⟩⟩
              | (simp only [intOf]; omega))
          · have e : t = 2 := by omega
            subst e
            have q : decide (((2 : Nat) : Int) < 2) = false := by decide
            go_wp2
            go_ret
            exact ⟨HP.out, HB.out, HK.out, .inl ⟨i, HA.out.1, HI.out, HZ.out, HA.out.2, rfl, HT.out⟩⟩
    · have e : i = n := by omega
      subst e
      have q1 : decide ((i : Int) < (i : Int)) = false := decide_eq_false uV
      go_wp2
      go_ret
      exact ⟨HP.out, HB.out, HK.out, .inr ⟨HZ.out, rfl, HT.out⟩⟩
end Go.Proofs.Ytaahnicjjpddjaa.Pr
/- A matrix of one's own as the contracts tell it, and as it stands in memory: from the one to the other. Plain; no condition. -/
namespace Go.Proofs.Ytaahnicjjpddjaa.Pr
open Go.RowKit Go.Proofs.YtaahnicjjpddjaaW.PrintWords Go.Proofs.YtaahnicjjpddjaaW.PrintLast Go.Proofs.YtaahnicjjpddjaaW.PrintMore Go.Proofs.Ytaahnicjjpddjaa.Fld Go.Proofs.Ytaahnicjjpddjaa.Mat
theorem own_slice {w : World} {base n : Nat} {e : TypeId} {v : Value} {xs : List Value} (h : w.ownsRow base e 1 v n xs) (hn : 1 ≤ n) : ∃ g cap cur, v = .slice (some ⟨g, 0, none⟩) n cap ∧ base ≤ g ∧ w.heap[g]? = some (.cells cur e (0, 0)) ∧ n ≤ cap ∧ cap ≤ maxLen ∧ cur.size = cap ∧ cur.toList.take n = xs := by
  obtain ⟨_, h⟩ := h
  rcases h with ⟨_, h2⟩ | ⟨g, cap, cur, h1, h2, h3, h4, h5, h6, h7⟩
  · omega
  · exact ⟨g, cap, cur, h1, h2, h3, h4, h5, by rw [h6, Nat.mul_one], by rw [← h7, Nat.mul_one]⟩
theorem take_get {cur : Array Value} {n i : Nat} {xs : List Value} (h : cur.toList.take n = xs) (hi : i < n) : cur[i]? = xs[i]? := by
  rw [← h, List.getElem?_take_of_lt hi, Array.getElem?_toList]
/-- a row of one's own as it stands. -/
theorem row_of_R {w : World} {base : Nat} {ok : Nat → Prop} {v : Value} {g : Nat → F} {n : Nat} (hn : 1 ≤ n) (h : Kd.R (Kd.int .i64) 3 w base ok v (rowOf (fun j => toI (g j)) n)) :
    ∃ hd : Nat × Nat, v = hdr n hd ∧ RowAt w hd n g ∧ base ≤ hd.1 ∧ ok hd.1 := by
  obtain ⟨h0, inner, ho, hr⟩ := h
  rw [rowOf_length] at ho
  obtain ⟨b, cap, cur, h1, h2, h3, h4, h5, h6, h7⟩ := own_slice ho hn
  refine ⟨(b, cap), h1, ⟨cur, h3, h6, h4, h5, fun j hj => ?_⟩, h2, h0 b (by rw [h1]; rfl)⟩
  rw [take_get h7 hj]
  have h8 := hr.2 j _ (List.getElem?_eq_getElem (by rw [rowOf_length]; exact hj))
  rw [rowOf_get] at h8
  have h9 : (inner.drop (j * 1)).take 1 = [.int .i64 (toI (g j))] := h8
  rw [Nat.mul_one] at h9
  have h10 : ((inner.drop j).take 1)[0]? = some (.int .i64 (toI (g j))) := by rw [h9]; rfl
  rw [List.getElem?_take_of_lt uV, List.getElem?_drop, Nat.add_zero] at h10
  exact h10
theorem choice_lt {α : Type} [Inhabited α] {n : Nat} {P : Nat → α → Prop} (h : ∀ i, i < n → ∃ x, P i x) : ∃ f : Nat → α, ∀ i, i < n → P i (f i) := by
  have h2 : ∀ i, ∃ x, i < n → P i x := fun i => by
    by_cases hi : i < n
    · obtain ⟨x, hx⟩ := h i hi
      exact ⟨x, fun _ => hx⟩
    · exact ⟨default, fun h => absurd h hi⟩
  exact ⟨fun i => Classical.choose (h2 i), fun i hi => Classical.choose_spec (h2 i) hi⟩
/-- a matrix of one's own as it stands: rows in blocks of their own. -/
theorem mat_of_S {w : World} {base : Nat} {ok : Nat → Prop} {v : Value} {a : Nat → Nat → F} {n : Nat} (hn : 1 ≤ n) (h : Kd.S (Kd.slice 3 (Kd.int .i64)) 25 w base ok v (fmat a n n)) :
    ∃ (g C : Nat) (hs : Nat → Nat × Nat), v = .slice (some ⟨g, 0, none⟩) n C ∧ base ≤ g ∧ OutAt w g C n hs ∧ (∀ i, i < n → RowAt w (hs i) n (a i) ∧ base ≤ (hs i).1) ∧ (∀ i j, i < n → j < n → (hs i).1 = (hs j).1 → i = j) := by
  obtain ⟨f, h0, inner, ho, hr⟩ := h
  rw [List.length_zipIdx, fmat_length] at ho
  obtain ⟨g, C, cur, h1, h2, h3, h4, h5, h6, h7⟩ := own_slice ho hn
  have hrow : ∀ i, i < n → ∃ hd : Nat × Nat, inner[i]? = some (hdr n hd) ∧ RowAt w hd n (a i) ∧ base ≤ hd.1 ∧ f hd.1 = i := by
    intro i hi
    have h8 := hr.2 i (rowOf (fun j => toI (a i j)) n, i) (Kd.zip_at (by rw [List.getElem?_eq_getElem (by rw [fmat_length]; exact hi), fmat_get]))
    obtain ⟨v', h9, h10⟩ := h8
    obtain ⟨hd, e1, e2, e3, e4⟩ := row_of_R hn h10
    refine ⟨hd, ?_, e2, e3, e4.2⟩
    have h9' : (inner.drop (i * 1)).take 1 = [v'] := h9
    rw [Nat.mul_one] at h9'
    have h11 : ((inner.drop i).take 1)[0]? = some v' := by rw [h9']; rfl
    rw [List.getElem?_take_of_lt uV, List.getElem?_drop, Nat.add_zero] at h11
    rw [h11, e1]
  obtain ⟨hs, hhs⟩ := choice_lt hrow
  refine ⟨g, C, hs, h1, h2, ⟨cur, h3, h6, h4, h5, fun i hi => by rw [take_get h7 hi]; exact (hhs i hi).1⟩, fun i hi => ⟨(hhs i hi).2.1, (hhs i hi).2.2.1⟩, fun i j hi hj e => ?_⟩
  have e1 := (hhs i hi).2.2.2
  have e2 := (hhs j hj).2.2.2
  rw [e] at e1
  omega
theorem own_mk {w : World} {base g C n : Nat} {e : TypeId} {cur : Array Value} (h1 : base ≤ g) (h2 : w.heap[g]? = some (.cells cur e (0, 0))) (h3 : cur.size = C) (h4 : n ≤ C) (h5 : C ≤ maxLen) : w.ownsRow base e 1 (.slice (some ⟨g, 0, none⟩) n C) n (cur.toList.take n) := by
  refine ⟨by rw [List.length_take, Array.length_toList]; omega, .inr ⟨g, C, cur, rfl, h1, h2, h4, h5, by rw [h3, Nat.mul_one], by rw [Nat.mul_one]⟩⟩
theorem take_one {cur : Array Value} {n j : Nat} {x : Value} (hj : j < n) (h : cur[j]? = some x) : ((cur.toList.take n).drop (j * 1)).take 1 = [x] := by
  rw [Nat.mul_one]
  have h1 : (cur.toList.take n)[j]? = some x := by rw [List.getElem?_take_of_lt hj, Array.getElem?_toList]; exact h
  obtain ⟨h2, h3⟩ := List.getElem?_eq_some_iff.1 h1
  rw [List.drop_eq_getElem_cons h2, List.take_succ_cons, List.take_zero, h3]
theorem R_of_row {w : World} {base : Nat} {ok : Nat → Prop} {hd : Nat × Nat} {g : Nat → F} {n : Nat} (h : RowAt w hd n g) (hb : base ≤ hd.1) (hok : ok hd.1) : Kd.R (Kd.int .i64) 3 w base ok (hdr n hd) (rowOf (fun j => toI (g j)) n) := by
  obtain ⟨cur, h1, h2, h3, h4, h5⟩ := h
  refine ⟨fun k hk => by injection hk with e; rw [← e]; exact hok, cur.toList.take n, by rw [rowOf_length]; exact own_mk hb h1 h2 h3 h4, by rw [List.length_take, Array.length_toList, rowOf_length]; show _ = n * 1; omega, fun j p hj => ?_⟩
  obtain ⟨hj1, hj2⟩ := List.getElem?_eq_some_iff.1 hj
  rw [rowOf_get] at hj2
  rw [rowOf_length] at hj1
  have h6 := take_one hj1 (h5 j hj1)
  rw [hj2] at h6
  exact h6
theorem S_of_mat {w : World} {base g C n : Nat} {hs : Nat → Nat × Nat} {a : Nat → Nat → F} (hg : base ≤ g) (ho : OutAt w g C n hs) (hr : ∀ i, i < n → RowAt w (hs i) n (a i) ∧ base ≤ (hs i).1) (ha : ∀ i j, i < n → j < n → (hs i).1 = (hs j).1 → i = j) :
    Kd.S (Kd.slice 3 (Kd.int .i64)) 25 w base (fun _ => True) (.slice (some ⟨g, 0, none⟩) n C) (fmat a n n) := by
  have hf : ∃ f : Nat → Nat, ∀ i, i < n → f (hs i).1 = i := by
    refine ⟨fun k => if h : ∃ i, i < n ∧ (hs i).1 = k then Classical.choose h else 0, fun i hi => ?_⟩
    have h : ∃ i', i' < n ∧ (hs i').1 = (hs i).1 := ⟨i, hi, rfl⟩
    have e := Classical.choose_spec h
    simp only [dif_pos h]
    exact ha _ _ e.1 hi e.2
  obtain ⟨f, hf⟩ := hf
  have ho' := ho
  obtain ⟨cur, h1, h2, h3, h4, h5⟩ := ho
  refine ⟨f, fun _ _ => trivial, cur.toList.take n, by rw [List.length_zipIdx, fmat_length]; exact own_mk hg h1 h2 h3 h4, by rw [List.length_take, Array.length_toList, List.length_zipIdx, fmat_length]; show _ = n * 1; omega, fun j p hj => ?_⟩
  obtain ⟨hj1, hj2⟩ := List.getElem?_eq_some_iff.1 hj
  rw [List.length_zipIdx, fmat_length] at hj1
  rw [List.getElem_zipIdx, fmat_get, Nat.zero_add] at hj2
  subst hj2
  refine ⟨hdr n (hs j), take_one hj1 (h5 j hj1), R_of_row (hr j hj1).1 (hr j hj1).2 ⟨⟨trivial, fun e => ?_⟩, hf j hj1⟩⟩
  injection e with e
  exact out_ne_row ho' (hr j hj1).1 e.symm
end Go.Proofs.Ytaahnicjjpddjaa.Pr
/- Row operations on a pair of matrices as products by matrices that have inverses; what they keep. Plain algebra; no condition. -/
namespace Go.Proofs.Ytaahnicjjpddjaa.Fld
/-- equal as n by n matrices. -/
def eqM (n : Nat) (a b : Nat → Nat → F) : Prop := ∀ i j, i < n → j < n → a i j = b i j
theorem eqM.refl (n : Nat) (a : Nat → Nat → F) : eqM n a a := fun _ _ _ _ => rfl
theorem eqM.symm {n : Nat} {a b : Nat → Nat → F} (h : eqM n a b) : eqM n b a := fun i j hi hj => (h i j hi hj).symm
theorem eqM.trans {n : Nat} {a b c : Nat → Nat → F} (h : eqM n a b) (h' : eqM n b c) : eqM n a c := fun i j hi hj => (h i j hi hj).trans (h' i j hi hj)
theorem mm_eq {n : Nat} {a a' b b' : Nat → Nat → F} (ha : eqM n a a') (hb : eqM n b b') : eqM n (mm n a b) (mm n a' b') :=
  fun i j hi hj => mm_congr n a a' b b' i j (fun k hk => ha i k hi hk) (fun k hk => hb k j hk hj)
theorem assocM (n : Nat) (a b c : Nat → Nat → F) : eqM n (mm n (mm n a b) c) (mm n a (mm n b c)) := fun i j _ _ => mm_assoc n n a b c i j
theorem deltaM (n : Nat) (a : Nat → Nat → F) : eqM n (mm n delta a) a := fun i j hi _ => delta_mm n a i j hi
theorem Mdelta (n : Nat) (a : Nat → Nat → F) : eqM n (mm n a delta) a := fun i j _ hj => mm_delta n a i j hj
/-- a row operation: a product from the left by a matrix with an inverse. -/
def rowOp (n : Nat) (f : (Nat → Nat → F) → Nat → Nat → F) : Prop := ∃ e e', eqM n (mm n e' e) delta ∧ ∀ v, eqM n (f v) (mm n e v)
theorem sum_pick (n i : Nat) (c : F) (f : Nat → F) (h : i < n) : sumF n (fun k => fm (fm c (delta i k)) (f k)) = fm c (f i) := by
  rw [← sum_delta n i f h, fm_sum]
  exact sum_congr _ _ _ (fun k _ => fm_assoc _ _ _)
/-- rows the other way round. -/
theorem op_swap (n : Nat) (s : Nat → Nat) (h1 : ∀ i, i < n → s i < n) (h2 : ∀ i, i < n → s (s i) = i) : rowOp n (fun v i j => v (s i) j) := by
  have h : ∀ v : Nat → Nat → F, eqM n (fun i j => v (s i) j) (mm n (fun i k => delta (s i) k) v) := fun v i j hi _ => (sum_delta n (s i) (fun k => v k j) (h1 i hi)).symm
  refine ⟨fun i k => delta (s i) k, fun i k => delta (s i) k, fun i j hi hj => ?_, h⟩
  rw [← h (fun i k => delta (s i) k) i j hi hj]
  show delta (s (s i)) j = delta i j
  rw [h2 i hi]
/-- rows times numbers that are not nought. -/
theorem op_scale (n : Nat) (c c' : Nat → F) (hc : ∀ i, fm (c' i) (c i) = 1#8) : rowOp n (fun v i j => fm (c i) (v i j)) := by
  have h : ∀ (c : Nat → F) (v : Nat → Nat → F), eqM n (fun i j => fm (c i) (v i j)) (mm n (fun i k => fm (c i) (delta i k)) v) := fun c v i j hi _ => (sum_pick n i (c i) (fun k => v k j) hi).symm
  refine ⟨fun i k => fm (c i) (delta i k), fun i k => fm (c' i) (delta i k), fun i j hi hj => ?_, h c⟩
  rw [← h c' (fun i k => fm (c i) (delta i k)) i j hi hj]
  show fm (c' i) (fm (c i) (delta i j)) = delta i j
  rw [← fm_assoc, hc, one_fm]
/-- one row times a number added to another one. -/
theorem op_clear (n a b : Nat) (y : F) (ha : a < n) (hab : a ≠ b) : rowOp n (fun v i j => if i = b then v i j ^^^ fm y (v a j) else v i j) := by
  have h : ∀ v : Nat → Nat → F, eqM n (fun i j => if i = b then v i j ^^^ fm y (v a j) else v i j) (mm n (fun i k => if i = b then delta i k ^^^ fm y (delta a k) else delta i k) v) := by
    intro v i j hi _
    unfold mm
    by_cases e : i = b
    · have e1 : sumF n (fun k => fm (if i = b then delta i k ^^^ fm y (delta a k) else delta i k) (v k j)) = sumF n (fun k => fm (delta i k) (v k j) ^^^ fm (fm y (delta a k)) (v k j)) := sum_congr _ _ _ (fun k _ => by rw [if_pos e, xor_fm])
      rw [e1, sum_xor, sum_delta n i _ hi, sum_pick n a y (fun k => v k j) ha]
      simp only [if_pos e]
    · have e1 : sumF n (fun k => fm (if i = b then delta i k ^^^ fm y (delta a k) else delta i k) (v k j)) = sumF n (fun k => fm (delta i k) (v k j)) := sum_congr _ _ _ (fun k _ => by rw [if_neg e])
      rw [e1, sum_delta n i _ hi]
      simp only [if_neg e]
  refine ⟨_, fun i k => if i = b then delta i k ^^^ fm y (delta a k) else delta i k, fun i j hi hj => ?_, h⟩
  rw [← h (fun i k => if i = b then delta i k ^^^ fm y (delta a k) else delta i k) i j hi hj]
  simp only [if_neg hab]
  by_cases e : i = b
  · rw [if_pos e, if_pos e, BitVec.xor_assoc, BitVec.xor_self, BitVec.xor_zero]
  · rw [if_neg e, if_neg e]
/-- what all row operations keep: the second matrix times m is the first; the second has an inverse from the left. -/
structure Kept2 (n : Nat) (m x y : Nat → Nat → F) : Prop where
  prod : eqM n (mm n y m) x
  back : ∃ u, eqM n (mm n u y) delta
theorem Kept2.op {n : Nat} {m x y : Nat → Nat → F} {f : (Nat → Nat → F) → Nat → Nat → F} (H : Kept2 n m x y) (hf : rowOp n f) : Kept2 n m (f x) (f y) := by
  obtain ⟨e, e', h1, h2⟩ := hf
  obtain ⟨u, hu⟩ := H.back
  refine ⟨?_, mm n u e', ?_⟩
  · refine (mm_eq (h2 y) (eqM.refl n m)).trans ((assocM n e y m).trans ?_)
    exact (mm_eq (eqM.refl n e) H.prod).trans (h2 x).symm
  · refine (mm_eq (eqM.refl n _) (h2 y)).trans ((assocM n u e' (mm n e y)).trans ?_)
    refine (mm_eq (eqM.refl n u) ((assocM n e' e y).symm.trans ((mm_eq h1 (eqM.refl n y)).trans (deltaM n y)))).trans hu
theorem Kept2.start (n : Nat) (m : Nat → Nat → F) : Kept2 n m m delta := ⟨deltaM n m, delta, deltaM n delta⟩
/-- the first matrix has become the identity: the second is the inverse, from either side. -/
theorem Kept2.done {n : Nat} {m x y : Nat → Nat → F} (H : Kept2 n m x y) (hx : eqM n x delta) : eqM n (mm n y m) delta ∧ eqM n (mm n m y) delta := by
  obtain ⟨u, hu⟩ := H.back
  have h1 := H.prod.trans hx
  have h2 : eqM n u m := by
    refine (Mdelta n u).symm.trans ((mm_eq (eqM.refl n u) h1.symm).trans ?_)
    refine (assocM n u y m).symm.trans ((mm_eq hu (eqM.refl n m)).trans (deltaM n m))
  exact ⟨h1, (mm_eq h2.symm (eqM.refl n y)).trans hu⟩
/-- inverses are one. -/
theorem inverse_one {n : Nat} {m y z : Nat → Nat → F} (h1 : eqM n (mm n y m) delta) (h2 : eqM n (mm n m z) delta) : eqM n y z := by
  refine (Mdelta n y).symm.trans ((mm_eq (eqM.refl n y) h2.symm).trans ?_)
  exact (assocM n y m z).symm.trans ((mm_eq h1 (eqM.refl n z)).trans (deltaM n z))
/-- the columns below c are the identity's. -/
def colsOk (n c : Nat) (x : Nat → Nat → F) : Prop := ∀ i l, i < n → l < c → x i l = delta i l
theorem mm_zero (n : Nat) (a : Nat → Nat → F) : eqM n (mm n a (fun _ _ => 0#8)) (fun _ _ => 0#8) := by
  intro i j _ _
  show sumF n (fun k => fm (a i k) 0#8) = 0#8
  exact (sum_congr n _ (fun _ => 0#8) (fun k _ => fm_zero _)).trans (sum_zero n)
theorem delta_self (i : Nat) : delta i i = 1#8 := if_pos rfl
theorem delta_ne {i j : Nat} (h : i ≠ j) : delta i j = 0#8 := if_neg h
/-- no number left to turn on: there is no inverse. -/
theorem no_inverse {n : Nat} {m x y : Nat → Nat → F} (H : Kept2 n m x y) {c : Nat} (hc : c < n) (hcols : colsOk n c x) (hz : ∀ i, c ≤ i → i < n → x i c = 0#8) (z : Nat → Nat → F) : ¬ eqM n (mm n z m) delta := by
  intro hz1
  obtain ⟨q, hq⟩ : ∃ q : Nat → F, q = fun k => if k < c then x k c else 0#8 := ⟨_, rfl⟩
  obtain ⟨P, hP⟩ : ∃ P : Nat → Nat → F, P = fun k _ => q k ^^^ delta k c := ⟨_, rfl⟩
  have h1 : eqM n (mm n x P) (fun _ _ => 0#8) := by
    intro i j hi _
    have e1 : mm n x P i j = sumF n (fun k => fm (x i k) (q k) ^^^ fm (x i k) (delta k c)) := by
      unfold mm
      exact sum_congr _ _ _ (fun k _ => by rw [hP, fm_xor])
    have e2 : sumF n (fun k => fm (x i k) (q k)) = q i := by
      rw [← sum_delta n i q hi]
      refine sum_congr _ _ _ (fun k hk => ?_)
      by_cases h : k < c
      · rw [hcols i k hi h]
      · have e : q k = 0#8 := by rw [hq]; exact if_neg h
        rw [e, fm_zero, fm_zero]
    rw [e1, sum_xor, e2, sum_delta_r n c (fun k => x i k) hc, hq]
    by_cases h : i < c
    · simp only [if_pos h, BitVec.xor_self]
    · simp only [if_neg h]
      rw [hz i uV hi]; rfl
  obtain ⟨u, hu⟩ := H.back
  have h2 : eqM n (mm n m P) (fun _ _ => 0#8) := by
    refine (deltaM n _).symm.trans ((mm_eq hu.symm (eqM.refl n _)).trans ?_)
    refine (assocM n u y (mm n m P)).trans ((mm_eq (eqM.refl n u) ((assocM n y m P).symm.trans ((mm_eq H.prod (eqM.refl n P)).trans h1))).trans (mm_zero n u))
  have h3 : eqM n P (fun _ _ => 0#8) :=
    (deltaM n P).symm.trans ((mm_eq hz1.symm (eqM.refl n P)).trans ((assocM n z m P).trans ((mm_eq (eqM.refl n z) h2).trans (mm_zero n z))))
  have h4 := h3 c c hc hc
  rw [hP, hq] at h4
  simp only [if_neg (Nat.lt_irrefl c), delta_self] at h4
  exact absurd h4 uZ
def sg (a i k : Nat) : Nat := if k = i then a else if k = a then i else k
theorem sg_lt {a i k n : Nat} (ha : a < n) (hi : i < n) (hk : k < n) : sg a i k < n := by
  unfold sg
  split
  · exact ha
  · split
    · exact hi
    · exact hk
theorem sg_sg (a i k : Nat) : sg a i (sg a i k) = k := by
  unfold sg
  by_cases h1 : k = i
  · rw [if_pos h1]
    by_cases h2 : a = i
    · rw [if_pos h2]; omega
    · rw [if_neg h2, if_pos rfl]; exact h1.symm
  · rw [if_neg h1]
    by_cases h2 : k = a
    · rw [if_pos h2, if_pos rfl]; exact h2.symm
    · rw [if_neg h2, if_neg h1, if_neg h2]
theorem cols_swap {n a i : Nat} {x : Nat → Nat → F} (hx : colsOk n a x) (ha : a < n) (hi : i < n) (hai : a ≤ i) : colsOk n a (fun k j => x (sg a i k) j) := by
  intro k l hk hl
  show x (sg a i k) l = delta k l
  rw [hx _ l (sg_lt ha hi hk) hl]
  unfold sg
  by_cases h1 : k = i
  · rw [if_pos h1, delta_ne uV, delta_ne uV]
  · rw [if_neg h1]
    by_cases h2 : k = a
    · rw [if_pos h2, delta_ne uV, delta_ne uV]
    · rw [if_neg h2]
theorem cols_scale {n a : Nat} {x : Nat → Nat → F} (hx : colsOk n a x) (c : Nat → F) (hc : ∀ k, k ≠ a → c k = 1#8) : colsOk n a (fun k j => fm (c k) (x k j)) := by
  intro k l hk hl
  show fm (c k) (x k l) = delta k l
  rw [hx k l hk hl]
  by_cases h : k = a
  · rw [delta_ne (show k ≠ l by omega), fm_zero]
  · rw [hc k h, one_fm]
theorem cols_clear {n a b : Nat} {x : Nat → Nat → F} (hx : colsOk n a x) (ha : a < n) (y : F) : colsOk n a (fun k j => if k = b then x k j ^^^ fm y (x a j) else x k j) := by
  intro k l hk hl
  show (if k = b then x k l ^^^ fm y (x a l) else x k l) = delta k l
  rw [hx k l hk hl, hx a l ha hl, delta_ne (show a ≠ l by omega), fm_zero, BitVec.xor_zero, ite_self]
end Go.Proofs.Ytaahnicjjpddjaa.Fld
/- The walks' forms of row operations are those of the algebra; one turn of the elimination. Plain algebra; no condition. -/
namespace Go.Proofs.Ytaahnicjjpddjaa.Pr
open Go.Proofs.Ytaahnicjjpddjaa.Fld
theorem swaps_form (v : Nat → Nat → Nat → F) (a i t : Nat) (ht : t < 2) : swaps v a i 2 t = fun k j => v t (sg a i k) j := by
  funext k j
  unfold swaps sg
  rw [if_pos ht]
  by_cases h1 : k = i
  · rw [if_pos h1, if_pos h1]
  · rw [if_neg h1, if_neg h1]
    by_cases h2 : k = a
    · rw [if_pos h2, if_pos h2]
    · rw [if_neg h2, if_neg h2]
theorem scaled_form (v : Nat → Nat → Nat → F) (a : Nat) (y : F) (t : Nat) (ht : t < 2) : scaled v a y 2 0 t = fun k j => fm (if k = a then y else 1#8) (v t k j) := by
  funext k j
  unfold scaled
  by_cases h : k = a
  · rw [if_pos ⟨h, .inl ht⟩, if_pos h, fm_comm]
  · rw [if_neg (fun e => h e.1), if_neg h, one_fm]
theorem cleared_form (v : Nat → Nat → Nat → F) (a b : Nat) (y : F) (t : Nat) (ht : t < 2) : cleared v a b y 2 0 t = fun k j => if k = b then v t k j ^^^ fm y (v t a j) else v t k j := by
  funext k j
  unfold cleared
  by_cases h : k = b
  · rw [if_pos ⟨h, .inl ht⟩, if_pos h, fm_comm]
  · rw [if_neg (fun e => h e.1), if_neg h]
/-- where the elimination stands ahead of turn c. -/
structure Stands (n : Nat) (m : Nat → Nat → F) (c : Nat) (v : Nat → Nat → Nat → F) : Prop where
  kept : Kept2 n m (v 0) (v 1)
  cols : colsOk n c (v 0)
/-- .. within turn c, the rows below b cleared. -/
structure Within (n : Nat) (m : Nat → Nat → F) (c b : Nat) (v : Nat → Nat → Nat → F) : Prop where
  kept : Kept2 n m (v 0) (v 1)
  cols : colsOk n c (v 0)
  one : v 0 c c = 1#8
  gone : ∀ i, i < b → i ≠ c → v 0 i c = 0#8
theorem Stands.start (n : Nat) (m : Nat → Nat → F) (v : Nat → Nat → Nat → F) (h0 : v 0 = m) (h1 : v 1 = delta) : Stands n m 0 v :=
  ⟨by rw [h0, h1]; exact Kept2.start n m, fun _ _ _ h => absurd h uV⟩
theorem Stands.turn {n : Nat} {m : Nat → Nat → F} {c i : Nat} {v : Nat → Nat → Nat → F} (H : Stands n m c v) (hc : c < n) (hi : i < n) (hci : c ≤ i) (hp : v 0 i c ≠ 0#8) :
    Within n m c 0 (scaled (swaps v c i 2) c (fi (v 0 i c)) 2 0) := by
  have e0 : swaps v c i 2 0 c c = v 0 i c := by
    rw [swaps_form v c i 0 uV]
    show v 0 (sg c i c) c = v 0 i c
    unfold sg
    by_cases h : c = i
    · rw [if_pos h, ← h]
    · rw [if_neg h, if_pos rfl]
  have hk : Kept2 n m (swaps v c i 2 0) (swaps v c i 2 1) := by
    rw [swaps_form v c i 0 uV, swaps_form v c i 1 uV]
    exact H.kept.op (op_swap n (sg c i) (fun k hk => sg_lt hc hi hk) (fun k _ => sg_sg c i k))
  have hco : colsOk n c (swaps v c i 2 0) := by
    rw [swaps_form v c i 0 uV]
    exact cols_swap H.cols hc hi hci
  refine ⟨?_, ?_, ?_, fun k hk => absurd hk uV⟩
  · rw [scaled_form _ c _ 0 uV, scaled_form _ c _ 1 uV]
    refine hk.op (op_scale n _ (fun k => if k = c then v 0 i c else 1#8) (fun k => ?_))
    by_cases h : k = c
    · rw [if_pos h, if_pos h, fm_fi _ hp]
    · rw [if_neg h, if_neg h, one_fm]
  · rw [scaled_form _ c _ 0 uV]
    exact cols_scale hco _ (fun k h => if_neg h)
  · rw [scaled_form _ c _ 0 uV]
    show fm (if c = c then fi (v 0 i c) else 1#8) (swaps v c i 2 0 c c) = 1#8
    rw [if_pos rfl, e0, fi_fm _ hp]
theorem Within.skip {n : Nat} {m : Nat → Nat → F} {c : Nat} {v : Nat → Nat → Nat → F} (H : Within n m c c v) : Within n m c (c + 1) v :=
  ⟨H.kept, H.cols, H.one, fun i hi hne => H.gone i uV hne⟩
theorem Within.clear {n : Nat} {m : Nat → Nat → F} {c b : Nat} {v : Nat → Nat → Nat → F} (H : Within n m c b v) (hc : c < n) (hbc : b ≠ c) : Within n m c (b + 1) (cleared v c b (v 0 b c) 2 0) := by
  refine ⟨?_, ?_, ?_, fun i hi hne => ?_⟩
  · rw [cleared_form _ _ _ _ 0 uV, cleared_form _ _ _ _ 1 uV]
    exact H.kept.op (op_clear n c b _ hc (Ne.symm hbc))
  · rw [cleared_form _ _ _ _ 0 uV]
    exact cols_clear H.cols hc _
  · rw [cleared_form _ _ _ _ 0 uV]
    show (if c = b then _ else v 0 c c) = 1#8
    rw [if_neg (Ne.symm hbc), H.one]
  · rw [cleared_form _ _ _ _ 0 uV]
    show (if i = b then v 0 i c ^^^ fm (v 0 b c) (v 0 c c) else v 0 i c) = 0#8
    by_cases h : i = b
    · rw [if_pos h, H.one, fm_one, h, BitVec.xor_self]
    · rw [if_neg h]; exact H.gone i uV hne
theorem Within.next {n : Nat} {m : Nat → Nat → F} {c : Nat} {v : Nat → Nat → Nat → F} (H : Within n m c n v) : Stands n m (c + 1) v := by
  refine ⟨H.kept, fun i l hi hl => ?_⟩
  by_cases h : l < c
  · exact H.cols i l hi h
  · have e : l = c := by omega
    subst e
    by_cases h2 : i = l
    · subst h2; rw [H.one, delta_self]
    · rw [H.gone i hi h2, delta_ne h2]
theorem Stands.singular {n : Nat} {m : Nat → Nat → F} {c : Nat} {v : Nat → Nat → Nat → F} (H : Stands n m c v) (hc : c < n) (hz : ∀ k, c ≤ k → k < n → v 0 k c = 0#8) (z : Nat → Nat → F) : ¬ eqM n (mm n z m) delta :=
  no_inverse H.kept hc H.cols hz z
theorem Stands.done {n : Nat} {m : Nat → Nat → F} {v : Nat → Nat → Nat → F} (H : Stands n m n v) : eqM n (mm n (v 1) m) delta ∧ eqM n (mm n m (v 1)) delta :=
  H.kept.done (fun i j hi hj => H.cols i j hi hj)
end Go.Proofs.Ytaahnicjjpddjaa.Pr
/- The library's copy of a slice of rows: new memory of the call's own, with the same headers: the rows are shared. The slice takes fewer than 2^44 numbers (as every slice that came in does). -/
namespace Go.Proofs.Ytaahnicjjpddjaa.Fn
open Go.RowKit Go.Proofs.YtaahnicjjpddjaaW.PrintWords Go.Proofs.YtaahnicjjpddjaaW.PrintLast Go.Proofs.YtaahnicjjpddjaaW.PrintMore
set_option linter.unusedVariables false
set_option linter.unusedSimpArgs false
theorem cln_info25 : (Try.prog.info? 25).map (fun i => (i.zero, i.size, i.bytes)) = some (some (.slice none 0 0), 1, 24) := by kernel_rfl
def cloneRows.f (xs : List (List Value)) : Option (List (List Value)) := if xs.length < 5864062014805 then some xs else none
set_option maxHeartbeats 8000000 in
set_option maxRecDepth 100000 in
theorem cloneRows.calls (A0 : Option Addr) (c0 : Nat) (l0 : List (List Value)) (r : List (List Value)) (w : World) (hr0 : Kd.C (Kd.raw 1) w A0 l0.length l0) (hc0 : l0.length ≤ c0) (h : cloneRows.f l0 = some r) :
    Calls Try.prog 77 #[.slice A0 l0.length c0] w fun e w' => ∃ v0_ : Value, e = .returned (v0_) ∧ Kd.R (Kd.raw 1) 25 w' w.heap.size (fun _ => True) v0_ r ∧ Below w.heap.size w w' := by
  have heq := fun (W : World) (a : Option Addr) (l c : Nat) => Lib.run_eql_slice_nil (P := Try.prog) W 22 25 a l c 0 0 Try.underlying22
  unfold cloneRows.f at h
  by_cases c2 : l0.length < 5864062014805
  · rw [if_pos c2] at h
    obtain rfl := Option.some.inj h
    have LMc2 := Aside0.mk c2
    clear c2
    cases A0 with
    | none =>
      have hl : l0 = [] := by
        cases l0 with
        | nil => rfl
        | cons x xs =>
          obtain ⟨ad, e, _⟩ := hr0.2.2 qa
          cases e
      subst hl
      have hn : (none : Option Addr).isNone = true := rfl
      clear hr0 hc0
      go_enter Try.func77, Try.ntmps77
      go_wp2
      go_ret
      exact ⟨_, rfl, Kd.R_nil _ _ _ _ _, Below.refl _ _⟩
    | some ad =>
      have HR0 := Aside0.mk hr0
      have HC0 := Aside0.mk hc0
      clear hr0 hc0
      have HB := Aside0.mk (Below.refl w.heap.size w)
      have hn : (some ad : Option Addr).isNone = false := rfl
      obtain ⟨y101, hy101⟩ : ∃ y_ : List (List Value), y_ = (([] : List (List Value))) := ⟨_, rfl⟩
      have Ny101 := Aside0.mk hy101
      clear hy101
      obtain ⟨y104, hy104⟩ : ∃ y_ : List (List Value), y_ = (y101 ++ l0) := ⟨_, rfl⟩
      have Ny104 := Aside0.mk hy104
      clear hy104
      go_enter Try.func77, Try.ntmps77
      go_wp2_with (first | ((with_reducible refine gate_dst (N := 5) rfl ?_); refine Kd.R_lit (Kd.raw 1) _ 25 ?hg (N := 5) ?hd (xs := ([] : List (List Value))) (inner := []) (ok := fun _ => True) (okp := fun _ => True) ?hr ?hp (fun _ hk => hk) trivial (Below.refl _ _) (Nat.le_refl _) qa ?_; (case hd => rfl); (case hg => rfl); (case hr => first | (go_simp; done) | (go_simp; rfl)); (case hp => exact (Reps.none _ _)); intro v102 w3 ho4 hb hg_ hnew_; clear hg_ hnew_; (first | rw [← Ny101.out] at ho4 | (simp only [Int.reduceToNat] at ho4; rw [← Ny101.out] at ho4)); have HO103 := mk0 (Kd.R_lower ho4 (below_size ul)); replace HB := mk0 (below_step ul hb); clear hb ho4) | ((with_reducible refine gBu (b := .append) (xs := #[.tmp 5, .tmp 6]) rfl ?_); at_builtin; refine Kd.R_append_rows (Kd.raw 1) (w0 := w) w.heap.size rfl (.tmp 5) (.tmp 6) 22 25 (.slice none 0 0) 24 rfl Try.underlying22 cln_info25 rfl uZ uV v102 y101 l0 _ _ _ (fun _ => True) (fun _ => False) rfl rfl ?aO ?aR (fun _ _ h => h) (fun _ h => h.elim) ?aF ?aB ?aS ?aL ?_; (case aR => repeat (first | exact (Kd.C_below HR0.out HB.out) | (with_reducible refine Kd.C_alloc ?_ _) | (with_reducible refine Kd.C_drewN ?_ _) | (with_reducible refine Kd.C_drew ?_))); (case aB => exact ul); (case aF => exact (fun _ _ => trivial)); (case aO => exact (by (with_reducible repeat (first | apply Kd.R_alloc | apply Kd.R_drewN | apply Kd.R_drew)); exact HO103.out)); (case aS => exact (below_size ul)); (case aL => have := LMc2.out; have e0 : y101.length = 0 := (congrArg List.length Ny101.out); omega); intro v105 w5 ho hb hg hat; rw [← Ny104.out] at ho; replace HB := mk0 (hb); have HO106 := mk0 (ho); clear HO103; clear ho hb hg hat))
      go_ret
      refine ⟨_, rfl, ?_, ul⟩
      have e1 : y104 = l0 := by rw [Ny104.out, Ny101.out]; rfl
      rw [← e1]
      (with_reducible repeat (first | apply Kd.R_alloc | apply Kd.R_drewN | apply Kd.R_drew)); exact HO106.out
  · rw [if_neg c2] at h
    exact absurd h qa
end Go.Proofs.Ytaahnicjjpddjaa.Fn
/- A row of rows that is read, as the headers that stand there. Plain; no condition. -/
namespace Go.Proofs.Ytaahnicjjpddjaa.Pr
open Go.RowKit Go.Proofs.YtaahnicjjpddjaaW.PrintWords Go.Proofs.YtaahnicjjpddjaaW.PrintLast Go.Proofs.YtaahnicjjpddjaaW.PrintMore
/-- the cells of a row of rows that is read. -/
theorem raw_of_C {w : World} {A : Option Addr} {n : Nat} {xs : List (List Int)} (hn : 0 < n) (h : Kd.C (Kd.slice 3 (Kd.int .i64)) w A n xs) :
    ∃ f : Nat → Value, Kd.C (Kd.raw 1) w A n ((List.range n).map fun i => [f i]) ∧ ∀ (i : Nat) (x : List Int), xs[i]? = some x → ∃ A' c', f i = .slice A' x.length c' ∧ x.length ≤ c' ∧ Kd.C (Kd.int .i64) w A' x.length x := by
  obtain ⟨h1, h2, h3⟩ := h
  obtain ⟨ad, e, hc⟩ := h3 hn
  haveI : Inhabited Value := ⟨undef⟩
  have hh : ∀ i, i < n → ∃ u : Value, w.cell? (ad.add i) = some u ∧ ∀ x, xs[i]? = some x → ∃ A' c', u = .slice A' x.length c' ∧ x.length ≤ c' ∧ Kd.C (Kd.int .i64) w A' x.length x := by
    intro i hi
    have hl : i < xs.length := by omega
    obtain ⟨c, hs, ⟨A', c', rfl, h5, h6⟩, h7⟩ := hc i xs[i] (List.getElem?_eq_getElem hl)
    refine ⟨.slice A' xs[i].length c', ?_, fun x hx => ?_⟩
    · have h8 := h7 0 _ rfl
      rw [show (Kd.slice 3 (Kd.int .i64)).sz = 1 from rfl, Nat.mul_one, Nat.add_zero] at h8
      exact h8
    · rw [List.getElem?_eq_getElem hl] at hx
      obtain rfl := Option.some.inj hx
      exact ⟨A', c', rfl, h5, h6⟩
  obtain ⟨f, hf⟩ := choice_lt hh
  refine ⟨f, ⟨qa, h2, fun _ => ⟨ad, e, fun j p hj => ?_⟩⟩, fun i x hx => (hf i (by have := (List.getElem?_eq_some_iff.1 hx).1; omega)).2 x hx⟩
  obtain ⟨hj1, hj2⟩ := List.getElem?_eq_some_iff.1 hj
  rw [List.length_map, List.length_range] at hj1
  rw [List.getElem_map, List.getElem_range] at hj2
  subst hj2
  have h9 := hf j hj1
  refine ⟨[f j], rfl, ⟨rfl, rfl, fun u hu => ?_⟩, fun i u hi => ?_⟩
  · obtain ⟨A', c', e2, _⟩ := h9.2 xs[j] (List.getElem?_eq_getElem uV)
    rw [List.mem_singleton.1 hu, e2]; rfl
  · have : i = 0 := by
      have := (List.getElem?_eq_some_iff.1 hi).1
      simp at this; omega
    subst this
    obtain rfl := Option.some.inj hi
    rw [show (Kd.raw 1).sz = 1 from rfl, Nat.mul_one, Nat.add_zero]
    exact h9.1
/-- an outer block with given headers. -/
def OutV (w : World) (g C n : Nat) (val : Nat → Value) : Prop :=
  ∃ cur, w.heap[g]? = some (.cells cur 25 (0, 0)) ∧ cur.size = C ∧ n ≤ C ∧ C ≤ maxLen ∧ ∀ i, i < n → cur[i]? = some (val i)
theorem OutV.of_eq {w w' : World} {g C n : Nat} {val : Nat → Value} (H : OutV w g C n val) (e : ∀ o, w.heap[g]? = some o → w'.heap[g]? = some o) : OutV w' g C n val := by
  obtain ⟨cur, h1, h2⟩ := H
  exact ⟨cur, e _ h1, h2⟩
theorem OutV.cell {w : World} {g C n : Nat} {val : Nat → Value} (H : OutV w g C n val) {i : Nat} (hi : i < n) : w.cell? ⟨g, i, none⟩ = some (val i) := by
  obtain ⟨cur, h1, h2, h3, h4, h5⟩ := H
  exact (blk_cell h1 i).trans (h5 i hi)
theorem OutV.frozen {w : World} {g C n : Nat} {val : Nat → Value} (H : OutV w g C n val) (i : Nat) : w.frozen? ⟨g, i, none⟩ = false := by
  obtain ⟨cur, h1, _⟩ := H
  exact blk_frozen h1 i
theorem OutV.far {w : World} {g C n : Nat} {val : Nat → Value} (H : OutV w g C n val) {p : Addr} (hp : g ≠ p.block) (u : Value) : OutV (w.setCell p u) g C n val :=
  H.of_eq (fun _ ho => (Below.heap_setCell w p u g hp).trans ho)
theorem OutV.put {w : World} {g C n : Nat} {val : Nat → Value} (H : OutV w g C n val) (i : Nat) (x : Value) : OutV (w.setCell ⟨g, i, none⟩ x) g C n (fun t => if t = i then x else val t) := by
  obtain ⟨cur, h1, h2, h3, h4, h5⟩ := H
  refine ⟨cur.setIfInBounds i x, blk_put h1 i _ rfl, by rw [Array.size_setIfInBounds]; exact h2, h3, h4, fun t ht => ?_⟩
  rw [Array.getElem?_setIfInBounds]
  by_cases e : i = t
  · rw [if_pos e, if_pos uV]; simp only [if_pos e.symm]
  · rw [if_neg e]; simp only [if_neg (fun e' : t = i => e e'.symm)]
    exact h5 t ht
theorem OutV.congr {w : World} {g C n : Nat} {val val' : Nat → Value} (H : OutV w g C n val) (e : ∀ i, i < n → val i = val' i) : OutV w g C n val' := by
  obtain ⟨cur, h1, h2, h3, h4, h5⟩ := H
  exact ⟨cur, h1, h2, h3, h4, fun i hi => by rw [← e i hi]; exact h5 i hi⟩
theorem OutV.rows {w : World} {g C n : Nat} {hs : Nat → Nat × Nat} (H : OutV w g C n (fun i => hdr n (hs i))) : OutAt w g C n hs := H
/-- the copy of headers, as it stands. -/
theorem outV_of_R {w : World} {base : Nat} {ok : Nat → Prop} {v : Value} {f : Nat → Value} {n : Nat} (hn : 1 ≤ n) (h : Kd.R (Kd.raw 1) 25 w base ok v ((List.range n).map fun i => [f i])) :
    ∃ g C, v = .slice (some ⟨g, 0, none⟩) n C ∧ base ≤ g ∧ OutV w g C n f := by
  obtain ⟨_, inner, ho, hr⟩ := h
  rw [List.length_map, List.length_range] at ho
  obtain ⟨g, C, cur, h1, h2, h3, h4, h5, h6, h7⟩ := own_slice ho hn
  refine ⟨g, C, h1, h2, cur, h3, h6, h4, h5, fun j hj => ?_⟩
  rw [take_get h7 hj]
  have h8 := hr.2 j [f j] (by rw [List.getElem?_map, List.getElem?_range hj]; rfl)
  have h9 : (inner.drop (j * 1)).take 1 = [f j] := h8.1
  rw [Nat.mul_one] at h9
  have h10 : ((inner.drop j).take 1)[0]? = some (f j) := by rw [h9]; rfl
  rw [List.getElem?_take_of_lt uV, List.getElem?_drop, Nat.add_zero] at h10
  exact h10
end Go.Proofs.Ytaahnicjjpddjaa.Pr
/- Invert's memory, told in two structures: while rows are copied, and while the elimination runs; what the calls in it come to over these. Plain; no condition. -/
namespace Go.Proofs.Ytaahnicjjpddjaa.Pr
open Go.RowKit Go.Proofs.YtaahnicjjpddjaaW.PrintWords Go.Proofs.YtaahnicjjpddjaaW.PrintLast Go.Proofs.YtaahnicjjpddjaaW.PrintMore Go.Proofs.Ytaahnicjjpddjaa.Fld Go.Proofs.Ytaahnicjjpddjaa.Mat Go.Proofs.Ytaahnicjjpddjaa.Fn
/-- while rows are copied: the first i rows of the outer block are the call's own. -/
structure Cpy (W0 w : World) (m : Nat → Nat → F) (f : Nat → Value) (n g2 g4 g6 gI CI gO CO : Nat) (hsI : Nat → Nat × Nat) (i : Nat) (hsO : Nat → Nat × Nat) : Prop where
  below : Below W0.heap.size W0 w
  b2 : w.heap[g2]? = some (.cells #[.slice none 0 0] 24 (0, 0))
  b4 : w.heap[g4]? = some (.cells #[.slice (some ⟨gI, 0, none⟩) n CI] 24 (0, 0))
  b6 : w.heap[g6]? = some (.cells #[.slice (some ⟨gO, 0, none⟩) n CO] 24 (0, 0))
  one : OutAt w gI CI n hsI
  oneR : ∀ k, k < n → RowAt w (hsI k) n (delta k)
  own : OutV w gO CO n (fun k => if k < i then hdr n (hsO k) else f k)
  ownR : ∀ k, k < i → RowAt w (hsO k) n (m k)
  oneA : ∀ k l, k < n → l < n → (hsI k).1 = (hsI l).1 → k = l
  ownA : ∀ k l, k < i → l < i → (hsO k).1 = (hsO l).1 → k = l
  oneN : ∀ k, k < n → W0.heap.size ≤ (hsI k).1
  ownN : ∀ k, k < i → W0.heap.size ≤ (hsO k).1
  cross : ∀ k l, k < i → l < n → (hsO k).1 ≠ (hsI l).1
  gN : W0.heap.size ≤ gO ∧ W0.heap.size ≤ gI ∧ gI ≠ gO
section
variable {W0 w w' : World} {m : Nat → Nat → F} {f : Nat → Value} {n g2 g4 g6 gI CI gO CO : Nat} {hsI : Nat → Nat × Nat} {i : Nat} {hsO : Nat → Nat × Nat}
theorem Cpy.of_eq (H : Cpy W0 w m f n g2 g4 g6 gI CI gO CO hsI i hsO) (hB : Below W0.heap.size W0 w') (e : ∀ (k : Nat) (o : Obj), w.heap[k]? = some o → w'.heap[k]? = some o) : Cpy W0 w' m f n g2 g4 g6 gI CI gO CO hsI i hsO :=
  ⟨hB, e _ _ H.b2, e _ _ H.b4, e _ _ H.b6, H.one.of_eq (e _), fun k hk => (H.oneR k hk).of_eq (e _), H.own.of_eq (e _), fun k hk => (H.ownR k hk).of_eq (e _), H.oneA, H.ownA, H.oneN, H.ownN, H.cross, H.gN⟩
theorem Cpy.below' (H : Cpy W0 w m f n g2 g4 g6 gI CI gO CO hsI i hsO) (hb : Below w.heap.size w w') : Cpy W0 w' m f n g2 g4 g6 gI CI gO CO hsI i hsO :=
  H.of_eq (below_step H.below hb) (fun _ _ ho => blk_below ho hb)
theorem Cpy.drewN (H : Cpy W0 w m f n g2 g4 g6 gI CI gO CO hsI i hsO) (x : Nat) : Cpy W0 (w.drewN x) m f n g2 g4 g6 gI CI gO CO hsI i hsO :=
  H.of_eq (pw_below_drewN H.below x) (fun _ _ ho => ho)
theorem Cpy.drew (H : Cpy W0 w m f n g2 g4 g6 gI CI gO CO hsI i hsO) : Cpy W0 w.drew m f n g2 g4 g6 gI CI gO CO hsI i hsO :=
  H.of_eq (below_drew1 H.below) (fun _ _ ho => ho)
/-- ahead of the first row. -/
theorem Cpy.start {w1 : World} {hsO : Nat → Nat × Nat} (hB : Below W0.heap.size W0 w) (hb : Below w.heap.size w w1) (h2 : w.heap[g2]? = some (.cells #[.slice none 0 0] 24 (0, 0)))
    (h4 : w.heap[g4]? = some (.cells #[.slice (some ⟨gI, 0, none⟩) n CI] 24 (0, 0))) (h6 : w1.heap[g6]? = some (.cells #[.slice (some ⟨gO, 0, none⟩) n CO] 24 (0, 0)))
    (hI : OutAt w gI CI n hsI) (hIr : ∀ i, i < n → RowAt w (hsI i) n (delta i) ∧ W0.heap.size ≤ (hsI i).1) (hO : OutV w gO CO n f)
    (hA : ∀ i j, i < n → j < n → (hsI i).1 = (hsI j).1 → i = j) (hgI : W0.heap.size ≤ gI) (hgO : W0.heap.size ≤ gO) (hne : gI ≠ gO) :
    Cpy W0 w1 m f n g2 g4 g6 gI CI gO CO hsI 0 hsO := by
  have far : ∀ {g : Nat} {o : Obj}, w.heap[g]? = some o → w1.heap[g]? = some o := fun h => blk_below h hb
  refine ⟨below_step hB hb, far h2, far h4, h6, hI.of_eq (fun _ ho => far ho), fun k hk => (hIr k hk).1.of_eq (fun _ ho => far ho), ?_, fun k hk => absurd hk uV, hA, fun k l hk => absurd hk uV, fun k hk => (hIr k hk).2, fun k hk => absurd hk uV, fun k l hk => absurd hk uV, hgO, hgI, hne⟩
  exact (hO.of_eq (fun _ ho => far ho)).congr (fun k _ => by simp)
/-- the next row. -/
theorem Cpy.step {w1 : World} {h : Nat × Nat} (H : Cpy W0 w m f n g2 g4 g6 gI CI gO CO hsI i hsO) (hb : Below w.heap.size w w1) (hr : RowAt w1 h n (m i)) (hg : w.heap.size ≤ h.1) :
    Cpy W0 (w1.setCell ⟨gO, i, none⟩ (hdr n h)) m f n g2 g4 g6 gI CI gO CO hsI (i + 1) (fun k => if k = i then h else hsO k) := by
  have H1 := H.below' hb
  obtain ⟨curO, hO, hO2⟩ := H1.own
  obtain ⟨curO', hO', _⟩ := H.own
  have hlt := blk_lt hO'
  have nbox : ∀ {g : Nat} {cs : Array Value}, w1.heap[g]? = some (.cells cs 24 (0, 0)) → g ≠ gO := fun hc => blk_ne hc hO uZ
  have nrow : ∀ {hd : Nat × Nat} {k : Nat} {r : Nat → F}, RowAt w1 hd k r → hd.1 ≠ gO := fun hc => by
    obtain ⟨c, hc, _⟩ := hc
    exact blk_ne hc hO uZ
  have old : ∀ k, k < i → (hsO k).1 < w.heap.size := fun k hk => by
    obtain ⟨c, hc, _⟩ := H.ownR k hk
    exact blk_lt hc
  have oldI : ∀ k, k < n → (hsI k).1 < w.heap.size := fun k hk => by
    obtain ⟨c, hc, _⟩ := H.oneR k hk
    exact blk_lt hc
  refine ⟨below_set H1.below H.gN.1, blk_far H1.b2 (nbox H1.b2) _, blk_far H1.b4 (nbox H1.b4) _, blk_far H1.b6 (nbox H1.b6) _, H1.one.far H.gN.2.2 _, fun k hk => (H1.oneR k hk).far (nrow (H1.oneR k hk)) _, ?_, fun k hk => ?_, H.oneA, fun k l hk hl e => ?_, H.oneN, fun k hk => ?_, fun k l hk hl => ?_, H.gN⟩
  · refine (H1.own.put i (hdr n h)).congr (fun k _ => ?_)
    by_cases e : k = i
    · simp only [if_pos e, if_pos (show k < i + 1 by omega)]
    · by_cases e2 : k < i
      · simp only [if_neg e, if_pos e2, if_pos (show k < i + 1 by omega)]
      · simp only [if_neg e, if_neg e2, if_neg (show ¬ k < i + 1 by omega)]
  · by_cases e : k = i
    · simp only [if_pos e]
      rw [e]
      exact hr.far (nrow hr) _
    · simp only [if_neg e]
      exact (H1.ownR k uV).far (nrow (H1.ownR k uV)) _
  · by_cases e1 : k = i
    · by_cases e2 : l = i
      · omega
      · simp only [if_pos e1, if_neg e2] at e
        have := old l uV
        omega
    · by_cases e2 : l = i
      · simp only [if_neg e1, if_pos e2] at e
        have := old k uV
        omega
      · simp only [if_neg e1, if_neg e2] at e
        exact H.ownA k l uV uV e
  · by_cases e1 : k = i
    · simp only [if_pos e1]
      exact Nat.le_trans (below_size H.below) hg
    · simp only [if_neg e1]
      exact H.ownN k uV
  · by_cases e1 : k = i
    · simp only [if_pos e1]
      have := oldI l hl
      omega
    · simp only [if_neg e1]
      exact H.cross k l uV hl
end
/-- while the elimination runs. -/
structure Elim (W0 w : World) (n g2 g6 pg : Nat) (gs Cs : Nat → Nat) (hs : Nat → Nat → Nat × Nat) (v : Nat → Nat → Nat → F) : Prop where
  below : Below W0.heap.size W0 w
  b2 : w.heap[g2]? = some (.cells #[.slice none 0 0] 24 (0, 0))
  b6 : w.heap[g6]? = some (.cells #[.slice (some ⟨gs 0, 0, none⟩) n (Cs 0)] 24 (0, 0))
  pair : pairAt w pg n gs Cs
  two : Two w n gs Cs hs v
  gN : ∀ t, t < 2 → W0.heap.size ≤ gs t
  rN : ∀ t i, t < 2 → i < n → W0.heap.size ≤ (hs t i).1
section
variable {W0 w w' : World} {n g2 g6 pg : Nat} {gs Cs : Nat → Nat} {hs : Nat → Nat → Nat × Nat} {v : Nat → Nat → Nat → F}
theorem Elim.of_eq (H : Elim W0 w n g2 g6 pg gs Cs hs v) (hB : Below W0.heap.size W0 w') (e : ∀ (k : Nat) (o : Obj), w.heap[k]? = some o → w'.heap[k]? = some o) : Elim W0 w' n g2 g6 pg gs Cs hs v :=
  ⟨hB, e _ _ H.b2, e _ _ H.b6, e _ _ H.pair, H.two.of_eq e, H.gN, H.rN⟩
theorem Elim.below' (H : Elim W0 w n g2 g6 pg gs Cs hs v) (hb : Below w.heap.size w w') : Elim W0 w' n g2 g6 pg gs Cs hs v :=
  H.of_eq (below_step H.below hb) (fun _ _ ho => blk_below ho hb)
theorem Elim.drewN (H : Elim W0 w n g2 g6 pg gs Cs hs v) (x : Nat) : Elim W0 (w.drewN x) n g2 g6 pg gs Cs hs v :=
  H.of_eq (pw_below_drewN H.below x) (fun _ _ ho => ho)
theorem Elim.drew (H : Elim W0 w n g2 g6 pg gs Cs hs v) : Elim W0 w.drew n g2 g6 pg gs Cs hs v :=
  H.of_eq (below_drew1 H.below) (fun _ _ ho => ho)
def gs2 (a b : Nat) : Nat → Nat := fun t => if t = 0 then a else b
def hs2 (a b : Nat → Nat × Nat) : Nat → Nat → Nat × Nat := fun t => if t = 0 then a else b
def v2 (a b : Nat → Nat → F) : Nat → Nat → Nat → F := fun t => if t = 0 then a else b
/-- the pair is made: the elimination may begin. -/
theorem Cpy.pair {m : Nat → Nat → F} {f : Nat → Value} {g4 gI CI gO CO : Nat} {hsI hsO : Nat → Nat × Nat} (H : Cpy W0 w m f n g2 g4 g6 gI CI gO CO hsI n hsO) (hb : Below w.heap.size w w')
    (hp : w'.heap[pg]? = some (.cells #[.slice (some ⟨gO, 0, none⟩) n CO, .slice (some ⟨gI, 0, none⟩) n CI] 91 (0, 0))) :
    Elim W0 w' n g2 g6 pg (gs2 gO gI) (gs2 CO CI) (hs2 hsO hsI) (v2 m delta) := by
  have H1 := H.below' hb
  have two : ∀ {t : Nat}, t < 2 → t = 0 ∨ t = 1 := fun h => by omega
  refine ⟨H1.below, H1.b2, H1.b6, hp, ⟨fun t ht => ?_, fun t i ht hi => ?_, fun t i t' i' ht hi ht' hi' e => ?_, fun e => H.gN.2.2 e.symm⟩, fun t ht => ?_, fun t i ht hi => ?_⟩
  · rcases two ht with rfl | rfl
    · have h := H1.own.congr (val' := fun k => hdr n (hsO k)) (fun k hk => by simp only [if_pos hk])
      exact h.rows
    · exact H1.one
  · rcases two ht with rfl | rfl
    · exact H1.ownR i hi
    · exact H1.oneR i hi
  · rcases two ht with rfl | rfl <;> rcases two ht' with rfl | rfl
    · exact ⟨rfl, H.ownA i i' hi hi' e⟩
    · exact absurd e (H.cross i i' hi hi')
    · exact absurd e.symm (H.cross i' i hi' hi)
    · exact ⟨rfl, H.oneA i i' hi hi' e⟩
  · rcases two ht with rfl | rfl
    · exact H.gN.1
    · exact H.gN.2.1
  · rcases two ht with rfl | rfl
    · exact H.ownN i hi
    · exact H.oneN i hi
theorem Elim.keep {hs' : Nat → Nat → Nat × Nat} {v' : Nat → Nat → Nat → F} (H : Elim W0 w n g2 g6 pg gs Cs hs v) (hB : Below W0.heap.size W0 w') (hK : Keep24 w w') (hP : pairAt w' pg n gs Cs) (hT : Two w' n gs Cs hs' v') (hR : ∀ t i, t < 2 → i < n → W0.heap.size ≤ (hs' t i).1) : Elim W0 w' n g2 g6 pg gs Cs hs' v' :=
  ⟨hB, hK.box _ _ H.b2, hK.box _ _ H.b6, hP, hT, H.gN, hR⟩
/-- what stands behind a pivot: a row operation, with a number that is not 0. -/
def Turned (n : Nat) (m : Nat → Nat → F) (c : Nat) (v : Nat → Nat → Nat → F) : Prop := v 0 c c ≠ 0#8 ∧ Within n m c 0 (scaled v c (fi (v 0 c c)) 2 0)
theorem swaps_pivot (v : Nat → Nat → Nat → F) (c i : Nat) : swaps v c i 2 0 c c = v 0 i c := by
  rw [swaps_form v c i 0 uV]
  show v 0 (sg c i c) c = v 0 i c
  unfold sg
  by_cases h : c = i
  · rw [if_pos h, ← h]
  · rw [if_neg h, if_pos rfl]
theorem swaps_le {b : Nat} {hs : Nat → Nat → Nat × Nat} {c i : Nat} (hc : c < n) (hi : i < n) (h : ∀ t i, t < 2 → i < n → b ≤ (hs t i).1) : ∀ t k, t < 2 → k < n → b ≤ (swaps hs c i 2 t k).1 := by
  intro t k ht hk
  unfold swaps
  rw [if_pos ht]
  split
  · exact h t c ht hc
  · split
    · exact h t i ht hi
    · exact h t k ht hk
/-- the outcome of a pivot. -/
def PivEnd (W0 : World) (n g2 g6 pg : Nat) (gs Cs : Nat → Nat) (m : Nat → Nat → F) (c : Nat) (e : Ending) (w' : World) : Prop :=
  (∃ hs v, e = .returned (.bool true) ∧ Elim W0 w' n g2 g6 pg gs Cs hs v ∧ Turned n m c v) ∨ ((∀ z, ¬ eqM n (mm n z m) delta) ∧ e = .returned (.bool false) ∧ ∃ hs v, Elim W0 w' n g2 g6 pg gs Cs hs v)
theorem elim_pivot (m : Nat → Nat → F) (c : Nat) (hn : n ≤ 12) (hc : c < n) (H : Elim W0 w n g2 g6 pg gs Cs hs v) (hS : Stands n m c v) :
    Calls Try.prog 78 #[.pointer (some ⟨pg, 0, none⟩), .int .i64 c] w (PivEnd W0 n g2 g6 pg gs Cs m c) := by
  refine (pivot_calls W0 pg n gs Cs hs v c w hn hc H.pair H.two H.below H.gN).mono ?_
  rintro e w' ⟨hP, hB, hK, ⟨i, hci, hi, _, hz, rfl, hT⟩ | ⟨hz, rfl, hT⟩⟩
  · refine .inl ⟨_, _, rfl, H.keep hB hK hP hT (swaps_le hc hi H.rN), ?_, ?_⟩
    · rw [swaps_pivot]; exact hz
    · rw [swaps_pivot]; exact hS.turn hc hi hci hz
  · exact .inr ⟨hS.singular hc hz, rfl, _, _, H.keep hB hK hP hT H.rN⟩
theorem elim_scale (a : Nat) (y : F) (hn : n ≤ 12) (ha : a < n) (H : Elim W0 w n g2 g6 pg gs Cs hs v) :
    Calls Try.prog 80 #[.pointer (some ⟨pg, 0, none⟩), .int .i64 a, .int .i64 (toI y)] w fun e w' => e = .returned (.tuple #[]) ∧ Elim W0 w' n g2 g6 pg gs Cs hs (scaled v a y 2 0) := by
  refine (scale_calls W0 pg n gs Cs hs v a y w hn ha H.pair H.two H.below H.rN).mono ?_
  rintro e w' ⟨rfl, hT, hP, hB, hK⟩
  exact ⟨rfl, H.keep hB hK hP hT H.rN⟩
theorem elim_clear (a b : Nat) (y : F) (hn : n ≤ 12) (ha : a < n) (hb : b < n) (hab : a ≠ b) (H : Elim W0 w n g2 g6 pg gs Cs hs v) :
    Calls Try.prog 81 #[.pointer (some ⟨pg, 0, none⟩), .int .i64 a, .int .i64 b, .int .i64 (toI y)] w fun e w' => e = .returned (.tuple #[]) ∧ Elim W0 w' n g2 g6 pg gs Cs hs (cleared v a b y 2 0) := by
  refine (clear_calls W0 pg n gs Cs hs v a b y w hn ha hb hab H.pair H.two H.below H.rN).mono ?_
  rintro e w' ⟨rfl, hT, hP, hB, hK⟩
  exact ⟨rfl, H.keep hB hK hP hT H.rN⟩
end
/-- a row that came in, copied. -/
theorem row_clone {W0 : World} {A' : Option Addr} {c' n : Nat} {r : Nat → F} (h1 : 1 ≤ n) (h2 : n ≤ 12) (hc : n ≤ c') (hr : Kd.C (Kd.int .i64) W0 A' n (rowOf (fun j => toI (r j)) n)) {W : World} (hB : Below W0.heap.size W0 W) :
    Calls Try.prog 69 #[.slice A' n c'] W fun e w' => ∃ h : Nat × Nat, e = .returned (.slice (some ⟨h.1, 0, none⟩) n h.2) ∧ RowAt w' h n r ∧ W.heap.size ≤ h.1 ∧ Below W.heap.size W w' := by
  have hl := rowOf_length (fun j => toI (r j)) n
  have h := cloneInts.calls A' c' (rowOf (fun j => toI (r j)) n) _ W (by rw [hl]; exact Kd.C_below hr hB) (by rw [hl]; exact hc) (by unfold cloneInts.f; rw [if_pos (by rw [hl]; omega)])
  rw [hl] at h
  refine h.mono ?_
  rintro e w' ⟨v0, rfl, hR, hb⟩
  obtain ⟨hd, rfl, e2, e3, _⟩ := row_of_R h1 hR
  exact ⟨hd, rfl, e2, e3, hb⟩
end Go.Proofs.Ytaahnicjjpddjaa.Pr
