/- Invert's helpers: what stands where in memory, row operations, the calls in it, walked by hand. No condition. -/
import Derived.Test.YtaahnicjjpddjaaKMatricesMat
/- Two matrices side by side in memory, rows of rows with headers: what stands where, through stores. Plain; no condition. -/
namespace Go.Proofs.Ytaahnicjjpddjaa.Pr
open Go.RowKit Go.Proofs.YtaahnicjjpddjaaW.PrintWords Go.Proofs.YtaahnicjjpddjaaW.PrintLast Go.Proofs.YtaahnicjjpddjaaW.PrintMore Go.Proofs.Ytaahnicjjpddjaa.Fld
/-- a row's header: block, capacity. -/
def hdr (n : Nat) (h : Nat × Nat) : Value := .slice (some ⟨h.1, 0, none⟩) n h.2
def RowAt (w : World) (h : Nat × Nat) (n : Nat) (r : Nat → F) : Prop :=
  ∃ cur, w.heap[h.1]? = some (.cells cur 3 (0, 0)) ∧ cur.size = h.2 ∧ n ≤ h.2 ∧ h.2 ≤ maxLen ∧ ∀ j, j < n → cur[j]? = some (.int .i64 (toI (r j)))
def OutAt (w : World) (g C n : Nat) (hs : Nat → Nat × Nat) : Prop :=
  ∃ cur, w.heap[g]? = some (.cells cur 25 (0, 0)) ∧ cur.size = C ∧ n ≤ C ∧ C ≤ maxLen ∧ ∀ i, i < n → cur[i]? = some (hdr n (hs i))
theorem RowAt.of_eq {w w' : World} {h : Nat × Nat} {n : Nat} {r : Nat → F} (H : RowAt w h n r) (e : ∀ o, w.heap[h.1]? = some o → w'.heap[h.1]? = some o) : RowAt w' h n r := by
  obtain ⟨cur, h1, h2⟩ := H
  exact ⟨cur, e _ h1, h2⟩
theorem OutAt.of_eq {w w' : World} {g C n : Nat} {hs : Nat → Nat × Nat} (H : OutAt w g C n hs) (e : ∀ o, w.heap[g]? = some o → w'.heap[g]? = some o) : OutAt w' g C n hs := by
  obtain ⟨cur, h1, h2⟩ := H
  exact ⟨cur, e _ h1, h2⟩
theorem RowAt.congr {w : World} {h : Nat × Nat} {n : Nat} {r s : Nat → F} (H : RowAt w h n r) (e : ∀ j, j < n → r j = s j) : RowAt w h n s := by
  obtain ⟨cur, h1, h2, h3, h4, h5⟩ := H
  exact ⟨cur, h1, h2, h3, h4, fun j hj => by rw [← e j hj]; exact h5 j hj⟩
theorem RowAt.cell {w : World} {h : Nat × Nat} {n : Nat} {r : Nat → F} (H : RowAt w h n r) {j : Nat} (hj : j < n) : w.cell? ⟨h.1, j, none⟩ = some (.int .i64 (toI (r j))) := by
  obtain ⟨cur, h1, h2, h3, h4, h5⟩ := H
  exact (blk_cell h1 j).trans (h5 j hj)
theorem OutAt.cell {w : World} {g C n : Nat} {hs : Nat → Nat × Nat} (H : OutAt w g C n hs) {i : Nat} (hi : i < n) : w.cell? ⟨g, i, none⟩ = some (hdr n (hs i)) := by
  obtain ⟨cur, h1, h2, h3, h4, h5⟩ := H
  exact (blk_cell h1 i).trans (h5 i hi)
theorem RowAt.far {w : World} {h : Nat × Nat} {n : Nat} {r : Nat → F} (H : RowAt w h n r) {p : Addr} (hp : h.1 ≠ p.block) (u : Value) : RowAt (w.setCell p u) h n r :=
  H.of_eq (fun _ ho => (Below.heap_setCell w p u h.1 hp).trans ho)
theorem OutAt.far {w : World} {g C n : Nat} {hs : Nat → Nat × Nat} (H : OutAt w g C n hs) {p : Addr} (hp : g ≠ p.block) (u : Value) : OutAt (w.setCell p u) g C n hs :=
  H.of_eq (fun _ ho => (Below.heap_setCell w p u g hp).trans ho)
theorem RowAt.put {w : World} {h : Nat × Nat} {n : Nat} {r : Nat → F} (H : RowAt w h n r) (j : Nat) (x : F) : RowAt (w.setCell ⟨h.1, j, none⟩ (.int .i64 (toI x))) h n (fun t => if t = j then x else r t) := by
  obtain ⟨cur, h1, h2, h3, h4, h5⟩ := H
  refine ⟨cur.setIfInBounds j (.int .i64 (toI x)), blk_put h1 j _ rfl, by rw [Array.size_setIfInBounds]; exact h2, h3, h4, fun t ht => ?_⟩
  rw [Array.getElem?_setIfInBounds]
  by_cases e : j = t
  · rw [if_pos e, if_pos uR]; simp only [if_pos e.symm]
  · rw [if_neg e]; simp only [if_neg (fun e' : t = j => e e'.symm)]
    exact h5 t ht
theorem OutAt.put {w : World} {g C n : Nat} {hs : Nat → Nat × Nat} (H : OutAt w g C n hs) (i : Nat) (x : Nat × Nat) : OutAt (w.setCell ⟨g, i, none⟩ (hdr n x)) g C n (fun t => if t = i then x else hs t) := by
  obtain ⟨cur, h1, h2, h3, h4, h5⟩ := H
  refine ⟨cur.setIfInBounds i (hdr n x), blk_put h1 i _ rfl, by rw [Array.size_setIfInBounds]; exact h2, h3, h4, fun t ht => ?_⟩
  rw [Array.getElem?_setIfInBounds]
  by_cases e : i = t
  · rw [if_pos e, if_pos uR]; simp only [if_pos e.symm]
  · rw [if_neg e]; simp only [if_neg (fun e' : t = i => e e'.symm)]
    exact h5 t ht
theorem out_ne_row {w : World} {g C n : Nat} {hs : Nat → Nat × Nat} {h : Nat × Nat} {m : Nat} {r : Nat → F} (H : OutAt w g C n hs) (K : RowAt w h m r) : g ≠ h.1 := by
  obtain ⟨cur, h1, _⟩ := H
  obtain ⟨cur', h1', _⟩ := K
  intro e
  rw [e, h1'] at h1
  have := Obj.cells.inj (Option.some.inj h1)
  exact absurd this.2.1 uQ
/-- Two matrices of n rows and n columns, all rows in blocks of their own. -/
structure Two (w : World) (n : Nat) (gs Cs : Nat → Nat) (hs : Nat → Nat → Nat × Nat) (v : Nat → Nat → Nat → F) : Prop where
  out : ∀ t, t < 2 → OutAt w (gs t) (Cs t) n (hs t)
  row : ∀ t i, t < 2 → i < n → RowAt w (hs t i) n (v t i)
  apart : ∀ t i t' i', t < 2 → i < n → t' < 2 → i' < n → (hs t i).1 = (hs t' i').1 → t = t' ∧ i = i'
  gapart : gs 0 ≠ gs 1
def upd (v : Nat → Nat → Nat → F) (t i j : Nat) (x : F) : Nat → Nat → Nat → F := fun t' i' j' => if t' = t ∧ i' = i ∧ j' = j then x else v t' i' j'
variable {w w' : World} {n : Nat} {gs Cs : Nat → Nat} {hs : Nat → Nat → Nat × Nat} {v : Nat → Nat → Nat → F}
theorem Two.of_eq (H : Two w n gs Cs hs v) (e : ∀ (k : Nat) (o : Obj), w.heap[k]? = some o → w'.heap[k]? = some o) : Two w' n gs Cs hs v :=
  ⟨fun t ht => (H.out t ht).of_eq (e _), fun t i ht hi => (H.row t i ht hi).of_eq (e _), H.apart, H.gapart⟩
theorem Two.below (H : Two w n gs Cs hs v) (hb : Below w.heap.size w w') : Two w' n gs Cs hs v := H.of_eq (fun _ _ ho => blk_below ho hb)
theorem Two.drewN (H : Two w n gs Cs hs v) (m : Nat) : Two (w.drewN m) n gs Cs hs v := H.of_eq (fun _ _ ho => ho)
theorem Two.drew (H : Two w n gs Cs hs v) : Two w.drew n gs Cs hs v := H.of_eq (fun _ _ ho => ho)
theorem Two.congr {v' : Nat → Nat → Nat → F} (H : Two w n gs Cs hs v) (e : ∀ t i j, t < 2 → i < n → j < n → v t i j = v' t i j) : Two w n gs Cs hs v' :=
  ⟨H.out, fun t i ht hi => (H.row t i ht hi).congr (fun j hj => e t i j ht hi hj), H.apart, H.gapart⟩
theorem Two.far (H : Two w n gs Cs hs v) {p : Addr} (h1 : ∀ t, t < 2 → gs t ≠ p.block) (h2 : ∀ t i, t < 2 → i < n → (hs t i).1 ≠ p.block) (u : Value) : Two (w.setCell p u) n gs Cs hs v :=
  ⟨fun t ht => (H.out t ht).far (h1 t ht) u, fun t i ht hi => (H.row t i ht hi).far (h2 t i ht hi) u, H.apart, H.gapart⟩
theorem Two.put (H : Two w n gs Cs hs v) {t i : Nat} (ht : t < 2) (hi : i < n) (j : Nat) (x : F) : Two (w.setCell ⟨(hs t i).1, j, none⟩ (.int .i64 (toI x))) n gs Cs hs (upd v t i j x) := by
  refine ⟨fun t' ht' => (H.out t' ht').far (out_ne_row (H.out t' ht') (H.row t i ht hi)) _, fun t' i' ht' hi' => ?_, H.apart, H.gapart⟩
  by_cases e : t' = t ∧ i' = i
  · obtain ⟨rfl, rfl⟩ := e
    refine ((H.row t' i' ht hi).put j x).congr (fun j' _ => ?_)
    unfold upd
    by_cases e : j' = j
    · rw [if_pos e, if_pos ⟨rfl, rfl, e⟩]
    · rw [if_neg e, if_neg (fun h => e h.2.2)]
  · refine ((H.row t' i' ht' hi').far (fun h => e (H.apart t' i' t i ht' hi' ht hi h)) _).congr (fun j' _ => ?_)
    unfold upd
    rw [if_neg (fun h => e ⟨h.1, h.2.1⟩)]
end Go.Proofs.Ytaahnicjjpddjaa.Pr
/- Boxes of one kind that stay as they are, through draws, new memory and stores elsewhere. Plain; no condition. -/
namespace Go.Proofs.Ytaahnicjjpddjaa.Pr
open Go.RowKit Go.Proofs.YtaahnicjjpddjaaW.PrintWords Go.Proofs.YtaahnicjjpddjaaW.PrintLast Go.Proofs.YtaahnicjjpddjaaW.PrintMore Go.Proofs.Ytaahnicjjpddjaa.Fld
/-- every box of type 24 that stood, stands; memory has not shrunk. -/
structure Keep24 (w w' : World) : Prop where
  size : w.heap.size ≤ w'.heap.size
  box : ∀ (k : Nat) (cs : Array Value), w.heap[k]? = some (.cells cs 24 (0, 0)) → w'.heap[k]? = some (.cells cs 24 (0, 0))
theorem Keep24.refl (w : World) : Keep24 w w := ⟨Nat.le_refl _, fun _ _ h => h⟩
theorem Keep24.trans {a b c : World} (h : Keep24 a b) (h' : Keep24 b c) : Keep24 a c := ⟨Nat.le_trans h.size h'.size, fun k cs e => h'.box k cs (h.box k cs e)⟩
theorem Keep24.drew {w w' : World} (h : Keep24 w w') : Keep24 w w'.drew := ⟨h.size, h.box⟩
theorem Keep24.drewN {w w' : World} (h : Keep24 w w') (m : Nat) : Keep24 w (w'.drewN m) := ⟨h.size, h.box⟩
theorem Keep24.below {w w' w'' : World} (h : Keep24 w w') (hb : Below w'.heap.size w' w'') : Keep24 w w'' :=
  ⟨Nat.le_trans h.size hb.size, fun k cs e => blk_below (h.box k cs e) hb⟩
theorem Keep24.alloc {w w' : World} (h : Keep24 w w') (o : Obj) : Keep24 w (w'.alloc o) :=
  h.below ((Below.refl _ _).alloc (Nat.le_refl _) _)
theorem Keep24.new {w w' : World} (h : Keep24 w w') {p : Addr} (hp : w.heap.size ≤ p.block) (u : Value) : Keep24 w (w'.setCell p u) :=
  ⟨by rw [World.size_setCell]; exact h.size, fun k cs e => by
    have hk : k < w.heap.size := by
      rcases Nat.lt_or_ge k w.heap.size with hlt | hge
      · exact hlt
      · rw [Array.getElem?_eq_none hge] at e; cases e
    exact (Below.heap_setCell w' p u k uR).trans (h.box k cs e)⟩
theorem Keep24.typ {w w' : World} (h : Keep24 w w') {p : Addr} {cur : Array Value} {t : TypeId} (ho : w'.heap[p.block]? = some (.cells cur t (0, 0))) (ht : t ≠ 24) (u : Value) : Keep24 w (w'.setCell p u) :=
  ⟨by rw [World.size_setCell]; exact h.size, fun k cs e => by
    have hk : k ≠ p.block := by
      intro e'
      have h1 := h.box k cs e
      rw [e', ho] at h1
      exact ht (Obj.cells.inj (Option.some.inj h1)).2.1
    exact (Below.heap_setCell w' p u k hk).trans (h.box k cs e)⟩
theorem RowAt.blk {w : World} {hd : Nat × Nat} {n : Nat} {r : Nat → F} (H : RowAt w hd n r) : ∃ cur, w.heap[hd.1]? = some (.cells cur 3 (0, 0)) := by
  obtain ⟨cur, h1, _⟩ := H
  exact ⟨cur, h1⟩
theorem OutAt.blk {w : World} {g C n : Nat} {hs : Nat → Nat × Nat} (H : OutAt w g C n hs) : ∃ cur, w.heap[g]? = some (.cells cur 25 (0, 0)) := by
  obtain ⟨cur, h1, _⟩ := H
  exact ⟨cur, h1⟩
theorem Keep24.row {w w' : World} {b j : Nat} {u : Value} (h : Keep24 w w') (H : ∃ cur, w'.heap[b]? = some (.cells cur 3 (0, 0))) : Keep24 w (w'.setCell ⟨b, j, none⟩ u) := by
  obtain ⟨cur, h1⟩ := H
  exact h.typ (p := ⟨b, j, none⟩) h1 uQ u
end Go.Proofs.Ytaahnicjjpddjaa.Pr
/- Rows multiplied and added in place, in both matrices of a pair: the calls' walks, by hand. No condition. -/
namespace Go.Proofs.Ytaahnicjjpddjaa.Pr
open Go.RowKit Go.Proofs.YtaahnicjjpddjaaW.PrintWords Go.Proofs.YtaahnicjjpddjaaW.PrintLast Go.Proofs.YtaahnicjjpddjaaW.PrintMore Go.Proofs.Ytaahnicjjpddjaa.Fld
def pairAt (w : World) (pg n : Nat) (gs Cs : Nat → Nat) : Prop := w.heap[pg]? = some (.cells #[.slice (some ⟨gs 0, 0, none⟩) n (Cs 0), .slice (some ⟨gs 1, 0, none⟩) n (Cs 1)] 91 (0, 0))
/-- row a of both, times y, up to: whole matrices below t, places below s in matrix t. -/
def scaled (v : Nat → Nat → Nat → F) (a : Nat) (y : F) (t s : Nat) : Nat → Nat → Nat → F := fun t' i j => if i = a ∧ (t' < t ∨ (t' = t ∧ j < s)) then fm (v t' i j) y else v t' i j
end Go.Proofs.Ytaahnicjjpddjaa.Pr
/- A row, times a number, added to another one in place, in both matrices of a pair: the call's walk, by hand. No condition. -/
namespace Go.Proofs.Ytaahnicjjpddjaa.Pr
open Go.RowKit Go.Proofs.YtaahnicjjpddjaaW.PrintWords Go.Proofs.YtaahnicjjpddjaaW.PrintLast Go.Proofs.YtaahnicjjpddjaaW.PrintMore Go.Proofs.Ytaahnicjjpddjaa.Fld
/-- row b of both, row a times y added, up to: whole matrices below t, places below s in matrix t. -/
def cleared (v : Nat → Nat → Nat → F) (a b : Nat) (y : F) (t s : Nat) : Nat → Nat → Nat → F := fun t' i j => if i = b ∧ (t' < t ∨ (t' = t ∧ j < s)) then v t' i j ^^^ fm (v t' a j) y else v t' i j
end Go.Proofs.Ytaahnicjjpddjaa.Pr
/- A row brought to a place whose number is not 0, in both matrices of a pair: the call's walk, by hand. No condition. -/
namespace Go.Proofs.Ytaahnicjjpddjaa.Pr
open Go.RowKit Go.Proofs.YtaahnicjjpddjaaW.PrintWords Go.Proofs.YtaahnicjjpddjaaW.PrintLast Go.Proofs.YtaahnicjjpddjaaW.PrintMore Go.Proofs.Ytaahnicjjpddjaa.Fld
theorem OutAt.congr {w : World} {g C n : Nat} {hs hs' : Nat → Nat × Nat} (H : OutAt w g C n hs) (e : ∀ i, i < n → hs i = hs' i) : OutAt w g C n hs' := by
  obtain ⟨cur, h1, h2, h3, h4, h5⟩ := H
  exact ⟨cur, h1, h2, h3, h4, fun i hi => by rw [← e i hi]; exact h5 i hi⟩
/-- .. of all matrices below t. -/
def swaps {α : Type} (f : Nat → Nat → α) (a i t : Nat) : Nat → Nat → α := fun t' k => if t' < t then (if k = i then f t' a else if k = a then f t' i else f t' k) else f t' k
variable {w w' : World} {n : Nat} {gs Cs : Nat → Nat} {hs : Nat → Nat → Nat × Nat} {v : Nat → Nat → Nat → F}
end Go.Proofs.Ytaahnicjjpddjaa.Pr
/- A matrix of one's own as the contracts tell it, and as it stands in memory: from the one to the other. Plain; no condition. -/
namespace Go.Proofs.Ytaahnicjjpddjaa.Pr
open Go.RowKit Go.Proofs.YtaahnicjjpddjaaW.PrintWords Go.Proofs.YtaahnicjjpddjaaW.PrintLast Go.Proofs.YtaahnicjjpddjaaW.PrintMore Go.Proofs.Ytaahnicjjpddjaa.Fld Go.Proofs.Ytaahnicjjpddjaa.Mat
theorem own_slice {w : World} {base n : Nat} {e : TypeId} {v : Value} {xs : List Value} (h : w.ownsRow base e 1 v n xs) (hn : 1 ≤ n) : ∃ g cap cur, v = .slice (some ⟨g, 0, none⟩) n cap ∧ base ≤ g ∧ w.heap[g]? = some (.cells cur e (0, 0)) ∧ n ≤ cap ∧ cap ≤ maxLen ∧ cur.size = cap ∧ cur.toList.take n = xs := by
  obtain ⟨_, h⟩ := h
  rcases h with ⟨_, h2⟩ | ⟨g, cap, cur, h1, h2, h3, h4, h5, h6, h7⟩
  · omega
  · exact ⟨g, cap, cur, h1, h2, h3, h4, h5, by rw [h6, Nat.mul_one], by rw [← h7, Nat.mul_one]⟩
theorem take_get {cur : Array Value} {n i : Nat} {xs : List Value} (h : cur.toList.take n = xs) (hi : i < n) : cur[i]? = xs[i]? := by
  rw [← h, List.getElem?_take_of_lt hi, Array.getElem?_toList]
/-- a row of one's own as it stands. -/
theorem row_of_R {w : World} {base : Nat} {ok : Nat → Prop} {v : Value} {g : Nat → F} {n : Nat} (hn : 1 ≤ n) (h : Kd.R (Kd.int .i64) 3 w base ok v (rowOf (fun j => toI (g j)) n)) :
    ∃ hd : Nat × Nat, v = hdr n hd ∧ RowAt w hd n g ∧ base ≤ hd.1 ∧ ok hd.1 := by
  obtain ⟨h0, inner, ho, hr⟩ := h
  rw [rowOf_length] at ho
  obtain ⟨b, cap, cur, h1, h2, h3, h4, h5, h6, h7⟩ := own_slice ho hn
  refine ⟨(b, cap), h1, ⟨cur, h3, h6, h4, h5, fun j hj => ?_⟩, h2, h0 b (by rw [h1]; rfl)⟩
  rw [take_get h7 hj]
  have h8 := hr.2 j _ (List.getElem?_eq_getElem (by rw [rowOf_length]; exact hj))
  rw [rowOf_get] at h8
  have h9 : (inner.drop (j * 1)).take 1 = [.int .i64 (toI (g j))] := h8
  rw [Nat.mul_one] at h9
  have h10 : ((inner.drop j).take 1)[0]? = some (.int .i64 (toI (g j))) := by rw [h9]; rfl
  rw [List.getElem?_take_of_lt uR, List.getElem?_drop, Nat.add_zero] at h10
  exact h10
theorem choice_lt {α : Type} [Inhabited α] {n : Nat} {P : Nat → α → Prop} (h : ∀ i, i < n → ∃ x, P i x) : ∃ f : Nat → α, ∀ i, i < n → P i (f i) := by
  have h2 : ∀ i, ∃ x, i < n → P i x := fun i => by
    by_cases hi : i < n
    · obtain ⟨x, hx⟩ := h i hi
      exact ⟨x, fun _ => hx⟩
    · exact ⟨default, fun h => absurd h hi⟩
  exact ⟨fun i => Classical.choose (h2 i), fun i hi => Classical.choose_spec (h2 i) hi⟩
theorem own_mk {w : World} {base g C n : Nat} {e : TypeId} {cur : Array Value} (h1 : base ≤ g) (h2 : w.heap[g]? = some (.cells cur e (0, 0))) (h3 : cur.size = C) (h4 : n ≤ C) (h5 : C ≤ maxLen) : w.ownsRow base e 1 (.slice (some ⟨g, 0, none⟩) n C) n (cur.toList.take n) := by
  refine ⟨by rw [List.length_take, Array.length_toList]; omega, .inr ⟨g, C, cur, rfl, h1, h2, h4, h5, by rw [h3, Nat.mul_one], by rw [Nat.mul_one]⟩⟩
theorem take_one {cur : Array Value} {n j : Nat} {x : Value} (hj : j < n) (h : cur[j]? = some x) : ((cur.toList.take n).drop (j * 1)).take 1 = [x] := by
  rw [Nat.mul_one]
  have h1 : (cur.toList.take n)[j]? = some x := by rw [List.getElem?_take_of_lt hj, Array.getElem?_toList]; exact h
  obtain ⟨h2, h3⟩ := List.getElem?_eq_some_iff.1 h1
  rw [List.drop_eq_getElem_cons h2, List.take_succ_cons, List.take_zero, h3]
theorem R_of_row {w : World} {base : Nat} {ok : Nat → Prop} {hd : Nat × Nat} {g : Nat → F} {n : Nat} (h : RowAt w hd n g) (hb : base ≤ hd.1) (hok : ok hd.1) : Kd.R (Kd.int .i64) 3 w base ok (hdr n hd) (rowOf (fun j => toI (g j)) n) := by
  obtain ⟨cur, h1, h2, h3, h4, h5⟩ := h
  refine ⟨fun k hk => by injection hk with e; rw [← e]; exact hok, cur.toList.take n, by rw [rowOf_length]; exact own_mk hb h1 h2 h3 h4, by rw [List.length_take, Array.length_toList, rowOf_length]; show _ = n * 1; omega, fun j p hj => ?_⟩
  obtain ⟨hj1, hj2⟩ := List.getElem?_eq_some_iff.1 hj
  rw [rowOf_get] at hj2
  rw [rowOf_length] at hj1
  have h6 := take_one hj1 (h5 j hj1)
  rw [hj2] at h6
  exact h6
end Go.Proofs.Ytaahnicjjpddjaa.Pr
/- Row operations on a pair of matrices as products by matrices that have inverses; what they keep. Plain algebra; no condition. -/
namespace Go.Proofs.Ytaahnicjjpddjaa.Fld
/-- equal as n by n matrices. -/
def eqM (n : Nat) (a b : Nat → Nat → F) : Prop := ∀ i j, i < n → j < n → a i j = b i j
theorem eqM.refl (n : Nat) (a : Nat → Nat → F) : eqM n a a := fun _ _ _ _ => rfl
theorem eqM.symm {n : Nat} {a b : Nat → Nat → F} (h : eqM n a b) : eqM n b a := fun i j hi hj => (h i j hi hj).symm
theorem eqM.trans {n : Nat} {a b c : Nat → Nat → F} (h : eqM n a b) (h' : eqM n b c) : eqM n a c := fun i j hi hj => (h i j hi hj).trans (h' i j hi hj)
theorem mm_eq {n : Nat} {a a' b b' : Nat → Nat → F} (ha : eqM n a a') (hb : eqM n b b') : eqM n (mm n a b) (mm n a' b') :=
  fun i j hi hj => mm_congr n a a' b b' i j (fun k hk => ha i k hi hk) (fun k hk => hb k j hk hj)
theorem assocM (n : Nat) (a b c : Nat → Nat → F) : eqM n (mm n (mm n a b) c) (mm n a (mm n b c)) := fun i j _ _ => mm_assoc n n a b c i j
theorem deltaM (n : Nat) (a : Nat → Nat → F) : eqM n (mm n delta a) a := fun i j hi _ => delta_mm n a i j hi
theorem Mdelta (n : Nat) (a : Nat → Nat → F) : eqM n (mm n a delta) a := fun i j _ hj => mm_delta n a i j hj
/-- a row operation: a product from the left by a matrix with an inverse. -/
def rowOp (n : Nat) (f : (Nat → Nat → F) → Nat → Nat → F) : Prop := ∃ e e', eqM n (mm n e' e) delta ∧ ∀ v, eqM n (f v) (mm n e v)
theorem sum_pick (n i : Nat) (c : F) (f : Nat → F) (h : i < n) : sumF n (fun k => fm (fm c (delta i k)) (f k)) = fm c (f i) := by
  rw [← sum_delta n i f h, fm_sum]
  exact sum_congr _ _ _ (fun k _ => fm_assoc _ _ _)
/-- rows the other way round. -/
theorem op_swap (n : Nat) (s : Nat → Nat) (h1 : ∀ i, i < n → s i < n) (h2 : ∀ i, i < n → s (s i) = i) : rowOp n (fun v i j => v (s i) j) := by
  have h : ∀ v : Nat → Nat → F, eqM n (fun i j => v (s i) j) (mm n (fun i k => delta (s i) k) v) := fun v i j hi _ => (sum_delta n (s i) (fun k => v k j) (h1 i hi)).symm
  refine ⟨fun i k => delta (s i) k, fun i k => delta (s i) k, fun i j hi hj => ?_, h⟩
  rw [← h (fun i k => delta (s i) k) i j hi hj]
  show delta (s (s i)) j = delta i j
  rw [h2 i hi]
/-- rows times numbers that are not nought. -/
theorem op_scale (n : Nat) (c c' : Nat → F) (hc : ∀ i, fm (c' i) (c i) = 1#8) : rowOp n (fun v i j => fm (c i) (v i j)) := by
  have h : ∀ (c : Nat → F) (v : Nat → Nat → F), eqM n (fun i j => fm (c i) (v i j)) (mm n (fun i k => fm (c i) (delta i k)) v) := fun c v i j hi _ => (sum_pick n i (c i) (fun k => v k j) hi).symm
  refine ⟨fun i k => fm (c i) (delta i k), fun i k => fm (c' i) (delta i k), fun i j hi hj => ?_, h c⟩
  rw [← h c' (fun i k => fm (c i) (delta i k)) i j hi hj]
  show fm (c' i) (fm (c i) (delta i j)) = delta i j
  rw [← fm_assoc, hc, one_fm]
/-- one row times a number added to another one. -/
theorem op_clear (n a b : Nat) (y : F) (ha : a < n) (hab : a ≠ b) : rowOp n (fun v i j => if i = b then v i j ^^^ fm y (v a j) else v i j) := by
  have h : ∀ v : Nat → Nat → F, eqM n (fun i j => if i = b then v i j ^^^ fm y (v a j) else v i j) (mm n (fun i k => if i = b then delta i k ^^^ fm y (delta a k) else delta i k) v) := by
    intro v i j hi _
    unfold mm
    by_cases e : i = b
    · have e1 : sumF n (fun k => fm (if i = b then delta i k ^^^ fm y (delta a k) else delta i k) (v k j)) = sumF n (fun k => fm (delta i k) (v k j) ^^^ fm (fm y (delta a k)) (v k j)) := sum_congr _ _ _ (fun k _ => by rw [if_pos e, xor_fm])
      rw [e1, sum_xor, sum_delta n i _ hi, sum_pick n a y (fun k => v k j) ha]
      simp only [if_pos e]
    · have e1 : sumF n (fun k => fm (if i = b then delta i k ^^^ fm y (delta a k) else delta i k) (v k j)) = sumF n (fun k => fm (delta i k) (v k j)) := sum_congr _ _ _ (fun k _ => by rw [if_neg e])
      rw [e1, sum_delta n i _ hi]
      simp only [if_neg e]
  refine ⟨_, fun i k => if i = b then delta i k ^^^ fm y (delta a k) else delta i k, fun i j hi hj => ?_, h⟩
  rw [← h (fun i k => if i = b then delta i k ^^^ fm y (delta a k) else delta i k) i j hi hj]
  simp only [if_neg hab]
  by_cases e : i = b
  · rw [if_pos e, if_pos e, BitVec.xor_assoc, BitVec.xor_self, BitVec.xor_zero]
  · rw [if_neg e, if_neg e]
/-- what all row operations keep: the second matrix times m is the first; the second has an inverse from the left. -/
structure Kept2 (n : Nat) (m x y : Nat → Nat → F) : Prop where
  prod : eqM n (mm n y m) x
  back : ∃ u, eqM n (mm n u y) delta
theorem Kept2.op {n : Nat} {m x y : Nat → Nat → F} {f : (Nat → Nat → F) → Nat → Nat → F} (H : Kept2 n m x y) (hf : rowOp n f) : Kept2 n m (f x) (f y) := by
  obtain ⟨e, e', h1, h2⟩ := hf
  obtain ⟨u, hu⟩ := H.back
  refine ⟨?_, mm n u e', ?_⟩
  · refine (mm_eq (h2 y) (eqM.refl n m)).trans ((assocM n e y m).trans ?_)
    exact (mm_eq (eqM.refl n e) H.prod).trans (h2 x).symm
  · refine (mm_eq (eqM.refl n _) (h2 y)).trans ((assocM n u e' (mm n e y)).trans ?_)
    refine (mm_eq (eqM.refl n u) ((assocM n e' e y).symm.trans ((mm_eq h1 (eqM.refl n y)).trans (deltaM n y)))).trans hu
/-- the first matrix has become the identity: the second is the inverse, from either side. -/
theorem Kept2.done {n : Nat} {m x y : Nat → Nat → F} (H : Kept2 n m x y) (hx : eqM n x delta) : eqM n (mm n y m) delta ∧ eqM n (mm n m y) delta := by
  obtain ⟨u, hu⟩ := H.back
  have h1 := H.prod.trans hx
  have h2 : eqM n u m := by
    refine (Mdelta n u).symm.trans ((mm_eq (eqM.refl n u) h1.symm).trans ?_)
    refine (assocM n u y m).symm.trans ((mm_eq hu (eqM.refl n m)).trans (deltaM n m))
  exact ⟨h1, (mm_eq h2.symm (eqM.refl n y)).trans hu⟩
/-- the columns below c are the identity's. -/
def colsOk (n c : Nat) (x : Nat → Nat → F) : Prop := ∀ i l, i < n → l < c → x i l = delta i l
theorem delta_self (i : Nat) : delta i i = 1#8 := if_pos rfl
theorem delta_ne {i j : Nat} (h : i ≠ j) : delta i j = 0#8 := if_neg h
def sg (a i k : Nat) : Nat := if k = i then a else if k = a then i else k
theorem sg_lt {a i k n : Nat} (ha : a < n) (hi : i < n) (hk : k < n) : sg a i k < n := by
  unfold sg
  split
  · exact ha
  · split
    · exact hi
    · exact hk
theorem sg_sg (a i k : Nat) : sg a i (sg a i k) = k := by
  unfold sg
  by_cases h1 : k = i
  · rw [if_pos h1]
    by_cases h2 : a = i
    · rw [if_pos h2]; omega
    · rw [if_neg h2, if_pos rfl]; exact h1.symm
  · rw [if_neg h1]
    by_cases h2 : k = a
    · rw [if_pos h2, if_pos rfl]; exact h2.symm
    · rw [if_neg h2, if_neg h1, if_neg h2]
theorem cols_swap {n a i : Nat} {x : Nat → Nat → F} (hx : colsOk n a x) (ha : a < n) (hi : i < n) (hai : a ≤ i) : colsOk n a (fun k j => x (sg a i k) j) := by
  intro k l hk hl
  show x (sg a i k) l = delta k l
  rw [hx _ l (sg_lt ha hi hk) hl]
  unfold sg
  by_cases h1 : k = i
  · rw [if_pos h1, delta_ne uR, delta_ne uR]
  · rw [if_neg h1]
    by_cases h2 : k = a
    · rw [if_pos h2, delta_ne uR, delta_ne uR]
    · rw [if_neg h2]
theorem cols_scale {n a : Nat} {x : Nat → Nat → F} (hx : colsOk n a x) (c : Nat → F) (hc : ∀ k, k ≠ a → c k = 1#8) : colsOk n a (fun k j => fm (c k) (x k j)) := by
  intro k l hk hl
  show fm (c k) (x k l) = delta k l
  rw [hx k l hk hl]
  by_cases h : k = a
  · rw [delta_ne (show k ≠ l by omega), fm_zero]
  · rw [hc k h, one_fm]
theorem cols_clear {n a b : Nat} {x : Nat → Nat → F} (hx : colsOk n a x) (ha : a < n) (y : F) : colsOk n a (fun k j => if k = b then x k j ^^^ fm y (x a j) else x k j) := by
  intro k l hk hl
  show (if k = b then x k l ^^^ fm y (x a l) else x k l) = delta k l
  rw [hx k l hk hl, hx a l ha hl, delta_ne (show a ≠ l by omega), fm_zero, BitVec.xor_zero, ite_self]
end Go.Proofs.Ytaahnicjjpddjaa.Fld
/- The walks' forms of row operations are those of the algebra; one turn of the elimination. Plain algebra; no condition. -/
namespace Go.Proofs.Ytaahnicjjpddjaa.Pr
open Go.Proofs.Ytaahnicjjpddjaa.Fld
theorem swaps_form (v : Nat → Nat → Nat → F) (a i t : Nat) (ht : t < 2) : swaps v a i 2 t = fun k j => v t (sg a i k) j := by
  funext k j
  unfold swaps sg
  rw [if_pos ht]
  by_cases h1 : k = i
  · rw [if_pos h1, if_pos h1]
  · rw [if_neg h1, if_neg h1]
    by_cases h2 : k = a
    · rw [if_pos h2, if_pos h2]
    · rw [if_neg h2, if_neg h2]
theorem scaled_form (v : Nat → Nat → Nat → F) (a : Nat) (y : F) (t : Nat) (ht : t < 2) : scaled v a y 2 0 t = fun k j => fm (if k = a then y else 1#8) (v t k j) := by
  funext k j
  unfold scaled
  by_cases h : k = a
  · rw [if_pos ⟨h, .inl ht⟩, if_pos h, fm_comm]
  · rw [if_neg (fun e => h e.1), if_neg h, one_fm]
theorem cleared_form (v : Nat → Nat → Nat → F) (a b : Nat) (y : F) (t : Nat) (ht : t < 2) : cleared v a b y 2 0 t = fun k j => if k = b then v t k j ^^^ fm y (v t a j) else v t k j := by
  funext k j
  unfold cleared
  by_cases h : k = b
  · rw [if_pos ⟨h, .inl ht⟩, if_pos h, fm_comm]
  · rw [if_neg (fun e => h e.1), if_neg h]
/-- where the elimination stands ahead of turn c. -/
structure Stands (n : Nat) (m : Nat → Nat → F) (c : Nat) (v : Nat → Nat → Nat → F) : Prop where
  kept : Kept2 n m (v 0) (v 1)
  cols : colsOk n c (v 0)
/-- .. within turn c, the rows below b cleared. -/
structure Within (n : Nat) (m : Nat → Nat → F) (c b : Nat) (v : Nat → Nat → Nat → F) : Prop where
  kept : Kept2 n m (v 0) (v 1)
  cols : colsOk n c (v 0)
  one : v 0 c c = 1#8
  gone : ∀ i, i < b → i ≠ c → v 0 i c = 0#8
theorem Stands.turn {n : Nat} {m : Nat → Nat → F} {c i : Nat} {v : Nat → Nat → Nat → F} (H : Stands n m c v) (hc : c < n) (hi : i < n) (hci : c ≤ i) (hp : v 0 i c ≠ 0#8) :
    Within n m c 0 (scaled (swaps v c i 2) c (fi (v 0 i c)) 2 0) := by
  have e0 : swaps v c i 2 0 c c = v 0 i c := by
    rw [swaps_form v c i 0 uR]
    show v 0 (sg c i c) c = v 0 i c
    unfold sg
    by_cases h : c = i
    · rw [if_pos h, ← h]
    · rw [if_neg h, if_pos rfl]
  have hk : Kept2 n m (swaps v c i 2 0) (swaps v c i 2 1) := by
    rw [swaps_form v c i 0 uR, swaps_form v c i 1 uR]
    exact H.kept.op (op_swap n (sg c i) (fun k hk => sg_lt hc hi hk) (fun k _ => sg_sg c i k))
  have hco : colsOk n c (swaps v c i 2 0) := by
    rw [swaps_form v c i 0 uR]
    exact cols_swap H.cols hc hi hci
  refine ⟨?_, ?_, ?_, fun k hk => absurd hk uR⟩
  · rw [scaled_form _ c _ 0 uR, scaled_form _ c _ 1 uR]
    refine hk.op (op_scale n _ (fun k => if k = c then v 0 i c else 1#8) (fun k => ?_))
    by_cases h : k = c
    · rw [if_pos h, if_pos h, fm_fi _ hp]
    · rw [if_neg h, if_neg h, one_fm]
  · rw [scaled_form _ c _ 0 uR]
    exact cols_scale hco _ (fun k h => if_neg h)
  · rw [scaled_form _ c _ 0 uR]
    show fm (if c = c then fi (v 0 i c) else 1#8) (swaps v c i 2 0 c c) = 1#8
    rw [if_pos rfl, e0, fi_fm _ hp]
theorem Within.skip {n : Nat} {m : Nat → Nat → F} {c : Nat} {v : Nat → Nat → Nat → F} (H : Within n m c c v) : Within n m c (c + 1) v :=
  ⟨H.kept, H.cols, H.one, fun i hi hne => H.gone i uR hne⟩
theorem Within.clear {n : Nat} {m : Nat → Nat → F} {c b : Nat} {v : Nat → Nat → Nat → F} (H : Within n m c b v) (hc : c < n) (hbc : b ≠ c) : Within n m c (b + 1) (cleared v c b (v 0 b c) 2 0) := by
  refine ⟨?_, ?_, ?_, fun i hi hne => ?_⟩
  · rw [cleared_form _ _ _ _ 0 uR, cleared_form _ _ _ _ 1 uR]
    exact H.kept.op (op_clear n c b _ hc (Ne.symm hbc))
  · rw [cleared_form _ _ _ _ 0 uR]
    exact cols_clear H.cols hc _
  · rw [cleared_form _ _ _ _ 0 uR]
    show (if c = b then _ else v 0 c c) = 1#8
    rw [if_neg (Ne.symm hbc), H.one]
  · rw [cleared_form _ _ _ _ 0 uR]
    show (if i = b then v 0 i c ^^^ fm (v 0 b c) (v 0 c c) else v 0 i c) = 0#8
    by_cases h : i = b
    · rw [if_pos h, H.one, fm_one, h, BitVec.xor_self]
    · rw [if_neg h]; exact H.gone i uR hne
theorem Within.next {n : Nat} {m : Nat → Nat → F} {c : Nat} {v : Nat → Nat → Nat → F} (H : Within n m c n v) : Stands n m (c + 1) v := by
  refine ⟨H.kept, fun i l hi hl => ?_⟩
  by_cases h : l < c
  · exact H.cols i l hi h
  · have e : l = c := by omega
    subst e
    by_cases h2 : i = l
    · subst h2; rw [H.one, delta_self]
    · rw [H.gone i hi h2, delta_ne h2]
theorem Stands.done {n : Nat} {m : Nat → Nat → F} {v : Nat → Nat → Nat → F} (H : Stands n m n v) : eqM n (mm n (v 1) m) delta ∧ eqM n (mm n m (v 1)) delta :=
  H.kept.done (fun i j hi hj => H.cols i j hi hj)
end Go.Proofs.Ytaahnicjjpddjaa.Pr
/- The library's copy of a slice of rows: new memory of the call's own, with the same headers: the rows are shared. The slice takes fewer than 2^44 numbers (as every slice that came in does). -/
namespace Go.Proofs.Ytaahnicjjpddjaa.Fn
open Go.RowKit Go.Proofs.YtaahnicjjpddjaaW.PrintWords Go.Proofs.YtaahnicjjpddjaaW.PrintLast Go.Proofs.YtaahnicjjpddjaaW.PrintMore
set_option linter.unusedVariables false
set_option linter.unusedSimpArgs false
end Go.Proofs.Ytaahnicjjpddjaa.Fn
/- A row of rows that is read, as the headers that stand there. Plain; no condition. -/
namespace Go.Proofs.Ytaahnicjjpddjaa.Pr
open Go.RowKit Go.Proofs.YtaahnicjjpddjaaW.PrintWords Go.Proofs.YtaahnicjjpddjaaW.PrintLast Go.Proofs.YtaahnicjjpddjaaW.PrintMore
/-- an outer block with given headers. -/
def OutV (w : World) (g C n : Nat) (val : Nat → Value) : Prop :=
  ∃ cur, w.heap[g]? = some (.cells cur 25 (0, 0)) ∧ cur.size = C ∧ n ≤ C ∧ C ≤ maxLen ∧ ∀ i, i < n → cur[i]? = some (val i)
theorem OutV.of_eq {w w' : World} {g C n : Nat} {val : Nat → Value} (H : OutV w g C n val) (e : ∀ o, w.heap[g]? = some o → w'.heap[g]? = some o) : OutV w' g C n val := by
  obtain ⟨cur, h1, h2⟩ := H
  exact ⟨cur, e _ h1, h2⟩
theorem OutV.cell {w : World} {g C n : Nat} {val : Nat → Value} (H : OutV w g C n val) {i : Nat} (hi : i < n) : w.cell? ⟨g, i, none⟩ = some (val i) := by
  obtain ⟨cur, h1, h2, h3, h4, h5⟩ := H
  exact (blk_cell h1 i).trans (h5 i hi)
theorem OutV.far {w : World} {g C n : Nat} {val : Nat → Value} (H : OutV w g C n val) {p : Addr} (hp : g ≠ p.block) (u : Value) : OutV (w.setCell p u) g C n val :=
  H.of_eq (fun _ ho => (Below.heap_setCell w p u g hp).trans ho)
theorem OutV.put {w : World} {g C n : Nat} {val : Nat → Value} (H : OutV w g C n val) (i : Nat) (x : Value) : OutV (w.setCell ⟨g, i, none⟩ x) g C n (fun t => if t = i then x else val t) := by
  obtain ⟨cur, h1, h2, h3, h4, h5⟩ := H
  refine ⟨cur.setIfInBounds i x, blk_put h1 i _ rfl, by rw [Array.size_setIfInBounds]; exact h2, h3, h4, fun t ht => ?_⟩
  rw [Array.getElem?_setIfInBounds]
  by_cases e : i = t
  · rw [if_pos e, if_pos uR]; simp only [if_pos e.symm]
  · rw [if_neg e]; simp only [if_neg (fun e' : t = i => e e'.symm)]
    exact h5 t ht
theorem OutV.congr {w : World} {g C n : Nat} {val val' : Nat → Value} (H : OutV w g C n val) (e : ∀ i, i < n → val i = val' i) : OutV w g C n val' := by
  obtain ⟨cur, h1, h2, h3, h4, h5⟩ := H
  exact ⟨cur, h1, h2, h3, h4, fun i hi => by rw [← e i hi]; exact h5 i hi⟩
theorem OutV.rows {w : World} {g C n : Nat} {hs : Nat → Nat × Nat} (H : OutV w g C n (fun i => hdr n (hs i))) : OutAt w g C n hs := H
end Go.Proofs.Ytaahnicjjpddjaa.Pr
/- Invert's memory, told in two structures: while rows are copied, and while the elimination runs; what the calls in it come to over these. Plain; no condition. -/
namespace Go.Proofs.Ytaahnicjjpddjaa.Pr
open Go.RowKit Go.Proofs.YtaahnicjjpddjaaW.PrintWords Go.Proofs.YtaahnicjjpddjaaW.PrintLast Go.Proofs.YtaahnicjjpddjaaW.PrintMore Go.Proofs.Ytaahnicjjpddjaa.Fld Go.Proofs.Ytaahnicjjpddjaa.Mat Go.Proofs.Ytaahnicjjpddjaa.Fn
/-- while rows are copied: the first i rows of the outer block are the call's own. -/
structure Cpy (W0 w : World) (m : Nat → Nat → F) (f : Nat → Value) (n g2 g4 g6 gI CI gO CO : Nat) (hsI : Nat → Nat × Nat) (i : Nat) (hsO : Nat → Nat × Nat) : Prop where
  below : Below W0.heap.size W0 w
  b2 : w.heap[g2]? = some (.cells #[.slice none 0 0] 24 (0, 0))
  b4 : w.heap[g4]? = some (.cells #[.slice (some ⟨gI, 0, none⟩) n CI] 24 (0, 0))
  b6 : w.heap[g6]? = some (.cells #[.slice (some ⟨gO, 0, none⟩) n CO] 24 (0, 0))
  one : OutAt w gI CI n hsI
  oneR : ∀ k, k < n → RowAt w (hsI k) n (delta k)
  own : OutV w gO CO n (fun k => if k < i then hdr n (hsO k) else f k)
  ownR : ∀ k, k < i → RowAt w (hsO k) n (m k)
  oneA : ∀ k l, k < n → l < n → (hsI k).1 = (hsI l).1 → k = l
  ownA : ∀ k l, k < i → l < i → (hsO k).1 = (hsO l).1 → k = l
  oneN : ∀ k, k < n → W0.heap.size ≤ (hsI k).1
  ownN : ∀ k, k < i → W0.heap.size ≤ (hsO k).1
  cross : ∀ k l, k < i → l < n → (hsO k).1 ≠ (hsI l).1
  gN : W0.heap.size ≤ gO ∧ W0.heap.size ≤ gI ∧ gI ≠ gO
section
variable {W0 w w' : World} {m : Nat → Nat → F} {f : Nat → Value} {n g2 g4 g6 gI CI gO CO : Nat} {hsI : Nat → Nat × Nat} {i : Nat} {hsO : Nat → Nat × Nat}
theorem Cpy.of_eq (H : Cpy W0 w m f n g2 g4 g6 gI CI gO CO hsI i hsO) (hB : Below W0.heap.size W0 w') (e : ∀ (k : Nat) (o : Obj), w.heap[k]? = some o → w'.heap[k]? = some o) : Cpy W0 w' m f n g2 g4 g6 gI CI gO CO hsI i hsO :=
  ⟨hB, e _ _ H.b2, e _ _ H.b4, e _ _ H.b6, H.one.of_eq (e _), fun k hk => (H.oneR k hk).of_eq (e _), H.own.of_eq (e _), fun k hk => (H.ownR k hk).of_eq (e _), H.oneA, H.ownA, H.oneN, H.ownN, H.cross, H.gN⟩
theorem Cpy.below' (H : Cpy W0 w m f n g2 g4 g6 gI CI gO CO hsI i hsO) (hb : Below w.heap.size w w') : Cpy W0 w' m f n g2 g4 g6 gI CI gO CO hsI i hsO :=
  H.of_eq (below_step H.below hb) (fun _ _ ho => blk_below ho hb)
theorem Cpy.drewN (H : Cpy W0 w m f n g2 g4 g6 gI CI gO CO hsI i hsO) (x : Nat) : Cpy W0 (w.drewN x) m f n g2 g4 g6 gI CI gO CO hsI i hsO :=
  H.of_eq (pw_below_drewN H.below x) (fun _ _ ho => ho)
theorem Cpy.drew (H : Cpy W0 w m f n g2 g4 g6 gI CI gO CO hsI i hsO) : Cpy W0 w.drew m f n g2 g4 g6 gI CI gO CO hsI i hsO :=
  H.of_eq (below_drew1 H.below) (fun _ _ ho => ho)
/-- the next row. -/
theorem Cpy.step {w1 : World} {h : Nat × Nat} (H : Cpy W0 w m f n g2 g4 g6 gI CI gO CO hsI i hsO) (hb : Below w.heap.size w w1) (hr : RowAt w1 h n (m i)) (hg : w.heap.size ≤ h.1) :
    Cpy W0 (w1.setCell ⟨gO, i, none⟩ (hdr n h)) m f n g2 g4 g6 gI CI gO CO hsI (i + 1) (fun k => if k = i then h else hsO k) := by
  have H1 := H.below' hb
  obtain ⟨curO, hO, hO2⟩ := H1.own
  obtain ⟨curO', hO', _⟩ := H.own
  have hlt := blk_lt hO'
  have nbox : ∀ {g : Nat} {cs : Array Value}, w1.heap[g]? = some (.cells cs 24 (0, 0)) → g ≠ gO := fun hc => blk_ne hc hO uQ
  have nrow : ∀ {hd : Nat × Nat} {k : Nat} {r : Nat → F}, RowAt w1 hd k r → hd.1 ≠ gO := fun hc => by
    obtain ⟨c, hc, _⟩ := hc
    exact blk_ne hc hO uQ
  have old : ∀ k, k < i → (hsO k).1 < w.heap.size := fun k hk => by
    obtain ⟨c, hc, _⟩ := H.ownR k hk
    exact blk_lt hc
  have oldI : ∀ k, k < n → (hsI k).1 < w.heap.size := fun k hk => by
    obtain ⟨c, hc, _⟩ := H.oneR k hk
    exact blk_lt hc
  refine ⟨below_set H1.below H.gN.1, blk_far H1.b2 (nbox H1.b2) _, blk_far H1.b4 (nbox H1.b4) _, blk_far H1.b6 (nbox H1.b6) _, H1.one.far H.gN.2.2 _, fun k hk => (H1.oneR k hk).far (nrow (H1.oneR k hk)) _, ?_, fun k hk => ?_, H.oneA, fun k l hk hl e => ?_, H.oneN, fun k hk => ?_, fun k l hk hl => ?_, H.gN⟩
  · refine (H1.own.put i (hdr n h)).congr (fun k _ => ?_)
    by_cases e : k = i
    · simp only [if_pos e, if_pos (show k < i + 1 by omega)]
    · by_cases e2 : k < i
      · simp only [if_neg e, if_pos e2, if_pos (show k < i + 1 by omega)]
      · simp only [if_neg e, if_neg e2, if_neg (show ¬ k < i + 1 by omega)]
  · by_cases e : k = i
    · simp only [if_pos e]
      rw [e]
      exact hr.far (nrow hr) _
    · simp only [if_neg e]
      exact (H1.ownR k uR).far (nrow (H1.ownR k uR)) _
  · by_cases e1 : k = i
    · by_cases e2 : l = i
      · omega
      · simp only [if_pos e1, if_neg e2] at e
        have := old l uR
        omega
    · by_cases e2 : l = i
      · simp only [if_neg e1, if_pos e2] at e
        have := old k uR
        omega
      · simp only [if_neg e1, if_neg e2] at e
        exact H.ownA k l uR uR e
  · by_cases e1 : k = i
    · simp only [if_pos e1]
      exact Nat.le_trans (below_size H.below) hg
    · simp only [if_neg e1]
      exact H.ownN k uR
  · by_cases e1 : k = i
    · simp only [if_pos e1]
      have := oldI l hl
      omega
    · simp only [if_neg e1]
      exact H.cross k l uR hl
end
/-- while the elimination runs. -/
structure Elim (W0 w : World) (n g2 g6 pg : Nat) (gs Cs : Nat → Nat) (hs : Nat → Nat → Nat × Nat) (v : Nat → Nat → Nat → F) : Prop where
  below : Below W0.heap.size W0 w
  b2 : w.heap[g2]? = some (.cells #[.slice none 0 0] 24 (0, 0))
  b6 : w.heap[g6]? = some (.cells #[.slice (some ⟨gs 0, 0, none⟩) n (Cs 0)] 24 (0, 0))
  pair : pairAt w pg n gs Cs
  two : Two w n gs Cs hs v
  gN : ∀ t, t < 2 → W0.heap.size ≤ gs t
  rN : ∀ t i, t < 2 → i < n → W0.heap.size ≤ (hs t i).1
section
variable {W0 w w' : World} {n g2 g6 pg : Nat} {gs Cs : Nat → Nat} {hs : Nat → Nat → Nat × Nat} {v : Nat → Nat → Nat → F}
theorem Elim.of_eq (H : Elim W0 w n g2 g6 pg gs Cs hs v) (hB : Below W0.heap.size W0 w') (e : ∀ (k : Nat) (o : Obj), w.heap[k]? = some o → w'.heap[k]? = some o) : Elim W0 w' n g2 g6 pg gs Cs hs v :=
  ⟨hB, e _ _ H.b2, e _ _ H.b6, e _ _ H.pair, H.two.of_eq e, H.gN, H.rN⟩
theorem Elim.below' (H : Elim W0 w n g2 g6 pg gs Cs hs v) (hb : Below w.heap.size w w') : Elim W0 w' n g2 g6 pg gs Cs hs v :=
  H.of_eq (below_step H.below hb) (fun _ _ ho => blk_below ho hb)
theorem Elim.drewN (H : Elim W0 w n g2 g6 pg gs Cs hs v) (x : Nat) : Elim W0 (w.drewN x) n g2 g6 pg gs Cs hs v :=
  H.of_eq (pw_below_drewN H.below x) (fun _ _ ho => ho)
theorem Elim.drew (H : Elim W0 w n g2 g6 pg gs Cs hs v) : Elim W0 w.drew n g2 g6 pg gs Cs hs v :=
  H.of_eq (below_drew1 H.below) (fun _ _ ho => ho)
def gs2 (a b : Nat) : Nat → Nat := fun t => if t = 0 then a else b
def hs2 (a b : Nat → Nat × Nat) : Nat → Nat → Nat × Nat := fun t => if t = 0 then a else b
def v2 (a b : Nat → Nat → F) : Nat → Nat → Nat → F := fun t => if t = 0 then a else b
/-- the pair is made: the elimination may begin. -/
theorem Cpy.pair {m : Nat → Nat → F} {f : Nat → Value} {g4 gI CI gO CO : Nat} {hsI hsO : Nat → Nat × Nat} (H : Cpy W0 w m f n g2 g4 g6 gI CI gO CO hsI n hsO) (hb : Below w.heap.size w w')
    (hp : w'.heap[pg]? = some (.cells #[.slice (some ⟨gO, 0, none⟩) n CO, .slice (some ⟨gI, 0, none⟩) n CI] 91 (0, 0))) :
    Elim W0 w' n g2 g6 pg (gs2 gO gI) (gs2 CO CI) (hs2 hsO hsI) (v2 m delta) := by
  have H1 := H.below' hb
  have two : ∀ {t : Nat}, t < 2 → t = 0 ∨ t = 1 := fun h => by omega
  refine ⟨H1.below, H1.b2, H1.b6, hp, ⟨fun t ht => ?_, fun t i ht hi => ?_, fun t i t' i' ht hi ht' hi' e => ?_, fun e => H.gN.2.2 e.symm⟩, fun t ht => ?_, fun t i ht hi => ?_⟩
  · rcases two ht with rfl | rfl
    · have h := H1.own.congr (val' := fun k => hdr n (hsO k)) (fun k hk => by simp only [if_pos hk])
      exact h.rows
    · exact H1.one
  · rcases two ht with rfl | rfl
    · exact H1.ownR i hi
    · exact H1.oneR i hi
  · rcases two ht with rfl | rfl <;> rcases two ht' with rfl | rfl
    · exact ⟨rfl, H.ownA i i' hi hi' e⟩
    · exact absurd e (H.cross i i' hi hi')
    · exact absurd e.symm (H.cross i' i hi' hi)
    · exact ⟨rfl, H.oneA i i' hi hi' e⟩
  · rcases two ht with rfl | rfl
    · exact H.gN.1
    · exact H.gN.2.1
  · rcases two ht with rfl | rfl
    · exact H.ownN i hi
    · exact H.oneN i hi
theorem Elim.keep {hs' : Nat → Nat → Nat × Nat} {v' : Nat → Nat → Nat → F} (H : Elim W0 w n g2 g6 pg gs Cs hs v) (hB : Below W0.heap.size W0 w') (hK : Keep24 w w') (hP : pairAt w' pg n gs Cs) (hT : Two w' n gs Cs hs' v') (hR : ∀ t i, t < 2 → i < n → W0.heap.size ≤ (hs' t i).1) : Elim W0 w' n g2 g6 pg gs Cs hs' v' :=
  ⟨hB, hK.box _ _ H.b2, hK.box _ _ H.b6, hP, hT, H.gN, hR⟩
end
end Go.Proofs.Ytaahnicjjpddjaa.Pr
