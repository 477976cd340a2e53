/- A matrix of one's own, written over, of any form: the call's walk, by hand, and what stands as it stood. Plain; no condition but the size. -/
import Derived.Test.YtaahnicjjpddjaaKMatricesGRef7
namespace Go.Proofs.Ytaahnicjjpddjaa.Pr
open Go.RowKit Go.Proofs.YtaahnicjjpddjaaW.PrintWords Go.Proofs.YtaahnicjjpddjaaW.PrintLast Go.Proofs.YtaahnicjjpddjaaW.PrintMore Go.Proofs.Ytaahnicjjpddjaa.Fld Go.Proofs.Ytaahnicjjpddjaa.Mat Go.Proofs.Ytaahnicjjpddjaa.GRef
set_option linter.unusedVariables false
theorem spoilI (d : Nat) : ∀ (k : Nat) (l : List Int) (i : Nat), l.length ≤ 100 → i + d = l.length → d < k → ∃ r, ossuarylaw0_SpoilInts.l0 k l (i : Int) = some r := by
  induction d with
  | zero =>
    intro k l i hl hi hk
    obtain ⟨k, rfl⟩ : ∃ m, k = m + 1 := ⟨k - 1, uR⟩
    exact ⟨l, by simp only [ossuarylaw0_SpoilInts.l0]; rw [if_neg uR]⟩
  | succ d ih =>
    intro k l i hl hi hk
    obtain ⟨k, rfl⟩ : ∃ m, k = m + 1 := ⟨k - 1, uR⟩
    obtain ⟨r, hr⟩ := ih k (l.set i (wrap64 ((-9) - (rd l (i : Int))))) (i + 1) (by rw [List.length_set]; exact hl) (by rw [List.length_set]; omega) uR
    refine ⟨r, ?_⟩
    simp only [ossuarylaw0_SpoilInts.l0]
    rw [if_pos uR, if_pos uR, Int.toNat_natCast, succ_wrap i uR]
    exact hr
theorem spoilR {W0 w : World} {h : Nat × Nat} {n : Nat} {r : Nat → F} (hn : n ≤ 12) (hB : Below W0.heap.size W0 w) (hr : RowAt w h n r) (hN : W0.heap.size ≤ h.1) :
    Calls Try.prog 76 #[.slice (some ⟨h.1, 0, none⟩) n h.2] w fun e w' => e = .returned (.tuple #[]) ∧ Below W0.heap.size W0 w' ∧ Kept w w' (fun k => k = h.1) := by
  obtain ⟨l, hl⟩ := spoilI n 40 (rowOf (fun j => toI (r j)) n) 0 uM uM uR
  refine (ossuarylaw0_SpoilInts.calls 40 (fun k => k = h.1) _ (rowOf (fun j => toI (r j)) n) l W0 w hB (R_of_row hr hN rfl) hl).mono ?_
  rintro e w' ⟨rfl, _, hB', hK⟩
  exact ⟨rfl, hB', hK⟩
def OutM (w : World) (g n m : Nat) (hs : Nat → Nat × Nat) : Prop := ∃ cur, w.heap[g]? = some (.cells cur 25 (0, 0)) ∧ ∀ i, i < n → cur[i]? = some (hdr m (hs i))
theorem OutM.of_eq {w w' : World} {g n m : Nat} {hs : Nat → Nat × Nat} (H : OutM w g n m hs) (e : ∀ o, w.heap[g]? = some o → w'.heap[g]? = some o) : OutM w' g n m hs := by
  obtain ⟨cur, h1, h2⟩ := H
  exact ⟨cur, e _ h1, h2⟩
theorem OutM.cell {w : World} {g n m : Nat} {hs : Nat → Nat × Nat} (H : OutM w g n m hs) {i : Nat} (hi : i < n) : w.cell? ⟨g, i, none⟩ = some (hdr m (hs i)) := by
  obtain ⟨cur, h1, h2⟩ := H
  exact (blk_cell h1 i).trans (h2 i hi)
theorem outM_ne_row {w : World} {g n m c : Nat} {hs : Nat → Nat × Nat} {h : Nat × Nat} {r : Nat → F} (H : OutM w g n m hs) (K : RowAt w h c r) : g ≠ h.1 := by
  obtain ⟨cur, h1, _⟩ := H
  obtain ⟨cur', h1', _⟩ := K
  intro e
  rw [e, h1'] at h1
  have := Obj.cells.inj (Option.some.inj h1)
  exact absurd this.2.1 uQ
theorem mat_of_SN {w : World} {base : Nat} {ok : Nat → Prop} {v : Value} {a : Nat → Nat → F} {n m : Nat} (hn : 1 ≤ n) (hm : 1 ≤ m) (h : Kd.S (Kd.slice 3 (Kd.int .i64)) 25 w base ok v (fmat a n m)) :
    ∃ (g C : Nat) (hs : Nat → Nat × Nat), v = .slice (some ⟨g, 0, none⟩) n C ∧ OutM w g n m hs ∧ (∀ i, i < n → RowAt w (hs i) m (a i) ∧ base ≤ (hs i).1 ∧ ok (hs i).1) ∧ (∀ i j, i < n → j < n → (hs i).1 = (hs j).1 → i = j) := by
  obtain ⟨f, h0, inner, ho, hr⟩ := h
  rw [List.length_zipIdx, fmat_length] at ho
  obtain ⟨g, C, cur, h1, h2, h3, h4, h5, h6, h7⟩ := own_slice ho hn
  have hrow : ∀ i, i < n → ∃ hd : Nat × Nat, inner[i]? = some (hdr m hd) ∧ RowAt w hd m (a i) ∧ base ≤ hd.1 ∧ ok hd.1 ∧ f hd.1 = i := by
    intro i hi
    have h8 := hr.2 i (rowOf (fun j => toI (a i j)) m, i) (Kd.zip_at (by rw [List.getElem?_eq_getElem (by rw [fmat_length]; exact hi), fmat_get]))
    obtain ⟨v', h9, h10⟩ := h8
    obtain ⟨hd, e1, e2, e3, e4⟩ := row_of_R hm h10
    refine ⟨hd, ?_, e2, e3, e4.1.1, e4.2⟩
    have h9' : (inner.drop (i * 1)).take 1 = [v'] := h9
    rw [Nat.mul_one] at h9'
    have h11 : ((inner.drop i).take 1)[0]? = some v' := by rw [h9']; rfl
    rw [List.getElem?_take_of_lt uR, List.getElem?_drop, Nat.add_zero] at h11
    rw [h11, e1]
  obtain ⟨hs, hhs⟩ := choice_lt hrow
  refine ⟨g, C, hs, h1, ⟨cur, h3, fun i hi => by rw [take_get h7 hi]; exact (hhs i hi).1⟩, fun i hi => ⟨(hhs i hi).2.1, (hhs i hi).2.2.1, (hhs i hi).2.2.2.1⟩, fun i j hi hj e => ?_⟩
  have e1 := (hhs i hi).2.2.2.2
  have e2 := (hhs j hj).2.2.2.2
  rw [e] at e1
  omega
structure SplN (W0 w0 w : World) (n m g : Nat) (hs : Nat → Nat × Nat) (v : Nat → Nat → F) (i : Nat) : Prop where
  below : Below W0.heap.size W0 w
  out : OutM w g n m hs
  row : ∀ k, i ≤ k → k < n → RowAt w (hs k) m (v k)
  kept : Kept w0 w (fun b => ∃ k, k < n ∧ b = (hs k).1)
def SplEndN (W0 w0 : World) (S : Nat → Prop) (e : Ending) (w' : World) : Prop := e = .returned (.tuple #[]) ∧ Below W0.heap.size W0 w' ∧ Kept w0 w' S
set_option maxHeartbeats 2000000 in
set_option maxRecDepth 100000 in
theorem spoilN_calls (W0 : World) (n m g C : Nat) (hs : Nat → Nat × Nat) (v : Nat → Nat → F) (w : World) (hn : n ≤ 12) (hm : m ≤ 12) (hB : Below W0.heap.size W0 w) (hO : OutM w g n m hs)
    (hR : ∀ i, i < n → RowAt w (hs i) m (v i) ∧ W0.heap.size ≤ (hs i).1) (hA : ∀ i j, i < n → j < n → (hs i).1 = (hs j).1 → i = j) :
    Calls Try.prog 38 #[.agg #[.slice (some ⟨g, 0, none⟩) n C]] w (SplEndN W0 w (fun b => ∃ k, k < n ∧ b = (hs k).1)) := by
  have hu24 := Try.underlying24
  have HS := Aside0.mk (show SplN W0 w w n m g hs v 0 from ⟨hB, hO, fun k _ h => (hR k h).1, Kept.refl _ _⟩)
  have HN := Aside0.mk (fun i hi => (hR i hi).2 : ∀ i, i < n → W0.heap.size ≤ (hs i).1)
  have HA := Aside0.mk hA
  clear hB hO hR hA
  go_enter Try.func38, Try.ntmps38
  go_wp2_with (first
    | ((with_reducible refine gate_dst (N := 1) rfl ?_); refine box_event uT (N := 1) uT (cs := #[.slice (some ⟨g, 0, none⟩) n C]) (t := 24) uK ?_; intro gx hg w1 hbox hb;
       have n0_ := Aside0.mk (show SplN W0 w w1 n m g hs v 0 from ⟨below_step HS.out.below hb, HS.out.out.of_eq (fun _ ho => blk_below ho hb), fun k h1 h2 => (HS.out.row k h1 h2).of_eq (fun _ ho => blk_below ho hb), HS.out.kept.below hb⟩); have n1_ := Aside0.mk hbox;
       clear HS; have HS := n0_; have HBX := n1_; clear n0_ n1_ hb hbox hg))
  go_loopw [2] (fun v2 wr => ∃ i : Nat, v2 = .int .i64 i ∧ i ≤ n ∧ Aside0 (SplN W0 w wr n m g hs v i) ∧ Aside0 (wr.heap[gx]? = some (.cells #[.slice (some ⟨g, 0, none⟩) n C] 24 (0, 0)))) (fun v _ => n - (intOf v).toNat)
  case atStart => exact ⟨0, rfl, uR, HS, HBX⟩
  case round =>
    clear HS HBX
    obtain ⟨i, rfl, hin, HS, HBX⟩ := hrel
    have xb : wr.cell? ⟨gx, 0, none⟩ = some (.slice (some ⟨g, 0, none⟩) n C) := blk_cell HBX.out 0
    by_cases hlt : i < n
    · have q1 : decide ((i : Int) < (n : Int)) = true := decide_eq_true uR
      have x1 : wr.cell? ⟨g, i, none⟩ = some (.slice (some ⟨(hs i).1, 0, none⟩) m (hs i).2) := HS.out.out.cell hlt
      go_wp2_with fail
      refine (spoilR hm HS.out.below (HS.out.row i (Nat.le_refl _) hlt) (HN.out i hlt)).mono ?_
      rintro e w2 ⟨rfl, hB, hK⟩
      have n0_ := Aside0.mk (show SplN W0 w w2 n m g hs v (i + 1) from ⟨hB, HS.out.out.of_eq (fun _ ho => blk_kept ho hK (outM_ne_row HS.out.out (HS.out.row i (Nat.le_refl _) hlt))), fun k h1 h2 => (HS.out.row k uR h2).of_eq (fun _ ho => blk_kept ho hK (fun e => by have := HA.out k i h2 hlt e; omega)), HS.out.kept.then_ hK (fun k e => .inl ⟨i, hlt, e⟩)⟩)
      have n1_ := Aside0.mk (show w2.heap[gx]? = some (.cells #[.slice (some ⟨g, 0, none⟩) n C] 24 (0, 0)) from blk_kept HBX.out hK (by
        obtain ⟨cur, hc⟩ := (HS.out.row i (Nat.le_refl _) hlt).blk
        exact blk_ne HBX.out hc uQ))
      clear HS HBX xb x1 hB hK
      go_wp2
      go_roundw
      case rel => exact ⟨i + 1, by go_num, uR, n0_, n1_⟩
      case measure => simp only [intOf]; omega
    · obtain rfl : n = i := by omega
      have q1 : decide ((n : Int) < (n : Int)) = false := decide_eq_false uR
      go_wp2
      go_end0
      exact ⟨rfl, HS.out.below, HS.out.kept⟩
set_option maxHeartbeats 2000000 in
theorem spoilN_nil (W0 w : World) (A : Option Addr) (c : Nat) (S : Nat → Prop) (hB : Below W0.heap.size W0 w) : Calls Try.prog 38 #[.agg #[.slice A 0 c]] w (SplEndN W0 w S) := by
  have hu24 := Try.underlying24
  have HB := Aside0.mk hB
  clear hB
  go_enter Try.func38, Try.ntmps38
  go_wp2
  go_loopw [2] (fun v2 wr => v2 = .int .i64 0 ∧ Aside0 (Below W0.heap.size W0 wr ∧ Kept w wr S) ∧ Aside0 (wr.heap[w.heap.size]? = some (.cells #[.slice A 0 c] 24 (0, 0)))) (fun _ _ => 0)
  case atStart => exact ⟨rfl, ⟨HB.out.alloc HB.out.size _, (Kept.refl w S).alloc _⟩, ⟨blk_new _ _⟩⟩
  case round =>
    obtain ⟨rfl, HB2, HX⟩ := hrel
    have xb : wr.cell? ⟨w.heap.size, 0, none⟩ = some (.slice A 0 c) := blk_cell HX.out 0
    go_wp2
    go_end0
    exact ⟨rfl, HB2.out⟩
/-- what came back, none or a matrix of the field, may be written over. -/
def Mtx (l : List (List Int)) : Prop := l = [] ∨ ∃ (n m : Nat) (a : Nat → Nat → F), 1 ≤ n ∧ n ≤ 12 ∧ 1 ≤ m ∧ m ≤ 12 ∧ l = fmat a n m
theorem spoilS2 (W0 w : World) {l : List (List Int)} (hl : Mtx l) {base : Nat} {ok : Nat → Prop} {v : Value} (hS : Kd.S (Kd.slice 3 (Kd.int .i64)) 25 w base ok v l) (hb : W0.heap.size ≤ base) (hB : Below W0.heap.size W0 w) :
    Calls Try.prog 38 #[.agg #[v]] w (SplEndN W0 w ok) := by
  rcases hl with rfl | ⟨n, m, a, h1, h2, h3, h4, rfl⟩
  · obtain ⟨A, c, rfl⟩ := Kd.S_slice hS
    exact spoilN_nil W0 w A c ok hB
  · obtain ⟨g, C, hs, rfl, hO, hR, hA⟩ := mat_of_SN h1 h3 hS
    refine (spoilN_calls W0 n m g C hs a w h2 h4 hB hO (fun i hi => ⟨(hR i hi).1, Nat.le_trans hb (hR i hi).2.1⟩) hA).mono ?_
    rintro e w' ⟨h5, h6, h7⟩
    exact ⟨h5, h6, h7.mono (fun k hk => by obtain ⟨i, hi, rfl⟩ := hk; exact (hR i hi).2.2)⟩
end Go.Proofs.Ytaahnicjjpddjaa.Pr
