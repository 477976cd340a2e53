/- The reference's Invert: what stands where in memory; what the calls in it come to. Plain; no condition. -/
import Derived.Test.YtaahnicjjpddjaaKDecodesRefSwap
import Derived.Laws.CopyOwn
namespace Go.Proofs.Ytaahnicjjpddjaa.Pr
open Go.RowKit Go.Proofs.YtaahnicjjpddjaaW.PrintWords Go.Proofs.YtaahnicjjpddjaaW.PrintLast Go.Proofs.YtaahnicjjpddjaaW.PrintMore Go.Proofs.Ytaahnicjjpddjaa.Fld Go.Proofs.Ytaahnicjjpddjaa.Mat Go.Proofs.Ytaahnicjjpddjaa.Fn Go.Proofs.Ytaahnicjjpddjaa.GRef

/-- while the reference turns: the boxes, both matrices. -/
structure RSt (W0 w : World) (n g2 g5 g7 : Nat) (gs Cs : Nat → Nat) (hs : Nat → Nat → Nat × Nat) (v : Nat → Nat → Nat → F) : Prop where
  below : Below W0.heap.size W0 w
  b2 : w.heap[g2]? = some (.cells #[.slice none 0 0] 24 (0, 0))
  b5 : w.heap[g5]? = some (.cells #[.slice (some ⟨gs 1, 0, none⟩) n (Cs 1)] 24 (0, 0))
  b7 : w.heap[g7]? = some (.cells #[.slice (some ⟨gs 0, 0, none⟩) n (Cs 0)] 24 (0, 0))
  two : Two w n gs Cs hs v
  gN : ∀ t, t < 2 → W0.heap.size ≤ gs t
  rN : ∀ t i, t < 2 → i < n → W0.heap.size ≤ (hs t i).1
section
variable {W0 w w' : World} {n g2 g5 g7 : Nat} {gs Cs : Nat → Nat} {hs : Nat → Nat → Nat × Nat} {v : Nat → Nat → Nat → F}
theorem RSt.of_eq (H : RSt W0 w n g2 g5 g7 gs Cs hs v) (hB : Below W0.heap.size W0 w') (e : ∀ (k : Nat) (o : Obj), w.heap[k]? = some o → w'.heap[k]? = some o) : RSt W0 w' n g2 g5 g7 gs Cs hs v :=
  ⟨hB, e _ _ H.b2, e _ _ H.b5, e _ _ H.b7, H.two.of_eq e, H.gN, H.rN⟩
theorem RSt.below' (H : RSt W0 w n g2 g5 g7 gs Cs hs v) (hb : Below w.heap.size w w') : RSt W0 w' n g2 g5 g7 gs Cs hs v :=
  H.of_eq (below_step H.below hb) (fun _ _ ho => blk_below ho hb)
theorem RSt.drewN (H : RSt W0 w n g2 g5 g7 gs Cs hs v) (x : Nat) : RSt W0 (w.drewN x) n g2 g5 g7 gs Cs hs v := H.of_eq (pw_below_drewN H.below x) (fun _ _ ho => ho)
theorem RSt.drew (H : RSt W0 w n g2 g5 g7 gs Cs hs v) : RSt W0 w.drew n g2 g5 g7 gs Cs hs v := H.of_eq (below_drew1 H.below) (fun _ _ ho => ho)
theorem RSt.keep {hs' : Nat → Nat → Nat × Nat} {v' : Nat → Nat → Nat → F} (H : RSt W0 w n g2 g5 g7 gs Cs hs v) (hB : Below W0.heap.size W0 w') (hK : Keep24 w w') (hT : Two w' n gs Cs hs' v') (hR : ∀ t i, t < 2 → i < n → W0.heap.size ≤ (hs' t i).1) : RSt W0 w' n g2 g5 g7 gs Cs hs' v' :=
  ⟨hB, hK.box _ _ H.b2, hK.box _ _ H.b5, hK.box _ _ H.b7, hT, H.gN, hR⟩
theorem RSt.congr {v' : Nat → Nat → Nat → F} (H : RSt W0 w n g2 g5 g7 gs Cs hs v) (e : ∀ t i j, t < 2 → i < n → j < n → v t i j = v' t i j) : RSt W0 w n g2 g5 g7 gs Cs hs v' :=
  ⟨H.below, H.b2, H.b5, H.b7, H.two.congr e, H.gN, H.rN⟩
theorem swap1_le {b : Nat} {t0 c i : Nat} (hc : c < n) (hi : i < n) (h : ∀ t i, t < 2 → i < n → b ≤ (hs t i).1) : ∀ t k, t < 2 → k < n → b ≤ (swap1 hs t0 c i t k).1 := by
  intro t k ht hk
  rw [swap1_from]
  exact h t _ ht (from1_lt hc hi hk)
/-- an exchange. -/
theorem rst_swap (t a i : Nat) (ht : t < 2) (ha : a < n) (hi : i < n) (H : RSt W0 w n g2 g5 g7 gs Cs hs v) :
    Calls Try.prog 82 #[.agg #[.slice (some ⟨gs t, 0, none⟩) n (Cs t)], .int .i64 a, .int .i64 i] w fun e w' => e = .returned (.tuple #[]) ∧ RSt W0 w' n g2 g5 g7 gs Cs (swap1 hs t a i) (swap1 v t a i) := by
  refine (swap_calls W0 n gs Cs hs v t a i w ht ha hi H.two H.below (H.gN t ht)).mono ?_
  rintro e w' ⟨rfl, hT, hB, hK⟩
  exact ⟨rfl, H.keep hB hK hT (swap1_le ha hi H.rN)⟩
/-- a row, times a number. -/
theorem rst_times (t a : Nat) (y : F) (hn : n ≤ 12) (ht : t < 2) (ha : a < n) (H : RSt W0 w n g2 g5 g7 gs Cs hs v) :
    Calls Try.prog 84 #[.slice (some ⟨(hs t a).1, 0, none⟩) n (hs t a).2, .int .i64 (toI y)] w fun e w' => e = .returned (.tuple #[]) ∧ RSt W0 w' n g2 g5 g7 gs Cs hs (setRow v t a (fun j => fm (v t a j) y)) := by
  have hr := H.two.row t a ht ha
  refine (ossuaryref1_times.calls 40 (fun k => k = (hs t a).1) _ (rowOf (fun j => toI (v t a j)) n) (toI y) _ W0 w H.below (R_of_row hr (H.rN t a ht ha) rfl) (rtimes_f uY (v t a) y n hn)).mono ?_
  rintro e w' ⟨rfl, hR, hB, hK⟩
  exact ⟨rfl, H.keep hB (Keep24.kept (hs := hs) (t := t) (a := a) hK hr.blk) (H.two.row_kept ht ha hK hR) H.rN⟩
/-- a row, less another one times a number. -/
theorem rst_less (t a b : Nat) (y : F) (hn : n ≤ 12) (ht : t < 2) (ha : a < n) (hb : b < n) (hab : a ≠ b) (H : RSt W0 w n g2 g5 g7 gs Cs hs v) :
    Calls Try.prog 85 #[.slice (some ⟨(hs t b).1, 0, none⟩) n (hs t b).2, .slice (some ⟨(hs t a).1, 0, none⟩) n (hs t a).2, .int .i64 (toI y)] w fun e w' => e = .returned (.tuple #[]) ∧ RSt W0 w' n g2 g5 g7 gs Cs hs (setRow v t b (fun j => v t b j ^^^ fm (v t a j) y)) := by
  have hr := H.two.row t b ht hb
  have hra := H.two.row t a ht ha
  have hl := rowOf_length (fun j => toI (v t a j)) n
  have h := ossuaryref1_less.calls 40 (fun k => k = (hs t b).1) _ (rowOf (fun j => toI (v t b j)) n) (some ⟨(hs t a).1, 0, none⟩) (hs t a).2 (rowOf (fun j => toI (v t a j)) n) (toI y) _ W0 w H.below (R_of_row hr (H.rN t b ht hb) rfl)
    (fun W_ hk => by
      rw [hl]
      exact (hra.of_eq (fun _ ho => blk_kept ho hk (fun e => hab (H.two.apart t a t b ht ha ht hb e).2))).toC)
    (by rw [hl]; obtain ⟨_, _, _, h3, _⟩ := hra; exact h3) (rless_f uY (v t b) (v t a) y n hn)
  rw [hl] at h
  refine h.mono ?_
  rintro e w' ⟨rfl, hR, hB, hK⟩
  exact ⟨rfl, H.keep hB (Keep24.kept (hs := hs) (t := t) (a := b) hK hr.blk) (H.two.row_kept ht hb hK hR) H.rN⟩

/-- a row copied over another one, in place. -/
theorem setRow_two {cur : Array Value} {t a : Nat} {r : Nat → F} (ht : t < 2) (ha : a < n) (H : RSt W0 w n g2 g5 g7 gs Cs hs v) (hc : w.heap[(hs t a).1]? = some (.cells cur 3 (0, 0))) (hs' : cur.size = (hs t a).2) (hn : n ≤ cur.size) :
    RSt W0 (w.setRow (hs t a).1 (cur.toList.take 0 ++ (((List.range n).map fun j => Value.int .i64 (toI (r j))) ++ cur.toList.drop (0 + ((List.range n).map fun j => Value.int .i64 (toI (r j))).length))).toArray) n g2 g5 g7 gs Cs hs (setRow v t a r) := by
  obtain ⟨W, hW⟩ : ∃ W, W = w.setRow (hs t a).1 (cur.toList.take 0 ++ (((List.range n).map fun j => Value.int .i64 (toI (r j))) ++ cur.toList.drop (0 + ((List.range n).map fun j => Value.int .i64 (toI (r j))).length))).toArray := ⟨_, rfl⟩
  have hnew := setRow_heap w (hs t a).1 cur (cur.toList.take 0 ++ (((List.range n).map fun j => Value.int .i64 (toI (r j))) ++ cur.toList.drop (0 + ((List.range n).map fun j => Value.int .i64 (toI (r j))).length))).toArray 3 (0, 0) hc
  have hoth : ∀ k, k ≠ (hs t a).1 → W.heap[k]? = w.heap[k]? := fun k hk => by rw [hW]; exact setRow_other w _ k _ hk
  rw [← hW] at hnew ⊢
  have hB : Below W0.heap.size W0 W := by rw [hW]; exact below_setRow H.below (H.rN t a ht ha) _
  have hbox : ∀ {g : Nat} {cs : Array Value}, w.heap[g]? = some (.cells cs 24 (0, 0)) → W.heap[g]? = some (.cells cs 24 (0, 0)) := fun {g cs} h => by
    rw [hoth g (blk_ne h hc qa)]; exact h
  obtain ⟨cur0, q1, q2, q3, q4, q5⟩ := H.two.row t a ht ha
  refine ⟨hB, hbox H.b2, hbox H.b5, hbox H.b7, ⟨fun t' ht' => (H.two.out t' ht').of_eq (fun o ho => by rw [hoth _ (out_ne_row (H.two.out t' ht') (H.two.row t a ht ha))]; exact ho), fun t' i ht' hi => ?_, H.two.apart, H.two.gapart⟩, H.gN, H.rN⟩
  by_cases e : t' = t ∧ i = a
  · obtain ⟨rfl, rfl⟩ := e
    refine ⟨_, hnew, ?_, q3, q4, fun j hj => ?_⟩
    · simp only [List.size_toArray, List.length_append, List.length_take, List.length_drop, List.length_map, List.length_range, Array.length_toList]
      omega
    · have e1 : setRow v t' i r t' i j = r j := by unfold setRow; rw [if_pos ⟨rfl, rfl⟩]
      rw [e1, List.take_zero, List.nil_append, List.getElem?_toArray, List.getElem?_append_left (by simp; exact hj), List.getElem?_map, List.getElem?_range hj]
      rfl
  · refine ((H.two.row t' i ht' hi).of_eq (fun o ho => by rw [hoth _ (fun h => e (H.two.apart t' i t a ht' hi ht ha h))]; exact ho)).congr (fun j _ => ?_)
    unfold setRow
    rw [if_neg e]
end
/-- the copy of a row, as one step of a region. -/
theorem step_copy_row {P : Program} {ops : Array Oper} {o : Oper} {a : Act} {w : World} {K : Act → World → Prop} {Q : Exit → Act → World → Prop} {E : Prop} (hgd : o.guard = none) (d s : Operand) (dT sT : TypeId)
    (ho : o.op = .call { callee := .builtin .copy, args := #[d, s], argTypes := #[dT, sT] }) (elem : TypeId) (hu : P.underlying dT = some (.slice elem)) (hsz : (P.info? elem).map (·.size) = some 1)
    (g off dLen dCap : Nat) (ad : Addr) (sLen sCap : Nat) (hd : a.eval d = .slice (some ⟨g, off, none⟩) dLen dCap) (hs : a.eval s = .slice (some ad) sLen sCap)
    (cur : Array Value) (t : TypeId) (hg : w.heap[g]? = some (.cells cur t (0, 0))) (cs : List Value) (hn : cs.length = Nat.min sLen dLen)
    (hsrc : ∀ j v, cs[j]? = some v → w.cell? (ad.add j) = some v) (hfit : off + cs.length ≤ cur.size) (h1 : ∀ v ∈ cs, v.oneCell' = true)
    (h : K (a.put o.dst (goInt cs.length)) (w.setRow g (cur.toList.take off ++ (cs ++ cur.toList.drop (off + cs.length))).toArray)) :
    if Region.wanted o (yielded ops a.tmps) = true then Oper.wp P o a w K Q else E := by
  have hw : Region.wanted o (yielded ops a.tmps) = true := by simp [Region.wanted, hgd]
  rw [if_pos hw]
  have hrun := run_copy_row (P := P) w dT sT o.type elem g off dLen dCap ad sLen sCap cur t cs hu hsz hg hn hsrc hfit h1
  unfold Oper.wp
  simp [execOp, ho, resolve, invoke, builtin, hd, hs, hrun, Result.andThen]
  exact h
end Go.Proofs.Ytaahnicjjpddjaa.Pr
