/- The law of the code's matrices by hand: the call's walk, by hand. -/
import Derived.Test.YtaahnicjjpddjaaInvTwo
import Derived.Test.YtaahnicjjpddjaaGGen2
import Derived.Test.YtaahnicjjpddjaaGAwg1
namespace Go.Proofs.Ytaahnicjjpddjaa.GenW
open Go.RowKit Go.Proofs.YtaahnicjjpddjaaW.PrintWords Go.Proofs.YtaahnicjjpddjaaW.PrintLast Go.Proofs.YtaahnicjjpddjaaW.PrintMore Go.Proofs.Ytaahnicjjpddjaa.Fn
set_option linter.unusedVariables false
set_option linter.unusedSimpArgs false
theorem seen_ {P : Program} {c : Code} {Q : Exit → Act → World → Prop} {a : Act} {w : World} (F : World → Prop) (hF : F w) (h : ∀ W, F W → Code.wp P c Q a W) : Code.wp P c Q a w := h w hF
theorem below_all (w : World) (os : List Obj) : Below w.heap.size w (os.foldl World.alloc w) := by
  have h : ∀ (os : List Obj) (W : World), Below w.heap.size w W → Below w.heap.size w (os.foldl World.alloc W) := by
    intro os
    induction os with
    | nil => exact fun _ h => h
    | cons o os ih => exact fun W h => ih _ (lA h o)
  exact h os w (Below.refl _ _)
theorem put_at (w : World) (os : List Obj) (i : Nat) (h : i < os.length) : (os.foldl World.alloc w).heap[w.heap.size + i]? = some os[i] := by
  induction os generalizing w i with
  | nil => simp at h
  | cons o os ih =>
    cases i with
    | zero =>
      have hb := below_all (w.alloc o) os
      exact blk_below (blk_new w o) hb
    | succ i =>
      have := ih (w.alloc o) i (by simpa using h)
      rw [World.size_alloc] at this
      rw [show w.heap.size + (i + 1) = w.heap.size + 1 + i by omega]
      exact this
theorem seenL {P : Program} {ops : Array Oper} {Q : Exit → Act → World → Prop} {l : List Oper} {a : Act} {w : World} (F : World → Prop) (hF : F w) (h : ∀ W, F W → wpList P ops Q l a W) : wpList P ops Q l a w := h w hF
theorem seenC {P : Program} {f : FuncId} {xs : Array Value} {Q : Ending → World → Prop} {w : World} (F : World → Prop) (hF : F w) (h : ∀ W, F W → Calls P f xs W Q) : Calls P f xs w Q := h w hF
theorem C_ints {w : World} {g t : Nat} (xs : List Int) (h : w.heap[g]? = some (.cells (xs.map (Value.int .i64)).toArray t (0, 0))) (hn : xs.length ≤ 100) : Kd.C (Kd.int .i64) w (some ⟨g, 0, none⟩) xs.length xs :=
  Kd.C_of_reads (d := 0) ⟨rfl, by omega, fun _ => ⟨_, rfl, fun j hj => by
    have hc := blk_cell h j
    rw [show (Addr.add ⟨g, 0, none⟩ j) = ⟨g, j, none⟩ from (by simp [Addr.add]; try exact fun h => h.symm), hc, List.getElem?_toArray, List.getElem?_map, List.getElem?_eq_getElem hj, List.getD_eq_getElem?_getD, List.getElem?_eq_getElem hj]
    rfl⟩⟩
theorem C_rows {w : World} {g t : Nat} (rs : List (Nat × List Int)) (h : w.heap[g]? = some (.cells (rs.map fun r => Value.slice (some ⟨r.1, 0, none⟩) r.2.length r.2.length).toArray t (0, 0))) (hn : rs.length ≤ 100) (hr : ∀ r ∈ rs, Kd.C (Kd.int .i64) w (some ⟨r.1, 0, none⟩) r.2.length r.2) :
    Kd.C (Kd.slice 3 (Kd.int .i64)) w (some ⟨g, 0, none⟩) rs.length (rs.map fun r => r.2) :=
  ⟨by simp, by omega, fun _ => ⟨_, rfl, fun j p hj => by
    rw [List.getElem?_map] at hj
    obtain ⟨r, hr1, rfl⟩ := Option.map_eq_some_iff.1 hj
    refine ⟨[.slice (some ⟨r.1, 0, none⟩) r.2.length r.2.length], rfl, ⟨_, _, rfl, Nat.le_refl _, hr r (List.mem_of_getElem? hr1)⟩, fun i u hu => ?_⟩
    cases i with
    | zero =>
      obtain rfl := Option.some.inj hu
      have hc := blk_cell h j
      show w.cell? (Addr.add ⟨g, 0, none⟩ (j * 1 + 0)) = _
      rw [Nat.mul_one, Nat.add_zero, show (Addr.add ⟨g, 0, none⟩ j) = ⟨g, j, none⟩ from (by simp [Addr.add]; try exact fun h => h.symm), hc, List.getElem?_toArray, List.getElem?_map, hr1]
      rfl
    | succ i => cases hu⟩⟩
def gtab7_T : Bool × List (List Nat × List Nat) := (true, [([], []), ([0], [0]), ([1], [1]), ([2, 1], [2]), ([3], [3]), ([3], [3]), ([3], [3]), ([5, 6, 3], [3, 5, 6]), ([7, 3], [3, 7]), ([4, 8, 3, 3], [3, 4, 8]), ([3, 9], [3, 9]), ([10, 9, 0, 1, 2, 3, 4, 5, 6, 7, 8, 9, 10], [10])])
def gtab7_B : List Nat := [0, 1, 3, 7, 15, 15, 15, 111, 239, 511, 1023, 2047]
theorem gtab7_tab : rtab .any (opsOf Try.f12 7) = gtab7_T := by kernel_rfl
theorem gtab7_bits : waitsOk gtab7_T.2 gtab7_B = true := by kernel_rfl
abbrev gtab7_q0 : Array Bool := #[false, false, false, false, false, false, false, false, false, false, false, false]
abbrev gtab7_q1 : Array Bool := #[true, false, false, false, false, false, false, false, false, false, false, false]
abbrev gtab7_q2 : Array Bool := #[true, true, false, false, false, false, false, false, false, false, false, false]
abbrev gtab7_q3 : Array Bool := #[true, true, true, false, false, false, false, false, false, false, false, false]
abbrev gtab7_q4 : Array Bool := #[true, true, true, true, false, false, false, false, false, false, false, false]
abbrev gtab7_q5 : Array Bool := #[true, true, true, true, false, true, false, false, false, false, false, false]
abbrev gtab7_q6 : Array Bool := #[true, true, true, true, false, true, true, false, false, false, false, false]
abbrev gtab7_q7 : Array Bool := #[true, true, true, true, false, true, true, true, false, false, false, false]
abbrev gtab7_q8 : Array Bool := #[true, true, true, true, true, true, true, true, false, false, false, false]
abbrev gtab7_q9 : Array Bool := #[true, true, true, true, true, true, true, true, true, false, false, false]
abbrev gtab7_q10 : Array Bool := #[true, true, true, true, true, true, true, true, true, true, false, false]
abbrev gtab7_q11 : Array Bool := #[true, true, true, true, true, true, true, true, true, true, true, false]
abbrev gtab7_q12 : Array Bool := #[true, true, true, true, true, true, true, true, true, true, true, true]
def gtOs (V : World) : List Obj := [.cells #[.int .i64 1, .int .i64 0, .int .i64 1, .int .i64 2, .int .i64 2, .int .i64 0, .int .i64 2, .int .i64 2, .int .i64 3, .int .i64 1] 51 (0, 0), .cells #[.int .i64 1] 3 (0, 0), .cells #[.slice (some ⟨V.heap.size + 1, 0, none⟩) 1 1] 25 (0, 0), .cells #[.int .i64 1] 3 (0, 0), .cells #[.int .i64 1] 3 (0, 0), .cells #[.int .i64 1] 3 (0, 0), .cells #[.slice (some ⟨V.heap.size + 1 + 1 + 1, 0, none⟩) 1 1, .slice (some ⟨V.heap.size + 1 + 1 + 1 + 1, 0, none⟩) 1 1, .slice (some ⟨V.heap.size + 1 + 1 + 1 + 1 + 1, 0, none⟩) 1 1] 25 (0, 0), .cells #[.int .i64 1, .int .i64 0] 3 (0, 0), .cells #[.int .i64 0, .int .i64 1] 3 (0, 0), .cells #[.slice (some ⟨V.heap.size + 1 + 1 + 1 + 1 + 1 + 1 + 1, 0, none⟩) 2 2, .slice (some ⟨V.heap.size + 1 + 1 + 1 + 1 + 1 + 1 + 1 + 1, 0, none⟩) 2 2] 25 (0, 0), .cells #[.int .i64 1, .int .i64 0] 3 (0, 0), .cells #[.int .i64 0, .int .i64 1] 3 (0, 0), .cells #[.int .i64 3, .int .i64 2] 3 (0, 0), .cells #[.int .i64 2, .int .i64 3] 3 (0, 0), .cells #[.slice (some ⟨V.heap.size + 1 + 1 + 1 + 1 + 1 + 1 + 1 + 1 + 1 + 1, 0, none⟩) 2 2, .slice (some ⟨V.heap.size + 1 + 1 + 1 + 1 + 1 + 1 + 1 + 1 + 1 + 1 + 1, 0, none⟩) 2 2, .slice (some ⟨V.heap.size + 1 + 1 + 1 + 1 + 1 + 1 + 1 + 1 + 1 + 1 + 1 + 1, 0, none⟩) 2 2, .slice (some ⟨V.heap.size + 1 + 1 + 1 + 1 + 1 + 1 + 1 + 1 + 1 + 1 + 1 + 1 + 1, 0, none⟩) 2 2] 25 (0, 0), .cells #[.int .i64 1, .int .i64 0, .int .i64 0] 3 (0, 0), .cells #[.int .i64 0, .int .i64 1, .int .i64 0] 3 (0, 0), .cells #[.int .i64 0, .int .i64 0, .int .i64 1] 3 (0, 0), .cells #[.int .i64 1, .int .i64 1, .int .i64 1] 3 (0, 0), .cells #[.slice (some ⟨V.heap.size + 1 + 1 + 1 + 1 + 1 + 1 + 1 + 1 + 1 + 1 + 1 + 1 + 1 + 1 + 1, 0, none⟩) 3 3, .slice (some ⟨V.heap.size + 1 + 1 + 1 + 1 + 1 + 1 + 1 + 1 + 1 + 1 + 1 + 1 + 1 + 1 + 1 + 1, 0, none⟩) 3 3, .slice (some ⟨V.heap.size + 1 + 1 + 1 + 1 + 1 + 1 + 1 + 1 + 1 + 1 + 1 + 1 + 1 + 1 + 1 + 1 + 1, 0, none⟩) 3 3, .slice (some ⟨V.heap.size + 1 + 1 + 1 + 1 + 1 + 1 + 1 + 1 + 1 + 1 + 1 + 1 + 1 + 1 + 1 + 1 + 1 + 1, 0, none⟩) 3 3] 25 (0, 0), .cells #[.slice (some ⟨V.heap.size + 1 + 1, 0, none⟩) 1 1, .slice (some ⟨V.heap.size + 1 + 1 + 1 + 1 + 1 + 1, 0, none⟩) 3 3, .slice (some ⟨V.heap.size + 1 + 1 + 1 + 1 + 1 + 1 + 1 + 1 + 1, 0, none⟩) 2 2, .slice (some ⟨V.heap.size + 1 + 1 + 1 + 1 + 1 + 1 + 1 + 1 + 1 + 1 + 1 + 1 + 1 + 1, 0, none⟩) 4 4, .slice (some ⟨V.heap.size + 1 + 1 + 1 + 1 + 1 + 1 + 1 + 1 + 1 + 1 + 1 + 1 + 1 + 1 + 1 + 1 + 1 + 1 + 1, 0, none⟩) 4 4] 24 (0, 0)]
def gtF (V W : World) : Prop := Below V.heap.size V W ∧ W.heap[V.heap.size]? = some (.cells #[.int .i64 1, .int .i64 0, .int .i64 1, .int .i64 2, .int .i64 2, .int .i64 0, .int .i64 2, .int .i64 2, .int .i64 3, .int .i64 1] 51 (0, 0)) ∧ W.heap[V.heap.size + 1]? = some (.cells #[.int .i64 1] 3 (0, 0)) ∧ W.heap[V.heap.size + 1 + 1]? = some (.cells #[.slice (some ⟨V.heap.size + 1, 0, none⟩) 1 1] 25 (0, 0)) ∧ W.heap[V.heap.size + 1 + 1 + 1]? = some (.cells #[.int .i64 1] 3 (0, 0)) ∧ W.heap[V.heap.size + 1 + 1 + 1 + 1]? = some (.cells #[.int .i64 1] 3 (0, 0)) ∧ W.heap[V.heap.size + 1 + 1 + 1 + 1 + 1]? = some (.cells #[.int .i64 1] 3 (0, 0)) ∧ W.heap[V.heap.size + 1 + 1 + 1 + 1 + 1 + 1]? = some (.cells #[.slice (some ⟨V.heap.size + 1 + 1 + 1, 0, none⟩) 1 1, .slice (some ⟨V.heap.size + 1 + 1 + 1 + 1, 0, none⟩) 1 1, .slice (some ⟨V.heap.size + 1 + 1 + 1 + 1 + 1, 0, none⟩) 1 1] 25 (0, 0)) ∧ W.heap[V.heap.size + 1 + 1 + 1 + 1 + 1 + 1 + 1]? = some (.cells #[.int .i64 1, .int .i64 0] 3 (0, 0)) ∧ W.heap[V.heap.size + 1 + 1 + 1 + 1 + 1 + 1 + 1 + 1]? = some (.cells #[.int .i64 0, .int .i64 1] 3 (0, 0)) ∧ W.heap[V.heap.size + 1 + 1 + 1 + 1 + 1 + 1 + 1 + 1 + 1]? = some (.cells #[.slice (some ⟨V.heap.size + 1 + 1 + 1 + 1 + 1 + 1 + 1, 0, none⟩) 2 2, .slice (some ⟨V.heap.size + 1 + 1 + 1 + 1 + 1 + 1 + 1 + 1, 0, none⟩) 2 2] 25 (0, 0)) ∧ W.heap[V.heap.size + 1 + 1 + 1 + 1 + 1 + 1 + 1 + 1 + 1 + 1]? = some (.cells #[.int .i64 1, .int .i64 0] 3 (0, 0)) ∧ W.heap[V.heap.size + 1 + 1 + 1 + 1 + 1 + 1 + 1 + 1 + 1 + 1 + 1]? = some (.cells #[.int .i64 0, .int .i64 1] 3 (0, 0)) ∧ W.heap[V.heap.size + 1 + 1 + 1 + 1 + 1 + 1 + 1 + 1 + 1 + 1 + 1 + 1]? = some (.cells #[.int .i64 3, .int .i64 2] 3 (0, 0)) ∧ W.heap[V.heap.size + 1 + 1 + 1 + 1 + 1 + 1 + 1 + 1 + 1 + 1 + 1 + 1 + 1]? = some (.cells #[.int .i64 2, .int .i64 3] 3 (0, 0)) ∧ W.heap[V.heap.size + 1 + 1 + 1 + 1 + 1 + 1 + 1 + 1 + 1 + 1 + 1 + 1 + 1 + 1]? = some (.cells #[.slice (some ⟨V.heap.size + 1 + 1 + 1 + 1 + 1 + 1 + 1 + 1 + 1 + 1, 0, none⟩) 2 2, .slice (some ⟨V.heap.size + 1 + 1 + 1 + 1 + 1 + 1 + 1 + 1 + 1 + 1 + 1, 0, none⟩) 2 2, .slice (some ⟨V.heap.size + 1 + 1 + 1 + 1 + 1 + 1 + 1 + 1 + 1 + 1 + 1 + 1, 0, none⟩) 2 2, .slice (some ⟨V.heap.size + 1 + 1 + 1 + 1 + 1 + 1 + 1 + 1 + 1 + 1 + 1 + 1 + 1, 0, none⟩) 2 2] 25 (0, 0)) ∧ W.heap[V.heap.size + 1 + 1 + 1 + 1 + 1 + 1 + 1 + 1 + 1 + 1 + 1 + 1 + 1 + 1 + 1]? = some (.cells #[.int .i64 1, .int .i64 0, .int .i64 0] 3 (0, 0)) ∧ W.heap[V.heap.size + 1 + 1 + 1 + 1 + 1 + 1 + 1 + 1 + 1 + 1 + 1 + 1 + 1 + 1 + 1 + 1]? = some (.cells #[.int .i64 0, .int .i64 1, .int .i64 0] 3 (0, 0)) ∧ W.heap[V.heap.size + 1 + 1 + 1 + 1 + 1 + 1 + 1 + 1 + 1 + 1 + 1 + 1 + 1 + 1 + 1 + 1 + 1]? = some (.cells #[.int .i64 0, .int .i64 0, .int .i64 1] 3 (0, 0)) ∧ W.heap[V.heap.size + 1 + 1 + 1 + 1 + 1 + 1 + 1 + 1 + 1 + 1 + 1 + 1 + 1 + 1 + 1 + 1 + 1 + 1]? = some (.cells #[.int .i64 1, .int .i64 1, .int .i64 1] 3 (0, 0)) ∧ W.heap[V.heap.size + 1 + 1 + 1 + 1 + 1 + 1 + 1 + 1 + 1 + 1 + 1 + 1 + 1 + 1 + 1 + 1 + 1 + 1 + 1]? = some (.cells #[.slice (some ⟨V.heap.size + 1 + 1 + 1 + 1 + 1 + 1 + 1 + 1 + 1 + 1 + 1 + 1 + 1 + 1 + 1, 0, none⟩) 3 3, .slice (some ⟨V.heap.size + 1 + 1 + 1 + 1 + 1 + 1 + 1 + 1 + 1 + 1 + 1 + 1 + 1 + 1 + 1 + 1, 0, none⟩) 3 3, .slice (some ⟨V.heap.size + 1 + 1 + 1 + 1 + 1 + 1 + 1 + 1 + 1 + 1 + 1 + 1 + 1 + 1 + 1 + 1 + 1, 0, none⟩) 3 3, .slice (some ⟨V.heap.size + 1 + 1 + 1 + 1 + 1 + 1 + 1 + 1 + 1 + 1 + 1 + 1 + 1 + 1 + 1 + 1 + 1 + 1, 0, none⟩) 3 3] 25 (0, 0)) ∧ W.heap[V.heap.size + 1 + 1 + 1 + 1 + 1 + 1 + 1 + 1 + 1 + 1 + 1 + 1 + 1 + 1 + 1 + 1 + 1 + 1 + 1 + 1]? = some (.cells #[.slice (some ⟨V.heap.size + 1 + 1, 0, none⟩) 1 1, .slice (some ⟨V.heap.size + 1 + 1 + 1 + 1 + 1 + 1, 0, none⟩) 3 3, .slice (some ⟨V.heap.size + 1 + 1 + 1 + 1 + 1 + 1 + 1 + 1 + 1, 0, none⟩) 2 2, .slice (some ⟨V.heap.size + 1 + 1 + 1 + 1 + 1 + 1 + 1 + 1 + 1 + 1 + 1 + 1 + 1 + 1, 0, none⟩) 4 4, .slice (some ⟨V.heap.size + 1 + 1 + 1 + 1 + 1 + 1 + 1 + 1 + 1 + 1 + 1 + 1 + 1 + 1 + 1 + 1 + 1 + 1 + 1, 0, none⟩) 4 4] 24 (0, 0))
theorem gt_seen (V : World) : gtF V ((gtOs V).foldl World.alloc V) :=
  ⟨below_all V (gtOs V), put_at V (gtOs V) 0 (by show 0 < 21; decide), put_at V (gtOs V) 1 (by show 1 < 21; decide), put_at V (gtOs V) 2 (by show 2 < 21; decide), put_at V (gtOs V) 3 (by show 3 < 21; decide), put_at V (gtOs V) 4 (by show 4 < 21; decide), put_at V (gtOs V) 5 (by show 5 < 21; decide), put_at V (gtOs V) 6 (by show 6 < 21; decide), put_at V (gtOs V) 7 (by show 7 < 21; decide), put_at V (gtOs V) 8 (by show 8 < 21; decide), put_at V (gtOs V) 9 (by show 9 < 21; decide), put_at V (gtOs V) 10 (by show 10 < 21; decide), put_at V (gtOs V) 11 (by show 11 < 21; decide), put_at V (gtOs V) 12 (by show 12 < 21; decide), put_at V (gtOs V) 13 (by show 13 < 21; decide), put_at V (gtOs V) 14 (by show 14 < 21; decide), put_at V (gtOs V) 15 (by show 15 < 21; decide), put_at V (gtOs V) 16 (by show 16 < 21; decide), put_at V (gtOs V) 17 (by show 17 < 21; decide), put_at V (gtOs V) 18 (by show 18 < 21; decide), put_at V (gtOs V) 19 (by show 19 < 21; decide), put_at V (gtOs V) 20 (by show 20 < 21; decide)⟩
set_option maxHeartbeats 2000000 in
set_option maxRecDepth 100000 in
theorem gtab0 (k : Nat) (a0 : Int) (w : World) (h5 : GAwg.ossuarylaw5_awake.f k = some true) (hk : wrap64 (Int.tmod (IntKind.u64.wrap a0) 5) = 0) (e1 : GGen.gen_Matrix.f k 1 0 = some ([[1]], 0)) (e2 : GBase.ossuarylaw0_SameMatrix.f k [[1]] [[1]] = some true) :
    Calls Try.prog 12 #[.int .i64 a0] w fun e w' => e = .returned (.bool true) ∧ Below w.heap.size w w' := by
  have hu24 := Try.underlying24
  have hu51 := Try.underlying51
  have A5 := mk0 h5
  have E1 := mk0 e1
  have E2 := mk0 e2
  have HB := mk0 (Below.refl w.heap.size w)
  clear h5 e1 e2
  go_enter Try.func12, Try.ntmps12
  have hkw : IntKind.i64.wrap (Int.tmod (IntKind.u64.wrap a0) 5) = 0 := (i64_w _).trans hk
  go_wp2_with (first
    | ((with_reducible refine gCa (f := 47) rfl ?_); refine goesL_ (some 8) rfl rfl Try.func47 (by kernel_rfl) rfl #[] rfl (by (try simp only [List.map_toArray, List.map_nil]); first | done | rfl) ?_; (with_reducible refine (GAwg.ossuarylaw5_awake.calls k true _ A5.out).mono ?_); rintro e V ⟨rfl, hb⟩; refine ⟨_, rfl, ?_⟩; have n0_ := mk0 (below_step HB.out hb); clear HB; have HB := n0_; clear n0_ hb))
  refine seenC (gtF V) (gt_seen V) (fun W hW => ?_)
  unfold gtF at hW
  obtain ⟨hBW, o0, o1, o2, o3, o4, o5, o6, o7, o8, o9, o10, o11, o12, o13, o14, o15, o16, o17, o18, o19, o20⟩ := hW
  have OX := mk0 o20
  have HMt : Aside0 (Kd.C (Kd.slice 3 (Kd.int .i64)) W (some ⟨V.heap.size + 1 + 1, 0, none⟩) 1 [[1]]) := mk0 (C_rows [(V.heap.size + 1, [1])] o2 (by show 1 ≤ 100; decide) (List.forall_mem_cons.2 ⟨C_ints [1] o1 (by decide), fun _ h_ => nomatch h_⟩))
  have n0_ := mk0 (below_step HB.out hBW)
  clear HB o0 o1 o2 o3 o4 o5 o6 o7 o8 o9 o10 o11 o12 o13 o14 o15 o16 o17 o18 o19 o20 hBW
  have HB := n0_
  clear n0_
  refine (GGen.gen_Matrix.calls k 1 0 [[1]] 0 _ E1.out).mono ?_
  rintro e w5 ⟨vm, rfl, hS, hb⟩
  obtain ⟨Am, cm, rfl⟩ := Kd.S_slice hS
  have SM := mk0 hS
  have HD := mk0 hb
  clear hS hb
  go_wp2_with (first
    | ((with_reducible refine gate_dst (N := 6) rfl ?_); refine box_event ?hg (N := 6) ?hd (cs := #[.slice none 0 0]) (t := 24) ?hr ?_; (case hd => rfl); (case hg => rfl); (case hr => first | (go_simp; done) | (go_simp; rfl)); intro gm hg w6 hbox hb; have BKN := mk0 hbox; have GN := mk0 (Nat.le_trans (below_size HD.out) (Nat.le_of_eq hg.symm)); have n0_ := mk0 (below_step HD.out hb); have n1_ := mk0 (Kd.S_below SM.out hb); clear HD SM; have HD := n0_; have SM := n1_; clear n0_ n1_; have hzn : w6.cell? ⟨gm, 0, none⟩ = some (.slice none 0 0) := (blk_cell BKN.out 0).trans rfl; have hfn := blk_frozen BKN.out 0; clear hb hbox hg))
  have BKM := mk0 (blk_set BKN.out 0 (.slice Am (List.length [[1]]) cm))
  replace HD := mk0 (lT HD.out GN (j := 0) (v := (.slice Am (List.length [[1]]) cm)))
  replace SM := mk0 (Kd.S_mono (Kd.S_far (p := ⟨gm, 0, none⟩) (Kd.S_types SM.out BKN.out (by decide)) (fun _ hk => hk.2) (.slice Am (List.length [[1]]) cm)) (fun _ h_ => h_.1))
  clear BKN GN hzn hfn
  generalize w6.setCell ⟨gm, 0, none⟩ (.slice Am (List.length [[1]]) cm) = X at BKM HD SM ⊢
  replace OX := mk0 (blk_below OX.out HD.out)
  refine start_ (n := 12) (S := fun w' => w'.cell? ⟨gm, 0, none⟩ = some (.slice Am (List.length [[1]]) cm) ∧ w'.cell? ⟨V.heap.size + 1 + 1 + 1 + 1 + 1 + 1 + 1 + 1 + 1 + 1 + 1 + 1 + 1 + 1 + 1 + 1 + 1 + 1 + 1 + 1, 0, none⟩ = some (.slice (some ⟨V.heap.size + 1 + 1, 0, none⟩) 1 1)) (ds := []) gtab7_q0 (by kernel_rfl) rfl rfl ⟨(blk_cell BKM.out 0).trans rfl, (blk_cell OX.out 0).trans rfl⟩ (fun hHeld => ?_); refine with_tabW gtab7_tab gtab7_bits (fun HT_ HW_ => ?_)
  replace BKM := mk0 (bD BKM.out)
  replace OX := mk0 (bD OX.out)
  replace HD := mk0 (lD HD.out)
  replace SM := mk0 (sD SM.out)
  generalize X.drew = Y at BKM OX HD SM hHeld ⊢
  refine pure_ (i := 0) (N := some 53) (v := ?_) (a' := ?_) gtab7_q1 rfl rfl (any_of HT_.out (by kernel_rfl)) (fun _ _ _ h => h) (Or.inl ⟨by rfl, ?_⟩) ?_ ?_
  rotate_left
  · intro w'
    go_simp
    with_reducible rfl
  rotate_left
  · simp only [Act.put, List.setIfInBounds_toArray, List.set_cons_zero, List.set_cons_succ, i64_w]
    rfl
  refine one_ (i := 1) (N := some 54) gtab7_q2 rfl rfl (one_of HT_.out (by kernel_rfl)) (by decide) (fun K hK => ?_)
  refine goes_ Try.func35 (by kernel_rfl) rfl #[.int .i64 0] (by rfl) rfl rfl (by (try simp only [List.map_toArray, List.map_cons, List.map_nil]); first | done | rfl) ?_
  with_reducible refine (GBase.ossuarylaw0_Num.calls 0 0 _ rfl).mono ?_
  rintro e w' ⟨rfl, ⟨nd, rfl⟩⟩
  refine ⟨_, rfl, ?_⟩
  replace BKM := mk0 (bN BKM.out nd)
  replace OX := mk0 (bN OX.out nd)
  replace HD := mk0 (lN HD.out nd)
  replace SM := mk0 (sN SM.out nd)
  generalize Y.drewN nd = Z at BKM OX HD SM ⊢
  clear hHeld
  refine hK.out _ _ ⟨(blk_cell BKM.out 0).trans rfl, (blk_cell OX.out 0).trans rfl⟩ (fun hHeld => ?_)
  clear hK K
  refine norm_ (a' := ?_) ?_ ?_
  rotate_left
  · show Act.put _ (some 54) _ = _
    simp only [Act.put, List.setIfInBounds_toArray, List.set_cons_zero, List.set_cons_succ, i64_w]
    rfl
  refine pure_ (i := 2) (N := some 55) (v := ?_) (a' := ?_) gtab7_q3 rfl rfl (any_of HT_.out (by kernel_rfl)) (fun _ _ _ h => h) (Or.inl ⟨by rfl, ?_⟩) ?_ ?_
  rotate_left
  · intro w'
    go_simp
    with_reducible rfl
  rotate_left
  · simp only [Act.put, List.setIfInBounds_toArray, List.set_cons_zero, List.set_cons_succ, i64_w]
    rfl
  refine pure_ (i := 3) (N := some 56) (v := ?_) (a' := ?_) gtab7_q4 rfl rfl (any_of HT_.out (by kernel_rfl)) (fun _ _ _ h => h) (Or.inl ⟨by rfl, ?_⟩) ?_ ?_
  rotate_left
  · intro w'
    go_simp
    with_reducible rfl
  rotate_left
  · simp only [Act.put, List.setIfInBounds_toArray, List.set_cons_zero, List.set_cons_succ, i64_w]
    rfl
  refine pure_ (i := 5) (N := some 58) (v := ?_) (a' := ?_) gtab7_q5 rfl rfl (any_of HT_.out (by kernel_rfl)) (fun _ _ _ h => h) (Or.inl ⟨by rfl, ?_⟩) ?_ ?_
  rotate_left
  · intro w'
    go_simp
    with_reducible rfl
  rotate_left
  · simp only [Act.put, List.setIfInBounds_toArray, List.set_cons_zero, List.set_cons_succ, i64_w]
    rfl
  refine pure_ (i := 6) (N := some 59) (v := ?_) (a' := ?_) gtab7_q6 rfl rfl (any_of HT_.out (by kernel_rfl)) (fun _ _ _ h => h) (Or.inl ⟨by rfl, ?_⟩) ?_ ?_
  rotate_left
  · intro w'
    go_simp
    with_reducible rfl
  rotate_left
  · simp only [Act.put, List.setIfInBounds_toArray, List.set_cons_zero, List.set_cons_succ, i64_w]
    rfl
  refine pure_ (i := 7) (N := some 60) (v := ?_) (a' := ?_) gtab7_q7 rfl rfl (any_of HT_.out (by kernel_rfl)) (fun _ _ _ h => h) (Or.inl ⟨by rfl, ?_⟩) ?_ ?_
  rotate_left
  · intro w'
    go_simp
    with_reducible rfl
  rotate_left
  · simp only [Act.put, List.setIfInBounds_toArray, List.set_cons_zero, List.set_cons_succ, i64_w]
    rfl
  refine take_ (i := 4) (N := some 57) (v := ?_) (a' := ?_) gtab7_q8 rfl rfl (take_ofW HT_.out HW_.out (by kernel_rfl)) (fun _ _ _ h => h) (Or.inl ⟨by rfl, ?_⟩) hHeld ?_ ?_
  rotate_left
  · rintro w' ⟨s0, s1⟩
    go_simp
    with_reducible rfl
  rotate_left
  · simp only [Act.put, List.setIfInBounds_toArray, List.set_cons_zero, List.set_cons_succ, i64_w]
    rfl
  refine take_ (i := 8) (N := some 61) (v := ?_) (a' := ?_) gtab7_q9 rfl rfl (take_ofW HT_.out HW_.out (by kernel_rfl)) (fun _ _ _ h => h) (Or.inl ⟨by rfl, ?_⟩) hHeld ?_ ?_
  rotate_left
  · rintro w' ⟨s0, s1⟩
    go_simp
    with_reducible rfl
  rotate_left
  · simp only [Act.put, List.setIfInBounds_toArray, List.set_cons_zero, List.set_cons_succ, i64_w]
    rfl
  refine one_ (i := 9) (N := some 62) gtab7_q10 rfl rfl (one_of HT_.out (by kernel_rfl)) (by decide) (fun K hK => ?_)
  refine goes_ Try.func34 (by kernel_rfl) rfl #[.agg #[.slice Am (List.length [[1]]) cm], .agg #[.slice (some ⟨V.heap.size + 1 + 1, 0, none⟩) 1 1]] (by rfl) rfl rfl (by (try simp only [List.map_toArray, List.map_cons, List.map_nil]); first | done | rfl) ?_
  refine (GBase.ossuarylaw0_SameMatrix.calls k _ _ [[1]] _ _ [[1]] true _ (Kd.S_reads' SM.out).2.2 (Kd.S_reads' SM.out).2.1 (Kd.C_below HMt.out HD.out) (Nat.le_refl _) E2.out).mono ?_
  rintro e Z2 ⟨rfl, hb⟩
  refine ⟨_, rfl, ?_⟩
  replace BKM := mk0 (blk_below BKM.out hb)
  replace OX := mk0 (blk_below OX.out hb)
  replace HD := mk0 (below_step HD.out hb)
  clear hHeld hb SM
  refine hK.out _ _ ⟨(blk_cell BKM.out 0).trans rfl, (blk_cell OX.out 0).trans rfl⟩ (fun hHeld => ?_)
  clear hK K
  refine norm_ (a' := ?_) ?_ ?_
  rotate_left
  · show Act.put _ (some 62) _ = _
    simp only [Act.put, List.setIfInBounds_toArray, List.set_cons_zero, List.set_cons_succ, i64_w]
    rfl
  refine pure_ (i := 10) (N := some 63) (v := ?_) (a' := ?_) gtab7_q11 rfl rfl (any_of HT_.out (by kernel_rfl)) (fun _ _ _ h => h) (Or.inl ⟨by rfl, ?_⟩) ?_ ?_
  rotate_left
  · intro w'
    go_simp
    with_reducible rfl
  rotate_left
  · simp only [Act.put, List.setIfInBounds_toArray, List.set_cons_zero, List.set_cons_succ, i64_w]
    rfl
  refine pure_ (i := 11) (N := some 2) (v := ?_) (a' := ?_) gtab7_q12 rfl rfl (any_of HT_.out (by kernel_rfl)) (fun _ _ _ h => h) (Or.inl ⟨by rfl, ?_⟩) ?_ ?_
  rotate_left
  · intro w'
    go_simp
    with_reducible rfl
  rotate_left
  · simp only [Act.put, List.setIfInBounds_toArray, List.set_cons_zero, List.set_cons_succ, i64_w]
    rfl
  refine done_ (done_of HT_.out (by kernel_rfl)) ?_
  clear HT_ HW_
  try go_wp2
  go_ret
  exact ⟨rfl, by repeat (first | exact below_step HB.out HD.out | apply lN | apply lA | apply lD)⟩
set_option maxHeartbeats 2000000 in
set_option maxRecDepth 100000 in
theorem gtab1 (k : Nat) (a0 : Int) (w : World) (h5 : GAwg.ossuarylaw5_awake.f k = some true) (hk : wrap64 (Int.tmod (IntKind.u64.wrap a0) 5) = 1) (e1 : GGen.gen_Matrix.f k 1 2 = some ([[1], [1], [1]], 0)) (e2 : GBase.ossuarylaw0_SameMatrix.f k [[1], [1], [1]] [[1], [1], [1]] = some true) :
    Calls Try.prog 12 #[.int .i64 a0] w fun e w' => e = .returned (.bool true) ∧ Below w.heap.size w w' := by
  have hu24 := Try.underlying24
  have hu51 := Try.underlying51
  have A5 := mk0 h5
  have E1 := mk0 e1
  have E2 := mk0 e2
  have HB := mk0 (Below.refl w.heap.size w)
  clear h5 e1 e2
  go_enter Try.func12, Try.ntmps12
  have hkw : IntKind.i64.wrap (Int.tmod (IntKind.u64.wrap a0) 5) = 1 := (i64_w _).trans hk
  go_wp2_with (first
    | ((with_reducible refine gCa (f := 47) rfl ?_); refine goesL_ (some 8) rfl rfl Try.func47 (by kernel_rfl) rfl #[] rfl (by (try simp only [List.map_toArray, List.map_nil]); first | done | rfl) ?_; (with_reducible refine (GAwg.ossuarylaw5_awake.calls k true _ A5.out).mono ?_); rintro e V ⟨rfl, hb⟩; refine ⟨_, rfl, ?_⟩; have n0_ := mk0 (below_step HB.out hb); clear HB; have HB := n0_; clear n0_ hb))
  refine seenC (gtF V) (gt_seen V) (fun W hW => ?_)
  unfold gtF at hW
  obtain ⟨hBW, o0, o1, o2, o3, o4, o5, o6, o7, o8, o9, o10, o11, o12, o13, o14, o15, o16, o17, o18, o19, o20⟩ := hW
  have OX := mk0 o20
  have HMt : Aside0 (Kd.C (Kd.slice 3 (Kd.int .i64)) W (some ⟨V.heap.size + 1 + 1 + 1 + 1 + 1 + 1, 0, none⟩) 3 [[1], [1], [1]]) := mk0 (C_rows [(V.heap.size + 1 + 1 + 1, [1]), (V.heap.size + 1 + 1 + 1 + 1, [1]), (V.heap.size + 1 + 1 + 1 + 1 + 1, [1])] o6 (by show 3 ≤ 100; decide) (List.forall_mem_cons.2 ⟨C_ints [1] o3 (by decide), List.forall_mem_cons.2 ⟨C_ints [1] o4 (by decide), List.forall_mem_cons.2 ⟨C_ints [1] o5 (by decide), fun _ h_ => nomatch h_⟩⟩⟩))
  have n0_ := mk0 (below_step HB.out hBW)
  clear HB o0 o1 o2 o3 o4 o5 o6 o7 o8 o9 o10 o11 o12 o13 o14 o15 o16 o17 o18 o19 o20 hBW
  have HB := n0_
  clear n0_
  refine (GGen.gen_Matrix.calls k 1 2 [[1], [1], [1]] 0 _ E1.out).mono ?_
  rintro e w5 ⟨vm, rfl, hS, hb⟩
  obtain ⟨Am, cm, rfl⟩ := Kd.S_slice hS
  have SM := mk0 hS
  have HD := mk0 hb
  clear hS hb
  go_wp2_with (first
    | ((with_reducible refine gate_dst (N := 6) rfl ?_); refine box_event ?hg (N := 6) ?hd (cs := #[.slice none 0 0]) (t := 24) ?hr ?_; (case hd => rfl); (case hg => rfl); (case hr => first | (go_simp; done) | (go_simp; rfl)); intro gm hg w6 hbox hb; have BKN := mk0 hbox; have GN := mk0 (Nat.le_trans (below_size HD.out) (Nat.le_of_eq hg.symm)); have n0_ := mk0 (below_step HD.out hb); have n1_ := mk0 (Kd.S_below SM.out hb); clear HD SM; have HD := n0_; have SM := n1_; clear n0_ n1_; have hzn : w6.cell? ⟨gm, 0, none⟩ = some (.slice none 0 0) := (blk_cell BKN.out 0).trans rfl; have hfn := blk_frozen BKN.out 0; clear hb hbox hg))
  have BKM := mk0 (blk_set BKN.out 0 (.slice Am (List.length [[1], [1], [1]]) cm))
  replace HD := mk0 (lT HD.out GN (j := 0) (v := (.slice Am (List.length [[1], [1], [1]]) cm)))
  replace SM := mk0 (Kd.S_mono (Kd.S_far (p := ⟨gm, 0, none⟩) (Kd.S_types SM.out BKN.out (by decide)) (fun _ hk => hk.2) (.slice Am (List.length [[1], [1], [1]]) cm)) (fun _ h_ => h_.1))
  clear BKN GN hzn hfn
  generalize w6.setCell ⟨gm, 0, none⟩ (.slice Am (List.length [[1], [1], [1]]) cm) = X at BKM HD SM ⊢
  replace OX := mk0 (blk_below OX.out HD.out)
  refine start_ (n := 12) (S := fun w' => w'.cell? ⟨gm, 0, none⟩ = some (.slice Am (List.length [[1], [1], [1]]) cm) ∧ w'.cell? ⟨V.heap.size + 1 + 1 + 1 + 1 + 1 + 1 + 1 + 1 + 1 + 1 + 1 + 1 + 1 + 1 + 1 + 1 + 1 + 1 + 1 + 1, 1, none⟩ = some (.slice (some ⟨V.heap.size + 1 + 1 + 1 + 1 + 1 + 1, 0, none⟩) 3 3)) (ds := []) gtab7_q0 (by kernel_rfl) rfl rfl ⟨(blk_cell BKM.out 0).trans rfl, (blk_cell OX.out 1).trans rfl⟩ (fun hHeld => ?_); refine with_tabW gtab7_tab gtab7_bits (fun HT_ HW_ => ?_)
  replace BKM := mk0 (bD BKM.out)
  replace OX := mk0 (bD OX.out)
  replace HD := mk0 (lD HD.out)
  replace SM := mk0 (sD SM.out)
  generalize X.drew = Y at BKM OX HD SM hHeld ⊢
  refine pure_ (i := 0) (N := some 53) (v := ?_) (a' := ?_) gtab7_q1 rfl rfl (any_of HT_.out (by kernel_rfl)) (fun _ _ _ h => h) (Or.inl ⟨by rfl, ?_⟩) ?_ ?_
  rotate_left
  · intro w'
    go_simp
    with_reducible rfl
  rotate_left
  · simp only [Act.put, List.setIfInBounds_toArray, List.set_cons_zero, List.set_cons_succ, i64_w]
    rfl
  refine one_ (i := 1) (N := some 54) gtab7_q2 rfl rfl (one_of HT_.out (by kernel_rfl)) (by decide) (fun K hK => ?_)
  refine goes_ Try.func35 (by kernel_rfl) rfl #[.int .i64 0] (by rfl) rfl rfl (by (try simp only [List.map_toArray, List.map_cons, List.map_nil]); first | done | rfl) ?_
  with_reducible refine (GBase.ossuarylaw0_Num.calls 0 0 _ rfl).mono ?_
  rintro e w' ⟨rfl, ⟨nd, rfl⟩⟩
  refine ⟨_, rfl, ?_⟩
  replace BKM := mk0 (bN BKM.out nd)
  replace OX := mk0 (bN OX.out nd)
  replace HD := mk0 (lN HD.out nd)
  replace SM := mk0 (sN SM.out nd)
  generalize Y.drewN nd = Z at BKM OX HD SM ⊢
  clear hHeld
  refine hK.out _ _ ⟨(blk_cell BKM.out 0).trans rfl, (blk_cell OX.out 1).trans rfl⟩ (fun hHeld => ?_)
  clear hK K
  refine norm_ (a' := ?_) ?_ ?_
  rotate_left
  · show Act.put _ (some 54) _ = _
    simp only [Act.put, List.setIfInBounds_toArray, List.set_cons_zero, List.set_cons_succ, i64_w]
    rfl
  refine pure_ (i := 2) (N := some 55) (v := ?_) (a' := ?_) gtab7_q3 rfl rfl (any_of HT_.out (by kernel_rfl)) (fun _ _ _ h => h) (Or.inl ⟨by rfl, ?_⟩) ?_ ?_
  rotate_left
  · intro w'
    go_simp
    with_reducible rfl
  rotate_left
  · simp only [Act.put, List.setIfInBounds_toArray, List.set_cons_zero, List.set_cons_succ, i64_w]
    rfl
  refine pure_ (i := 3) (N := some 56) (v := ?_) (a' := ?_) gtab7_q4 rfl rfl (any_of HT_.out (by kernel_rfl)) (fun _ _ _ h => h) (Or.inl ⟨by rfl, ?_⟩) ?_ ?_
  rotate_left
  · intro w'
    go_simp
    with_reducible rfl
  rotate_left
  · simp only [Act.put, List.setIfInBounds_toArray, List.set_cons_zero, List.set_cons_succ, i64_w]
    rfl
  refine pure_ (i := 5) (N := some 58) (v := ?_) (a' := ?_) gtab7_q5 rfl rfl (any_of HT_.out (by kernel_rfl)) (fun _ _ _ h => h) (Or.inl ⟨by rfl, ?_⟩) ?_ ?_
  rotate_left
  · intro w'
    go_simp
    with_reducible rfl
  rotate_left
  · simp only [Act.put, List.setIfInBounds_toArray, List.set_cons_zero, List.set_cons_succ, i64_w]
    rfl
  refine pure_ (i := 6) (N := some 59) (v := ?_) (a' := ?_) gtab7_q6 rfl rfl (any_of HT_.out (by kernel_rfl)) (fun _ _ _ h => h) (Or.inl ⟨by rfl, ?_⟩) ?_ ?_
  rotate_left
  · intro w'
    go_simp
    with_reducible rfl
  rotate_left
  · simp only [Act.put, List.setIfInBounds_toArray, List.set_cons_zero, List.set_cons_succ, i64_w]
    rfl
  refine pure_ (i := 7) (N := some 60) (v := ?_) (a' := ?_) gtab7_q7 rfl rfl (any_of HT_.out (by kernel_rfl)) (fun _ _ _ h => h) (Or.inl ⟨by rfl, ?_⟩) ?_ ?_
  rotate_left
  · intro w'
    go_simp
    with_reducible rfl
  rotate_left
  · simp only [Act.put, List.setIfInBounds_toArray, List.set_cons_zero, List.set_cons_succ, i64_w]
    rfl
  refine take_ (i := 4) (N := some 57) (v := ?_) (a' := ?_) gtab7_q8 rfl rfl (take_ofW HT_.out HW_.out (by kernel_rfl)) (fun _ _ _ h => h) (Or.inl ⟨by rfl, ?_⟩) hHeld ?_ ?_
  rotate_left
  · rintro w' ⟨s0, s1⟩
    go_simp
    with_reducible rfl
  rotate_left
  · simp only [Act.put, List.setIfInBounds_toArray, List.set_cons_zero, List.set_cons_succ, i64_w]
    rfl
  refine take_ (i := 8) (N := some 61) (v := ?_) (a' := ?_) gtab7_q9 rfl rfl (take_ofW HT_.out HW_.out (by kernel_rfl)) (fun _ _ _ h => h) (Or.inl ⟨by rfl, ?_⟩) hHeld ?_ ?_
  rotate_left
  · rintro w' ⟨s0, s1⟩
    go_simp
    with_reducible rfl
  rotate_left
  · simp only [Act.put, List.setIfInBounds_toArray, List.set_cons_zero, List.set_cons_succ, i64_w]
    rfl
  refine one_ (i := 9) (N := some 62) gtab7_q10 rfl rfl (one_of HT_.out (by kernel_rfl)) (by decide) (fun K hK => ?_)
  refine goes_ Try.func34 (by kernel_rfl) rfl #[.agg #[.slice Am (List.length [[1], [1], [1]]) cm], .agg #[.slice (some ⟨V.heap.size + 1 + 1 + 1 + 1 + 1 + 1, 0, none⟩) 3 3]] (by rfl) rfl rfl (by (try simp only [List.map_toArray, List.map_cons, List.map_nil]); first | done | rfl) ?_
  refine (GBase.ossuarylaw0_SameMatrix.calls k _ _ [[1], [1], [1]] _ _ [[1], [1], [1]] true _ (Kd.S_reads' SM.out).2.2 (Kd.S_reads' SM.out).2.1 (Kd.C_below HMt.out HD.out) (Nat.le_refl _) E2.out).mono ?_
  rintro e Z2 ⟨rfl, hb⟩
  refine ⟨_, rfl, ?_⟩
  replace BKM := mk0 (blk_below BKM.out hb)
  replace OX := mk0 (blk_below OX.out hb)
  replace HD := mk0 (below_step HD.out hb)
  clear hHeld hb SM
  refine hK.out _ _ ⟨(blk_cell BKM.out 0).trans rfl, (blk_cell OX.out 1).trans rfl⟩ (fun hHeld => ?_)
  clear hK K
  refine norm_ (a' := ?_) ?_ ?_
  rotate_left
  · show Act.put _ (some 62) _ = _
    simp only [Act.put, List.setIfInBounds_toArray, List.set_cons_zero, List.set_cons_succ, i64_w]
    rfl
  refine pure_ (i := 10) (N := some 63) (v := ?_) (a' := ?_) gtab7_q11 rfl rfl (any_of HT_.out (by kernel_rfl)) (fun _ _ _ h => h) (Or.inl ⟨by rfl, ?_⟩) ?_ ?_
  rotate_left
  · intro w'
    go_simp
    with_reducible rfl
  rotate_left
  · simp only [Act.put, List.setIfInBounds_toArray, List.set_cons_zero, List.set_cons_succ, i64_w]
    rfl
  refine pure_ (i := 11) (N := some 2) (v := ?_) (a' := ?_) gtab7_q12 rfl rfl (any_of HT_.out (by kernel_rfl)) (fun _ _ _ h => h) (Or.inl ⟨by rfl, ?_⟩) ?_ ?_
  rotate_left
  · intro w'
    go_simp
    with_reducible rfl
  rotate_left
  · simp only [Act.put, List.setIfInBounds_toArray, List.set_cons_zero, List.set_cons_succ, i64_w]
    rfl
  refine done_ (done_of HT_.out (by kernel_rfl)) ?_
  clear HT_ HW_
  try go_wp2
  go_ret
  exact ⟨rfl, by repeat (first | exact below_step HB.out HD.out | apply lN | apply lA | apply lD)⟩
set_option maxHeartbeats 2000000 in
set_option maxRecDepth 100000 in
theorem gtab2 (k : Nat) (a0 : Int) (w : World) (h5 : GAwg.ossuarylaw5_awake.f k = some true) (hk : wrap64 (Int.tmod (IntKind.u64.wrap a0) 5) = 2) (e1 : GGen.gen_Matrix.f k 2 0 = some ([[1, 0], [0, 1]], 0)) (e2 : GBase.ossuarylaw0_SameMatrix.f k [[1, 0], [0, 1]] [[1, 0], [0, 1]] = some true) :
    Calls Try.prog 12 #[.int .i64 a0] w fun e w' => e = .returned (.bool true) ∧ Below w.heap.size w w' := by
  have hu24 := Try.underlying24
  have hu51 := Try.underlying51
  have A5 := mk0 h5
  have E1 := mk0 e1
  have E2 := mk0 e2
  have HB := mk0 (Below.refl w.heap.size w)
  clear h5 e1 e2
  go_enter Try.func12, Try.ntmps12
  have hkw : IntKind.i64.wrap (Int.tmod (IntKind.u64.wrap a0) 5) = 2 := (i64_w _).trans hk
  go_wp2_with (first
    | ((with_reducible refine gCa (f := 47) rfl ?_); refine goesL_ (some 8) rfl rfl Try.func47 (by kernel_rfl) rfl #[] rfl (by (try simp only [List.map_toArray, List.map_nil]); first | done | rfl) ?_; (with_reducible refine (GAwg.ossuarylaw5_awake.calls k true _ A5.out).mono ?_); rintro e V ⟨rfl, hb⟩; refine ⟨_, rfl, ?_⟩; have n0_ := mk0 (below_step HB.out hb); clear HB; have HB := n0_; clear n0_ hb))
  refine seenC (gtF V) (gt_seen V) (fun W hW => ?_)
  unfold gtF at hW
  obtain ⟨hBW, o0, o1, o2, o3, o4, o5, o6, o7, o8, o9, o10, o11, o12, o13, o14, o15, o16, o17, o18, o19, o20⟩ := hW
  have OX := mk0 o20
  have HMt : Aside0 (Kd.C (Kd.slice 3 (Kd.int .i64)) W (some ⟨V.heap.size + 1 + 1 + 1 + 1 + 1 + 1 + 1 + 1 + 1, 0, none⟩) 2 [[1, 0], [0, 1]]) := mk0 (C_rows [(V.heap.size + 1 + 1 + 1 + 1 + 1 + 1 + 1, [1, 0]), (V.heap.size + 1 + 1 + 1 + 1 + 1 + 1 + 1 + 1, [0, 1])] o9 (by show 2 ≤ 100; decide) (List.forall_mem_cons.2 ⟨C_ints [1, 0] o7 (by decide), List.forall_mem_cons.2 ⟨C_ints [0, 1] o8 (by decide), fun _ h_ => nomatch h_⟩⟩))
  have n0_ := mk0 (below_step HB.out hBW)
  clear HB o0 o1 o2 o3 o4 o5 o6 o7 o8 o9 o10 o11 o12 o13 o14 o15 o16 o17 o18 o19 o20 hBW
  have HB := n0_
  clear n0_
  refine (GGen.gen_Matrix.calls k 2 0 [[1, 0], [0, 1]] 0 _ E1.out).mono ?_
  rintro e w5 ⟨vm, rfl, hS, hb⟩
  obtain ⟨Am, cm, rfl⟩ := Kd.S_slice hS
  have SM := mk0 hS
  have HD := mk0 hb
  clear hS hb
  go_wp2_with (first
    | ((with_reducible refine gate_dst (N := 6) rfl ?_); refine box_event ?hg (N := 6) ?hd (cs := #[.slice none 0 0]) (t := 24) ?hr ?_; (case hd => rfl); (case hg => rfl); (case hr => first | (go_simp; done) | (go_simp; rfl)); intro gm hg w6 hbox hb; have BKN := mk0 hbox; have GN := mk0 (Nat.le_trans (below_size HD.out) (Nat.le_of_eq hg.symm)); have n0_ := mk0 (below_step HD.out hb); have n1_ := mk0 (Kd.S_below SM.out hb); clear HD SM; have HD := n0_; have SM := n1_; clear n0_ n1_; have hzn : w6.cell? ⟨gm, 0, none⟩ = some (.slice none 0 0) := (blk_cell BKN.out 0).trans rfl; have hfn := blk_frozen BKN.out 0; clear hb hbox hg))
  have BKM := mk0 (blk_set BKN.out 0 (.slice Am (List.length [[1, 0], [0, 1]]) cm))
  replace HD := mk0 (lT HD.out GN (j := 0) (v := (.slice Am (List.length [[1, 0], [0, 1]]) cm)))
  replace SM := mk0 (Kd.S_mono (Kd.S_far (p := ⟨gm, 0, none⟩) (Kd.S_types SM.out BKN.out (by decide)) (fun _ hk => hk.2) (.slice Am (List.length [[1, 0], [0, 1]]) cm)) (fun _ h_ => h_.1))
  clear BKN GN hzn hfn
  generalize w6.setCell ⟨gm, 0, none⟩ (.slice Am (List.length [[1, 0], [0, 1]]) cm) = X at BKM HD SM ⊢
  replace OX := mk0 (blk_below OX.out HD.out)
  refine start_ (n := 12) (S := fun w' => w'.cell? ⟨gm, 0, none⟩ = some (.slice Am (List.length [[1, 0], [0, 1]]) cm) ∧ w'.cell? ⟨V.heap.size + 1 + 1 + 1 + 1 + 1 + 1 + 1 + 1 + 1 + 1 + 1 + 1 + 1 + 1 + 1 + 1 + 1 + 1 + 1 + 1, 2, none⟩ = some (.slice (some ⟨V.heap.size + 1 + 1 + 1 + 1 + 1 + 1 + 1 + 1 + 1, 0, none⟩) 2 2)) (ds := []) gtab7_q0 (by kernel_rfl) rfl rfl ⟨(blk_cell BKM.out 0).trans rfl, (blk_cell OX.out 2).trans rfl⟩ (fun hHeld => ?_); refine with_tabW gtab7_tab gtab7_bits (fun HT_ HW_ => ?_)
  replace BKM := mk0 (bD BKM.out)
  replace OX := mk0 (bD OX.out)
  replace HD := mk0 (lD HD.out)
  replace SM := mk0 (sD SM.out)
  generalize X.drew = Y at BKM OX HD SM hHeld ⊢
  refine pure_ (i := 0) (N := some 53) (v := ?_) (a' := ?_) gtab7_q1 rfl rfl (any_of HT_.out (by kernel_rfl)) (fun _ _ _ h => h) (Or.inl ⟨by rfl, ?_⟩) ?_ ?_
  rotate_left
  · intro w'
    go_simp
    with_reducible rfl
  rotate_left
  · simp only [Act.put, List.setIfInBounds_toArray, List.set_cons_zero, List.set_cons_succ, i64_w]
    rfl
  refine one_ (i := 1) (N := some 54) gtab7_q2 rfl rfl (one_of HT_.out (by kernel_rfl)) (by decide) (fun K hK => ?_)
  refine goes_ Try.func35 (by kernel_rfl) rfl #[.int .i64 0] (by rfl) rfl rfl (by (try simp only [List.map_toArray, List.map_cons, List.map_nil]); first | done | rfl) ?_
  with_reducible refine (GBase.ossuarylaw0_Num.calls 0 0 _ rfl).mono ?_
  rintro e w' ⟨rfl, ⟨nd, rfl⟩⟩
  refine ⟨_, rfl, ?_⟩
  replace BKM := mk0 (bN BKM.out nd)
  replace OX := mk0 (bN OX.out nd)
  replace HD := mk0 (lN HD.out nd)
  replace SM := mk0 (sN SM.out nd)
  generalize Y.drewN nd = Z at BKM OX HD SM ⊢
  clear hHeld
  refine hK.out _ _ ⟨(blk_cell BKM.out 0).trans rfl, (blk_cell OX.out 2).trans rfl⟩ (fun hHeld => ?_)
  clear hK K
  refine norm_ (a' := ?_) ?_ ?_
  rotate_left
  · show Act.put _ (some 54) _ = _
    simp only [Act.put, List.setIfInBounds_toArray, List.set_cons_zero, List.set_cons_succ, i64_w]
    rfl
  refine pure_ (i := 2) (N := some 55) (v := ?_) (a' := ?_) gtab7_q3 rfl rfl (any_of HT_.out (by kernel_rfl)) (fun _ _ _ h => h) (Or.inl ⟨by rfl, ?_⟩) ?_ ?_
  rotate_left
  · intro w'
    go_simp
    with_reducible rfl
  rotate_left
  · simp only [Act.put, List.setIfInBounds_toArray, List.set_cons_zero, List.set_cons_succ, i64_w]
    rfl
  refine pure_ (i := 3) (N := some 56) (v := ?_) (a' := ?_) gtab7_q4 rfl rfl (any_of HT_.out (by kernel_rfl)) (fun _ _ _ h => h) (Or.inl ⟨by rfl, ?_⟩) ?_ ?_
  rotate_left
  · intro w'
    go_simp
    with_reducible rfl
  rotate_left
  · simp only [Act.put, List.setIfInBounds_toArray, List.set_cons_zero, List.set_cons_succ, i64_w]
    rfl
  refine pure_ (i := 5) (N := some 58) (v := ?_) (a' := ?_) gtab7_q5 rfl rfl (any_of HT_.out (by kernel_rfl)) (fun _ _ _ h => h) (Or.inl ⟨by rfl, ?_⟩) ?_ ?_
  rotate_left
  · intro w'
    go_simp
    with_reducible rfl
  rotate_left
  · simp only [Act.put, List.setIfInBounds_toArray, List.set_cons_zero, List.set_cons_succ, i64_w]
    rfl
  refine pure_ (i := 6) (N := some 59) (v := ?_) (a' := ?_) gtab7_q6 rfl rfl (any_of HT_.out (by kernel_rfl)) (fun _ _ _ h => h) (Or.inl ⟨by rfl, ?_⟩) ?_ ?_
  rotate_left
  · intro w'
    go_simp
    with_reducible rfl
  rotate_left
  · simp only [Act.put, List.setIfInBounds_toArray, List.set_cons_zero, List.set_cons_succ, i64_w]
    rfl
  refine pure_ (i := 7) (N := some 60) (v := ?_) (a' := ?_) gtab7_q7 rfl rfl (any_of HT_.out (by kernel_rfl)) (fun _ _ _ h => h) (Or.inl ⟨by rfl, ?_⟩) ?_ ?_
  rotate_left
  · intro w'
    go_simp
    with_reducible rfl
  rotate_left
  · simp only [Act.put, List.setIfInBounds_toArray, List.set_cons_zero, List.set_cons_succ, i64_w]
    rfl
  refine take_ (i := 4) (N := some 57) (v := ?_) (a' := ?_) gtab7_q8 rfl rfl (take_ofW HT_.out HW_.out (by kernel_rfl)) (fun _ _ _ h => h) (Or.inl ⟨by rfl, ?_⟩) hHeld ?_ ?_
  rotate_left
  · rintro w' ⟨s0, s1⟩
    go_simp
    with_reducible rfl
  rotate_left
  · simp only [Act.put, List.setIfInBounds_toArray, List.set_cons_zero, List.set_cons_succ, i64_w]
    rfl
  refine take_ (i := 8) (N := some 61) (v := ?_) (a' := ?_) gtab7_q9 rfl rfl (take_ofW HT_.out HW_.out (by kernel_rfl)) (fun _ _ _ h => h) (Or.inl ⟨by rfl, ?_⟩) hHeld ?_ ?_
  rotate_left
  · rintro w' ⟨s0, s1⟩
    go_simp
    with_reducible rfl
  rotate_left
  · simp only [Act.put, List.setIfInBounds_toArray, List.set_cons_zero, List.set_cons_succ, i64_w]
    rfl
  refine one_ (i := 9) (N := some 62) gtab7_q10 rfl rfl (one_of HT_.out (by kernel_rfl)) (by decide) (fun K hK => ?_)
  refine goes_ Try.func34 (by kernel_rfl) rfl #[.agg #[.slice Am (List.length [[1, 0], [0, 1]]) cm], .agg #[.slice (some ⟨V.heap.size + 1 + 1 + 1 + 1 + 1 + 1 + 1 + 1 + 1, 0, none⟩) 2 2]] (by rfl) rfl rfl (by (try simp only [List.map_toArray, List.map_cons, List.map_nil]); first | done | rfl) ?_
  refine (GBase.ossuarylaw0_SameMatrix.calls k _ _ [[1, 0], [0, 1]] _ _ [[1, 0], [0, 1]] true _ (Kd.S_reads' SM.out).2.2 (Kd.S_reads' SM.out).2.1 (Kd.C_below HMt.out HD.out) (Nat.le_refl _) E2.out).mono ?_
  rintro e Z2 ⟨rfl, hb⟩
  refine ⟨_, rfl, ?_⟩
  replace BKM := mk0 (blk_below BKM.out hb)
  replace OX := mk0 (blk_below OX.out hb)
  replace HD := mk0 (below_step HD.out hb)
  clear hHeld hb SM
  refine hK.out _ _ ⟨(blk_cell BKM.out 0).trans rfl, (blk_cell OX.out 2).trans rfl⟩ (fun hHeld => ?_)
  clear hK K
  refine norm_ (a' := ?_) ?_ ?_
  rotate_left
  · show Act.put _ (some 62) _ = _
    simp only [Act.put, List.setIfInBounds_toArray, List.set_cons_zero, List.set_cons_succ, i64_w]
    rfl
  refine pure_ (i := 10) (N := some 63) (v := ?_) (a' := ?_) gtab7_q11 rfl rfl (any_of HT_.out (by kernel_rfl)) (fun _ _ _ h => h) (Or.inl ⟨by rfl, ?_⟩) ?_ ?_
  rotate_left
  · intro w'
    go_simp
    with_reducible rfl
  rotate_left
  · simp only [Act.put, List.setIfInBounds_toArray, List.set_cons_zero, List.set_cons_succ, i64_w]
    rfl
  refine pure_ (i := 11) (N := some 2) (v := ?_) (a' := ?_) gtab7_q12 rfl rfl (any_of HT_.out (by kernel_rfl)) (fun _ _ _ h => h) (Or.inl ⟨by rfl, ?_⟩) ?_ ?_
  rotate_left
  · intro w'
    go_simp
    with_reducible rfl
  rotate_left
  · simp only [Act.put, List.setIfInBounds_toArray, List.set_cons_zero, List.set_cons_succ, i64_w]
    rfl
  refine done_ (done_of HT_.out (by kernel_rfl)) ?_
  clear HT_ HW_
  try go_wp2
  go_ret
  exact ⟨rfl, by repeat (first | exact below_step HB.out HD.out | apply lN | apply lA | apply lD)⟩
set_option maxHeartbeats 2000000 in
set_option maxRecDepth 100000 in
theorem gtab3 (k : Nat) (a0 : Int) (w : World) (h5 : GAwg.ossuarylaw5_awake.f k = some true) (hk : wrap64 (Int.tmod (IntKind.u64.wrap a0) 5) = 3) (e1 : GGen.gen_Matrix.f k 2 2 = some ([[1, 0], [0, 1], [3, 2], [2, 3]], 0)) (e2 : GBase.ossuarylaw0_SameMatrix.f k [[1, 0], [0, 1], [3, 2], [2, 3]] [[1, 0], [0, 1], [3, 2], [2, 3]] = some true) :
    Calls Try.prog 12 #[.int .i64 a0] w fun e w' => e = .returned (.bool true) ∧ Below w.heap.size w w' := by
  have hu24 := Try.underlying24
  have hu51 := Try.underlying51
  have A5 := mk0 h5
  have E1 := mk0 e1
  have E2 := mk0 e2
  have HB := mk0 (Below.refl w.heap.size w)
  clear h5 e1 e2
  go_enter Try.func12, Try.ntmps12
  have hkw : IntKind.i64.wrap (Int.tmod (IntKind.u64.wrap a0) 5) = 3 := (i64_w _).trans hk
  go_wp2_with (first
    | ((with_reducible refine gCa (f := 47) rfl ?_); refine goesL_ (some 8) rfl rfl Try.func47 (by kernel_rfl) rfl #[] rfl (by (try simp only [List.map_toArray, List.map_nil]); first | done | rfl) ?_; (with_reducible refine (GAwg.ossuarylaw5_awake.calls k true _ A5.out).mono ?_); rintro e V ⟨rfl, hb⟩; refine ⟨_, rfl, ?_⟩; have n0_ := mk0 (below_step HB.out hb); clear HB; have HB := n0_; clear n0_ hb))
  refine seenC (gtF V) (gt_seen V) (fun W hW => ?_)
  unfold gtF at hW
  obtain ⟨hBW, o0, o1, o2, o3, o4, o5, o6, o7, o8, o9, o10, o11, o12, o13, o14, o15, o16, o17, o18, o19, o20⟩ := hW
  have OX := mk0 o20
  have HMt : Aside0 (Kd.C (Kd.slice 3 (Kd.int .i64)) W (some ⟨V.heap.size + 1 + 1 + 1 + 1 + 1 + 1 + 1 + 1 + 1 + 1 + 1 + 1 + 1 + 1, 0, none⟩) 4 [[1, 0], [0, 1], [3, 2], [2, 3]]) := mk0 (C_rows [(V.heap.size + 1 + 1 + 1 + 1 + 1 + 1 + 1 + 1 + 1 + 1, [1, 0]), (V.heap.size + 1 + 1 + 1 + 1 + 1 + 1 + 1 + 1 + 1 + 1 + 1, [0, 1]), (V.heap.size + 1 + 1 + 1 + 1 + 1 + 1 + 1 + 1 + 1 + 1 + 1 + 1, [3, 2]), (V.heap.size + 1 + 1 + 1 + 1 + 1 + 1 + 1 + 1 + 1 + 1 + 1 + 1 + 1, [2, 3])] o14 (by show 4 ≤ 100; decide) (List.forall_mem_cons.2 ⟨C_ints [1, 0] o10 (by decide), List.forall_mem_cons.2 ⟨C_ints [0, 1] o11 (by decide), List.forall_mem_cons.2 ⟨C_ints [3, 2] o12 (by decide), List.forall_mem_cons.2 ⟨C_ints [2, 3] o13 (by decide), fun _ h_ => nomatch h_⟩⟩⟩⟩))
  have n0_ := mk0 (below_step HB.out hBW)
  clear HB o0 o1 o2 o3 o4 o5 o6 o7 o8 o9 o10 o11 o12 o13 o14 o15 o16 o17 o18 o19 o20 hBW
  have HB := n0_
  clear n0_
  refine (GGen.gen_Matrix.calls k 2 2 [[1, 0], [0, 1], [3, 2], [2, 3]] 0 _ E1.out).mono ?_
  rintro e w5 ⟨vm, rfl, hS, hb⟩
  obtain ⟨Am, cm, rfl⟩ := Kd.S_slice hS
  have SM := mk0 hS
  have HD := mk0 hb
  clear hS hb
  go_wp2_with (first
    | ((with_reducible refine gate_dst (N := 6) rfl ?_); refine box_event ?hg (N := 6) ?hd (cs := #[.slice none 0 0]) (t := 24) ?hr ?_; (case hd => rfl); (case hg => rfl); (case hr => first | (go_simp; done) | (go_simp; rfl)); intro gm hg w6 hbox hb; have BKN := mk0 hbox; have GN := mk0 (Nat.le_trans (below_size HD.out) (Nat.le_of_eq hg.symm)); have n0_ := mk0 (below_step HD.out hb); have n1_ := mk0 (Kd.S_below SM.out hb); clear HD SM; have HD := n0_; have SM := n1_; clear n0_ n1_; have hzn : w6.cell? ⟨gm, 0, none⟩ = some (.slice none 0 0) := (blk_cell BKN.out 0).trans rfl; have hfn := blk_frozen BKN.out 0; clear hb hbox hg))
  have BKM := mk0 (blk_set BKN.out 0 (.slice Am (List.length [[1, 0], [0, 1], [3, 2], [2, 3]]) cm))
  replace HD := mk0 (lT HD.out GN (j := 0) (v := (.slice Am (List.length [[1, 0], [0, 1], [3, 2], [2, 3]]) cm)))
  replace SM := mk0 (Kd.S_mono (Kd.S_far (p := ⟨gm, 0, none⟩) (Kd.S_types SM.out BKN.out (by decide)) (fun _ hk => hk.2) (.slice Am (List.length [[1, 0], [0, 1], [3, 2], [2, 3]]) cm)) (fun _ h_ => h_.1))
  clear BKN GN hzn hfn
  generalize w6.setCell ⟨gm, 0, none⟩ (.slice Am (List.length [[1, 0], [0, 1], [3, 2], [2, 3]]) cm) = X at BKM HD SM ⊢
  replace OX := mk0 (blk_below OX.out HD.out)
  refine start_ (n := 12) (S := fun w' => w'.cell? ⟨gm, 0, none⟩ = some (.slice Am (List.length [[1, 0], [0, 1], [3, 2], [2, 3]]) cm) ∧ w'.cell? ⟨V.heap.size + 1 + 1 + 1 + 1 + 1 + 1 + 1 + 1 + 1 + 1 + 1 + 1 + 1 + 1 + 1 + 1 + 1 + 1 + 1 + 1, 3, none⟩ = some (.slice (some ⟨V.heap.size + 1 + 1 + 1 + 1 + 1 + 1 + 1 + 1 + 1 + 1 + 1 + 1 + 1 + 1, 0, none⟩) 4 4)) (ds := []) gtab7_q0 (by kernel_rfl) rfl rfl ⟨(blk_cell BKM.out 0).trans rfl, (blk_cell OX.out 3).trans rfl⟩ (fun hHeld => ?_); refine with_tabW gtab7_tab gtab7_bits (fun HT_ HW_ => ?_)
  replace BKM := mk0 (bD BKM.out)
  replace OX := mk0 (bD OX.out)
  replace HD := mk0 (lD HD.out)
  replace SM := mk0 (sD SM.out)
  generalize X.drew = Y at BKM OX HD SM hHeld ⊢
  refine pure_ (i := 0) (N := some 53) (v := ?_) (a' := ?_) gtab7_q1 rfl rfl (any_of HT_.out (by kernel_rfl)) (fun _ _ _ h => h) (Or.inl ⟨by rfl, ?_⟩) ?_ ?_
  rotate_left
  · intro w'
    go_simp
    with_reducible rfl
  rotate_left
  · simp only [Act.put, List.setIfInBounds_toArray, List.set_cons_zero, List.set_cons_succ, i64_w]
    rfl
  refine one_ (i := 1) (N := some 54) gtab7_q2 rfl rfl (one_of HT_.out (by kernel_rfl)) (by decide) (fun K hK => ?_)
  refine goes_ Try.func35 (by kernel_rfl) rfl #[.int .i64 0] (by rfl) rfl rfl (by (try simp only [List.map_toArray, List.map_cons, List.map_nil]); first | done | rfl) ?_
  with_reducible refine (GBase.ossuarylaw0_Num.calls 0 0 _ rfl).mono ?_
  rintro e w' ⟨rfl, ⟨nd, rfl⟩⟩
  refine ⟨_, rfl, ?_⟩
  replace BKM := mk0 (bN BKM.out nd)
  replace OX := mk0 (bN OX.out nd)
  replace HD := mk0 (lN HD.out nd)
  replace SM := mk0 (sN SM.out nd)
  generalize Y.drewN nd = Z at BKM OX HD SM ⊢
  clear hHeld
  refine hK.out _ _ ⟨(blk_cell BKM.out 0).trans rfl, (blk_cell OX.out 3).trans rfl⟩ (fun hHeld => ?_)
  clear hK K
  refine norm_ (a' := ?_) ?_ ?_
  rotate_left
  · show Act.put _ (some 54) _ = _
    simp only [Act.put, List.setIfInBounds_toArray, List.set_cons_zero, List.set_cons_succ, i64_w]
    rfl
  refine pure_ (i := 2) (N := some 55) (v := ?_) (a' := ?_) gtab7_q3 rfl rfl (any_of HT_.out (by kernel_rfl)) (fun _ _ _ h => h) (Or.inl ⟨by rfl, ?_⟩) ?_ ?_
  rotate_left
  · intro w'
    go_simp
    with_reducible rfl
  rotate_left
  · simp only [Act.put, List.setIfInBounds_toArray, List.set_cons_zero, List.set_cons_succ, i64_w]
    rfl
  refine pure_ (i := 3) (N := some 56) (v := ?_) (a' := ?_) gtab7_q4 rfl rfl (any_of HT_.out (by kernel_rfl)) (fun _ _ _ h => h) (Or.inl ⟨by rfl, ?_⟩) ?_ ?_
  rotate_left
  · intro w'
    go_simp
    with_reducible rfl
  rotate_left
  · simp only [Act.put, List.setIfInBounds_toArray, List.set_cons_zero, List.set_cons_succ, i64_w]
    rfl
  refine pure_ (i := 5) (N := some 58) (v := ?_) (a' := ?_) gtab7_q5 rfl rfl (any_of HT_.out (by kernel_rfl)) (fun _ _ _ h => h) (Or.inl ⟨by rfl, ?_⟩) ?_ ?_
  rotate_left
  · intro w'
    go_simp
    with_reducible rfl
  rotate_left
  · simp only [Act.put, List.setIfInBounds_toArray, List.set_cons_zero, List.set_cons_succ, i64_w]
    rfl
  refine pure_ (i := 6) (N := some 59) (v := ?_) (a' := ?_) gtab7_q6 rfl rfl (any_of HT_.out (by kernel_rfl)) (fun _ _ _ h => h) (Or.inl ⟨by rfl, ?_⟩) ?_ ?_
  rotate_left
  · intro w'
    go_simp
    with_reducible rfl
  rotate_left
  · simp only [Act.put, List.setIfInBounds_toArray, List.set_cons_zero, List.set_cons_succ, i64_w]
    rfl
  refine pure_ (i := 7) (N := some 60) (v := ?_) (a' := ?_) gtab7_q7 rfl rfl (any_of HT_.out (by kernel_rfl)) (fun _ _ _ h => h) (Or.inl ⟨by rfl, ?_⟩) ?_ ?_
  rotate_left
  · intro w'
    go_simp
    with_reducible rfl
  rotate_left
  · simp only [Act.put, List.setIfInBounds_toArray, List.set_cons_zero, List.set_cons_succ, i64_w]
    rfl
  refine take_ (i := 4) (N := some 57) (v := ?_) (a' := ?_) gtab7_q8 rfl rfl (take_ofW HT_.out HW_.out (by kernel_rfl)) (fun _ _ _ h => h) (Or.inl ⟨by rfl, ?_⟩) hHeld ?_ ?_
  rotate_left
  · rintro w' ⟨s0, s1⟩
    go_simp
    with_reducible rfl
  rotate_left
  · simp only [Act.put, List.setIfInBounds_toArray, List.set_cons_zero, List.set_cons_succ, i64_w]
    rfl
  refine take_ (i := 8) (N := some 61) (v := ?_) (a' := ?_) gtab7_q9 rfl rfl (take_ofW HT_.out HW_.out (by kernel_rfl)) (fun _ _ _ h => h) (Or.inl ⟨by rfl, ?_⟩) hHeld ?_ ?_
  rotate_left
  · rintro w' ⟨s0, s1⟩
    go_simp
    with_reducible rfl
  rotate_left
  · simp only [Act.put, List.setIfInBounds_toArray, List.set_cons_zero, List.set_cons_succ, i64_w]
    rfl
  refine one_ (i := 9) (N := some 62) gtab7_q10 rfl rfl (one_of HT_.out (by kernel_rfl)) (by decide) (fun K hK => ?_)
  refine goes_ Try.func34 (by kernel_rfl) rfl #[.agg #[.slice Am (List.length [[1, 0], [0, 1], [3, 2], [2, 3]]) cm], .agg #[.slice (some ⟨V.heap.size + 1 + 1 + 1 + 1 + 1 + 1 + 1 + 1 + 1 + 1 + 1 + 1 + 1 + 1, 0, none⟩) 4 4]] (by rfl) rfl rfl (by (try simp only [List.map_toArray, List.map_cons, List.map_nil]); first | done | rfl) ?_
  refine (GBase.ossuarylaw0_SameMatrix.calls k _ _ [[1, 0], [0, 1], [3, 2], [2, 3]] _ _ [[1, 0], [0, 1], [3, 2], [2, 3]] true _ (Kd.S_reads' SM.out).2.2 (Kd.S_reads' SM.out).2.1 (Kd.C_below HMt.out HD.out) (Nat.le_refl _) E2.out).mono ?_
  rintro e Z2 ⟨rfl, hb⟩
  refine ⟨_, rfl, ?_⟩
  replace BKM := mk0 (blk_below BKM.out hb)
  replace OX := mk0 (blk_below OX.out hb)
  replace HD := mk0 (below_step HD.out hb)
  clear hHeld hb SM
  refine hK.out _ _ ⟨(blk_cell BKM.out 0).trans rfl, (blk_cell OX.out 3).trans rfl⟩ (fun hHeld => ?_)
  clear hK K
  refine norm_ (a' := ?_) ?_ ?_
  rotate_left
  · show Act.put _ (some 62) _ = _
    simp only [Act.put, List.setIfInBounds_toArray, List.set_cons_zero, List.set_cons_succ, i64_w]
    rfl
  refine pure_ (i := 10) (N := some 63) (v := ?_) (a' := ?_) gtab7_q11 rfl rfl (any_of HT_.out (by kernel_rfl)) (fun _ _ _ h => h) (Or.inl ⟨by rfl, ?_⟩) ?_ ?_
  rotate_left
  · intro w'
    go_simp
    with_reducible rfl
  rotate_left
  · simp only [Act.put, List.setIfInBounds_toArray, List.set_cons_zero, List.set_cons_succ, i64_w]
    rfl
  refine pure_ (i := 11) (N := some 2) (v := ?_) (a' := ?_) gtab7_q12 rfl rfl (any_of HT_.out (by kernel_rfl)) (fun _ _ _ h => h) (Or.inl ⟨by rfl, ?_⟩) ?_ ?_
  rotate_left
  · intro w'
    go_simp
    with_reducible rfl
  rotate_left
  · simp only [Act.put, List.setIfInBounds_toArray, List.set_cons_zero, List.set_cons_succ, i64_w]
    rfl
  refine done_ (done_of HT_.out (by kernel_rfl)) ?_
  clear HT_ HW_
  try go_wp2
  go_ret
  exact ⟨rfl, by repeat (first | exact below_step HB.out HD.out | apply lN | apply lA | apply lD)⟩
set_option maxHeartbeats 2000000 in
set_option maxRecDepth 100000 in
theorem gtab4 (k : Nat) (a0 : Int) (w : World) (h5 : GAwg.ossuarylaw5_awake.f k = some true) (hk : wrap64 (Int.tmod (IntKind.u64.wrap a0) 5) = 4) (e1 : GGen.gen_Matrix.f k 3 1 = some ([[1, 0, 0], [0, 1, 0], [0, 0, 1], [1, 1, 1]], 0)) (e2 : GBase.ossuarylaw0_SameMatrix.f k [[1, 0, 0], [0, 1, 0], [0, 0, 1], [1, 1, 1]] [[1, 0, 0], [0, 1, 0], [0, 0, 1], [1, 1, 1]] = some true) :
    Calls Try.prog 12 #[.int .i64 a0] w fun e w' => e = .returned (.bool true) ∧ Below w.heap.size w w' := by
  have hu24 := Try.underlying24
  have hu51 := Try.underlying51
  have A5 := mk0 h5
  have E1 := mk0 e1
  have E2 := mk0 e2
  have HB := mk0 (Below.refl w.heap.size w)
  clear h5 e1 e2
  go_enter Try.func12, Try.ntmps12
  have hkw : IntKind.i64.wrap (Int.tmod (IntKind.u64.wrap a0) 5) = 4 := (i64_w _).trans hk
  go_wp2_with (first
    | ((with_reducible refine gCa (f := 47) rfl ?_); refine goesL_ (some 8) rfl rfl Try.func47 (by kernel_rfl) rfl #[] rfl (by (try simp only [List.map_toArray, List.map_nil]); first | done | rfl) ?_; (with_reducible refine (GAwg.ossuarylaw5_awake.calls k true _ A5.out).mono ?_); rintro e V ⟨rfl, hb⟩; refine ⟨_, rfl, ?_⟩; have n0_ := mk0 (below_step HB.out hb); clear HB; have HB := n0_; clear n0_ hb))
  refine seenC (gtF V) (gt_seen V) (fun W hW => ?_)
  unfold gtF at hW
  obtain ⟨hBW, o0, o1, o2, o3, o4, o5, o6, o7, o8, o9, o10, o11, o12, o13, o14, o15, o16, o17, o18, o19, o20⟩ := hW
  have OX := mk0 o20
  have HMt : Aside0 (Kd.C (Kd.slice 3 (Kd.int .i64)) W (some ⟨V.heap.size + 1 + 1 + 1 + 1 + 1 + 1 + 1 + 1 + 1 + 1 + 1 + 1 + 1 + 1 + 1 + 1 + 1 + 1 + 1, 0, none⟩) 4 [[1, 0, 0], [0, 1, 0], [0, 0, 1], [1, 1, 1]]) := mk0 (C_rows [(V.heap.size + 1 + 1 + 1 + 1 + 1 + 1 + 1 + 1 + 1 + 1 + 1 + 1 + 1 + 1 + 1, [1, 0, 0]), (V.heap.size + 1 + 1 + 1 + 1 + 1 + 1 + 1 + 1 + 1 + 1 + 1 + 1 + 1 + 1 + 1 + 1, [0, 1, 0]), (V.heap.size + 1 + 1 + 1 + 1 + 1 + 1 + 1 + 1 + 1 + 1 + 1 + 1 + 1 + 1 + 1 + 1 + 1, [0, 0, 1]), (V.heap.size + 1 + 1 + 1 + 1 + 1 + 1 + 1 + 1 + 1 + 1 + 1 + 1 + 1 + 1 + 1 + 1 + 1 + 1, [1, 1, 1])] o19 (by show 4 ≤ 100; decide) (List.forall_mem_cons.2 ⟨C_ints [1, 0, 0] o15 (by decide), List.forall_mem_cons.2 ⟨C_ints [0, 1, 0] o16 (by decide), List.forall_mem_cons.2 ⟨C_ints [0, 0, 1] o17 (by decide), List.forall_mem_cons.2 ⟨C_ints [1, 1, 1] o18 (by decide), fun _ h_ => nomatch h_⟩⟩⟩⟩))
  have n0_ := mk0 (below_step HB.out hBW)
  clear HB o0 o1 o2 o3 o4 o5 o6 o7 o8 o9 o10 o11 o12 o13 o14 o15 o16 o17 o18 o19 o20 hBW
  have HB := n0_
  clear n0_
  refine (GGen.gen_Matrix.calls k 3 1 [[1, 0, 0], [0, 1, 0], [0, 0, 1], [1, 1, 1]] 0 _ E1.out).mono ?_
  rintro e w5 ⟨vm, rfl, hS, hb⟩
  obtain ⟨Am, cm, rfl⟩ := Kd.S_slice hS
  have SM := mk0 hS
  have HD := mk0 hb
  clear hS hb
  go_wp2_with (first
    | ((with_reducible refine gate_dst (N := 6) rfl ?_); refine box_event ?hg (N := 6) ?hd (cs := #[.slice none 0 0]) (t := 24) ?hr ?_; (case hd => rfl); (case hg => rfl); (case hr => first | (go_simp; done) | (go_simp; rfl)); intro gm hg w6 hbox hb; have BKN := mk0 hbox; have GN := mk0 (Nat.le_trans (below_size HD.out) (Nat.le_of_eq hg.symm)); have n0_ := mk0 (below_step HD.out hb); have n1_ := mk0 (Kd.S_below SM.out hb); clear HD SM; have HD := n0_; have SM := n1_; clear n0_ n1_; have hzn : w6.cell? ⟨gm, 0, none⟩ = some (.slice none 0 0) := (blk_cell BKN.out 0).trans rfl; have hfn := blk_frozen BKN.out 0; clear hb hbox hg))
  have BKM := mk0 (blk_set BKN.out 0 (.slice Am (List.length [[1, 0, 0], [0, 1, 0], [0, 0, 1], [1, 1, 1]]) cm))
  replace HD := mk0 (lT HD.out GN (j := 0) (v := (.slice Am (List.length [[1, 0, 0], [0, 1, 0], [0, 0, 1], [1, 1, 1]]) cm)))
  replace SM := mk0 (Kd.S_mono (Kd.S_far (p := ⟨gm, 0, none⟩) (Kd.S_types SM.out BKN.out (by decide)) (fun _ hk => hk.2) (.slice Am (List.length [[1, 0, 0], [0, 1, 0], [0, 0, 1], [1, 1, 1]]) cm)) (fun _ h_ => h_.1))
  clear BKN GN hzn hfn
  generalize w6.setCell ⟨gm, 0, none⟩ (.slice Am (List.length [[1, 0, 0], [0, 1, 0], [0, 0, 1], [1, 1, 1]]) cm) = X at BKM HD SM ⊢
  replace OX := mk0 (blk_below OX.out HD.out)
  refine start_ (n := 12) (S := fun w' => w'.cell? ⟨gm, 0, none⟩ = some (.slice Am (List.length [[1, 0, 0], [0, 1, 0], [0, 0, 1], [1, 1, 1]]) cm) ∧ w'.cell? ⟨V.heap.size + 1 + 1 + 1 + 1 + 1 + 1 + 1 + 1 + 1 + 1 + 1 + 1 + 1 + 1 + 1 + 1 + 1 + 1 + 1 + 1, 4, none⟩ = some (.slice (some ⟨V.heap.size + 1 + 1 + 1 + 1 + 1 + 1 + 1 + 1 + 1 + 1 + 1 + 1 + 1 + 1 + 1 + 1 + 1 + 1 + 1, 0, none⟩) 4 4)) (ds := []) gtab7_q0 (by kernel_rfl) rfl rfl ⟨(blk_cell BKM.out 0).trans rfl, (blk_cell OX.out 4).trans rfl⟩ (fun hHeld => ?_); refine with_tabW gtab7_tab gtab7_bits (fun HT_ HW_ => ?_)
  replace BKM := mk0 (bD BKM.out)
  replace OX := mk0 (bD OX.out)
  replace HD := mk0 (lD HD.out)
  replace SM := mk0 (sD SM.out)
  generalize X.drew = Y at BKM OX HD SM hHeld ⊢
  refine pure_ (i := 0) (N := some 53) (v := ?_) (a' := ?_) gtab7_q1 rfl rfl (any_of HT_.out (by kernel_rfl)) (fun _ _ _ h => h) (Or.inl ⟨by rfl, ?_⟩) ?_ ?_
  rotate_left
  · intro w'
    go_simp
    with_reducible rfl
  rotate_left
  · simp only [Act.put, List.setIfInBounds_toArray, List.set_cons_zero, List.set_cons_succ, i64_w]
    rfl
  refine one_ (i := 1) (N := some 54) gtab7_q2 rfl rfl (one_of HT_.out (by kernel_rfl)) (by decide) (fun K hK => ?_)
  refine goes_ Try.func35 (by kernel_rfl) rfl #[.int .i64 0] (by rfl) rfl rfl (by (try simp only [List.map_toArray, List.map_cons, List.map_nil]); first | done | rfl) ?_
  with_reducible refine (GBase.ossuarylaw0_Num.calls 0 0 _ rfl).mono ?_
  rintro e w' ⟨rfl, ⟨nd, rfl⟩⟩
  refine ⟨_, rfl, ?_⟩
  replace BKM := mk0 (bN BKM.out nd)
  replace OX := mk0 (bN OX.out nd)
  replace HD := mk0 (lN HD.out nd)
  replace SM := mk0 (sN SM.out nd)
  generalize Y.drewN nd = Z at BKM OX HD SM ⊢
  clear hHeld
  refine hK.out _ _ ⟨(blk_cell BKM.out 0).trans rfl, (blk_cell OX.out 4).trans rfl⟩ (fun hHeld => ?_)
  clear hK K
  refine norm_ (a' := ?_) ?_ ?_
  rotate_left
  · show Act.put _ (some 54) _ = _
    simp only [Act.put, List.setIfInBounds_toArray, List.set_cons_zero, List.set_cons_succ, i64_w]
    rfl
  refine pure_ (i := 2) (N := some 55) (v := ?_) (a' := ?_) gtab7_q3 rfl rfl (any_of HT_.out (by kernel_rfl)) (fun _ _ _ h => h) (Or.inl ⟨by rfl, ?_⟩) ?_ ?_
  rotate_left
  · intro w'
    go_simp
    with_reducible rfl
  rotate_left
  · simp only [Act.put, List.setIfInBounds_toArray, List.set_cons_zero, List.set_cons_succ, i64_w]
    rfl
  refine pure_ (i := 3) (N := some 56) (v := ?_) (a' := ?_) gtab7_q4 rfl rfl (any_of HT_.out (by kernel_rfl)) (fun _ _ _ h => h) (Or.inl ⟨by rfl, ?_⟩) ?_ ?_
  rotate_left
  · intro w'
    go_simp
    with_reducible rfl
  rotate_left
  · simp only [Act.put, List.setIfInBounds_toArray, List.set_cons_zero, List.set_cons_succ, i64_w]
    rfl
  refine pure_ (i := 5) (N := some 58) (v := ?_) (a' := ?_) gtab7_q5 rfl rfl (any_of HT_.out (by kernel_rfl)) (fun _ _ _ h => h) (Or.inl ⟨by rfl, ?_⟩) ?_ ?_
  rotate_left
  · intro w'
    go_simp
    with_reducible rfl
  rotate_left
  · simp only [Act.put, List.setIfInBounds_toArray, List.set_cons_zero, List.set_cons_succ, i64_w]
    rfl
  refine pure_ (i := 6) (N := some 59) (v := ?_) (a' := ?_) gtab7_q6 rfl rfl (any_of HT_.out (by kernel_rfl)) (fun _ _ _ h => h) (Or.inl ⟨by rfl, ?_⟩) ?_ ?_
  rotate_left
  · intro w'
    go_simp
    with_reducible rfl
  rotate_left
  · simp only [Act.put, List.setIfInBounds_toArray, List.set_cons_zero, List.set_cons_succ, i64_w]
    rfl
  refine pure_ (i := 7) (N := some 60) (v := ?_) (a' := ?_) gtab7_q7 rfl rfl (any_of HT_.out (by kernel_rfl)) (fun _ _ _ h => h) (Or.inl ⟨by rfl, ?_⟩) ?_ ?_
  rotate_left
  · intro w'
    go_simp
    with_reducible rfl
  rotate_left
  · simp only [Act.put, List.setIfInBounds_toArray, List.set_cons_zero, List.set_cons_succ, i64_w]
    rfl
  refine take_ (i := 4) (N := some 57) (v := ?_) (a' := ?_) gtab7_q8 rfl rfl (take_ofW HT_.out HW_.out (by kernel_rfl)) (fun _ _ _ h => h) (Or.inl ⟨by rfl, ?_⟩) hHeld ?_ ?_
  rotate_left
  · rintro w' ⟨s0, s1⟩
    go_simp
    with_reducible rfl
  rotate_left
  · simp only [Act.put, List.setIfInBounds_toArray, List.set_cons_zero, List.set_cons_succ, i64_w]
    rfl
  refine take_ (i := 8) (N := some 61) (v := ?_) (a' := ?_) gtab7_q9 rfl rfl (take_ofW HT_.out HW_.out (by kernel_rfl)) (fun _ _ _ h => h) (Or.inl ⟨by rfl, ?_⟩) hHeld ?_ ?_
  rotate_left
  · rintro w' ⟨s0, s1⟩
    go_simp
    with_reducible rfl
  rotate_left
  · simp only [Act.put, List.setIfInBounds_toArray, List.set_cons_zero, List.set_cons_succ, i64_w]
    rfl
  refine one_ (i := 9) (N := some 62) gtab7_q10 rfl rfl (one_of HT_.out (by kernel_rfl)) (by decide) (fun K hK => ?_)
  refine goes_ Try.func34 (by kernel_rfl) rfl #[.agg #[.slice Am (List.length [[1, 0, 0], [0, 1, 0], [0, 0, 1], [1, 1, 1]]) cm], .agg #[.slice (some ⟨V.heap.size + 1 + 1 + 1 + 1 + 1 + 1 + 1 + 1 + 1 + 1 + 1 + 1 + 1 + 1 + 1 + 1 + 1 + 1 + 1, 0, none⟩) 4 4]] (by rfl) rfl rfl (by (try simp only [List.map_toArray, List.map_cons, List.map_nil]); first | done | rfl) ?_
  refine (GBase.ossuarylaw0_SameMatrix.calls k _ _ [[1, 0, 0], [0, 1, 0], [0, 0, 1], [1, 1, 1]] _ _ [[1, 0, 0], [0, 1, 0], [0, 0, 1], [1, 1, 1]] true _ (Kd.S_reads' SM.out).2.2 (Kd.S_reads' SM.out).2.1 (Kd.C_below HMt.out HD.out) (Nat.le_refl _) E2.out).mono ?_
  rintro e Z2 ⟨rfl, hb⟩
  refine ⟨_, rfl, ?_⟩
  replace BKM := mk0 (blk_below BKM.out hb)
  replace OX := mk0 (blk_below OX.out hb)
  replace HD := mk0 (below_step HD.out hb)
  clear hHeld hb SM
  refine hK.out _ _ ⟨(blk_cell BKM.out 0).trans rfl, (blk_cell OX.out 4).trans rfl⟩ (fun hHeld => ?_)
  clear hK K
  refine norm_ (a' := ?_) ?_ ?_
  rotate_left
  · show Act.put _ (some 62) _ = _
    simp only [Act.put, List.setIfInBounds_toArray, List.set_cons_zero, List.set_cons_succ, i64_w]
    rfl
  refine pure_ (i := 10) (N := some 63) (v := ?_) (a' := ?_) gtab7_q11 rfl rfl (any_of HT_.out (by kernel_rfl)) (fun _ _ _ h => h) (Or.inl ⟨by rfl, ?_⟩) ?_ ?_
  rotate_left
  · intro w'
    go_simp
    with_reducible rfl
  rotate_left
  · simp only [Act.put, List.setIfInBounds_toArray, List.set_cons_zero, List.set_cons_succ, i64_w]
    rfl
  refine pure_ (i := 11) (N := some 2) (v := ?_) (a' := ?_) gtab7_q12 rfl rfl (any_of HT_.out (by kernel_rfl)) (fun _ _ _ h => h) (Or.inl ⟨by rfl, ?_⟩) ?_ ?_
  rotate_left
  · intro w'
    go_simp
    with_reducible rfl
  rotate_left
  · simp only [Act.put, List.setIfInBounds_toArray, List.set_cons_zero, List.set_cons_succ, i64_w]
    rfl
  refine done_ (done_of HT_.out (by kernel_rfl)) ?_
  clear HT_ HW_
  try go_wp2
  go_ret
  exact ⟨rfl, by repeat (first | exact below_step HB.out HD.out | apply lN | apply lA | apply lD)⟩
end Go.Proofs.Ytaahnicjjpddjaa.GenW
