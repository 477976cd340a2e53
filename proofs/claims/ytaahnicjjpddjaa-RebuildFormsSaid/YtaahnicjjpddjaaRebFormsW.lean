/- The law of the forms that rebuilding refuses: the call's walk, by hand. -/
import Derived.Test.YtaahnicjjpddjaaGEnc3
import Derived.Test.YtaahnicjjpddjaaGRebuildAll1
namespace Go.Proofs.Ytaahnicjjpddjaa.RebW
open Go.RowKit Go.Proofs.YtaahnicjjpddjaaW.PrintWords Go.Proofs.YtaahnicjjpddjaaW.PrintLast Go.Proofs.YtaahnicjjpddjaaW.PrintMore Go.Proofs.Ytaahnicjjpddjaa.Fn Go.Proofs.Ytaahnicjjpddjaa.GRebuildAll
set_option linter.unusedVariables false
set_option linter.unusedSimpArgs false

theorem seen_ {P : Program} {c : Code} {Q : Exit → Act → World → Prop} {a : Act} {w : World} (F : World → Prop) (hF : F w) (h : ∀ W, F W → Code.wp P c Q a W) : Code.wp P c Q a w := h w hF
theorem below_all (w : World) (os : List Obj) : Below w.heap.size w (os.foldl World.alloc w) := by
  have h : ∀ (os : List Obj) (W : World), Below w.heap.size w W → Below w.heap.size w (os.foldl World.alloc W) := by
    intro os
    induction os with
    | nil => exact fun _ h => h
    | cons o os ih => exact fun W h => ih _ (lA h o)
  exact h os w (Below.refl _ _)
theorem put_at (w : World) (os : List Obj) (i : Nat) (h : i < os.length) : (os.foldl World.alloc w).heap[w.heap.size + i]? = some os[i] := by
  induction os generalizing w i with
  | nil => simp at h
  | cons o os ih =>
    cases i with
    | zero =>
      have hb := below_all (w.alloc o) os
      exact blk_below (blk_new w o) hb
    | succ i =>
      have := ih (w.alloc o) i (by simpa using h)
      rw [World.size_alloc] at this
      rw [show w.heap.size + (i + 1) = w.heap.size + 1 + i by omega]
      exact this
def reb_T9 : Bool × List (List Nat × List Nat) := (true, [([], []), ([], []), ([0, 1], [0, 1]), ([2], [2]), ([], []), ([], []), ([4, 5], [4, 5]), ([6], [6]), ([], []), ([], []), ([8, 9], [8, 9]), ([10], [10]), ([3, 7, 11], [3, 7, 11]), ([12], [12]), ([13], [13]), ([13], [13]), ([14, 12, 0, 1, 2, 3, 4, 5, 6, 7, 8, 9, 10, 11, 12, 13, 14], [14]), ([15, 16, 0, 1, 2, 3, 4, 5, 6, 7, 8, 9, 10, 11, 12, 13, 14, 15, 16], [15])])
def reb_B9 : List Nat := [0, 0, 3, 7, 0, 0, 48, 112, 0, 0, 768, 1792, 4095, 8191, 16383, 16383, 32767, 131071]
theorem reb_tab9 : rtab .any (opsOf Try.f25 9) = reb_T9 := by kernel_rfl
theorem reb_bits9 : waitsOk reb_T9.2 reb_B9 = true := by kernel_rfl
theorem C_str {w : World} {g t : Nat} (xs : List ByteArray) (h : w.heap[g]? = some (.cells (xs.map Value.string).toArray t (0, 0))) (hn : xs.length ≤ 100) : Kd.C Kd.string w (some ⟨g, 0, none⟩) xs.length xs :=
  Kd.C_of_reads (d := ByteArray.empty) ⟨rfl, by omega, fun _ => ⟨_, rfl, fun j hj => by
    have hc := blk_cell h j
    rw [show (Addr.add ⟨g, 0, none⟩ j) = ⟨g, j, none⟩ from (by simp [Addr.add]; try exact fun h => h.symm), hc, List.getElem?_toArray, List.getElem?_map, List.getElem?_eq_getElem hj, List.getD_eq_getElem?_getD, List.getElem?_eq_getElem hj]
    rfl⟩⟩
theorem C_boo {w : World} {g t : Nat} (xs : List Bool) (h : w.heap[g]? = some (.cells (xs.map Value.bool).toArray t (0, 0))) (hn : xs.length ≤ 100) : Kd.C Kd.bool w (some ⟨g, 0, none⟩) xs.length xs :=
  Kd.C_of_reads (d := false) ⟨rfl, by omega, fun _ => ⟨_, rfl, fun j hj => by
    have hc := blk_cell h j
    rw [show (Addr.add ⟨g, 0, none⟩ j) = ⟨g, j, none⟩ from (by simp [Addr.add]; try exact fun h => h.symm), hc, List.getElem?_toArray, List.getElem?_map, List.getElem?_eq_getElem hj, List.getD_eq_getElem?_getD, List.getElem?_eq_getElem hj]
    rfl⟩⟩
set_option maxHeartbeats 8000000 in
set_option maxRecDepth 100000 in
theorem walk0 (k : Nat) (a0 a1 b : Int) (w : World) (h5 : ossuarylaw8_awake.f k = some true) (hb : Go.bits .and .i64 a1 1023 = b) (hk : wrap64 (Int.tmod (IntKind.u64.wrap a0) 3) = 0) (hb1 : wrap64 (1 + b) = 1 + b) (hb2 : wrap64 (-(1 + b)) = -(1 + b))
    (e1 : GEnc.rebuild_Rebuild.f k (-(1 + b)) 0 [(⟨#[97]⟩ : ByteArray)] [true] = some ([], 800)) (e2 : GEnc.rebuild_Rebuild.f k 2 1 [(⟨#[97]⟩ : ByteArray), (⟨#[98]⟩ : ByteArray), (⟨#[99]⟩ : ByteArray)] [false, true, false] = some ([], 801)) :
    Calls Try.prog 25 #[.int .i64 a0, .int .i64 a1] w fun e w' => e = .returned (.bool true) ∧ Below w.heap.size w w' := by
  have hu51 := Try.underlying51
  have A5 := mk0 h5
  have E1 := mk0 e1
  have E2 := mk0 e2
  have HB := mk0 (Below.refl w.heap.size w)
  clear h5 e1 e2
  go_enter Try.func25, Try.ntmps25
  go_wp2_with (first
    | ((with_reducible refine gCa (f := 61) rfl ?_); refine goesL_ (some 15) rfl rfl Try.func61 (by kernel_rfl) rfl #[] rfl (by (try simp only [List.map_toArray, List.map_nil]); first | done | rfl) ?_; (with_reducible refine (ossuarylaw8_awake.calls k true _ A5.out).mono ?_); rintro e w1 ⟨rfl, hb⟩; refine ⟨_, rfl, ?_⟩; have n0_ := mk0 (below_step HB.out hb); clear HB; have HB := n0_; clear n0_ hb))
  obtain ⟨os_, hos_⟩ : ∃ os : List Obj, os = [.cells #[.int .i64 2, .int .i64 1] 51 (0, 0), .cells #[.int .i64 (-(1 + b)), .int .i64 0, .int .i64 2, .int .i64 1, .int .i64 2, .int .i64 1] 51 (0, 0), .cells #[.string (⟨#[97]⟩ : ByteArray)] 9 (0, 0), .cells #[.string (⟨#[97]⟩ : ByteArray), .string (⟨#[98]⟩ : ByteArray)] 9 (0, 0), .cells #[.string (⟨#[97]⟩ : ByteArray), .string (⟨#[98, 99]⟩ : ByteArray), .string (⟨#[100]⟩ : ByteArray)] 9 (0, 0), .cells #[.slice (some ⟨w1.heap.size + 1 + 1, 0, none⟩) 1 1, .slice (some ⟨w1.heap.size + 1 + 1 + 1, 0, none⟩) 2 2, .slice (some ⟨w1.heap.size + 1 + 1 + 1 + 1, 0, none⟩) 3 3] 58 (0, 0), .cells #[.bool true] 4 (0, 0), .cells #[.bool true, .bool true] 4 (0, 0), .cells #[.bool true, .bool true, .bool true] 4 (0, 0), .cells #[.slice (some ⟨w1.heap.size + 1 + 1 + 1 + 1 + 1 + 1, 0, none⟩) 1 1, .slice (some ⟨w1.heap.size + 1 + 1 + 1 + 1 + 1 + 1 + 1, 0, none⟩) 2 2, .slice (some ⟨w1.heap.size + 1 + 1 + 1 + 1 + 1 + 1 + 1 + 1, 0, none⟩) 3 3] 68 (0, 0)] := ⟨_, rfl⟩
  refine seen_ (F := fun W => Below w1.heap.size w1 W ∧ W.heap[w1.heap.size]? = some (.cells #[.int .i64 2, .int .i64 1] 51 (0, 0)) ∧ W.heap[w1.heap.size + 1]? = some (.cells #[.int .i64 (-(1 + b)), .int .i64 0, .int .i64 2, .int .i64 1, .int .i64 2, .int .i64 1] 51 (0, 0)) ∧ W.heap[w1.heap.size + 1 + 1]? = some (.cells #[.string (⟨#[97]⟩ : ByteArray)] 9 (0, 0)) ∧ W.heap[w1.heap.size + 1 + 1 + 1]? = some (.cells #[.string (⟨#[97]⟩ : ByteArray), .string (⟨#[98]⟩ : ByteArray)] 9 (0, 0)) ∧ W.heap[w1.heap.size + 1 + 1 + 1 + 1]? = some (.cells #[.string (⟨#[97]⟩ : ByteArray), .string (⟨#[98, 99]⟩ : ByteArray), .string (⟨#[100]⟩ : ByteArray)] 9 (0, 0)) ∧ W.heap[w1.heap.size + 1 + 1 + 1 + 1 + 1]? = some (.cells #[.slice (some ⟨w1.heap.size + 1 + 1, 0, none⟩) 1 1, .slice (some ⟨w1.heap.size + 1 + 1 + 1, 0, none⟩) 2 2, .slice (some ⟨w1.heap.size + 1 + 1 + 1 + 1, 0, none⟩) 3 3] 58 (0, 0)) ∧ W.heap[w1.heap.size + 1 + 1 + 1 + 1 + 1 + 1]? = some (.cells #[.bool true] 4 (0, 0)) ∧ W.heap[w1.heap.size + 1 + 1 + 1 + 1 + 1 + 1 + 1]? = some (.cells #[.bool true, .bool true] 4 (0, 0)) ∧ W.heap[w1.heap.size + 1 + 1 + 1 + 1 + 1 + 1 + 1 + 1]? = some (.cells #[.bool true, .bool true, .bool true] 4 (0, 0)) ∧ W.heap[w1.heap.size + 1 + 1 + 1 + 1 + 1 + 1 + 1 + 1 + 1]? = some (.cells #[.slice (some ⟨w1.heap.size + 1 + 1 + 1 + 1 + 1 + 1, 0, none⟩) 1 1, .slice (some ⟨w1.heap.size + 1 + 1 + 1 + 1 + 1 + 1 + 1, 0, none⟩) 2 2, .slice (some ⟨w1.heap.size + 1 + 1 + 1 + 1 + 1 + 1 + 1 + 1, 0, none⟩) 3 3] 68 (0, 0))) ?_ (fun W hW => ?_)
  · subst hos_
    exact ⟨below_all w1 [.cells #[.int .i64 2, .int .i64 1] 51 (0, 0), .cells #[.int .i64 (-(1 + b)), .int .i64 0, .int .i64 2, .int .i64 1, .int .i64 2, .int .i64 1] 51 (0, 0), .cells #[.string (⟨#[97]⟩ : ByteArray)] 9 (0, 0), .cells #[.string (⟨#[97]⟩ : ByteArray), .string (⟨#[98]⟩ : ByteArray)] 9 (0, 0), .cells #[.string (⟨#[97]⟩ : ByteArray), .string (⟨#[98, 99]⟩ : ByteArray), .string (⟨#[100]⟩ : ByteArray)] 9 (0, 0), .cells #[.slice (some ⟨w1.heap.size + 1 + 1, 0, none⟩) 1 1, .slice (some ⟨w1.heap.size + 1 + 1 + 1, 0, none⟩) 2 2, .slice (some ⟨w1.heap.size + 1 + 1 + 1 + 1, 0, none⟩) 3 3] 58 (0, 0), .cells #[.bool true] 4 (0, 0), .cells #[.bool true, .bool true] 4 (0, 0), .cells #[.bool true, .bool true, .bool true] 4 (0, 0), .cells #[.slice (some ⟨w1.heap.size + 1 + 1 + 1 + 1 + 1 + 1, 0, none⟩) 1 1, .slice (some ⟨w1.heap.size + 1 + 1 + 1 + 1 + 1 + 1 + 1, 0, none⟩) 2 2, .slice (some ⟨w1.heap.size + 1 + 1 + 1 + 1 + 1 + 1 + 1 + 1, 0, none⟩) 3 3] 68 (0, 0)], put_at w1 [.cells #[.int .i64 2, .int .i64 1] 51 (0, 0), .cells #[.int .i64 (-(1 + b)), .int .i64 0, .int .i64 2, .int .i64 1, .int .i64 2, .int .i64 1] 51 (0, 0), .cells #[.string (⟨#[97]⟩ : ByteArray)] 9 (0, 0), .cells #[.string (⟨#[97]⟩ : ByteArray), .string (⟨#[98]⟩ : ByteArray)] 9 (0, 0), .cells #[.string (⟨#[97]⟩ : ByteArray), .string (⟨#[98, 99]⟩ : ByteArray), .string (⟨#[100]⟩ : ByteArray)] 9 (0, 0), .cells #[.slice (some ⟨w1.heap.size + 1 + 1, 0, none⟩) 1 1, .slice (some ⟨w1.heap.size + 1 + 1 + 1, 0, none⟩) 2 2, .slice (some ⟨w1.heap.size + 1 + 1 + 1 + 1, 0, none⟩) 3 3] 58 (0, 0), .cells #[.bool true] 4 (0, 0), .cells #[.bool true, .bool true] 4 (0, 0), .cells #[.bool true, .bool true, .bool true] 4 (0, 0), .cells #[.slice (some ⟨w1.heap.size + 1 + 1 + 1 + 1 + 1 + 1, 0, none⟩) 1 1, .slice (some ⟨w1.heap.size + 1 + 1 + 1 + 1 + 1 + 1 + 1, 0, none⟩) 2 2, .slice (some ⟨w1.heap.size + 1 + 1 + 1 + 1 + 1 + 1 + 1 + 1, 0, none⟩) 3 3] 68 (0, 0)] 0 (by show 0 < 10; decide), put_at w1 [.cells #[.int .i64 2, .int .i64 1] 51 (0, 0), .cells #[.int .i64 (-(1 + b)), .int .i64 0, .int .i64 2, .int .i64 1, .int .i64 2, .int .i64 1] 51 (0, 0), .cells #[.string (⟨#[97]⟩ : ByteArray)] 9 (0, 0), .cells #[.string (⟨#[97]⟩ : ByteArray), .string (⟨#[98]⟩ : ByteArray)] 9 (0, 0), .cells #[.string (⟨#[97]⟩ : ByteArray), .string (⟨#[98, 99]⟩ : ByteArray), .string (⟨#[100]⟩ : ByteArray)] 9 (0, 0), .cells #[.slice (some ⟨w1.heap.size + 1 + 1, 0, none⟩) 1 1, .slice (some ⟨w1.heap.size + 1 + 1 + 1, 0, none⟩) 2 2, .slice (some ⟨w1.heap.size + 1 + 1 + 1 + 1, 0, none⟩) 3 3] 58 (0, 0), .cells #[.bool true] 4 (0, 0), .cells #[.bool true, .bool true] 4 (0, 0), .cells #[.bool true, .bool true, .bool true] 4 (0, 0), .cells #[.slice (some ⟨w1.heap.size + 1 + 1 + 1 + 1 + 1 + 1, 0, none⟩) 1 1, .slice (some ⟨w1.heap.size + 1 + 1 + 1 + 1 + 1 + 1 + 1, 0, none⟩) 2 2, .slice (some ⟨w1.heap.size + 1 + 1 + 1 + 1 + 1 + 1 + 1 + 1, 0, none⟩) 3 3] 68 (0, 0)] 1 (by show 1 < 10; decide), put_at w1 [.cells #[.int .i64 2, .int .i64 1] 51 (0, 0), .cells #[.int .i64 (-(1 + b)), .int .i64 0, .int .i64 2, .int .i64 1, .int .i64 2, .int .i64 1] 51 (0, 0), .cells #[.string (⟨#[97]⟩ : ByteArray)] 9 (0, 0), .cells #[.string (⟨#[97]⟩ : ByteArray), .string (⟨#[98]⟩ : ByteArray)] 9 (0, 0), .cells #[.string (⟨#[97]⟩ : ByteArray), .string (⟨#[98, 99]⟩ : ByteArray), .string (⟨#[100]⟩ : ByteArray)] 9 (0, 0), .cells #[.slice (some ⟨w1.heap.size + 1 + 1, 0, none⟩) 1 1, .slice (some ⟨w1.heap.size + 1 + 1 + 1, 0, none⟩) 2 2, .slice (some ⟨w1.heap.size + 1 + 1 + 1 + 1, 0, none⟩) 3 3] 58 (0, 0), .cells #[.bool true] 4 (0, 0), .cells #[.bool true, .bool true] 4 (0, 0), .cells #[.bool true, .bool true, .bool true] 4 (0, 0), .cells #[.slice (some ⟨w1.heap.size + 1 + 1 + 1 + 1 + 1 + 1, 0, none⟩) 1 1, .slice (some ⟨w1.heap.size + 1 + 1 + 1 + 1 + 1 + 1 + 1, 0, none⟩) 2 2, .slice (some ⟨w1.heap.size + 1 + 1 + 1 + 1 + 1 + 1 + 1 + 1, 0, none⟩) 3 3] 68 (0, 0)] 2 (by show 2 < 10; decide), put_at w1 [.cells #[.int .i64 2, .int .i64 1] 51 (0, 0), .cells #[.int .i64 (-(1 + b)), .int .i64 0, .int .i64 2, .int .i64 1, .int .i64 2, .int .i64 1] 51 (0, 0), .cells #[.string (⟨#[97]⟩ : ByteArray)] 9 (0, 0), .cells #[.string (⟨#[97]⟩ : ByteArray), .string (⟨#[98]⟩ : ByteArray)] 9 (0, 0), .cells #[.string (⟨#[97]⟩ : ByteArray), .string (⟨#[98, 99]⟩ : ByteArray), .string (⟨#[100]⟩ : ByteArray)] 9 (0, 0), .cells #[.slice (some ⟨w1.heap.size + 1 + 1, 0, none⟩) 1 1, .slice (some ⟨w1.heap.size + 1 + 1 + 1, 0, none⟩) 2 2, .slice (some ⟨w1.heap.size + 1 + 1 + 1 + 1, 0, none⟩) 3 3] 58 (0, 0), .cells #[.bool true] 4 (0, 0), .cells #[.bool true, .bool true] 4 (0, 0), .cells #[.bool true, .bool true, .bool true] 4 (0, 0), .cells #[.slice (some ⟨w1.heap.size + 1 + 1 + 1 + 1 + 1 + 1, 0, none⟩) 1 1, .slice (some ⟨w1.heap.size + 1 + 1 + 1 + 1 + 1 + 1 + 1, 0, none⟩) 2 2, .slice (some ⟨w1.heap.size + 1 + 1 + 1 + 1 + 1 + 1 + 1 + 1, 0, none⟩) 3 3] 68 (0, 0)] 3 (by show 3 < 10; decide), put_at w1 [.cells #[.int .i64 2, .int .i64 1] 51 (0, 0), .cells #[.int .i64 (-(1 + b)), .int .i64 0, .int .i64 2, .int .i64 1, .int .i64 2, .int .i64 1] 51 (0, 0), .cells #[.string (⟨#[97]⟩ : ByteArray)] 9 (0, 0), .cells #[.string (⟨#[97]⟩ : ByteArray), .string (⟨#[98]⟩ : ByteArray)] 9 (0, 0), .cells #[.string (⟨#[97]⟩ : ByteArray), .string (⟨#[98, 99]⟩ : ByteArray), .string (⟨#[100]⟩ : ByteArray)] 9 (0, 0), .cells #[.slice (some ⟨w1.heap.size + 1 + 1, 0, none⟩) 1 1, .slice (some ⟨w1.heap.size + 1 + 1 + 1, 0, none⟩) 2 2, .slice (some ⟨w1.heap.size + 1 + 1 + 1 + 1, 0, none⟩) 3 3] 58 (0, 0), .cells #[.bool true] 4 (0, 0), .cells #[.bool true, .bool true] 4 (0, 0), .cells #[.bool true, .bool true, .bool true] 4 (0, 0), .cells #[.slice (some ⟨w1.heap.size + 1 + 1 + 1 + 1 + 1 + 1, 0, none⟩) 1 1, .slice (some ⟨w1.heap.size + 1 + 1 + 1 + 1 + 1 + 1 + 1, 0, none⟩) 2 2, .slice (some ⟨w1.heap.size + 1 + 1 + 1 + 1 + 1 + 1 + 1 + 1, 0, none⟩) 3 3] 68 (0, 0)] 4 (by show 4 < 10; decide), put_at w1 [.cells #[.int .i64 2, .int .i64 1] 51 (0, 0), .cells #[.int .i64 (-(1 + b)), .int .i64 0, .int .i64 2, .int .i64 1, .int .i64 2, .int .i64 1] 51 (0, 0), .cells #[.string (⟨#[97]⟩ : ByteArray)] 9 (0, 0), .cells #[.string (⟨#[97]⟩ : ByteArray), .string (⟨#[98]⟩ : ByteArray)] 9 (0, 0), .cells #[.string (⟨#[97]⟩ : ByteArray), .string (⟨#[98, 99]⟩ : ByteArray), .string (⟨#[100]⟩ : ByteArray)] 9 (0, 0), .cells #[.slice (some ⟨w1.heap.size + 1 + 1, 0, none⟩) 1 1, .slice (some ⟨w1.heap.size + 1 + 1 + 1, 0, none⟩) 2 2, .slice (some ⟨w1.heap.size + 1 + 1 + 1 + 1, 0, none⟩) 3 3] 58 (0, 0), .cells #[.bool true] 4 (0, 0), .cells #[.bool true, .bool true] 4 (0, 0), .cells #[.bool true, .bool true, .bool true] 4 (0, 0), .cells #[.slice (some ⟨w1.heap.size + 1 + 1 + 1 + 1 + 1 + 1, 0, none⟩) 1 1, .slice (some ⟨w1.heap.size + 1 + 1 + 1 + 1 + 1 + 1 + 1, 0, none⟩) 2 2, .slice (some ⟨w1.heap.size + 1 + 1 + 1 + 1 + 1 + 1 + 1 + 1, 0, none⟩) 3 3] 68 (0, 0)] 5 (by show 5 < 10; decide), put_at w1 [.cells #[.int .i64 2, .int .i64 1] 51 (0, 0), .cells #[.int .i64 (-(1 + b)), .int .i64 0, .int .i64 2, .int .i64 1, .int .i64 2, .int .i64 1] 51 (0, 0), .cells #[.string (⟨#[97]⟩ : ByteArray)] 9 (0, 0), .cells #[.string (⟨#[97]⟩ : ByteArray), .string (⟨#[98]⟩ : ByteArray)] 9 (0, 0), .cells #[.string (⟨#[97]⟩ : ByteArray), .string (⟨#[98, 99]⟩ : ByteArray), .string (⟨#[100]⟩ : ByteArray)] 9 (0, 0), .cells #[.slice (some ⟨w1.heap.size + 1 + 1, 0, none⟩) 1 1, .slice (some ⟨w1.heap.size + 1 + 1 + 1, 0, none⟩) 2 2, .slice (some ⟨w1.heap.size + 1 + 1 + 1 + 1, 0, none⟩) 3 3] 58 (0, 0), .cells #[.bool true] 4 (0, 0), .cells #[.bool true, .bool true] 4 (0, 0), .cells #[.bool true, .bool true, .bool true] 4 (0, 0), .cells #[.slice (some ⟨w1.heap.size + 1 + 1 + 1 + 1 + 1 + 1, 0, none⟩) 1 1, .slice (some ⟨w1.heap.size + 1 + 1 + 1 + 1 + 1 + 1 + 1, 0, none⟩) 2 2, .slice (some ⟨w1.heap.size + 1 + 1 + 1 + 1 + 1 + 1 + 1 + 1, 0, none⟩) 3 3] 68 (0, 0)] 6 (by show 6 < 10; decide), put_at w1 [.cells #[.int .i64 2, .int .i64 1] 51 (0, 0), .cells #[.int .i64 (-(1 + b)), .int .i64 0, .int .i64 2, .int .i64 1, .int .i64 2, .int .i64 1] 51 (0, 0), .cells #[.string (⟨#[97]⟩ : ByteArray)] 9 (0, 0), .cells #[.string (⟨#[97]⟩ : ByteArray), .string (⟨#[98]⟩ : ByteArray)] 9 (0, 0), .cells #[.string (⟨#[97]⟩ : ByteArray), .string (⟨#[98, 99]⟩ : ByteArray), .string (⟨#[100]⟩ : ByteArray)] 9 (0, 0), .cells #[.slice (some ⟨w1.heap.size + 1 + 1, 0, none⟩) 1 1, .slice (some ⟨w1.heap.size + 1 + 1 + 1, 0, none⟩) 2 2, .slice (some ⟨w1.heap.size + 1 + 1 + 1 + 1, 0, none⟩) 3 3] 58 (0, 0), .cells #[.bool true] 4 (0, 0), .cells #[.bool true, .bool true] 4 (0, 0), .cells #[.bool true, .bool true, .bool true] 4 (0, 0), .cells #[.slice (some ⟨w1.heap.size + 1 + 1 + 1 + 1 + 1 + 1, 0, none⟩) 1 1, .slice (some ⟨w1.heap.size + 1 + 1 + 1 + 1 + 1 + 1 + 1, 0, none⟩) 2 2, .slice (some ⟨w1.heap.size + 1 + 1 + 1 + 1 + 1 + 1 + 1 + 1, 0, none⟩) 3 3] 68 (0, 0)] 7 (by show 7 < 10; decide), put_at w1 [.cells #[.int .i64 2, .int .i64 1] 51 (0, 0), .cells #[.int .i64 (-(1 + b)), .int .i64 0, .int .i64 2, .int .i64 1, .int .i64 2, .int .i64 1] 51 (0, 0), .cells #[.string (⟨#[97]⟩ : ByteArray)] 9 (0, 0), .cells #[.string (⟨#[97]⟩ : ByteArray), .string (⟨#[98]⟩ : ByteArray)] 9 (0, 0), .cells #[.string (⟨#[97]⟩ : ByteArray), .string (⟨#[98, 99]⟩ : ByteArray), .string (⟨#[100]⟩ : ByteArray)] 9 (0, 0), .cells #[.slice (some ⟨w1.heap.size + 1 + 1, 0, none⟩) 1 1, .slice (some ⟨w1.heap.size + 1 + 1 + 1, 0, none⟩) 2 2, .slice (some ⟨w1.heap.size + 1 + 1 + 1 + 1, 0, none⟩) 3 3] 58 (0, 0), .cells #[.bool true] 4 (0, 0), .cells #[.bool true, .bool true] 4 (0, 0), .cells #[.bool true, .bool true, .bool true] 4 (0, 0), .cells #[.slice (some ⟨w1.heap.size + 1 + 1 + 1 + 1 + 1 + 1, 0, none⟩) 1 1, .slice (some ⟨w1.heap.size + 1 + 1 + 1 + 1 + 1 + 1 + 1, 0, none⟩) 2 2, .slice (some ⟨w1.heap.size + 1 + 1 + 1 + 1 + 1 + 1 + 1 + 1, 0, none⟩) 3 3] 68 (0, 0)] 8 (by show 8 < 10; decide), put_at w1 [.cells #[.int .i64 2, .int .i64 1] 51 (0, 0), .cells #[.int .i64 (-(1 + b)), .int .i64 0, .int .i64 2, .int .i64 1, .int .i64 2, .int .i64 1] 51 (0, 0), .cells #[.string (⟨#[97]⟩ : ByteArray)] 9 (0, 0), .cells #[.string (⟨#[97]⟩ : ByteArray), .string (⟨#[98]⟩ : ByteArray)] 9 (0, 0), .cells #[.string (⟨#[97]⟩ : ByteArray), .string (⟨#[98, 99]⟩ : ByteArray), .string (⟨#[100]⟩ : ByteArray)] 9 (0, 0), .cells #[.slice (some ⟨w1.heap.size + 1 + 1, 0, none⟩) 1 1, .slice (some ⟨w1.heap.size + 1 + 1 + 1, 0, none⟩) 2 2, .slice (some ⟨w1.heap.size + 1 + 1 + 1 + 1, 0, none⟩) 3 3] 58 (0, 0), .cells #[.bool true] 4 (0, 0), .cells #[.bool true, .bool true] 4 (0, 0), .cells #[.bool true, .bool true, .bool true] 4 (0, 0), .cells #[.slice (some ⟨w1.heap.size + 1 + 1 + 1 + 1 + 1 + 1, 0, none⟩) 1 1, .slice (some ⟨w1.heap.size + 1 + 1 + 1 + 1 + 1 + 1 + 1, 0, none⟩) 2 2, .slice (some ⟨w1.heap.size + 1 + 1 + 1 + 1 + 1 + 1 + 1 + 1, 0, none⟩) 3 3] 68 (0, 0)] 9 (by show 9 < 10; decide)⟩
  clear hos_ os_
  obtain ⟨hBW, o0, o1, o2, o3, o4, o5, o6, o7, o8, o9⟩ := hW
  have hx0 : W.cell? ⟨w1.heap.size + 1, 0, none⟩ = some (.int .i64 (-(1 + b))) := blk_cell o1 0
  have hx1 : W.cell? ⟨w1.heap.size + 1, 1, none⟩ = some (.int .i64 0) := blk_cell o1 1
  have hx2 : W.cell? ⟨w1.heap.size + 1 + 1 + 1 + 1 + 1, 0, none⟩ = some (.slice (some ⟨w1.heap.size + 1 + 1, 0, none⟩) 1 1) := blk_cell o5 0
  have hx3 : W.cell? ⟨w1.heap.size + 1 + 1 + 1 + 1 + 1 + 1 + 1 + 1 + 1, 0, none⟩ = some (.slice (some ⟨w1.heap.size + 1 + 1 + 1 + 1 + 1 + 1, 0, none⟩) 1 1) := blk_cell o9 0
  have hm_ : Kd.C Kd.string W (some ⟨w1.heap.size + 1 + 1, 0, none⟩) 1 [(⟨#[97]⟩ : ByteArray)] := C_str [(⟨#[97]⟩ : ByteArray)] o2 (by decide)
  have hn_ : Kd.C Kd.bool W (some ⟨w1.heap.size + 1 + 1 + 1 + 1 + 1 + 1, 0, none⟩) 1 [true] := C_boo [true] o6 (by decide)
  have HM := mk0 hm_
  have HV := mk0 hn_
  have HBW := mk0 (below_step HB.out hBW)
  have O0 := mk0 o0
  clear hm_ hn_ hBW o0 o1 o2 o3 o4 o5 o6 o7 o8 o9 HB
  rw [hk]
  refine start_ (n := 18) (S := fun w' => w'.cell? ⟨w1.heap.size + 1, 0, none⟩ = some (.int .i64 (-(1 + b))) ∧ w'.cell? ⟨w1.heap.size + 1, 1, none⟩ = some (.int .i64 0) ∧ w'.cell? ⟨w1.heap.size + 1 + 1 + 1 + 1 + 1, 0, none⟩ = some (.slice (some ⟨w1.heap.size + 1 + 1, 0, none⟩) 1 1) ∧ w'.cell? ⟨w1.heap.size + 1 + 1 + 1 + 1 + 1 + 1 + 1 + 1 + 1, 0, none⟩ = some (.slice (some ⟨w1.heap.size + 1 + 1 + 1 + 1 + 1 + 1, 0, none⟩) 1 1)) (ds := []) #[false, false, false, false, false, false, false, false, false, false, false, false, false, false, false, false, false, false] (by kernel_rfl) rfl rfl ⟨hx0, hx1, hx2, hx3⟩ (fun hHeld => ?_); refine with_tabW reb_tab9 reb_bits9 (fun HT_ HW_ => ?_)
  have n0_ := mk0 (Kd.C_drew HM.out)
  have n1_ := mk0 (Kd.C_drew HV.out)
  have n2_ := mk0 (lD HBW.out)
  have n3_ := mk0 (bD O0.out)
  clear HM HV HBW O0 hx0 hx1 hx2 hx3
  have HM := n0_
  have HV := n1_
  have HBW := n2_
  have O0 := n3_
  clear n0_ n1_ n2_ n3_
  generalize W.drew = W2 at HM HV HBW O0 hHeld ⊢
  refine pure_ (i := 0) (N := some 40) (v := ?_) (a' := ?_) #[true, false, false, false, false, false, false, false, false, false, false, false, false, false, false, false, false, false] rfl rfl (any_of HT_.out (by kernel_rfl)) (fun _ _ _ h => h) (Or.inl ⟨by rfl, ?_⟩) ?_ ?_
  rotate_left
  · intro w'
    go_simp
    with_reducible rfl
  rotate_left
  · simp only [Act.put, List.setIfInBounds_toArray, List.set_cons_zero, List.set_cons_succ, i64_w, i32_w]
    rfl
  refine pure_ (i := 1) (N := some 41) (v := ?_) (a' := ?_) #[true, true, false, false, false, false, false, false, false, false, false, false, false, false, false, false, false, false] rfl rfl (any_of HT_.out (by kernel_rfl)) (fun _ _ _ h => h) (Or.inl ⟨by rfl, ?_⟩) ?_ ?_
  rotate_left
  · intro w'
    go_simp
    with_reducible rfl
  rotate_left
  · simp only [Act.put, List.setIfInBounds_toArray, List.set_cons_zero, List.set_cons_succ, i64_w, i32_w]
    rfl
  refine pure_ (i := 2) (N := some 42) (v := ?_) (a' := ?_) #[true, true, true, false, false, false, false, false, false, false, false, false, false, false, false, false, false, false] rfl rfl (any_of HT_.out (by kernel_rfl)) (fun _ _ _ h => h) (Or.inl ⟨by rfl, ?_⟩) ?_ ?_
  rotate_left
  · intro w'
    go_simp
    with_reducible rfl
  rotate_left
  · simp only [Act.put, List.setIfInBounds_toArray, List.set_cons_zero, List.set_cons_succ, i64_w, i32_w]
    rfl
  refine pure_ (i := 4) (N := some 44) (v := ?_) (a' := ?_) #[true, true, true, false, true, false, false, false, false, false, false, false, false, false, false, false, false, false] rfl rfl (any_of HT_.out (by kernel_rfl)) (fun _ _ _ h => h) (Or.inl ⟨by rfl, ?_⟩) ?_ ?_
  rotate_left
  · intro w'
    go_simp
    with_reducible rfl
  rotate_left
  · simp only [Act.put, List.setIfInBounds_toArray, List.set_cons_zero, List.set_cons_succ, i64_w, i32_w]
    rfl
  refine pure_ (i := 5) (N := some 45) (v := ?_) (a' := ?_) #[true, true, true, false, true, true, false, false, false, false, false, false, false, false, false, false, false, false] rfl rfl (any_of HT_.out (by kernel_rfl)) (fun _ _ _ h => h) (Or.inl ⟨by rfl, ?_⟩) ?_ ?_
  rotate_left
  · intro w'
    go_simp
    with_reducible rfl
  rotate_left
  · simp only [Act.put, List.setIfInBounds_toArray, List.set_cons_zero, List.set_cons_succ, i64_w, i32_w]
    rfl
  refine pure_ (i := 6) (N := some 46) (v := ?_) (a' := ?_) #[true, true, true, false, true, true, true, false, false, false, false, false, false, false, false, false, false, false] rfl rfl (any_of HT_.out (by kernel_rfl)) (fun _ _ _ h => h) (Or.inl ⟨by rfl, ?_⟩) ?_ ?_
  rotate_left
  · intro w'
    go_simp
    with_reducible rfl
  rotate_left
  · simp only [Act.put, List.setIfInBounds_toArray, List.set_cons_zero, List.set_cons_succ, i64_w, i32_w]
    rfl
  refine pure_ (i := 8) (N := some 48) (v := ?_) (a' := ?_) #[true, true, true, false, true, true, true, false, true, false, false, false, false, false, false, false, false, false] rfl rfl (any_of HT_.out (by kernel_rfl)) (fun _ _ _ h => h) (Or.inl ⟨by rfl, ?_⟩) ?_ ?_
  rotate_left
  · intro w'
    go_simp
    with_reducible rfl
  rotate_left
  · simp only [Act.put, List.setIfInBounds_toArray, List.set_cons_zero, List.set_cons_succ, i64_w, i32_w]
    rfl
  refine pure_ (i := 9) (N := some 49) (v := ?_) (a' := ?_) #[true, true, true, false, true, true, true, false, true, true, false, false, false, false, false, false, false, false] rfl rfl (any_of HT_.out (by kernel_rfl)) (fun _ _ _ h => h) (Or.inl ⟨by rfl, ?_⟩) ?_ ?_
  rotate_left
  · intro w'
    go_simp
    with_reducible rfl
  rotate_left
  · simp only [Act.put, List.setIfInBounds_toArray, List.set_cons_zero, List.set_cons_succ, i64_w, i32_w]
    rfl
  refine pure_ (i := 10) (N := some 50) (v := ?_) (a' := ?_) #[true, true, true, false, true, true, true, false, true, true, true, false, false, false, false, false, false, false] rfl rfl (any_of HT_.out (by kernel_rfl)) (fun _ _ _ h => h) (Or.inl ⟨by rfl, ?_⟩) ?_ ?_
  rotate_left
  · intro w'
    go_simp
    with_reducible rfl
  rotate_left
  · simp only [Act.put, List.setIfInBounds_toArray, List.set_cons_zero, List.set_cons_succ, i64_w, i32_w]
    rfl
  refine take_ (i := 3) (N := some 43) (v := ?_) (a' := ?_) #[true, true, true, true, true, true, true, false, true, true, true, false, false, false, false, false, false, false] rfl rfl (take_ofW HT_.out HW_.out (by kernel_rfl)) (fun _ _ _ h => h) (Or.inl ⟨by rfl, ?_⟩) hHeld ?_ ?_
  rotate_left
  · rintro w' ⟨s0, s1, s2, s3⟩
    go_simp
    with_reducible rfl
  rotate_left
  · simp only [Act.put, List.setIfInBounds_toArray, List.set_cons_zero, List.set_cons_succ, i64_w, i32_w]
    rfl
  refine take_ (i := 7) (N := some 47) (v := ?_) (a' := ?_) #[true, true, true, true, true, true, true, true, true, true, true, false, false, false, false, false, false, false] rfl rfl (take_ofW HT_.out HW_.out (by kernel_rfl)) (fun _ _ _ h => h) (Or.inl ⟨by rfl, ?_⟩) hHeld ?_ ?_
  rotate_left
  · rintro w' ⟨s0, s1, s2, s3⟩
    go_simp
    with_reducible rfl
  rotate_left
  · simp only [Act.put, List.setIfInBounds_toArray, List.set_cons_zero, List.set_cons_succ, i64_w, i32_w]
    rfl
  refine take_ (i := 11) (N := some 51) (v := ?_) (a' := ?_) #[true, true, true, true, true, true, true, true, true, true, true, true, false, false, false, false, false, false] rfl rfl (take_ofW HT_.out HW_.out (by kernel_rfl)) (fun _ _ _ h => h) (Or.inl ⟨by rfl, ?_⟩) hHeld ?_ ?_
  rotate_left
  · rintro w' ⟨s0, s1, s2, s3⟩
    go_simp
    with_reducible rfl
  rotate_left
  · simp only [Act.put, List.setIfInBounds_toArray, List.set_cons_zero, List.set_cons_succ, i64_w, i32_w]
    rfl
  refine one_ (i := 12) (N := some 52) #[true, true, true, true, true, true, true, true, true, true, true, true, true, false, false, false, false, false] rfl rfl (one_of HT_.out (by kernel_rfl)) (by decide) (fun K hK => ?_)
  refine goes_ Try.func59 (by kernel_rfl) rfl #[.agg #[.int .i64 (-(1 + b)), .int .i64 0], .slice (some ⟨w1.heap.size + 1 + 1, 0, none⟩) 1 1, .slice (some ⟨w1.heap.size + 1 + 1 + 1 + 1 + 1 + 1, 0, none⟩) 1 1] (by rfl) rfl rfl (by (try simp only [List.map_toArray, List.map_cons, List.map_nil]); first | done | rfl) ?_
  refine (GEnc.rebuild_Rebuild.calls k (-(1 + b)) 0 _ 1 [(⟨#[97]⟩ : ByteArray)] _ 1 [true] [] 800 W2 HM.out (Nat.le_refl _) HV.out (Nat.le_refl _) E1.out).mono ?_
  rintro e W3 ⟨v0, rfl, ho0, hb⟩
  obtain ⟨Aa, ca, rfl⟩ := Kd.R_slice ho0
  have HS0_ := (hb.cell (World.block_lt_of_cell? _ _ (hHeld.1))).trans (hHeld.1)
  have HS1_ := (hb.cell (World.block_lt_of_cell? _ _ (hHeld.2.1))).trans (hHeld.2.1)
  have HS2_ := (hb.cell (World.block_lt_of_cell? _ _ (hHeld.2.2.1))).trans (hHeld.2.2.1)
  have HS3_ := (hb.cell (World.block_lt_of_cell? _ _ (hHeld.2.2.2))).trans (hHeld.2.2.2)
  refine ⟨_, rfl, ?_⟩
  have n2_ := mk0 (below_step HBW.out hb)
  have n3_ := mk0 (blk_below O0.out hb)
  clear HM HV HBW O0 ho0 hb
  have HB := n2_
  have O0 := n3_
  clear n2_ n3_
  refine hK.out _ _ ⟨HS0_, HS1_, HS2_, HS3_⟩ (fun hHeld => ?_)
  clear hK K
  refine norm_ (a' := ?_) ?_ ?_
  rotate_left
  · show Act.put _ (some 52) _ = _
    simp only [Act.put, List.setIfInBounds_toArray, List.set_cons_zero, List.set_cons_succ, i64_w, i32_w]
    rfl
  refine pure_ (i := 13) (N := some 39) (v := ?_) (a' := ?_) #[true, true, true, true, true, true, true, true, true, true, true, true, true, true, false, false, false, false] rfl rfl (any_of HT_.out (by kernel_rfl)) (fun _ _ _ h => h) (Or.inl ⟨by rfl, ?_⟩) ?_ ?_
  rotate_left
  · intro w'
    go_simp
    with_reducible rfl
  rotate_left
  · simp only [Act.put, List.setIfInBounds_toArray, List.set_cons_zero, List.set_cons_succ, i64_w, i32_w]
    rfl
  refine pure_ (i := 14) (N := some 53) (v := ?_) (a' := ?_) #[true, true, true, true, true, true, true, true, true, true, true, true, true, true, true, false, false, false] rfl rfl (any_of HT_.out (by kernel_rfl)) (fun _ _ _ h => h) (Or.inl ⟨by rfl, ?_⟩) ?_ ?_
  rotate_left
  · intro w'
    go_simp
    with_reducible rfl
  rotate_left
  · simp only [Act.put, List.setIfInBounds_toArray, List.set_cons_zero, List.set_cons_succ, i64_w, i32_w]
    rfl
  refine pure_ (i := 15) (N := some 54) (v := ?_) (a' := ?_) #[true, true, true, true, true, true, true, true, true, true, true, true, true, true, true, true, false, false] rfl rfl (any_of HT_.out (by kernel_rfl)) (fun _ _ _ h => h) (Or.inl ⟨by rfl, ?_⟩) ?_ ?_
  rotate_left
  · intro w'
    go_simp
    with_reducible rfl
  rotate_left
  · simp only [Act.put, List.setIfInBounds_toArray, List.set_cons_zero, List.set_cons_succ, i64_w, i32_w]
    rfl
  refine pure_ (i := 16) (N := some 11) (v := ?_) (a' := ?_) #[true, true, true, true, true, true, true, true, true, true, true, true, true, true, true, true, true, false] rfl rfl (any_of HT_.out (by kernel_rfl)) (fun _ _ _ h => h) (Or.inl ⟨by rfl, ?_⟩) ?_ ?_
  rotate_left
  · intro w'
    go_simp
    with_reducible rfl
  rotate_left
  · simp only [Act.put, List.setIfInBounds_toArray, List.set_cons_zero, List.set_cons_succ, i64_w, i32_w]
    rfl
  refine pure_ (i := 17) (N := some 12) (v := ?_) (a' := ?_) #[true, true, true, true, true, true, true, true, true, true, true, true, true, true, true, true, true, true] rfl rfl (any_of HT_.out (by kernel_rfl)) (fun _ _ _ h => h) (Or.inl ⟨by rfl, ?_⟩) ?_ ?_
  rotate_left
  · intro w'
    go_simp
    with_reducible rfl
  rotate_left
  · simp only [Act.put, List.setIfInBounds_toArray, List.set_cons_zero, List.set_cons_succ, i64_w, i32_w]
    rfl
  refine done_ (done_of HT_.out (by kernel_rfl)) ?_
  clear HT_ HW_
  have hz0 : W3.cell? ⟨w1.heap.size, 0, none⟩ = some (.int .i64 2) := (blk_cell O0.out 0).trans rfl
  have hz1 : W3.cell? ⟨w1.heap.size, 1, none⟩ = some (.int .i64 1) := (blk_cell O0.out 1).trans rfl
  have hlt_ : w1.heap.size < W3.heap.size := blk_lt O0.out
  go_wp2_with (first
    | ((with_reducible refine gCa (f := 59) rfl ?_); refine goesL_ (some 59) rfl rfl Try.func59 (by kernel_rfl) rfl #[.agg #[.int .i64 2, .int .i64 1], .slice (some ⟨W3.heap.size, 0, none⟩) 3 3, .slice (some ⟨W3.heap.size + 1, 0, none⟩) 3 3] rfl (by (try simp only [List.map_toArray, List.map_cons, List.map_nil]); first | done | rfl) ?_;
       refine (GEnc.rebuild_Rebuild.calls k 2 1 _ 3 [(⟨#[97]⟩ : ByteArray), ⟨#[98]⟩, ⟨#[99]⟩] _ 3 [false, true, false] [] 801 ((W3.alloc (.cells #[.string (⟨#[97]⟩ : ByteArray), .string (⟨#[98]⟩ : ByteArray), .string (⟨#[99]⟩ : ByteArray)] 9 (0, 0))).alloc (.cells #[.bool false, .bool true, .bool false] 4 (0, 0))) (C_str _ (put_at W3 [.cells #[.string (⟨#[97]⟩ : ByteArray), .string (⟨#[98]⟩ : ByteArray), .string (⟨#[99]⟩ : ByteArray)] 9 (0, 0), .cells #[.bool false, .bool true, .bool false] 4 (0, 0)] 0 (by show 0 < 2; decide)) (by decide)) (Nat.le_refl _) (C_boo _ (put_at W3 [.cells #[.string (⟨#[97]⟩ : ByteArray), .string (⟨#[98]⟩ : ByteArray), .string (⟨#[99]⟩ : ByteArray)] 9 (0, 0), .cells #[.bool false, .bool true, .bool false] 4 (0, 0)] 1 (by show 1 < 2; decide)) (by decide)) (Nat.le_refl _) E2.out).mono ?_;
       rintro e W4 ⟨v1, rfl, ho1, hb⟩; obtain ⟨Ab, cb, rfl⟩ := Kd.R_slice ho1; refine ⟨_, rfl, ?_⟩; have n0_ := mk0 (below_step (lA (lA HB.out _) _) hb); clear HB ho1 hb hz0 hz1 hlt_; have HB := n0_; clear n0_)
    | (go_at_call 35; (with_reducible refine (GBase.ossuarylaw0_Num.calls 800 800 _ rfl).mono ?_); rintro e w' ⟨rfl, ⟨nd, rfl⟩⟩)
    | (go_at_call 35; (with_reducible refine (GBase.ossuarylaw0_Num.calls 801 801 _ rfl).mono ?_); rintro e w' ⟨rfl, ⟨nd2, rfl⟩⟩))
  go_ret
  exact ⟨rfl, by repeat (first | exact HB.out | apply lN | apply lA | apply lD)⟩
set_option maxHeartbeats 8000000 in
set_option maxRecDepth 100000 in
theorem walk1 (k : Nat) (a0 a1 b : Int) (w : World) (h5 : ossuarylaw8_awake.f k = some true) (hb : Go.bits .and .i64 a1 1023 = b) (hk : wrap64 (Int.tmod (IntKind.u64.wrap a0) 3) = 1) (hb1 : wrap64 (1 + b) = 1 + b) (hb2 : wrap64 (-(1 + b)) = -(1 + b))
    (e1 : GEnc.rebuild_Rebuild.f k (2) 1 [(⟨#[97]⟩ : ByteArray), (⟨#[98]⟩ : ByteArray)] [true, true] = some ([], 800)) (e2 : GEnc.rebuild_Rebuild.f k 2 1 [(⟨#[97]⟩ : ByteArray), (⟨#[98]⟩ : ByteArray), (⟨#[99]⟩ : ByteArray)] [false, true, false] = some ([], 801)) :
    Calls Try.prog 25 #[.int .i64 a0, .int .i64 a1] w fun e w' => e = .returned (.bool true) ∧ Below w.heap.size w w' := by
  have hu51 := Try.underlying51
  have A5 := mk0 h5
  have E1 := mk0 e1
  have E2 := mk0 e2
  have HB := mk0 (Below.refl w.heap.size w)
  clear h5 e1 e2
  go_enter Try.func25, Try.ntmps25
  go_wp2_with (first
    | ((with_reducible refine gCa (f := 61) rfl ?_); refine goesL_ (some 15) rfl rfl Try.func61 (by kernel_rfl) rfl #[] rfl (by (try simp only [List.map_toArray, List.map_nil]); first | done | rfl) ?_; (with_reducible refine (ossuarylaw8_awake.calls k true _ A5.out).mono ?_); rintro e w1 ⟨rfl, hb⟩; refine ⟨_, rfl, ?_⟩; have n0_ := mk0 (below_step HB.out hb); clear HB; have HB := n0_; clear n0_ hb))
  obtain ⟨os_, hos_⟩ : ∃ os : List Obj, os = [.cells #[.int .i64 2, .int .i64 1] 51 (0, 0), .cells #[.int .i64 (-(1 + b)), .int .i64 0, .int .i64 2, .int .i64 1, .int .i64 2, .int .i64 1] 51 (0, 0), .cells #[.string (⟨#[97]⟩ : ByteArray)] 9 (0, 0), .cells #[.string (⟨#[97]⟩ : ByteArray), .string (⟨#[98]⟩ : ByteArray)] 9 (0, 0), .cells #[.string (⟨#[97]⟩ : ByteArray), .string (⟨#[98, 99]⟩ : ByteArray), .string (⟨#[100]⟩ : ByteArray)] 9 (0, 0), .cells #[.slice (some ⟨w1.heap.size + 1 + 1, 0, none⟩) 1 1, .slice (some ⟨w1.heap.size + 1 + 1 + 1, 0, none⟩) 2 2, .slice (some ⟨w1.heap.size + 1 + 1 + 1 + 1, 0, none⟩) 3 3] 58 (0, 0), .cells #[.bool true] 4 (0, 0), .cells #[.bool true, .bool true] 4 (0, 0), .cells #[.bool true, .bool true, .bool true] 4 (0, 0), .cells #[.slice (some ⟨w1.heap.size + 1 + 1 + 1 + 1 + 1 + 1, 0, none⟩) 1 1, .slice (some ⟨w1.heap.size + 1 + 1 + 1 + 1 + 1 + 1 + 1, 0, none⟩) 2 2, .slice (some ⟨w1.heap.size + 1 + 1 + 1 + 1 + 1 + 1 + 1 + 1, 0, none⟩) 3 3] 68 (0, 0)] := ⟨_, rfl⟩
  refine seen_ (F := fun W => Below w1.heap.size w1 W ∧ W.heap[w1.heap.size]? = some (.cells #[.int .i64 2, .int .i64 1] 51 (0, 0)) ∧ W.heap[w1.heap.size + 1]? = some (.cells #[.int .i64 (-(1 + b)), .int .i64 0, .int .i64 2, .int .i64 1, .int .i64 2, .int .i64 1] 51 (0, 0)) ∧ W.heap[w1.heap.size + 1 + 1]? = some (.cells #[.string (⟨#[97]⟩ : ByteArray)] 9 (0, 0)) ∧ W.heap[w1.heap.size + 1 + 1 + 1]? = some (.cells #[.string (⟨#[97]⟩ : ByteArray), .string (⟨#[98]⟩ : ByteArray)] 9 (0, 0)) ∧ W.heap[w1.heap.size + 1 + 1 + 1 + 1]? = some (.cells #[.string (⟨#[97]⟩ : ByteArray), .string (⟨#[98, 99]⟩ : ByteArray), .string (⟨#[100]⟩ : ByteArray)] 9 (0, 0)) ∧ W.heap[w1.heap.size + 1 + 1 + 1 + 1 + 1]? = some (.cells #[.slice (some ⟨w1.heap.size + 1 + 1, 0, none⟩) 1 1, .slice (some ⟨w1.heap.size + 1 + 1 + 1, 0, none⟩) 2 2, .slice (some ⟨w1.heap.size + 1 + 1 + 1 + 1, 0, none⟩) 3 3] 58 (0, 0)) ∧ W.heap[w1.heap.size + 1 + 1 + 1 + 1 + 1 + 1]? = some (.cells #[.bool true] 4 (0, 0)) ∧ W.heap[w1.heap.size + 1 + 1 + 1 + 1 + 1 + 1 + 1]? = some (.cells #[.bool true, .bool true] 4 (0, 0)) ∧ W.heap[w1.heap.size + 1 + 1 + 1 + 1 + 1 + 1 + 1 + 1]? = some (.cells #[.bool true, .bool true, .bool true] 4 (0, 0)) ∧ W.heap[w1.heap.size + 1 + 1 + 1 + 1 + 1 + 1 + 1 + 1 + 1]? = some (.cells #[.slice (some ⟨w1.heap.size + 1 + 1 + 1 + 1 + 1 + 1, 0, none⟩) 1 1, .slice (some ⟨w1.heap.size + 1 + 1 + 1 + 1 + 1 + 1 + 1, 0, none⟩) 2 2, .slice (some ⟨w1.heap.size + 1 + 1 + 1 + 1 + 1 + 1 + 1 + 1, 0, none⟩) 3 3] 68 (0, 0))) ?_ (fun W hW => ?_)
  · subst hos_
    exact ⟨below_all w1 [.cells #[.int .i64 2, .int .i64 1] 51 (0, 0), .cells #[.int .i64 (-(1 + b)), .int .i64 0, .int .i64 2, .int .i64 1, .int .i64 2, .int .i64 1] 51 (0, 0), .cells #[.string (⟨#[97]⟩ : ByteArray)] 9 (0, 0), .cells #[.string (⟨#[97]⟩ : ByteArray), .string (⟨#[98]⟩ : ByteArray)] 9 (0, 0), .cells #[.string (⟨#[97]⟩ : ByteArray), .string (⟨#[98, 99]⟩ : ByteArray), .string (⟨#[100]⟩ : ByteArray)] 9 (0, 0), .cells #[.slice (some ⟨w1.heap.size + 1 + 1, 0, none⟩) 1 1, .slice (some ⟨w1.heap.size + 1 + 1 + 1, 0, none⟩) 2 2, .slice (some ⟨w1.heap.size + 1 + 1 + 1 + 1, 0, none⟩) 3 3] 58 (0, 0), .cells #[.bool true] 4 (0, 0), .cells #[.bool true, .bool true] 4 (0, 0), .cells #[.bool true, .bool true, .bool true] 4 (0, 0), .cells #[.slice (some ⟨w1.heap.size + 1 + 1 + 1 + 1 + 1 + 1, 0, none⟩) 1 1, .slice (some ⟨w1.heap.size + 1 + 1 + 1 + 1 + 1 + 1 + 1, 0, none⟩) 2 2, .slice (some ⟨w1.heap.size + 1 + 1 + 1 + 1 + 1 + 1 + 1 + 1, 0, none⟩) 3 3] 68 (0, 0)], put_at w1 [.cells #[.int .i64 2, .int .i64 1] 51 (0, 0), .cells #[.int .i64 (-(1 + b)), .int .i64 0, .int .i64 2, .int .i64 1, .int .i64 2, .int .i64 1] 51 (0, 0), .cells #[.string (⟨#[97]⟩ : ByteArray)] 9 (0, 0), .cells #[.string (⟨#[97]⟩ : ByteArray), .string (⟨#[98]⟩ : ByteArray)] 9 (0, 0), .cells #[.string (⟨#[97]⟩ : ByteArray), .string (⟨#[98, 99]⟩ : ByteArray), .string (⟨#[100]⟩ : ByteArray)] 9 (0, 0), .cells #[.slice (some ⟨w1.heap.size + 1 + 1, 0, none⟩) 1 1, .slice (some ⟨w1.heap.size + 1 + 1 + 1, 0, none⟩) 2 2, .slice (some ⟨w1.heap.size + 1 + 1 + 1 + 1, 0, none⟩) 3 3] 58 (0, 0), .cells #[.bool true] 4 (0, 0), .cells #[.bool true, .bool true] 4 (0, 0), .cells #[.bool true, .bool true, .bool true] 4 (0, 0), .cells #[.slice (some ⟨w1.heap.size + 1 + 1 + 1 + 1 + 1 + 1, 0, none⟩) 1 1, .slice (some ⟨w1.heap.size + 1 + 1 + 1 + 1 + 1 + 1 + 1, 0, none⟩) 2 2, .slice (some ⟨w1.heap.size + 1 + 1 + 1 + 1 + 1 + 1 + 1 + 1, 0, none⟩) 3 3] 68 (0, 0)] 0 (by show 0 < 10; decide), put_at w1 [.cells #[.int .i64 2, .int .i64 1] 51 (0, 0), .cells #[.int .i64 (-(1 + b)), .int .i64 0, .int .i64 2, .int .i64 1, .int .i64 2, .int .i64 1] 51 (0, 0), .cells #[.string (⟨#[97]⟩ : ByteArray)] 9 (0, 0), .cells #[.string (⟨#[97]⟩ : ByteArray), .string (⟨#[98]⟩ : ByteArray)] 9 (0, 0), .cells #[.string (⟨#[97]⟩ : ByteArray), .string (⟨#[98, 99]⟩ : ByteArray), .string (⟨#[100]⟩ : ByteArray)] 9 (0, 0), .cells #[.slice (some ⟨w1.heap.size + 1 + 1, 0, none⟩) 1 1, .slice (some ⟨w1.heap.size + 1 + 1 + 1, 0, none⟩) 2 2, .slice (some ⟨w1.heap.size + 1 + 1 + 1 + 1, 0, none⟩) 3 3] 58 (0, 0), .cells #[.bool true] 4 (0, 0), .cells #[.bool true, .bool true] 4 (0, 0), .cells #[.bool true, .bool true, .bool true] 4 (0, 0), .cells #[.slice (some ⟨w1.heap.size + 1 + 1 + 1 + 1 + 1 + 1, 0, none⟩) 1 1, .slice (some ⟨w1.heap.size + 1 + 1 + 1 + 1 + 1 + 1 + 1, 0, none⟩) 2 2, .slice (some ⟨w1.heap.size + 1 + 1 + 1 + 1 + 1 + 1 + 1 + 1, 0, none⟩) 3 3] 68 (0, 0)] 1 (by show 1 < 10; decide), put_at w1 [.cells #[.int .i64 2, .int .i64 1] 51 (0, 0), .cells #[.int .i64 (-(1 + b)), .int .i64 0, .int .i64 2, .int .i64 1, .int .i64 2, .int .i64 1] 51 (0, 0), .cells #[.string (⟨#[97]⟩ : ByteArray)] 9 (0, 0), .cells #[.string (⟨#[97]⟩ : ByteArray), .string (⟨#[98]⟩ : ByteArray)] 9 (0, 0), .cells #[.string (⟨#[97]⟩ : ByteArray), .string (⟨#[98, 99]⟩ : ByteArray), .string (⟨#[100]⟩ : ByteArray)] 9 (0, 0), .cells #[.slice (some ⟨w1.heap.size + 1 + 1, 0, none⟩) 1 1, .slice (some ⟨w1.heap.size + 1 + 1 + 1, 0, none⟩) 2 2, .slice (some ⟨w1.heap.size + 1 + 1 + 1 + 1, 0, none⟩) 3 3] 58 (0, 0), .cells #[.bool true] 4 (0, 0), .cells #[.bool true, .bool true] 4 (0, 0), .cells #[.bool true, .bool true, .bool true] 4 (0, 0), .cells #[.slice (some ⟨w1.heap.size + 1 + 1 + 1 + 1 + 1 + 1, 0, none⟩) 1 1, .slice (some ⟨w1.heap.size + 1 + 1 + 1 + 1 + 1 + 1 + 1, 0, none⟩) 2 2, .slice (some ⟨w1.heap.size + 1 + 1 + 1 + 1 + 1 + 1 + 1 + 1, 0, none⟩) 3 3] 68 (0, 0)] 2 (by show 2 < 10; decide), put_at w1 [.cells #[.int .i64 2, .int .i64 1] 51 (0, 0), .cells #[.int .i64 (-(1 + b)), .int .i64 0, .int .i64 2, .int .i64 1, .int .i64 2, .int .i64 1] 51 (0, 0), .cells #[.string (⟨#[97]⟩ : ByteArray)] 9 (0, 0), .cells #[.string (⟨#[97]⟩ : ByteArray), .string (⟨#[98]⟩ : ByteArray)] 9 (0, 0), .cells #[.string (⟨#[97]⟩ : ByteArray), .string (⟨#[98, 99]⟩ : ByteArray), .string (⟨#[100]⟩ : ByteArray)] 9 (0, 0), .cells #[.slice (some ⟨w1.heap.size + 1 + 1, 0, none⟩) 1 1, .slice (some ⟨w1.heap.size + 1 + 1 + 1, 0, none⟩) 2 2, .slice (some ⟨w1.heap.size + 1 + 1 + 1 + 1, 0, none⟩) 3 3] 58 (0, 0), .cells #[.bool true] 4 (0, 0), .cells #[.bool true, .bool true] 4 (0, 0), .cells #[.bool true, .bool true, .bool true] 4 (0, 0), .cells #[.slice (some ⟨w1.heap.size + 1 + 1 + 1 + 1 + 1 + 1, 0, none⟩) 1 1, .slice (some ⟨w1.heap.size + 1 + 1 + 1 + 1 + 1 + 1 + 1, 0, none⟩) 2 2, .slice (some ⟨w1.heap.size + 1 + 1 + 1 + 1 + 1 + 1 + 1 + 1, 0, none⟩) 3 3] 68 (0, 0)] 3 (by show 3 < 10; decide), put_at w1 [.cells #[.int .i64 2, .int .i64 1] 51 (0, 0), .cells #[.int .i64 (-(1 + b)), .int .i64 0, .int .i64 2, .int .i64 1, .int .i64 2, .int .i64 1] 51 (0, 0), .cells #[.string (⟨#[97]⟩ : ByteArray)] 9 (0, 0), .cells #[.string (⟨#[97]⟩ : ByteArray), .string (⟨#[98]⟩ : ByteArray)] 9 (0, 0), .cells #[.string (⟨#[97]⟩ : ByteArray), .string (⟨#[98, 99]⟩ : ByteArray), .string (⟨#[100]⟩ : ByteArray)] 9 (0, 0), .cells #[.slice (some ⟨w1.heap.size + 1 + 1, 0, none⟩) 1 1, .slice (some ⟨w1.heap.size + 1 + 1 + 1, 0, none⟩) 2 2, .slice (some ⟨w1.heap.size + 1 + 1 + 1 + 1, 0, none⟩) 3 3] 58 (0, 0), .cells #[.bool true] 4 (0, 0), .cells #[.bool true, .bool true] 4 (0, 0), .cells #[.bool true, .bool true, .bool true] 4 (0, 0), .cells #[.slice (some ⟨w1.heap.size + 1 + 1 + 1 + 1 + 1 + 1, 0, none⟩) 1 1, .slice (some ⟨w1.heap.size + 1 + 1 + 1 + 1 + 1 + 1 + 1, 0, none⟩) 2 2, .slice (some ⟨w1.heap.size + 1 + 1 + 1 + 1 + 1 + 1 + 1 + 1, 0, none⟩) 3 3] 68 (0, 0)] 4 (by show 4 < 10; decide), put_at w1 [.cells #[.int .i64 2, .int .i64 1] 51 (0, 0), .cells #[.int .i64 (-(1 + b)), .int .i64 0, .int .i64 2, .int .i64 1, .int .i64 2, .int .i64 1] 51 (0, 0), .cells #[.string (⟨#[97]⟩ : ByteArray)] 9 (0, 0), .cells #[.string (⟨#[97]⟩ : ByteArray), .string (⟨#[98]⟩ : ByteArray)] 9 (0, 0), .cells #[.string (⟨#[97]⟩ : ByteArray), .string (⟨#[98, 99]⟩ : ByteArray), .string (⟨#[100]⟩ : ByteArray)] 9 (0, 0), .cells #[.slice (some ⟨w1.heap.size + 1 + 1, 0, none⟩) 1 1, .slice (some ⟨w1.heap.size + 1 + 1 + 1, 0, none⟩) 2 2, .slice (some ⟨w1.heap.size + 1 + 1 + 1 + 1, 0, none⟩) 3 3] 58 (0, 0), .cells #[.bool true] 4 (0, 0), .cells #[.bool true, .bool true] 4 (0, 0), .cells #[.bool true, .bool true, .bool true] 4 (0, 0), .cells #[.slice (some ⟨w1.heap.size + 1 + 1 + 1 + 1 + 1 + 1, 0, none⟩) 1 1, .slice (some ⟨w1.heap.size + 1 + 1 + 1 + 1 + 1 + 1 + 1, 0, none⟩) 2 2, .slice (some ⟨w1.heap.size + 1 + 1 + 1 + 1 + 1 + 1 + 1 + 1, 0, none⟩) 3 3] 68 (0, 0)] 5 (by show 5 < 10; decide), put_at w1 [.cells #[.int .i64 2, .int .i64 1] 51 (0, 0), .cells #[.int .i64 (-(1 + b)), .int .i64 0, .int .i64 2, .int .i64 1, .int .i64 2, .int .i64 1] 51 (0, 0), .cells #[.string (⟨#[97]⟩ : ByteArray)] 9 (0, 0), .cells #[.string (⟨#[97]⟩ : ByteArray), .string (⟨#[98]⟩ : ByteArray)] 9 (0, 0), .cells #[.string (⟨#[97]⟩ : ByteArray), .string (⟨#[98, 99]⟩ : ByteArray), .string (⟨#[100]⟩ : ByteArray)] 9 (0, 0), .cells #[.slice (some ⟨w1.heap.size + 1 + 1, 0, none⟩) 1 1, .slice (some ⟨w1.heap.size + 1 + 1 + 1, 0, none⟩) 2 2, .slice (some ⟨w1.heap.size + 1 + 1 + 1 + 1, 0, none⟩) 3 3] 58 (0, 0), .cells #[.bool true] 4 (0, 0), .cells #[.bool true, .bool true] 4 (0, 0), .cells #[.bool true, .bool true, .bool true] 4 (0, 0), .cells #[.slice (some ⟨w1.heap.size + 1 + 1 + 1 + 1 + 1 + 1, 0, none⟩) 1 1, .slice (some ⟨w1.heap.size + 1 + 1 + 1 + 1 + 1 + 1 + 1, 0, none⟩) 2 2, .slice (some ⟨w1.heap.size + 1 + 1 + 1 + 1 + 1 + 1 + 1 + 1, 0, none⟩) 3 3] 68 (0, 0)] 6 (by show 6 < 10; decide), put_at w1 [.cells #[.int .i64 2, .int .i64 1] 51 (0, 0), .cells #[.int .i64 (-(1 + b)), .int .i64 0, .int .i64 2, .int .i64 1, .int .i64 2, .int .i64 1] 51 (0, 0), .cells #[.string (⟨#[97]⟩ : ByteArray)] 9 (0, 0), .cells #[.string (⟨#[97]⟩ : ByteArray), .string (⟨#[98]⟩ : ByteArray)] 9 (0, 0), .cells #[.string (⟨#[97]⟩ : ByteArray), .string (⟨#[98, 99]⟩ : ByteArray), .string (⟨#[100]⟩ : ByteArray)] 9 (0, 0), .cells #[.slice (some ⟨w1.heap.size + 1 + 1, 0, none⟩) 1 1, .slice (some ⟨w1.heap.size + 1 + 1 + 1, 0, none⟩) 2 2, .slice (some ⟨w1.heap.size + 1 + 1 + 1 + 1, 0, none⟩) 3 3] 58 (0, 0), .cells #[.bool true] 4 (0, 0), .cells #[.bool true, .bool true] 4 (0, 0), .cells #[.bool true, .bool true, .bool true] 4 (0, 0), .cells #[.slice (some ⟨w1.heap.size + 1 + 1 + 1 + 1 + 1 + 1, 0, none⟩) 1 1, .slice (some ⟨w1.heap.size + 1 + 1 + 1 + 1 + 1 + 1 + 1, 0, none⟩) 2 2, .slice (some ⟨w1.heap.size + 1 + 1 + 1 + 1 + 1 + 1 + 1 + 1, 0, none⟩) 3 3] 68 (0, 0)] 7 (by show 7 < 10; decide), put_at w1 [.cells #[.int .i64 2, .int .i64 1] 51 (0, 0), .cells #[.int .i64 (-(1 + b)), .int .i64 0, .int .i64 2, .int .i64 1, .int .i64 2, .int .i64 1] 51 (0, 0), .cells #[.string (⟨#[97]⟩ : ByteArray)] 9 (0, 0), .cells #[.string (⟨#[97]⟩ : ByteArray), .string (⟨#[98]⟩ : ByteArray)] 9 (0, 0), .cells #[.string (⟨#[97]⟩ : ByteArray), .string (⟨#[98, 99]⟩ : ByteArray), .string (⟨#[100]⟩ : ByteArray)] 9 (0, 0), .cells #[.slice (some ⟨w1.heap.size + 1 + 1, 0, none⟩) 1 1, .slice (some ⟨w1.heap.size + 1 + 1 + 1, 0, none⟩) 2 2, .slice (some ⟨w1.heap.size + 1 + 1 + 1 + 1, 0, none⟩) 3 3] 58 (0, 0), .cells #[.bool true] 4 (0, 0), .cells #[.bool true, .bool true] 4 (0, 0), .cells #[.bool true, .bool true, .bool true] 4 (0, 0), .cells #[.slice (some ⟨w1.heap.size + 1 + 1 + 1 + 1 + 1 + 1, 0, none⟩) 1 1, .slice (some ⟨w1.heap.size + 1 + 1 + 1 + 1 + 1 + 1 + 1, 0, none⟩) 2 2, .slice (some ⟨w1.heap.size + 1 + 1 + 1 + 1 + 1 + 1 + 1 + 1, 0, none⟩) 3 3] 68 (0, 0)] 8 (by show 8 < 10; decide), put_at w1 [.cells #[.int .i64 2, .int .i64 1] 51 (0, 0), .cells #[.int .i64 (-(1 + b)), .int .i64 0, .int .i64 2, .int .i64 1, .int .i64 2, .int .i64 1] 51 (0, 0), .cells #[.string (⟨#[97]⟩ : ByteArray)] 9 (0, 0), .cells #[.string (⟨#[97]⟩ : ByteArray), .string (⟨#[98]⟩ : ByteArray)] 9 (0, 0), .cells #[.string (⟨#[97]⟩ : ByteArray), .string (⟨#[98, 99]⟩ : ByteArray), .string (⟨#[100]⟩ : ByteArray)] 9 (0, 0), .cells #[.slice (some ⟨w1.heap.size + 1 + 1, 0, none⟩) 1 1, .slice (some ⟨w1.heap.size + 1 + 1 + 1, 0, none⟩) 2 2, .slice (some ⟨w1.heap.size + 1 + 1 + 1 + 1, 0, none⟩) 3 3] 58 (0, 0), .cells #[.bool true] 4 (0, 0), .cells #[.bool true, .bool true] 4 (0, 0), .cells #[.bool true, .bool true, .bool true] 4 (0, 0), .cells #[.slice (some ⟨w1.heap.size + 1 + 1 + 1 + 1 + 1 + 1, 0, none⟩) 1 1, .slice (some ⟨w1.heap.size + 1 + 1 + 1 + 1 + 1 + 1 + 1, 0, none⟩) 2 2, .slice (some ⟨w1.heap.size + 1 + 1 + 1 + 1 + 1 + 1 + 1 + 1, 0, none⟩) 3 3] 68 (0, 0)] 9 (by show 9 < 10; decide)⟩
  clear hos_ os_
  obtain ⟨hBW, o0, o1, o2, o3, o4, o5, o6, o7, o8, o9⟩ := hW
  have hx0 : W.cell? ⟨w1.heap.size + 1, 2, none⟩ = some (.int .i64 (2)) := blk_cell o1 2
  have hx1 : W.cell? ⟨w1.heap.size + 1, 3, none⟩ = some (.int .i64 1) := blk_cell o1 3
  have hx2 : W.cell? ⟨w1.heap.size + 1 + 1 + 1 + 1 + 1, 1, none⟩ = some (.slice (some ⟨w1.heap.size + 1 + 1 + 1, 0, none⟩) 2 2) := blk_cell o5 1
  have hx3 : W.cell? ⟨w1.heap.size + 1 + 1 + 1 + 1 + 1 + 1 + 1 + 1 + 1, 1, none⟩ = some (.slice (some ⟨w1.heap.size + 1 + 1 + 1 + 1 + 1 + 1 + 1, 0, none⟩) 2 2) := blk_cell o9 1
  have hm_ : Kd.C Kd.string W (some ⟨w1.heap.size + 1 + 1 + 1, 0, none⟩) 2 [(⟨#[97]⟩ : ByteArray), (⟨#[98]⟩ : ByteArray)] := C_str [(⟨#[97]⟩ : ByteArray), (⟨#[98]⟩ : ByteArray)] o3 (by decide)
  have hn_ : Kd.C Kd.bool W (some ⟨w1.heap.size + 1 + 1 + 1 + 1 + 1 + 1 + 1, 0, none⟩) 2 [true, true] := C_boo [true, true] o7 (by decide)
  have HM := mk0 hm_
  have HV := mk0 hn_
  have HBW := mk0 (below_step HB.out hBW)
  have O0 := mk0 o0
  clear hm_ hn_ hBW o0 o1 o2 o3 o4 o5 o6 o7 o8 o9 HB
  rw [hk]
  refine start_ (n := 18) (S := fun w' => w'.cell? ⟨w1.heap.size + 1, 2, none⟩ = some (.int .i64 (2)) ∧ w'.cell? ⟨w1.heap.size + 1, 3, none⟩ = some (.int .i64 1) ∧ w'.cell? ⟨w1.heap.size + 1 + 1 + 1 + 1 + 1, 1, none⟩ = some (.slice (some ⟨w1.heap.size + 1 + 1 + 1, 0, none⟩) 2 2) ∧ w'.cell? ⟨w1.heap.size + 1 + 1 + 1 + 1 + 1 + 1 + 1 + 1 + 1, 1, none⟩ = some (.slice (some ⟨w1.heap.size + 1 + 1 + 1 + 1 + 1 + 1 + 1, 0, none⟩) 2 2)) (ds := []) #[false, false, false, false, false, false, false, false, false, false, false, false, false, false, false, false, false, false] (by kernel_rfl) rfl rfl ⟨hx0, hx1, hx2, hx3⟩ (fun hHeld => ?_); refine with_tabW reb_tab9 reb_bits9 (fun HT_ HW_ => ?_)
  have n0_ := mk0 (Kd.C_drew HM.out)
  have n1_ := mk0 (Kd.C_drew HV.out)
  have n2_ := mk0 (lD HBW.out)
  have n3_ := mk0 (bD O0.out)
  clear HM HV HBW O0 hx0 hx1 hx2 hx3
  have HM := n0_
  have HV := n1_
  have HBW := n2_
  have O0 := n3_
  clear n0_ n1_ n2_ n3_
  generalize W.drew = W2 at HM HV HBW O0 hHeld ⊢
  refine pure_ (i := 0) (N := some 40) (v := ?_) (a' := ?_) #[true, false, false, false, false, false, false, false, false, false, false, false, false, false, false, false, false, false] rfl rfl (any_of HT_.out (by kernel_rfl)) (fun _ _ _ h => h) (Or.inl ⟨by rfl, ?_⟩) ?_ ?_
  rotate_left
  · intro w'
    go_simp
    with_reducible rfl
  rotate_left
  · simp only [Act.put, List.setIfInBounds_toArray, List.set_cons_zero, List.set_cons_succ, i64_w, i32_w]
    rfl
  refine pure_ (i := 1) (N := some 41) (v := ?_) (a' := ?_) #[true, true, false, false, false, false, false, false, false, false, false, false, false, false, false, false, false, false] rfl rfl (any_of HT_.out (by kernel_rfl)) (fun _ _ _ h => h) (Or.inl ⟨by rfl, ?_⟩) ?_ ?_
  rotate_left
  · intro w'
    go_simp
    with_reducible rfl
  rotate_left
  · simp only [Act.put, List.setIfInBounds_toArray, List.set_cons_zero, List.set_cons_succ, i64_w, i32_w]
    rfl
  refine pure_ (i := 2) (N := some 42) (v := ?_) (a' := ?_) #[true, true, true, false, false, false, false, false, false, false, false, false, false, false, false, false, false, false] rfl rfl (any_of HT_.out (by kernel_rfl)) (fun _ _ _ h => h) (Or.inl ⟨by rfl, ?_⟩) ?_ ?_
  rotate_left
  · intro w'
    go_simp
    with_reducible rfl
  rotate_left
  · simp only [Act.put, List.setIfInBounds_toArray, List.set_cons_zero, List.set_cons_succ, i64_w, i32_w]
    rfl
  refine pure_ (i := 4) (N := some 44) (v := ?_) (a' := ?_) #[true, true, true, false, true, false, false, false, false, false, false, false, false, false, false, false, false, false] rfl rfl (any_of HT_.out (by kernel_rfl)) (fun _ _ _ h => h) (Or.inl ⟨by rfl, ?_⟩) ?_ ?_
  rotate_left
  · intro w'
    go_simp
    with_reducible rfl
  rotate_left
  · simp only [Act.put, List.setIfInBounds_toArray, List.set_cons_zero, List.set_cons_succ, i64_w, i32_w]
    rfl
  refine pure_ (i := 5) (N := some 45) (v := ?_) (a' := ?_) #[true, true, true, false, true, true, false, false, false, false, false, false, false, false, false, false, false, false] rfl rfl (any_of HT_.out (by kernel_rfl)) (fun _ _ _ h => h) (Or.inl ⟨by rfl, ?_⟩) ?_ ?_
  rotate_left
  · intro w'
    go_simp
    with_reducible rfl
  rotate_left
  · simp only [Act.put, List.setIfInBounds_toArray, List.set_cons_zero, List.set_cons_succ, i64_w, i32_w]
    rfl
  refine pure_ (i := 6) (N := some 46) (v := ?_) (a' := ?_) #[true, true, true, false, true, true, true, false, false, false, false, false, false, false, false, false, false, false] rfl rfl (any_of HT_.out (by kernel_rfl)) (fun _ _ _ h => h) (Or.inl ⟨by rfl, ?_⟩) ?_ ?_
  rotate_left
  · intro w'
    go_simp
    with_reducible rfl
  rotate_left
  · simp only [Act.put, List.setIfInBounds_toArray, List.set_cons_zero, List.set_cons_succ, i64_w, i32_w]
    rfl
  refine pure_ (i := 8) (N := some 48) (v := ?_) (a' := ?_) #[true, true, true, false, true, true, true, false, true, false, false, false, false, false, false, false, false, false] rfl rfl (any_of HT_.out (by kernel_rfl)) (fun _ _ _ h => h) (Or.inl ⟨by rfl, ?_⟩) ?_ ?_
  rotate_left
  · intro w'
    go_simp
    with_reducible rfl
  rotate_left
  · simp only [Act.put, List.setIfInBounds_toArray, List.set_cons_zero, List.set_cons_succ, i64_w, i32_w]
    rfl
  refine pure_ (i := 9) (N := some 49) (v := ?_) (a' := ?_) #[true, true, true, false, true, true, true, false, true, true, false, false, false, false, false, false, false, false] rfl rfl (any_of HT_.out (by kernel_rfl)) (fun _ _ _ h => h) (Or.inl ⟨by rfl, ?_⟩) ?_ ?_
  rotate_left
  · intro w'
    go_simp
    with_reducible rfl
  rotate_left
  · simp only [Act.put, List.setIfInBounds_toArray, List.set_cons_zero, List.set_cons_succ, i64_w, i32_w]
    rfl
  refine pure_ (i := 10) (N := some 50) (v := ?_) (a' := ?_) #[true, true, true, false, true, true, true, false, true, true, true, false, false, false, false, false, false, false] rfl rfl (any_of HT_.out (by kernel_rfl)) (fun _ _ _ h => h) (Or.inl ⟨by rfl, ?_⟩) ?_ ?_
  rotate_left
  · intro w'
    go_simp
    with_reducible rfl
  rotate_left
  · simp only [Act.put, List.setIfInBounds_toArray, List.set_cons_zero, List.set_cons_succ, i64_w, i32_w]
    rfl
  refine take_ (i := 3) (N := some 43) (v := ?_) (a' := ?_) #[true, true, true, true, true, true, true, false, true, true, true, false, false, false, false, false, false, false] rfl rfl (take_ofW HT_.out HW_.out (by kernel_rfl)) (fun _ _ _ h => h) (Or.inl ⟨by rfl, ?_⟩) hHeld ?_ ?_
  rotate_left
  · rintro w' ⟨s0, s1, s2, s3⟩
    go_simp
    with_reducible rfl
  rotate_left
  · simp only [Act.put, List.setIfInBounds_toArray, List.set_cons_zero, List.set_cons_succ, i64_w, i32_w]
    rfl
  refine take_ (i := 7) (N := some 47) (v := ?_) (a' := ?_) #[true, true, true, true, true, true, true, true, true, true, true, false, false, false, false, false, false, false] rfl rfl (take_ofW HT_.out HW_.out (by kernel_rfl)) (fun _ _ _ h => h) (Or.inl ⟨by rfl, ?_⟩) hHeld ?_ ?_
  rotate_left
  · rintro w' ⟨s0, s1, s2, s3⟩
    go_simp
    with_reducible rfl
  rotate_left
  · simp only [Act.put, List.setIfInBounds_toArray, List.set_cons_zero, List.set_cons_succ, i64_w, i32_w]
    rfl
  refine take_ (i := 11) (N := some 51) (v := ?_) (a' := ?_) #[true, true, true, true, true, true, true, true, true, true, true, true, false, false, false, false, false, false] rfl rfl (take_ofW HT_.out HW_.out (by kernel_rfl)) (fun _ _ _ h => h) (Or.inl ⟨by rfl, ?_⟩) hHeld ?_ ?_
  rotate_left
  · rintro w' ⟨s0, s1, s2, s3⟩
    go_simp
    with_reducible rfl
  rotate_left
  · simp only [Act.put, List.setIfInBounds_toArray, List.set_cons_zero, List.set_cons_succ, i64_w, i32_w]
    rfl
  refine one_ (i := 12) (N := some 52) #[true, true, true, true, true, true, true, true, true, true, true, true, true, false, false, false, false, false] rfl rfl (one_of HT_.out (by kernel_rfl)) (by decide) (fun K hK => ?_)
  refine goes_ Try.func59 (by kernel_rfl) rfl #[.agg #[.int .i64 (2), .int .i64 1], .slice (some ⟨w1.heap.size + 1 + 1 + 1, 0, none⟩) 2 2, .slice (some ⟨w1.heap.size + 1 + 1 + 1 + 1 + 1 + 1 + 1, 0, none⟩) 2 2] (by rfl) rfl rfl (by (try simp only [List.map_toArray, List.map_cons, List.map_nil]); first | done | rfl) ?_
  refine (GEnc.rebuild_Rebuild.calls k (2) 1 _ 2 [(⟨#[97]⟩ : ByteArray), (⟨#[98]⟩ : ByteArray)] _ 2 [true, true] [] 800 W2 HM.out (Nat.le_refl _) HV.out (Nat.le_refl _) E1.out).mono ?_
  rintro e W3 ⟨v0, rfl, ho0, hb⟩
  obtain ⟨Aa, ca, rfl⟩ := Kd.R_slice ho0
  have HS0_ := (hb.cell (World.block_lt_of_cell? _ _ (hHeld.1))).trans (hHeld.1)
  have HS1_ := (hb.cell (World.block_lt_of_cell? _ _ (hHeld.2.1))).trans (hHeld.2.1)
  have HS2_ := (hb.cell (World.block_lt_of_cell? _ _ (hHeld.2.2.1))).trans (hHeld.2.2.1)
  have HS3_ := (hb.cell (World.block_lt_of_cell? _ _ (hHeld.2.2.2))).trans (hHeld.2.2.2)
  refine ⟨_, rfl, ?_⟩
  have n2_ := mk0 (below_step HBW.out hb)
  have n3_ := mk0 (blk_below O0.out hb)
  clear HM HV HBW O0 ho0 hb
  have HB := n2_
  have O0 := n3_
  clear n2_ n3_
  refine hK.out _ _ ⟨HS0_, HS1_, HS2_, HS3_⟩ (fun hHeld => ?_)
  clear hK K
  refine norm_ (a' := ?_) ?_ ?_
  rotate_left
  · show Act.put _ (some 52) _ = _
    simp only [Act.put, List.setIfInBounds_toArray, List.set_cons_zero, List.set_cons_succ, i64_w, i32_w]
    rfl
  refine pure_ (i := 13) (N := some 39) (v := ?_) (a' := ?_) #[true, true, true, true, true, true, true, true, true, true, true, true, true, true, false, false, false, false] rfl rfl (any_of HT_.out (by kernel_rfl)) (fun _ _ _ h => h) (Or.inl ⟨by rfl, ?_⟩) ?_ ?_
  rotate_left
  · intro w'
    go_simp
    with_reducible rfl
  rotate_left
  · simp only [Act.put, List.setIfInBounds_toArray, List.set_cons_zero, List.set_cons_succ, i64_w, i32_w]
    rfl
  refine pure_ (i := 14) (N := some 53) (v := ?_) (a' := ?_) #[true, true, true, true, true, true, true, true, true, true, true, true, true, true, true, false, false, false] rfl rfl (any_of HT_.out (by kernel_rfl)) (fun _ _ _ h => h) (Or.inl ⟨by rfl, ?_⟩) ?_ ?_
  rotate_left
  · intro w'
    go_simp
    with_reducible rfl
  rotate_left
  · simp only [Act.put, List.setIfInBounds_toArray, List.set_cons_zero, List.set_cons_succ, i64_w, i32_w]
    rfl
  refine pure_ (i := 15) (N := some 54) (v := ?_) (a' := ?_) #[true, true, true, true, true, true, true, true, true, true, true, true, true, true, true, true, false, false] rfl rfl (any_of HT_.out (by kernel_rfl)) (fun _ _ _ h => h) (Or.inl ⟨by rfl, ?_⟩) ?_ ?_
  rotate_left
  · intro w'
    go_simp
    with_reducible rfl
  rotate_left
  · simp only [Act.put, List.setIfInBounds_toArray, List.set_cons_zero, List.set_cons_succ, i64_w, i32_w]
    rfl
  refine pure_ (i := 16) (N := some 11) (v := ?_) (a' := ?_) #[true, true, true, true, true, true, true, true, true, true, true, true, true, true, true, true, true, false] rfl rfl (any_of HT_.out (by kernel_rfl)) (fun _ _ _ h => h) (Or.inl ⟨by rfl, ?_⟩) ?_ ?_
  rotate_left
  · intro w'
    go_simp
    with_reducible rfl
  rotate_left
  · simp only [Act.put, List.setIfInBounds_toArray, List.set_cons_zero, List.set_cons_succ, i64_w, i32_w]
    rfl
  refine pure_ (i := 17) (N := some 12) (v := ?_) (a' := ?_) #[true, true, true, true, true, true, true, true, true, true, true, true, true, true, true, true, true, true] rfl rfl (any_of HT_.out (by kernel_rfl)) (fun _ _ _ h => h) (Or.inl ⟨by rfl, ?_⟩) ?_ ?_
  rotate_left
  · intro w'
    go_simp
    with_reducible rfl
  rotate_left
  · simp only [Act.put, List.setIfInBounds_toArray, List.set_cons_zero, List.set_cons_succ, i64_w, i32_w]
    rfl
  refine done_ (done_of HT_.out (by kernel_rfl)) ?_
  clear HT_ HW_
  have hz0 : W3.cell? ⟨w1.heap.size, 0, none⟩ = some (.int .i64 2) := (blk_cell O0.out 0).trans rfl
  have hz1 : W3.cell? ⟨w1.heap.size, 1, none⟩ = some (.int .i64 1) := (blk_cell O0.out 1).trans rfl
  have hlt_ : w1.heap.size < W3.heap.size := blk_lt O0.out
  go_wp2_with (first
    | ((with_reducible refine gCa (f := 59) rfl ?_); refine goesL_ (some 59) rfl rfl Try.func59 (by kernel_rfl) rfl #[.agg #[.int .i64 2, .int .i64 1], .slice (some ⟨W3.heap.size, 0, none⟩) 3 3, .slice (some ⟨W3.heap.size + 1, 0, none⟩) 3 3] rfl (by (try simp only [List.map_toArray, List.map_cons, List.map_nil]); first | done | rfl) ?_;
       refine (GEnc.rebuild_Rebuild.calls k 2 1 _ 3 [(⟨#[97]⟩ : ByteArray), ⟨#[98]⟩, ⟨#[99]⟩] _ 3 [false, true, false] [] 801 ((W3.alloc (.cells #[.string (⟨#[97]⟩ : ByteArray), .string (⟨#[98]⟩ : ByteArray), .string (⟨#[99]⟩ : ByteArray)] 9 (0, 0))).alloc (.cells #[.bool false, .bool true, .bool false] 4 (0, 0))) (C_str _ (put_at W3 [.cells #[.string (⟨#[97]⟩ : ByteArray), .string (⟨#[98]⟩ : ByteArray), .string (⟨#[99]⟩ : ByteArray)] 9 (0, 0), .cells #[.bool false, .bool true, .bool false] 4 (0, 0)] 0 (by show 0 < 2; decide)) (by decide)) (Nat.le_refl _) (C_boo _ (put_at W3 [.cells #[.string (⟨#[97]⟩ : ByteArray), .string (⟨#[98]⟩ : ByteArray), .string (⟨#[99]⟩ : ByteArray)] 9 (0, 0), .cells #[.bool false, .bool true, .bool false] 4 (0, 0)] 1 (by show 1 < 2; decide)) (by decide)) (Nat.le_refl _) E2.out).mono ?_;
       rintro e W4 ⟨v1, rfl, ho1, hb⟩; obtain ⟨Ab, cb, rfl⟩ := Kd.R_slice ho1; refine ⟨_, rfl, ?_⟩; have n0_ := mk0 (below_step (lA (lA HB.out _) _) hb); clear HB ho1 hb hz0 hz1 hlt_; have HB := n0_; clear n0_)
    | (go_at_call 35; (with_reducible refine (GBase.ossuarylaw0_Num.calls 800 800 _ rfl).mono ?_); rintro e w' ⟨rfl, ⟨nd, rfl⟩⟩)
    | (go_at_call 35; (with_reducible refine (GBase.ossuarylaw0_Num.calls 801 801 _ rfl).mono ?_); rintro e w' ⟨rfl, ⟨nd2, rfl⟩⟩))
  go_ret
  exact ⟨rfl, by repeat (first | exact HB.out | apply lN | apply lA | apply lD)⟩
set_option maxHeartbeats 8000000 in
set_option maxRecDepth 100000 in
theorem walk2 (k : Nat) (a0 a1 b : Int) (w : World) (h5 : ossuarylaw8_awake.f k = some true) (hb : Go.bits .and .i64 a1 1023 = b) (hk : wrap64 (Int.tmod (IntKind.u64.wrap a0) 3) = 2) (hb1 : wrap64 (1 + b) = 1 + b) (hb2 : wrap64 (-(1 + b)) = -(1 + b))
    (e1 : GEnc.rebuild_Rebuild.f k (2) 1 [(⟨#[97]⟩ : ByteArray), (⟨#[98, 99]⟩ : ByteArray), (⟨#[100]⟩ : ByteArray)] [true, true, true] = some ([], 800)) (e2 : GEnc.rebuild_Rebuild.f k 2 1 [(⟨#[97]⟩ : ByteArray), (⟨#[98]⟩ : ByteArray), (⟨#[99]⟩ : ByteArray)] [false, true, false] = some ([], 801)) :
    Calls Try.prog 25 #[.int .i64 a0, .int .i64 a1] w fun e w' => e = .returned (.bool true) ∧ Below w.heap.size w w' := by
  have hu51 := Try.underlying51
  have A5 := mk0 h5
  have E1 := mk0 e1
  have E2 := mk0 e2
  have HB := mk0 (Below.refl w.heap.size w)
  clear h5 e1 e2
  go_enter Try.func25, Try.ntmps25
  go_wp2_with (first
    | ((with_reducible refine gCa (f := 61) rfl ?_); refine goesL_ (some 15) rfl rfl Try.func61 (by kernel_rfl) rfl #[] rfl (by (try simp only [List.map_toArray, List.map_nil]); first | done | rfl) ?_; (with_reducible refine (ossuarylaw8_awake.calls k true _ A5.out).mono ?_); rintro e w1 ⟨rfl, hb⟩; refine ⟨_, rfl, ?_⟩; have n0_ := mk0 (below_step HB.out hb); clear HB; have HB := n0_; clear n0_ hb))
  obtain ⟨os_, hos_⟩ : ∃ os : List Obj, os = [.cells #[.int .i64 2, .int .i64 1] 51 (0, 0), .cells #[.int .i64 (-(1 + b)), .int .i64 0, .int .i64 2, .int .i64 1, .int .i64 2, .int .i64 1] 51 (0, 0), .cells #[.string (⟨#[97]⟩ : ByteArray)] 9 (0, 0), .cells #[.string (⟨#[97]⟩ : ByteArray), .string (⟨#[98]⟩ : ByteArray)] 9 (0, 0), .cells #[.string (⟨#[97]⟩ : ByteArray), .string (⟨#[98, 99]⟩ : ByteArray), .string (⟨#[100]⟩ : ByteArray)] 9 (0, 0), .cells #[.slice (some ⟨w1.heap.size + 1 + 1, 0, none⟩) 1 1, .slice (some ⟨w1.heap.size + 1 + 1 + 1, 0, none⟩) 2 2, .slice (some ⟨w1.heap.size + 1 + 1 + 1 + 1, 0, none⟩) 3 3] 58 (0, 0), .cells #[.bool true] 4 (0, 0), .cells #[.bool true, .bool true] 4 (0, 0), .cells #[.bool true, .bool true, .bool true] 4 (0, 0), .cells #[.slice (some ⟨w1.heap.size + 1 + 1 + 1 + 1 + 1 + 1, 0, none⟩) 1 1, .slice (some ⟨w1.heap.size + 1 + 1 + 1 + 1 + 1 + 1 + 1, 0, none⟩) 2 2, .slice (some ⟨w1.heap.size + 1 + 1 + 1 + 1 + 1 + 1 + 1 + 1, 0, none⟩) 3 3] 68 (0, 0)] := ⟨_, rfl⟩
  refine seen_ (F := fun W => Below w1.heap.size w1 W ∧ W.heap[w1.heap.size]? = some (.cells #[.int .i64 2, .int .i64 1] 51 (0, 0)) ∧ W.heap[w1.heap.size + 1]? = some (.cells #[.int .i64 (-(1 + b)), .int .i64 0, .int .i64 2, .int .i64 1, .int .i64 2, .int .i64 1] 51 (0, 0)) ∧ W.heap[w1.heap.size + 1 + 1]? = some (.cells #[.string (⟨#[97]⟩ : ByteArray)] 9 (0, 0)) ∧ W.heap[w1.heap.size + 1 + 1 + 1]? = some (.cells #[.string (⟨#[97]⟩ : ByteArray), .string (⟨#[98]⟩ : ByteArray)] 9 (0, 0)) ∧ W.heap[w1.heap.size + 1 + 1 + 1 + 1]? = some (.cells #[.string (⟨#[97]⟩ : ByteArray), .string (⟨#[98, 99]⟩ : ByteArray), .string (⟨#[100]⟩ : ByteArray)] 9 (0, 0)) ∧ W.heap[w1.heap.size + 1 + 1 + 1 + 1 + 1]? = some (.cells #[.slice (some ⟨w1.heap.size + 1 + 1, 0, none⟩) 1 1, .slice (some ⟨w1.heap.size + 1 + 1 + 1, 0, none⟩) 2 2, .slice (some ⟨w1.heap.size + 1 + 1 + 1 + 1, 0, none⟩) 3 3] 58 (0, 0)) ∧ W.heap[w1.heap.size + 1 + 1 + 1 + 1 + 1 + 1]? = some (.cells #[.bool true] 4 (0, 0)) ∧ W.heap[w1.heap.size + 1 + 1 + 1 + 1 + 1 + 1 + 1]? = some (.cells #[.bool true, .bool true] 4 (0, 0)) ∧ W.heap[w1.heap.size + 1 + 1 + 1 + 1 + 1 + 1 + 1 + 1]? = some (.cells #[.bool true, .bool true, .bool true] 4 (0, 0)) ∧ W.heap[w1.heap.size + 1 + 1 + 1 + 1 + 1 + 1 + 1 + 1 + 1]? = some (.cells #[.slice (some ⟨w1.heap.size + 1 + 1 + 1 + 1 + 1 + 1, 0, none⟩) 1 1, .slice (some ⟨w1.heap.size + 1 + 1 + 1 + 1 + 1 + 1 + 1, 0, none⟩) 2 2, .slice (some ⟨w1.heap.size + 1 + 1 + 1 + 1 + 1 + 1 + 1 + 1, 0, none⟩) 3 3] 68 (0, 0))) ?_ (fun W hW => ?_)
  · subst hos_
    exact ⟨below_all w1 [.cells #[.int .i64 2, .int .i64 1] 51 (0, 0), .cells #[.int .i64 (-(1 + b)), .int .i64 0, .int .i64 2, .int .i64 1, .int .i64 2, .int .i64 1] 51 (0, 0), .cells #[.string (⟨#[97]⟩ : ByteArray)] 9 (0, 0), .cells #[.string (⟨#[97]⟩ : ByteArray), .string (⟨#[98]⟩ : ByteArray)] 9 (0, 0), .cells #[.string (⟨#[97]⟩ : ByteArray), .string (⟨#[98, 99]⟩ : ByteArray), .string (⟨#[100]⟩ : ByteArray)] 9 (0, 0), .cells #[.slice (some ⟨w1.heap.size + 1 + 1, 0, none⟩) 1 1, .slice (some ⟨w1.heap.size + 1 + 1 + 1, 0, none⟩) 2 2, .slice (some ⟨w1.heap.size + 1 + 1 + 1 + 1, 0, none⟩) 3 3] 58 (0, 0), .cells #[.bool true] 4 (0, 0), .cells #[.bool true, .bool true] 4 (0, 0), .cells #[.bool true, .bool true, .bool true] 4 (0, 0), .cells #[.slice (some ⟨w1.heap.size + 1 + 1 + 1 + 1 + 1 + 1, 0, none⟩) 1 1, .slice (some ⟨w1.heap.size + 1 + 1 + 1 + 1 + 1 + 1 + 1, 0, none⟩) 2 2, .slice (some ⟨w1.heap.size + 1 + 1 + 1 + 1 + 1 + 1 + 1 + 1, 0, none⟩) 3 3] 68 (0, 0)], put_at w1 [.cells #[.int .i64 2, .int .i64 1] 51 (0, 0), .cells #[.int .i64 (-(1 + b)), .int .i64 0, .int .i64 2, .int .i64 1, .int .i64 2, .int .i64 1] 51 (0, 0), .cells #[.string (⟨#[97]⟩ : ByteArray)] 9 (0, 0), .cells #[.string (⟨#[97]⟩ : ByteArray), .string (⟨#[98]⟩ : ByteArray)] 9 (0, 0), .cells #[.string (⟨#[97]⟩ : ByteArray), .string (⟨#[98, 99]⟩ : ByteArray), .string (⟨#[100]⟩ : ByteArray)] 9 (0, 0), .cells #[.slice (some ⟨w1.heap.size + 1 + 1, 0, none⟩) 1 1, .slice (some ⟨w1.heap.size + 1 + 1 + 1, 0, none⟩) 2 2, .slice (some ⟨w1.heap.size + 1 + 1 + 1 + 1, 0, none⟩) 3 3] 58 (0, 0), .cells #[.bool true] 4 (0, 0), .cells #[.bool true, .bool true] 4 (0, 0), .cells #[.bool true, .bool true, .bool true] 4 (0, 0), .cells #[.slice (some ⟨w1.heap.size + 1 + 1 + 1 + 1 + 1 + 1, 0, none⟩) 1 1, .slice (some ⟨w1.heap.size + 1 + 1 + 1 + 1 + 1 + 1 + 1, 0, none⟩) 2 2, .slice (some ⟨w1.heap.size + 1 + 1 + 1 + 1 + 1 + 1 + 1 + 1, 0, none⟩) 3 3] 68 (0, 0)] 0 (by show 0 < 10; decide), put_at w1 [.cells #[.int .i64 2, .int .i64 1] 51 (0, 0), .cells #[.int .i64 (-(1 + b)), .int .i64 0, .int .i64 2, .int .i64 1, .int .i64 2, .int .i64 1] 51 (0, 0), .cells #[.string (⟨#[97]⟩ : ByteArray)] 9 (0, 0), .cells #[.string (⟨#[97]⟩ : ByteArray), .string (⟨#[98]⟩ : ByteArray)] 9 (0, 0), .cells #[.string (⟨#[97]⟩ : ByteArray), .string (⟨#[98, 99]⟩ : ByteArray), .string (⟨#[100]⟩ : ByteArray)] 9 (0, 0), .cells #[.slice (some ⟨w1.heap.size + 1 + 1, 0, none⟩) 1 1, .slice (some ⟨w1.heap.size + 1 + 1 + 1, 0, none⟩) 2 2, .slice (some ⟨w1.heap.size + 1 + 1 + 1 + 1, 0, none⟩) 3 3] 58 (0, 0), .cells #[.bool true] 4 (0, 0), .cells #[.bool true, .bool true] 4 (0, 0), .cells #[.bool true, .bool true, .bool true] 4 (0, 0), .cells #[.slice (some ⟨w1.heap.size + 1 + 1 + 1 + 1 + 1 + 1, 0, none⟩) 1 1, .slice (some ⟨w1.heap.size + 1 + 1 + 1 + 1 + 1 + 1 + 1, 0, none⟩) 2 2, .slice (some ⟨w1.heap.size + 1 + 1 + 1 + 1 + 1 + 1 + 1 + 1, 0, none⟩) 3 3] 68 (0, 0)] 1 (by show 1 < 10; decide), put_at w1 [.cells #[.int .i64 2, .int .i64 1] 51 (0, 0), .cells #[.int .i64 (-(1 + b)), .int .i64 0, .int .i64 2, .int .i64 1, .int .i64 2, .int .i64 1] 51 (0, 0), .cells #[.string (⟨#[97]⟩ : ByteArray)] 9 (0, 0), .cells #[.string (⟨#[97]⟩ : ByteArray), .string (⟨#[98]⟩ : ByteArray)] 9 (0, 0), .cells #[.string (⟨#[97]⟩ : ByteArray), .string (⟨#[98, 99]⟩ : ByteArray), .string (⟨#[100]⟩ : ByteArray)] 9 (0, 0), .cells #[.slice (some ⟨w1.heap.size + 1 + 1, 0, none⟩) 1 1, .slice (some ⟨w1.heap.size + 1 + 1 + 1, 0, none⟩) 2 2, .slice (some ⟨w1.heap.size + 1 + 1 + 1 + 1, 0, none⟩) 3 3] 58 (0, 0), .cells #[.bool true] 4 (0, 0), .cells #[.bool true, .bool true] 4 (0, 0), .cells #[.bool true, .bool true, .bool true] 4 (0, 0), .cells #[.slice (some ⟨w1.heap.size + 1 + 1 + 1 + 1 + 1 + 1, 0, none⟩) 1 1, .slice (some ⟨w1.heap.size + 1 + 1 + 1 + 1 + 1 + 1 + 1, 0, none⟩) 2 2, .slice (some ⟨w1.heap.size + 1 + 1 + 1 + 1 + 1 + 1 + 1 + 1, 0, none⟩) 3 3] 68 (0, 0)] 2 (by show 2 < 10; decide), put_at w1 [.cells #[.int .i64 2, .int .i64 1] 51 (0, 0), .cells #[.int .i64 (-(1 + b)), .int .i64 0, .int .i64 2, .int .i64 1, .int .i64 2, .int .i64 1] 51 (0, 0), .cells #[.string (⟨#[97]⟩ : ByteArray)] 9 (0, 0), .cells #[.string (⟨#[97]⟩ : ByteArray), .string (⟨#[98]⟩ : ByteArray)] 9 (0, 0), .cells #[.string (⟨#[97]⟩ : ByteArray), .string (⟨#[98, 99]⟩ : ByteArray), .string (⟨#[100]⟩ : ByteArray)] 9 (0, 0), .cells #[.slice (some ⟨w1.heap.size + 1 + 1, 0, none⟩) 1 1, .slice (some ⟨w1.heap.size + 1 + 1 + 1, 0, none⟩) 2 2, .slice (some ⟨w1.heap.size + 1 + 1 + 1 + 1, 0, none⟩) 3 3] 58 (0, 0), .cells #[.bool true] 4 (0, 0), .cells #[.bool true, .bool true] 4 (0, 0), .cells #[.bool true, .bool true, .bool true] 4 (0, 0), .cells #[.slice (some ⟨w1.heap.size + 1 + 1 + 1 + 1 + 1 + 1, 0, none⟩) 1 1, .slice (some ⟨w1.heap.size + 1 + 1 + 1 + 1 + 1 + 1 + 1, 0, none⟩) 2 2, .slice (some ⟨w1.heap.size + 1 + 1 + 1 + 1 + 1 + 1 + 1 + 1, 0, none⟩) 3 3] 68 (0, 0)] 3 (by show 3 < 10; decide), put_at w1 [.cells #[.int .i64 2, .int .i64 1] 51 (0, 0), .cells #[.int .i64 (-(1 + b)), .int .i64 0, .int .i64 2, .int .i64 1, .int .i64 2, .int .i64 1] 51 (0, 0), .cells #[.string (⟨#[97]⟩ : ByteArray)] 9 (0, 0), .cells #[.string (⟨#[97]⟩ : ByteArray), .string (⟨#[98]⟩ : ByteArray)] 9 (0, 0), .cells #[.string (⟨#[97]⟩ : ByteArray), .string (⟨#[98, 99]⟩ : ByteArray), .string (⟨#[100]⟩ : ByteArray)] 9 (0, 0), .cells #[.slice (some ⟨w1.heap.size + 1 + 1, 0, none⟩) 1 1, .slice (some ⟨w1.heap.size + 1 + 1 + 1, 0, none⟩) 2 2, .slice (some ⟨w1.heap.size + 1 + 1 + 1 + 1, 0, none⟩) 3 3] 58 (0, 0), .cells #[.bool true] 4 (0, 0), .cells #[.bool true, .bool true] 4 (0, 0), .cells #[.bool true, .bool true, .bool true] 4 (0, 0), .cells #[.slice (some ⟨w1.heap.size + 1 + 1 + 1 + 1 + 1 + 1, 0, none⟩) 1 1, .slice (some ⟨w1.heap.size + 1 + 1 + 1 + 1 + 1 + 1 + 1, 0, none⟩) 2 2, .slice (some ⟨w1.heap.size + 1 + 1 + 1 + 1 + 1 + 1 + 1 + 1, 0, none⟩) 3 3] 68 (0, 0)] 4 (by show 4 < 10; decide), put_at w1 [.cells #[.int .i64 2, .int .i64 1] 51 (0, 0), .cells #[.int .i64 (-(1 + b)), .int .i64 0, .int .i64 2, .int .i64 1, .int .i64 2, .int .i64 1] 51 (0, 0), .cells #[.string (⟨#[97]⟩ : ByteArray)] 9 (0, 0), .cells #[.string (⟨#[97]⟩ : ByteArray), .string (⟨#[98]⟩ : ByteArray)] 9 (0, 0), .cells #[.string (⟨#[97]⟩ : ByteArray), .string (⟨#[98, 99]⟩ : ByteArray), .string (⟨#[100]⟩ : ByteArray)] 9 (0, 0), .cells #[.slice (some ⟨w1.heap.size + 1 + 1, 0, none⟩) 1 1, .slice (some ⟨w1.heap.size + 1 + 1 + 1, 0, none⟩) 2 2, .slice (some ⟨w1.heap.size + 1 + 1 + 1 + 1, 0, none⟩) 3 3] 58 (0, 0), .cells #[.bool true] 4 (0, 0), .cells #[.bool true, .bool true] 4 (0, 0), .cells #[.bool true, .bool true, .bool true] 4 (0, 0), .cells #[.slice (some ⟨w1.heap.size + 1 + 1 + 1 + 1 + 1 + 1, 0, none⟩) 1 1, .slice (some ⟨w1.heap.size + 1 + 1 + 1 + 1 + 1 + 1 + 1, 0, none⟩) 2 2, .slice (some ⟨w1.heap.size + 1 + 1 + 1 + 1 + 1 + 1 + 1 + 1, 0, none⟩) 3 3] 68 (0, 0)] 5 (by show 5 < 10; decide), put_at w1 [.cells #[.int .i64 2, .int .i64 1] 51 (0, 0), .cells #[.int .i64 (-(1 + b)), .int .i64 0, .int .i64 2, .int .i64 1, .int .i64 2, .int .i64 1] 51 (0, 0), .cells #[.string (⟨#[97]⟩ : ByteArray)] 9 (0, 0), .cells #[.string (⟨#[97]⟩ : ByteArray), .string (⟨#[98]⟩ : ByteArray)] 9 (0, 0), .cells #[.string (⟨#[97]⟩ : ByteArray), .string (⟨#[98, 99]⟩ : ByteArray), .string (⟨#[100]⟩ : ByteArray)] 9 (0, 0), .cells #[.slice (some ⟨w1.heap.size + 1 + 1, 0, none⟩) 1 1, .slice (some ⟨w1.heap.size + 1 + 1 + 1, 0, none⟩) 2 2, .slice (some ⟨w1.heap.size + 1 + 1 + 1 + 1, 0, none⟩) 3 3] 58 (0, 0), .cells #[.bool true] 4 (0, 0), .cells #[.bool true, .bool true] 4 (0, 0), .cells #[.bool true, .bool true, .bool true] 4 (0, 0), .cells #[.slice (some ⟨w1.heap.size + 1 + 1 + 1 + 1 + 1 + 1, 0, none⟩) 1 1, .slice (some ⟨w1.heap.size + 1 + 1 + 1 + 1 + 1 + 1 + 1, 0, none⟩) 2 2, .slice (some ⟨w1.heap.size + 1 + 1 + 1 + 1 + 1 + 1 + 1 + 1, 0, none⟩) 3 3] 68 (0, 0)] 6 (by show 6 < 10; decide), put_at w1 [.cells #[.int .i64 2, .int .i64 1] 51 (0, 0), .cells #[.int .i64 (-(1 + b)), .int .i64 0, .int .i64 2, .int .i64 1, .int .i64 2, .int .i64 1] 51 (0, 0), .cells #[.string (⟨#[97]⟩ : ByteArray)] 9 (0, 0), .cells #[.string (⟨#[97]⟩ : ByteArray), .string (⟨#[98]⟩ : ByteArray)] 9 (0, 0), .cells #[.string (⟨#[97]⟩ : ByteArray), .string (⟨#[98, 99]⟩ : ByteArray), .string (⟨#[100]⟩ : ByteArray)] 9 (0, 0), .cells #[.slice (some ⟨w1.heap.size + 1 + 1, 0, none⟩) 1 1, .slice (some ⟨w1.heap.size + 1 + 1 + 1, 0, none⟩) 2 2, .slice (some ⟨w1.heap.size + 1 + 1 + 1 + 1, 0, none⟩) 3 3] 58 (0, 0), .cells #[.bool true] 4 (0, 0), .cells #[.bool true, .bool true] 4 (0, 0), .cells #[.bool true, .bool true, .bool true] 4 (0, 0), .cells #[.slice (some ⟨w1.heap.size + 1 + 1 + 1 + 1 + 1 + 1, 0, none⟩) 1 1, .slice (some ⟨w1.heap.size + 1 + 1 + 1 + 1 + 1 + 1 + 1, 0, none⟩) 2 2, .slice (some ⟨w1.heap.size + 1 + 1 + 1 + 1 + 1 + 1 + 1 + 1, 0, none⟩) 3 3] 68 (0, 0)] 7 (by show 7 < 10; decide), put_at w1 [.cells #[.int .i64 2, .int .i64 1] 51 (0, 0), .cells #[.int .i64 (-(1 + b)), .int .i64 0, .int .i64 2, .int .i64 1, .int .i64 2, .int .i64 1] 51 (0, 0), .cells #[.string (⟨#[97]⟩ : ByteArray)] 9 (0, 0), .cells #[.string (⟨#[97]⟩ : ByteArray), .string (⟨#[98]⟩ : ByteArray)] 9 (0, 0), .cells #[.string (⟨#[97]⟩ : ByteArray), .string (⟨#[98, 99]⟩ : ByteArray), .string (⟨#[100]⟩ : ByteArray)] 9 (0, 0), .cells #[.slice (some ⟨w1.heap.size + 1 + 1, 0, none⟩) 1 1, .slice (some ⟨w1.heap.size + 1 + 1 + 1, 0, none⟩) 2 2, .slice (some ⟨w1.heap.size + 1 + 1 + 1 + 1, 0, none⟩) 3 3] 58 (0, 0), .cells #[.bool true] 4 (0, 0), .cells #[.bool true, .bool true] 4 (0, 0), .cells #[.bool true, .bool true, .bool true] 4 (0, 0), .cells #[.slice (some ⟨w1.heap.size + 1 + 1 + 1 + 1 + 1 + 1, 0, none⟩) 1 1, .slice (some ⟨w1.heap.size + 1 + 1 + 1 + 1 + 1 + 1 + 1, 0, none⟩) 2 2, .slice (some ⟨w1.heap.size + 1 + 1 + 1 + 1 + 1 + 1 + 1 + 1, 0, none⟩) 3 3] 68 (0, 0)] 8 (by show 8 < 10; decide), put_at w1 [.cells #[.int .i64 2, .int .i64 1] 51 (0, 0), .cells #[.int .i64 (-(1 + b)), .int .i64 0, .int .i64 2, .int .i64 1, .int .i64 2, .int .i64 1] 51 (0, 0), .cells #[.string (⟨#[97]⟩ : ByteArray)] 9 (0, 0), .cells #[.string (⟨#[97]⟩ : ByteArray), .string (⟨#[98]⟩ : ByteArray)] 9 (0, 0), .cells #[.string (⟨#[97]⟩ : ByteArray), .string (⟨#[98, 99]⟩ : ByteArray), .string (⟨#[100]⟩ : ByteArray)] 9 (0, 0), .cells #[.slice (some ⟨w1.heap.size + 1 + 1, 0, none⟩) 1 1, .slice (some ⟨w1.heap.size + 1 + 1 + 1, 0, none⟩) 2 2, .slice (some ⟨w1.heap.size + 1 + 1 + 1 + 1, 0, none⟩) 3 3] 58 (0, 0), .cells #[.bool true] 4 (0, 0), .cells #[.bool true, .bool true] 4 (0, 0), .cells #[.bool true, .bool true, .bool true] 4 (0, 0), .cells #[.slice (some ⟨w1.heap.size + 1 + 1 + 1 + 1 + 1 + 1, 0, none⟩) 1 1, .slice (some ⟨w1.heap.size + 1 + 1 + 1 + 1 + 1 + 1 + 1, 0, none⟩) 2 2, .slice (some ⟨w1.heap.size + 1 + 1 + 1 + 1 + 1 + 1 + 1 + 1, 0, none⟩) 3 3] 68 (0, 0)] 9 (by show 9 < 10; decide)⟩
  clear hos_ os_
  obtain ⟨hBW, o0, o1, o2, o3, o4, o5, o6, o7, o8, o9⟩ := hW
  have hx0 : W.cell? ⟨w1.heap.size + 1, 4, none⟩ = some (.int .i64 (2)) := blk_cell o1 4
  have hx1 : W.cell? ⟨w1.heap.size + 1, 5, none⟩ = some (.int .i64 1) := blk_cell o1 5
  have hx2 : W.cell? ⟨w1.heap.size + 1 + 1 + 1 + 1 + 1, 2, none⟩ = some (.slice (some ⟨w1.heap.size + 1 + 1 + 1 + 1, 0, none⟩) 3 3) := blk_cell o5 2
  have hx3 : W.cell? ⟨w1.heap.size + 1 + 1 + 1 + 1 + 1 + 1 + 1 + 1 + 1, 2, none⟩ = some (.slice (some ⟨w1.heap.size + 1 + 1 + 1 + 1 + 1 + 1 + 1 + 1, 0, none⟩) 3 3) := blk_cell o9 2
  have hm_ : Kd.C Kd.string W (some ⟨w1.heap.size + 1 + 1 + 1 + 1, 0, none⟩) 3 [(⟨#[97]⟩ : ByteArray), (⟨#[98, 99]⟩ : ByteArray), (⟨#[100]⟩ : ByteArray)] := C_str [(⟨#[97]⟩ : ByteArray), (⟨#[98, 99]⟩ : ByteArray), (⟨#[100]⟩ : ByteArray)] o4 (by decide)
  have hn_ : Kd.C Kd.bool W (some ⟨w1.heap.size + 1 + 1 + 1 + 1 + 1 + 1 + 1 + 1, 0, none⟩) 3 [true, true, true] := C_boo [true, true, true] o8 (by decide)
  have HM := mk0 hm_
  have HV := mk0 hn_
  have HBW := mk0 (below_step HB.out hBW)
  have O0 := mk0 o0
  clear hm_ hn_ hBW o0 o1 o2 o3 o4 o5 o6 o7 o8 o9 HB
  rw [hk]
  refine start_ (n := 18) (S := fun w' => w'.cell? ⟨w1.heap.size + 1, 4, none⟩ = some (.int .i64 (2)) ∧ w'.cell? ⟨w1.heap.size + 1, 5, none⟩ = some (.int .i64 1) ∧ w'.cell? ⟨w1.heap.size + 1 + 1 + 1 + 1 + 1, 2, none⟩ = some (.slice (some ⟨w1.heap.size + 1 + 1 + 1 + 1, 0, none⟩) 3 3) ∧ w'.cell? ⟨w1.heap.size + 1 + 1 + 1 + 1 + 1 + 1 + 1 + 1 + 1, 2, none⟩ = some (.slice (some ⟨w1.heap.size + 1 + 1 + 1 + 1 + 1 + 1 + 1 + 1, 0, none⟩) 3 3)) (ds := []) #[false, false, false, false, false, false, false, false, false, false, false, false, false, false, false, false, false, false] (by kernel_rfl) rfl rfl ⟨hx0, hx1, hx2, hx3⟩ (fun hHeld => ?_); refine with_tabW reb_tab9 reb_bits9 (fun HT_ HW_ => ?_)
  have n0_ := mk0 (Kd.C_drew HM.out)
  have n1_ := mk0 (Kd.C_drew HV.out)
  have n2_ := mk0 (lD HBW.out)
  have n3_ := mk0 (bD O0.out)
  clear HM HV HBW O0 hx0 hx1 hx2 hx3
  have HM := n0_
  have HV := n1_
  have HBW := n2_
  have O0 := n3_
  clear n0_ n1_ n2_ n3_
  generalize W.drew = W2 at HM HV HBW O0 hHeld ⊢
  refine pure_ (i := 0) (N := some 40) (v := ?_) (a' := ?_) #[true, false, false, false, false, false, false, false, false, false, false, false, false, false, false, false, false, false] rfl rfl (any_of HT_.out (by kernel_rfl)) (fun _ _ _ h => h) (Or.inl ⟨by rfl, ?_⟩) ?_ ?_
  rotate_left
  · intro w'
    go_simp
    with_reducible rfl
  rotate_left
  · simp only [Act.put, List.setIfInBounds_toArray, List.set_cons_zero, List.set_cons_succ, i64_w, i32_w]
    rfl
  refine pure_ (i := 1) (N := some 41) (v := ?_) (a' := ?_) #[true, true, false, false, false, false, false, false, false, false, false, false, false, false, false, false, false, false] rfl rfl (any_of HT_.out (by kernel_rfl)) (fun _ _ _ h => h) (Or.inl ⟨by rfl, ?_⟩) ?_ ?_
  rotate_left
  · intro w'
    go_simp
    with_reducible rfl
  rotate_left
  · simp only [Act.put, List.setIfInBounds_toArray, List.set_cons_zero, List.set_cons_succ, i64_w, i32_w]
    rfl
  refine pure_ (i := 2) (N := some 42) (v := ?_) (a' := ?_) #[true, true, true, false, false, false, false, false, false, false, false, false, false, false, false, false, false, false] rfl rfl (any_of HT_.out (by kernel_rfl)) (fun _ _ _ h => h) (Or.inl ⟨by rfl, ?_⟩) ?_ ?_
  rotate_left
  · intro w'
    go_simp
    with_reducible rfl
  rotate_left
  · simp only [Act.put, List.setIfInBounds_toArray, List.set_cons_zero, List.set_cons_succ, i64_w, i32_w]
    rfl
  refine pure_ (i := 4) (N := some 44) (v := ?_) (a' := ?_) #[true, true, true, false, true, false, false, false, false, false, false, false, false, false, false, false, false, false] rfl rfl (any_of HT_.out (by kernel_rfl)) (fun _ _ _ h => h) (Or.inl ⟨by rfl, ?_⟩) ?_ ?_
  rotate_left
  · intro w'
    go_simp
    with_reducible rfl
  rotate_left
  · simp only [Act.put, List.setIfInBounds_toArray, List.set_cons_zero, List.set_cons_succ, i64_w, i32_w]
    rfl
  refine pure_ (i := 5) (N := some 45) (v := ?_) (a' := ?_) #[true, true, true, false, true, true, false, false, false, false, false, false, false, false, false, false, false, false] rfl rfl (any_of HT_.out (by kernel_rfl)) (fun _ _ _ h => h) (Or.inl ⟨by rfl, ?_⟩) ?_ ?_
  rotate_left
  · intro w'
    go_simp
    with_reducible rfl
  rotate_left
  · simp only [Act.put, List.setIfInBounds_toArray, List.set_cons_zero, List.set_cons_succ, i64_w, i32_w]
    rfl
  refine pure_ (i := 6) (N := some 46) (v := ?_) (a' := ?_) #[true, true, true, false, true, true, true, false, false, false, false, false, false, false, false, false, false, false] rfl rfl (any_of HT_.out (by kernel_rfl)) (fun _ _ _ h => h) (Or.inl ⟨by rfl, ?_⟩) ?_ ?_
  rotate_left
  · intro w'
    go_simp
    with_reducible rfl
  rotate_left
  · simp only [Act.put, List.setIfInBounds_toArray, List.set_cons_zero, List.set_cons_succ, i64_w, i32_w]
    rfl
  refine pure_ (i := 8) (N := some 48) (v := ?_) (a' := ?_) #[true, true, true, false, true, true, true, false, true, false, false, false, false, false, false, false, false, false] rfl rfl (any_of HT_.out (by kernel_rfl)) (fun _ _ _ h => h) (Or.inl ⟨by rfl, ?_⟩) ?_ ?_
  rotate_left
  · intro w'
    go_simp
    with_reducible rfl
  rotate_left
  · simp only [Act.put, List.setIfInBounds_toArray, List.set_cons_zero, List.set_cons_succ, i64_w, i32_w]
    rfl
  refine pure_ (i := 9) (N := some 49) (v := ?_) (a' := ?_) #[true, true, true, false, true, true, true, false, true, true, false, false, false, false, false, false, false, false] rfl rfl (any_of HT_.out (by kernel_rfl)) (fun _ _ _ h => h) (Or.inl ⟨by rfl, ?_⟩) ?_ ?_
  rotate_left
  · intro w'
    go_simp
    with_reducible rfl
  rotate_left
  · simp only [Act.put, List.setIfInBounds_toArray, List.set_cons_zero, List.set_cons_succ, i64_w, i32_w]
    rfl
  refine pure_ (i := 10) (N := some 50) (v := ?_) (a' := ?_) #[true, true, true, false, true, true, true, false, true, true, true, false, false, false, false, false, false, false] rfl rfl (any_of HT_.out (by kernel_rfl)) (fun _ _ _ h => h) (Or.inl ⟨by rfl, ?_⟩) ?_ ?_
  rotate_left
  · intro w'
    go_simp
    with_reducible rfl
  rotate_left
  · simp only [Act.put, List.setIfInBounds_toArray, List.set_cons_zero, List.set_cons_succ, i64_w, i32_w]
    rfl
  refine take_ (i := 3) (N := some 43) (v := ?_) (a' := ?_) #[true, true, true, true, true, true, true, false, true, true, true, false, false, false, false, false, false, false] rfl rfl (take_ofW HT_.out HW_.out (by kernel_rfl)) (fun _ _ _ h => h) (Or.inl ⟨by rfl, ?_⟩) hHeld ?_ ?_
  rotate_left
  · rintro w' ⟨s0, s1, s2, s3⟩
    go_simp
    with_reducible rfl
  rotate_left
  · simp only [Act.put, List.setIfInBounds_toArray, List.set_cons_zero, List.set_cons_succ, i64_w, i32_w]
    rfl
  refine take_ (i := 7) (N := some 47) (v := ?_) (a' := ?_) #[true, true, true, true, true, true, true, true, true, true, true, false, false, false, false, false, false, false] rfl rfl (take_ofW HT_.out HW_.out (by kernel_rfl)) (fun _ _ _ h => h) (Or.inl ⟨by rfl, ?_⟩) hHeld ?_ ?_
  rotate_left
  · rintro w' ⟨s0, s1, s2, s3⟩
    go_simp
    with_reducible rfl
  rotate_left
  · simp only [Act.put, List.setIfInBounds_toArray, List.set_cons_zero, List.set_cons_succ, i64_w, i32_w]
    rfl
  refine take_ (i := 11) (N := some 51) (v := ?_) (a' := ?_) #[true, true, true, true, true, true, true, true, true, true, true, true, false, false, false, false, false, false] rfl rfl (take_ofW HT_.out HW_.out (by kernel_rfl)) (fun _ _ _ h => h) (Or.inl ⟨by rfl, ?_⟩) hHeld ?_ ?_
  rotate_left
  · rintro w' ⟨s0, s1, s2, s3⟩
    go_simp
    with_reducible rfl
  rotate_left
  · simp only [Act.put, List.setIfInBounds_toArray, List.set_cons_zero, List.set_cons_succ, i64_w, i32_w]
    rfl
  refine one_ (i := 12) (N := some 52) #[true, true, true, true, true, true, true, true, true, true, true, true, true, false, false, false, false, false] rfl rfl (one_of HT_.out (by kernel_rfl)) (by decide) (fun K hK => ?_)
  refine goes_ Try.func59 (by kernel_rfl) rfl #[.agg #[.int .i64 (2), .int .i64 1], .slice (some ⟨w1.heap.size + 1 + 1 + 1 + 1, 0, none⟩) 3 3, .slice (some ⟨w1.heap.size + 1 + 1 + 1 + 1 + 1 + 1 + 1 + 1, 0, none⟩) 3 3] (by rfl) rfl rfl (by (try simp only [List.map_toArray, List.map_cons, List.map_nil]); first | done | rfl) ?_
  refine (GEnc.rebuild_Rebuild.calls k (2) 1 _ 3 [(⟨#[97]⟩ : ByteArray), (⟨#[98, 99]⟩ : ByteArray), (⟨#[100]⟩ : ByteArray)] _ 3 [true, true, true] [] 800 W2 HM.out (Nat.le_refl _) HV.out (Nat.le_refl _) E1.out).mono ?_
  rintro e W3 ⟨v0, rfl, ho0, hb⟩
  obtain ⟨Aa, ca, rfl⟩ := Kd.R_slice ho0
  have HS0_ := (hb.cell (World.block_lt_of_cell? _ _ (hHeld.1))).trans (hHeld.1)
  have HS1_ := (hb.cell (World.block_lt_of_cell? _ _ (hHeld.2.1))).trans (hHeld.2.1)
  have HS2_ := (hb.cell (World.block_lt_of_cell? _ _ (hHeld.2.2.1))).trans (hHeld.2.2.1)
  have HS3_ := (hb.cell (World.block_lt_of_cell? _ _ (hHeld.2.2.2))).trans (hHeld.2.2.2)
  refine ⟨_, rfl, ?_⟩
  have n2_ := mk0 (below_step HBW.out hb)
  have n3_ := mk0 (blk_below O0.out hb)
  clear HM HV HBW O0 ho0 hb
  have HB := n2_
  have O0 := n3_
  clear n2_ n3_
  refine hK.out _ _ ⟨HS0_, HS1_, HS2_, HS3_⟩ (fun hHeld => ?_)
  clear hK K
  refine norm_ (a' := ?_) ?_ ?_
  rotate_left
  · show Act.put _ (some 52) _ = _
    simp only [Act.put, List.setIfInBounds_toArray, List.set_cons_zero, List.set_cons_succ, i64_w, i32_w]
    rfl
  refine pure_ (i := 13) (N := some 39) (v := ?_) (a' := ?_) #[true, true, true, true, true, true, true, true, true, true, true, true, true, true, false, false, false, false] rfl rfl (any_of HT_.out (by kernel_rfl)) (fun _ _ _ h => h) (Or.inl ⟨by rfl, ?_⟩) ?_ ?_
  rotate_left
  · intro w'
    go_simp
    with_reducible rfl
  rotate_left
  · simp only [Act.put, List.setIfInBounds_toArray, List.set_cons_zero, List.set_cons_succ, i64_w, i32_w]
    rfl
  refine pure_ (i := 14) (N := some 53) (v := ?_) (a' := ?_) #[true, true, true, true, true, true, true, true, true, true, true, true, true, true, true, false, false, false] rfl rfl (any_of HT_.out (by kernel_rfl)) (fun _ _ _ h => h) (Or.inl ⟨by rfl, ?_⟩) ?_ ?_
  rotate_left
  · intro w'
    go_simp
    with_reducible rfl
  rotate_left
  · simp only [Act.put, List.setIfInBounds_toArray, List.set_cons_zero, List.set_cons_succ, i64_w, i32_w]
    rfl
  refine pure_ (i := 15) (N := some 54) (v := ?_) (a' := ?_) #[true, true, true, true, true, true, true, true, true, true, true, true, true, true, true, true, false, false] rfl rfl (any_of HT_.out (by kernel_rfl)) (fun _ _ _ h => h) (Or.inl ⟨by rfl, ?_⟩) ?_ ?_
  rotate_left
  · intro w'
    go_simp
    with_reducible rfl
  rotate_left
  · simp only [Act.put, List.setIfInBounds_toArray, List.set_cons_zero, List.set_cons_succ, i64_w, i32_w]
    rfl
  refine pure_ (i := 16) (N := some 11) (v := ?_) (a' := ?_) #[true, true, true, true, true, true, true, true, true, true, true, true, true, true, true, true, true, false] rfl rfl (any_of HT_.out (by kernel_rfl)) (fun _ _ _ h => h) (Or.inl ⟨by rfl, ?_⟩) ?_ ?_
  rotate_left
  · intro w'
    go_simp
    with_reducible rfl
  rotate_left
  · simp only [Act.put, List.setIfInBounds_toArray, List.set_cons_zero, List.set_cons_succ, i64_w, i32_w]
    rfl
  refine pure_ (i := 17) (N := some 12) (v := ?_) (a' := ?_) #[true, true, true, true, true, true, true, true, true, true, true, true, true, true, true, true, true, true] rfl rfl (any_of HT_.out (by kernel_rfl)) (fun _ _ _ h => h) (Or.inl ⟨by rfl, ?_⟩) ?_ ?_
  rotate_left
  · intro w'
    go_simp
    with_reducible rfl
  rotate_left
  · simp only [Act.put, List.setIfInBounds_toArray, List.set_cons_zero, List.set_cons_succ, i64_w, i32_w]
    rfl
  refine done_ (done_of HT_.out (by kernel_rfl)) ?_
  clear HT_ HW_
  have hz0 : W3.cell? ⟨w1.heap.size, 0, none⟩ = some (.int .i64 2) := (blk_cell O0.out 0).trans rfl
  have hz1 : W3.cell? ⟨w1.heap.size, 1, none⟩ = some (.int .i64 1) := (blk_cell O0.out 1).trans rfl
  have hlt_ : w1.heap.size < W3.heap.size := blk_lt O0.out
  go_wp2_with (first
    | ((with_reducible refine gCa (f := 59) rfl ?_); refine goesL_ (some 59) rfl rfl Try.func59 (by kernel_rfl) rfl #[.agg #[.int .i64 2, .int .i64 1], .slice (some ⟨W3.heap.size, 0, none⟩) 3 3, .slice (some ⟨W3.heap.size + 1, 0, none⟩) 3 3] rfl (by (try simp only [List.map_toArray, List.map_cons, List.map_nil]); first | done | rfl) ?_;
       refine (GEnc.rebuild_Rebuild.calls k 2 1 _ 3 [(⟨#[97]⟩ : ByteArray), ⟨#[98]⟩, ⟨#[99]⟩] _ 3 [false, true, false] [] 801 ((W3.alloc (.cells #[.string (⟨#[97]⟩ : ByteArray), .string (⟨#[98]⟩ : ByteArray), .string (⟨#[99]⟩ : ByteArray)] 9 (0, 0))).alloc (.cells #[.bool false, .bool true, .bool false] 4 (0, 0))) (C_str _ (put_at W3 [.cells #[.string (⟨#[97]⟩ : ByteArray), .string (⟨#[98]⟩ : ByteArray), .string (⟨#[99]⟩ : ByteArray)] 9 (0, 0), .cells #[.bool false, .bool true, .bool false] 4 (0, 0)] 0 (by show 0 < 2; decide)) (by decide)) (Nat.le_refl _) (C_boo _ (put_at W3 [.cells #[.string (⟨#[97]⟩ : ByteArray), .string (⟨#[98]⟩ : ByteArray), .string (⟨#[99]⟩ : ByteArray)] 9 (0, 0), .cells #[.bool false, .bool true, .bool false] 4 (0, 0)] 1 (by show 1 < 2; decide)) (by decide)) (Nat.le_refl _) E2.out).mono ?_;
       rintro e W4 ⟨v1, rfl, ho1, hb⟩; obtain ⟨Ab, cb, rfl⟩ := Kd.R_slice ho1; refine ⟨_, rfl, ?_⟩; have n0_ := mk0 (below_step (lA (lA HB.out _) _) hb); clear HB ho1 hb hz0 hz1 hlt_; have HB := n0_; clear n0_)
    | (go_at_call 35; (with_reducible refine (GBase.ossuarylaw0_Num.calls 800 800 _ rfl).mono ?_); rintro e w' ⟨rfl, ⟨nd, rfl⟩⟩)
    | (go_at_call 35; (with_reducible refine (GBase.ossuarylaw0_Num.calls 801 801 _ rfl).mono ?_); rintro e w' ⟨rfl, ⟨nd2, rfl⟩⟩))
  go_ret
  exact ⟨rfl, by repeat (first | exact HB.out | apply lN | apply lA | apply lD)⟩
end Go.Proofs.Ytaahnicjjpddjaa.RebW
