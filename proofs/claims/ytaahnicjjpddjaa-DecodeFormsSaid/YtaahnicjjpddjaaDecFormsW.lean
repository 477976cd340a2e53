/- The law of the forms that decoding refuses: the call's walk, by hand. -/
import Derived.Test.YtaahnicjjpddjaaGEnc3
import Derived.Test.YtaahnicjjpddjaaGAwd1
namespace Go.Proofs.Ytaahnicjjpddjaa.DecW
open Go.RowKit Go.Proofs.YtaahnicjjpddjaaW.PrintWords Go.Proofs.YtaahnicjjpddjaaW.PrintLast Go.Proofs.YtaahnicjjpddjaaW.PrintMore Go.Proofs.Ytaahnicjjpddjaa.Fn Go.Proofs.Ytaahnicjjpddjaa.GAwd
set_option linter.unusedVariables false
set_option linter.unusedSimpArgs false

theorem seen_ {P : Program} {c : Code} {Q : Exit → Act → World → Prop} {a : Act} {w : World} (F : World → Prop) (hF : F w) (h : ∀ W, F W → Code.wp P c Q a W) : Code.wp P c Q a w := h w hF
theorem below_all (w : World) (os : List Obj) : Below w.heap.size w (os.foldl World.alloc w) := by
  have h : ∀ (os : List Obj) (W : World), Below w.heap.size w W → Below w.heap.size w (os.foldl World.alloc W) := by
    intro os
    induction os with
    | nil => exact fun _ h => h
    | cons o os ih => exact fun W h => ih _ (lA h o)
  exact h os w (Below.refl _ _)
theorem put_at (w : World) (os : List Obj) (i : Nat) (h : i < os.length) : (os.foldl World.alloc w).heap[w.heap.size + i]? = some os[i] := by
  induction os generalizing w i with
  | nil => simp at h
  | cons o os ih =>
    cases i with
    | zero =>
      have hb := below_all (w.alloc o) os
      exact blk_below (blk_new w o) hb
    | succ i =>
      have := ih (w.alloc o) i (by simpa using h)
      rw [World.size_alloc] at this
      rw [show w.heap.size + (i + 1) = w.heap.size + 1 + i by omega]
      exact this
def dec_T10 : Bool × List (List Nat × List Nat) := (true, [([], []), ([], []), ([0, 1], [0, 1]), ([2], [2]), ([], []), ([], []), ([4, 5], [4, 5]), ([6], [6]), ([], []), ([], []), ([8, 9], [8, 9]), ([10], [10]), ([3, 7, 11], [3, 7, 11]), ([12], [12]), ([13], [13]), ([13], [13]), ([14, 12, 0, 1, 2, 3, 4, 5, 6, 7, 8, 9, 10, 11, 12, 13, 14], [14]), ([15, 16, 0, 1, 2, 3, 4, 5, 6, 7, 8, 9, 10, 11, 12, 13, 14, 15, 16], [15])])
def dec_B10 : List Nat := [0, 0, 3, 7, 0, 0, 48, 112, 0, 0, 768, 1792, 4095, 8191, 16383, 16383, 32767, 131071]
theorem dec_tab10 : rtab .any (opsOf Try.f19 10) = dec_T10 := by kernel_rfl
theorem dec_bits10 : waitsOk dec_T10.2 dec_B10 = true := by kernel_rfl
theorem dinfo5 : (Try.prog.info? 5).map (fun i => (i.zero, i.size, i.bytes)) = some (some (.int .u8 0), 1, 1) := by kernel_rfl
theorem C_str {w : World} {g t : Nat} (xs : List ByteArray) (h : w.heap[g]? = some (.cells (xs.map Value.string).toArray t (0, 0))) (hn : xs.length ≤ 100) : Kd.C Kd.string w (some ⟨g, 0, none⟩) xs.length xs :=
  Kd.C_of_reads (d := ByteArray.empty) ⟨rfl, by omega, fun _ => ⟨_, rfl, fun j hj => by
    have hc := blk_cell h j
    rw [show (Addr.add ⟨g, 0, none⟩ j) = ⟨g, j, none⟩ from (by simp [Addr.add]; try exact fun h => h.symm), hc, List.getElem?_toArray, List.getElem?_map, List.getElem?_eq_getElem hj, List.getD_eq_getElem?_getD, List.getElem?_eq_getElem hj]
    rfl⟩⟩
theorem C_boo {w : World} {g t : Nat} (xs : List Bool) (h : w.heap[g]? = some (.cells (xs.map Value.bool).toArray t (0, 0))) (hn : xs.length ≤ 100) : Kd.C Kd.bool w (some ⟨g, 0, none⟩) xs.length xs :=
  Kd.C_of_reads (d := false) ⟨rfl, by omega, fun _ => ⟨_, rfl, fun j hj => by
    have hc := blk_cell h j
    rw [show (Addr.add ⟨g, 0, none⟩ j) = ⟨g, j, none⟩ from (by simp [Addr.add]; try exact fun h => h.symm), hc, List.getElem?_toArray, List.getElem?_map, List.getElem?_eq_getElem hj, List.getD_eq_getElem?_getD, List.getElem?_eq_getElem hj]
    rfl⟩⟩
def decOs (V : World) (b : Int) (L : ByteArray) : List Obj := [.cells #[.int .i64 0, .int .i64 0, .int .i64 2, .int .i64 1, .int .i64 2, .int .i64 1, .int .i64 2, .int .i64 1, .int .i64 2, .int .i64 1, .int .i64 2, .int .i64 (-(1 + b))] 51 (0, 0), .cells #[.string (⟨#[97]⟩ : ByteArray), .string (⟨#[98]⟩ : ByteArray)] 9 (0, 0), .cells #[.string (⟨#[97]⟩ : ByteArray), .string (⟨#[98]⟩ : ByteArray), .string (⟨#[99]⟩ : ByteArray)] 9 (0, 0), .cells #[.string (⟨#[97]⟩ : ByteArray), .string (⟨#[98, 99]⟩ : ByteArray), .string (⟨#[100]⟩ : ByteArray)] 9 (0, 0), .cells #[.string L, .string L, .string L] 9 (0, 0), .cells #[.string (⟨#[97]⟩ : ByteArray), .string (⟨#[98]⟩ : ByteArray), .string (⟨#[99]⟩ : ByteArray)] 9 (0, 0), .cells #[.slice none 0 0, .slice (some ⟨V.heap.size + 1, 0, none⟩) 2 2, .slice (some ⟨V.heap.size + 1 + 1, 0, none⟩) 3 3, .slice (some ⟨V.heap.size + 1 + 1 + 1, 0, none⟩) 3 3, .slice (some ⟨V.heap.size + 1 + 1 + 1 + 1, 0, none⟩) 3 3, .slice (some ⟨V.heap.size + 1 + 1 + 1 + 1 + 1, 0, none⟩) 3 3] 58 (0, 0), .cells #[.bool true, .bool true] 4 (0, 0), .cells #[.bool true, .bool true] 4 (0, 0), .cells #[.bool true, .bool true, .bool false] 4 (0, 0), .cells #[.bool true, .bool true, .bool true] 4 (0, 0), .cells #[.bool true, .bool true, .bool true] 4 (0, 0), .cells #[.slice none 0 0, .slice (some ⟨V.heap.size + 1 + 1 + 1 + 1 + 1 + 1 + 1, 0, none⟩) 2 2, .slice (some ⟨V.heap.size + 1 + 1 + 1 + 1 + 1 + 1 + 1 + 1, 0, none⟩) 2 2, .slice (some ⟨V.heap.size + 1 + 1 + 1 + 1 + 1 + 1 + 1 + 1 + 1, 0, none⟩) 3 3, .slice (some ⟨V.heap.size + 1 + 1 + 1 + 1 + 1 + 1 + 1 + 1 + 1 + 1, 0, none⟩) 3 3, .slice (some ⟨V.heap.size + 1 + 1 + 1 + 1 + 1 + 1 + 1 + 1 + 1 + 1 + 1, 0, none⟩) 3 3] 68 (0, 0)]
def decF (V : World) (b : Int) (L : ByteArray) (W : World) : Prop := Below V.heap.size V W ∧ W.heap[V.heap.size]? = some (.cells #[.int .i64 0, .int .i64 0, .int .i64 2, .int .i64 1, .int .i64 2, .int .i64 1, .int .i64 2, .int .i64 1, .int .i64 2, .int .i64 1, .int .i64 2, .int .i64 (-(1 + b))] 51 (0, 0)) ∧ W.heap[V.heap.size + 1]? = some (.cells #[.string (⟨#[97]⟩ : ByteArray), .string (⟨#[98]⟩ : ByteArray)] 9 (0, 0)) ∧ W.heap[V.heap.size + 1 + 1]? = some (.cells #[.string (⟨#[97]⟩ : ByteArray), .string (⟨#[98]⟩ : ByteArray), .string (⟨#[99]⟩ : ByteArray)] 9 (0, 0)) ∧ W.heap[V.heap.size + 1 + 1 + 1]? = some (.cells #[.string (⟨#[97]⟩ : ByteArray), .string (⟨#[98, 99]⟩ : ByteArray), .string (⟨#[100]⟩ : ByteArray)] 9 (0, 0)) ∧ W.heap[V.heap.size + 1 + 1 + 1 + 1]? = some (.cells #[.string L, .string L, .string L] 9 (0, 0)) ∧ W.heap[V.heap.size + 1 + 1 + 1 + 1 + 1]? = some (.cells #[.string (⟨#[97]⟩ : ByteArray), .string (⟨#[98]⟩ : ByteArray), .string (⟨#[99]⟩ : ByteArray)] 9 (0, 0)) ∧ W.heap[V.heap.size + 1 + 1 + 1 + 1 + 1 + 1]? = some (.cells #[.slice none 0 0, .slice (some ⟨V.heap.size + 1, 0, none⟩) 2 2, .slice (some ⟨V.heap.size + 1 + 1, 0, none⟩) 3 3, .slice (some ⟨V.heap.size + 1 + 1 + 1, 0, none⟩) 3 3, .slice (some ⟨V.heap.size + 1 + 1 + 1 + 1, 0, none⟩) 3 3, .slice (some ⟨V.heap.size + 1 + 1 + 1 + 1 + 1, 0, none⟩) 3 3] 58 (0, 0)) ∧ W.heap[V.heap.size + 1 + 1 + 1 + 1 + 1 + 1 + 1]? = some (.cells #[.bool true, .bool true] 4 (0, 0)) ∧ W.heap[V.heap.size + 1 + 1 + 1 + 1 + 1 + 1 + 1 + 1]? = some (.cells #[.bool true, .bool true] 4 (0, 0)) ∧ W.heap[V.heap.size + 1 + 1 + 1 + 1 + 1 + 1 + 1 + 1 + 1]? = some (.cells #[.bool true, .bool true, .bool false] 4 (0, 0)) ∧ W.heap[V.heap.size + 1 + 1 + 1 + 1 + 1 + 1 + 1 + 1 + 1 + 1]? = some (.cells #[.bool true, .bool true, .bool true] 4 (0, 0)) ∧ W.heap[V.heap.size + 1 + 1 + 1 + 1 + 1 + 1 + 1 + 1 + 1 + 1 + 1]? = some (.cells #[.bool true, .bool true, .bool true] 4 (0, 0)) ∧ W.heap[V.heap.size + 1 + 1 + 1 + 1 + 1 + 1 + 1 + 1 + 1 + 1 + 1 + 1]? = some (.cells #[.slice none 0 0, .slice (some ⟨V.heap.size + 1 + 1 + 1 + 1 + 1 + 1 + 1, 0, none⟩) 2 2, .slice (some ⟨V.heap.size + 1 + 1 + 1 + 1 + 1 + 1 + 1 + 1, 0, none⟩) 2 2, .slice (some ⟨V.heap.size + 1 + 1 + 1 + 1 + 1 + 1 + 1 + 1 + 1, 0, none⟩) 3 3, .slice (some ⟨V.heap.size + 1 + 1 + 1 + 1 + 1 + 1 + 1 + 1 + 1 + 1, 0, none⟩) 3 3, .slice (some ⟨V.heap.size + 1 + 1 + 1 + 1 + 1 + 1 + 1 + 1 + 1 + 1 + 1, 0, none⟩) 3 3] 68 (0, 0))
theorem dec_seen (V : World) (b : Int) (L : ByteArray) : decF V b L ((decOs V b L).foldl World.alloc V) :=
  ⟨below_all V (decOs V b L), put_at V (decOs V b L) 0 (by show 0 < 13; decide), put_at V (decOs V b L) 1 (by show 1 < 13; decide), put_at V (decOs V b L) 2 (by show 2 < 13; decide), put_at V (decOs V b L) 3 (by show 3 < 13; decide), put_at V (decOs V b L) 4 (by show 4 < 13; decide), put_at V (decOs V b L) 5 (by show 5 < 13; decide), put_at V (decOs V b L) 6 (by show 6 < 13; decide), put_at V (decOs V b L) 7 (by show 7 < 13; decide), put_at V (decOs V b L) 8 (by show 8 < 13; decide), put_at V (decOs V b L) 9 (by show 9 < 13; decide), put_at V (decOs V b L) 10 (by show 10 < 13; decide), put_at V (decOs V b L) 11 (by show 11 < 13; decide), put_at V (decOs V b L) 12 (by show 12 < 13; decide)⟩
def t2Os : List Obj := [.cells #[.string (⟨#[97]⟩ : ByteArray), .string (⟨#[98, 99]⟩ : ByteArray), .string (⟨#[]⟩ : ByteArray)] 9 (0, 0), .cells #[.bool true, .bool false, .bool false] 4 (0, 0)]
abbrev q0 : Array Bool := #[true, true, true, true, true, true, true, true, true, true, true, true, true, true, false, false, false, false]
abbrev q1 : Array Bool := #[true, true, true, true, true, true, true, true, true, true, true, true, true, true, true, false, false, false]
abbrev q2 : Array Bool := #[true, true, true, true, true, true, true, true, true, true, true, true, true, true, true, true, false, false]
abbrev q3 : Array Bool := #[true, true, true, true, true, true, true, true, true, true, true, true, true, true, true, true, true, false]
abbrev q4 : Array Bool := #[true, true, true, true, true, true, true, true, true, true, true, true, true, true, true, true, true, true]
abbrev q5 : Array Bool := #[true, false, false, false, false, false, false, false, false, false, false, false, false, false, false, false, false, false]
abbrev q6 : Array Bool := #[true, true, false, false, false, false, false, false, false, false, false, false, false, false, false, false, false, false]
abbrev q7 : Array Bool := #[true, true, true, false, false, false, false, false, false, false, false, false, false, false, false, false, false, false]
abbrev q8 : Array Bool := #[true, true, true, false, true, false, false, false, false, false, false, false, false, false, false, false, false, false]
abbrev q9 : Array Bool := #[true, true, true, false, true, true, false, false, false, false, false, false, false, false, false, false, false, false]
abbrev q10 : Array Bool := #[true, true, true, false, true, true, true, false, false, false, false, false, false, false, false, false, false, false]
abbrev q11 : Array Bool := #[true, true, true, false, true, true, true, false, true, false, false, false, false, false, false, false, false, false]
abbrev q12 : Array Bool := #[true, true, true, false, true, true, true, false, true, true, false, false, false, false, false, false, false, false]
abbrev q13 : Array Bool := #[true, true, true, false, true, true, true, false, true, true, true, false, false, false, false, false, false, false]
abbrev q14 : Array Bool := #[true, true, true, true, true, true, true, false, true, true, true, false, false, false, false, false, false, false]
abbrev q15 : Array Bool := #[true, true, true, true, true, true, true, true, true, true, true, false, false, false, false, false, false, false]
abbrev q16 : Array Bool := #[true, true, true, true, true, true, true, true, true, true, true, true, false, false, false, false, false, false]
abbrev q17 : Array Bool := #[true, true, true, true, true, true, true, true, true, true, true, true, true, false, false, false, false, false]
set_option maxHeartbeats 8000000 in
set_option maxRecDepth 100000 in
theorem walk0 (k : Nat) (a0 a1 b n : Int) (L : ByteArray) (w : World) (h5 : ossuarylaw7_awake.f k = some true) (hb : Go.bits .and .i64 a1 1023 = b) (hk : wrap64 (Int.tmod (IntKind.u64.wrap a0) 6) = 0) (hb1 : wrap64 (1 + b) = 1 + b) (hb2 : wrap64 (-(1 + b)) = -(1 + b)) (hb3 : wrap64 (4096 + (1 + b)) = n)
    (hn0 : 0 ≤ n) (hn1 : n.toNat ≤ 281474976710656) (hL : strOfNums (List.replicate n.toNat 0) = L)
    (e1 : GEnc.decode_Decode.f k (0) (0) ([] : List ByteArray) ([] : List Bool) = some ([], 700)) (e2 : GEnc.decode_Decode.f k 2 1 [(⟨#[97]⟩ : ByteArray), (⟨#[98, 99]⟩ : ByteArray), (⟨#[]⟩ : ByteArray)] [true, false, false] = some ([], 701)) :
    Calls Try.prog 19 #[.int .i64 a0, .int .i64 a1] w fun e w' => e = .returned (.bool true) ∧ Below w.heap.size w w' := by
  have hu51 := Try.underlying51
  have hb3w : IntKind.i64.wrap (4096 + (1 + b)) = n := (i64_w _).trans hb3
  have A5 := mk0 h5
  have E1 := mk0 e1
  have E2 := mk0 e2
  have HB := mk0 (Below.refl w.heap.size w)
  clear h5 e1 e2
  go_enter Try.func19, Try.ntmps19
  go_wp2_with (first
    | ((with_reducible refine gCa (f := 55) rfl ?_); refine goesL_ (some 16) rfl rfl Try.func55 (by kernel_rfl) rfl #[] rfl (by (try simp only [List.map_toArray, List.map_nil]); first | done | rfl) ?_; (with_reducible refine (ossuarylaw7_awake.calls k true _ A5.out).mono ?_); rintro e w1 ⟨rfl, hb⟩; refine ⟨_, rfl, ?_⟩; have n0_ := mk0 (below_step HB.out hb); clear HB; have HB := n0_; clear n0_ hb)
    | ((with_reducible refine gate_dst (N := 24) rfl ?_); refine Kd.R_make (Kd.int .u8) _ 5 rfl (N := 24) rfl 66 _ _ rfl n rfl rfl Try.underlying66 (.int .u8 0) 1 dinfo5 rfl (by decide) (by omega) 0 (ok := fun _ => True) (okp := fun _ => True) rfl (fun _ hk => hk) trivial hn0 (Nat.le_trans (Nat.mul_le_mul_right _ hn1) (by omega)) (Below.refl _ _) (Nat.le_refl _) ?_; intro v24 V ho24 hb_ hg_ hnew_; clear hg_ hnew_;
       have hcv25 := own_string (P := Try.prog) Try.underlying66 Try.underlying5 Try.underlying9 (Kd.own_of_R ho24); rw [hL] at hcv25;
       have O0 := mk0 (blk_below (put_at w1 [.cells #[.int .i64 2, .int .i64 1] 51 (0, 0)] 0 (by show 0 < 1; decide)) hb_); have n0_ := mk0 (below_step (below_step HB.out (below_all w1 [.cells #[.int .i64 2, .int .i64 1] 51 (0, 0)])) hb_); clear HB; have HB := n0_; clear n0_ hb_ ho24;
       have hz0 : V.cell? ⟨w1.heap.size, 0, none⟩ = some (.int .i64 2) := (blk_cell O0.out 0).trans rfl; have hz1 : V.cell? ⟨w1.heap.size, 1, none⟩ = some (.int .i64 1) := (blk_cell O0.out 1).trans rfl))
  clear hcv25 hz0 hz1
  refine seen_ (F := decF V b L) (dec_seen V b L) (fun W hW => ?_)
  obtain ⟨hBW, o0, o1, o2, o3, o4, o5, o6, o7, o8, o9, o10, o11, o12⟩ := hW
  have hx0 : W.cell? ⟨V.heap.size, 0, none⟩ = some (.int .i64 (0)) := blk_cell o0 0
  have hx1 : W.cell? ⟨V.heap.size, 1, none⟩ = some (.int .i64 (0)) := blk_cell o0 1
  have hx2 : W.cell? ⟨V.heap.size + 1 + 1 + 1 + 1 + 1 + 1, 0, none⟩ = some (.slice none 0 0) := blk_cell o6 0
  have hx3 : W.cell? ⟨V.heap.size + 1 + 1 + 1 + 1 + 1 + 1 + 1 + 1 + 1 + 1 + 1 + 1, 0, none⟩ = some (.slice none 0 0) := blk_cell o12 0
  have hm_ : Kd.C Kd.string W none 0 ([] : List ByteArray) := Kd.C_nil _ _
  have hn_ : Kd.C Kd.bool W none 0 ([] : List Bool) := Kd.C_nil _ _
  have HM := mk0 hm_
  have HV := mk0 hn_
  have n0_ := mk0 (blk_below O0.out hBW)
  have HBW := mk0 (below_step HB.out hBW)
  clear O0
  have O0 := n0_
  clear n0_ hm_ hn_ hBW o0 o1 o2 o3 o4 o5 o6 o7 o8 o9 o10 o11 o12 HB
  rw [hk]
  refine start_ (n := 18) (S := fun w' => w'.cell? ⟨V.heap.size, 0, none⟩ = some (.int .i64 (0)) ∧ w'.cell? ⟨V.heap.size, 1, none⟩ = some (.int .i64 (0)) ∧ w'.cell? ⟨V.heap.size + 1 + 1 + 1 + 1 + 1 + 1, 0, none⟩ = some (.slice none 0 0) ∧ w'.cell? ⟨V.heap.size + 1 + 1 + 1 + 1 + 1 + 1 + 1 + 1 + 1 + 1 + 1 + 1, 0, none⟩ = some (.slice none 0 0)) (ds := []) #[false, false, false, false, false, false, false, false, false, false, false, false, false, false, false, false, false, false] (by kernel_rfl) rfl rfl ⟨hx0, hx1, hx2, hx3⟩ (fun hHeld => ?_); refine with_tabW dec_tab10 dec_bits10 (fun HT_ HW_ => ?_)
  replace HM := mk0 (Kd.C_drew HM.out)
  replace HV := mk0 (Kd.C_drew HV.out)
  replace HBW := mk0 (lD HBW.out)
  replace O0 := mk0 (bD O0.out)
  clear hx0 hx1 hx2 hx3
  generalize W.drew = W2 at HM HV HBW O0 hHeld ⊢
  refine pure_ (i := 0) (N := some 55) (v := ?_) (a' := ?_) q5 rfl rfl (any_of HT_.out (by kernel_rfl)) (fun _ _ _ h => h) (Or.inl ⟨by rfl, ?_⟩) ?_ ?_
  rotate_left
  · intro w'
    go_simp
    with_reducible rfl
  rotate_left
  · simp only [Act.put, List.setIfInBounds_toArray, List.set_cons_zero, List.set_cons_succ, i64_w]
    rfl
  refine pure_ (i := 1) (N := some 56) (v := ?_) (a' := ?_) q6 rfl rfl (any_of HT_.out (by kernel_rfl)) (fun _ _ _ h => h) (Or.inl ⟨by rfl, ?_⟩) ?_ ?_
  rotate_left
  · intro w'
    go_simp
    with_reducible rfl
  rotate_left
  · simp only [Act.put, List.setIfInBounds_toArray, List.set_cons_zero, List.set_cons_succ, i64_w]
    rfl
  refine pure_ (i := 2) (N := some 57) (v := ?_) (a' := ?_) q7 rfl rfl (any_of HT_.out (by kernel_rfl)) (fun _ _ _ h => h) (Or.inl ⟨by rfl, ?_⟩) ?_ ?_
  rotate_left
  · intro w'
    go_simp
    with_reducible rfl
  rotate_left
  · simp only [Act.put, List.setIfInBounds_toArray, List.set_cons_zero, List.set_cons_succ, i64_w]
    rfl
  refine pure_ (i := 4) (N := some 59) (v := ?_) (a' := ?_) q8 rfl rfl (any_of HT_.out (by kernel_rfl)) (fun _ _ _ h => h) (Or.inl ⟨by rfl, ?_⟩) ?_ ?_
  rotate_left
  · intro w'
    go_simp
    with_reducible rfl
  rotate_left
  · simp only [Act.put, List.setIfInBounds_toArray, List.set_cons_zero, List.set_cons_succ, i64_w]
    rfl
  refine pure_ (i := 5) (N := some 60) (v := ?_) (a' := ?_) q9 rfl rfl (any_of HT_.out (by kernel_rfl)) (fun _ _ _ h => h) (Or.inl ⟨by rfl, ?_⟩) ?_ ?_
  rotate_left
  · intro w'
    go_simp
    with_reducible rfl
  rotate_left
  · simp only [Act.put, List.setIfInBounds_toArray, List.set_cons_zero, List.set_cons_succ, i64_w]
    rfl
  refine pure_ (i := 6) (N := some 61) (v := ?_) (a' := ?_) q10 rfl rfl (any_of HT_.out (by kernel_rfl)) (fun _ _ _ h => h) (Or.inl ⟨by rfl, ?_⟩) ?_ ?_
  rotate_left
  · intro w'
    go_simp
    with_reducible rfl
  rotate_left
  · simp only [Act.put, List.setIfInBounds_toArray, List.set_cons_zero, List.set_cons_succ, i64_w]
    rfl
  refine pure_ (i := 8) (N := some 63) (v := ?_) (a' := ?_) q11 rfl rfl (any_of HT_.out (by kernel_rfl)) (fun _ _ _ h => h) (Or.inl ⟨by rfl, ?_⟩) ?_ ?_
  rotate_left
  · intro w'
    go_simp
    with_reducible rfl
  rotate_left
  · simp only [Act.put, List.setIfInBounds_toArray, List.set_cons_zero, List.set_cons_succ, i64_w]
    rfl
  refine pure_ (i := 9) (N := some 64) (v := ?_) (a' := ?_) q12 rfl rfl (any_of HT_.out (by kernel_rfl)) (fun _ _ _ h => h) (Or.inl ⟨by rfl, ?_⟩) ?_ ?_
  rotate_left
  · intro w'
    go_simp
    with_reducible rfl
  rotate_left
  · simp only [Act.put, List.setIfInBounds_toArray, List.set_cons_zero, List.set_cons_succ, i64_w]
    rfl
  refine pure_ (i := 10) (N := some 65) (v := ?_) (a' := ?_) q13 rfl rfl (any_of HT_.out (by kernel_rfl)) (fun _ _ _ h => h) (Or.inl ⟨by rfl, ?_⟩) ?_ ?_
  rotate_left
  · intro w'
    go_simp
    with_reducible rfl
  rotate_left
  · simp only [Act.put, List.setIfInBounds_toArray, List.set_cons_zero, List.set_cons_succ, i64_w]
    rfl
  refine take_ (i := 3) (N := some 58) (v := ?_) (a' := ?_) q14 rfl rfl (take_ofW HT_.out HW_.out (by kernel_rfl)) (fun _ _ _ h => h) (Or.inl ⟨by rfl, ?_⟩) hHeld ?_ ?_
  rotate_left
  · rintro w' ⟨s0, s1, s2, s3⟩
    go_simp
    with_reducible rfl
  rotate_left
  · simp only [Act.put, List.setIfInBounds_toArray, List.set_cons_zero, List.set_cons_succ, i64_w]
    rfl
  refine take_ (i := 7) (N := some 62) (v := ?_) (a' := ?_) q15 rfl rfl (take_ofW HT_.out HW_.out (by kernel_rfl)) (fun _ _ _ h => h) (Or.inl ⟨by rfl, ?_⟩) hHeld ?_ ?_
  rotate_left
  · rintro w' ⟨s0, s1, s2, s3⟩
    go_simp
    with_reducible rfl
  rotate_left
  · simp only [Act.put, List.setIfInBounds_toArray, List.set_cons_zero, List.set_cons_succ, i64_w]
    rfl
  refine take_ (i := 11) (N := some 66) (v := ?_) (a' := ?_) q16 rfl rfl (take_ofW HT_.out HW_.out (by kernel_rfl)) (fun _ _ _ h => h) (Or.inl ⟨by rfl, ?_⟩) hHeld ?_ ?_
  rotate_left
  · rintro w' ⟨s0, s1, s2, s3⟩
    go_simp
    with_reducible rfl
  rotate_left
  · simp only [Act.put, List.setIfInBounds_toArray, List.set_cons_zero, List.set_cons_succ, i64_w]
    rfl
  refine one_ (i := 12) (N := some 67) q17 rfl rfl (one_of HT_.out (by kernel_rfl)) (by decide) (fun K hK => ?_)
  refine goes_ Try.func53 (by kernel_rfl) rfl #[.agg #[.int .i64 (0), .int .i64 (0)], .slice none 0 0, .slice none 0 0] (by rfl) rfl rfl (by (try simp only [List.map_toArray, List.map_cons, List.map_nil]); first | done | rfl) ?_
  refine (GEnc.decode_Decode.calls k (0) (0) _ 0 ([] : List ByteArray) _ 0 ([] : List Bool) [] 700 W2 HM.out (Nat.le_refl _) HV.out (Nat.le_refl _) E1.out).mono ?_
  rintro e W3 ⟨v0, rfl, ho0, hb⟩
  obtain ⟨Aa, ca, rfl⟩ := Kd.R_slice ho0
  have HS0_ := (hb.cell (World.block_lt_of_cell? _ _ (hHeld.1))).trans (hHeld.1)
  have HS1_ := (hb.cell (World.block_lt_of_cell? _ _ (hHeld.2.1))).trans (hHeld.2.1)
  have HS2_ := (hb.cell (World.block_lt_of_cell? _ _ (hHeld.2.2.1))).trans (hHeld.2.2.1)
  have HS3_ := (hb.cell (World.block_lt_of_cell? _ _ (hHeld.2.2.2))).trans (hHeld.2.2.2)
  refine ⟨_, rfl, ?_⟩
  have n2_ := mk0 (below_step HBW.out hb)
  have n3_ := mk0 (blk_below O0.out hb)
  clear HM HV HBW O0 ho0 hb
  have HB := n2_
  have O0 := n3_
  clear n2_ n3_
  refine hK.out _ _ ⟨HS0_, HS1_, HS2_, HS3_⟩ (fun hHeld => ?_)
  clear hK K
  refine norm_ (a' := ?_) ?_ ?_
  rotate_left
  · show Act.put _ (some 67) _ = _
    simp only [Act.put, List.setIfInBounds_toArray, List.set_cons_zero, List.set_cons_succ, i64_w, i32_w]
    rfl
  refine pure_ (i := 13) (N := some 54) (v := ?_) (a' := ?_) q0 rfl rfl (any_of HT_.out (by kernel_rfl)) (fun _ _ _ h => h) (Or.inl ⟨by rfl, ?_⟩) ?_ ?_
  rotate_left
  · intro w'
    go_simp
    with_reducible rfl
  rotate_left
  · simp only [Act.put, List.setIfInBounds_toArray, List.set_cons_zero, List.set_cons_succ, i64_w]
    rfl
  refine pure_ (i := 14) (N := some 68) (v := ?_) (a' := ?_) q1 rfl rfl (any_of HT_.out (by kernel_rfl)) (fun _ _ _ h => h) (Or.inl ⟨by rfl, ?_⟩) ?_ ?_
  rotate_left
  · intro w'
    go_simp
    with_reducible rfl
  rotate_left
  · simp only [Act.put, List.setIfInBounds_toArray, List.set_cons_zero, List.set_cons_succ, i64_w]
    rfl
  refine pure_ (i := 15) (N := some 69) (v := ?_) (a' := ?_) q2 rfl rfl (any_of HT_.out (by kernel_rfl)) (fun _ _ _ h => h) (Or.inl ⟨by rfl, ?_⟩) ?_ ?_
  rotate_left
  · intro w'
    go_simp
    with_reducible rfl
  rotate_left
  · simp only [Act.put, List.setIfInBounds_toArray, List.set_cons_zero, List.set_cons_succ, i64_w]
    rfl
  refine pure_ (i := 16) (N := some 12) (v := ?_) (a' := ?_) q3 rfl rfl (any_of HT_.out (by kernel_rfl)) (fun _ _ _ h => h) (Or.inl ⟨by rfl, ?_⟩) ?_ ?_
  rotate_left
  · intro w'
    go_simp
    with_reducible rfl
  rotate_left
  · simp only [Act.put, List.setIfInBounds_toArray, List.set_cons_zero, List.set_cons_succ, i64_w]
    rfl
  refine pure_ (i := 17) (N := some 13) (v := ?_) (a' := ?_) q4 rfl rfl (any_of HT_.out (by kernel_rfl)) (fun _ _ _ h => h) (Or.inl ⟨by rfl, ?_⟩) ?_ ?_
  rotate_left
  · intro w'
    go_simp
    with_reducible rfl
  rotate_left
  · simp only [Act.put, List.setIfInBounds_toArray, List.set_cons_zero, List.set_cons_succ, i64_w]
    rfl
  refine done_ (done_of HT_.out (by kernel_rfl)) ?_
  clear HT_ HW_
  have hz0 : W3.cell? ⟨w1.heap.size, 0, none⟩ = some (.int .i64 2) := (blk_cell O0.out 0).trans rfl
  have hz1 : W3.cell? ⟨w1.heap.size, 1, none⟩ = some (.int .i64 1) := (blk_cell O0.out 1).trans rfl
  have hlt_ : w1.heap.size < W3.heap.size := blk_lt O0.out
  go_wp2_with (first
    | ((with_reducible refine gCa (f := 53) rfl ?_); refine goesL_ (some 74) rfl rfl Try.func53 (by kernel_rfl) rfl #[.agg #[.int .i64 2, .int .i64 1], .slice (some ⟨W3.heap.size, 0, none⟩) 3 3, .slice (some ⟨W3.heap.size + 1, 0, none⟩) 3 3] rfl (by (try simp only [List.map_toArray, List.map_cons, List.map_nil]); first | done | rfl) ?_;
       refine (GEnc.decode_Decode.calls k 2 1 _ 3 [(⟨#[97]⟩ : ByteArray), (⟨#[98, 99]⟩ : ByteArray), (⟨#[]⟩ : ByteArray)] _ 3 [true, false, false] [] 701 (t2Os.foldl World.alloc W3) (C_str _ (put_at W3 t2Os 0 (by show 0 < 2; decide)) (by decide)) (Nat.le_refl _) (C_boo _ (put_at W3 t2Os 1 (by show 1 < 2; decide)) (by decide)) (Nat.le_refl _) E2.out).mono ?_;
       rintro e W4 ⟨v1, rfl, ho1, hb⟩; obtain ⟨Ab, cb, rfl⟩ := Kd.R_slice ho1; refine ⟨_, rfl, ?_⟩; have n0_ := mk0 (below_step (lA (lA HB.out _) _) hb); clear HB ho1 hb hz0 hz1 hlt_; have HB := n0_; clear n0_)
    | (go_at_call 35; (with_reducible refine (GBase.ossuarylaw0_Num.calls 700 700 _ rfl).mono ?_); rintro e w' ⟨rfl, ⟨nd, rfl⟩⟩)
    | (go_at_call 35; (with_reducible refine (GBase.ossuarylaw0_Num.calls 701 701 _ rfl).mono ?_); rintro e w' ⟨rfl, ⟨nd2, rfl⟩⟩))
  go_ret
  exact ⟨rfl, by repeat (first | exact HB.out | apply lN | apply lA | apply lD)⟩
set_option maxHeartbeats 8000000 in
set_option maxRecDepth 100000 in
theorem walk1 (k : Nat) (a0 a1 b n : Int) (L : ByteArray) (w : World) (h5 : ossuarylaw7_awake.f k = some true) (hb : Go.bits .and .i64 a1 1023 = b) (hk : wrap64 (Int.tmod (IntKind.u64.wrap a0) 6) = 1) (hb1 : wrap64 (1 + b) = 1 + b) (hb2 : wrap64 (-(1 + b)) = -(1 + b)) (hb3 : wrap64 (4096 + (1 + b)) = n)
    (hn0 : 0 ≤ n) (hn1 : n.toNat ≤ 281474976710656) (hL : strOfNums (List.replicate n.toNat 0) = L)
    (e1 : GEnc.decode_Decode.f k (2) (1) [(⟨#[97]⟩ : ByteArray), (⟨#[98]⟩ : ByteArray)] [true, true] = some ([], 700)) (e2 : GEnc.decode_Decode.f k 2 1 [(⟨#[97]⟩ : ByteArray), (⟨#[98, 99]⟩ : ByteArray), (⟨#[]⟩ : ByteArray)] [true, false, false] = some ([], 701)) :
    Calls Try.prog 19 #[.int .i64 a0, .int .i64 a1] w fun e w' => e = .returned (.bool true) ∧ Below w.heap.size w w' := by
  have hu51 := Try.underlying51
  have hb3w : IntKind.i64.wrap (4096 + (1 + b)) = n := (i64_w _).trans hb3
  have A5 := mk0 h5
  have E1 := mk0 e1
  have E2 := mk0 e2
  have HB := mk0 (Below.refl w.heap.size w)
  clear h5 e1 e2
  go_enter Try.func19, Try.ntmps19
  go_wp2_with (first
    | ((with_reducible refine gCa (f := 55) rfl ?_); refine goesL_ (some 16) rfl rfl Try.func55 (by kernel_rfl) rfl #[] rfl (by (try simp only [List.map_toArray, List.map_nil]); first | done | rfl) ?_; (with_reducible refine (ossuarylaw7_awake.calls k true _ A5.out).mono ?_); rintro e w1 ⟨rfl, hb⟩; refine ⟨_, rfl, ?_⟩; have n0_ := mk0 (below_step HB.out hb); clear HB; have HB := n0_; clear n0_ hb)
    | ((with_reducible refine gate_dst (N := 24) rfl ?_); refine Kd.R_make (Kd.int .u8) _ 5 rfl (N := 24) rfl 66 _ _ rfl n rfl rfl Try.underlying66 (.int .u8 0) 1 dinfo5 rfl (by decide) (by omega) 0 (ok := fun _ => True) (okp := fun _ => True) rfl (fun _ hk => hk) trivial hn0 (Nat.le_trans (Nat.mul_le_mul_right _ hn1) (by omega)) (Below.refl _ _) (Nat.le_refl _) ?_; intro v24 V ho24 hb_ hg_ hnew_; clear hg_ hnew_;
       have hcv25 := own_string (P := Try.prog) Try.underlying66 Try.underlying5 Try.underlying9 (Kd.own_of_R ho24); rw [hL] at hcv25;
       have O0 := mk0 (blk_below (put_at w1 [.cells #[.int .i64 2, .int .i64 1] 51 (0, 0)] 0 (by show 0 < 1; decide)) hb_); have n0_ := mk0 (below_step (below_step HB.out (below_all w1 [.cells #[.int .i64 2, .int .i64 1] 51 (0, 0)])) hb_); clear HB; have HB := n0_; clear n0_ hb_ ho24;
       have hz0 : V.cell? ⟨w1.heap.size, 0, none⟩ = some (.int .i64 2) := (blk_cell O0.out 0).trans rfl; have hz1 : V.cell? ⟨w1.heap.size, 1, none⟩ = some (.int .i64 1) := (blk_cell O0.out 1).trans rfl))
  clear hcv25 hz0 hz1
  refine seen_ (F := decF V b L) (dec_seen V b L) (fun W hW => ?_)
  obtain ⟨hBW, o0, o1, o2, o3, o4, o5, o6, o7, o8, o9, o10, o11, o12⟩ := hW
  have hx0 : W.cell? ⟨V.heap.size, 2, none⟩ = some (.int .i64 (2)) := blk_cell o0 2
  have hx1 : W.cell? ⟨V.heap.size, 3, none⟩ = some (.int .i64 (1)) := blk_cell o0 3
  have hx2 : W.cell? ⟨V.heap.size + 1 + 1 + 1 + 1 + 1 + 1, 1, none⟩ = some (.slice (some ⟨V.heap.size + 1, 0, none⟩) 2 2) := blk_cell o6 1
  have hx3 : W.cell? ⟨V.heap.size + 1 + 1 + 1 + 1 + 1 + 1 + 1 + 1 + 1 + 1 + 1 + 1, 1, none⟩ = some (.slice (some ⟨V.heap.size + 1 + 1 + 1 + 1 + 1 + 1 + 1, 0, none⟩) 2 2) := blk_cell o12 1
  have hm_ : Kd.C Kd.string W (some ⟨V.heap.size + 1, 0, none⟩) 2 [(⟨#[97]⟩ : ByteArray), (⟨#[98]⟩ : ByteArray)] := C_str [(⟨#[97]⟩ : ByteArray), (⟨#[98]⟩ : ByteArray)] o1 (by show 2 ≤ 100; decide)
  have hn_ : Kd.C Kd.bool W (some ⟨V.heap.size + 1 + 1 + 1 + 1 + 1 + 1 + 1, 0, none⟩) 2 [true, true] := C_boo [true, true] o7 (by decide)
  have HM := mk0 hm_
  have HV := mk0 hn_
  have n0_ := mk0 (blk_below O0.out hBW)
  have HBW := mk0 (below_step HB.out hBW)
  clear O0
  have O0 := n0_
  clear n0_ hm_ hn_ hBW o0 o1 o2 o3 o4 o5 o6 o7 o8 o9 o10 o11 o12 HB
  rw [hk]
  refine start_ (n := 18) (S := fun w' => w'.cell? ⟨V.heap.size, 2, none⟩ = some (.int .i64 (2)) ∧ w'.cell? ⟨V.heap.size, 3, none⟩ = some (.int .i64 (1)) ∧ w'.cell? ⟨V.heap.size + 1 + 1 + 1 + 1 + 1 + 1, 1, none⟩ = some (.slice (some ⟨V.heap.size + 1, 0, none⟩) 2 2) ∧ w'.cell? ⟨V.heap.size + 1 + 1 + 1 + 1 + 1 + 1 + 1 + 1 + 1 + 1 + 1 + 1, 1, none⟩ = some (.slice (some ⟨V.heap.size + 1 + 1 + 1 + 1 + 1 + 1 + 1, 0, none⟩) 2 2)) (ds := []) #[false, false, false, false, false, false, false, false, false, false, false, false, false, false, false, false, false, false] (by kernel_rfl) rfl rfl ⟨hx0, hx1, hx2, hx3⟩ (fun hHeld => ?_); refine with_tabW dec_tab10 dec_bits10 (fun HT_ HW_ => ?_)
  replace HM := mk0 (Kd.C_drew HM.out)
  replace HV := mk0 (Kd.C_drew HV.out)
  replace HBW := mk0 (lD HBW.out)
  replace O0 := mk0 (bD O0.out)
  clear hx0 hx1 hx2 hx3
  generalize W.drew = W2 at HM HV HBW O0 hHeld ⊢
  refine pure_ (i := 0) (N := some 55) (v := ?_) (a' := ?_) q5 rfl rfl (any_of HT_.out (by kernel_rfl)) (fun _ _ _ h => h) (Or.inl ⟨by rfl, ?_⟩) ?_ ?_
  rotate_left
  · intro w'
    go_simp
    with_reducible rfl
  rotate_left
  · simp only [Act.put, List.setIfInBounds_toArray, List.set_cons_zero, List.set_cons_succ, i64_w]
    rfl
  refine pure_ (i := 1) (N := some 56) (v := ?_) (a' := ?_) q6 rfl rfl (any_of HT_.out (by kernel_rfl)) (fun _ _ _ h => h) (Or.inl ⟨by rfl, ?_⟩) ?_ ?_
  rotate_left
  · intro w'
    go_simp
    with_reducible rfl
  rotate_left
  · simp only [Act.put, List.setIfInBounds_toArray, List.set_cons_zero, List.set_cons_succ, i64_w]
    rfl
  refine pure_ (i := 2) (N := some 57) (v := ?_) (a' := ?_) q7 rfl rfl (any_of HT_.out (by kernel_rfl)) (fun _ _ _ h => h) (Or.inl ⟨by rfl, ?_⟩) ?_ ?_
  rotate_left
  · intro w'
    go_simp
    with_reducible rfl
  rotate_left
  · simp only [Act.put, List.setIfInBounds_toArray, List.set_cons_zero, List.set_cons_succ, i64_w]
    rfl
  refine pure_ (i := 4) (N := some 59) (v := ?_) (a' := ?_) q8 rfl rfl (any_of HT_.out (by kernel_rfl)) (fun _ _ _ h => h) (Or.inl ⟨by rfl, ?_⟩) ?_ ?_
  rotate_left
  · intro w'
    go_simp
    with_reducible rfl
  rotate_left
  · simp only [Act.put, List.setIfInBounds_toArray, List.set_cons_zero, List.set_cons_succ, i64_w]
    rfl
  refine pure_ (i := 5) (N := some 60) (v := ?_) (a' := ?_) q9 rfl rfl (any_of HT_.out (by kernel_rfl)) (fun _ _ _ h => h) (Or.inl ⟨by rfl, ?_⟩) ?_ ?_
  rotate_left
  · intro w'
    go_simp
    with_reducible rfl
  rotate_left
  · simp only [Act.put, List.setIfInBounds_toArray, List.set_cons_zero, List.set_cons_succ, i64_w]
    rfl
  refine pure_ (i := 6) (N := some 61) (v := ?_) (a' := ?_) q10 rfl rfl (any_of HT_.out (by kernel_rfl)) (fun _ _ _ h => h) (Or.inl ⟨by rfl, ?_⟩) ?_ ?_
  rotate_left
  · intro w'
    go_simp
    with_reducible rfl
  rotate_left
  · simp only [Act.put, List.setIfInBounds_toArray, List.set_cons_zero, List.set_cons_succ, i64_w]
    rfl
  refine pure_ (i := 8) (N := some 63) (v := ?_) (a' := ?_) q11 rfl rfl (any_of HT_.out (by kernel_rfl)) (fun _ _ _ h => h) (Or.inl ⟨by rfl, ?_⟩) ?_ ?_
  rotate_left
  · intro w'
    go_simp
    with_reducible rfl
  rotate_left
  · simp only [Act.put, List.setIfInBounds_toArray, List.set_cons_zero, List.set_cons_succ, i64_w]
    rfl
  refine pure_ (i := 9) (N := some 64) (v := ?_) (a' := ?_) q12 rfl rfl (any_of HT_.out (by kernel_rfl)) (fun _ _ _ h => h) (Or.inl ⟨by rfl, ?_⟩) ?_ ?_
  rotate_left
  · intro w'
    go_simp
    with_reducible rfl
  rotate_left
  · simp only [Act.put, List.setIfInBounds_toArray, List.set_cons_zero, List.set_cons_succ, i64_w]
    rfl
  refine pure_ (i := 10) (N := some 65) (v := ?_) (a' := ?_) q13 rfl rfl (any_of HT_.out (by kernel_rfl)) (fun _ _ _ h => h) (Or.inl ⟨by rfl, ?_⟩) ?_ ?_
  rotate_left
  · intro w'
    go_simp
    with_reducible rfl
  rotate_left
  · simp only [Act.put, List.setIfInBounds_toArray, List.set_cons_zero, List.set_cons_succ, i64_w]
    rfl
  refine take_ (i := 3) (N := some 58) (v := ?_) (a' := ?_) q14 rfl rfl (take_ofW HT_.out HW_.out (by kernel_rfl)) (fun _ _ _ h => h) (Or.inl ⟨by rfl, ?_⟩) hHeld ?_ ?_
  rotate_left
  · rintro w' ⟨s0, s1, s2, s3⟩
    go_simp
    with_reducible rfl
  rotate_left
  · simp only [Act.put, List.setIfInBounds_toArray, List.set_cons_zero, List.set_cons_succ, i64_w]
    rfl
  refine take_ (i := 7) (N := some 62) (v := ?_) (a' := ?_) q15 rfl rfl (take_ofW HT_.out HW_.out (by kernel_rfl)) (fun _ _ _ h => h) (Or.inl ⟨by rfl, ?_⟩) hHeld ?_ ?_
  rotate_left
  · rintro w' ⟨s0, s1, s2, s3⟩
    go_simp
    with_reducible rfl
  rotate_left
  · simp only [Act.put, List.setIfInBounds_toArray, List.set_cons_zero, List.set_cons_succ, i64_w]
    rfl
  refine take_ (i := 11) (N := some 66) (v := ?_) (a' := ?_) q16 rfl rfl (take_ofW HT_.out HW_.out (by kernel_rfl)) (fun _ _ _ h => h) (Or.inl ⟨by rfl, ?_⟩) hHeld ?_ ?_
  rotate_left
  · rintro w' ⟨s0, s1, s2, s3⟩
    go_simp
    with_reducible rfl
  rotate_left
  · simp only [Act.put, List.setIfInBounds_toArray, List.set_cons_zero, List.set_cons_succ, i64_w]
    rfl
  refine one_ (i := 12) (N := some 67) q17 rfl rfl (one_of HT_.out (by kernel_rfl)) (by decide) (fun K hK => ?_)
  refine goes_ Try.func53 (by kernel_rfl) rfl #[.agg #[.int .i64 (2), .int .i64 (1)], .slice (some ⟨V.heap.size + 1, 0, none⟩) 2 2, .slice (some ⟨V.heap.size + 1 + 1 + 1 + 1 + 1 + 1 + 1, 0, none⟩) 2 2] (by rfl) rfl rfl (by (try simp only [List.map_toArray, List.map_cons, List.map_nil]); first | done | rfl) ?_
  refine (GEnc.decode_Decode.calls k (2) (1) _ 2 [(⟨#[97]⟩ : ByteArray), (⟨#[98]⟩ : ByteArray)] _ 2 [true, true] [] 700 W2 HM.out (Nat.le_refl _) HV.out (Nat.le_refl _) E1.out).mono ?_
  rintro e W3 ⟨v0, rfl, ho0, hb⟩
  obtain ⟨Aa, ca, rfl⟩ := Kd.R_slice ho0
  have HS0_ := (hb.cell (World.block_lt_of_cell? _ _ (hHeld.1))).trans (hHeld.1)
  have HS1_ := (hb.cell (World.block_lt_of_cell? _ _ (hHeld.2.1))).trans (hHeld.2.1)
  have HS2_ := (hb.cell (World.block_lt_of_cell? _ _ (hHeld.2.2.1))).trans (hHeld.2.2.1)
  have HS3_ := (hb.cell (World.block_lt_of_cell? _ _ (hHeld.2.2.2))).trans (hHeld.2.2.2)
  refine ⟨_, rfl, ?_⟩
  have n2_ := mk0 (below_step HBW.out hb)
  have n3_ := mk0 (blk_below O0.out hb)
  clear HM HV HBW O0 ho0 hb
  have HB := n2_
  have O0 := n3_
  clear n2_ n3_
  refine hK.out _ _ ⟨HS0_, HS1_, HS2_, HS3_⟩ (fun hHeld => ?_)
  clear hK K
  refine norm_ (a' := ?_) ?_ ?_
  rotate_left
  · show Act.put _ (some 67) _ = _
    simp only [Act.put, List.setIfInBounds_toArray, List.set_cons_zero, List.set_cons_succ, i64_w, i32_w]
    rfl
  refine pure_ (i := 13) (N := some 54) (v := ?_) (a' := ?_) q0 rfl rfl (any_of HT_.out (by kernel_rfl)) (fun _ _ _ h => h) (Or.inl ⟨by rfl, ?_⟩) ?_ ?_
  rotate_left
  · intro w'
    go_simp
    with_reducible rfl
  rotate_left
  · simp only [Act.put, List.setIfInBounds_toArray, List.set_cons_zero, List.set_cons_succ, i64_w]
    rfl
  refine pure_ (i := 14) (N := some 68) (v := ?_) (a' := ?_) q1 rfl rfl (any_of HT_.out (by kernel_rfl)) (fun _ _ _ h => h) (Or.inl ⟨by rfl, ?_⟩) ?_ ?_
  rotate_left
  · intro w'
    go_simp
    with_reducible rfl
  rotate_left
  · simp only [Act.put, List.setIfInBounds_toArray, List.set_cons_zero, List.set_cons_succ, i64_w]
    rfl
  refine pure_ (i := 15) (N := some 69) (v := ?_) (a' := ?_) q2 rfl rfl (any_of HT_.out (by kernel_rfl)) (fun _ _ _ h => h) (Or.inl ⟨by rfl, ?_⟩) ?_ ?_
  rotate_left
  · intro w'
    go_simp
    with_reducible rfl
  rotate_left
  · simp only [Act.put, List.setIfInBounds_toArray, List.set_cons_zero, List.set_cons_succ, i64_w]
    rfl
  refine pure_ (i := 16) (N := some 12) (v := ?_) (a' := ?_) q3 rfl rfl (any_of HT_.out (by kernel_rfl)) (fun _ _ _ h => h) (Or.inl ⟨by rfl, ?_⟩) ?_ ?_
  rotate_left
  · intro w'
    go_simp
    with_reducible rfl
  rotate_left
  · simp only [Act.put, List.setIfInBounds_toArray, List.set_cons_zero, List.set_cons_succ, i64_w]
    rfl
  refine pure_ (i := 17) (N := some 13) (v := ?_) (a' := ?_) q4 rfl rfl (any_of HT_.out (by kernel_rfl)) (fun _ _ _ h => h) (Or.inl ⟨by rfl, ?_⟩) ?_ ?_
  rotate_left
  · intro w'
    go_simp
    with_reducible rfl
  rotate_left
  · simp only [Act.put, List.setIfInBounds_toArray, List.set_cons_zero, List.set_cons_succ, i64_w]
    rfl
  refine done_ (done_of HT_.out (by kernel_rfl)) ?_
  clear HT_ HW_
  have hz0 : W3.cell? ⟨w1.heap.size, 0, none⟩ = some (.int .i64 2) := (blk_cell O0.out 0).trans rfl
  have hz1 : W3.cell? ⟨w1.heap.size, 1, none⟩ = some (.int .i64 1) := (blk_cell O0.out 1).trans rfl
  have hlt_ : w1.heap.size < W3.heap.size := blk_lt O0.out
  go_wp2_with (first
    | ((with_reducible refine gCa (f := 53) rfl ?_); refine goesL_ (some 74) rfl rfl Try.func53 (by kernel_rfl) rfl #[.agg #[.int .i64 2, .int .i64 1], .slice (some ⟨W3.heap.size, 0, none⟩) 3 3, .slice (some ⟨W3.heap.size + 1, 0, none⟩) 3 3] rfl (by (try simp only [List.map_toArray, List.map_cons, List.map_nil]); first | done | rfl) ?_;
       refine (GEnc.decode_Decode.calls k 2 1 _ 3 [(⟨#[97]⟩ : ByteArray), (⟨#[98, 99]⟩ : ByteArray), (⟨#[]⟩ : ByteArray)] _ 3 [true, false, false] [] 701 (t2Os.foldl World.alloc W3) (C_str _ (put_at W3 t2Os 0 (by show 0 < 2; decide)) (by decide)) (Nat.le_refl _) (C_boo _ (put_at W3 t2Os 1 (by show 1 < 2; decide)) (by decide)) (Nat.le_refl _) E2.out).mono ?_;
       rintro e W4 ⟨v1, rfl, ho1, hb⟩; obtain ⟨Ab, cb, rfl⟩ := Kd.R_slice ho1; refine ⟨_, rfl, ?_⟩; have n0_ := mk0 (below_step (lA (lA HB.out _) _) hb); clear HB ho1 hb hz0 hz1 hlt_; have HB := n0_; clear n0_)
    | (go_at_call 35; (with_reducible refine (GBase.ossuarylaw0_Num.calls 700 700 _ rfl).mono ?_); rintro e w' ⟨rfl, ⟨nd, rfl⟩⟩)
    | (go_at_call 35; (with_reducible refine (GBase.ossuarylaw0_Num.calls 701 701 _ rfl).mono ?_); rintro e w' ⟨rfl, ⟨nd2, rfl⟩⟩))
  go_ret
  exact ⟨rfl, by repeat (first | exact HB.out | apply lN | apply lA | apply lD)⟩
set_option maxHeartbeats 8000000 in
set_option maxRecDepth 100000 in
theorem walk2 (k : Nat) (a0 a1 b n : Int) (L : ByteArray) (w : World) (h5 : ossuarylaw7_awake.f k = some true) (hb : Go.bits .and .i64 a1 1023 = b) (hk : wrap64 (Int.tmod (IntKind.u64.wrap a0) 6) = 2) (hb1 : wrap64 (1 + b) = 1 + b) (hb2 : wrap64 (-(1 + b)) = -(1 + b)) (hb3 : wrap64 (4096 + (1 + b)) = n)
    (hn0 : 0 ≤ n) (hn1 : n.toNat ≤ 281474976710656) (hL : strOfNums (List.replicate n.toNat 0) = L)
    (e1 : GEnc.decode_Decode.f k (2) (1) [(⟨#[97]⟩ : ByteArray), (⟨#[98]⟩ : ByteArray), (⟨#[99]⟩ : ByteArray)] [true, true] = some ([], 700)) (e2 : GEnc.decode_Decode.f k 2 1 [(⟨#[97]⟩ : ByteArray), (⟨#[98, 99]⟩ : ByteArray), (⟨#[]⟩ : ByteArray)] [true, false, false] = some ([], 701)) :
    Calls Try.prog 19 #[.int .i64 a0, .int .i64 a1] w fun e w' => e = .returned (.bool true) ∧ Below w.heap.size w w' := by
  have hu51 := Try.underlying51
  have hb3w : IntKind.i64.wrap (4096 + (1 + b)) = n := (i64_w _).trans hb3
  have A5 := mk0 h5
  have E1 := mk0 e1
  have E2 := mk0 e2
  have HB := mk0 (Below.refl w.heap.size w)
  clear h5 e1 e2
  go_enter Try.func19, Try.ntmps19
  go_wp2_with (first
    | ((with_reducible refine gCa (f := 55) rfl ?_); refine goesL_ (some 16) rfl rfl Try.func55 (by kernel_rfl) rfl #[] rfl (by (try simp only [List.map_toArray, List.map_nil]); first | done | rfl) ?_; (with_reducible refine (ossuarylaw7_awake.calls k true _ A5.out).mono ?_); rintro e w1 ⟨rfl, hb⟩; refine ⟨_, rfl, ?_⟩; have n0_ := mk0 (below_step HB.out hb); clear HB; have HB := n0_; clear n0_ hb)
    | ((with_reducible refine gate_dst (N := 24) rfl ?_); refine Kd.R_make (Kd.int .u8) _ 5 rfl (N := 24) rfl 66 _ _ rfl n rfl rfl Try.underlying66 (.int .u8 0) 1 dinfo5 rfl (by decide) (by omega) 0 (ok := fun _ => True) (okp := fun _ => True) rfl (fun _ hk => hk) trivial hn0 (Nat.le_trans (Nat.mul_le_mul_right _ hn1) (by omega)) (Below.refl _ _) (Nat.le_refl _) ?_; intro v24 V ho24 hb_ hg_ hnew_; clear hg_ hnew_;
       have hcv25 := own_string (P := Try.prog) Try.underlying66 Try.underlying5 Try.underlying9 (Kd.own_of_R ho24); rw [hL] at hcv25;
       have O0 := mk0 (blk_below (put_at w1 [.cells #[.int .i64 2, .int .i64 1] 51 (0, 0)] 0 (by show 0 < 1; decide)) hb_); have n0_ := mk0 (below_step (below_step HB.out (below_all w1 [.cells #[.int .i64 2, .int .i64 1] 51 (0, 0)])) hb_); clear HB; have HB := n0_; clear n0_ hb_ ho24;
       have hz0 : V.cell? ⟨w1.heap.size, 0, none⟩ = some (.int .i64 2) := (blk_cell O0.out 0).trans rfl; have hz1 : V.cell? ⟨w1.heap.size, 1, none⟩ = some (.int .i64 1) := (blk_cell O0.out 1).trans rfl))
  clear hcv25 hz0 hz1
  refine seen_ (F := decF V b L) (dec_seen V b L) (fun W hW => ?_)
  obtain ⟨hBW, o0, o1, o2, o3, o4, o5, o6, o7, o8, o9, o10, o11, o12⟩ := hW
  have hx0 : W.cell? ⟨V.heap.size, 4, none⟩ = some (.int .i64 (2)) := blk_cell o0 4
  have hx1 : W.cell? ⟨V.heap.size, 5, none⟩ = some (.int .i64 (1)) := blk_cell o0 5
  have hx2 : W.cell? ⟨V.heap.size + 1 + 1 + 1 + 1 + 1 + 1, 2, none⟩ = some (.slice (some ⟨V.heap.size + 1 + 1, 0, none⟩) 3 3) := blk_cell o6 2
  have hx3 : W.cell? ⟨V.heap.size + 1 + 1 + 1 + 1 + 1 + 1 + 1 + 1 + 1 + 1 + 1 + 1, 2, none⟩ = some (.slice (some ⟨V.heap.size + 1 + 1 + 1 + 1 + 1 + 1 + 1 + 1, 0, none⟩) 2 2) := blk_cell o12 2
  have hm_ : Kd.C Kd.string W (some ⟨V.heap.size + 1 + 1, 0, none⟩) 3 [(⟨#[97]⟩ : ByteArray), (⟨#[98]⟩ : ByteArray), (⟨#[99]⟩ : ByteArray)] := C_str [(⟨#[97]⟩ : ByteArray), (⟨#[98]⟩ : ByteArray), (⟨#[99]⟩ : ByteArray)] o2 (by show 3 ≤ 100; decide)
  have hn_ : Kd.C Kd.bool W (some ⟨V.heap.size + 1 + 1 + 1 + 1 + 1 + 1 + 1 + 1, 0, none⟩) 2 [true, true] := C_boo [true, true] o8 (by decide)
  have HM := mk0 hm_
  have HV := mk0 hn_
  have n0_ := mk0 (blk_below O0.out hBW)
  have HBW := mk0 (below_step HB.out hBW)
  clear O0
  have O0 := n0_
  clear n0_ hm_ hn_ hBW o0 o1 o2 o3 o4 o5 o6 o7 o8 o9 o10 o11 o12 HB
  rw [hk]
  refine start_ (n := 18) (S := fun w' => w'.cell? ⟨V.heap.size, 4, none⟩ = some (.int .i64 (2)) ∧ w'.cell? ⟨V.heap.size, 5, none⟩ = some (.int .i64 (1)) ∧ w'.cell? ⟨V.heap.size + 1 + 1 + 1 + 1 + 1 + 1, 2, none⟩ = some (.slice (some ⟨V.heap.size + 1 + 1, 0, none⟩) 3 3) ∧ w'.cell? ⟨V.heap.size + 1 + 1 + 1 + 1 + 1 + 1 + 1 + 1 + 1 + 1 + 1 + 1, 2, none⟩ = some (.slice (some ⟨V.heap.size + 1 + 1 + 1 + 1 + 1 + 1 + 1 + 1, 0, none⟩) 2 2)) (ds := []) #[false, false, false, false, false, false, false, false, false, false, false, false, false, false, false, false, false, false] (by kernel_rfl) rfl rfl ⟨hx0, hx1, hx2, hx3⟩ (fun hHeld => ?_); refine with_tabW dec_tab10 dec_bits10 (fun HT_ HW_ => ?_)
  replace HM := mk0 (Kd.C_drew HM.out)
  replace HV := mk0 (Kd.C_drew HV.out)
  replace HBW := mk0 (lD HBW.out)
  replace O0 := mk0 (bD O0.out)
  clear hx0 hx1 hx2 hx3
  generalize W.drew = W2 at HM HV HBW O0 hHeld ⊢
  refine pure_ (i := 0) (N := some 55) (v := ?_) (a' := ?_) q5 rfl rfl (any_of HT_.out (by kernel_rfl)) (fun _ _ _ h => h) (Or.inl ⟨by rfl, ?_⟩) ?_ ?_
  rotate_left
  · intro w'
    go_simp
    with_reducible rfl
  rotate_left
  · simp only [Act.put, List.setIfInBounds_toArray, List.set_cons_zero, List.set_cons_succ, i64_w]
    rfl
  refine pure_ (i := 1) (N := some 56) (v := ?_) (a' := ?_) q6 rfl rfl (any_of HT_.out (by kernel_rfl)) (fun _ _ _ h => h) (Or.inl ⟨by rfl, ?_⟩) ?_ ?_
  rotate_left
  · intro w'
    go_simp
    with_reducible rfl
  rotate_left
  · simp only [Act.put, List.setIfInBounds_toArray, List.set_cons_zero, List.set_cons_succ, i64_w]
    rfl
  refine pure_ (i := 2) (N := some 57) (v := ?_) (a' := ?_) q7 rfl rfl (any_of HT_.out (by kernel_rfl)) (fun _ _ _ h => h) (Or.inl ⟨by rfl, ?_⟩) ?_ ?_
  rotate_left
  · intro w'
    go_simp
    with_reducible rfl
  rotate_left
  · simp only [Act.put, List.setIfInBounds_toArray, List.set_cons_zero, List.set_cons_succ, i64_w]
    rfl
  refine pure_ (i := 4) (N := some 59) (v := ?_) (a' := ?_) q8 rfl rfl (any_of HT_.out (by kernel_rfl)) (fun _ _ _ h => h) (Or.inl ⟨by rfl, ?_⟩) ?_ ?_
  rotate_left
  · intro w'
    go_simp
    with_reducible rfl
  rotate_left
  · simp only [Act.put, List.setIfInBounds_toArray, List.set_cons_zero, List.set_cons_succ, i64_w]
    rfl
  refine pure_ (i := 5) (N := some 60) (v := ?_) (a' := ?_) q9 rfl rfl (any_of HT_.out (by kernel_rfl)) (fun _ _ _ h => h) (Or.inl ⟨by rfl, ?_⟩) ?_ ?_
  rotate_left
  · intro w'
    go_simp
    with_reducible rfl
  rotate_left
  · simp only [Act.put, List.setIfInBounds_toArray, List.set_cons_zero, List.set_cons_succ, i64_w]
    rfl
  refine pure_ (i := 6) (N := some 61) (v := ?_) (a' := ?_) q10 rfl rfl (any_of HT_.out (by kernel_rfl)) (fun _ _ _ h => h) (Or.inl ⟨by rfl, ?_⟩) ?_ ?_
  rotate_left
  · intro w'
    go_simp
    with_reducible rfl
  rotate_left
  · simp only [Act.put, List.setIfInBounds_toArray, List.set_cons_zero, List.set_cons_succ, i64_w]
    rfl
  refine pure_ (i := 8) (N := some 63) (v := ?_) (a' := ?_) q11 rfl rfl (any_of HT_.out (by kernel_rfl)) (fun _ _ _ h => h) (Or.inl ⟨by rfl, ?_⟩) ?_ ?_
  rotate_left
  · intro w'
    go_simp
    with_reducible rfl
  rotate_left
  · simp only [Act.put, List.setIfInBounds_toArray, List.set_cons_zero, List.set_cons_succ, i64_w]
    rfl
  refine pure_ (i := 9) (N := some 64) (v := ?_) (a' := ?_) q12 rfl rfl (any_of HT_.out (by kernel_rfl)) (fun _ _ _ h => h) (Or.inl ⟨by rfl, ?_⟩) ?_ ?_
  rotate_left
  · intro w'
    go_simp
    with_reducible rfl
  rotate_left
  · simp only [Act.put, List.setIfInBounds_toArray, List.set_cons_zero, List.set_cons_succ, i64_w]
    rfl
  refine pure_ (i := 10) (N := some 65) (v := ?_) (a' := ?_) q13 rfl rfl (any_of HT_.out (by kernel_rfl)) (fun _ _ _ h => h) (Or.inl ⟨by rfl, ?_⟩) ?_ ?_
  rotate_left
  · intro w'
    go_simp
    with_reducible rfl
  rotate_left
  · simp only [Act.put, List.setIfInBounds_toArray, List.set_cons_zero, List.set_cons_succ, i64_w]
    rfl
  refine take_ (i := 3) (N := some 58) (v := ?_) (a' := ?_) q14 rfl rfl (take_ofW HT_.out HW_.out (by kernel_rfl)) (fun _ _ _ h => h) (Or.inl ⟨by rfl, ?_⟩) hHeld ?_ ?_
  rotate_left
  · rintro w' ⟨s0, s1, s2, s3⟩
    go_simp
    with_reducible rfl
  rotate_left
  · simp only [Act.put, List.setIfInBounds_toArray, List.set_cons_zero, List.set_cons_succ, i64_w]
    rfl
  refine take_ (i := 7) (N := some 62) (v := ?_) (a' := ?_) q15 rfl rfl (take_ofW HT_.out HW_.out (by kernel_rfl)) (fun _ _ _ h => h) (Or.inl ⟨by rfl, ?_⟩) hHeld ?_ ?_
  rotate_left
  · rintro w' ⟨s0, s1, s2, s3⟩
    go_simp
    with_reducible rfl
  rotate_left
  · simp only [Act.put, List.setIfInBounds_toArray, List.set_cons_zero, List.set_cons_succ, i64_w]
    rfl
  refine take_ (i := 11) (N := some 66) (v := ?_) (a' := ?_) q16 rfl rfl (take_ofW HT_.out HW_.out (by kernel_rfl)) (fun _ _ _ h => h) (Or.inl ⟨by rfl, ?_⟩) hHeld ?_ ?_
  rotate_left
  · rintro w' ⟨s0, s1, s2, s3⟩
    go_simp
    with_reducible rfl
  rotate_left
  · simp only [Act.put, List.setIfInBounds_toArray, List.set_cons_zero, List.set_cons_succ, i64_w]
    rfl
  refine one_ (i := 12) (N := some 67) q17 rfl rfl (one_of HT_.out (by kernel_rfl)) (by decide) (fun K hK => ?_)
  refine goes_ Try.func53 (by kernel_rfl) rfl #[.agg #[.int .i64 (2), .int .i64 (1)], .slice (some ⟨V.heap.size + 1 + 1, 0, none⟩) 3 3, .slice (some ⟨V.heap.size + 1 + 1 + 1 + 1 + 1 + 1 + 1 + 1, 0, none⟩) 2 2] (by rfl) rfl rfl (by (try simp only [List.map_toArray, List.map_cons, List.map_nil]); first | done | rfl) ?_
  refine (GEnc.decode_Decode.calls k (2) (1) _ 3 [(⟨#[97]⟩ : ByteArray), (⟨#[98]⟩ : ByteArray), (⟨#[99]⟩ : ByteArray)] _ 2 [true, true] [] 700 W2 HM.out (Nat.le_refl _) HV.out (Nat.le_refl _) E1.out).mono ?_
  rintro e W3 ⟨v0, rfl, ho0, hb⟩
  obtain ⟨Aa, ca, rfl⟩ := Kd.R_slice ho0
  have HS0_ := (hb.cell (World.block_lt_of_cell? _ _ (hHeld.1))).trans (hHeld.1)
  have HS1_ := (hb.cell (World.block_lt_of_cell? _ _ (hHeld.2.1))).trans (hHeld.2.1)
  have HS2_ := (hb.cell (World.block_lt_of_cell? _ _ (hHeld.2.2.1))).trans (hHeld.2.2.1)
  have HS3_ := (hb.cell (World.block_lt_of_cell? _ _ (hHeld.2.2.2))).trans (hHeld.2.2.2)
  refine ⟨_, rfl, ?_⟩
  have n2_ := mk0 (below_step HBW.out hb)
  have n3_ := mk0 (blk_below O0.out hb)
  clear HM HV HBW O0 ho0 hb
  have HB := n2_
  have O0 := n3_
  clear n2_ n3_
  refine hK.out _ _ ⟨HS0_, HS1_, HS2_, HS3_⟩ (fun hHeld => ?_)
  clear hK K
  refine norm_ (a' := ?_) ?_ ?_
  rotate_left
  · show Act.put _ (some 67) _ = _
    simp only [Act.put, List.setIfInBounds_toArray, List.set_cons_zero, List.set_cons_succ, i64_w, i32_w]
    rfl
  refine pure_ (i := 13) (N := some 54) (v := ?_) (a' := ?_) q0 rfl rfl (any_of HT_.out (by kernel_rfl)) (fun _ _ _ h => h) (Or.inl ⟨by rfl, ?_⟩) ?_ ?_
  rotate_left
  · intro w'
    go_simp
    with_reducible rfl
  rotate_left
  · simp only [Act.put, List.setIfInBounds_toArray, List.set_cons_zero, List.set_cons_succ, i64_w]
    rfl
  refine pure_ (i := 14) (N := some 68) (v := ?_) (a' := ?_) q1 rfl rfl (any_of HT_.out (by kernel_rfl)) (fun _ _ _ h => h) (Or.inl ⟨by rfl, ?_⟩) ?_ ?_
  rotate_left
  · intro w'
    go_simp
    with_reducible rfl
  rotate_left
  · simp only [Act.put, List.setIfInBounds_toArray, List.set_cons_zero, List.set_cons_succ, i64_w]
    rfl
  refine pure_ (i := 15) (N := some 69) (v := ?_) (a' := ?_) q2 rfl rfl (any_of HT_.out (by kernel_rfl)) (fun _ _ _ h => h) (Or.inl ⟨by rfl, ?_⟩) ?_ ?_
  rotate_left
  · intro w'
    go_simp
    with_reducible rfl
  rotate_left
  · simp only [Act.put, List.setIfInBounds_toArray, List.set_cons_zero, List.set_cons_succ, i64_w]
    rfl
  refine pure_ (i := 16) (N := some 12) (v := ?_) (a' := ?_) q3 rfl rfl (any_of HT_.out (by kernel_rfl)) (fun _ _ _ h => h) (Or.inl ⟨by rfl, ?_⟩) ?_ ?_
  rotate_left
  · intro w'
    go_simp
    with_reducible rfl
  rotate_left
  · simp only [Act.put, List.setIfInBounds_toArray, List.set_cons_zero, List.set_cons_succ, i64_w]
    rfl
  refine pure_ (i := 17) (N := some 13) (v := ?_) (a' := ?_) q4 rfl rfl (any_of HT_.out (by kernel_rfl)) (fun _ _ _ h => h) (Or.inl ⟨by rfl, ?_⟩) ?_ ?_
  rotate_left
  · intro w'
    go_simp
    with_reducible rfl
  rotate_left
  · simp only [Act.put, List.setIfInBounds_toArray, List.set_cons_zero, List.set_cons_succ, i64_w]
    rfl
  refine done_ (done_of HT_.out (by kernel_rfl)) ?_
  clear HT_ HW_
  have hz0 : W3.cell? ⟨w1.heap.size, 0, none⟩ = some (.int .i64 2) := (blk_cell O0.out 0).trans rfl
  have hz1 : W3.cell? ⟨w1.heap.size, 1, none⟩ = some (.int .i64 1) := (blk_cell O0.out 1).trans rfl
  have hlt_ : w1.heap.size < W3.heap.size := blk_lt O0.out
  go_wp2_with (first
    | ((with_reducible refine gCa (f := 53) rfl ?_); refine goesL_ (some 74) rfl rfl Try.func53 (by kernel_rfl) rfl #[.agg #[.int .i64 2, .int .i64 1], .slice (some ⟨W3.heap.size, 0, none⟩) 3 3, .slice (some ⟨W3.heap.size + 1, 0, none⟩) 3 3] rfl (by (try simp only [List.map_toArray, List.map_cons, List.map_nil]); first | done | rfl) ?_;
       refine (GEnc.decode_Decode.calls k 2 1 _ 3 [(⟨#[97]⟩ : ByteArray), (⟨#[98, 99]⟩ : ByteArray), (⟨#[]⟩ : ByteArray)] _ 3 [true, false, false] [] 701 (t2Os.foldl World.alloc W3) (C_str _ (put_at W3 t2Os 0 (by show 0 < 2; decide)) (by decide)) (Nat.le_refl _) (C_boo _ (put_at W3 t2Os 1 (by show 1 < 2; decide)) (by decide)) (Nat.le_refl _) E2.out).mono ?_;
       rintro e W4 ⟨v1, rfl, ho1, hb⟩; obtain ⟨Ab, cb, rfl⟩ := Kd.R_slice ho1; refine ⟨_, rfl, ?_⟩; have n0_ := mk0 (below_step (lA (lA HB.out _) _) hb); clear HB ho1 hb hz0 hz1 hlt_; have HB := n0_; clear n0_)
    | (go_at_call 35; (with_reducible refine (GBase.ossuarylaw0_Num.calls 700 700 _ rfl).mono ?_); rintro e w' ⟨rfl, ⟨nd, rfl⟩⟩)
    | (go_at_call 35; (with_reducible refine (GBase.ossuarylaw0_Num.calls 701 701 _ rfl).mono ?_); rintro e w' ⟨rfl, ⟨nd2, rfl⟩⟩))
  go_ret
  exact ⟨rfl, by repeat (first | exact HB.out | apply lN | apply lA | apply lD)⟩
set_option maxHeartbeats 8000000 in
set_option maxRecDepth 100000 in
theorem walk3 (k : Nat) (a0 a1 b n : Int) (L : ByteArray) (w : World) (h5 : ossuarylaw7_awake.f k = some true) (hb : Go.bits .and .i64 a1 1023 = b) (hk : wrap64 (Int.tmod (IntKind.u64.wrap a0) 6) = 3) (hb1 : wrap64 (1 + b) = 1 + b) (hb2 : wrap64 (-(1 + b)) = -(1 + b)) (hb3 : wrap64 (4096 + (1 + b)) = n)
    (hn0 : 0 ≤ n) (hn1 : n.toNat ≤ 281474976710656) (hL : strOfNums (List.replicate n.toNat 0) = L)
    (e1 : GEnc.decode_Decode.f k (2) (1) [(⟨#[97]⟩ : ByteArray), (⟨#[98, 99]⟩ : ByteArray), (⟨#[100]⟩ : ByteArray)] [true, true, false] = some ([], 700)) (e2 : GEnc.decode_Decode.f k 2 1 [(⟨#[97]⟩ : ByteArray), (⟨#[98, 99]⟩ : ByteArray), (⟨#[]⟩ : ByteArray)] [true, false, false] = some ([], 701)) :
    Calls Try.prog 19 #[.int .i64 a0, .int .i64 a1] w fun e w' => e = .returned (.bool true) ∧ Below w.heap.size w w' := by
  have hu51 := Try.underlying51
  have hb3w : IntKind.i64.wrap (4096 + (1 + b)) = n := (i64_w _).trans hb3
  have A5 := mk0 h5
  have E1 := mk0 e1
  have E2 := mk0 e2
  have HB := mk0 (Below.refl w.heap.size w)
  clear h5 e1 e2
  go_enter Try.func19, Try.ntmps19
  go_wp2_with (first
    | ((with_reducible refine gCa (f := 55) rfl ?_); refine goesL_ (some 16) rfl rfl Try.func55 (by kernel_rfl) rfl #[] rfl (by (try simp only [List.map_toArray, List.map_nil]); first | done | rfl) ?_; (with_reducible refine (ossuarylaw7_awake.calls k true _ A5.out).mono ?_); rintro e w1 ⟨rfl, hb⟩; refine ⟨_, rfl, ?_⟩; have n0_ := mk0 (below_step HB.out hb); clear HB; have HB := n0_; clear n0_ hb)
    | ((with_reducible refine gate_dst (N := 24) rfl ?_); refine Kd.R_make (Kd.int .u8) _ 5 rfl (N := 24) rfl 66 _ _ rfl n rfl rfl Try.underlying66 (.int .u8 0) 1 dinfo5 rfl (by decide) (by omega) 0 (ok := fun _ => True) (okp := fun _ => True) rfl (fun _ hk => hk) trivial hn0 (Nat.le_trans (Nat.mul_le_mul_right _ hn1) (by omega)) (Below.refl _ _) (Nat.le_refl _) ?_; intro v24 V ho24 hb_ hg_ hnew_; clear hg_ hnew_;
       have hcv25 := own_string (P := Try.prog) Try.underlying66 Try.underlying5 Try.underlying9 (Kd.own_of_R ho24); rw [hL] at hcv25;
       have O0 := mk0 (blk_below (put_at w1 [.cells #[.int .i64 2, .int .i64 1] 51 (0, 0)] 0 (by show 0 < 1; decide)) hb_); have n0_ := mk0 (below_step (below_step HB.out (below_all w1 [.cells #[.int .i64 2, .int .i64 1] 51 (0, 0)])) hb_); clear HB; have HB := n0_; clear n0_ hb_ ho24;
       have hz0 : V.cell? ⟨w1.heap.size, 0, none⟩ = some (.int .i64 2) := (blk_cell O0.out 0).trans rfl; have hz1 : V.cell? ⟨w1.heap.size, 1, none⟩ = some (.int .i64 1) := (blk_cell O0.out 1).trans rfl))
  clear hcv25 hz0 hz1
  refine seen_ (F := decF V b L) (dec_seen V b L) (fun W hW => ?_)
  obtain ⟨hBW, o0, o1, o2, o3, o4, o5, o6, o7, o8, o9, o10, o11, o12⟩ := hW
  have hx0 : W.cell? ⟨V.heap.size, 6, none⟩ = some (.int .i64 (2)) := blk_cell o0 6
  have hx1 : W.cell? ⟨V.heap.size, 7, none⟩ = some (.int .i64 (1)) := blk_cell o0 7
  have hx2 : W.cell? ⟨V.heap.size + 1 + 1 + 1 + 1 + 1 + 1, 3, none⟩ = some (.slice (some ⟨V.heap.size + 1 + 1 + 1, 0, none⟩) 3 3) := blk_cell o6 3
  have hx3 : W.cell? ⟨V.heap.size + 1 + 1 + 1 + 1 + 1 + 1 + 1 + 1 + 1 + 1 + 1 + 1, 3, none⟩ = some (.slice (some ⟨V.heap.size + 1 + 1 + 1 + 1 + 1 + 1 + 1 + 1 + 1, 0, none⟩) 3 3) := blk_cell o12 3
  have hm_ : Kd.C Kd.string W (some ⟨V.heap.size + 1 + 1 + 1, 0, none⟩) 3 [(⟨#[97]⟩ : ByteArray), (⟨#[98, 99]⟩ : ByteArray), (⟨#[100]⟩ : ByteArray)] := C_str [(⟨#[97]⟩ : ByteArray), (⟨#[98, 99]⟩ : ByteArray), (⟨#[100]⟩ : ByteArray)] o3 (by show 3 ≤ 100; decide)
  have hn_ : Kd.C Kd.bool W (some ⟨V.heap.size + 1 + 1 + 1 + 1 + 1 + 1 + 1 + 1 + 1, 0, none⟩) 3 [true, true, false] := C_boo [true, true, false] o9 (by decide)
  have HM := mk0 hm_
  have HV := mk0 hn_
  have n0_ := mk0 (blk_below O0.out hBW)
  have HBW := mk0 (below_step HB.out hBW)
  clear O0
  have O0 := n0_
  clear n0_ hm_ hn_ hBW o0 o1 o2 o3 o4 o5 o6 o7 o8 o9 o10 o11 o12 HB
  rw [hk]
  refine start_ (n := 18) (S := fun w' => w'.cell? ⟨V.heap.size, 6, none⟩ = some (.int .i64 (2)) ∧ w'.cell? ⟨V.heap.size, 7, none⟩ = some (.int .i64 (1)) ∧ w'.cell? ⟨V.heap.size + 1 + 1 + 1 + 1 + 1 + 1, 3, none⟩ = some (.slice (some ⟨V.heap.size + 1 + 1 + 1, 0, none⟩) 3 3) ∧ w'.cell? ⟨V.heap.size + 1 + 1 + 1 + 1 + 1 + 1 + 1 + 1 + 1 + 1 + 1 + 1, 3, none⟩ = some (.slice (some ⟨V.heap.size + 1 + 1 + 1 + 1 + 1 + 1 + 1 + 1 + 1, 0, none⟩) 3 3)) (ds := []) #[false, false, false, false, false, false, false, false, false, false, false, false, false, false, false, false, false, false] (by kernel_rfl) rfl rfl ⟨hx0, hx1, hx2, hx3⟩ (fun hHeld => ?_); refine with_tabW dec_tab10 dec_bits10 (fun HT_ HW_ => ?_)
  replace HM := mk0 (Kd.C_drew HM.out)
  replace HV := mk0 (Kd.C_drew HV.out)
  replace HBW := mk0 (lD HBW.out)
  replace O0 := mk0 (bD O0.out)
  clear hx0 hx1 hx2 hx3
  generalize W.drew = W2 at HM HV HBW O0 hHeld ⊢
  refine pure_ (i := 0) (N := some 55) (v := ?_) (a' := ?_) q5 rfl rfl (any_of HT_.out (by kernel_rfl)) (fun _ _ _ h => h) (Or.inl ⟨by rfl, ?_⟩) ?_ ?_
  rotate_left
  · intro w'
    go_simp
    with_reducible rfl
  rotate_left
  · simp only [Act.put, List.setIfInBounds_toArray, List.set_cons_zero, List.set_cons_succ, i64_w]
    rfl
  refine pure_ (i := 1) (N := some 56) (v := ?_) (a' := ?_) q6 rfl rfl (any_of HT_.out (by kernel_rfl)) (fun _ _ _ h => h) (Or.inl ⟨by rfl, ?_⟩) ?_ ?_
  rotate_left
  · intro w'
    go_simp
    with_reducible rfl
  rotate_left
  · simp only [Act.put, List.setIfInBounds_toArray, List.set_cons_zero, List.set_cons_succ, i64_w]
    rfl
  refine pure_ (i := 2) (N := some 57) (v := ?_) (a' := ?_) q7 rfl rfl (any_of HT_.out (by kernel_rfl)) (fun _ _ _ h => h) (Or.inl ⟨by rfl, ?_⟩) ?_ ?_
  rotate_left
  · intro w'
    go_simp
    with_reducible rfl
  rotate_left
  · simp only [Act.put, List.setIfInBounds_toArray, List.set_cons_zero, List.set_cons_succ, i64_w]
    rfl
  refine pure_ (i := 4) (N := some 59) (v := ?_) (a' := ?_) q8 rfl rfl (any_of HT_.out (by kernel_rfl)) (fun _ _ _ h => h) (Or.inl ⟨by rfl, ?_⟩) ?_ ?_
  rotate_left
  · intro w'
    go_simp
    with_reducible rfl
  rotate_left
  · simp only [Act.put, List.setIfInBounds_toArray, List.set_cons_zero, List.set_cons_succ, i64_w]
    rfl
  refine pure_ (i := 5) (N := some 60) (v := ?_) (a' := ?_) q9 rfl rfl (any_of HT_.out (by kernel_rfl)) (fun _ _ _ h => h) (Or.inl ⟨by rfl, ?_⟩) ?_ ?_
  rotate_left
  · intro w'
    go_simp
    with_reducible rfl
  rotate_left
  · simp only [Act.put, List.setIfInBounds_toArray, List.set_cons_zero, List.set_cons_succ, i64_w]
    rfl
  refine pure_ (i := 6) (N := some 61) (v := ?_) (a' := ?_) q10 rfl rfl (any_of HT_.out (by kernel_rfl)) (fun _ _ _ h => h) (Or.inl ⟨by rfl, ?_⟩) ?_ ?_
  rotate_left
  · intro w'
    go_simp
    with_reducible rfl
  rotate_left
  · simp only [Act.put, List.setIfInBounds_toArray, List.set_cons_zero, List.set_cons_succ, i64_w]
    rfl
  refine pure_ (i := 8) (N := some 63) (v := ?_) (a' := ?_) q11 rfl rfl (any_of HT_.out (by kernel_rfl)) (fun _ _ _ h => h) (Or.inl ⟨by rfl, ?_⟩) ?_ ?_
  rotate_left
  · intro w'
    go_simp
    with_reducible rfl
  rotate_left
  · simp only [Act.put, List.setIfInBounds_toArray, List.set_cons_zero, List.set_cons_succ, i64_w]
    rfl
  refine pure_ (i := 9) (N := some 64) (v := ?_) (a' := ?_) q12 rfl rfl (any_of HT_.out (by kernel_rfl)) (fun _ _ _ h => h) (Or.inl ⟨by rfl, ?_⟩) ?_ ?_
  rotate_left
  · intro w'
    go_simp
    with_reducible rfl
  rotate_left
  · simp only [Act.put, List.setIfInBounds_toArray, List.set_cons_zero, List.set_cons_succ, i64_w]
    rfl
  refine pure_ (i := 10) (N := some 65) (v := ?_) (a' := ?_) q13 rfl rfl (any_of HT_.out (by kernel_rfl)) (fun _ _ _ h => h) (Or.inl ⟨by rfl, ?_⟩) ?_ ?_
  rotate_left
  · intro w'
    go_simp
    with_reducible rfl
  rotate_left
  · simp only [Act.put, List.setIfInBounds_toArray, List.set_cons_zero, List.set_cons_succ, i64_w]
    rfl
  refine take_ (i := 3) (N := some 58) (v := ?_) (a' := ?_) q14 rfl rfl (take_ofW HT_.out HW_.out (by kernel_rfl)) (fun _ _ _ h => h) (Or.inl ⟨by rfl, ?_⟩) hHeld ?_ ?_
  rotate_left
  · rintro w' ⟨s0, s1, s2, s3⟩
    go_simp
    with_reducible rfl
  rotate_left
  · simp only [Act.put, List.setIfInBounds_toArray, List.set_cons_zero, List.set_cons_succ, i64_w]
    rfl
  refine take_ (i := 7) (N := some 62) (v := ?_) (a' := ?_) q15 rfl rfl (take_ofW HT_.out HW_.out (by kernel_rfl)) (fun _ _ _ h => h) (Or.inl ⟨by rfl, ?_⟩) hHeld ?_ ?_
  rotate_left
  · rintro w' ⟨s0, s1, s2, s3⟩
    go_simp
    with_reducible rfl
  rotate_left
  · simp only [Act.put, List.setIfInBounds_toArray, List.set_cons_zero, List.set_cons_succ, i64_w]
    rfl
  refine take_ (i := 11) (N := some 66) (v := ?_) (a' := ?_) q16 rfl rfl (take_ofW HT_.out HW_.out (by kernel_rfl)) (fun _ _ _ h => h) (Or.inl ⟨by rfl, ?_⟩) hHeld ?_ ?_
  rotate_left
  · rintro w' ⟨s0, s1, s2, s3⟩
    go_simp
    with_reducible rfl
  rotate_left
  · simp only [Act.put, List.setIfInBounds_toArray, List.set_cons_zero, List.set_cons_succ, i64_w]
    rfl
  refine one_ (i := 12) (N := some 67) q17 rfl rfl (one_of HT_.out (by kernel_rfl)) (by decide) (fun K hK => ?_)
  refine goes_ Try.func53 (by kernel_rfl) rfl #[.agg #[.int .i64 (2), .int .i64 (1)], .slice (some ⟨V.heap.size + 1 + 1 + 1, 0, none⟩) 3 3, .slice (some ⟨V.heap.size + 1 + 1 + 1 + 1 + 1 + 1 + 1 + 1 + 1, 0, none⟩) 3 3] (by rfl) rfl rfl (by (try simp only [List.map_toArray, List.map_cons, List.map_nil]); first | done | rfl) ?_
  refine (GEnc.decode_Decode.calls k (2) (1) _ 3 [(⟨#[97]⟩ : ByteArray), (⟨#[98, 99]⟩ : ByteArray), (⟨#[100]⟩ : ByteArray)] _ 3 [true, true, false] [] 700 W2 HM.out (Nat.le_refl _) HV.out (Nat.le_refl _) E1.out).mono ?_
  rintro e W3 ⟨v0, rfl, ho0, hb⟩
  obtain ⟨Aa, ca, rfl⟩ := Kd.R_slice ho0
  have HS0_ := (hb.cell (World.block_lt_of_cell? _ _ (hHeld.1))).trans (hHeld.1)
  have HS1_ := (hb.cell (World.block_lt_of_cell? _ _ (hHeld.2.1))).trans (hHeld.2.1)
  have HS2_ := (hb.cell (World.block_lt_of_cell? _ _ (hHeld.2.2.1))).trans (hHeld.2.2.1)
  have HS3_ := (hb.cell (World.block_lt_of_cell? _ _ (hHeld.2.2.2))).trans (hHeld.2.2.2)
  refine ⟨_, rfl, ?_⟩
  have n2_ := mk0 (below_step HBW.out hb)
  have n3_ := mk0 (blk_below O0.out hb)
  clear HM HV HBW O0 ho0 hb
  have HB := n2_
  have O0 := n3_
  clear n2_ n3_
  refine hK.out _ _ ⟨HS0_, HS1_, HS2_, HS3_⟩ (fun hHeld => ?_)
  clear hK K
  refine norm_ (a' := ?_) ?_ ?_
  rotate_left
  · show Act.put _ (some 67) _ = _
    simp only [Act.put, List.setIfInBounds_toArray, List.set_cons_zero, List.set_cons_succ, i64_w, i32_w]
    rfl
  refine pure_ (i := 13) (N := some 54) (v := ?_) (a' := ?_) q0 rfl rfl (any_of HT_.out (by kernel_rfl)) (fun _ _ _ h => h) (Or.inl ⟨by rfl, ?_⟩) ?_ ?_
  rotate_left
  · intro w'
    go_simp
    with_reducible rfl
  rotate_left
  · simp only [Act.put, List.setIfInBounds_toArray, List.set_cons_zero, List.set_cons_succ, i64_w]
    rfl
  refine pure_ (i := 14) (N := some 68) (v := ?_) (a' := ?_) q1 rfl rfl (any_of HT_.out (by kernel_rfl)) (fun _ _ _ h => h) (Or.inl ⟨by rfl, ?_⟩) ?_ ?_
  rotate_left
  · intro w'
    go_simp
    with_reducible rfl
  rotate_left
  · simp only [Act.put, List.setIfInBounds_toArray, List.set_cons_zero, List.set_cons_succ, i64_w]
    rfl
  refine pure_ (i := 15) (N := some 69) (v := ?_) (a' := ?_) q2 rfl rfl (any_of HT_.out (by kernel_rfl)) (fun _ _ _ h => h) (Or.inl ⟨by rfl, ?_⟩) ?_ ?_
  rotate_left
  · intro w'
    go_simp
    with_reducible rfl
  rotate_left
  · simp only [Act.put, List.setIfInBounds_toArray, List.set_cons_zero, List.set_cons_succ, i64_w]
    rfl
  refine pure_ (i := 16) (N := some 12) (v := ?_) (a' := ?_) q3 rfl rfl (any_of HT_.out (by kernel_rfl)) (fun _ _ _ h => h) (Or.inl ⟨by rfl, ?_⟩) ?_ ?_
  rotate_left
  · intro w'
    go_simp
    with_reducible rfl
  rotate_left
  · simp only [Act.put, List.setIfInBounds_toArray, List.set_cons_zero, List.set_cons_succ, i64_w]
    rfl
  refine pure_ (i := 17) (N := some 13) (v := ?_) (a' := ?_) q4 rfl rfl (any_of HT_.out (by kernel_rfl)) (fun _ _ _ h => h) (Or.inl ⟨by rfl, ?_⟩) ?_ ?_
  rotate_left
  · intro w'
    go_simp
    with_reducible rfl
  rotate_left
  · simp only [Act.put, List.setIfInBounds_toArray, List.set_cons_zero, List.set_cons_succ, i64_w]
    rfl
  refine done_ (done_of HT_.out (by kernel_rfl)) ?_
  clear HT_ HW_
  have hz0 : W3.cell? ⟨w1.heap.size, 0, none⟩ = some (.int .i64 2) := (blk_cell O0.out 0).trans rfl
  have hz1 : W3.cell? ⟨w1.heap.size, 1, none⟩ = some (.int .i64 1) := (blk_cell O0.out 1).trans rfl
  have hlt_ : w1.heap.size < W3.heap.size := blk_lt O0.out
  go_wp2_with (first
    | ((with_reducible refine gCa (f := 53) rfl ?_); refine goesL_ (some 74) rfl rfl Try.func53 (by kernel_rfl) rfl #[.agg #[.int .i64 2, .int .i64 1], .slice (some ⟨W3.heap.size, 0, none⟩) 3 3, .slice (some ⟨W3.heap.size + 1, 0, none⟩) 3 3] rfl (by (try simp only [List.map_toArray, List.map_cons, List.map_nil]); first | done | rfl) ?_;
       refine (GEnc.decode_Decode.calls k 2 1 _ 3 [(⟨#[97]⟩ : ByteArray), (⟨#[98, 99]⟩ : ByteArray), (⟨#[]⟩ : ByteArray)] _ 3 [true, false, false] [] 701 (t2Os.foldl World.alloc W3) (C_str _ (put_at W3 t2Os 0 (by show 0 < 2; decide)) (by decide)) (Nat.le_refl _) (C_boo _ (put_at W3 t2Os 1 (by show 1 < 2; decide)) (by decide)) (Nat.le_refl _) E2.out).mono ?_;
       rintro e W4 ⟨v1, rfl, ho1, hb⟩; obtain ⟨Ab, cb, rfl⟩ := Kd.R_slice ho1; refine ⟨_, rfl, ?_⟩; have n0_ := mk0 (below_step (lA (lA HB.out _) _) hb); clear HB ho1 hb hz0 hz1 hlt_; have HB := n0_; clear n0_)
    | (go_at_call 35; (with_reducible refine (GBase.ossuarylaw0_Num.calls 700 700 _ rfl).mono ?_); rintro e w' ⟨rfl, ⟨nd, rfl⟩⟩)
    | (go_at_call 35; (with_reducible refine (GBase.ossuarylaw0_Num.calls 701 701 _ rfl).mono ?_); rintro e w' ⟨rfl, ⟨nd2, rfl⟩⟩))
  go_ret
  exact ⟨rfl, by repeat (first | exact HB.out | apply lN | apply lA | apply lD)⟩
set_option maxHeartbeats 8000000 in
set_option maxRecDepth 100000 in
theorem walk4 (k : Nat) (a0 a1 b n : Int) (L : ByteArray) (w : World) (h5 : ossuarylaw7_awake.f k = some true) (hb : Go.bits .and .i64 a1 1023 = b) (hk : wrap64 (Int.tmod (IntKind.u64.wrap a0) 6) = 4) (hb1 : wrap64 (1 + b) = 1 + b) (hb2 : wrap64 (-(1 + b)) = -(1 + b)) (hb3 : wrap64 (4096 + (1 + b)) = n)
    (hn0 : 0 ≤ n) (hn1 : n.toNat ≤ 281474976710656) (hL : strOfNums (List.replicate n.toNat 0) = L)
    (e1 : GEnc.decode_Decode.f k (2) (1) [L, L, L] [true, true, true] = some ([], 700)) (e2 : GEnc.decode_Decode.f k 2 1 [(⟨#[97]⟩ : ByteArray), (⟨#[98, 99]⟩ : ByteArray), (⟨#[]⟩ : ByteArray)] [true, false, false] = some ([], 701)) :
    Calls Try.prog 19 #[.int .i64 a0, .int .i64 a1] w fun e w' => e = .returned (.bool true) ∧ Below w.heap.size w w' := by
  have hu51 := Try.underlying51
  have hb3w : IntKind.i64.wrap (4096 + (1 + b)) = n := (i64_w _).trans hb3
  have A5 := mk0 h5
  have E1 := mk0 e1
  have E2 := mk0 e2
  have HB := mk0 (Below.refl w.heap.size w)
  clear h5 e1 e2
  go_enter Try.func19, Try.ntmps19
  go_wp2_with (first
    | ((with_reducible refine gCa (f := 55) rfl ?_); refine goesL_ (some 16) rfl rfl Try.func55 (by kernel_rfl) rfl #[] rfl (by (try simp only [List.map_toArray, List.map_nil]); first | done | rfl) ?_; (with_reducible refine (ossuarylaw7_awake.calls k true _ A5.out).mono ?_); rintro e w1 ⟨rfl, hb⟩; refine ⟨_, rfl, ?_⟩; have n0_ := mk0 (below_step HB.out hb); clear HB; have HB := n0_; clear n0_ hb)
    | ((with_reducible refine gate_dst (N := 24) rfl ?_); refine Kd.R_make (Kd.int .u8) _ 5 rfl (N := 24) rfl 66 _ _ rfl n rfl rfl Try.underlying66 (.int .u8 0) 1 dinfo5 rfl (by decide) (by omega) 0 (ok := fun _ => True) (okp := fun _ => True) rfl (fun _ hk => hk) trivial hn0 (Nat.le_trans (Nat.mul_le_mul_right _ hn1) (by omega)) (Below.refl _ _) (Nat.le_refl _) ?_; intro v24 V ho24 hb_ hg_ hnew_; clear hg_ hnew_;
       have hcv25 := own_string (P := Try.prog) Try.underlying66 Try.underlying5 Try.underlying9 (Kd.own_of_R ho24); rw [hL] at hcv25;
       have O0 := mk0 (blk_below (put_at w1 [.cells #[.int .i64 2, .int .i64 1] 51 (0, 0)] 0 (by show 0 < 1; decide)) hb_); have n0_ := mk0 (below_step (below_step HB.out (below_all w1 [.cells #[.int .i64 2, .int .i64 1] 51 (0, 0)])) hb_); clear HB; have HB := n0_; clear n0_ hb_ ho24;
       have hz0 : V.cell? ⟨w1.heap.size, 0, none⟩ = some (.int .i64 2) := (blk_cell O0.out 0).trans rfl; have hz1 : V.cell? ⟨w1.heap.size, 1, none⟩ = some (.int .i64 1) := (blk_cell O0.out 1).trans rfl))
  clear hcv25 hz0 hz1
  refine seen_ (F := decF V b L) (dec_seen V b L) (fun W hW => ?_)
  obtain ⟨hBW, o0, o1, o2, o3, o4, o5, o6, o7, o8, o9, o10, o11, o12⟩ := hW
  have hx0 : W.cell? ⟨V.heap.size, 8, none⟩ = some (.int .i64 (2)) := blk_cell o0 8
  have hx1 : W.cell? ⟨V.heap.size, 9, none⟩ = some (.int .i64 (1)) := blk_cell o0 9
  have hx2 : W.cell? ⟨V.heap.size + 1 + 1 + 1 + 1 + 1 + 1, 4, none⟩ = some (.slice (some ⟨V.heap.size + 1 + 1 + 1 + 1, 0, none⟩) 3 3) := blk_cell o6 4
  have hx3 : W.cell? ⟨V.heap.size + 1 + 1 + 1 + 1 + 1 + 1 + 1 + 1 + 1 + 1 + 1 + 1, 4, none⟩ = some (.slice (some ⟨V.heap.size + 1 + 1 + 1 + 1 + 1 + 1 + 1 + 1 + 1 + 1, 0, none⟩) 3 3) := blk_cell o12 4
  have hm_ : Kd.C Kd.string W (some ⟨V.heap.size + 1 + 1 + 1 + 1, 0, none⟩) 3 [L, L, L] := C_str [L, L, L] o4 (by show 3 ≤ 100; decide)
  have hn_ : Kd.C Kd.bool W (some ⟨V.heap.size + 1 + 1 + 1 + 1 + 1 + 1 + 1 + 1 + 1 + 1, 0, none⟩) 3 [true, true, true] := C_boo [true, true, true] o10 (by decide)
  have HM := mk0 hm_
  have HV := mk0 hn_
  have n0_ := mk0 (blk_below O0.out hBW)
  have HBW := mk0 (below_step HB.out hBW)
  clear O0
  have O0 := n0_
  clear n0_ hm_ hn_ hBW o0 o1 o2 o3 o4 o5 o6 o7 o8 o9 o10 o11 o12 HB
  rw [hk]
  refine start_ (n := 18) (S := fun w' => w'.cell? ⟨V.heap.size, 8, none⟩ = some (.int .i64 (2)) ∧ w'.cell? ⟨V.heap.size, 9, none⟩ = some (.int .i64 (1)) ∧ w'.cell? ⟨V.heap.size + 1 + 1 + 1 + 1 + 1 + 1, 4, none⟩ = some (.slice (some ⟨V.heap.size + 1 + 1 + 1 + 1, 0, none⟩) 3 3) ∧ w'.cell? ⟨V.heap.size + 1 + 1 + 1 + 1 + 1 + 1 + 1 + 1 + 1 + 1 + 1 + 1, 4, none⟩ = some (.slice (some ⟨V.heap.size + 1 + 1 + 1 + 1 + 1 + 1 + 1 + 1 + 1 + 1, 0, none⟩) 3 3)) (ds := []) #[false, false, false, false, false, false, false, false, false, false, false, false, false, false, false, false, false, false] (by kernel_rfl) rfl rfl ⟨hx0, hx1, hx2, hx3⟩ (fun hHeld => ?_); refine with_tabW dec_tab10 dec_bits10 (fun HT_ HW_ => ?_)
  replace HM := mk0 (Kd.C_drew HM.out)
  replace HV := mk0 (Kd.C_drew HV.out)
  replace HBW := mk0 (lD HBW.out)
  replace O0 := mk0 (bD O0.out)
  clear hx0 hx1 hx2 hx3
  generalize W.drew = W2 at HM HV HBW O0 hHeld ⊢
  refine pure_ (i := 0) (N := some 55) (v := ?_) (a' := ?_) q5 rfl rfl (any_of HT_.out (by kernel_rfl)) (fun _ _ _ h => h) (Or.inl ⟨by rfl, ?_⟩) ?_ ?_
  rotate_left
  · intro w'
    go_simp
    with_reducible rfl
  rotate_left
  · simp only [Act.put, List.setIfInBounds_toArray, List.set_cons_zero, List.set_cons_succ, i64_w]
    rfl
  refine pure_ (i := 1) (N := some 56) (v := ?_) (a' := ?_) q6 rfl rfl (any_of HT_.out (by kernel_rfl)) (fun _ _ _ h => h) (Or.inl ⟨by rfl, ?_⟩) ?_ ?_
  rotate_left
  · intro w'
    go_simp
    with_reducible rfl
  rotate_left
  · simp only [Act.put, List.setIfInBounds_toArray, List.set_cons_zero, List.set_cons_succ, i64_w]
    rfl
  refine pure_ (i := 2) (N := some 57) (v := ?_) (a' := ?_) q7 rfl rfl (any_of HT_.out (by kernel_rfl)) (fun _ _ _ h => h) (Or.inl ⟨by rfl, ?_⟩) ?_ ?_
  rotate_left
  · intro w'
    go_simp
    with_reducible rfl
  rotate_left
  · simp only [Act.put, List.setIfInBounds_toArray, List.set_cons_zero, List.set_cons_succ, i64_w]
    rfl
  refine pure_ (i := 4) (N := some 59) (v := ?_) (a' := ?_) q8 rfl rfl (any_of HT_.out (by kernel_rfl)) (fun _ _ _ h => h) (Or.inl ⟨by rfl, ?_⟩) ?_ ?_
  rotate_left
  · intro w'
    go_simp
    with_reducible rfl
  rotate_left
  · simp only [Act.put, List.setIfInBounds_toArray, List.set_cons_zero, List.set_cons_succ, i64_w]
    rfl
  refine pure_ (i := 5) (N := some 60) (v := ?_) (a' := ?_) q9 rfl rfl (any_of HT_.out (by kernel_rfl)) (fun _ _ _ h => h) (Or.inl ⟨by rfl, ?_⟩) ?_ ?_
  rotate_left
  · intro w'
    go_simp
    with_reducible rfl
  rotate_left
  · simp only [Act.put, List.setIfInBounds_toArray, List.set_cons_zero, List.set_cons_succ, i64_w]
    rfl
  refine pure_ (i := 6) (N := some 61) (v := ?_) (a' := ?_) q10 rfl rfl (any_of HT_.out (by kernel_rfl)) (fun _ _ _ h => h) (Or.inl ⟨by rfl, ?_⟩) ?_ ?_
  rotate_left
  · intro w'
    go_simp
    with_reducible rfl
  rotate_left
  · simp only [Act.put, List.setIfInBounds_toArray, List.set_cons_zero, List.set_cons_succ, i64_w]
    rfl
  refine pure_ (i := 8) (N := some 63) (v := ?_) (a' := ?_) q11 rfl rfl (any_of HT_.out (by kernel_rfl)) (fun _ _ _ h => h) (Or.inl ⟨by rfl, ?_⟩) ?_ ?_
  rotate_left
  · intro w'
    go_simp
    with_reducible rfl
  rotate_left
  · simp only [Act.put, List.setIfInBounds_toArray, List.set_cons_zero, List.set_cons_succ, i64_w]
    rfl
  refine pure_ (i := 9) (N := some 64) (v := ?_) (a' := ?_) q12 rfl rfl (any_of HT_.out (by kernel_rfl)) (fun _ _ _ h => h) (Or.inl ⟨by rfl, ?_⟩) ?_ ?_
  rotate_left
  · intro w'
    go_simp
    with_reducible rfl
  rotate_left
  · simp only [Act.put, List.setIfInBounds_toArray, List.set_cons_zero, List.set_cons_succ, i64_w]
    rfl
  refine pure_ (i := 10) (N := some 65) (v := ?_) (a' := ?_) q13 rfl rfl (any_of HT_.out (by kernel_rfl)) (fun _ _ _ h => h) (Or.inl ⟨by rfl, ?_⟩) ?_ ?_
  rotate_left
  · intro w'
    go_simp
    with_reducible rfl
  rotate_left
  · simp only [Act.put, List.setIfInBounds_toArray, List.set_cons_zero, List.set_cons_succ, i64_w]
    rfl
  refine take_ (i := 3) (N := some 58) (v := ?_) (a' := ?_) q14 rfl rfl (take_ofW HT_.out HW_.out (by kernel_rfl)) (fun _ _ _ h => h) (Or.inl ⟨by rfl, ?_⟩) hHeld ?_ ?_
  rotate_left
  · rintro w' ⟨s0, s1, s2, s3⟩
    go_simp
    with_reducible rfl
  rotate_left
  · simp only [Act.put, List.setIfInBounds_toArray, List.set_cons_zero, List.set_cons_succ, i64_w]
    rfl
  refine take_ (i := 7) (N := some 62) (v := ?_) (a' := ?_) q15 rfl rfl (take_ofW HT_.out HW_.out (by kernel_rfl)) (fun _ _ _ h => h) (Or.inl ⟨by rfl, ?_⟩) hHeld ?_ ?_
  rotate_left
  · rintro w' ⟨s0, s1, s2, s3⟩
    go_simp
    with_reducible rfl
  rotate_left
  · simp only [Act.put, List.setIfInBounds_toArray, List.set_cons_zero, List.set_cons_succ, i64_w]
    rfl
  refine take_ (i := 11) (N := some 66) (v := ?_) (a' := ?_) q16 rfl rfl (take_ofW HT_.out HW_.out (by kernel_rfl)) (fun _ _ _ h => h) (Or.inl ⟨by rfl, ?_⟩) hHeld ?_ ?_
  rotate_left
  · rintro w' ⟨s0, s1, s2, s3⟩
    go_simp
    with_reducible rfl
  rotate_left
  · simp only [Act.put, List.setIfInBounds_toArray, List.set_cons_zero, List.set_cons_succ, i64_w]
    rfl
  refine one_ (i := 12) (N := some 67) q17 rfl rfl (one_of HT_.out (by kernel_rfl)) (by decide) (fun K hK => ?_)
  refine goes_ Try.func53 (by kernel_rfl) rfl #[.agg #[.int .i64 (2), .int .i64 (1)], .slice (some ⟨V.heap.size + 1 + 1 + 1 + 1, 0, none⟩) 3 3, .slice (some ⟨V.heap.size + 1 + 1 + 1 + 1 + 1 + 1 + 1 + 1 + 1 + 1, 0, none⟩) 3 3] (by rfl) rfl rfl (by (try simp only [List.map_toArray, List.map_cons, List.map_nil]); first | done | rfl) ?_
  refine (GEnc.decode_Decode.calls k (2) (1) _ 3 [L, L, L] _ 3 [true, true, true] [] 700 W2 HM.out (Nat.le_refl _) HV.out (Nat.le_refl _) E1.out).mono ?_
  rintro e W3 ⟨v0, rfl, ho0, hb⟩
  obtain ⟨Aa, ca, rfl⟩ := Kd.R_slice ho0
  have HS0_ := (hb.cell (World.block_lt_of_cell? _ _ (hHeld.1))).trans (hHeld.1)
  have HS1_ := (hb.cell (World.block_lt_of_cell? _ _ (hHeld.2.1))).trans (hHeld.2.1)
  have HS2_ := (hb.cell (World.block_lt_of_cell? _ _ (hHeld.2.2.1))).trans (hHeld.2.2.1)
  have HS3_ := (hb.cell (World.block_lt_of_cell? _ _ (hHeld.2.2.2))).trans (hHeld.2.2.2)
  refine ⟨_, rfl, ?_⟩
  have n2_ := mk0 (below_step HBW.out hb)
  have n3_ := mk0 (blk_below O0.out hb)
  clear HM HV HBW O0 ho0 hb
  have HB := n2_
  have O0 := n3_
  clear n2_ n3_
  refine hK.out _ _ ⟨HS0_, HS1_, HS2_, HS3_⟩ (fun hHeld => ?_)
  clear hK K
  refine norm_ (a' := ?_) ?_ ?_
  rotate_left
  · show Act.put _ (some 67) _ = _
    simp only [Act.put, List.setIfInBounds_toArray, List.set_cons_zero, List.set_cons_succ, i64_w, i32_w]
    rfl
  refine pure_ (i := 13) (N := some 54) (v := ?_) (a' := ?_) q0 rfl rfl (any_of HT_.out (by kernel_rfl)) (fun _ _ _ h => h) (Or.inl ⟨by rfl, ?_⟩) ?_ ?_
  rotate_left
  · intro w'
    go_simp
    with_reducible rfl
  rotate_left
  · simp only [Act.put, List.setIfInBounds_toArray, List.set_cons_zero, List.set_cons_succ, i64_w]
    rfl
  refine pure_ (i := 14) (N := some 68) (v := ?_) (a' := ?_) q1 rfl rfl (any_of HT_.out (by kernel_rfl)) (fun _ _ _ h => h) (Or.inl ⟨by rfl, ?_⟩) ?_ ?_
  rotate_left
  · intro w'
    go_simp
    with_reducible rfl
  rotate_left
  · simp only [Act.put, List.setIfInBounds_toArray, List.set_cons_zero, List.set_cons_succ, i64_w]
    rfl
  refine pure_ (i := 15) (N := some 69) (v := ?_) (a' := ?_) q2 rfl rfl (any_of HT_.out (by kernel_rfl)) (fun _ _ _ h => h) (Or.inl ⟨by rfl, ?_⟩) ?_ ?_
  rotate_left
  · intro w'
    go_simp
    with_reducible rfl
  rotate_left
  · simp only [Act.put, List.setIfInBounds_toArray, List.set_cons_zero, List.set_cons_succ, i64_w]
    rfl
  refine pure_ (i := 16) (N := some 12) (v := ?_) (a' := ?_) q3 rfl rfl (any_of HT_.out (by kernel_rfl)) (fun _ _ _ h => h) (Or.inl ⟨by rfl, ?_⟩) ?_ ?_
  rotate_left
  · intro w'
    go_simp
    with_reducible rfl
  rotate_left
  · simp only [Act.put, List.setIfInBounds_toArray, List.set_cons_zero, List.set_cons_succ, i64_w]
    rfl
  refine pure_ (i := 17) (N := some 13) (v := ?_) (a' := ?_) q4 rfl rfl (any_of HT_.out (by kernel_rfl)) (fun _ _ _ h => h) (Or.inl ⟨by rfl, ?_⟩) ?_ ?_
  rotate_left
  · intro w'
    go_simp
    with_reducible rfl
  rotate_left
  · simp only [Act.put, List.setIfInBounds_toArray, List.set_cons_zero, List.set_cons_succ, i64_w]
    rfl
  refine done_ (done_of HT_.out (by kernel_rfl)) ?_
  clear HT_ HW_
  have hz0 : W3.cell? ⟨w1.heap.size, 0, none⟩ = some (.int .i64 2) := (blk_cell O0.out 0).trans rfl
  have hz1 : W3.cell? ⟨w1.heap.size, 1, none⟩ = some (.int .i64 1) := (blk_cell O0.out 1).trans rfl
  have hlt_ : w1.heap.size < W3.heap.size := blk_lt O0.out
  go_wp2_with (first
    | ((with_reducible refine gCa (f := 53) rfl ?_); refine goesL_ (some 74) rfl rfl Try.func53 (by kernel_rfl) rfl #[.agg #[.int .i64 2, .int .i64 1], .slice (some ⟨W3.heap.size, 0, none⟩) 3 3, .slice (some ⟨W3.heap.size + 1, 0, none⟩) 3 3] rfl (by (try simp only [List.map_toArray, List.map_cons, List.map_nil]); first | done | rfl) ?_;
       refine (GEnc.decode_Decode.calls k 2 1 _ 3 [(⟨#[97]⟩ : ByteArray), (⟨#[98, 99]⟩ : ByteArray), (⟨#[]⟩ : ByteArray)] _ 3 [true, false, false] [] 701 (t2Os.foldl World.alloc W3) (C_str _ (put_at W3 t2Os 0 (by show 0 < 2; decide)) (by decide)) (Nat.le_refl _) (C_boo _ (put_at W3 t2Os 1 (by show 1 < 2; decide)) (by decide)) (Nat.le_refl _) E2.out).mono ?_;
       rintro e W4 ⟨v1, rfl, ho1, hb⟩; obtain ⟨Ab, cb, rfl⟩ := Kd.R_slice ho1; refine ⟨_, rfl, ?_⟩; have n0_ := mk0 (below_step (lA (lA HB.out _) _) hb); clear HB ho1 hb hz0 hz1 hlt_; have HB := n0_; clear n0_)
    | (go_at_call 35; (with_reducible refine (GBase.ossuarylaw0_Num.calls 700 700 _ rfl).mono ?_); rintro e w' ⟨rfl, ⟨nd, rfl⟩⟩)
    | (go_at_call 35; (with_reducible refine (GBase.ossuarylaw0_Num.calls 701 701 _ rfl).mono ?_); rintro e w' ⟨rfl, ⟨nd2, rfl⟩⟩))
  go_ret
  exact ⟨rfl, by repeat (first | exact HB.out | apply lN | apply lA | apply lD)⟩
set_option maxHeartbeats 8000000 in
set_option maxRecDepth 100000 in
theorem walk5 (k : Nat) (a0 a1 b n : Int) (L : ByteArray) (w : World) (h5 : ossuarylaw7_awake.f k = some true) (hb : Go.bits .and .i64 a1 1023 = b) (hk : wrap64 (Int.tmod (IntKind.u64.wrap a0) 6) = 5) (hb1 : wrap64 (1 + b) = 1 + b) (hb2 : wrap64 (-(1 + b)) = -(1 + b)) (hb3 : wrap64 (4096 + (1 + b)) = n)
    (hn0 : 0 ≤ n) (hn1 : n.toNat ≤ 281474976710656) (hL : strOfNums (List.replicate n.toNat 0) = L)
    (e1 : GEnc.decode_Decode.f k (2) (-(1 + b)) [(⟨#[97]⟩ : ByteArray), (⟨#[98]⟩ : ByteArray), (⟨#[99]⟩ : ByteArray)] [true, true, true] = some ([], 700)) (e2 : GEnc.decode_Decode.f k 2 1 [(⟨#[97]⟩ : ByteArray), (⟨#[98, 99]⟩ : ByteArray), (⟨#[]⟩ : ByteArray)] [true, false, false] = some ([], 701)) :
    Calls Try.prog 19 #[.int .i64 a0, .int .i64 a1] w fun e w' => e = .returned (.bool true) ∧ Below w.heap.size w w' := by
  have hu51 := Try.underlying51
  have hb3w : IntKind.i64.wrap (4096 + (1 + b)) = n := (i64_w _).trans hb3
  have A5 := mk0 h5
  have E1 := mk0 e1
  have E2 := mk0 e2
  have HB := mk0 (Below.refl w.heap.size w)
  clear h5 e1 e2
  go_enter Try.func19, Try.ntmps19
  go_wp2_with (first
    | ((with_reducible refine gCa (f := 55) rfl ?_); refine goesL_ (some 16) rfl rfl Try.func55 (by kernel_rfl) rfl #[] rfl (by (try simp only [List.map_toArray, List.map_nil]); first | done | rfl) ?_; (with_reducible refine (ossuarylaw7_awake.calls k true _ A5.out).mono ?_); rintro e w1 ⟨rfl, hb⟩; refine ⟨_, rfl, ?_⟩; have n0_ := mk0 (below_step HB.out hb); clear HB; have HB := n0_; clear n0_ hb)
    | ((with_reducible refine gate_dst (N := 24) rfl ?_); refine Kd.R_make (Kd.int .u8) _ 5 rfl (N := 24) rfl 66 _ _ rfl n rfl rfl Try.underlying66 (.int .u8 0) 1 dinfo5 rfl (by decide) (by omega) 0 (ok := fun _ => True) (okp := fun _ => True) rfl (fun _ hk => hk) trivial hn0 (Nat.le_trans (Nat.mul_le_mul_right _ hn1) (by omega)) (Below.refl _ _) (Nat.le_refl _) ?_; intro v24 V ho24 hb_ hg_ hnew_; clear hg_ hnew_;
       have hcv25 := own_string (P := Try.prog) Try.underlying66 Try.underlying5 Try.underlying9 (Kd.own_of_R ho24); rw [hL] at hcv25;
       have O0 := mk0 (blk_below (put_at w1 [.cells #[.int .i64 2, .int .i64 1] 51 (0, 0)] 0 (by show 0 < 1; decide)) hb_); have n0_ := mk0 (below_step (below_step HB.out (below_all w1 [.cells #[.int .i64 2, .int .i64 1] 51 (0, 0)])) hb_); clear HB; have HB := n0_; clear n0_ hb_ ho24;
       have hz0 : V.cell? ⟨w1.heap.size, 0, none⟩ = some (.int .i64 2) := (blk_cell O0.out 0).trans rfl; have hz1 : V.cell? ⟨w1.heap.size, 1, none⟩ = some (.int .i64 1) := (blk_cell O0.out 1).trans rfl))
  clear hcv25 hz0 hz1
  refine seen_ (F := decF V b L) (dec_seen V b L) (fun W hW => ?_)
  obtain ⟨hBW, o0, o1, o2, o3, o4, o5, o6, o7, o8, o9, o10, o11, o12⟩ := hW
  have hx0 : W.cell? ⟨V.heap.size, 10, none⟩ = some (.int .i64 (2)) := blk_cell o0 10
  have hx1 : W.cell? ⟨V.heap.size, 11, none⟩ = some (.int .i64 (-(1 + b))) := blk_cell o0 11
  have hx2 : W.cell? ⟨V.heap.size + 1 + 1 + 1 + 1 + 1 + 1, 5, none⟩ = some (.slice (some ⟨V.heap.size + 1 + 1 + 1 + 1 + 1, 0, none⟩) 3 3) := blk_cell o6 5
  have hx3 : W.cell? ⟨V.heap.size + 1 + 1 + 1 + 1 + 1 + 1 + 1 + 1 + 1 + 1 + 1 + 1, 5, none⟩ = some (.slice (some ⟨V.heap.size + 1 + 1 + 1 + 1 + 1 + 1 + 1 + 1 + 1 + 1 + 1, 0, none⟩) 3 3) := blk_cell o12 5
  have hm_ : Kd.C Kd.string W (some ⟨V.heap.size + 1 + 1 + 1 + 1 + 1, 0, none⟩) 3 [(⟨#[97]⟩ : ByteArray), (⟨#[98]⟩ : ByteArray), (⟨#[99]⟩ : ByteArray)] := C_str [(⟨#[97]⟩ : ByteArray), (⟨#[98]⟩ : ByteArray), (⟨#[99]⟩ : ByteArray)] o5 (by show 3 ≤ 100; decide)
  have hn_ : Kd.C Kd.bool W (some ⟨V.heap.size + 1 + 1 + 1 + 1 + 1 + 1 + 1 + 1 + 1 + 1 + 1, 0, none⟩) 3 [true, true, true] := C_boo [true, true, true] o11 (by decide)
  have HM := mk0 hm_
  have HV := mk0 hn_
  have n0_ := mk0 (blk_below O0.out hBW)
  have HBW := mk0 (below_step HB.out hBW)
  clear O0
  have O0 := n0_
  clear n0_ hm_ hn_ hBW o0 o1 o2 o3 o4 o5 o6 o7 o8 o9 o10 o11 o12 HB
  rw [hk]
  refine start_ (n := 18) (S := fun w' => w'.cell? ⟨V.heap.size, 10, none⟩ = some (.int .i64 (2)) ∧ w'.cell? ⟨V.heap.size, 11, none⟩ = some (.int .i64 (-(1 + b))) ∧ w'.cell? ⟨V.heap.size + 1 + 1 + 1 + 1 + 1 + 1, 5, none⟩ = some (.slice (some ⟨V.heap.size + 1 + 1 + 1 + 1 + 1, 0, none⟩) 3 3) ∧ w'.cell? ⟨V.heap.size + 1 + 1 + 1 + 1 + 1 + 1 + 1 + 1 + 1 + 1 + 1 + 1, 5, none⟩ = some (.slice (some ⟨V.heap.size + 1 + 1 + 1 + 1 + 1 + 1 + 1 + 1 + 1 + 1 + 1, 0, none⟩) 3 3)) (ds := []) #[false, false, false, false, false, false, false, false, false, false, false, false, false, false, false, false, false, false] (by kernel_rfl) rfl rfl ⟨hx0, hx1, hx2, hx3⟩ (fun hHeld => ?_); refine with_tabW dec_tab10 dec_bits10 (fun HT_ HW_ => ?_)
  replace HM := mk0 (Kd.C_drew HM.out)
  replace HV := mk0 (Kd.C_drew HV.out)
  replace HBW := mk0 (lD HBW.out)
  replace O0 := mk0 (bD O0.out)
  clear hx0 hx1 hx2 hx3
  generalize W.drew = W2 at HM HV HBW O0 hHeld ⊢
  refine pure_ (i := 0) (N := some 55) (v := ?_) (a' := ?_) q5 rfl rfl (any_of HT_.out (by kernel_rfl)) (fun _ _ _ h => h) (Or.inl ⟨by rfl, ?_⟩) ?_ ?_
  rotate_left
  · intro w'
    go_simp
    with_reducible rfl
  rotate_left
  · simp only [Act.put, List.setIfInBounds_toArray, List.set_cons_zero, List.set_cons_succ, i64_w]
    rfl
  refine pure_ (i := 1) (N := some 56) (v := ?_) (a' := ?_) q6 rfl rfl (any_of HT_.out (by kernel_rfl)) (fun _ _ _ h => h) (Or.inl ⟨by rfl, ?_⟩) ?_ ?_
  rotate_left
  · intro w'
    go_simp
    with_reducible rfl
  rotate_left
  · simp only [Act.put, List.setIfInBounds_toArray, List.set_cons_zero, List.set_cons_succ, i64_w]
    rfl
  refine pure_ (i := 2) (N := some 57) (v := ?_) (a' := ?_) q7 rfl rfl (any_of HT_.out (by kernel_rfl)) (fun _ _ _ h => h) (Or.inl ⟨by rfl, ?_⟩) ?_ ?_
  rotate_left
  · intro w'
    go_simp
    with_reducible rfl
  rotate_left
  · simp only [Act.put, List.setIfInBounds_toArray, List.set_cons_zero, List.set_cons_succ, i64_w]
    rfl
  refine pure_ (i := 4) (N := some 59) (v := ?_) (a' := ?_) q8 rfl rfl (any_of HT_.out (by kernel_rfl)) (fun _ _ _ h => h) (Or.inl ⟨by rfl, ?_⟩) ?_ ?_
  rotate_left
  · intro w'
    go_simp
    with_reducible rfl
  rotate_left
  · simp only [Act.put, List.setIfInBounds_toArray, List.set_cons_zero, List.set_cons_succ, i64_w]
    rfl
  refine pure_ (i := 5) (N := some 60) (v := ?_) (a' := ?_) q9 rfl rfl (any_of HT_.out (by kernel_rfl)) (fun _ _ _ h => h) (Or.inl ⟨by rfl, ?_⟩) ?_ ?_
  rotate_left
  · intro w'
    go_simp
    with_reducible rfl
  rotate_left
  · simp only [Act.put, List.setIfInBounds_toArray, List.set_cons_zero, List.set_cons_succ, i64_w]
    rfl
  refine pure_ (i := 6) (N := some 61) (v := ?_) (a' := ?_) q10 rfl rfl (any_of HT_.out (by kernel_rfl)) (fun _ _ _ h => h) (Or.inl ⟨by rfl, ?_⟩) ?_ ?_
  rotate_left
  · intro w'
    go_simp
    with_reducible rfl
  rotate_left
  · simp only [Act.put, List.setIfInBounds_toArray, List.set_cons_zero, List.set_cons_succ, i64_w]
    rfl
  refine pure_ (i := 8) (N := some 63) (v := ?_) (a' := ?_) q11 rfl rfl (any_of HT_.out (by kernel_rfl)) (fun _ _ _ h => h) (Or.inl ⟨by rfl, ?_⟩) ?_ ?_
  rotate_left
  · intro w'
    go_simp
    with_reducible rfl
  rotate_left
  · simp only [Act.put, List.setIfInBounds_toArray, List.set_cons_zero, List.set_cons_succ, i64_w]
    rfl
  refine pure_ (i := 9) (N := some 64) (v := ?_) (a' := ?_) q12 rfl rfl (any_of HT_.out (by kernel_rfl)) (fun _ _ _ h => h) (Or.inl ⟨by rfl, ?_⟩) ?_ ?_
  rotate_left
  · intro w'
    go_simp
    with_reducible rfl
  rotate_left
  · simp only [Act.put, List.setIfInBounds_toArray, List.set_cons_zero, List.set_cons_succ, i64_w]
    rfl
  refine pure_ (i := 10) (N := some 65) (v := ?_) (a' := ?_) q13 rfl rfl (any_of HT_.out (by kernel_rfl)) (fun _ _ _ h => h) (Or.inl ⟨by rfl, ?_⟩) ?_ ?_
  rotate_left
  · intro w'
    go_simp
    with_reducible rfl
  rotate_left
  · simp only [Act.put, List.setIfInBounds_toArray, List.set_cons_zero, List.set_cons_succ, i64_w]
    rfl
  refine take_ (i := 3) (N := some 58) (v := ?_) (a' := ?_) q14 rfl rfl (take_ofW HT_.out HW_.out (by kernel_rfl)) (fun _ _ _ h => h) (Or.inl ⟨by rfl, ?_⟩) hHeld ?_ ?_
  rotate_left
  · rintro w' ⟨s0, s1, s2, s3⟩
    go_simp
    with_reducible rfl
  rotate_left
  · simp only [Act.put, List.setIfInBounds_toArray, List.set_cons_zero, List.set_cons_succ, i64_w]
    rfl
  refine take_ (i := 7) (N := some 62) (v := ?_) (a' := ?_) q15 rfl rfl (take_ofW HT_.out HW_.out (by kernel_rfl)) (fun _ _ _ h => h) (Or.inl ⟨by rfl, ?_⟩) hHeld ?_ ?_
  rotate_left
  · rintro w' ⟨s0, s1, s2, s3⟩
    go_simp
    with_reducible rfl
  rotate_left
  · simp only [Act.put, List.setIfInBounds_toArray, List.set_cons_zero, List.set_cons_succ, i64_w]
    rfl
  refine take_ (i := 11) (N := some 66) (v := ?_) (a' := ?_) q16 rfl rfl (take_ofW HT_.out HW_.out (by kernel_rfl)) (fun _ _ _ h => h) (Or.inl ⟨by rfl, ?_⟩) hHeld ?_ ?_
  rotate_left
  · rintro w' ⟨s0, s1, s2, s3⟩
    go_simp
    with_reducible rfl
  rotate_left
  · simp only [Act.put, List.setIfInBounds_toArray, List.set_cons_zero, List.set_cons_succ, i64_w]
    rfl
  refine one_ (i := 12) (N := some 67) q17 rfl rfl (one_of HT_.out (by kernel_rfl)) (by decide) (fun K hK => ?_)
  refine goes_ Try.func53 (by kernel_rfl) rfl #[.agg #[.int .i64 (2), .int .i64 (-(1 + b))], .slice (some ⟨V.heap.size + 1 + 1 + 1 + 1 + 1, 0, none⟩) 3 3, .slice (some ⟨V.heap.size + 1 + 1 + 1 + 1 + 1 + 1 + 1 + 1 + 1 + 1 + 1, 0, none⟩) 3 3] (by rfl) rfl rfl (by (try simp only [List.map_toArray, List.map_cons, List.map_nil]); first | done | rfl) ?_
  refine (GEnc.decode_Decode.calls k (2) (-(1 + b)) _ 3 [(⟨#[97]⟩ : ByteArray), (⟨#[98]⟩ : ByteArray), (⟨#[99]⟩ : ByteArray)] _ 3 [true, true, true] [] 700 W2 HM.out (Nat.le_refl _) HV.out (Nat.le_refl _) E1.out).mono ?_
  rintro e W3 ⟨v0, rfl, ho0, hb⟩
  obtain ⟨Aa, ca, rfl⟩ := Kd.R_slice ho0
  have HS0_ := (hb.cell (World.block_lt_of_cell? _ _ (hHeld.1))).trans (hHeld.1)
  have HS1_ := (hb.cell (World.block_lt_of_cell? _ _ (hHeld.2.1))).trans (hHeld.2.1)
  have HS2_ := (hb.cell (World.block_lt_of_cell? _ _ (hHeld.2.2.1))).trans (hHeld.2.2.1)
  have HS3_ := (hb.cell (World.block_lt_of_cell? _ _ (hHeld.2.2.2))).trans (hHeld.2.2.2)
  refine ⟨_, rfl, ?_⟩
  have n2_ := mk0 (below_step HBW.out hb)
  have n3_ := mk0 (blk_below O0.out hb)
  clear HM HV HBW O0 ho0 hb
  have HB := n2_
  have O0 := n3_
  clear n2_ n3_
  refine hK.out _ _ ⟨HS0_, HS1_, HS2_, HS3_⟩ (fun hHeld => ?_)
  clear hK K
  refine norm_ (a' := ?_) ?_ ?_
  rotate_left
  · show Act.put _ (some 67) _ = _
    simp only [Act.put, List.setIfInBounds_toArray, List.set_cons_zero, List.set_cons_succ, i64_w, i32_w]
    rfl
  refine pure_ (i := 13) (N := some 54) (v := ?_) (a' := ?_) q0 rfl rfl (any_of HT_.out (by kernel_rfl)) (fun _ _ _ h => h) (Or.inl ⟨by rfl, ?_⟩) ?_ ?_
  rotate_left
  · intro w'
    go_simp
    with_reducible rfl
  rotate_left
  · simp only [Act.put, List.setIfInBounds_toArray, List.set_cons_zero, List.set_cons_succ, i64_w]
    rfl
  refine pure_ (i := 14) (N := some 68) (v := ?_) (a' := ?_) q1 rfl rfl (any_of HT_.out (by kernel_rfl)) (fun _ _ _ h => h) (Or.inl ⟨by rfl, ?_⟩) ?_ ?_
  rotate_left
  · intro w'
    go_simp
    with_reducible rfl
  rotate_left
  · simp only [Act.put, List.setIfInBounds_toArray, List.set_cons_zero, List.set_cons_succ, i64_w]
    rfl
  refine pure_ (i := 15) (N := some 69) (v := ?_) (a' := ?_) q2 rfl rfl (any_of HT_.out (by kernel_rfl)) (fun _ _ _ h => h) (Or.inl ⟨by rfl, ?_⟩) ?_ ?_
  rotate_left
  · intro w'
    go_simp
    with_reducible rfl
  rotate_left
  · simp only [Act.put, List.setIfInBounds_toArray, List.set_cons_zero, List.set_cons_succ, i64_w]
    rfl
  refine pure_ (i := 16) (N := some 12) (v := ?_) (a' := ?_) q3 rfl rfl (any_of HT_.out (by kernel_rfl)) (fun _ _ _ h => h) (Or.inl ⟨by rfl, ?_⟩) ?_ ?_
  rotate_left
  · intro w'
    go_simp
    with_reducible rfl
  rotate_left
  · simp only [Act.put, List.setIfInBounds_toArray, List.set_cons_zero, List.set_cons_succ, i64_w]
    rfl
  refine pure_ (i := 17) (N := some 13) (v := ?_) (a' := ?_) q4 rfl rfl (any_of HT_.out (by kernel_rfl)) (fun _ _ _ h => h) (Or.inl ⟨by rfl, ?_⟩) ?_ ?_
  rotate_left
  · intro w'
    go_simp
    with_reducible rfl
  rotate_left
  · simp only [Act.put, List.setIfInBounds_toArray, List.set_cons_zero, List.set_cons_succ, i64_w]
    rfl
  refine done_ (done_of HT_.out (by kernel_rfl)) ?_
  clear HT_ HW_
  have hz0 : W3.cell? ⟨w1.heap.size, 0, none⟩ = some (.int .i64 2) := (blk_cell O0.out 0).trans rfl
  have hz1 : W3.cell? ⟨w1.heap.size, 1, none⟩ = some (.int .i64 1) := (blk_cell O0.out 1).trans rfl
  have hlt_ : w1.heap.size < W3.heap.size := blk_lt O0.out
  go_wp2_with (first
    | ((with_reducible refine gCa (f := 53) rfl ?_); refine goesL_ (some 74) rfl rfl Try.func53 (by kernel_rfl) rfl #[.agg #[.int .i64 2, .int .i64 1], .slice (some ⟨W3.heap.size, 0, none⟩) 3 3, .slice (some ⟨W3.heap.size + 1, 0, none⟩) 3 3] rfl (by (try simp only [List.map_toArray, List.map_cons, List.map_nil]); first | done | rfl) ?_;
       refine (GEnc.decode_Decode.calls k 2 1 _ 3 [(⟨#[97]⟩ : ByteArray), (⟨#[98, 99]⟩ : ByteArray), (⟨#[]⟩ : ByteArray)] _ 3 [true, false, false] [] 701 (t2Os.foldl World.alloc W3) (C_str _ (put_at W3 t2Os 0 (by show 0 < 2; decide)) (by decide)) (Nat.le_refl _) (C_boo _ (put_at W3 t2Os 1 (by show 1 < 2; decide)) (by decide)) (Nat.le_refl _) E2.out).mono ?_;
       rintro e W4 ⟨v1, rfl, ho1, hb⟩; obtain ⟨Ab, cb, rfl⟩ := Kd.R_slice ho1; refine ⟨_, rfl, ?_⟩; have n0_ := mk0 (below_step (lA (lA HB.out _) _) hb); clear HB ho1 hb hz0 hz1 hlt_; have HB := n0_; clear n0_)
    | (go_at_call 35; (with_reducible refine (GBase.ossuarylaw0_Num.calls 700 700 _ rfl).mono ?_); rintro e w' ⟨rfl, ⟨nd, rfl⟩⟩)
    | (go_at_call 35; (with_reducible refine (GBase.ossuarylaw0_Num.calls 701 701 _ rfl).mono ?_); rintro e w' ⟨rfl, ⟨nd2, rfl⟩⟩))
  go_ret
  exact ⟨rfl, by repeat (first | exact HB.out | apply lN | apply lA | apply lD)⟩
end Go.Proofs.Ytaahnicjjpddjaa.DecW
