/- The law of the forms that sums of rows do not have: the call's walk, by hand. -/
import Derived.Test.YthglackkhajapaaGCombineLinear2
import Derived.Test.YthglackkhajapaaCombineLinearVecLaw
import Derived.Test.YthglackkhajapaaMany
import Derived.Test.YthglackkhajapaaMany2
namespace Go.Proofs.Ythglackkhajapaa.CombF
open Go.RowKit Go.Proofs.YthglackkhajapaaW.PrintWords Go.Proofs.YthglackkhajapaaW.PrintLast Go.Proofs.YthglackkhajapaaW.PrintMore Go.Proofs.Ythglackkhajapaa.Many Go.Proofs.Ythglackkhajapaa.Fld Go.Proofs.Ythglackkhajapaa.GCombineLinear Go.Proofs.Ythglackkhajapaa.CombineLinearVec Go.Proofs.Ythglackkhajapaa
set_option linter.unusedVariables false
set_option linter.unusedSimpArgs false

theorem mk0 {p : Prop} (h : p) : Aside0 p := ⟨h⟩
theorem lA {w W : World} (h : Below w.heap.size w W) (o : Obj) : Below w.heap.size w (W.alloc o) := below_alloc h o
theorem lN {w W : World} (h : Below w.heap.size w W) (m : Nat) : Below w.heap.size w (W.drewN m) := pw_below_drewN h m
theorem lD {w W : World} (h : Below w.heap.size w W) : Below w.heap.size w W.drew := below_drew1 h
theorem combf_info3 : (Try.prog.info? 3).map (fun i => (i.zero, i.size, i.bytes)) = some (some (.int .i64 0), 1, 8) := by kernel_rfl
theorem combf_info5 : (Try.prog.info? 5).map (fun i => (i.zero, i.size, i.bytes)) = some (some (.int .u8 0), 1, 1) := by kernel_rfl
theorem combf_info9 : (Try.prog.info? 9).map (fun i => (i.zero, i.size, i.bytes)) = some (some (.string ByteArray.empty), 1, 16) := by kernel_rfl
theorem seen_ {P : Program} {c : Code} {Q : Exit → Act → World → Prop} {a : Act} {w : World} (F : World → Prop) (hF : F w) (h : ∀ W, F W → Code.wp P c Q a W) : Code.wp P c Q a w := h w hF
theorem below_all (w : World) (os : List Obj) : Below w.heap.size w (os.foldl World.alloc w) := by
  have h : ∀ (os : List Obj) (W : World), Below w.heap.size w W → Below w.heap.size w (os.foldl World.alloc W) := by
    intro os
    induction os with
    | nil => exact fun _ h => h
    | cons o os ih => exact fun W h => ih _ (lA h o)
  exact h os w (Below.refl _ _)
theorem put_at (w : World) (os : List Obj) (i : Nat) (h : i < os.length) : (os.foldl World.alloc w).heap[w.heap.size + i]? = some os[i] := by
  induction os generalizing w i with
  | nil => simp at h
  | cons o os ih =>
    cases i with
    | zero =>
      have hb := below_all (w.alloc o) os
      exact blk_below (blk_new w o) hb
    | succ i =>
      have := ih (w.alloc o) i (by simpa using h)
      rw [World.size_alloc] at this
      rw [show w.heap.size + (i + 1) = w.heap.size + 1 + i by omega]
      exact this
theorem made_rep (z : Value) (n : Nat) : madeCells #[z] n = (List.replicate n z).toArray := by
  unfold madeCells
  apply Array.ext
  · simp
  · intro i h1 h2
    have : i % 1 = 0 := Nat.mod_one i
    simp [this]
theorem cv_zero {P : Program} {w : World} {g : Nat} {src dst e : TypeId} (hs : P.underlying src = some (.slice e)) (he : P.underlying e = some (.int .u8)) (hd : P.underlying dst = some .string) (k : Nat) (hk : k ≤ maxLen) {t : TypeId} (h : w.heap[g]? = some (.cells (madeCells #[.int .u8 0] k) t (0, 0))) :
    (convert src dst (.slice (some ⟨g, 0, none⟩) k k)).run P w = .ok (.string (strOfNums (List.replicate k 0))) w := by
  refine own_string (base := 0) (e' := t) (n := k) hs he hd ⟨by simp [nums], Or.inr ⟨g, k, _, rfl, Nat.zero_le _, h, Nat.le_refl _, hk, by simp [made_rep], ?_⟩⟩
  rw [made_rep]
  simp [nums]
theorem C_strs {w : World} {g t : Nat} (xs : List ByteArray) (h : w.heap[g]? = some (.cells (xs.map Value.string).toArray t (0, 0))) (hn : xs.length ≤ 20000) : Kd.C Kd.string w (some ⟨g, 0, none⟩) xs.length xs :=
  Kd.C_of_reads (d := ByteArray.empty) ⟨rfl, by omega, fun _ => ⟨_, rfl, fun j hj => by
    have hc := blk_cell h j
    rw [show (Addr.add ⟨g, 0, none⟩ j) = ⟨g, j, none⟩ from (by simp [Addr.add]; try exact fun h => h.symm), hc, List.getElem?_toArray, List.getElem?_map, List.getElem?_eq_getElem hj, List.getD_eq_getElem?_getD, List.getElem?_eq_getElem hj]
    rfl⟩⟩
theorem C_ints {w : World} {g t : Nat} (xs : List Int) (h : w.heap[g]? = some (.cells (xs.map (Value.int .i64)).toArray t (0, 0))) (hn : xs.length ≤ 100) : Kd.C (Kd.int .i64) w (some ⟨g, 0, none⟩) xs.length xs :=
  Kd.C_of_reads (d := 0) ⟨rfl, by omega, fun _ => ⟨_, rfl, fun j hj => by
    have hc := blk_cell h j
    rw [show (Addr.add ⟨g, 0, none⟩ j) = ⟨g, j, none⟩ from (by simp [Addr.add]; try exact fun h => h.symm), hc, List.getElem?_toArray, List.getElem?_map, List.getElem?_eq_getElem hj, List.getD_eq_getElem?_getD, List.getElem?_eq_getElem hj]
    rfl⟩⟩
theorem undrew_cell {w W : World} {p : Addr} {v : Value} (h : Below w.drew.heap.size w.drew W) (hc : w.cell? p = some v) : W.cell? p = some v := ((Many2.undrew h).cell (World.block_lt_of_cell? _ _ hc)).trans hc
theorem comb_ex {W : World} {r c n1 n2 n : Int} {L : ByteArray} {gA a1 a2 a3 a4 a5 a6 gB b0 b1 b2 b3 b4 b9 : Nat} (h0 : 0 ≤ r) (h1 : r < 7) (e1 : n1 = 255 + c) (e2 : n2 = -c) (hc : 1 ≤ c ∧ c ≤ 1024) (hL : 4096 < L.size)
    (mA : W.heap[gA]? = some (.cells #[.slice none 0 0, .slice (some ⟨a1, 0, none⟩) 2 2, .slice (some ⟨a2, 0, none⟩) 1 1, .slice (some ⟨a3, 0, none⟩) 1 1, .slice (some ⟨a4, 0, none⟩) 2 2, .slice (some ⟨a5, 0, none⟩) 13 13, .slice (some ⟨a6, 0, none⟩) 1 1] 38 (0, 0)))
    (m1 : W.heap[a1]? = some (.cells #[.int .i64 1, .int .i64 2] 3 (0, 0))) (m2 : W.heap[a2]? = some (.cells #[.int .i64 n1] 3 (0, 0))) (m3 : W.heap[a3]? = some (.cells #[.int .i64 n2] 3 (0, 0))) (m4 : W.heap[a4]? = some (.cells #[.int .i64 1, .int .i64 1] 3 (0, 0))) (m5 : W.heap[a5]? = some (.cells (madeCells #[.int .i64 0] 13) 3 (0, 0))) (m6 : W.heap[a6]? = some (.cells #[.int .i64 1] 3 (0, 0)))
    (mB : W.heap[gB]? = some (.cells #[.slice none 0 0, .slice (some ⟨b0, 0, none⟩) 1 1, .slice (some ⟨b1, 0, none⟩) 1 1, .slice (some ⟨b2, 0, none⟩) 1 1, .slice (some ⟨b3, 0, none⟩) 2 2, .slice (some ⟨b4, 0, none⟩) 13 13, .slice (some ⟨b9, 0, none⟩) 1 1] 39 (0, 0)))
    (k0 : W.heap[b0]? = some (.cells #[.string (⟨#[97]⟩ : ByteArray)] 9 (0, 0))) (k1 : W.heap[b1]? = some (.cells #[.string (⟨#[97]⟩ : ByteArray)] 9 (0, 0))) (k2 : W.heap[b2]? = some (.cells #[.string (⟨#[97]⟩ : ByteArray)] 9 (0, 0))) (k3 : W.heap[b3]? = some (.cells #[.string (⟨#[97]⟩ : ByteArray), .string (⟨#[97, 98]⟩ : ByteArray)] 9 (0, 0))) (k4 : W.heap[b4]? = some (.cells (madeCells #[.string ByteArray.empty] 13) 9 (0, 0))) (k9 : W.heap[b9]? = some (.cells #[.string L] 9 (0, 0))) :
    ∃ Ax nx Ay ny, W.cell? ⟨gA, r.toNat, none⟩ = some (.slice Ax (nx : List Int).length nx.length) ∧ W.cell? ⟨gB, r.toNat, none⟩ = some (.slice Ay (ny : List ByteArray).length ny.length) ∧ Kd.C (Kd.int .i64) W Ax nx.length nx ∧ Kd.C Kd.string W Ay ny.length ny ∧ combine nx ny = (noStr, 200) ∧ ny.length ≤ 13 := by
  rw [made_rep] at m5 k4
  obtain rfl | rfl | rfl | rfl | rfl | rfl | rfl : r = 0 ∨ r = 1 ∨ r = 2 ∨ r = 3 ∨ r = 4 ∨ r = 5 ∨ r = 6 := by omega
  · exact ⟨none, [], none, [], blk_cell mA 0, blk_cell mB 0, Kd.C_nil _ _, Kd.C_nil _ _, rfl, by simp⟩
  · exact ⟨_, [1, 2], _, [⟨#[97]⟩], blk_cell mA 1, blk_cell mB 1, C_ints [1, 2] m1 (by simp), C_strs [⟨#[97]⟩] k0 (by simp), by decide +kernel, by simp⟩
  · exact ⟨_, [n1], _, [⟨#[97]⟩], blk_cell mA 2, blk_cell mB 2, C_ints [n1] m2 (by simp), C_strs [⟨#[97]⟩] k1 (by simp), by
      unfold combine
      rw [if_neg (fun h => by have h5 := h.2.2.2.2; rw [okV_cons_no (by omega)] at h5; cases h5)], by simp⟩
  · exact ⟨_, [n2], _, [⟨#[97]⟩], blk_cell mA 3, blk_cell mB 3, C_ints [n2] m3 (by simp), C_strs [⟨#[97]⟩] k2 (by simp), by
      unfold combine
      rw [if_neg (fun h => by have h5 := h.2.2.2.2; rw [okV_cons_no (by omega)] at h5; cases h5)], by simp⟩
  · exact ⟨_, [1, 1], _, [⟨#[97]⟩, ⟨#[97, 98]⟩], blk_cell mA 4, blk_cell mB 4, C_ints [1, 1] m4 (by simp), C_strs [⟨#[97]⟩, ⟨#[97, 98]⟩] k3 (by simp), by decide +kernel, by simp⟩
  · exact ⟨_, List.replicate 13 0, _, List.replicate 13 ByteArray.empty, by simpa using blk_cell mA 5, by simpa using blk_cell mB 5, C_ints (List.replicate 13 0) (by simpa using m5) (by simp), C_strs (List.replicate 13 ByteArray.empty) (by simpa using k4) (by simp), by
      unfold combine
      rw [if_neg (fun h => by have h5 := h.2.1; simp at h5)], by simp⟩
  · exact ⟨_, [1], _, [L], blk_cell mA 6, blk_cell mB 6, C_ints [1] m6 (by simp), C_strs [L] k9 (by simp), by
      unfold combine
      rw [if_neg (fun h => by have h5 := (alikeB_size h.2.2.2.1 L List.mem_cons_self).2; omega)], by simp⟩
def combf_sp (c n : Int) (L : ByteArray) : Array Sp := #[Sp.blk [] (1) (fun vs => .cells #[.string (⟨#[97]⟩ : ByteArray)] 9 (0, 0)),
  Sp.blk [] (1) (fun vs => .cells #[.string (⟨#[97]⟩ : ByteArray)] 9 (0, 0)),
  Sp.blk [] (1) (fun vs => .cells #[.string (⟨#[97]⟩ : ByteArray)] 9 (0, 0)),
  Sp.blk [] (2) (fun vs => .cells #[.string (⟨#[97]⟩ : ByteArray), .string (⟨#[97, 98]⟩ : ByteArray)] 9 (0, 0)),
  Sp.blk [] (13) (fun vs => .cells (madeCells #[.string ByteArray.empty] 13) 9 (0, 0)),
  Sp.eq [] (fun vs => .int .i64 c),
  Sp.eq [5] (fun vs => .int .i64 n),
  Sp.blk [6] (n.toNat) (fun vs => .cells (madeCells #[.int .u8 0] n.toNat) 5 (0, 0)),
  Sp.eq [7] (fun vs => .string L),
  Sp.blk [8] (1) (fun vs => .cells #[.string L] 9 (0, 0)),
  Sp.blk [0, 1, 2, 3, 4, 9] (7) (fun vs => .cells #[.slice none 0 0, vs.getD 0 undef, vs.getD 1 undef, vs.getD 2 undef, vs.getD 3 undef, vs.getD 4 undef, vs.getD 5 undef] 39 (0, 0)),
  Sp.eq [10] (fun vs => vs.getD 0 undef)]
def combf_D : Array (List Nat) := #[[], [], [], [], [], [], [5], [6], [7], [8], [0, 1, 2, 3, 4, 9], [10]]
def combf_L : List Tmp := [29, 30, 31, 32, 33, 34, 35, 36, 37, 38, 39, 7]
def combf7_sp (gA gB : Nat) (r : Int) (Ax Ay : Option Addr) (nx : List Int) (ny : List ByteArray) : Array (Many2.Sp 0) := #[Many2.Sp.eq [] (fun vs => .slice (some ⟨gA, 0, none⟩) 7 7),
  Many2.Sp.eq [] (fun vs => .int .i64 r),
  Many2.Sp.eq [0, 1] (fun vs => .pointer (some ⟨gA, r.toNat, none⟩)),
  Many2.Sp.eq [2] (fun vs => .slice Ax nx.length nx.length),
  Many2.Sp.eq [] (fun vs => .slice (some ⟨gB, 0, none⟩) 7 7),
  Many2.Sp.eq [] (fun vs => .int .i64 r),
  Many2.Sp.eq [4, 5] (fun vs => .pointer (some ⟨gB, r.toNat, none⟩)),
  Many2.Sp.eq [6] (fun vs => .slice Ay ny.length ny.length),
  Many2.Sp.eq [3, 7] (fun vs => .tuple #[.string (⟨#[]⟩ : ByteArray), .int .i64 200]),
  Many2.Sp.eq [8] (fun vs => vs.getD 0 undef),
  Many2.Sp.eq [9, 8] (fun vs => .string (⟨#[]⟩ : ByteArray)),
  Many2.Sp.eq [9, 8] (fun vs => .int .i64 200),
  Many2.Sp.eq [10] (fun vs => vs.getD 0 undef),
  Many2.Sp.eq [11] (fun vs => vs.getD 0 undef)]
def combf7_D : Array (List Nat) := #[[], [], [0, 1], [2], [], [], [4, 5], [6], [3, 7], [8], [9, 8], [9, 8], [10], [11]]
def combf7_L : List (Option Tmp) := [some 45, some 46, some 47, some 48, some 49, some 50, some 51, some 52, some 53, some 44, some 54, some 55, some 9, some 10]
def combf8_sp : Array (Many2.Sp 0) := #[Many2.Sp.blk [] 12 (fun _ => madeCells #[.int .i64 0] 12) 3 (by decide), Many2.Sp.blk [] 12 (fun _ => madeCells #[.string ByteArray.empty] 12) 9 (by decide), Many2.Sp.eq [0, 1] (fun _ => .tuple #[.string (⟨#[]⟩ : ByteArray), .int .i64 0]), Many2.Sp.eq [2] (fun vs => vs.getD 0 undef), Many2.Sp.eq [3, 2] (fun _ => .string (⟨#[]⟩ : ByteArray)), Many2.Sp.eq [3, 2] (fun _ => .int .i64 0), Many2.Sp.eq [4] (fun vs => vs.getD 0 undef), Many2.Sp.eq [5] (fun vs => vs.getD 0 undef)]
def combf8_D : Array (List Nat) := #[[], [], [0, 1], [2], [3, 2], [3, 2], [4], [5]]
def combf8_L : List (Option Tmp) := [some 57, some 58, some 59, some 56, some 60, some 61, some 11, some 12]
set_option maxHeartbeats 8000000 in
set_option maxRecDepth 100000 in
theorem walk (k : Nat) (r a0 a1 b c n n1 n2 : Int) (L : ByteArray) (w : World) (h5 : ossuarylaw2_awake.f k = some true) (hb : Go.bits .and .i64 a1 1023 = b) (hk : wrap64 (Int.tmod (IntKind.u64.wrap a0) 7) = r) (hr : 0 ≤ r ∧ r < 7) (hc : wrap64 (1 + b) = c) (hn : wrap64 (4096 + c) = n) (hn1 : wrap64 (255 + c) = n1) (hn2 : wrap64 (-c) = n2) (e1 : n1 = 255 + c) (e2 : n2 = -c) (hcr : 1 ≤ c ∧ c ≤ 1024) (hkk : 60000 < k)
    (hn0 : 0 ≤ n) (hn9 : n ≤ 10000) (hL : strOfNums (List.replicate n.toNat 0) = L) (hLs : 4096 < L.size) :
    Calls Try.prog 10 #[.int .i64 a0, .int .i64 a1] w fun e w' => e = .returned (.bool true) ∧ Below w.heap.size w w' := by
  have A5 := mk0 h5
  have HB := mk0 (Below.refl w.heap.size w)
  have hmk : ∀ W : World, (Instr.makeSlice 38 (.int .i64 13) (.int .i64 13)).run Try.prog W = .ok (.slice (some ⟨W.heap.size, 0, none⟩) 13 13) (W.alloc (.cells (madeCells #[.int .i64 0] 13) 3)) := fun W => by
    obtain ⟨i3_, hi_, hz_, hs_, hy_⟩ := info_parts combf_info3
    have hk_ := run_make (P := Try.prog) W 38 3 i3_ (.int .i64 0) Try.underlying38 hi_ hz_ .i64 .i64 13 13 (by omega) (Int.le_refl _) (by rw [hy_]; omega) (by omega)
    rw [hs_, Nat.mul_one] at hk_
    exact hk_
  have E1_ := mk0 e1
  have E2_ := mk0 e2
  have HCR := mk0 hcr
  clear h5 e1 e2 hcr
  go_enter Try.func10, Try.ntmps10
  go_wp2_with (first
    | ((with_reducible refine gate_callee (f := 38) rfl ?_); refine goesL_ (some 13) rfl rfl Try.func38 (by kernel_rfl) rfl #[] rfl (by (try simp only [List.map_toArray, List.map_nil]); first | done | rfl) ?_; (with_reducible refine (ossuarylaw2_awake.calls k true _ A5.out).mono ?_); rintro e w1 ⟨rfl, hb⟩; refine ⟨_, rfl, ?_⟩; have n0_ := mk0 (below_step HB.out hb); clear HB; have HB := n0_; clear n0_ hb))
  clear hmk
  refine seen_ (F := fun W => Below w1.heap.size w1 W ∧ W.heap[w1.heap.size]? = some (.cells #[.int .i64 1, .int .i64 2] 3 (0, 0)) ∧ W.heap[w1.heap.size + 1]? = some (.cells #[.int .i64 n1] 3 (0, 0)) ∧ W.heap[w1.heap.size + 1 + 1]? = some (.cells #[.int .i64 n2] 3 (0, 0)) ∧ W.heap[w1.heap.size + 1 + 1 + 1]? = some (.cells #[.int .i64 1, .int .i64 1] 3 (0, 0)) ∧ W.heap[w1.heap.size + 1 + 1 + 1 + 1]? = some (.cells (madeCells #[.int .i64 0] 13) 3 (0, 0)) ∧ W.heap[w1.heap.size + 1 + 1 + 1 + 1 + 1]? = some (.cells #[.int .i64 1] 3 (0, 0)) ∧ W.heap[w1.heap.size + 1 + 1 + 1 + 1 + 1 + 1]? = some (.cells #[.slice none 0 0, .slice (some ⟨w1.heap.size, 0, none⟩) 2 2, .slice (some ⟨w1.heap.size + 1, 0, none⟩) 1 1, .slice (some ⟨w1.heap.size + 1 + 1, 0, none⟩) 1 1, .slice (some ⟨w1.heap.size + 1 + 1 + 1, 0, none⟩) 2 2, .slice (some ⟨w1.heap.size + 1 + 1 + 1 + 1, 0, none⟩) 13 13, .slice (some ⟨w1.heap.size + 1 + 1 + 1 + 1 + 1, 0, none⟩) 1 1] 38 (0, 0))) ?_ (fun W0 hW0 => ?_)
  · exact ⟨below_all w1 [.cells #[.int .i64 1, .int .i64 2] 3 (0, 0), .cells #[.int .i64 n1] 3 (0, 0), .cells #[.int .i64 n2] 3 (0, 0), .cells #[.int .i64 1, .int .i64 1] 3 (0, 0), .cells (madeCells #[.int .i64 0] 13) 3 (0, 0), .cells #[.int .i64 1] 3 (0, 0), .cells #[.slice none 0 0, .slice (some ⟨w1.heap.size, 0, none⟩) 2 2, .slice (some ⟨w1.heap.size + 1, 0, none⟩) 1 1, .slice (some ⟨w1.heap.size + 1 + 1, 0, none⟩) 1 1, .slice (some ⟨w1.heap.size + 1 + 1 + 1, 0, none⟩) 2 2, .slice (some ⟨w1.heap.size + 1 + 1 + 1 + 1, 0, none⟩) 13 13, .slice (some ⟨w1.heap.size + 1 + 1 + 1 + 1 + 1, 0, none⟩) 1 1] 38 (0, 0)], put_at w1 [.cells #[.int .i64 1, .int .i64 2] 3 (0, 0), .cells #[.int .i64 n1] 3 (0, 0), .cells #[.int .i64 n2] 3 (0, 0), .cells #[.int .i64 1, .int .i64 1] 3 (0, 0), .cells (madeCells #[.int .i64 0] 13) 3 (0, 0), .cells #[.int .i64 1] 3 (0, 0), .cells #[.slice none 0 0, .slice (some ⟨w1.heap.size, 0, none⟩) 2 2, .slice (some ⟨w1.heap.size + 1, 0, none⟩) 1 1, .slice (some ⟨w1.heap.size + 1 + 1, 0, none⟩) 1 1, .slice (some ⟨w1.heap.size + 1 + 1 + 1, 0, none⟩) 2 2, .slice (some ⟨w1.heap.size + 1 + 1 + 1 + 1, 0, none⟩) 13 13, .slice (some ⟨w1.heap.size + 1 + 1 + 1 + 1 + 1, 0, none⟩) 1 1] 38 (0, 0)] 0 (by show 0 < 7; decide), put_at w1 [.cells #[.int .i64 1, .int .i64 2] 3 (0, 0), .cells #[.int .i64 n1] 3 (0, 0), .cells #[.int .i64 n2] 3 (0, 0), .cells #[.int .i64 1, .int .i64 1] 3 (0, 0), .cells (madeCells #[.int .i64 0] 13) 3 (0, 0), .cells #[.int .i64 1] 3 (0, 0), .cells #[.slice none 0 0, .slice (some ⟨w1.heap.size, 0, none⟩) 2 2, .slice (some ⟨w1.heap.size + 1, 0, none⟩) 1 1, .slice (some ⟨w1.heap.size + 1 + 1, 0, none⟩) 1 1, .slice (some ⟨w1.heap.size + 1 + 1 + 1, 0, none⟩) 2 2, .slice (some ⟨w1.heap.size + 1 + 1 + 1 + 1, 0, none⟩) 13 13, .slice (some ⟨w1.heap.size + 1 + 1 + 1 + 1 + 1, 0, none⟩) 1 1] 38 (0, 0)] 1 (by show 1 < 7; decide), put_at w1 [.cells #[.int .i64 1, .int .i64 2] 3 (0, 0), .cells #[.int .i64 n1] 3 (0, 0), .cells #[.int .i64 n2] 3 (0, 0), .cells #[.int .i64 1, .int .i64 1] 3 (0, 0), .cells (madeCells #[.int .i64 0] 13) 3 (0, 0), .cells #[.int .i64 1] 3 (0, 0), .cells #[.slice none 0 0, .slice (some ⟨w1.heap.size, 0, none⟩) 2 2, .slice (some ⟨w1.heap.size + 1, 0, none⟩) 1 1, .slice (some ⟨w1.heap.size + 1 + 1, 0, none⟩) 1 1, .slice (some ⟨w1.heap.size + 1 + 1 + 1, 0, none⟩) 2 2, .slice (some ⟨w1.heap.size + 1 + 1 + 1 + 1, 0, none⟩) 13 13, .slice (some ⟨w1.heap.size + 1 + 1 + 1 + 1 + 1, 0, none⟩) 1 1] 38 (0, 0)] 2 (by show 2 < 7; decide), put_at w1 [.cells #[.int .i64 1, .int .i64 2] 3 (0, 0), .cells #[.int .i64 n1] 3 (0, 0), .cells #[.int .i64 n2] 3 (0, 0), .cells #[.int .i64 1, .int .i64 1] 3 (0, 0), .cells (madeCells #[.int .i64 0] 13) 3 (0, 0), .cells #[.int .i64 1] 3 (0, 0), .cells #[.slice none 0 0, .slice (some ⟨w1.heap.size, 0, none⟩) 2 2, .slice (some ⟨w1.heap.size + 1, 0, none⟩) 1 1, .slice (some ⟨w1.heap.size + 1 + 1, 0, none⟩) 1 1, .slice (some ⟨w1.heap.size + 1 + 1 + 1, 0, none⟩) 2 2, .slice (some ⟨w1.heap.size + 1 + 1 + 1 + 1, 0, none⟩) 13 13, .slice (some ⟨w1.heap.size + 1 + 1 + 1 + 1 + 1, 0, none⟩) 1 1] 38 (0, 0)] 3 (by show 3 < 7; decide), put_at w1 [.cells #[.int .i64 1, .int .i64 2] 3 (0, 0), .cells #[.int .i64 n1] 3 (0, 0), .cells #[.int .i64 n2] 3 (0, 0), .cells #[.int .i64 1, .int .i64 1] 3 (0, 0), .cells (madeCells #[.int .i64 0] 13) 3 (0, 0), .cells #[.int .i64 1] 3 (0, 0), .cells #[.slice none 0 0, .slice (some ⟨w1.heap.size, 0, none⟩) 2 2, .slice (some ⟨w1.heap.size + 1, 0, none⟩) 1 1, .slice (some ⟨w1.heap.size + 1 + 1, 0, none⟩) 1 1, .slice (some ⟨w1.heap.size + 1 + 1 + 1, 0, none⟩) 2 2, .slice (some ⟨w1.heap.size + 1 + 1 + 1 + 1, 0, none⟩) 13 13, .slice (some ⟨w1.heap.size + 1 + 1 + 1 + 1 + 1, 0, none⟩) 1 1] 38 (0, 0)] 4 (by show 4 < 7; decide), put_at w1 [.cells #[.int .i64 1, .int .i64 2] 3 (0, 0), .cells #[.int .i64 n1] 3 (0, 0), .cells #[.int .i64 n2] 3 (0, 0), .cells #[.int .i64 1, .int .i64 1] 3 (0, 0), .cells (madeCells #[.int .i64 0] 13) 3 (0, 0), .cells #[.int .i64 1] 3 (0, 0), .cells #[.slice none 0 0, .slice (some ⟨w1.heap.size, 0, none⟩) 2 2, .slice (some ⟨w1.heap.size + 1, 0, none⟩) 1 1, .slice (some ⟨w1.heap.size + 1 + 1, 0, none⟩) 1 1, .slice (some ⟨w1.heap.size + 1 + 1 + 1, 0, none⟩) 2 2, .slice (some ⟨w1.heap.size + 1 + 1 + 1 + 1, 0, none⟩) 13 13, .slice (some ⟨w1.heap.size + 1 + 1 + 1 + 1 + 1, 0, none⟩) 1 1] 38 (0, 0)] 5 (by show 5 < 7; decide), put_at w1 [.cells #[.int .i64 1, .int .i64 2] 3 (0, 0), .cells #[.int .i64 n1] 3 (0, 0), .cells #[.int .i64 n2] 3 (0, 0), .cells #[.int .i64 1, .int .i64 1] 3 (0, 0), .cells (madeCells #[.int .i64 0] 13) 3 (0, 0), .cells #[.int .i64 1] 3 (0, 0), .cells #[.slice none 0 0, .slice (some ⟨w1.heap.size, 0, none⟩) 2 2, .slice (some ⟨w1.heap.size + 1, 0, none⟩) 1 1, .slice (some ⟨w1.heap.size + 1 + 1, 0, none⟩) 1 1, .slice (some ⟨w1.heap.size + 1 + 1 + 1, 0, none⟩) 2 2, .slice (some ⟨w1.heap.size + 1 + 1 + 1 + 1, 0, none⟩) 13 13, .slice (some ⟨w1.heap.size + 1 + 1 + 1 + 1 + 1, 0, none⟩) 1 1] 38 (0, 0)] 6 (by show 6 < 7; decide)⟩
  obtain ⟨z, z0, z1, z2, z3, z4, z5, z6⟩ := hW0
  have Z := mk0 z
  have Z0 := mk0 z0
  have Z1 := mk0 z1
  have Z2 := mk0 z2
  have Z3 := mk0 z3
  have Z4 := mk0 z4
  have Z5 := mk0 z5
  have Z6 := mk0 z6
  clear z z0 z1 z2 z3 z4 z5 z6
  refine many_ (combf_sp c n L) combf_D combf_L 12 ?tm (by kernel_rfl) rfl rfl (by kernel_rfl) (by kernel_rfl) ?hf ?hstep ?hend
  case hf => intro val; simp only [combf_L, fillL, List.setIfInBounds_toArray, List.set_cons_zero, List.set_cons_succ, Nat.reduceAdd]; rfl
  case hstep =>
    refine all_succ ?_ ?s11
    refine all_succ ?_ ?s10
    refine all_succ ?_ ?s9
    refine all_succ ?_ ?s8
    refine all_succ ?_ ?s7
    refine all_succ ?_ ?s6
    refine all_succ ?_ ?s5
    refine all_succ ?_ ?s4
    refine all_succ ?_ ?s3
    refine all_succ ?_ ?s2
    refine all_succ ?_ ?s1
    refine all_succ ?_ ?s0
    exact all_zero
    case s0 =>
      refine stepAt_of rfl rfl rfl rfl (fun val w' hB h => ?_)
      refine does_value (v := ?_) (w1 := ?_) ?_ ?_
      rotate_left 2
      · go_simp
        first | (with_reducible rfl) | (constructor; (· rfl); (· rfl)) | rfl
      refine ⟨lA (Below.refl _ _) _, _, rfl, (blk_new _ _).trans ?_⟩
      first
        | rfl
        | (show some _ = some ((fun vs : List Value => (.cells #[.string (⟨#[97]⟩ : ByteArray)] 9 (0, 0) : Obj)) ([].map val)); simp only [List.map_cons, List.map_nil, List.getD_cons_zero, List.getD_cons_succ, i64_w, hn]; done)
        | (show some _ = some ((fun vs : List Value => (.cells #[.string (⟨#[97]⟩ : ByteArray)] 9 (0, 0) : Obj)) ([].map val)); simp only [List.map_cons, List.map_nil, List.getD_cons_zero, List.getD_cons_succ, i64_w, hn]; rfl)
    case s1 =>
      refine stepAt_of rfl rfl rfl rfl (fun val w' hB h => ?_)
      refine does_value (v := ?_) (w1 := ?_) ?_ ?_
      rotate_left 2
      · go_simp
        first | (with_reducible rfl) | (constructor; (· rfl); (· rfl)) | rfl
      refine ⟨lA (Below.refl _ _) _, _, rfl, (blk_new _ _).trans ?_⟩
      first
        | rfl
        | (show some _ = some ((fun vs : List Value => (.cells #[.string (⟨#[97]⟩ : ByteArray)] 9 (0, 0) : Obj)) ([].map val)); simp only [List.map_cons, List.map_nil, List.getD_cons_zero, List.getD_cons_succ, i64_w, hn]; done)
        | (show some _ = some ((fun vs : List Value => (.cells #[.string (⟨#[97]⟩ : ByteArray)] 9 (0, 0) : Obj)) ([].map val)); simp only [List.map_cons, List.map_nil, List.getD_cons_zero, List.getD_cons_succ, i64_w, hn]; rfl)
    case s2 =>
      refine stepAt_of rfl rfl rfl rfl (fun val w' hB h => ?_)
      refine does_value (v := ?_) (w1 := ?_) ?_ ?_
      rotate_left 2
      · go_simp
        first | (with_reducible rfl) | (constructor; (· rfl); (· rfl)) | rfl
      refine ⟨lA (Below.refl _ _) _, _, rfl, (blk_new _ _).trans ?_⟩
      first
        | rfl
        | (show some _ = some ((fun vs : List Value => (.cells #[.string (⟨#[97]⟩ : ByteArray)] 9 (0, 0) : Obj)) ([].map val)); simp only [List.map_cons, List.map_nil, List.getD_cons_zero, List.getD_cons_succ, i64_w, hn]; done)
        | (show some _ = some ((fun vs : List Value => (.cells #[.string (⟨#[97]⟩ : ByteArray)] 9 (0, 0) : Obj)) ([].map val)); simp only [List.map_cons, List.map_nil, List.getD_cons_zero, List.getD_cons_succ, i64_w, hn]; rfl)
    case s3 =>
      refine stepAt_of rfl rfl rfl rfl (fun val w' hB h => ?_)
      refine does_value (v := ?_) (w1 := ?_) ?_ ?_
      rotate_left 2
      · go_simp
        first | (with_reducible rfl) | (constructor; (· rfl); (· rfl)) | rfl
      refine ⟨lA (Below.refl _ _) _, _, rfl, (blk_new _ _).trans ?_⟩
      first
        | rfl
        | (show some _ = some ((fun vs : List Value => (.cells #[.string (⟨#[97]⟩ : ByteArray), .string (⟨#[97, 98]⟩ : ByteArray)] 9 (0, 0) : Obj)) ([].map val)); simp only [List.map_cons, List.map_nil, List.getD_cons_zero, List.getD_cons_succ, i64_w, hn]; done)
        | (show some _ = some ((fun vs : List Value => (.cells #[.string (⟨#[97]⟩ : ByteArray), .string (⟨#[97, 98]⟩ : ByteArray)] 9 (0, 0) : Obj)) ([].map val)); simp only [List.map_cons, List.map_nil, List.getD_cons_zero, List.getD_cons_succ, i64_w, hn]; rfl)
    case s4 =>
      refine stepAt_of rfl rfl rfl rfl (fun val w' hB h => ?_)
      obtain ⟨i9_, hi_, hz_, hs_, hy_⟩ := info_parts combf_info9
      have hk_ := run_make (P := Try.prog) w' 39 9 i9_ (.string ByteArray.empty) Try.underlying39 hi_ hz_ .i64 .i64 13 13 (by omega) (Int.le_refl _) (by rw [hy_]; omega) (by omega)
      rw [hs_, Nat.mul_one] at hk_
      refine does_value (v := ?_) (w1 := ?_) ?_ ?_
      rotate_left 2
      · go_simp
        constructor <;> rfl
      exact ⟨lA (Below.refl _ _) _, _, rfl, blk_new _ _⟩
    case s5 =>
      refine stepAt_of rfl rfl rfl rfl (fun val w' hB h => ?_)
      refine does_value (v := ?_) (w1 := ?_) ?_ ?_
      rotate_left 2
      · go_simp
        first | (with_reducible rfl) | (constructor; (· rfl); (· rfl)) | rfl
      refine ⟨Below.refl _ _, ?_⟩
      first
        | rfl
        | (show _ = (fun vs : List Value => (.int .i64 c : Value)) ([].map val); simp only [List.map_cons, List.map_nil, List.getD_cons_zero, List.getD_cons_succ, i64_w, hn]; done)
        | (show _ = (fun vs : List Value => (.int .i64 c : Value)) ([].map val); simp only [List.map_cons, List.map_nil, List.getD_cons_zero, List.getD_cons_succ, i64_w, hn]; rfl)
    case s6 =>
      refine stepAt_of rfl rfl rfl rfl (fun val w' hB h => ?_)
      have q5 : val 5 = (fun vs : List Value => .int .i64 c) ([].map val) := h 5 (by decide) _ rfl
      simp only [List.map_cons, List.map_nil] at q5
      refine does_value (v := ?_) (w1 := ?_) ?_ ?_
      rotate_left 2
      · go_simp
        first | (with_reducible rfl) | (constructor; (· rfl); (· rfl)) | rfl
      refine ⟨Below.refl _ _, ?_⟩
      first
        | rfl
        | (show _ = (fun vs : List Value => (.int .i64 n : Value)) ([5].map val); simp only [List.map_cons, List.map_nil, List.getD_cons_zero, List.getD_cons_succ, i64_w, q5, hn]; done)
        | (show _ = (fun vs : List Value => (.int .i64 n : Value)) ([5].map val); simp only [List.map_cons, List.map_nil, List.getD_cons_zero, List.getD_cons_succ, i64_w, q5, hn]; rfl)
    case s7 =>
      refine stepAt_of rfl rfl rfl rfl (fun val w' hB h => ?_)
      obtain ⟨i5_, hi_, hz_, hs_, hy_⟩ := info_parts combf_info5
      have q6 : val 6 = (fun vs : List Value => (.int .i64 n : Value)) ([5].map val) := h 6 (by decide) _ rfl
      simp only [List.map_cons, List.map_nil] at q6
      have hk_ := run_make (P := Try.prog) w' 50 5 i5_ (.int .u8 0) Try.underlying50 hi_ hz_ .i64 .i64 n n (by omega) (Int.le_refl _) (by rw [hy_]; omega) (by omega)
      rw [hs_, Nat.mul_one] at hk_
      refine does_value (v := ?_) (w1 := ?_) ?_ ?_
      rotate_left 2
      · go_simp
        constructor <;> rfl
      exact ⟨lA (Below.refl _ _) _, _, rfl, blk_new _ _⟩
    case s8 =>
      refine stepAt_of rfl rfl rfl rfl (fun val w' hB h => ?_)
      obtain ⟨g7, q7, m7⟩ := h 7 (by decide) _ rfl
      have hcv := cv_zero (P := Try.prog) Try.underlying50 Try.underlying5 Try.underlying9 n.toNat (by simp [maxLen]; omega) m7
      rw [hL] at hcv
      refine does_value (v := ?_) (w1 := ?_) ?_ ?_
      rotate_left 2
      · go_simp
        constructor <;> rfl
      exact ⟨Below.refl _ _, rfl⟩
    case s9 =>
      refine stepAt_of rfl rfl rfl rfl (fun val w' hB h => ?_)
      have q8 : val 8 = (fun vs : List Value => .string L) ([7].map val) := h 8 (by decide) _ rfl
      simp only [List.map_cons, List.map_nil] at q8
      refine does_value (v := ?_) (w1 := ?_) ?_ ?_
      rotate_left 2
      · go_simp
        first | (with_reducible rfl) | (constructor; (· rfl); (· rfl)) | rfl
      refine ⟨lA (Below.refl _ _) _, _, rfl, (blk_new _ _).trans ?_⟩
      first
        | rfl
        | (show some _ = some ((fun vs : List Value => (.cells #[.string L] 9 (0, 0) : Obj)) ([8].map val)); simp only [List.map_cons, List.map_nil, List.getD_cons_zero, List.getD_cons_succ, i64_w, q8, hn]; done)
        | (show some _ = some ((fun vs : List Value => (.cells #[.string L] 9 (0, 0) : Obj)) ([8].map val)); simp only [List.map_cons, List.map_nil, List.getD_cons_zero, List.getD_cons_succ, i64_w, q8, hn]; rfl)
    case s10 =>
      refine stepAt_of rfl rfl rfl rfl (fun val w' hB h => ?_)
      obtain ⟨g0, q0, _⟩ := h 0 (by decide) _ rfl
      obtain ⟨g1, q1, _⟩ := h 1 (by decide) _ rfl
      obtain ⟨g2, q2, _⟩ := h 2 (by decide) _ rfl
      obtain ⟨g3, q3, _⟩ := h 3 (by decide) _ rfl
      obtain ⟨g4, q4, _⟩ := h 4 (by decide) _ rfl
      obtain ⟨g9, q9, _⟩ := h 9 (by decide) _ rfl
      refine does_value (v := ?_) (w1 := ?_) ?_ ?_
      rotate_left 2
      · go_simp
        first | (with_reducible rfl) | (constructor; (· rfl); (· rfl)) | rfl
      refine ⟨lA (Below.refl _ _) _, _, rfl, (blk_new _ _).trans ?_⟩
      first
        | rfl
        | (show some _ = some ((fun vs : List Value => (.cells #[.slice none 0 0, vs.getD 0 undef, vs.getD 1 undef, vs.getD 2 undef, vs.getD 3 undef, vs.getD 4 undef, vs.getD 5 undef] 39 (0, 0) : Obj)) ([0, 1, 2, 3, 4, 9].map val)); simp only [List.map_cons, List.map_nil, List.getD_cons_zero, List.getD_cons_succ, i64_w, q0, q1, q2, q3, q4, q9, hn]; done)
        | (show some _ = some ((fun vs : List Value => (.cells #[.slice none 0 0, vs.getD 0 undef, vs.getD 1 undef, vs.getD 2 undef, vs.getD 3 undef, vs.getD 4 undef, vs.getD 5 undef] 39 (0, 0) : Obj)) ([0, 1, 2, 3, 4, 9].map val)); simp only [List.map_cons, List.map_nil, List.getD_cons_zero, List.getD_cons_succ, i64_w, q0, q1, q2, q3, q4, q9, hn]; rfl)
    case s11 =>
      refine stepAt_of rfl rfl rfl rfl (fun val w' hB h => ?_)
      obtain ⟨g10, q10, _⟩ := h 10 (by decide) _ rfl
      refine does_value (v := ?_) (w1 := ?_) ?_ ?_
      rotate_left 2
      · go_simp
        first | (with_reducible rfl) | (constructor; (· rfl); (· rfl)) | rfl
      refine ⟨Below.refl _ _, ?_⟩
      first
        | rfl
        | (show _ = (fun vs : List Value => (vs.getD 0 undef : Value)) ([10].map val); simp only [List.map_cons, List.map_nil, List.getD_cons_zero, List.getD_cons_succ, i64_w, q10, hn]; done)
        | (show _ = (fun vs : List Value => (vs.getD 0 undef : Value)) ([10].map val); simp only [List.map_cons, List.map_nil, List.getD_cons_zero, List.getD_cons_succ, i64_w, q10, hn]; rfl)
  case hend =>
    intro val W hB h
    obtain ⟨b0, q0, k0⟩ := (show ∃ g, val 0 = .slice (some ⟨g, 0, none⟩) 1 1 ∧ W.heap[g]? = some (.cells #[.string (⟨#[97]⟩ : ByteArray)] 9 (0, 0)) from h 0 (by decide) _ rfl)
    obtain ⟨b1, q1, k1⟩ := (show ∃ g, val 1 = .slice (some ⟨g, 0, none⟩) 1 1 ∧ W.heap[g]? = some (.cells #[.string (⟨#[97]⟩ : ByteArray)] 9 (0, 0)) from h 1 (by decide) _ rfl)
    obtain ⟨b2, q2, k2⟩ := (show ∃ g, val 2 = .slice (some ⟨g, 0, none⟩) 1 1 ∧ W.heap[g]? = some (.cells #[.string (⟨#[97]⟩ : ByteArray)] 9 (0, 0)) from h 2 (by decide) _ rfl)
    obtain ⟨b3, q3, k3⟩ := (show ∃ g, val 3 = .slice (some ⟨g, 0, none⟩) 2 2 ∧ W.heap[g]? = some (.cells #[.string (⟨#[97]⟩ : ByteArray), .string (⟨#[97, 98]⟩ : ByteArray)] 9 (0, 0)) from h 3 (by decide) _ rfl)
    obtain ⟨b4, q4, k4⟩ := (show ∃ g, val 4 = .slice (some ⟨g, 0, none⟩) 13 13 ∧ W.heap[g]? = some (.cells (madeCells #[.string ByteArray.empty] 13) 9 (0, 0)) from h 4 (by decide) _ rfl)
    obtain ⟨b9, q9, k9⟩ := (show ∃ g, val 9 = .slice (some ⟨g, 0, none⟩) 1 1 ∧ W.heap[g]? = some (.cells #[.string L] 9 (0, 0)) from h 9 (by decide) _ rfl)
    obtain ⟨b10, q10, k10⟩ := (show ∃ g, val 10 = .slice (some ⟨g, 0, none⟩) 7 7 ∧ W.heap[g]? = some (.cells #[.slice none 0 0, val 0, val 1, val 2, val 3, val 4, val 9] 39 (0, 0)) from h 10 (by decide) _ rfl)
    have q11 : val 11 = val 10 := h 11 (by decide) _ rfl
    rw [q0, q1, q2, q3, q4, q9] at k10
    rw [q10] at q11
    have hB0 := undrew hB
    obtain ⟨Ax, nx, Ay, ny, hxA_, hxB_, hX_, hY_, hcf, hm_⟩ := comb_ex (n := n) hr.1 hr.2 E1_.out E2_.out HCR.out hLs (blk_below Z6.out hB0) (blk_below Z0.out hB0) (blk_below Z1.out hB0) (blk_below Z2.out hB0) (blk_below Z3.out hB0) (blk_below Z4.out hB0) (blk_below Z5.out hB0) k10 k0 k1 k2 k3 k4 k9
    have EX := mk0 (show vec_Combine.f k nx ny = some (⟨#[]⟩, 200) by
      rw [vcomb hkk nx ny (by omega), hcf]; rfl)
    have E0 := mk0 (show vec_Combine.f k (List.replicate 12 0) (List.replicate 12 ByteArray.empty) = some (⟨#[]⟩, 0) by
      rw [vcomb hkk _ _ (by decide)]
      exact congrArg some (by decide +kernel))
    have hxA := mk0 hxA_
    have hxB := mk0 hxB_
    have HX := mk0 hX_
    have HY := mk0 hY_
    have HBW := mk0 (below_step HB.out (Z.out.trans (hB0.mono Z.out.size)))
    have p_ := eq_true hr.1
    have q_ := eq_true hr.2
    clear h hB hB0 q0 q1 q2 q3 q4 q9 q10 k0 k1 k2 k3 k4 k9 k10 hxA_ hxB_ hX_ hY_ hcf hm_ Z Z0 Z1 Z2 Z3 Z4 Z5 Z6 HB hr HCR hb hc hn hn1 hn2 E1_ E2_ hn0 hn9 hL hLs
    rw [q11]
    clear q11
    go_wp2
    refine Many2.many_ (combf7_sp (w1.heap.size + 1 + 1 + 1 + 1 + 1 + 1) b10 r Ax Ay nx ny) combf7_D combf7_L 14 ?tmB (by kernel_rfl) rfl rfl (by kernel_rfl) (by kernel_rfl) ?hfB ?hstepB ?hendB
    case hfB => intro val; simp only [combf7_L, Many2.fillL, List.setIfInBounds_toArray, List.set_cons_zero, List.set_cons_succ, Nat.reduceAdd]; rfl
    case hstepB =>
      refine Many2.all_succ ?_ ?sB13
      refine Many2.all_succ ?_ ?sB12
      refine Many2.all_succ ?_ ?sB11
      refine Many2.all_succ ?_ ?sB10
      refine Many2.all_succ ?_ ?sB9
      refine Many2.all_succ ?_ ?sB8
      refine Many2.all_succ ?_ ?sB7
      refine Many2.all_succ ?_ ?sB6
      refine Many2.all_succ ?_ ?sB5
      refine Many2.all_succ ?_ ?sB4
      refine Many2.all_succ ?_ ?sB3
      refine Many2.all_succ ?_ ?sB2
      refine Many2.all_succ ?_ ?sB1
      refine Many2.all_succ ?_ ?sB0
      exact Many2.all_zero
      case sB0 =>
        refine Many2.stepAt_of rfl rfl rfl rfl (fun val w' hB h => ?_)
        refine Many2.does_value (v := ?_) (w1 := ?_) ?_ ?_
        rotate_left 2
        · go_simp
          first | (with_reducible rfl) | (constructor; (· rfl); (· rfl)) | rfl
        exact ⟨⟨Below.refl _ _, Many2.Ext.of (Below.refl _ _)⟩, rfl⟩
      case sB1 =>
        refine Many2.stepAt_of rfl rfl rfl rfl (fun val w' hB h => ?_)
        refine Many2.does_value (v := ?_) (w1 := ?_) ?_ ?_
        rotate_left 2
        · go_simp
          first | (with_reducible rfl) | (constructor; (· rfl); (· rfl)) | rfl
        exact ⟨⟨Below.refl _ _, Many2.Ext.of (Below.refl _ _)⟩, rfl⟩
      case sB2 =>
        refine Many2.stepAt_of rfl rfl rfl rfl (fun val w' hB h => ?_)
        have q0 : val 0 = .slice (some ⟨w1.heap.size + 1 + 1 + 1 + 1 + 1 + 1, 0, none⟩) 7 7 := h 0 (by decide) _ rfl
        have q1 : val 1 = .int .i64 r := h 1 (by decide) _ rfl
        refine Many2.does_value (v := ?_) (w1 := ?_) ?_ ?_
        rotate_left 2
        · go_simp
          first | (with_reducible rfl) | (constructor; (· rfl); (· rfl)) | rfl
        exact ⟨⟨Below.refl _ _, Many2.Ext.of (Below.refl _ _)⟩, rfl⟩
      case sB3 =>
        refine Many2.stepAt_of rfl rfl rfl rfl (fun val w' hB h => ?_)
        have q2 : val 2 = .pointer (some ⟨w1.heap.size + 1 + 1 + 1 + 1 + 1 + 1, r.toNat, none⟩) := h 2 (by decide) _ rfl
        have hx_ := (undrew_cell hB hxA.out)
        refine Many2.does_value (v := ?_) (w1 := ?_) ?_ ?_
        rotate_left 2
        · go_simp
          first | (with_reducible rfl) | (constructor; (· rfl); (· rfl)) | rfl
        exact ⟨⟨Below.refl _ _, Many2.Ext.of (Below.refl _ _)⟩, rfl⟩
      case sB4 =>
        refine Many2.stepAt_of rfl rfl rfl rfl (fun val w' hB h => ?_)
        refine Many2.does_value (v := ?_) (w1 := ?_) ?_ ?_
        rotate_left 2
        · go_simp
          first | (with_reducible rfl) | (constructor; (· rfl); (· rfl)) | rfl
        exact ⟨⟨Below.refl _ _, Many2.Ext.of (Below.refl _ _)⟩, rfl⟩
      case sB5 =>
        refine Many2.stepAt_of rfl rfl rfl rfl (fun val w' hB h => ?_)
        refine Many2.does_value (v := ?_) (w1 := ?_) ?_ ?_
        rotate_left 2
        · go_simp
          first | (with_reducible rfl) | (constructor; (· rfl); (· rfl)) | rfl
        exact ⟨⟨Below.refl _ _, Many2.Ext.of (Below.refl _ _)⟩, rfl⟩
      case sB6 =>
        refine Many2.stepAt_of rfl rfl rfl rfl (fun val w' hB h => ?_)
        have q4 : val 4 = .slice (some ⟨b10, 0, none⟩) 7 7 := h 4 (by decide) _ rfl
        have q5 : val 5 = .int .i64 r := h 5 (by decide) _ rfl
        refine Many2.does_value (v := ?_) (w1 := ?_) ?_ ?_
        rotate_left 2
        · go_simp
          first | (with_reducible rfl) | (constructor; (· rfl); (· rfl)) | rfl
        exact ⟨⟨Below.refl _ _, Many2.Ext.of (Below.refl _ _)⟩, rfl⟩
      case sB7 =>
        refine Many2.stepAt_of rfl rfl rfl rfl (fun val w' hB h => ?_)
        have q6 : val 6 = .pointer (some ⟨b10, r.toNat, none⟩) := h 6 (by decide) _ rfl
        have hx_ := (undrew_cell hB hxB.out)
        refine Many2.does_value (v := ?_) (w1 := ?_) ?_ ?_
        rotate_left 2
        · go_simp
          first | (with_reducible rfl) | (constructor; (· rfl); (· rfl)) | rfl
        exact ⟨⟨Below.refl _ _, Many2.Ext.of (Below.refl _ _)⟩, rfl⟩
      case sB8 =>
        refine Many2.stepAt_of rfl rfl rfl rfl (fun val w' hB h => ?_)
        have q3 : val 3 = .slice Ax nx.length nx.length := h 3 (by decide) _ rfl
        have q7 : val 7 = .slice Ay ny.length ny.length := h 7 (by decide) _ rfl
        refine Many2.does_go (fn := Try.f34) (by kernel_rfl) rfl (by kernel_rfl) #[.slice Ax nx.length nx.length, .slice Ay ny.length ny.length] rfl (by simp only [List.map_toArray, List.map_cons, List.map_nil, Act.eval]; go_simp) ?_
        refine (vec_Combine.calls k Ax nx.length nx Ay ny.length ny ⟨#[]⟩ 200 w' (Kd.C_below HX.out (Many2.undrew hB)) (Nat.le_refl _) (Kd.C_below HY.out (Many2.undrew hB)) (Nat.le_refl _) EX.out).mono ?_
        rintro e w'' ⟨rfl, hb⟩
        exact ⟨_, rfl, ⟨hb.mono hB.size, Many2.Ext.of hb⟩, rfl⟩
      case sB9 =>
        refine Many2.stepAt_of rfl rfl rfl rfl (fun val w' hB h => ?_)
        have q8 : val 8 = .tuple #[.string (⟨#[]⟩ : ByteArray), .int .i64 200] := h 8 (by decide) _ rfl
        refine Many2.does_value (v := ?_) (w1 := ?_) ?_ ?_
        rotate_left 2
        · go_simp
          first | (with_reducible rfl) | (constructor; (· rfl); (· rfl)) | rfl
        exact ⟨⟨Below.refl _ _, Many2.Ext.of (Below.refl _ _)⟩, by first | rfl | exact q8.symm⟩
      case sB10 =>
        refine Many2.stepAt_of rfl rfl rfl rfl (fun val w' hB h => ?_)
        have q8 : val 8 = .tuple #[.string (⟨#[]⟩ : ByteArray), .int .i64 200] := h 8 (by decide) _ rfl
        have q9 : val 9 = val 8 := h 9 (by decide) _ rfl
        rw [q8] at q9
        refine Many2.does_value (v := ?_) (w1 := ?_) ?_ ?_
        rotate_left 2
        · go_simp
          first | (with_reducible rfl) | (constructor; (· rfl); (· rfl)) | rfl
        exact ⟨⟨Below.refl _ _, Many2.Ext.of (Below.refl _ _)⟩, rfl⟩
      case sB11 =>
        refine Many2.stepAt_of rfl rfl rfl rfl (fun val w' hB h => ?_)
        have q8 : val 8 = .tuple #[.string (⟨#[]⟩ : ByteArray), .int .i64 200] := h 8 (by decide) _ rfl
        have q9 : val 9 = val 8 := h 9 (by decide) _ rfl
        rw [q8] at q9
        refine Many2.does_value (v := ?_) (w1 := ?_) ?_ ?_
        rotate_left 2
        · go_simp
          first | (with_reducible rfl) | (constructor; (· rfl); (· rfl)) | rfl
        exact ⟨⟨Below.refl _ _, Many2.Ext.of (Below.refl _ _)⟩, rfl⟩
      case sB12 =>
        refine Many2.stepAt_of rfl rfl rfl rfl (fun val w' hB h => ?_)
        have q10 : val 10 = .string (⟨#[]⟩ : ByteArray) := h 10 (by decide) _ rfl
        refine Many2.does_value (v := ?_) (w1 := ?_) ?_ ?_
        rotate_left 2
        · go_simp
          first | (with_reducible rfl) | (constructor; (· rfl); (· rfl)) | rfl
        exact ⟨⟨Below.refl _ _, Many2.Ext.of (Below.refl _ _)⟩, by first | rfl | exact q10.symm⟩
      case sB13 =>
        refine Many2.stepAt_of rfl rfl rfl rfl (fun val w' hB h => ?_)
        have q11 : val 11 = .int .i64 200 := h 11 (by decide) _ rfl
        refine Many2.does_value (v := ?_) (w1 := ?_) ?_ ?_
        rotate_left 2
        · go_simp
          first | (with_reducible rfl) | (constructor; (· rfl); (· rfl)) | rfl
        exact ⟨⟨Below.refl _ _, Many2.Ext.of (Below.refl _ _)⟩, by first | rfl | exact q11.symm⟩
    intro val2 W5 hB5 h5
    have r12 : val2 12 = val2 10 := h5 12 (by decide) _ rfl
    have r13 : val2 13 = val2 11 := h5 13 (by decide) _ rfl
    rw [show val2 10 = .string (⟨#[]⟩ : ByteArray) from h5 10 (by decide) _ rfl] at r12
    rw [show val2 11 = .int .i64 200 from h5 11 (by decide) _ rfl] at r13
    have HB5 := mk0 (below_step HBW.out (undrew hB5))
    rw [r12, r13]
    clear h5 hB5 r12 r13 HBW hxA hxB HX HY EX
    go_wp2
    refine Many2.many_ (combf8_sp ) combf8_D combf8_L 8 ?tmC (by kernel_rfl) rfl rfl (by kernel_rfl) (by kernel_rfl) ?hfC ?hstepC ?hendC
    case hfC => intro val; simp only [combf8_L, Many2.fillL, List.setIfInBounds_toArray, List.set_cons_zero, List.set_cons_succ, Nat.reduceAdd]; rfl
    case hstepC =>
      refine Many2.all_succ ?_ ?sC7
      refine Many2.all_succ ?_ ?sC6
      refine Many2.all_succ ?_ ?sC5
      refine Many2.all_succ ?_ ?sC4
      refine Many2.all_succ ?_ ?sC3
      refine Many2.all_succ ?_ ?sC2
      refine Many2.all_succ ?_ ?sC1
      refine Many2.all_succ ?_ ?sC0
      exact Many2.all_zero
      case sC0 =>
        refine Many2.stepAt_of rfl rfl rfl rfl (fun val w' hB h => ?_)
        obtain ⟨i3_, hi_, hz_, hs_, hy_⟩ := info_parts combf_info3
        have hk_ := run_make (P := Try.prog) w' 38 3 i3_ (.int .i64 0) Try.underlying38 hi_ hz_ .i64 .i64 12 12 (by omega) (Int.le_refl _) (by rw [hy_]; omega) (by omega)
        rw [hs_, Nat.mul_one] at hk_
        refine Many2.does_value (v := ?_) (w1 := ?_) ?_ ?_
        rotate_left 2
        · go_simp
          constructor <;> rfl
        exact ⟨⟨(lA (Below.refl _ w') _).mono hB.size, Many2.Ext.of (lA (Below.refl _ _) _)⟩, _, rfl, blk_new _ _⟩
      case sC1 =>
        refine Many2.stepAt_of rfl rfl rfl rfl (fun val w' hB h => ?_)
        obtain ⟨i3_, hi_, hz_, hs_, hy_⟩ := info_parts combf_info9
        have hk_ := run_make (P := Try.prog) w' 39 9 i3_ (.string ByteArray.empty) Try.underlying39 hi_ hz_ .i64 .i64 12 12 (by omega) (Int.le_refl _) (by rw [hy_]; omega) (by omega)
        rw [hs_, Nat.mul_one] at hk_
        refine Many2.does_value (v := ?_) (w1 := ?_) ?_ ?_
        rotate_left 2
        · go_simp
          constructor <;> rfl
        exact ⟨⟨(lA (Below.refl _ w') _).mono hB.size, Many2.Ext.of (lA (Below.refl _ _) _)⟩, _, rfl, blk_new _ _⟩
      case sC2 =>
        refine Many2.stepAt_of rfl rfl rfl rfl (fun val w' hB h => ?_)
        obtain ⟨g0, q0, m0⟩ := (show ∃ g, val 0 = .slice (some ⟨g, 0, none⟩) 12 12 ∧ w'.heap[g]? = some (.cells (madeCells #[.int .i64 0] 12) 3 (0, 0)) from h 0 (by decide) _ rfl)
        obtain ⟨g1, q1, m1⟩ := (show ∃ g, val 1 = .slice (some ⟨g, 0, none⟩) 12 12 ∧ w'.heap[g]? = some (.cells (madeCells #[.string ByteArray.empty] 12) 9 (0, 0)) from h 1 (by decide) _ rfl)
        rw [made_rep] at m0 m1
        refine Many2.does_go (fn := Try.f34) (by kernel_rfl) rfl (by kernel_rfl) #[.slice (some ⟨g0, 0, none⟩) 12 12, .slice (some ⟨g1, 0, none⟩) 12 12] rfl (by simp only [List.map_toArray, List.map_cons, List.map_nil, Act.eval]; go_simp) ?_
        refine (vec_Combine.calls k _ 12 (List.replicate 12 0) _ 12 (List.replicate 12 ByteArray.empty) ⟨#[]⟩ 0 w' (C_ints (List.replicate 12 0) (by simpa using m0) (by simp)) (by simp) (C_strs (List.replicate 12 ByteArray.empty) (by simpa using m1) (by simp)) (by simp) E0.out).mono ?_
        rintro e w'' ⟨rfl, hb⟩
        exact ⟨_, rfl, ⟨hb.mono hB.size, Many2.Ext.of hb⟩, rfl⟩
      case sC3 =>
        refine Many2.stepAt_of rfl rfl rfl rfl (fun val w' hB h => ?_)
        have q2 : val 2 = .tuple #[.string (⟨#[]⟩ : ByteArray), .int .i64 0] := h 2 (by decide) _ rfl
        refine Many2.does_value (v := ?_) (w1 := ?_) ?_ ?_
        rotate_left 2
        · go_simp
          first | (with_reducible rfl) | (constructor; (· rfl); (· rfl)) | rfl
        exact ⟨⟨Below.refl _ _, Many2.Ext.of (Below.refl _ _)⟩, by first | rfl | exact q2.symm⟩
      case sC4 =>
        refine Many2.stepAt_of rfl rfl rfl rfl (fun val w' hB h => ?_)
        have q2 : val 2 = .tuple #[.string (⟨#[]⟩ : ByteArray), .int .i64 0] := h 2 (by decide) _ rfl
        have q3 : val 3 = val 2 := h 3 (by decide) _ rfl
        rw [q2] at q3
        refine Many2.does_value (v := ?_) (w1 := ?_) ?_ ?_
        rotate_left 2
        · go_simp
          first | (with_reducible rfl) | (constructor; (· rfl); (· rfl)) | rfl
        exact ⟨⟨Below.refl _ _, Many2.Ext.of (Below.refl _ _)⟩, rfl⟩
      case sC5 =>
        refine Many2.stepAt_of rfl rfl rfl rfl (fun val w' hB h => ?_)
        have q2 : val 2 = .tuple #[.string (⟨#[]⟩ : ByteArray), .int .i64 0] := h 2 (by decide) _ rfl
        have q3 : val 3 = val 2 := h 3 (by decide) _ rfl
        rw [q2] at q3
        refine Many2.does_value (v := ?_) (w1 := ?_) ?_ ?_
        rotate_left 2
        · go_simp
          first | (with_reducible rfl) | (constructor; (· rfl); (· rfl)) | rfl
        exact ⟨⟨Below.refl _ _, Many2.Ext.of (Below.refl _ _)⟩, rfl⟩
      case sC6 =>
        refine Many2.stepAt_of rfl rfl rfl rfl (fun val w' hB h => ?_)
        have q4 : val 4 = .string (⟨#[]⟩ : ByteArray) := h 4 (by decide) _ rfl
        refine Many2.does_value (v := ?_) (w1 := ?_) ?_ ?_
        rotate_left 2
        · go_simp
          first | (with_reducible rfl) | (constructor; (· rfl); (· rfl)) | rfl
        exact ⟨⟨Below.refl _ _, Many2.Ext.of (Below.refl _ _)⟩, by first | rfl | exact q4.symm⟩
      case sC7 =>
        refine Many2.stepAt_of rfl rfl rfl rfl (fun val w' hB h => ?_)
        have q5 : val 5 = .int .i64 0 := h 5 (by decide) _ rfl
        refine Many2.does_value (v := ?_) (w1 := ?_) ?_ ?_
        rotate_left 2
        · go_simp
          first | (with_reducible rfl) | (constructor; (· rfl); (· rfl)) | rfl
        exact ⟨⟨Below.refl _ _, Many2.Ext.of (Below.refl _ _)⟩, by first | rfl | exact q5.symm⟩
    intro val3 W6 hB6 h6
    have r6 : val3 6 = val3 4 := h6 6 (by decide) _ rfl
    have r7 : val3 7 = val3 5 := h6 7 (by decide) _ rfl
    rw [show val3 4 = .string (⟨#[]⟩ : ByteArray) from h6 4 (by decide) _ rfl] at r6
    rw [show val3 5 = .int .i64 0 from h6 5 (by decide) _ rfl] at r7
    have HB := mk0 (below_step HB5.out (undrew hB6))
    rw [r6, r7]
    clear h6 hB6 r6 r7 HB5
    go_wp2_with (first
      | (go_at_call 31; (with_reducible refine (ossuarylaw0_Num.calls 200 200 _ rfl).mono ?_); rintro e w' ⟨rfl, ⟨nd, rfl⟩⟩)
      | (go_at_call 31; (with_reducible refine (ossuarylaw0_Num.calls 0 0 _ rfl).mono ?_); rintro e w' ⟨rfl, ⟨nd2, rfl⟩⟩))
    go_ret
    exact ⟨rfl, by repeat (first | exact HB.out | apply lN | apply lA | apply lD)⟩
end Go.Proofs.Ythglackkhajapaa.CombF
