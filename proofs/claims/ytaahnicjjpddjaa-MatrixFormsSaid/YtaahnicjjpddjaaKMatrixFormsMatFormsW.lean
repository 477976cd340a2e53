/- The law of the forms that matrices do not have: the call's walk, by hand. -/
import Derived.Test.YtaahnicjjpddjaaKMatrixFormsGAwm1
import Derived.Test.YtaahnicjjpddjaaKMatrixFormsMulF
import Derived.Test.YtaahnicjjpddjaaKMatrixFormsMany
import Derived.Test.YtaahnicjjpddjaaKMatrixFormsMany2
namespace Go.Proofs.Ytaahnicjjpddjaa.MatW
open Go.RowKit Go.Proofs.YtaahnicjjpddjaaW.PrintWords Go.Proofs.YtaahnicjjpddjaaW.PrintLast Go.Proofs.YtaahnicjjpddjaaW.PrintMore Go.Proofs.Ytaahnicjjpddjaa.Fn Go.Proofs.Ytaahnicjjpddjaa.Many Go.Proofs.Ytaahnicjjpddjaa.Fld Go.Proofs.Ytaahnicjjpddjaa.MadeW Go.Proofs.Ytaahnicjjpddjaa
set_option linter.unusedVariables false
set_option linter.unusedSimpArgs false
theorem matf_info3 : (Try.prog.info? 3).map (fun i => (i.zero, i.size, i.bytes)) = some (some (.int .i64 0), 1, 8) := by kernel_rfl
theorem matf_info25 : (Try.prog.info? 25).map (fun i => (i.zero, i.size, i.bytes)) = some (some (.slice none 0 0), 1, 24) := by kernel_rfl
theorem seen_ {P : Program} {c : Code} {Q : Exit → Act → World → Prop} {a : Act} {w : World} (F : World → Prop) (hF : F w) (h : ∀ W, F W → Code.wp P c Q a W) : Code.wp P c Q a w := h w hF
theorem below_all (w : World) (os : List Obj) : Below w.heap.size w (os.foldl World.alloc w) := by
  have h : ∀ (os : List Obj) (W : World), Below w.heap.size w W → Below w.heap.size w (os.foldl World.alloc W) := by
    intro os
    induction os with
    | nil => exact fun _ h => h
    | cons o os ih => exact fun W h => ih _ (lA h o)
  exact h os w (Below.refl _ _)
theorem put_at (w : World) (os : List Obj) (i : Nat) (h : i < os.length) : (os.foldl World.alloc w).heap[w.heap.size + i]? = some os[i] := by
  induction os generalizing w i with
  | nil => simp at h
  | cons o os ih =>
    cases i with
    | zero =>
      have hb := below_all (w.alloc o) os
      exact blk_below (blk_new w o) hb
    | succ i =>
      have := ih (w.alloc o) i (by simpa using h)
      rw [World.size_alloc] at this
      rw [show w.heap.size + (i + 1) = w.heap.size + 1 + i by omega]
      exact this
theorem C_ints {w : World} {g t : Nat} (xs : List Int) (h : w.heap[g]? = some (.cells (xs.map (Value.int .i64)).toArray t (0, 0))) (hn : xs.length ≤ 100) : Kd.C (Kd.int .i64) w (some ⟨g, 0, none⟩) xs.length xs :=
  Kd.C_of_reads (d := 0) ⟨rfl, uP, fun _ => ⟨_, rfl, fun j hj => by
    have hc := blk_cell h j
    rw [show (Addr.add ⟨g, 0, none⟩ j) = ⟨g, j, none⟩ from (by simp [Addr.add]; try exact fun h => h.symm), hc, List.getElem?_toArray, List.getElem?_map, List.getElem?_eq_getElem hj, List.getD_eq_getElem?_getD, List.getElem?_eq_getElem hj]
    rfl⟩⟩
theorem C_rows {w : World} {g t : Nat} (rs : List (Nat × List Int)) (h : w.heap[g]? = some (.cells (rs.map fun r => Value.slice (some ⟨r.1, 0, none⟩) r.2.length r.2.length).toArray t (0, 0))) (hn : rs.length ≤ 100) (hr : ∀ r ∈ rs, Kd.C (Kd.int .i64) w (some ⟨r.1, 0, none⟩) r.2.length r.2) :
    Kd.C (Kd.slice 3 (Kd.int .i64)) w (some ⟨g, 0, none⟩) rs.length (rs.map fun r => r.2) :=
  ⟨uQ, uP, fun _ => ⟨_, rfl, fun j p hj => by
    rw [List.getElem?_map] at hj
    obtain ⟨r, hr1, rfl⟩ := Option.map_eq_some_iff.1 hj
    refine ⟨[.slice (some ⟨r.1, 0, none⟩) r.2.length r.2.length], rfl, ⟨_, _, rfl, Nat.le_refl _, hr r (List.mem_of_getElem? hr1)⟩, fun i u hu => ?_⟩
    cases i with
    | zero =>
      obtain rfl := Option.some.inj hu
      have hc := blk_cell h j
      show w.cell? (Addr.add ⟨g, 0, none⟩ (j * 1 + 0)) = _
      rw [Nat.mul_one, Nat.add_zero, show (Addr.add ⟨g, 0, none⟩ j) = ⟨g, j, none⟩ from (by simp [Addr.add]; try exact fun h => h.symm), hc, List.getElem?_toArray, List.getElem?_map, hr1]
      rfl
    | succ i => cases hu⟩⟩
theorem C_rowsA {w : World} {g t : Nat} (rs : List (Option Addr × List Int)) (h : w.heap[g]? = some (.cells (rs.map fun r => Value.slice r.1 r.2.length r.2.length).toArray t (0, 0))) (hn : rs.length ≤ 100) (hr : ∀ r ∈ rs, Kd.C (Kd.int .i64) w r.1 r.2.length r.2) :
    Kd.C (Kd.slice 3 (Kd.int .i64)) w (some ⟨g, 0, none⟩) rs.length (rs.map fun r => r.2) :=
  ⟨uQ, uP, fun _ => ⟨_, rfl, fun j p hj => by
    rw [List.getElem?_map] at hj
    obtain ⟨r, hr1, rfl⟩ := Option.map_eq_some_iff.1 hj
    refine ⟨[.slice r.1 r.2.length r.2.length], rfl, ⟨_, _, rfl, Nat.le_refl _, hr r (List.mem_of_getElem? hr1)⟩, fun i u hu => ?_⟩
    cases i with
    | zero =>
      obtain rfl := Option.some.inj hu
      have hc := blk_cell h j
      show w.cell? (Addr.add ⟨g, 0, none⟩ (j * 1 + 0)) = _
      rw [Nat.mul_one, Nat.add_zero, show (Addr.add ⟨g, 0, none⟩ j) = ⟨g, j, none⟩ from (by simp [Addr.add]; try exact fun h => h.symm), hc, List.getElem?_toArray, List.getElem?_map, hr1]
      rfl
    | succ i => cases hu⟩⟩
theorem made_rep (z : Value) (n : Nat) : madeCells #[z] n = (List.replicate n z).toArray := by
  unfold madeCells
  apply Array.ext
  · simp
  · intro i h1 h2
    have : i % 1 = 0 := Nat.mod_one i
    simp [this]
theorem bad_ex {W : World} {r c n1 n2 : Int} {g23 g2 g1 g6 g4 g5 g11 g10 g16 g15 g18 g21 g20 : Nat} (h0 : 0 ≤ r) (h1 : r < 7) (hn1 : wrap64 (255 + c) = n1) (hn2 : wrap64 (-c) = n2) (hc : 1 ≤ c ∧ c ≤ 1024)
    (m23 : W.heap[g23]? = some (.cells #[.slice none 0 0, .slice (some ⟨g2, 0, none⟩) 1 1, .slice (some ⟨g6, 0, none⟩) 2 2, .slice (some ⟨g11, 0, none⟩) 1 1, .slice (some ⟨g16, 0, none⟩) 1 1, .slice (some ⟨g18, 0, none⟩) 13 13, .slice (some ⟨g21, 0, none⟩) 1 1] 24 (0, 0)))
    (m2 : W.heap[g2]? = some (.cells #[.slice (some ⟨g1, 0, none⟩) 0 0] 25 (0, 0))) (m1 : W.heap[g1]? = some (.cells #[] 3 (0, 0))) (m6 : W.heap[g6]? = some (.cells #[.slice (some ⟨g4, 0, none⟩) 1 1, .slice (some ⟨g5, 0, none⟩) 2 2] 25 (0, 0)))
    (m4 : W.heap[g4]? = some (.cells #[.int .i64 1] 3 (0, 0))) (m5 : W.heap[g5]? = some (.cells #[.int .i64 1, .int .i64 2] 3 (0, 0))) (m11 : W.heap[g11]? = some (.cells #[.slice (some ⟨g10, 0, none⟩) 1 1] 25 (0, 0))) (m10 : W.heap[g10]? = some (.cells #[.int .i64 n1] 3 (0, 0)))
    (m16 : W.heap[g16]? = some (.cells #[.slice (some ⟨g15, 0, none⟩) 1 1] 25 (0, 0))) (m15 : W.heap[g15]? = some (.cells #[.int .i64 n2] 3 (0, 0))) (m18 : W.heap[g18]? = some (.cells (madeCells #[.slice none 0 0] 13) 25 (0, 0)))
    (m21 : W.heap[g21]? = some (.cells #[.slice (some ⟨g20, 0, none⟩) 13 13] 25 (0, 0))) (m20 : W.heap[g20]? = some (.cells (madeCells #[.int .i64 0] 13) 3 (0, 0))) :
    ∃ Ab nb l, W.cell? ⟨g23, r.toNat, none⟩ = some (.slice Ab nb nb) ∧ Kd.C (Kd.slice 3 (Kd.int .i64)) W Ab nb l ∧ l.length = nb ∧ Mat.mayB l = false := by
  have e1 : n1 = 255 + c := by rw [← hn1]; exact wrap64_in uP uP
  have e2 : n2 = -c := by rw [← hn2]; exact wrap64_in uP uP
  rw [made_rep] at m18 m20
  obtain rfl | rfl | rfl | rfl | rfl | rfl | rfl : r = 0 ∨ r = 1 ∨ r = 2 ∨ r = 3 ∨ r = 4 ∨ r = 5 ∨ r = 6 := by omega
  · exact ⟨none, 0, [], blk_cell m23 0, Kd.C_nil _ _, rfl, rfl⟩
  · exact ⟨_, 1, [[]], blk_cell m23 1, C_rowsA [(some ⟨g1, 0, none⟩, [])] m2 uQ (fun x hx => by obtain rfl := List.mem_singleton.1 hx; exact C_ints [] m1 uQ), rfl, uO⟩
  · exact ⟨_, 2, [[1], [1, 2]], blk_cell m23 2, C_rowsA [(some ⟨g4, 0, none⟩, [1]), (some ⟨g5, 0, none⟩, [1, 2])] m6 uQ (fun x hx => by
      rcases List.mem_cons.1 hx with rfl | hx
      · exact C_ints [1] m4 uO
      · obtain rfl := List.mem_singleton.1 hx; exact C_ints [1, 2] m5 uO), rfl, by decide⟩
  · exact ⟨_, 1, [[n1]], blk_cell m23 3, C_rowsA [(some ⟨g10, 0, none⟩, [n1])] m11 uQ (fun x hx => by obtain rfl := List.mem_singleton.1 hx; exact C_ints [n1] m10 uQ), rfl, by
      subst e1
      simp [Mat.mayB, Mat.cols, okMat, okRow, isB]
      try omega⟩
  · exact ⟨_, 1, [[n2]], blk_cell m23 4, C_rowsA [(some ⟨g15, 0, none⟩, [n2])] m16 uQ (fun x hx => by obtain rfl := List.mem_singleton.1 hx; exact C_ints [n2] m15 uQ), rfl, by
      subst e2
      simp [Mat.mayB, Mat.cols, okMat, okRow, isB]
      try omega⟩
  · exact ⟨_, 13, List.replicate 13 [], blk_cell m23 5, C_rowsA (List.replicate 13 (none, [])) m18 uO (fun x hx => by obtain rfl := List.eq_of_mem_replicate hx; exact Kd.C_nil _ _), rfl, uO⟩
  · exact ⟨_, 1, [List.replicate 13 0], blk_cell m23 6, C_rowsA [(some ⟨g20, 0, none⟩, List.replicate 13 0)] m21 uQ (fun x hx => by obtain rfl := List.mem_singleton.1 hx; exact C_ints (List.replicate 13 0) m20 uO), rfl, uO⟩
def matf_sp (c n1 n2 : Int) : Array Sp := #[Sp.eq [] (fun vs => .agg #[.slice none 0 0]),
  Sp.blk [] (0) (fun vs => .cells #[] 3 (0, 0)),
  Sp.blk [1] (1) (fun vs => .cells #[vs.getD 0 undef] 25 (0, 0)),
  Sp.eq [2] (fun vs => .agg #[vs.getD 0 undef]),
  Sp.blk [] (1) (fun vs => .cells #[.int .i64 1] 3 (0, 0)),
  Sp.blk [] (2) (fun vs => .cells #[.int .i64 1, .int .i64 2] 3 (0, 0)),
  Sp.blk [4, 5] (2) (fun vs => .cells #[vs.getD 0 undef, vs.getD 1 undef] 25 (0, 0)),
  Sp.eq [6] (fun vs => .agg #[vs.getD 0 undef]),
  Sp.eq [] (fun vs => .int .i64 c),
  Sp.eq [8] (fun vs => .int .i64 n1),
  Sp.blk [9] (1) (fun vs => .cells #[.int .i64 n1] 3 (0, 0)),
  Sp.blk [10] (1) (fun vs => .cells #[vs.getD 0 undef] 25 (0, 0)),
  Sp.eq [11] (fun vs => .agg #[vs.getD 0 undef]),
  Sp.eq [] (fun vs => .int .i64 c),
  Sp.eq [13] (fun vs => .int .i64 n2),
  Sp.blk [14] (1) (fun vs => .cells #[.int .i64 n2] 3 (0, 0)),
  Sp.blk [15] (1) (fun vs => .cells #[vs.getD 0 undef] 25 (0, 0)),
  Sp.eq [16] (fun vs => .agg #[vs.getD 0 undef]),
  Sp.blk [] (13) (fun vs => .cells (madeCells #[.slice none 0 0] 13) 25 (0, 0)),
  Sp.eq [18] (fun vs => .agg #[vs.getD 0 undef]),
  Sp.blk [] (13) (fun vs => .cells (madeCells #[.int .i64 0] 13) 3 (0, 0)),
  Sp.blk [20] (1) (fun vs => .cells #[vs.getD 0 undef] 25 (0, 0)),
  Sp.eq [21] (fun vs => .agg #[vs.getD 0 undef]),
  Sp.blk [0, 3, 7, 12, 17, 19, 22, 2, 6, 11, 16, 18, 21] (7) (fun vs => .cells #[.slice none 0 0, vs.getD 7 undef, vs.getD 8 undef, vs.getD 9 undef, vs.getD 10 undef, vs.getD 11 undef, vs.getD 12 undef] 24 (0, 0)),
  Sp.eq [23] (fun vs => vs.getD 0 undef)]
def matf_D : Array (List Nat) := #[[], [], [1], [2], [], [], [4, 5], [6], [], [8], [9], [10], [11], [], [13], [14], [15], [16], [], [18], [], [20], [21], [0, 3, 7, 12, 17, 19, 22, 2, 6, 11, 16, 18, 21], [23]]
def matf_L : List Tmp := [36, 37, 38, 39, 40, 41, 42, 43, 44, 45, 46, 47, 48, 49, 50, 51, 52, 53, 54, 55, 56, 57, 58, 59, 7]
def matf13_sp (B s : Nat) : Array (Many2.Sp 24) := #[Many2.Sp.eq [] (fun _ => .agg #[.slice (some ⟨s, 0, none⟩) 2 2]), Many2.Sp.blk [] 13 (fun _ => madeCells #[.int .i64 0] 13) 3 uO, ⟨[0, 1], fun _ v _ => ∃ A cc, v = .tuple #[.agg #[.slice A 0 cc], .int .i64 300], fun _ _ _ _ _ h => h⟩, Many2.Sp.eq [2] (fun vs => vs.getD 0 undef),
  ⟨[3, 2], fun _ v _ => ∃ A cc, v = .agg #[.slice A 0 cc], fun _ _ _ _ _ h => h⟩, Many2.Sp.eq [3, 2] (fun _ => .int .i64 300), Many2.Sp.box B, Many2.Sp.any [6, 4], Many2.Sp.eq [5] (fun vs => vs.getD 0 undef)]
def matf13_D : Array (List Nat) := #[[], [], [0, 1], [2], [3, 2], [3, 2], [], [6, 4], [5]]
def matf13_L : List (Option Tmp) := [some 107, some 108, some 109, some 106, some 110, some 111, some 21, none, some 22]
set_option maxHeartbeats 8000000 in
set_option maxRecDepth 100000 in
theorem walk (k : Nat) (r a0 a1 b c n1 n2 n3 n4 n5 : Int) (w : World) (h5 : GAwm.ossuarylaw3_awake.f k = some true) (hb : Go.bits .and .i64 a1 1023 = b) (hk : wrap64 (Int.tmod (IntKind.u64.wrap a0) 7) = r) (hr : 0 ≤ r ∧ r < 7) (hc : wrap64 (1 + b) = c) (hn1 : wrap64 (255 + c) = n1) (hn2 : wrap64 (-c) = n2) (hn3 : wrap64 (1 + c) = n3) (hn4 : wrap64 (1 - c) = n4) (hn5 : wrap64 (12 + c) = n5) (hcr : 1 ≤ c ∧ c ≤ 1024) (hkk : 200 < k) :
    Calls Try.prog 5 #[.int .i64 a0, .int .i64 a1] w fun e w' => e = .returned (.bool true) ∧ Below w.heap.size w w' := by
  have hu24 := Try.underlying24
  have A5 := mk0 h5
  have HB := mk0 (Below.refl w.heap.size w)
  clear h5
  go_enter Try.func5, Try.ntmps5
  go_wp2_with (first
    | ((with_reducible refine gCa (f := 39) rfl ?_); refine goesL_ (some 27) rfl rfl Try.func39 uN rfl #[] rfl (by (try simp only [List.map_toArray, List.map_nil]); first | done | rfl) ?_; (with_reducible refine (GAwm.ossuarylaw3_awake.calls k true _ A5.out).mono ?_); rintro e w1 ⟨rfl, hb⟩; refine ⟨_, rfl, ?_⟩; have n0_ := mk0 (below_step HB.out hb); clear HB; have HB := n0_; clear n0_ hb)
    | ((with_reducible refine gate_dst (N := 6) rfl ?_); refine box_event uR (N := 6) uR (cs := #[.slice none 0 0]) (t := 24) uJ ?_; intro g6 hg w2 hbox hb2; have BK6 := mk0 hbox; have G6 := mk0 hg; have HB2 := mk0 hb2; have hcz6 : w2.cell? ⟨g6, 0, none⟩ = some (.slice none 0 0) := (blk_cell BK6.out 0).trans rfl; have hfz6 := blk_frozen BK6.out 0; clear hbox hg hb2))
  refine seen_ (F := fun W => Below w1.heap.size w1 W ∧ W.heap[w1.heap.size]? = some (.cells #[.int .i64 1, .int .i64 2] 3 (0, 0)) ∧ W.heap[w1.heap.size + 1]? = some (.cells #[.int .i64 3, .int .i64 4] 3 (0, 0)) ∧ W.heap[w1.heap.size + 1 + 1]? = some (.cells #[.slice (some ⟨w1.heap.size, 0, none⟩) 2 2, .slice (some ⟨w1.heap.size + 1, 0, none⟩) 2 2] 25 (0, 0)) ∧ W.heap[g6]? = some (.cells #[.slice (some ⟨w1.heap.size + 1 + 1, 0, none⟩) 2 2] 24 (0, 0))) ?_ (fun W0 hW0 => ?_)
  · have e6 : g6 = w1.heap.size + 1 + 1 + 1 := by rw [G6.out]; simp only [World.size_alloc]
    have hp := fun (i : Nat) h => blk_below (put_at w1 [.cells #[.int .i64 1, .int .i64 2] 3 (0, 0), .cells #[.int .i64 3, .int .i64 4] 3 (0, 0), .cells #[.slice (some ⟨w1.heap.size, 0, none⟩) 2 2, .slice (some ⟨w1.heap.size + 1, 0, none⟩) 2 2] 25 (0, 0)] i h) HB2.out
    refine ⟨Below.setCell (p := ⟨g6, 0, none⟩) ((below_all w1 [.cells #[.int .i64 1, .int .i64 2] 3 (0, 0), .cells #[.int .i64 3, .int .i64 4] 3 (0, 0), .cells #[.slice (some ⟨w1.heap.size, 0, none⟩) 2 2, .slice (some ⟨w1.heap.size + 1, 0, none⟩) 2 2] 25 (0, 0)]).trans (HB2.out.mono (B' := w1.heap.size) (by simp only [World.size_alloc]; omega) : Below w1.heap.size _ _)) (Nat.le_trans (by omega : w1.heap.size ≤ w1.heap.size + 1 + 1 + 1) (Nat.le_of_eq e6.symm)) _, blk_far (hp 0 (by show 0 < 3; decide)) (by show w1.heap.size + 0 ≠ g6; omega) _, blk_far (hp 1 (by show 1 < 3; decide)) (by show w1.heap.size + 1 ≠ g6; omega) _, blk_far (hp 2 (by show 2 < 3; decide)) (by show w1.heap.size + 2 ≠ g6; omega) _, blk_put (cs := #[.slice none 0 0]) BK6.out 0 _ rfl⟩
  obtain ⟨z0, z1, z2, z3, z4⟩ := hW0
  clear hcz6 hfz6
  have Z0 := mk0 z0
  have Z1 := mk0 z1
  have Z2 := mk0 z2
  have Z3 := mk0 z3
  have Z4 := mk0 z4
  clear z0 z1 z2 z3 z4 BK6 G6 HB2
  refine many_ (matf_sp c n1 n2) matf_D matf_L 25 ?tm uN rfl rfl uN uN ?hf ?hstep ?hend
  case hf => intro val; simp only [matf_L, fillL, List.setIfInBounds_toArray, List.set_cons_zero, List.set_cons_succ, Nat.reduceAdd]; rfl
  case hstep =>
    refine all_succ ?_ ?s24
    refine all_succ ?_ ?s23
    refine all_succ ?_ ?s22
    refine all_succ ?_ ?s21
    refine all_succ ?_ ?s20
    refine all_succ ?_ ?s19
    refine all_succ ?_ ?s18
    refine all_succ ?_ ?s17
    refine all_succ ?_ ?s16
    refine all_succ ?_ ?s15
    refine all_succ ?_ ?s14
    refine all_succ ?_ ?s13
    refine all_succ ?_ ?s12
    refine all_succ ?_ ?s11
    refine all_succ ?_ ?s10
    refine all_succ ?_ ?s9
    refine all_succ ?_ ?s8
    refine all_succ ?_ ?s7
    refine all_succ ?_ ?s6
    refine all_succ ?_ ?s5
    refine all_succ ?_ ?s4
    refine all_succ ?_ ?s3
    refine all_succ ?_ ?s2
    refine all_succ ?_ ?s1
    refine all_succ ?_ ?s0
    exact all_zero
    case s0 =>
      refine stepAt_of rfl rfl rfl rfl (fun val w' hB h => ?_)
      refine does_value (v := ?_) (w1 := ?_) ?_ ?_
      rotate_left 2
      · go_simp
        first | (with_reducible rfl) | (constructor; (· rfl); (· rfl)) | rfl
      refine ⟨Below.refl _ _, ?_⟩
      first
        | rfl
        | (show _ = (fun vs : List Value => (.agg #[.slice none 0 0] : Value)) ([].map val); simp only [List.map_cons, List.map_nil, List.getD_cons_zero, List.getD_cons_succ, i64_w, hn1, hn2]; done)
        | (show _ = (fun vs : List Value => (.agg #[.slice none 0 0] : Value)) ([].map val); simp only [List.map_cons, List.map_nil, List.getD_cons_zero, List.getD_cons_succ, i64_w, hn1, hn2]; rfl)
    case s1 =>
      refine stepAt_of rfl rfl rfl rfl (fun val w' hB h => ?_)
      refine does_value (v := ?_) (w1 := ?_) ?_ ?_
      rotate_left 2
      · go_simp
        first | (with_reducible rfl) | (constructor; (· rfl); (· rfl)) | rfl
      refine ⟨lA (Below.refl _ _) _, _, rfl, (blk_new _ _).trans ?_⟩
      first
        | rfl
        | (show some _ = some ((fun vs : List Value => (.cells #[] 3 (0, 0) : Obj)) ([].map val)); simp only [List.map_cons, List.map_nil, List.getD_cons_zero, List.getD_cons_succ, i64_w, hn1, hn2]; done)
        | (show some _ = some ((fun vs : List Value => (.cells #[] 3 (0, 0) : Obj)) ([].map val)); simp only [List.map_cons, List.map_nil, List.getD_cons_zero, List.getD_cons_succ, i64_w, hn1, hn2]; rfl)
    case s2 =>
      refine stepAt_of rfl rfl rfl rfl (fun val w' hB h => ?_)
      obtain ⟨g1, q1, _⟩ := h 1 uO _ rfl
      refine does_value (v := ?_) (w1 := ?_) ?_ ?_
      rotate_left 2
      · go_simp
        first | (with_reducible rfl) | (constructor; (· rfl); (· rfl)) | rfl
      refine ⟨lA (Below.refl _ _) _, _, rfl, (blk_new _ _).trans ?_⟩
      first
        | rfl
        | (show some _ = some ((fun vs : List Value => (.cells #[vs.getD 0 undef] 25 (0, 0) : Obj)) ([1].map val)); simp only [List.map_cons, List.map_nil, List.getD_cons_zero, List.getD_cons_succ, i64_w, q1, hn1, hn2]; done)
        | (show some _ = some ((fun vs : List Value => (.cells #[vs.getD 0 undef] 25 (0, 0) : Obj)) ([1].map val)); simp only [List.map_cons, List.map_nil, List.getD_cons_zero, List.getD_cons_succ, i64_w, q1, hn1, hn2]; rfl)
    case s3 =>
      refine stepAt_of rfl rfl rfl rfl (fun val w' hB h => ?_)
      obtain ⟨g2, q2, _⟩ := h 2 uO _ rfl
      refine does_value (v := ?_) (w1 := ?_) ?_ ?_
      rotate_left 2
      · go_simp
        first | (with_reducible rfl) | (constructor; (· rfl); (· rfl)) | rfl
      refine ⟨Below.refl _ _, ?_⟩
      first
        | rfl
        | (show _ = (fun vs : List Value => (.agg #[vs.getD 0 undef] : Value)) ([2].map val); simp only [List.map_cons, List.map_nil, List.getD_cons_zero, List.getD_cons_succ, i64_w, q2, hn1, hn2]; done)
        | (show _ = (fun vs : List Value => (.agg #[vs.getD 0 undef] : Value)) ([2].map val); simp only [List.map_cons, List.map_nil, List.getD_cons_zero, List.getD_cons_succ, i64_w, q2, hn1, hn2]; rfl)
    case s4 =>
      refine stepAt_of rfl rfl rfl rfl (fun val w' hB h => ?_)
      refine does_value (v := ?_) (w1 := ?_) ?_ ?_
      rotate_left 2
      · go_simp
        first | (with_reducible rfl) | (constructor; (· rfl); (· rfl)) | rfl
      refine ⟨lA (Below.refl _ _) _, _, rfl, (blk_new _ _).trans ?_⟩
      first
        | rfl
        | (show some _ = some ((fun vs : List Value => (.cells #[.int .i64 1] 3 (0, 0) : Obj)) ([].map val)); simp only [List.map_cons, List.map_nil, List.getD_cons_zero, List.getD_cons_succ, i64_w, hn1, hn2]; done)
        | (show some _ = some ((fun vs : List Value => (.cells #[.int .i64 1] 3 (0, 0) : Obj)) ([].map val)); simp only [List.map_cons, List.map_nil, List.getD_cons_zero, List.getD_cons_succ, i64_w, hn1, hn2]; rfl)
    case s5 =>
      refine stepAt_of rfl rfl rfl rfl (fun val w' hB h => ?_)
      refine does_value (v := ?_) (w1 := ?_) ?_ ?_
      rotate_left 2
      · go_simp
        first | (with_reducible rfl) | (constructor; (· rfl); (· rfl)) | rfl
      refine ⟨lA (Below.refl _ _) _, _, rfl, (blk_new _ _).trans ?_⟩
      first
        | rfl
        | (show some _ = some ((fun vs : List Value => (.cells #[.int .i64 1, .int .i64 2] 3 (0, 0) : Obj)) ([].map val)); simp only [List.map_cons, List.map_nil, List.getD_cons_zero, List.getD_cons_succ, i64_w, hn1, hn2]; done)
        | (show some _ = some ((fun vs : List Value => (.cells #[.int .i64 1, .int .i64 2] 3 (0, 0) : Obj)) ([].map val)); simp only [List.map_cons, List.map_nil, List.getD_cons_zero, List.getD_cons_succ, i64_w, hn1, hn2]; rfl)
    case s6 =>
      refine stepAt_of rfl rfl rfl rfl (fun val w' hB h => ?_)
      obtain ⟨g4, q4, _⟩ := h 4 uO _ rfl
      obtain ⟨g5, q5, _⟩ := h 5 uO _ rfl
      refine does_value (v := ?_) (w1 := ?_) ?_ ?_
      rotate_left 2
      · go_simp
        first | (with_reducible rfl) | (constructor; (· rfl); (· rfl)) | rfl
      refine ⟨lA (Below.refl _ _) _, _, rfl, (blk_new _ _).trans ?_⟩
      first
        | rfl
        | (show some _ = some ((fun vs : List Value => (.cells #[vs.getD 0 undef, vs.getD 1 undef] 25 (0, 0) : Obj)) ([4, 5].map val)); simp only [List.map_cons, List.map_nil, List.getD_cons_zero, List.getD_cons_succ, i64_w, q4, q5, hn1, hn2]; done)
        | (show some _ = some ((fun vs : List Value => (.cells #[vs.getD 0 undef, vs.getD 1 undef] 25 (0, 0) : Obj)) ([4, 5].map val)); simp only [List.map_cons, List.map_nil, List.getD_cons_zero, List.getD_cons_succ, i64_w, q4, q5, hn1, hn2]; rfl)
    case s7 =>
      refine stepAt_of rfl rfl rfl rfl (fun val w' hB h => ?_)
      obtain ⟨g6, q6, _⟩ := h 6 uO _ rfl
      refine does_value (v := ?_) (w1 := ?_) ?_ ?_
      rotate_left 2
      · go_simp
        first | (with_reducible rfl) | (constructor; (· rfl); (· rfl)) | rfl
      refine ⟨Below.refl _ _, ?_⟩
      first
        | rfl
        | (show _ = (fun vs : List Value => (.agg #[vs.getD 0 undef] : Value)) ([6].map val); simp only [List.map_cons, List.map_nil, List.getD_cons_zero, List.getD_cons_succ, i64_w, q6, hn1, hn2]; done)
        | (show _ = (fun vs : List Value => (.agg #[vs.getD 0 undef] : Value)) ([6].map val); simp only [List.map_cons, List.map_nil, List.getD_cons_zero, List.getD_cons_succ, i64_w, q6, hn1, hn2]; rfl)
    case s8 =>
      refine stepAt_of rfl rfl rfl rfl (fun val w' hB h => ?_)
      refine does_value (v := ?_) (w1 := ?_) ?_ ?_
      rotate_left 2
      · go_simp
        first | (with_reducible rfl) | (constructor; (· rfl); (· rfl)) | rfl
      refine ⟨Below.refl _ _, ?_⟩
      first
        | rfl
        | (show _ = (fun vs : List Value => (.int .i64 c : Value)) ([].map val); simp only [List.map_cons, List.map_nil, List.getD_cons_zero, List.getD_cons_succ, i64_w, hn1, hn2]; done)
        | (show _ = (fun vs : List Value => (.int .i64 c : Value)) ([].map val); simp only [List.map_cons, List.map_nil, List.getD_cons_zero, List.getD_cons_succ, i64_w, hn1, hn2]; rfl)
    case s9 =>
      refine stepAt_of rfl rfl rfl rfl (fun val w' hB h => ?_)
      have q8 : val 8 = (fun vs : List Value => .int .i64 c) ([].map val) := h 8 uO _ rfl
      simp only [List.map_cons, List.map_nil] at q8
      refine does_value (v := ?_) (w1 := ?_) ?_ ?_
      rotate_left 2
      · go_simp
        first | (with_reducible rfl) | (constructor; (· rfl); (· rfl)) | rfl
      refine ⟨Below.refl _ _, ?_⟩
      first
        | rfl
        | (show _ = (fun vs : List Value => (.int .i64 n1 : Value)) ([8].map val); simp only [List.map_cons, List.map_nil, List.getD_cons_zero, List.getD_cons_succ, i64_w, q8, hn1, hn2]; done)
        | (show _ = (fun vs : List Value => (.int .i64 n1 : Value)) ([8].map val); simp only [List.map_cons, List.map_nil, List.getD_cons_zero, List.getD_cons_succ, i64_w, q8, hn1, hn2]; rfl)
    case s10 =>
      refine stepAt_of rfl rfl rfl rfl (fun val w' hB h => ?_)
      have q9 : val 9 = (fun vs : List Value => .int .i64 n1) ([8].map val) := h 9 uO _ rfl
      simp only [List.map_cons, List.map_nil] at q9
      refine does_value (v := ?_) (w1 := ?_) ?_ ?_
      rotate_left 2
      · go_simp
        first | (with_reducible rfl) | (constructor; (· rfl); (· rfl)) | rfl
      refine ⟨lA (Below.refl _ _) _, _, rfl, (blk_new _ _).trans ?_⟩
      first
        | rfl
        | (show some _ = some ((fun vs : List Value => (.cells #[.int .i64 n1] 3 (0, 0) : Obj)) ([9].map val)); simp only [List.map_cons, List.map_nil, List.getD_cons_zero, List.getD_cons_succ, i64_w, q9, hn1, hn2]; done)
        | (show some _ = some ((fun vs : List Value => (.cells #[.int .i64 n1] 3 (0, 0) : Obj)) ([9].map val)); simp only [List.map_cons, List.map_nil, List.getD_cons_zero, List.getD_cons_succ, i64_w, q9, hn1, hn2]; rfl)
    case s11 =>
      refine stepAt_of rfl rfl rfl rfl (fun val w' hB h => ?_)
      obtain ⟨g10, q10, _⟩ := h 10 uO _ rfl
      refine does_value (v := ?_) (w1 := ?_) ?_ ?_
      rotate_left 2
      · go_simp
        first | (with_reducible rfl) | (constructor; (· rfl); (· rfl)) | rfl
      refine ⟨lA (Below.refl _ _) _, _, rfl, (blk_new _ _).trans ?_⟩
      first
        | rfl
        | (show some _ = some ((fun vs : List Value => (.cells #[vs.getD 0 undef] 25 (0, 0) : Obj)) ([10].map val)); simp only [List.map_cons, List.map_nil, List.getD_cons_zero, List.getD_cons_succ, i64_w, q10, hn1, hn2]; done)
        | (show some _ = some ((fun vs : List Value => (.cells #[vs.getD 0 undef] 25 (0, 0) : Obj)) ([10].map val)); simp only [List.map_cons, List.map_nil, List.getD_cons_zero, List.getD_cons_succ, i64_w, q10, hn1, hn2]; rfl)
    case s12 =>
      refine stepAt_of rfl rfl rfl rfl (fun val w' hB h => ?_)
      obtain ⟨g11, q11, _⟩ := h 11 uO _ rfl
      refine does_value (v := ?_) (w1 := ?_) ?_ ?_
      rotate_left 2
      · go_simp
        first | (with_reducible rfl) | (constructor; (· rfl); (· rfl)) | rfl
      refine ⟨Below.refl _ _, ?_⟩
      first
        | rfl
        | (show _ = (fun vs : List Value => (.agg #[vs.getD 0 undef] : Value)) ([11].map val); simp only [List.map_cons, List.map_nil, List.getD_cons_zero, List.getD_cons_succ, i64_w, q11, hn1, hn2]; done)
        | (show _ = (fun vs : List Value => (.agg #[vs.getD 0 undef] : Value)) ([11].map val); simp only [List.map_cons, List.map_nil, List.getD_cons_zero, List.getD_cons_succ, i64_w, q11, hn1, hn2]; rfl)
    case s13 =>
      refine stepAt_of rfl rfl rfl rfl (fun val w' hB h => ?_)
      refine does_value (v := ?_) (w1 := ?_) ?_ ?_
      rotate_left 2
      · go_simp
        first | (with_reducible rfl) | (constructor; (· rfl); (· rfl)) | rfl
      refine ⟨Below.refl _ _, ?_⟩
      first
        | rfl
        | (show _ = (fun vs : List Value => (.int .i64 c : Value)) ([].map val); simp only [List.map_cons, List.map_nil, List.getD_cons_zero, List.getD_cons_succ, i64_w, hn1, hn2]; done)
        | (show _ = (fun vs : List Value => (.int .i64 c : Value)) ([].map val); simp only [List.map_cons, List.map_nil, List.getD_cons_zero, List.getD_cons_succ, i64_w, hn1, hn2]; rfl)
    case s14 =>
      refine stepAt_of rfl rfl rfl rfl (fun val w' hB h => ?_)
      have q13 : val 13 = (fun vs : List Value => .int .i64 c) ([].map val) := h 13 uO _ rfl
      simp only [List.map_cons, List.map_nil] at q13
      refine does_value (v := ?_) (w1 := ?_) ?_ ?_
      rotate_left 2
      · go_simp
        first | (with_reducible rfl) | (constructor; (· rfl); (· rfl)) | rfl
      refine ⟨Below.refl _ _, ?_⟩
      first
        | rfl
        | (show _ = (fun vs : List Value => (.int .i64 n2 : Value)) ([13].map val); simp only [List.map_cons, List.map_nil, List.getD_cons_zero, List.getD_cons_succ, i64_w, q13, hn1, hn2]; done)
        | (show _ = (fun vs : List Value => (.int .i64 n2 : Value)) ([13].map val); simp only [List.map_cons, List.map_nil, List.getD_cons_zero, List.getD_cons_succ, i64_w, q13, hn1, hn2]; rfl)
    case s15 =>
      refine stepAt_of rfl rfl rfl rfl (fun val w' hB h => ?_)
      have q14 : val 14 = (fun vs : List Value => .int .i64 n2) ([13].map val) := h 14 uO _ rfl
      simp only [List.map_cons, List.map_nil] at q14
      refine does_value (v := ?_) (w1 := ?_) ?_ ?_
      rotate_left 2
      · go_simp
        first | (with_reducible rfl) | (constructor; (· rfl); (· rfl)) | rfl
      refine ⟨lA (Below.refl _ _) _, _, rfl, (blk_new _ _).trans ?_⟩
      first
        | rfl
        | (show some _ = some ((fun vs : List Value => (.cells #[.int .i64 n2] 3 (0, 0) : Obj)) ([14].map val)); simp only [List.map_cons, List.map_nil, List.getD_cons_zero, List.getD_cons_succ, i64_w, q14, hn1, hn2]; done)
        | (show some _ = some ((fun vs : List Value => (.cells #[.int .i64 n2] 3 (0, 0) : Obj)) ([14].map val)); simp only [List.map_cons, List.map_nil, List.getD_cons_zero, List.getD_cons_succ, i64_w, q14, hn1, hn2]; rfl)
    case s16 =>
      refine stepAt_of rfl rfl rfl rfl (fun val w' hB h => ?_)
      obtain ⟨g15, q15, _⟩ := h 15 uO _ rfl
      refine does_value (v := ?_) (w1 := ?_) ?_ ?_
      rotate_left 2
      · go_simp
        first | (with_reducible rfl) | (constructor; (· rfl); (· rfl)) | rfl
      refine ⟨lA (Below.refl _ _) _, _, rfl, (blk_new _ _).trans ?_⟩
      first
        | rfl
        | (show some _ = some ((fun vs : List Value => (.cells #[vs.getD 0 undef] 25 (0, 0) : Obj)) ([15].map val)); simp only [List.map_cons, List.map_nil, List.getD_cons_zero, List.getD_cons_succ, i64_w, q15, hn1, hn2]; done)
        | (show some _ = some ((fun vs : List Value => (.cells #[vs.getD 0 undef] 25 (0, 0) : Obj)) ([15].map val)); simp only [List.map_cons, List.map_nil, List.getD_cons_zero, List.getD_cons_succ, i64_w, q15, hn1, hn2]; rfl)
    case s17 =>
      refine stepAt_of rfl rfl rfl rfl (fun val w' hB h => ?_)
      obtain ⟨g16, q16, _⟩ := h 16 uO _ rfl
      refine does_value (v := ?_) (w1 := ?_) ?_ ?_
      rotate_left 2
      · go_simp
        first | (with_reducible rfl) | (constructor; (· rfl); (· rfl)) | rfl
      refine ⟨Below.refl _ _, ?_⟩
      first
        | rfl
        | (show _ = (fun vs : List Value => (.agg #[vs.getD 0 undef] : Value)) ([16].map val); simp only [List.map_cons, List.map_nil, List.getD_cons_zero, List.getD_cons_succ, i64_w, q16, hn1, hn2]; done)
        | (show _ = (fun vs : List Value => (.agg #[vs.getD 0 undef] : Value)) ([16].map val); simp only [List.map_cons, List.map_nil, List.getD_cons_zero, List.getD_cons_succ, i64_w, q16, hn1, hn2]; rfl)
    case s18 =>
      refine stepAt_of rfl rfl rfl rfl (fun val w' hB h => ?_)
      obtain ⟨i25_, hi_, hz_, hs_, hy_⟩ := info_parts matf_info25
      have hk_ := run_make (P := Try.prog) w' 22 25 i25_ (.slice none 0 0) Try.underlying22 hi_ hz_ .i64 .i64 13 13 uP (Int.le_refl _) (by rw [hy_]; omega) uP
      rw [hs_, Nat.mul_one] at hk_
      refine does_value (v := ?_) (w1 := ?_) ?_ ?_
      rotate_left 2
      · go_simp
        constructor <;> rfl
      exact ⟨lA (Below.refl _ _) _, _, rfl, blk_new _ _⟩
    case s19 =>
      refine stepAt_of rfl rfl rfl rfl (fun val w' hB h => ?_)
      obtain ⟨g18, q18, _⟩ := h 18 uO _ rfl
      refine does_value (v := ?_) (w1 := ?_) ?_ ?_
      rotate_left 2
      · go_simp
        first | (with_reducible rfl) | (constructor; (· rfl); (· rfl)) | rfl
      refine ⟨Below.refl _ _, ?_⟩
      first
        | rfl
        | (show _ = (fun vs : List Value => (.agg #[vs.getD 0 undef] : Value)) ([18].map val); simp only [List.map_cons, List.map_nil, List.getD_cons_zero, List.getD_cons_succ, i64_w, q18, hn1, hn2]; done)
        | (show _ = (fun vs : List Value => (.agg #[vs.getD 0 undef] : Value)) ([18].map val); simp only [List.map_cons, List.map_nil, List.getD_cons_zero, List.getD_cons_succ, i64_w, q18, hn1, hn2]; rfl)
    case s20 =>
      refine stepAt_of rfl rfl rfl rfl (fun val w' hB h => ?_)
      obtain ⟨i3_, hi_, hz_, hs_, hy_⟩ := info_parts matf_info3
      have hk_ := run_make (P := Try.prog) w' 25 3 i3_ (.int .i64 0) Try.underlying25 hi_ hz_ .i64 .i64 13 13 uP (Int.le_refl _) (by rw [hy_]; omega) uP
      rw [hs_, Nat.mul_one] at hk_
      refine does_value (v := ?_) (w1 := ?_) ?_ ?_
      rotate_left 2
      · go_simp
        constructor <;> rfl
      exact ⟨lA (Below.refl _ _) _, _, rfl, blk_new _ _⟩
    case s21 =>
      refine stepAt_of rfl rfl rfl rfl (fun val w' hB h => ?_)
      obtain ⟨g20, q20, _⟩ := h 20 uO _ rfl
      refine does_value (v := ?_) (w1 := ?_) ?_ ?_
      rotate_left 2
      · go_simp
        first | (with_reducible rfl) | (constructor; (· rfl); (· rfl)) | rfl
      refine ⟨lA (Below.refl _ _) _, _, rfl, (blk_new _ _).trans ?_⟩
      first
        | rfl
        | (show some _ = some ((fun vs : List Value => (.cells #[vs.getD 0 undef] 25 (0, 0) : Obj)) ([20].map val)); simp only [List.map_cons, List.map_nil, List.getD_cons_zero, List.getD_cons_succ, i64_w, q20, hn1, hn2]; done)
        | (show some _ = some ((fun vs : List Value => (.cells #[vs.getD 0 undef] 25 (0, 0) : Obj)) ([20].map val)); simp only [List.map_cons, List.map_nil, List.getD_cons_zero, List.getD_cons_succ, i64_w, q20, hn1, hn2]; rfl)
    case s22 =>
      refine stepAt_of rfl rfl rfl rfl (fun val w' hB h => ?_)
      obtain ⟨g21, q21, _⟩ := h 21 uO _ rfl
      refine does_value (v := ?_) (w1 := ?_) ?_ ?_
      rotate_left 2
      · go_simp
        first | (with_reducible rfl) | (constructor; (· rfl); (· rfl)) | rfl
      refine ⟨Below.refl _ _, ?_⟩
      first
        | rfl
        | (show _ = (fun vs : List Value => (.agg #[vs.getD 0 undef] : Value)) ([21].map val); simp only [List.map_cons, List.map_nil, List.getD_cons_zero, List.getD_cons_succ, i64_w, q21, hn1, hn2]; done)
        | (show _ = (fun vs : List Value => (.agg #[vs.getD 0 undef] : Value)) ([21].map val); simp only [List.map_cons, List.map_nil, List.getD_cons_zero, List.getD_cons_succ, i64_w, q21, hn1, hn2]; rfl)
    case s23 =>
      refine stepAt_of rfl rfl rfl rfl (fun val w' hB h => ?_)
      have q0 : val 0 = (fun vs : List Value => .agg #[.slice none 0 0]) ([].map val) := h 0 uO _ rfl
      simp only [List.map_cons, List.map_nil] at q0
      have q3 : val 3 = (fun vs : List Value => .agg #[vs.getD 0 undef]) ([2].map val) := h 3 uO _ rfl
      simp only [List.map_cons, List.map_nil] at q3
      have q7 : val 7 = (fun vs : List Value => .agg #[vs.getD 0 undef]) ([6].map val) := h 7 uO _ rfl
      simp only [List.map_cons, List.map_nil] at q7
      have q12 : val 12 = (fun vs : List Value => .agg #[vs.getD 0 undef]) ([11].map val) := h 12 uO _ rfl
      simp only [List.map_cons, List.map_nil] at q12
      have q17 : val 17 = (fun vs : List Value => .agg #[vs.getD 0 undef]) ([16].map val) := h 17 uO _ rfl
      simp only [List.map_cons, List.map_nil] at q17
      have q19 : val 19 = (fun vs : List Value => .agg #[vs.getD 0 undef]) ([18].map val) := h 19 uO _ rfl
      simp only [List.map_cons, List.map_nil] at q19
      have q22 : val 22 = (fun vs : List Value => .agg #[vs.getD 0 undef]) ([21].map val) := h 22 uO _ rfl
      simp only [List.map_cons, List.map_nil] at q22
      obtain ⟨g2, q2, _⟩ := h 2 uO _ rfl
      obtain ⟨g6, q6, _⟩ := h 6 uO _ rfl
      obtain ⟨g11, q11, _⟩ := h 11 uO _ rfl
      obtain ⟨g16, q16, _⟩ := h 16 uO _ rfl
      obtain ⟨g18, q18, _⟩ := h 18 uO _ rfl
      obtain ⟨g21, q21, _⟩ := h 21 uO _ rfl
      refine does_value (v := ?_) (w1 := ?_) ?_ ?_
      rotate_left 2
      · go_simp
        first | (with_reducible rfl) | (constructor; (· rfl); (· rfl)) | rfl
      refine ⟨lA (Below.refl _ _) _, _, rfl, (blk_new _ _).trans ?_⟩
      first
        | rfl
        | (show some _ = some ((fun vs : List Value => (.cells #[.slice none 0 0, vs.getD 7 undef, vs.getD 8 undef, vs.getD 9 undef, vs.getD 10 undef, vs.getD 11 undef, vs.getD 12 undef] 24 (0, 0) : Obj)) ([0, 3, 7, 12, 17, 19, 22, 2, 6, 11, 16, 18, 21].map val)); simp only [List.map_cons, List.map_nil, List.getD_cons_zero, List.getD_cons_succ, i64_w, q0, q3, q7, q12, q17, q19, q22, q2, q6, q11, q16, q18, q21, hn1, hn2]; done)
        | (show some _ = some ((fun vs : List Value => (.cells #[.slice none 0 0, vs.getD 7 undef, vs.getD 8 undef, vs.getD 9 undef, vs.getD 10 undef, vs.getD 11 undef, vs.getD 12 undef] 24 (0, 0) : Obj)) ([0, 3, 7, 12, 17, 19, 22, 2, 6, 11, 16, 18, 21].map val)); simp only [List.map_cons, List.map_nil, List.getD_cons_zero, List.getD_cons_succ, i64_w, q0, q3, q7, q12, q17, q19, q22, q2, q6, q11, q16, q18, q21, hn1, hn2]; rfl)
    case s24 =>
      refine stepAt_of rfl rfl rfl rfl (fun val w' hB h => ?_)
      obtain ⟨g23, q23, _⟩ := h 23 uO _ rfl
      refine does_value (v := ?_) (w1 := ?_) ?_ ?_
      rotate_left 2
      · go_simp
        first | (with_reducible rfl) | (constructor; (· rfl); (· rfl)) | rfl
      refine ⟨Below.refl _ _, ?_⟩
      first
        | rfl
        | (show _ = (fun vs : List Value => (vs.getD 0 undef : Value)) ([23].map val); simp only [List.map_cons, List.map_nil, List.getD_cons_zero, List.getD_cons_succ, i64_w, q23, hn1, hn2]; done)
        | (show _ = (fun vs : List Value => (vs.getD 0 undef : Value)) ([23].map val); simp only [List.map_cons, List.map_nil, List.getD_cons_zero, List.getD_cons_succ, i64_w, q23, hn1, hn2]; rfl)
  case hend =>
    intro val W hB h
    have e2_ : n2 = -c := by rw [← hn2]; exact wrap64_in uP uP
    have h3_ : n3 = 1 + c := by rw [← hn3]; exact wrap64_in uP uP
    have h4_ : n4 = 1 - c := by rw [← hn4]; exact wrap64_in uP uP
    have h5_ : n5 = 12 + c := by rw [← hn5]; exact wrap64_in uP uP
    have q24 : val 24 = (fun vs : List Value => (vs.getD 0 undef : Value)) ([23].map val) := h 24 uO _ rfl
    obtain ⟨g23, q23, m23⟩ := (show ∃ g, val 23 = .slice (some ⟨g, 0, none⟩) 7 7 ∧ W.heap[g]? = some (.cells #[.slice none 0 0, val 2, val 6, val 11, val 16, val 18, val 21] 24 (0, 0)) from h 23 uO _ rfl)
    obtain ⟨g2, q2, m2⟩ := (show ∃ g, val 2 = .slice (some ⟨g, 0, none⟩) 1 1 ∧ W.heap[g]? = some (.cells #[val 1] 25 (0, 0)) from h 2 uO _ rfl)
    obtain ⟨g1, q1, m1⟩ := (show ∃ g, val 1 = .slice (some ⟨g, 0, none⟩) 0 0 ∧ W.heap[g]? = some (.cells #[] 3 (0, 0)) from h 1 uO _ rfl)
    obtain ⟨g4, q4, m4⟩ := (show ∃ g, val 4 = .slice (some ⟨g, 0, none⟩) 1 1 ∧ W.heap[g]? = some (.cells #[.int .i64 1] 3 (0, 0)) from h 4 uO _ rfl)
    obtain ⟨g5, q5, m5⟩ := (show ∃ g, val 5 = .slice (some ⟨g, 0, none⟩) 2 2 ∧ W.heap[g]? = some (.cells #[.int .i64 1, .int .i64 2] 3 (0, 0)) from h 5 uO _ rfl)
    obtain ⟨g6_, q6, m6⟩ := (show ∃ g, val 6 = .slice (some ⟨g, 0, none⟩) 2 2 ∧ W.heap[g]? = some (.cells #[val 4, val 5] 25 (0, 0)) from h 6 uO _ rfl)
    obtain ⟨g10, q10, m10⟩ := (show ∃ g, val 10 = .slice (some ⟨g, 0, none⟩) 1 1 ∧ W.heap[g]? = some (.cells #[.int .i64 n1] 3 (0, 0)) from h 10 uO _ rfl)
    obtain ⟨g11, q11, m11⟩ := (show ∃ g, val 11 = .slice (some ⟨g, 0, none⟩) 1 1 ∧ W.heap[g]? = some (.cells #[val 10] 25 (0, 0)) from h 11 uO _ rfl)
    obtain ⟨g15, q15, m15⟩ := (show ∃ g, val 15 = .slice (some ⟨g, 0, none⟩) 1 1 ∧ W.heap[g]? = some (.cells #[.int .i64 n2] 3 (0, 0)) from h 15 uO _ rfl)
    obtain ⟨g16, q16, m16⟩ := (show ∃ g, val 16 = .slice (some ⟨g, 0, none⟩) 1 1 ∧ W.heap[g]? = some (.cells #[val 15] 25 (0, 0)) from h 16 uO _ rfl)
    obtain ⟨g18, q18, m18⟩ := (show ∃ g, val 18 = .slice (some ⟨g, 0, none⟩) 13 13 ∧ W.heap[g]? = some (.cells (madeCells #[.slice none 0 0] 13) 25 (0, 0)) from h 18 uO _ rfl)
    obtain ⟨g20, q20, m20⟩ := (show ∃ g, val 20 = .slice (some ⟨g, 0, none⟩) 13 13 ∧ W.heap[g]? = some (.cells (madeCells #[.int .i64 0] 13) 3 (0, 0)) from h 20 uO _ rfl)
    obtain ⟨g21, q21, m21⟩ := (show ∃ g, val 21 = .slice (some ⟨g, 0, none⟩) 1 1 ∧ W.heap[g]? = some (.cells #[val 20] 25 (0, 0)) from h 21 uO _ rfl)
    rw [q2, q6, q11, q16, q18, q21] at m23
    rw [q1] at m2
    rw [q4, q5] at m6
    rw [q10] at m11
    rw [q15] at m16
    rw [q20] at m21
    have hbad := bad_ex hr.1 hr.2 hn1 hn2 hcr m23 m2 m1 m6 m4 m5 m11 m10 m16 m15 m18 m21 m20
    have hB0 := undrew hB
    have z0 := blk_below Z1.out hB0
    have z1 := blk_below Z2.out hB0
    have z2 := blk_below Z3.out hB0
    have z3 := blk_below Z4.out hB0
    have hgood := C_rows [(w1.heap.size, [1, 2]), (w1.heap.size + 1, [3, 4])] z2 uQ (fun x hx => by
      rcases List.mem_cons.1 hx with rfl | hx
      · exact C_ints [1, 2] z0 uO
      · rcases List.mem_cons.1 hx with rfl | hx
        · exact C_ints [3, 4] z1 uO
        · cases hx)
    simp only [List.map_cons, List.map_nil, q23] at q24
    replace q24 : val 24 = .slice (some ⟨g23, 0, none⟩) 7 7 := q24
    have HBW := mk0 (below_step HB.out (Z0.out.trans (hB0.mono Z0.out.size)))
    have BK6 := mk0 z3
    clear h hB hB0 z0 z1 z2 z3 Z0 Z1 Z2 Z3 Z4 q1 q2 q4 q5 q6 q10 q11 q15 q16 q18 q20 q21 q23 m23 m2 m1 m6 m4 m5 m11 m10 m16 m15 m18 m21 m20 HB
    obtain ⟨Ab, nb, l, hx, hC, hl, hm⟩ := hbad
    subst hl
    have p_ := eq_true hr.1
    have q_ := eq_true hr.2
    have E1 := mk0 (MatF.mul_no hkk l [[1, 2], [3, 4]] (fun h => by rw [hm] at h; exact absurd h.1 uO))
    have E2 := mk0 (MatF.mul_no hkk [[1, 2], [3, 4]] l (fun h => by rw [hm] at h; exact absurd h.2.1 uO))
    have E3 := mk0 (show GBase.matrix_Pick.f k l [0] = some ([], 300) by rw [Mat.pick_f hkk, hm]; rfl)
    have E4 := mk0 (show GBase.matrix_Pick.f k [[1, 2], [3, 4]] [n3] = some ([], 300) by rw [Mat.pick_f hkk, if_neg (fun h => by have := h.2.2; simp [Mat.rowsIn] at this; omega)])
    have E5 := mk0 (show GBase.matrix_Pick.f k [[1, 2], [3, 4]] [n2] = some ([], 300) by rw [Mat.pick_f hkk, if_neg (fun h => by have := h.2.2; simp [Mat.rowsIn] at this; omega)])
    have E6 := mk0 (show GBase.matrix_Pick.f k [[1, 2], [3, 4]] [] = some ([], 300) by rw [Mat.pick_f hkk, if_neg (fun h => by have := h.2.1.1; simp at this)])
    have E7 := mk0 (show GBase.matrix_Pick.f k [[1, 2], [3, 4]] (List.replicate 13 0) = some ([], 300) by rw [Mat.pick_f hkk, if_neg (fun h => by have := h.2.1.2; simp at this)])
    have E8 := mk0 (Mat.identity_no (k := k) n4 uP)
    have E9 := mk0 (Mat.identity_no (k := k) n5 uP)
    have M1 := mk0 (show GBase.matrix_May.f k l = some false by rw [Mat.may_f uP, hm])
    have M2 := mk0 (show GBase.matrix_May.f k [[1, 2], [3, 4]] = some true by rw [Mat.may_f uP]; rfl)
    have HC := mk0 hC
    have HG := mk0 hgood
    have HBr := mk0 (Below.refl W.heap.size W)
    clear hC hgood hm hr hcr hb hc h3_ h4_ h5_ e2_
    rw [q24]
    clear q24
    go_wp2_with (first
    | ((with_reducible refine gate_dst (N := 8) rfl ?_); refine box_event uR (N := 8) uR (cs := #[.slice none 0 0]) (t := 24) uJ ?_; intro g8 hg u8 hbox hb; have GE8 := mk0 (show W.heap.size ≤ g8 by rw [hg]; exact below_size uT); have GF8 := mk0 (show w.heap.size ≤ g8 by rw [hg]; exact below_size (by repeat (first | (with_reducible first | exact HBW.out | apply lA | apply lN | apply lD | refine lT ?_ ‹_›) | exact HBW.out))); have hm8a : g8 ≠ g6 := uf; have hm8b := hm8a.symm; have HB := mk0 (below_step (w := w) (by repeat (first | (with_reducible first | exact HBW.out | apply lA | apply lN | apply lD | refine lT ?_ ‹_›) | exact HBW.out)) hb); have n1_ := mk0 (below_step (w := W) uT hb); clear HBr; have HBr := n1_; clear n1_; have BK8 := mk0 hbox; have hc8b : u8.cell? ⟨g6, 0, none⟩ = some (.slice (some ⟨w1.heap.size + 1 + 1, 0, none⟩) 2 2) := (blk_cell (blk_below BK6.out HBr.out) 0).trans rfl; have hf8b := blk_frozen (blk_below BK6.out HBr.out) 0; have hc8c : u8.cell? ⟨g8, 0, none⟩ = some (.slice none 0 0) := (blk_cell hbox 0).trans rfl; have hf8c := blk_frozen hbox 0; clear hbox hg hb)
    | ((with_reducible refine gate_dst (N := 9) rfl ?_); refine box_event uR (N := 9) uR (cs := #[.slice none 0 0]) (t := 24) uJ ?_; intro g9 hg u9 hbox hb; have GE9 := mk0 (show W.heap.size ≤ g9 by rw [hg]; exact below_size uT); have GF9 := mk0 (show w.heap.size ≤ g9 by rw [hg]; exact below_size um); have hm9a : g9 ≠ g6 := uf; have hm9b := hm9a.symm; have hm9c : g9 ≠ g8 := ud; have hm9d := hm9c.symm; replace HB := mk0 (below_step (w := w) um hb); replace HBr := mk0 (below_step (w := W) uT hb); replace BK8 := mk0 (blk_below uS hb); have hc9a : u9.cell? ⟨g8, 0, none⟩ = some (.slice Ab l.length l.length) := (blk_cell BK8.out 0).trans rfl; have hf9a := blk_frozen BK8.out 0; have hc9b : u9.cell? ⟨g6, 0, none⟩ = some (.slice (some ⟨w1.heap.size + 1 + 1, 0, none⟩) 2 2) := (blk_cell (blk_below BK6.out HBr.out) 0).trans rfl; have hf9b := blk_frozen (blk_below BK6.out HBr.out) 0; have hc9c : u9.cell? ⟨g9, 0, none⟩ = some (.slice none 0 0) := (blk_cell hbox 0).trans rfl; have hf9c := blk_frozen hbox 0; clear hbox hg hb)
    | ((with_reducible refine gate_dst (N := 11) rfl ?_); refine box_event uR (N := 11) uR (cs := #[.slice none 0 0]) (t := 24) uJ ?_; intro g11 hg u11 hbox hb; have GE11 := mk0 (show W.heap.size ≤ g11 by rw [hg]; exact below_size uT); have GF11 := mk0 (show w.heap.size ≤ g11 by rw [hg]; exact below_size um); have hm11a : g11 ≠ g6 := uf; have hm11b := hm11a.symm; have hm11c : g11 ≠ g8 := ud; have hm11d := hm11c.symm; replace HB := mk0 (below_step (w := w) um hb); replace HBr := mk0 (below_step (w := W) uT hb); replace BK8 := mk0 (blk_below uS hb); have hc11a : u11.cell? ⟨g8, 0, none⟩ = some (.slice Ab l.length l.length) := (blk_cell BK8.out 0).trans rfl; have hf11a := blk_frozen BK8.out 0; have hc11b : u11.cell? ⟨g6, 0, none⟩ = some (.slice (some ⟨w1.heap.size + 1 + 1, 0, none⟩) 2 2) := (blk_cell (blk_below BK6.out HBr.out) 0).trans rfl; have hf11b := blk_frozen (blk_below BK6.out HBr.out) 0; have hc11c : u11.cell? ⟨g11, 0, none⟩ = some (.slice none 0 0) := (blk_cell hbox 0).trans rfl; have hf11c := blk_frozen hbox 0; clear hbox hg hb)
    | ((with_reducible refine gate_dst (N := 13) rfl ?_); refine box_event uR (N := 13) uR (cs := #[.slice none 0 0]) (t := 24) uJ ?_; intro g13 hg u13 hbox hb; have GE13 := mk0 (show W.heap.size ≤ g13 by rw [hg]; exact below_size uT); have GF13 := mk0 (show w.heap.size ≤ g13 by rw [hg]; exact below_size um); have hm13a : g13 ≠ g6 := uf; have hm13b := hm13a.symm; have hm13c : g13 ≠ g8 := ud; have hm13d := hm13c.symm; replace HB := mk0 (below_step (w := w) um hb); replace HBr := mk0 (below_step (w := W) uT hb); replace BK8 := mk0 (blk_below uS hb); have hc13a : u13.cell? ⟨g8, 0, none⟩ = some (.slice Ab l.length l.length) := (blk_cell BK8.out 0).trans rfl; have hf13a := blk_frozen BK8.out 0; have hc13b : u13.cell? ⟨g6, 0, none⟩ = some (.slice (some ⟨w1.heap.size + 1 + 1, 0, none⟩) 2 2) := (blk_cell (blk_below BK6.out HBr.out) 0).trans rfl; have hf13b := blk_frozen (blk_below BK6.out HBr.out) 0; have hc13c : u13.cell? ⟨g13, 0, none⟩ = some (.slice none 0 0) := (blk_cell hbox 0).trans rfl; have hf13c := blk_frozen hbox 0; clear hbox hg hb)
    | ((with_reducible refine gate_dst (N := 15) rfl ?_); refine box_event uR (N := 15) uR (cs := #[.slice none 0 0]) (t := 24) uJ ?_; intro g15 hg u15 hbox hb; have GE15 := mk0 (show W.heap.size ≤ g15 by rw [hg]; exact below_size uT); have GF15 := mk0 (show w.heap.size ≤ g15 by rw [hg]; exact below_size um); have hm15a : g15 ≠ g6 := uf; have hm15b := hm15a.symm; have hm15c : g15 ≠ g8 := ud; have hm15d := hm15c.symm; replace HB := mk0 (below_step (w := w) um hb); replace HBr := mk0 (below_step (w := W) uT hb); replace BK8 := mk0 (blk_below uS hb); have hc15a : u15.cell? ⟨g8, 0, none⟩ = some (.slice Ab l.length l.length) := (blk_cell BK8.out 0).trans rfl; have hf15a := blk_frozen BK8.out 0; have hc15b : u15.cell? ⟨g6, 0, none⟩ = some (.slice (some ⟨w1.heap.size + 1 + 1, 0, none⟩) 2 2) := (blk_cell (blk_below BK6.out HBr.out) 0).trans rfl; have hf15b := blk_frozen (blk_below BK6.out HBr.out) 0; have hc15c : u15.cell? ⟨g15, 0, none⟩ = some (.slice none 0 0) := (blk_cell hbox 0).trans rfl; have hf15c := blk_frozen hbox 0; clear hbox hg hb)
    | ((with_reducible refine gate_dst (N := 17) rfl ?_); refine box_event uR (N := 17) uR (cs := #[.slice none 0 0]) (t := 24) uJ ?_; intro g17 hg u17 hbox hb; have GE17 := mk0 (show W.heap.size ≤ g17 by rw [hg]; exact below_size uT); have GF17 := mk0 (show w.heap.size ≤ g17 by rw [hg]; exact below_size um); have hm17a : g17 ≠ g6 := uf; have hm17b := hm17a.symm; have hm17c : g17 ≠ g8 := ud; have hm17d := hm17c.symm; replace HB := mk0 (below_step (w := w) um hb); replace HBr := mk0 (below_step (w := W) uT hb); replace BK8 := mk0 (blk_below uS hb); have hc17a : u17.cell? ⟨g8, 0, none⟩ = some (.slice Ab l.length l.length) := (blk_cell BK8.out 0).trans rfl; have hf17a := blk_frozen BK8.out 0; have hc17b : u17.cell? ⟨g6, 0, none⟩ = some (.slice (some ⟨w1.heap.size + 1 + 1, 0, none⟩) 2 2) := (blk_cell (blk_below BK6.out HBr.out) 0).trans rfl; have hf17b := blk_frozen (blk_below BK6.out HBr.out) 0; have hc17c : u17.cell? ⟨g17, 0, none⟩ = some (.slice none 0 0) := (blk_cell hbox 0).trans rfl; have hf17c := blk_frozen hbox 0; clear hbox hg hb)
    | ((with_reducible refine gate_dst (N := 19) rfl ?_); refine box_event uR (N := 19) uR (cs := #[.slice none 0 0]) (t := 24) uJ ?_; intro g19 hg u19 hbox hb; have GE19 := mk0 (show W.heap.size ≤ g19 by rw [hg]; exact below_size uT); have GF19 := mk0 (show w.heap.size ≤ g19 by rw [hg]; exact below_size um); have hm19a : g19 ≠ g6 := uf; have hm19b := hm19a.symm; have hm19c : g19 ≠ g8 := ud; have hm19d := hm19c.symm; replace HB := mk0 (below_step (w := w) um hb); replace HBr := mk0 (below_step (w := W) uT hb); replace BK8 := mk0 (blk_below uS hb); have hc19a : u19.cell? ⟨g8, 0, none⟩ = some (.slice Ab l.length l.length) := (blk_cell BK8.out 0).trans rfl; have hf19a := blk_frozen BK8.out 0; have hc19b : u19.cell? ⟨g6, 0, none⟩ = some (.slice (some ⟨w1.heap.size + 1 + 1, 0, none⟩) 2 2) := (blk_cell (blk_below BK6.out HBr.out) 0).trans rfl; have hf19b := blk_frozen (blk_below BK6.out HBr.out) 0; have hc19c : u19.cell? ⟨g19, 0, none⟩ = some (.slice none 0 0) := (blk_cell hbox 0).trans rfl; have hf19c := blk_frozen hbox 0; clear hbox hg hb)
    | ((with_reducible refine gate_dst (N := 21) rfl ?_); refine box_event uR (N := 21) uR (cs := #[.slice none 0 0]) (t := 24) uJ ?_; intro g21 hg u21 hbox hb; have GE21 := mk0 (show W.heap.size ≤ g21 by rw [hg]; exact below_size uT); have GF21 := mk0 (show w.heap.size ≤ g21 by rw [hg]; exact below_size um); have hm21a : g21 ≠ g6 := uf; have hm21b := hm21a.symm; have hm21c : g21 ≠ g8 := ud; have hm21d := hm21c.symm; replace HB := mk0 (below_step (w := w) um hb); replace HBr := mk0 (below_step (w := W) uT hb); replace BK8 := mk0 (blk_below uS hb); have hc21a : u21.cell? ⟨g8, 0, none⟩ = some (.slice Ab l.length l.length) := (blk_cell BK8.out 0).trans rfl; have hf21a := blk_frozen BK8.out 0; have hc21b : u21.cell? ⟨g6, 0, none⟩ = some (.slice (some ⟨w1.heap.size + 1 + 1, 0, none⟩) 2 2) := (blk_cell (blk_below BK6.out HBr.out) 0).trans rfl; have hf21b := blk_frozen (blk_below BK6.out HBr.out) 0; have hc21c : u21.cell? ⟨g21, 0, none⟩ = some (.slice none 0 0) := (blk_cell hbox 0).trans rfl; have hf21c := blk_frozen hbox 0; clear hbox hg hb)
    | ((with_reducible refine gate_dst (N := 23) rfl ?_); refine box_event uR (N := 23) uR (cs := #[.slice none 0 0]) (t := 24) uJ ?_; intro g23 hg u23 hbox hb; have GE23 := mk0 (show W.heap.size ≤ g23 by rw [hg]; exact below_size uT); have GF23 := mk0 (show w.heap.size ≤ g23 by rw [hg]; exact below_size um); have hm23a : g23 ≠ g6 := uf; have hm23b := hm23a.symm; have hm23c : g23 ≠ g8 := ud; have hm23d := hm23c.symm; replace HB := mk0 (below_step (w := w) um hb); replace HBr := mk0 (below_step (w := W) uT hb); replace BK8 := mk0 (blk_below uS hb); have hc23a : u23.cell? ⟨g8, 0, none⟩ = some (.slice Ab l.length l.length) := (blk_cell BK8.out 0).trans rfl; have hf23a := blk_frozen BK8.out 0; have hc23b : u23.cell? ⟨g6, 0, none⟩ = some (.slice (some ⟨w1.heap.size + 1 + 1, 0, none⟩) 2 2) := (blk_cell (blk_below BK6.out HBr.out) 0).trans rfl; have hf23b := blk_frozen (blk_below BK6.out HBr.out) 0; have hc23c : u23.cell? ⟨g23, 0, none⟩ = some (.slice none 0 0) := (blk_cell hbox 0).trans rfl; have hf23c := blk_frozen hbox 0; clear hbox hg hb)
    | ((with_reducible refine gate_dst (N := 25) rfl ?_); refine box_event uR (N := 25) uR (cs := #[.slice none 0 0]) (t := 24) uJ ?_; intro g25 hg u25 hbox hb; have GE25 := mk0 (show W.heap.size ≤ g25 by rw [hg]; exact below_size uT); have GF25 := mk0 (show w.heap.size ≤ g25 by rw [hg]; exact below_size um); have hm25a : g25 ≠ g6 := uf; have hm25b := hm25a.symm; have hm25c : g25 ≠ g8 := ud; have hm25d := hm25c.symm; replace HB := mk0 (below_step (w := w) um hb); replace HBr := mk0 (below_step (w := W) uT hb); replace BK8 := mk0 (blk_below uS hb); have hc25a : u25.cell? ⟨g8, 0, none⟩ = some (.slice Ab l.length l.length) := (blk_cell BK8.out 0).trans rfl; have hf25a := blk_frozen BK8.out 0; have hc25b : u25.cell? ⟨g6, 0, none⟩ = some (.slice (some ⟨w1.heap.size + 1 + 1, 0, none⟩) 2 2) := (blk_cell (blk_below BK6.out HBr.out) 0).trans rfl; have hf25b := blk_frozen (blk_below BK6.out HBr.out) 0; have hc25c : u25.cell? ⟨g25, 0, none⟩ = some (.slice none 0 0) := (blk_cell hbox 0).trans rfl; have hf25c := blk_frozen hbox 0; clear hbox hg hb)
    | ((with_reducible refine gCa (f := 28) (xs := #[.tmp 68, .tmp 69]) rfl ?_); refine goesL_ (some 70) rfl rfl Try.func28 uN rfl #[.agg #[.slice Ab l.length l.length], .agg #[.slice (some ⟨w1.heap.size + 1 + 1, 0, none⟩) 2 2]] rfl un ?_; refine (GMulF.matrix_Mul.calls k Ab l.length l (some ⟨w1.heap.size + 1 + 1, 0, none⟩) 2 [[1, 2], [3, 4]] [] 300 _ (Kd.C_below HC.out uT) (Nat.le_refl _) (Kd.C_below HG.out uT) (Nat.le_refl _) E1.out).mono ?_; rintro e u70 ⟨v0, rfl, ho, hb⟩; obtain ⟨Ac70, cc70, rfl⟩ := Kd.S_slice ho; refine ⟨_, rfl, ?_⟩; clear ho; replace HB := mk0 (below_step (w := w) um hb); replace HBr := mk0 (below_step (w := W) uT hb); replace BK8 := mk0 (blk_below uS hb);  clear hb)
    | ((with_reducible refine gCa (f := 28) (xs := #[.tmp 74, .tmp 75]) rfl ?_); refine goesL_ (some 76) rfl rfl Try.func28 uN rfl #[.agg #[.slice (some ⟨w1.heap.size + 1 + 1, 0, none⟩) 2 2], .agg #[.slice Ab l.length l.length]] rfl un ?_; refine (GMulF.matrix_Mul.calls k (some ⟨w1.heap.size + 1 + 1, 0, none⟩) 2 [[1, 2], [3, 4]] Ab l.length l [] 300 _ (Kd.C_below HG.out uT) (Nat.le_refl _) (Kd.C_below HC.out uT) (Nat.le_refl _) E2.out).mono ?_; rintro e u76 ⟨v0, rfl, ho, hb⟩; obtain ⟨Ac76, cc76, rfl⟩ := Kd.S_slice ho; refine ⟨_, rfl, ?_⟩; clear ho; replace HB := mk0 (below_step (w := w) um hb); replace HBr := mk0 (below_step (w := W) uT hb); replace BK8 := mk0 (blk_below uS hb);  clear hb)
    | ((with_reducible refine gCa (f := 30) (xs := #[.tmp 80, .tmp 81]) rfl ?_); refine goesL_ (some 82) rfl rfl Try.func30 uN rfl #[.agg #[.slice Ab l.length l.length], .slice (some ⟨u11.heap.size, 0, none⟩) 1 1] rfl un ?_; refine (GBase.matrix_Pick.calls k Ab l.length l _ 1 [0] [] 300 _ (Kd.C_below HC.out uT) (Nat.le_refl _) (C_ints [0] (by have e_ : (u11.setCell ⟨g11, 0, none⟩ (.slice Ac76 0 cc76)).heap.size = u11.heap.size := (by simp [World.setCell]); have h_ := blk_new (u11.setCell ⟨g11, 0, none⟩ (.slice Ac76 0 cc76)) (.cells #[.int .i64 0] 3 (0, 0)); rw [e_] at h_; exact h_) uQ) (Nat.le_refl _) E3.out).mono ?_; rintro e u82 ⟨v0, rfl, ho, hb⟩; obtain ⟨Ac82, cc82, rfl⟩ := Kd.S_slice ho; refine ⟨_, rfl, ?_⟩; clear ho; replace HB := mk0 (below_step (w := w) um hb); replace HBr := mk0 (below_step (w := W) uT hb); replace BK8 := mk0 (blk_below uS hb);  clear hb)
    | ((with_reducible refine gCa (f := 30) (xs := #[.tmp 86, .tmp 89]) rfl ?_); refine goesL_ (some 90) rfl rfl Try.func30 uN rfl #[.agg #[.slice (some ⟨w1.heap.size + 1 + 1, 0, none⟩) 2 2], .slice (some ⟨u13.heap.size, 0, none⟩) 1 1] rfl un ?_; refine (GBase.matrix_Pick.calls k (some ⟨w1.heap.size + 1 + 1, 0, none⟩) 2 [[1, 2], [3, 4]] _ 1 [n3] [] 300 _ (Kd.C_below HG.out uT) (Nat.le_refl _) (C_ints [n3] (by have e_ : (u13.setCell ⟨g13, 0, none⟩ (.slice Ac82 0 cc82)).heap.size = u13.heap.size := (by simp [World.setCell]); have h_ := blk_new (u13.setCell ⟨g13, 0, none⟩ (.slice Ac82 0 cc82)) (.cells #[.int .i64 n3] 3 (0, 0)); rw [e_] at h_; exact h_) uQ) (Nat.le_refl _) E4.out).mono ?_; rintro e u90 ⟨v0, rfl, ho, hb⟩; obtain ⟨Ac90, cc90, rfl⟩ := Kd.S_slice ho; refine ⟨_, rfl, ?_⟩; clear ho; replace HB := mk0 (below_step (w := w) um hb); replace HBr := mk0 (below_step (w := W) uT hb); replace BK8 := mk0 (blk_below uS hb);  clear hb)
    | ((with_reducible refine gCa (f := 30) (xs := #[.tmp 94, .tmp 97]) rfl ?_); refine goesL_ (some 98) rfl rfl Try.func30 uN rfl #[.agg #[.slice (some ⟨w1.heap.size + 1 + 1, 0, none⟩) 2 2], .slice (some ⟨u15.heap.size, 0, none⟩) 1 1] rfl un ?_; refine (GBase.matrix_Pick.calls k (some ⟨w1.heap.size + 1 + 1, 0, none⟩) 2 [[1, 2], [3, 4]] _ 1 [n2] [] 300 _ (Kd.C_below HG.out uT) (Nat.le_refl _) (C_ints [n2] (by have e_ : (u15.setCell ⟨g15, 0, none⟩ (.slice Ac90 0 cc90)).heap.size = u15.heap.size := (by simp [World.setCell]); have h_ := blk_new (u15.setCell ⟨g15, 0, none⟩ (.slice Ac90 0 cc90)) (.cells #[.int .i64 n2] 3 (0, 0)); rw [e_] at h_; exact h_) uQ) (Nat.le_refl _) E5.out).mono ?_; rintro e u98 ⟨v0, rfl, ho, hb⟩; obtain ⟨Ac98, cc98, rfl⟩ := Kd.S_slice ho; refine ⟨_, rfl, ?_⟩; clear ho; replace HB := mk0 (below_step (w := w) um hb); replace HBr := mk0 (below_step (w := W) uT hb); replace BK8 := mk0 (blk_below uS hb);  clear hb)
    | ((with_reducible refine gCa (f := 30) (xs := #[.tmp 102, .const (.slice none 0 0)]) rfl ?_); refine goesL_ (some 103) rfl rfl Try.func30 uN rfl #[.agg #[.slice (some ⟨w1.heap.size + 1 + 1, 0, none⟩) 2 2], .slice none 0 0] rfl un ?_; refine (GBase.matrix_Pick.calls k (some ⟨w1.heap.size + 1 + 1, 0, none⟩) 2 [[1, 2], [3, 4]] _ 0 [] [] 300 _ (Kd.C_below HG.out uT) (Nat.le_refl _) (Kd.C_nil _ _) (Nat.le_refl _) E6.out).mono ?_; rintro e u103 ⟨v0, rfl, ho, hb⟩; obtain ⟨Ac103, cc103, rfl⟩ := Kd.S_slice ho; refine ⟨_, rfl, ?_⟩; clear ho; replace HB := mk0 (below_step (w := w) um hb); replace HBr := mk0 (below_step (w := W) uT hb); replace BK8 := mk0 (blk_below uS hb);  clear hb))
    have Z6 := mk0 (show (u19.setCell ⟨g19, 0, none⟩ (.slice Ac103 0 cc103)).heap[g6]? = some (.cells #[.slice (some ⟨w1.heap.size + 1 + 1, 0, none⟩) 2 2] 24 (0, 0)) from blk_below BK6.out uT)
    refine Many2.many_ (matf13_sp (u19.setCell ⟨g19, 0, none⟩ (.slice Ac103 0 cc103)).drew.heap.size (w1.heap.size + 1 + 1)) matf13_D matf13_L 9 ?tmB uN rfl rfl uN uN ?hfB ?hstepB ?hendB
    case hfB => intro val; simp only [matf13_L, Many2.fillL, List.setIfInBounds_toArray, List.set_cons_zero, List.set_cons_succ, Nat.reduceAdd]; rfl
    case hstepB =>
      refine Many2.all_succ ?_ ?sB8
      refine Many2.all_succ ?_ ?sB7
      refine Many2.all_succ ?_ ?sB6
      refine Many2.all_succ ?_ ?sB5
      refine Many2.all_succ ?_ ?sB4
      refine Many2.all_succ ?_ ?sB3
      refine Many2.all_succ ?_ ?sB2
      refine Many2.all_succ ?_ ?sB1
      refine Many2.all_succ ?_ ?sB0
      exact Many2.all_zero
      case sB0 =>
        refine Many2.stepAt_of rfl rfl rfl rfl (fun val w' hB h => ?_)
        have hx_ : w'.cell? ⟨g6, 0, none⟩ = some (.slice (some ⟨w1.heap.size + 1 + 1, 0, none⟩) 2 2) := blk_cell (blk_below Z6.out (undrew hB)) 0
        refine Many2.does_value (v := ?_) (w1 := ?_) ?_ ?_
        rotate_left 2
        · go_simp
          first | (with_reducible rfl) | (constructor; (· rfl); (· rfl)) | rfl
        exact ⟨⟨Below.refl _ _, Many2.Ext.of (Below.refl _ _)⟩, rfl⟩
      case sB1 =>
        refine Many2.stepAt_of rfl rfl rfl rfl (fun val w' hB h => ?_)
        obtain ⟨i3_, hi_, hz_, hs_, hy_⟩ := info_parts matf_info3
        have hk_ := run_make (P := Try.prog) w' 25 3 i3_ (.int .i64 0) Try.underlying25 hi_ hz_ .i64 .i64 13 13 uP (Int.le_refl _) (by rw [hy_]; omega) uP
        rw [hs_, Nat.mul_one] at hk_
        refine Many2.does_value (v := ?_) (w1 := ?_) ?_ ?_
        rotate_left 2
        · go_simp
          constructor <;> rfl
        exact ⟨⟨(lA (Below.refl _ w') _).mono hB.size, Many2.Ext.of (lA (Below.refl _ _) _)⟩, _, rfl, blk_new _ _⟩
      case sB2 =>
        refine Many2.stepAt_of rfl rfl rfl rfl (fun val w' hB h => ?_)
        have q0 : val 0 = .agg #[.slice (some ⟨w1.heap.size + 1 + 1, 0, none⟩) 2 2] := h 0 uO _ rfl
        obtain ⟨g1, q1, m1⟩ := (show ∃ g, val 1 = .slice (some ⟨g, 0, none⟩) 13 13 ∧ w'.heap[g]? = some (.cells (madeCells #[.int .i64 0] 13) 3 (0, 0)) from h 1 uO _ rfl)
        rw [made_rep] at m1
        refine Many2.does_go (fn := Try.f30) uN rfl uN #[.agg #[.slice (some ⟨w1.heap.size + 1 + 1, 0, none⟩) 2 2], .slice (some ⟨g1, 0, none⟩) 13 13] rfl (by simp only [List.map_toArray, List.map_cons, List.map_nil, Act.eval]; go_simp) ?_
        refine (GBase.matrix_Pick.calls k (some ⟨w1.heap.size + 1 + 1, 0, none⟩) 2 [[1, 2], [3, 4]] _ 13 (List.replicate 13 0) [] 300 w' (Kd.C_below HG.out ((uT : Below W.heap.size W (u19.setCell ⟨g19, 0, none⟩ (.slice Ac103 0 cc103))).trans ((undrew hB).mono (below_size uT)))) (Nat.le_refl _) (C_ints (List.replicate 13 0) (by simpa using m1) uQ) uQ E7.out).mono ?_
        rintro e w'' ⟨v0, rfl, ho, hb⟩
        obtain ⟨A_, c_, rfl⟩ := Kd.S_slice ho
        exact ⟨_, rfl, ⟨hb.mono hB.size, Many2.Ext.of hb⟩, _, _, rfl⟩
      case sB3 =>
        refine Many2.stepAt_of rfl rfl rfl rfl (fun val w' hB h => ?_)
        obtain ⟨A_, c_, q2⟩ := (show ∃ A cc, val 2 = .tuple #[.agg #[.slice A 0 cc], .int .i64 300] from h 2 uO _ rfl)
        refine Many2.does_value (v := ?_) (w1 := ?_) ?_ ?_
        rotate_left 2
        · go_simp
          first | (with_reducible rfl) | (constructor; (· rfl); (· rfl)) | rfl
        exact ⟨⟨Below.refl _ _, Many2.Ext.of (Below.refl _ _)⟩, by first | rfl | exact q2.symm⟩
      case sB4 =>
        refine Many2.stepAt_of rfl rfl rfl rfl (fun val w' hB h => ?_)
        obtain ⟨A_, c_, q2⟩ := (show ∃ A cc, val 2 = .tuple #[.agg #[.slice A 0 cc], .int .i64 300] from h 2 uO _ rfl)
        have q3 : val 3 = val 2 := h 3 uO _ rfl
        rw [q2] at q3
        refine Many2.does_value (v := ?_) (w1 := ?_) ?_ ?_
        rotate_left 2
        · go_simp
          first | (with_reducible rfl) | (constructor; (· rfl); (· rfl)) | rfl
        exact ⟨⟨Below.refl _ _, Many2.Ext.of (Below.refl _ _)⟩, _, _, rfl⟩
      case sB5 =>
        refine Many2.stepAt_of rfl rfl rfl rfl (fun val w' hB h => ?_)
        obtain ⟨A_, c_, q2⟩ := (show ∃ A cc, val 2 = .tuple #[.agg #[.slice A 0 cc], .int .i64 300] from h 2 uO _ rfl)
        have q3 : val 3 = val 2 := h 3 uO _ rfl
        rw [q2] at q3
        refine Many2.does_value (v := ?_) (w1 := ?_) ?_ ?_
        rotate_left 2
        · go_simp
          first | (with_reducible rfl) | (constructor; (· rfl); (· rfl)) | rfl
        exact ⟨⟨Below.refl _ _, Many2.Ext.of (Below.refl _ _)⟩, rfl⟩
      case sB6 =>
        refine Many2.stepAt_of rfl rfl rfl rfl (fun val w' hB h => ?_)
        refine Many2.does_value (v := ?_) (w1 := ?_) ?_ ?_
        rotate_left 2
        · go_simp
          first | (with_reducible rfl) | (constructor; (· rfl); (· rfl)) | rfl
        exact ⟨⟨(lA (Below.refl _ w') _).mono hB.size, Many2.Ext.of (lA (Below.refl _ _) _)⟩, _, _, rfl, hB.size, rfl, blk_new _ _⟩
      case sB7 =>
        refine Many2.stepAt_of rfl rfl rfl rfl (fun val w' hB h => ?_)
        obtain ⟨A_, c_, q4⟩ := (show ∃ A cc, val 4 = .agg #[.slice A 0 cc] from h 4 uO _ rfl)
        obtain ⟨g_, cs_, q6, hge_, hs_, hbk_⟩ := (show ∃ g cs, val 6 = .pointer (some ⟨g, 0, none⟩) ∧ (u19.setCell ⟨g19, 0, none⟩ (.slice Ac103 0 cc103)).drew.heap.size ≤ g ∧ cs.size = 1 ∧ w'.heap[g]? = some (.cells cs 24 (0, 0)) from h 6 uO _ rfl)
        obtain ⟨x_, rfl⟩ := Many2.one_cell hs_
        have hx_ : w'.cell? ⟨g_, 0, none⟩ = some x_ := blk_cell hbk_ 0
        have hf_ := blk_frozen hbk_ 0
        refine Many2.does_skip (w1 := w'.setCell ⟨g_, 0, none⟩ (.slice A_ 0 c_)) ?_ rfl ?_
        · go_simp
          try rfl
        exact ⟨⟨Below.setCell (p := ⟨g_, 0, none⟩) (Below.refl _ _) hge_ _, Many2.Ext.put hbk_ 0 _⟩, trivial⟩
      case sB8 =>
        refine Many2.stepAt_of rfl rfl rfl rfl (fun val w' hB h => ?_)
        have q5 : val 5 = .int .i64 300 := h 5 uO _ rfl
        refine Many2.does_value (v := ?_) (w1 := ?_) ?_ ?_
        rotate_left 2
        · go_simp
          first | (with_reducible rfl) | (constructor; (· rfl); (· rfl)) | rfl
        exact ⟨⟨Below.refl _ _, Many2.Ext.of (Below.refl _ _)⟩, by first | rfl | exact q5.symm⟩
    intro val2 W5 hB5 h5
    have r8 : val2 8 = val2 5 := h5 8 uO _ rfl
    have r5 : val2 5 = .int .i64 300 := h5 5 uO _ rfl
    rw [r5] at r8
    have hb5 : Below (u19.setCell ⟨g19, 0, none⟩ (.slice Ac103 0 cc103)).heap.size (u19.setCell ⟨g19, 0, none⟩ (.slice Ac103 0 cc103)) W5 := Many2.undrew hB5
    replace HB := mk0 (below_step (w := w) um hb5)
    replace HBr := mk0 (below_step (w := W) uT hb5)
    replace BK8 := mk0 (blk_below (g := g8) (o := .cells #[.slice Ab l.length l.length] 24 (0, 0)) uS hb5)
    clear h5 hB5 hb5 r5 Z6
    rw [r8]
    clear r8
    go_wp2_with (first
    | ((with_reducible refine gate_dst (N := 23) rfl ?_); refine box_event uR (N := 23) uR (cs := #[.slice none 0 0]) (t := 24) uJ ?_; intro g23 hg u23 hbox hb; have GE23 := mk0 (show W.heap.size ≤ g23 by rw [hg]; exact below_size uT); have GF23 := mk0 (show w.heap.size ≤ g23 by rw [hg]; exact below_size um); have hm23a : g23 ≠ g6 := uf; have hm23b := hm23a.symm; have hm23c : g23 ≠ g8 := ud; have hm23d := hm23c.symm; replace HB := mk0 (below_step (w := w) um hb); replace HBr := mk0 (below_step (w := W) uT hb); replace BK8 := mk0 (blk_below uS hb); have hc23a : u23.cell? ⟨g8, 0, none⟩ = some (.slice Ab l.length l.length) := (blk_cell BK8.out 0).trans rfl; have hf23a := blk_frozen BK8.out 0; have hc23b : u23.cell? ⟨g6, 0, none⟩ = some (.slice (some ⟨w1.heap.size + 1 + 1, 0, none⟩) 2 2) := (blk_cell (blk_below BK6.out HBr.out) 0).trans rfl; have hf23b := blk_frozen (blk_below BK6.out HBr.out) 0; have hc23c : u23.cell? ⟨g23, 0, none⟩ = some (.slice none 0 0) := (blk_cell hbox 0).trans rfl; have hf23c := blk_frozen hbox 0; clear hbox hg hb)
    | ((with_reducible refine gate_dst (N := 25) rfl ?_); refine box_event uR (N := 25) uR (cs := #[.slice none 0 0]) (t := 24) uJ ?_; intro g25 hg u25 hbox hb; have GE25 := mk0 (show W.heap.size ≤ g25 by rw [hg]; exact below_size uT); have GF25 := mk0 (show w.heap.size ≤ g25 by rw [hg]; exact below_size um); have hm25a : g25 ≠ g6 := uf; have hm25b := hm25a.symm; have hm25c : g25 ≠ g8 := ud; have hm25d := hm25c.symm; replace HB := mk0 (below_step (w := w) um hb); replace HBr := mk0 (below_step (w := W) uT hb); replace BK8 := mk0 (blk_below uS hb); have hc25a : u25.cell? ⟨g8, 0, none⟩ = some (.slice Ab l.length l.length) := (blk_cell BK8.out 0).trans rfl; have hf25a := blk_frozen BK8.out 0; have hc25b : u25.cell? ⟨g6, 0, none⟩ = some (.slice (some ⟨w1.heap.size + 1 + 1, 0, none⟩) 2 2) := (blk_cell (blk_below BK6.out HBr.out) 0).trans rfl; have hf25b := blk_frozen (blk_below BK6.out HBr.out) 0; have hc25c : u25.cell? ⟨g25, 0, none⟩ = some (.slice none 0 0) := (blk_cell hbox 0).trans rfl; have hf25c := blk_frozen hbox 0; clear hbox hg hb)
    | ((with_reducible refine gCa (f := 32) (xs := #[.tmp 114]) rfl ?_); refine goesL_ (some 115) rfl rfl Try.func32 uN rfl #[.int .i64 n4] rfl un ?_; refine (GBase.matrix_Identity.calls k n4 [] 300 _ E8.out).mono ?_; rintro e u115 ⟨v0, rfl, ho, hb⟩; obtain ⟨Ac115, cc115, rfl⟩ := Kd.S_slice ho; refine ⟨_, rfl, ?_⟩; clear ho; replace HB := mk0 (below_step (w := w) um hb); replace HBr := mk0 (below_step (w := W) uT hb); replace BK8 := mk0 (blk_below uS hb);  clear hb)
    | ((with_reducible refine gCa (f := 32) (xs := #[.tmp 120]) rfl ?_); refine goesL_ (some 121) rfl rfl Try.func32 uN rfl #[.int .i64 n5] rfl un ?_; refine (GBase.matrix_Identity.calls k n5 [] 300 _ E9.out).mono ?_; rintro e u121 ⟨v0, rfl, ho, hb⟩; obtain ⟨Ac121, cc121, rfl⟩ := Kd.S_slice ho; refine ⟨_, rfl, ?_⟩; clear ho; replace HB := mk0 (below_step (w := w) um hb); replace HBr := mk0 (below_step (w := W) uT hb); replace BK8 := mk0 (blk_below uS hb);  clear hb)
    | ((with_reducible refine gCa (f := 36) (xs := #[.tmp 124]) rfl ?_); refine goesL_ (some 125) rfl rfl Try.func36 uN rfl #[.agg #[.slice Ab l.length l.length]] rfl un ?_; refine (GBase.matrix_May.calls k Ab l.length l false _ (Kd.C_below HC.out uT) (Nat.le_refl _) M1.out).mono ?_; rintro e u125 ⟨rfl, hb⟩; refine ⟨_, rfl, ?_⟩; replace HB := mk0 (below_step (w := w) um hb); replace HBr := mk0 (below_step (w := W) uT hb); replace BK8 := mk0 (blk_below uS hb);  clear hb; have hz125a : u125.cell? ⟨g6, 0, none⟩ = some (.slice (some ⟨w1.heap.size + 1 + 1, 0, none⟩) 2 2) := (blk_cell (blk_below BK6.out HBr.out) 0).trans rfl)
    | (go_at_call 36; refine (GBase.matrix_May.calls k (some ⟨w1.heap.size + 1 + 1, 0, none⟩) 2 [[1, 2], [3, 4]] true _ (Kd.C_below HG.out uT) (Nat.le_refl _) M2.out).mono ?_; rintro e u129 ⟨rfl, hb⟩; replace HB := mk0 (below_step (w := w) um hb); replace HBr := mk0 (below_step (w := W) uT hb); replace BK8 := mk0 (blk_below uS hb);  clear hb)
    | (go_at_call 35; (with_reducible refine (GBase.ossuarylaw0_Num.calls 300 300 _ rfl).mono ?_); rintro e w' ⟨rfl, ⟨nd, rfl⟩⟩))
    go_ret
    exact ⟨rfl, um⟩
end Go.Proofs.Ytaahnicjjpddjaa.MatW
