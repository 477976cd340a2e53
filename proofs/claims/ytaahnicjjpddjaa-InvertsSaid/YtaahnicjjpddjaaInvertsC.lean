/- Any matrix's inverse: what the call of the law comes to. -/
import Derived.Test.YtaahnicjjpddjaaRefInvNo
import Derived.Test.YtaahnicjjpddjaaGRef7
import Derived.Test.YtaahnicjjpddjaaGInverts1
import Derived.Test.YtaahnicjjpddjaaGRef1
/- A matrix of one's own, written over: the call's walk, by hand. Plain; no condition but the size. -/
namespace Go.Proofs.Ytaahnicjjpddjaa.Pr
open Go.RowKit Go.Proofs.YtaahnicjjpddjaaW.PrintWords Go.Proofs.YtaahnicjjpddjaaW.PrintLast Go.Proofs.YtaahnicjjpddjaaW.PrintMore Go.Proofs.Ytaahnicjjpddjaa.Fld Go.Proofs.Ytaahnicjjpddjaa.Mat Go.Proofs.Ytaahnicjjpddjaa.GRef

theorem spoil_some (d : Nat) : ∀ (k : Nat) (l : List Int) (i : Nat), l.length ≤ 100 → i + d = l.length → d < k → ∃ r, ossuarylaw0_SpoilInts.l0 k l (i : Int) = some r := by
  induction d with
  | zero =>
    intro k l i hl hi hk
    obtain ⟨k, rfl⟩ : ∃ m, k = m + 1 := ⟨k - 1, by omega⟩
    exact ⟨l, by simp only [ossuarylaw0_SpoilInts.l0]; rw [if_neg (by omega)]⟩
  | succ d ih =>
    intro k l i hl hi hk
    obtain ⟨k, rfl⟩ : ∃ m, k = m + 1 := ⟨k - 1, by omega⟩
    obtain ⟨r, hr⟩ := ih k (l.set i (wrap64 ((-9) - (rd l (i : Int))))) (i + 1) (by rw [List.length_set]; exact hl) (by rw [List.length_set]; omega) (by omega)
    refine ⟨r, ?_⟩
    simp only [ossuarylaw0_SpoilInts.l0]
    rw [if_pos (by omega), if_pos (by omega), Int.toNat_natCast, succ_wrap i (by omega)]
    exact hr
/-- one row. -/
theorem spoil_row {W0 w : World} {h : Nat × Nat} {n : Nat} {r : Nat → F} (hn : n ≤ 12) (hB : Below W0.heap.size W0 w) (hr : RowAt w h n r) (hN : W0.heap.size ≤ h.1) :
    Calls Try.prog 76 #[.slice (some ⟨h.1, 0, none⟩) n h.2] w fun e w' => e = .returned (.tuple #[]) ∧ Below W0.heap.size W0 w' ∧ Kept w w' (fun k => k = h.1) := by
  obtain ⟨l, hl⟩ := spoil_some n 40 (rowOf (fun j => toI (r j)) n) 0 (by rw [rowOf_length]; omega) (by rw [rowOf_length]; omega) (by omega)
  refine (ossuarylaw0_SpoilInts.calls 40 (fun k => k = h.1) _ (rowOf (fun j => toI (r j)) n) l W0 w hB (R_of_row hr hN rfl) hl).mono ?_
  rintro e w' ⟨rfl, _, hB', hK⟩
  exact ⟨rfl, hB', hK⟩
/-- what stands while rows are written over: those from i on as they were. -/
structure Spl (W0 w : World) (n g C : Nat) (hs : Nat → Nat × Nat) (v : Nat → Nat → F) (i : Nat) : Prop where
  below : Below W0.heap.size W0 w
  out : OutAt w g C n hs
  row : ∀ k, i ≤ k → k < n → RowAt w (hs k) n (v k)
theorem Spl.of_eq {W0 w w' : World} {n g C : Nat} {hs : Nat → Nat × Nat} {v : Nat → Nat → F} {i : Nat} (H : Spl W0 w n g C hs v i) (hB : Below W0.heap.size W0 w') (e : ∀ (k : Nat) (o : Obj), w.heap[k]? = some o → w'.heap[k]? = some o) : Spl W0 w' n g C hs v i :=
  ⟨hB, H.out.of_eq (e _), fun k h1 h2 => (H.row k h1 h2).of_eq (e _)⟩
def SplEnd (W0 : World) (e : Ending) (w' : World) : Prop := e = .returned (.tuple #[]) ∧ Below W0.heap.size W0 w'
set_option maxHeartbeats 2000000 in
set_option maxRecDepth 100000 in
theorem spoil_calls (W0 : World) (n g C : Nat) (hs : Nat → Nat × Nat) (v : Nat → Nat → F) (w : World) (hn : n ≤ 12) (hB : Below W0.heap.size W0 w) (hO : OutAt w g C n hs)
    (hR : ∀ i, i < n → RowAt w (hs i) n (v i) ∧ W0.heap.size ≤ (hs i).1) (hA : ∀ i j, i < n → j < n → (hs i).1 = (hs j).1 → i = j) :
    Calls Try.prog 38 #[.agg #[.slice (some ⟨g, 0, none⟩) n C]] w (SplEnd W0) := by
  have hu24 := Try.underlying24
  have HS := Aside0.mk (show Spl W0 w n g C hs v 0 from ⟨hB, hO, fun k _ h => (hR k h).1⟩)
  have HN := Aside0.mk (fun i hi => (hR i hi).2 : ∀ i, i < n → W0.heap.size ≤ (hs i).1)
  have HA := Aside0.mk hA
  clear hB hO hR hA
  go_enter Try.func38, Try.ntmps38
  go_wp2_with (first
    | ((with_reducible refine gate_dst (N := 1) rfl ?_); refine box_event ?hg (N := 1) ?hd (cs := #[.slice (some ⟨g, 0, none⟩) n C]) (t := 24) ?hr ?_; (case hd => rfl); (case hg => rfl); (case hr => first | (go_simp; done) | (go_simp; rfl)); intro gx hg w1 hbox hb;
       have n0_ := Aside0.mk (HS.out.of_eq (below_step HS.out.below hb) (fun _ _ ho => blk_below ho hb)); have n1_ := Aside0.mk hbox;
       clear HS; have HS := n0_; have HBX := n1_; clear n0_ n1_ hb hbox hg))
  go_loopw [2] (fun v2 wr => ∃ i : Nat, v2 = .int .i64 i ∧ i ≤ n ∧ Aside0 (Spl W0 wr n g C hs v i) ∧ Aside0 (wr.heap[gx]? = some (.cells #[.slice (some ⟨g, 0, none⟩) n C] 24 (0, 0)))) (fun v _ => n - (intOf v).toNat)
  case atStart => exact ⟨0, rfl, by omega, HS, HBX⟩
  case round =>
    clear HS HBX
    obtain ⟨i, rfl, hin, HS, HBX⟩ := hrel
    have xb : wr.cell? ⟨gx, 0, none⟩ = some (.slice (some ⟨g, 0, none⟩) n C) := blk_cell HBX.out 0
    by_cases hlt : i < n
    · have q1 : decide ((i : Int) < (n : Int)) = true := decide_eq_true (by omega)
      have x1 : wr.cell? ⟨g, i, none⟩ = some (.slice (some ⟨(hs i).1, 0, none⟩) n (hs i).2) := HS.out.out.cell hlt
      go_wp2_with fail
      refine (spoil_row hn HS.out.below (HS.out.row i (Nat.le_refl _) hlt) (HN.out i hlt)).mono ?_
      rintro e w2 ⟨rfl, hB, hK⟩
      have n0_ := Aside0.mk (show Spl W0 w2 n g C hs v (i + 1) from ⟨hB, HS.out.out.of_eq (fun _ ho => blk_kept ho hK (out_ne_row HS.out.out (HS.out.row i (Nat.le_refl _) hlt))), fun k h1 h2 => (HS.out.row k (by omega) h2).of_eq (fun _ ho => blk_kept ho hK (fun e => by have := HA.out k i h2 hlt e; omega))⟩)
      have n1_ := Aside0.mk (show w2.heap[gx]? = some (.cells #[.slice (some ⟨g, 0, none⟩) n C] 24 (0, 0)) from blk_kept HBX.out hK (by
        obtain ⟨cur, hc⟩ := (HS.out.row i (Nat.le_refl _) hlt).blk
        exact blk_ne HBX.out hc (by decide)))
      clear HS HBX xb x1 hB hK
      go_wp2
      go_roundw
      case rel => exact ⟨i + 1, by go_num, by omega, n0_, n1_⟩
      case measure => simp only [intOf]; omega
    · obtain rfl : n = i := by omega
      have q1 : decide ((n : Int) < (n : Int)) = false := decide_eq_false (by omega)
      go_wp2
      go_end0
      exact ⟨rfl, HS.out.below⟩
set_option maxHeartbeats 2000000 in
theorem spoil_nil (W0 w : World) (A : Option Addr) (c : Nat) (hB : Below W0.heap.size W0 w) : Calls Try.prog 38 #[.agg #[.slice A 0 c]] w (SplEnd W0) := by
  have hu24 := Try.underlying24
  have HB := Aside0.mk hB
  clear hB
  go_enter Try.func38, Try.ntmps38
  go_wp2
  go_loopw [2] (fun v2 wr => v2 = .int .i64 0 ∧ Aside0 (Below W0.heap.size W0 wr) ∧ Aside0 (wr.heap[w.heap.size]? = some (.cells #[.slice A 0 c] 24 (0, 0)))) (fun _ _ => 0)
  case atStart => exact ⟨rfl, ⟨HB.out.alloc HB.out.size _⟩, ⟨blk_new _ _⟩⟩
  case round =>
    obtain ⟨rfl, HB2, HX⟩ := hrel
    have xb : wr.cell? ⟨w.heap.size, 0, none⟩ = some (.slice A 0 c) := blk_cell HX.out 0
    go_wp2
    go_end0
    exact ⟨rfl, HB2.out⟩
end Go.Proofs.Ytaahnicjjpddjaa.Pr

/- The law of any matrix's inverse: the call's walk, by hand. The matrix takes fewer numbers than a slice that is read may take. -/
namespace Go.Proofs.Ytaahnicjjpddjaa.Pr
open Go.RowKit Go.Proofs.YtaahnicjjpddjaaW.PrintWords Go.Proofs.YtaahnicjjpddjaaW.PrintLast Go.Proofs.YtaahnicjjpddjaaW.PrintMore Go.Proofs.Ytaahnicjjpddjaa.Fld Go.Proofs.Ytaahnicjjpddjaa.Mat Go.Proofs.Ytaahnicjjpddjaa.Fn Go.Proofs.Ytaahnicjjpddjaa.GRef

/-- an inverse that came back may be written over. -/
theorem spoilS (W0 w : World) {l r1 : List (List Int)} {r2 : Int} (h : inv.f l = some (r1, r2)) {base : Nat} {ok : Nat → Prop} {v : Value} (hS : Kd.S (Kd.slice 3 (Kd.int .i64)) 25 w base ok v r1) (hb : W0.heap.size ≤ base) (hB : Below W0.heap.size W0 w) :
    Calls Try.prog 38 #[.agg #[v]] w (SplEnd W0) := by
  have nil : r1 = [] → Calls Try.prog 38 #[.agg #[v]] w (SplEnd W0) := by
    rintro rfl
    obtain ⟨A, c, rfl⟩ := Kd.S_slice hS
    exact spoil_nil W0 w A c hB
  rcases inv_cases l with ⟨n, A, y, h1, h2, rfl, hy, hy', he⟩ | ⟨n, A, h1, h2, rfl, hz, he⟩ | he
  · rw [he] at h
    simp only [Option.some.injEq, Prod.mk.injEq] at h
    obtain ⟨rfl, rfl⟩ := h
    obtain ⟨g, C, hs', rfl, _, h3, h4, h5⟩ := mat_of_S h1 hS
    exact spoil_calls W0 n g C hs' y w h2 hB h3 (fun i hi => ⟨(h4 i hi).1, Nat.le_trans hb (h4 i hi).2⟩) h5
  · rw [he] at h
    simp only [Option.some.injEq, Prod.mk.injEq] at h
    exact nil h.1.symm
  · rw [he] at h
    simp only [Option.some.injEq, Prod.mk.injEq] at h
    exact nil h.1.symm

theorem copy_l (m : List (List Int)) (hm : m.length * 24 ≤ 140737488351232) (hr : ∀ r ∈ m, r.length * 8 ≤ 140737488351232) (d : Nat) : ∀ (k i : Nat), i + d = m.length → d < k →
    ossuarylaw0_CopyMatrix.l0 k (i : Int) m (m.take i) = some m := by
  induction d with
  | zero =>
    intro k i hi hk
    obtain ⟨k, rfl⟩ : ∃ m, k = m + 1 := ⟨k - 1, by omega⟩
    simp only [ossuarylaw0_CopyMatrix.l0]
    rw [if_neg (by omega), List.take_of_length_le (by omega)]
  | succ d ih =>
    intro k i hi hk
    obtain ⟨k, rfl⟩ : ∃ m, k = m + 1 := ⟨k - 1, by omega⟩
    simp only [ossuarylaw0_CopyMatrix.l0]
    have hri := hr m[i] (List.getElem_mem (by omega))
    rw [if_pos (by omega)]
    simp only [Option.bind_some]
    rw [if_pos (by omega), rdR m i (by omega), if_pos (by simp; omega), if_pos (by rw [List.length_take]; omega), List.nil_append, ← List.take_succ_eq_append_getElem (by omega), succ_wrap' i (by omega)]
    exact ih k (i + 1) (by omega) (by omega)
where succ_wrap' (i : Nat) (h : i < 9223372036854775807) : wrap64 ((i : Int) + 1) = ((i + 1 : Nat) : Int) := wrap64_in (by omega) (by omega)
theorem copy_f (m : List (List Int)) (hm : m.length * 24 ≤ 140737488351232) (hr : ∀ r ∈ m, r.length * 8 ≤ 140737488351232) : ossuarylaw0_CopyMatrix.f (m.length + 1) m = some m := by
  have h := copy_l m hm hr m.length (m.length + 1) 0 (by omega) (by omega)
  rw [List.take_zero] at h
  exact h
theorem same_big (m : List (List Int)) (hm : m.length * 24 ≤ 140737488351232) (hr : ∀ r ∈ m, r.length * 8 ≤ 140737488351232) : GBase.ossuarylaw0_SameMatrix.f (m.length + 17592186043905) m m = some true := by
  rw [sameM_f m m 17592186043904 (by omega) (by omega) (fun r h => by have := hr r h; omega) (by omega), decide_eq_true rfl]

set_option maxHeartbeats 8000000 in
set_option maxRecDepth 100000 in
theorem inverts_walk (k : Nat) (A : Option Addr) (c : Nat) (l r1 : List (List Int)) (r2 : Int) (w : World) (hr : Kd.C (Kd.slice 3 (Kd.int .i64)) w A l.length l) (hc : l.length ≤ c)
    (h1 : GRef.ossuarylaw0_CopyMatrix.f k l = some l) (h2 : inv.f l = some (r1, r2)) (h3 : GBase.ossuarylaw0_SameMatrix.f k r1 r1 = some true) (h4 : GBase.ossuarylaw0_SameMatrix.f k l l = some true) (h5 : GInverts.ossuarylaw4_awake.f k = some true) :
    Calls Try.prog 7 #[.agg #[.slice A l.length c]] w fun e w' => e = .returned (.bool true) ∧ Below w.heap.size w w' := by
  have hu24 := Try.underlying24
  have HR := mk0 hr
  have HC := mk0 hc
  have A1 := mk0 h1
  have A2 := mk0 h2
  have A3 := mk0 h3
  have A4 := mk0 h4
  have A5 := mk0 h5
  have HB := mk0 (Below.refl w.heap.size w)
  have q1 : (r2 != r2) = false := bne_self_eq_false r2
  clear hr hc h1 h2 h3 h4 h5
  go_enter Try.func7, Try.ntmps7
  go_wp2_with (first
    | ((with_reducible refine gate_dst (N := 1) rfl ?_); refine box_event ?hg (N := 1) ?hd (cs := #[.slice A l.length c]) (t := 24) ?hr ?_; (case hd => rfl); (case hg => rfl); (case hr => first | (go_simp; done) | (go_simp; rfl)); intro g1 hg w1 hbox hb; have BK1 := mk0 hbox; have n0_ := mk0 (below_step HB.out hb); clear HB; have HB := n0_; clear n0_; have hz1 : w1.cell? ⟨g1, 0, none⟩ = some (.slice A l.length c) := (blk_cell BK1.out 0).trans rfl; clear hb hbox hg)
    | ((with_reducible refine gCa (f := 27) rfl ?_); refine goesL_ (some 9) rfl rfl Try.func27 (by kernel_rfl) rfl #[.agg #[.slice A l.length c]] rfl (by (try simp only [List.map_toArray, List.map_cons, List.map_nil]); first | done | rfl) ?_; (with_reducible refine (GRef.ossuarylaw0_CopyMatrix.calls k _ _ l l _ ?s1 ?s2 A1.out).mono ?_); (case s1 => exact Kd.C_below HR.out HB.out); (case s2 => exact HC.out); rintro e w2 ⟨vx, rfl, hS, hb⟩; refine ⟨_, rfl, ?_⟩; obtain ⟨Ax, cx, rfl⟩ := Kd.S_slice hS; have SX := mk0 hS; have n0_ := mk0 (below_step HB.out hb); have n1_ := mk0 (blk_below BK1.out hb); clear HB BK1 hz1 hS; have HB := n0_; have BK1 := n1_; clear n0_ n1_ hb)
    | ((with_reducible refine gate_dst (N := 3) rfl ?_); refine box_event ?hg (N := 3) ?hd (cs := #[.slice none 0 0]) (t := 24) ?hr ?_; (case hd => rfl); (case hg => rfl); (case hr => first | (go_simp; done) | (go_simp; rfl)); intro gx hg w3 hbox hb; have BKX := mk0 hbox; have n0_ := mk0 (below_step HB.out hb); have n1_ := mk0 (blk_below BK1.out hb); have n2_ := mk0 (Kd.S_below SX.out hb); have GX := mk0 ((by rw [hg]; exact below_size HB.out) : w.heap.size ≤ gx); have nx1 : gx ≠ g1 := (by rw [hg]; exact Nat.ne_of_gt (blk_lt BK1.out)); have n1x : g1 ≠ gx := fun e_ => nx1 e_.symm; clear HB BK1 SX; have HB := n0_; have BK1 := n1_; have SX := n2_; clear n0_ n1_ n2_; have hzx : w3.cell? ⟨gx, 0, none⟩ = some (.slice none 0 0) := (blk_cell BKX.out 0).trans rfl; have hfx := blk_frozen BKX.out 0; have hz1 : w3.cell? ⟨g1, 0, none⟩ = some (.slice A l.length c) := (blk_cell BK1.out 0).trans rfl; clear hb hbox hg)
    | ((with_reducible refine gCa (f := 40) rfl ?_); have m0_ := mk0 (lT HB.out GX (j := 0) (v := .slice Ax l.length cx)); have m1_ := mk0 (blk_far BK1.out (p := ⟨gx, 0, none⟩) n1x (.slice Ax l.length cx)); have m2_ := mk0 (blk_set BKX.out 0 (.slice Ax l.length cx)); have m3_ := mk0 (Kd.S_mono (Kd.S_far (p := ⟨gx, 0, none⟩) (Kd.S_types SX.out BKX.out (by decide)) (fun _ hk => hk.2) (.slice Ax l.length cx)) (fun _ h_ => h_.1)); have CM := mk0 (Kd.C_below HR.out m0_.out); have CX := mk0 (Kd.S_reads' m3_.out); have KB1 := m1_; have KBX := m2_; clear HB BK1 BKX SX hzx hfx hz1; have HB := m0_; have BK1 := m1_; have BKX := m2_; have SX := m3_; clear m0_ m1_ m2_ m3_; refine goesL_ (some 12) rfl rfl Try.func40 (by kernel_rfl) rfl #[.agg #[.slice Ax l.length cx]] rfl (by (try simp only [List.map_toArray, List.map_cons, List.map_nil]); first | done | rfl) ?_; (with_reducible refine (Pr.inv.calls _ _ l r1 r2 _ ?s1 ?s2 A2.out).mono ?_); (case s1 => exact CX.out.2.2); (case s2 => exact CX.out.2.1); rintro e w4 ⟨va, rfl, hS, hb⟩; refine ⟨_, rfl, ?_⟩; obtain ⟨Aa, ca, rfl⟩ := Kd.S_slice hS; have SA := mk0 hS; have HD := mk0 hb; have n1_ := mk0 (blk_below BK1.out hb); have n2_ := mk0 (blk_below BKX.out hb); clear BK1 BKX hS; have BK1 := n1_; have BKX := n2_; clear n1_ n2_ hb)
    | ((with_reducible refine gate_dst (N := 4) rfl ?_); refine box_event ?hg (N := 4) ?hd (cs := #[.slice none 0 0]) (t := 24) ?hr ?_; (case hd => rfl); (case hg => rfl); (case hr => first | (go_simp; done) | (go_simp; rfl)); intro ga hg w5 hbox hb; have BKN := mk0 hbox; have n0_ := mk0 (below_step HD.out hb); have n1_ := mk0 (blk_below BK1.out hb); have n2_ := mk0 (blk_below BKX.out hb); have n3_ := mk0 (Kd.S_below SA.out hb); clear SA; have SA := n3_; clear n3_; have GN := mk0 (Nat.le_trans (below_size HD.out) (Nat.le_of_eq hg.symm)); have na1 : ga ≠ g1 := (by rw [hg]; exact Nat.ne_of_gt (blk_lt BK1.out)); have n1a : g1 ≠ ga := fun e_ => na1 e_.symm; have nax : ga ≠ gx := (by rw [hg]; exact Nat.ne_of_gt (blk_lt BKX.out)); have nxa : gx ≠ ga := fun e_ => nax e_.symm; clear HD BK1 BKX; have HD := n0_; have BK1 := n1_; have BKX := n2_; clear n0_ n1_ n2_; have hzn : w5.cell? ⟨ga, 0, none⟩ = some (.slice none 0 0) := (blk_cell BKN.out 0).trans rfl; have hfn := blk_frozen BKN.out 0; have hz1 : w5.cell? ⟨g1, 0, none⟩ = some (.slice A l.length c) := (blk_cell BK1.out 0).trans rfl; clear hb hbox hg)
    | ((with_reducible refine gCa (f := 41) rfl ?_); have m0_ := mk0 (lT HD.out GN (j := 0) (v := .slice Aa r1.length ca)); have m1_ := mk0 (blk_far BK1.out (p := ⟨ga, 0, none⟩) n1a (.slice Aa r1.length ca)); have m2_ := mk0 (blk_far BKX.out (p := ⟨ga, 0, none⟩) nxa (.slice Aa r1.length ca)); have m3_ := mk0 (Kd.S_mono (Kd.S_far (p := ⟨ga, 0, none⟩) (Kd.S_types SA.out BKN.out (by decide)) (fun _ hk => hk.2) (.slice Aa r1.length ca)) (fun _ h_ => h_.1)); have m4_ := mk0 (blk_set BKN.out 0 (.slice Aa r1.length ca)); clear HD BK1 BKX SA BKN hzn hfn hz1; have HD := m0_; have BK1 := m1_; have BKX := m2_; have SA := m3_; have BKA := m4_; have GA := GN; clear GN m0_ m1_ m2_ m3_ m4_; refine goesL_ (some 17) rfl rfl Try.func41 (by kernel_rfl) rfl #[.agg #[.slice A l.length c]] rfl (by (try simp only [List.map_toArray, List.map_cons, List.map_nil]); first | done | rfl) ?_; (with_reducible refine (Pr.rinv.calls _ _ l r1 r2 _ ?s1 ?s2 A2.out).mono ?_); (case s1 => exact Kd.C_below CM.out HD.out); (case s2 => exact HC.out); rintro e w7 ⟨vb, rfl, hS, hb⟩; refine ⟨_, rfl, ?_⟩; obtain ⟨Ab, cb, rfl⟩ := Kd.S_slice hS; have SB := mk0 hS; have n0_ := mk0 (below_step HD.out hb); have n1_ := mk0 (blk_below BK1.out hb); have n2_ := mk0 (blk_below BKX.out hb); have n3_ := mk0 (blk_below BKA.out hb); have n4_ := mk0 (Kd.S_below SA.out hb); clear HD BK1 BKX BKA SA hS; have HD := n0_; have BK1 := n1_; have BKX := n2_; have BKA := n3_; have SA := n4_; clear n0_ n1_ n2_ n3_ n4_ hb)
    | ((with_reducible refine gate_dst (N := 6) rfl ?_); refine box_event ?hg (N := 6) ?hd (cs := #[.slice none 0 0]) (t := 24) ?hr ?_; (case hd => rfl); (case hg => rfl); (case hr => first | (go_simp; done) | (go_simp; rfl)); intro gb hg w8 hbox hb; have BKN := mk0 hbox; have n0_ := mk0 (below_step HD.out hb); have n1_ := mk0 (blk_below BK1.out hb); have n2_ := mk0 (blk_below BKX.out hb); have n3_ := mk0 (Kd.S_below SA.out hb); have n4_ := mk0 (Kd.S_below SB.out hb); have n5_ := mk0 (blk_below BKA.out hb);  have GN := mk0 (Nat.le_trans (below_size HD.out) (Nat.le_of_eq hg.symm)); have nb1 : gb ≠ g1 := (by rw [hg]; exact Nat.ne_of_gt (blk_lt BK1.out)); have n1b : g1 ≠ gb := fun e_ => nb1 e_.symm; have nbx : gb ≠ gx := (by rw [hg]; exact Nat.ne_of_gt (blk_lt BKX.out)); have nxb : gx ≠ gb := fun e_ => nbx e_.symm; have nba : gb ≠ ga := (by rw [hg]; exact Nat.ne_of_gt (blk_lt BKA.out)); have nab : ga ≠ gb := fun e_ => nba e_.symm; clear HD BK1 BKX SA SB BKA; have SA := n3_; have SB := n4_; have BKA := n5_; clear n3_ n4_ n5_; have hza : w8.cell? ⟨ga, 0, none⟩ = some (.slice Aa r1.length ca) := (blk_cell BKA.out 0).trans rfl; have HD := n0_; have BK1 := n1_; have BKX := n2_; clear n0_ n1_ n2_; have hzn : w8.cell? ⟨gb, 0, none⟩ = some (.slice none 0 0) := (blk_cell BKN.out 0).trans rfl; have hfn := blk_frozen BKN.out 0; have hz1 : w8.cell? ⟨g1, 0, none⟩ = some (.slice A l.length c) := (blk_cell BK1.out 0).trans rfl; clear hb hbox hg)
    | ((with_reducible refine gCa (f := 34) (xs := #[.tmp 20, .tmp 21]) rfl ?_); have m0_ := mk0 (lT HD.out GN (j := 0) (v := .slice Ab r1.length cb)); have m1_ := mk0 (blk_far BK1.out (p := ⟨gb, 0, none⟩) n1b (.slice Ab r1.length cb)); have m2_ := mk0 (blk_far BKX.out (p := ⟨gb, 0, none⟩) nxb (.slice Ab r1.length cb)); have m3_ := mk0 (Kd.S_mono (Kd.S_far (p := ⟨gb, 0, none⟩) (Kd.S_types SA.out BKN.out (by decide)) (fun _ hk => hk.2) (.slice Ab r1.length cb)) (fun _ h_ => h_.1)); have m5_ := mk0 (Kd.S_mono (Kd.S_far (p := ⟨gb, 0, none⟩) (Kd.S_types SB.out BKN.out (by decide)) (fun _ hk => hk.2) (.slice Ab r1.length cb)) (fun _ h_ => h_.1)); have m4_ := mk0 (blk_far BKA.out (p := ⟨gb, 0, none⟩) nab (.slice Ab r1.length cb)); clear HD BK1 BKX SA SB BKA BKN hzn hfn hz1 hza; have HD := m0_; have BK1 := m1_; have BKX := m2_; have SA := m3_; have SB := m5_; have BKA := m4_; clear GN m0_ m1_ m2_ m3_ m4_ m5_; refine goesL_ (some 22) rfl rfl Try.func34 (by kernel_rfl) rfl #[.agg #[.slice Aa r1.length ca], .agg #[.slice Ab r1.length cb]] rfl (by (try simp only [List.map_toArray, List.map_cons, List.map_nil]); first | done | rfl) ?_; (with_reducible refine (GBase.ossuarylaw0_SameMatrix.calls k _ _ r1 _ _ r1 true _ ?s1 ?s2 ?s3 ?s4 A3.out).mono ?_); (case s1 => exact (Kd.S_reads' SA.out).2.2); (case s2 => exact (Kd.S_reads' SA.out).2.1); (case s3 => exact (Kd.S_reads' SB.out).2.2); (case s4 => exact (Kd.S_reads' SB.out).2.1); rintro e w9 ⟨rfl, hb⟩; refine ⟨_, rfl, ?_⟩; have n0_ := mk0 (below_step HD.out hb); have n1_ := mk0 (blk_below BK1.out hb); have n2_ := mk0 (blk_below BKX.out hb); have n3_ := mk0 (blk_below BKA.out hb); have n4_ := mk0 (Kd.S_below SA.out hb); clear HD BK1 BKX BKA SA SB; have HD := n0_; have BK1 := n1_; have BKX := n2_; have BKA := n3_; have SA := n4_; clear n0_ n1_ n2_ n3_ n4_ hb; have hza : w9.cell? ⟨ga, 0, none⟩ = some (.slice Aa r1.length ca) := (blk_cell BKA.out 0).trans rfl)
    | (go_at_call 35; (with_reducible refine (GBase.ossuarylaw0_Num.calls r2 r2 _ rfl).mono ?_);  rintro e w' ⟨rfl, ⟨nd, rfl⟩⟩; have n0_ := mk0 (lN HD.out nd); have n1_ := mk0 (bN BK1.out nd); have n2_ := mk0 (bN BKX.out nd); have n4_ := mk0 (sN SA.out nd); clear HD BK1 BKX BKA SA; have HD := n0_; have BK1 := n1_; have BKX := n2_; have SA := n4_; clear n0_ n1_ n2_ n4_)
    | ((with_reducible refine gCa (f := 38) rfl ?_); refine goesL_ (some 31) rfl rfl Try.func38 (by kernel_rfl) rfl #[.agg #[.slice Aa r1.length ca]] rfl (by (try simp only [List.map_toArray, List.map_cons, List.map_nil]); first | done | rfl) ?_; (with_reducible refine (spoilS _ _ A2.out SA.out (Nat.le_refl _) HD.out).mono ?_);  rintro e w10 ⟨rfl, hb⟩; refine ⟨_, rfl, ?_⟩; have n1_ := mk0 (blk_below KB1.out hb); have n2_ := mk0 (blk_below KBX.out hb); clear HD SA BK1 BKX; have HD := mk0 hb; have BK1 := n1_; have BKX := n2_; clear n1_ n2_ hb; have hz1 : w10.cell? ⟨g1, 0, none⟩ = some (.slice A l.length c) := (blk_cell BK1.out 0).trans rfl; have hzx : w10.cell? ⟨gx, 0, none⟩ = some (.slice Ax l.length cx) := (blk_cell BKX.out 0).trans rfl)
    | ((with_reducible refine gCa (f := 34) (xs := #[.tmp 32, .tmp 33]) rfl ?_); refine goesL_ (some 34) rfl rfl Try.func34 (by kernel_rfl) rfl #[.agg #[.slice Ax l.length cx], .agg #[.slice A l.length c]] rfl (by (try simp only [List.map_toArray, List.map_cons, List.map_nil]); first | done | rfl) ?_; (with_reducible refine (GBase.ossuarylaw0_SameMatrix.calls k _ _ l _ _ l true _ ?s1 ?s2 ?s3 ?s4 A4.out).mono ?_); (case s1 => exact Kd.C_below CX.out.2.2 HD.out); (case s2 => exact CX.out.2.1); (case s3 => exact Kd.C_below CM.out HD.out); (case s4 => exact HC.out); rintro e w11 ⟨rfl, hb⟩; refine ⟨_, rfl, ?_⟩; have n0_ := mk0 (below_step HD.out hb); clear HD hz1 hzx BK1 BKX; have HD := n0_; clear n0_ hb)
    | (go_at_call 42; (with_reducible refine (GInverts.ossuarylaw4_awake.calls k true _ A5.out).mono ?_); rintro e w12 ⟨rfl, hb⟩; have n0_ := mk0 (below_step HD.out hb); clear HD; have HD := n0_; clear n0_ hb))
  go_ret
  exact ⟨rfl, below_step HB.out HD.out⟩
end Go.Proofs.Ytaahnicjjpddjaa.Pr

/- Any matrix's inverse: what the call comes to. Of the matrix: it takes no more than memory has. -/
namespace Go.Proofs.Ytaahnicjjpddjaa.Pr
open Go.RowKit Go.Proofs.Ytaahnicjjpddjaa.GInverts Go.Proofs.YtaahnicjjpddjaaW.PrintWords Go.Proofs.YtaahnicjjpddjaaW.PrintLast Go.Proofs.YtaahnicjjpddjaaW.PrintMore Go.Proofs.Ytaahnicjjpddjaa.Fld Go.Proofs.Ytaahnicjjpddjaa.Mat Go.Proofs.Ytaahnicjjpddjaa.Fn

theorem awake4_f {k : Nat} (hk : 200 < k) : ossuarylaw4_awake.f k = some true := by
  unfold ossuarylaw4_awake.f
  have e1 : inv.f [[0, 1], [2, 0]] = some ([[0, 142], [1, 0]], 0) := inv_lit _ _ 2 (by omega) (by omega) (by decide +kernel) (by decide +kernel) (by decide +kernel)
  have e2 : inv.f [[1, 1], [1, 1]] = some ([], 401) := by
    have h := inv_none (A := ent [[1, 1], [1, 1]]) (n := 2) (by omega) (by omega) (sing_rows (i := 0) (l := 1) (by omega) (by omega) (by omega) (by decide +kernel))
    rw [show fmat (ent [[1, 1], [1, 1]]) 2 2 = [[1, 1], [1, 1]] by decide +kernel] at h
    exact h
  have e3 : inv.f [[1, 2]] = some ([], 400) := inv_form (by decide +kernel)
  rw [e1, e2, e3]
  simp only [Option.bind_some, num_f]
  rw [sameL hk _ (by decide) (by decide)]
  simp

/-- what came back is as it is. -/
theorem same_inv {k : Nat} (hk : 200 < k) {l r1 : List (List Int)} {r2 : Int} (h : inv.f l = some (r1, r2)) : GBase.ossuarylaw0_SameMatrix.f k r1 r1 = some true := by
  have nil : r1 = [] → GBase.ossuarylaw0_SameMatrix.f k r1 r1 = some true := by
    rintro rfl
    exact sameL hk _ (by decide) (by decide)
  rcases inv_cases l with ⟨n, A, y, h1, h2, rfl, hy, hy', he⟩ | ⟨n, A, h1, h2, rfl, hz, he⟩ | he
  · rw [he] at h
    simp only [Option.some.injEq, Prod.mk.injEq] at h
    obtain ⟨rfl, rfl⟩ := h
    exact sameF hk y y n n h2 h2 (fun _ _ _ _ => rfl)
  · rw [he] at h
    simp only [Option.some.injEq, Prod.mk.injEq] at h
    exact nil h.1.symm
  · rw [he] at h
    simp only [Option.some.injEq, Prod.mk.injEq] at h
    exact nil h.1.symm
def Small (l : List (List Int)) : Prop := l.length * 24 ≤ 140737488351232 ∧ ∀ r ∈ l, r.length * 8 ≤ 140737488351232
theorem inverts_calls (A : Option Addr) (c : Nat) (l : List (List Int)) (r : Bool) (w : World) (hr : Kd.C (Kd.slice 3 (Kd.int .i64)) w A l.length l) (hc : l.length ≤ c) (h : r = true ∧ Small l) :
    Calls Try.prog 7 #[.agg #[.slice A l.length c]] w fun e w' => e = .returned (.bool r) ∧ Below w.heap.size w w' := by
  obtain ⟨rfl, hs, hrows⟩ := h
  obtain ⟨⟨r1, r2⟩, hi⟩ : ∃ p, inv.f l = some p := ⟨_, rfl⟩
  have h1 := copy_l l hs hrows l.length (l.length + 17592186044905) 0 (by omega) (by omega)
  rw [List.take_zero] at h1
  refine inverts_walk (l.length + 17592186044905) A c l r1 r2 w hr hc h1 hi (same_inv (by omega) hi) ?_ (awake4_f (by omega))
  rw [sameM_f l l 17592186043904 (by omega) (by omega) (fun r h => by have := hrows r h; omega) (by omega), decide_eq_true rfl]
end Go.Proofs.Ytaahnicjjpddjaa.Pr
