/- The law of a diagonal's inverse: the call's walk, by hand. -/
import Derived.Test.YtaahnicjjpddjaaSpoilN
import Derived.Test.YtaahnicjjpddjaaRefRow
import Derived.Test.YtaahnicjjpddjaaGRef1
import Derived.Test.YtaahnicjjpddjaaGInverts1
namespace Go.Proofs.Ytaahnicjjpddjaa.Pr
open Go.RowKit Go.Proofs.YtaahnicjjpddjaaW.PrintWords Go.Proofs.YtaahnicjjpddjaaW.PrintLast Go.Proofs.YtaahnicjjpddjaaW.PrintMore Go.Proofs.Ytaahnicjjpddjaa.Fld Go.Proofs.Ytaahnicjjpddjaa.Mat Go.Proofs.Ytaahnicjjpddjaa.Fn
set_option linter.unusedVariables false
set_option linter.unusedSimpArgs false

theorem farS {α : Type} {d : Kd α} {e : TypeId} {w : World} {base : Nat} {ok : Nat → Prop} {v : Value} {xs : List α} {g t : Nat} {cs : Array Value} (h : Kd.S d e w base ok v xs) (hb : w.heap[g]? = some (.cells cs t (0, 0))) (ht : ∀ q, q ∈ e :: d.E → q ≠ t) (u : Value) : Kd.S d e (w.setCell ⟨g, 0, none⟩ u) base ok v xs :=
  Kd.S_mono (Kd.S_far (p := ⟨g, 0, none⟩) (Kd.S_types h hb ht) (fun _ hk => hk.2) u) (fun _ h_ => h_.1)
/-- ahead of the loop. -/
structure Dia (w0 w : World) (n gi gmb gm C cI wc : Nat) (AI : Option Addr) (hs : Nat → Nat × Nat) (f : Nat → F) (i : Nat) : Prop where
  below : Below w0.heap.size w0 w
  bI : w.heap[gi]? = some (.cells #[.slice AI n cI] 24 (0, 0))
  bM : w.heap[gmb]? = some (.cells #[.slice (some ⟨gm, 0, none⟩) n C] 24 (0, 0))
  sI : Kd.S (Kd.slice 3 (Kd.int .i64)) 25 w w0.heap.size (fun k => k < wc) (.slice AI n cI) (idM n)
  out : OutAt w gm C n hs
  row : ∀ k, k < n → RowAt w (hs k) n (fun j => if k < i then (if j = k then f k else 0#8) else delta k j)
  far : ∀ k, k < n → w0.heap.size ≤ (hs k).1 ∧ wc ≤ (hs k).1
  one : ∀ k l, k < n → l < n → (hs k).1 = (hs l).1 → k = l
theorem Dia.step {w0 w : World} {n gi gmb gm C cI wc : Nat} {AI : Option Addr} {hs : Nat → Nat × Nat} {f : Nat → F} {i : Nat} (H : Dia w0 w n gi gmb gm C cI wc AI hs f i) (hi : i < n) : Dia w0 (w.setCell ⟨(hs i).1, i, none⟩ (.int .i64 (toI (f i)))) n gi gmb gm C cI wc AI hs f (i + 1) := by
  have hr := H.row i hi
  obtain ⟨cur, hcur⟩ := hr.blk
  have e1 : gi ≠ (hs i).1 := blk_ne H.bI hcur (by decide)
  have e2 : gmb ≠ (hs i).1 := blk_ne H.bM hcur (by decide)
  refine ⟨below_set H.below (H.far i hi).1, blk_far H.bI (p := ⟨(hs i).1, i, none⟩) e1 _, blk_far H.bM (p := ⟨(hs i).1, i, none⟩) e2 _, Kd.S_far (p := ⟨(hs i).1, i, none⟩) H.sI (fun k hk e => ?_) _, H.out.far (p := ⟨(hs i).1, i, none⟩) (out_ne_row H.out hr) _, fun k hk => ?_, H.far, H.one⟩
  · have := (H.far i hi).2
    have e' : k = (hs i).1 := e
    omega
  · by_cases e : k = i
    · subst e
      refine (hr.put k (f k)).congr (fun j hj => ?_)
      by_cases h2 : j = k
      · rw [if_pos h2, if_pos (Nat.lt_succ_self k), if_pos h2]
      · rw [if_neg h2, if_neg (Nat.lt_irrefl k), if_pos (Nat.lt_succ_self k), if_neg h2]
        exact if_neg (fun e' => h2 e'.symm)
    · have h3 := (H.row k hk).far (p := ⟨(hs i).1, i, none⟩) (fun e' => e (H.one k i hk hi e')) (.int .i64 (toI (f i)))
      refine h3.congr (fun j hj => ?_)
      by_cases h4 : k < i
      · rw [if_pos h4, if_pos (show k < i + 1 by omega)]
      · rw [if_neg h4, if_neg (show ¬ k < i + 1 by omega)]
theorem Dia.eqs {w0 w w' : World} {n gi gmb gm C cI wc : Nat} {AI : Option Addr} {hs : Nat → Nat × Nat} {f : Nat → F} {i : Nat} (H : Dia w0 w n gi gmb gm C cI wc AI hs f i) (hb : Below w.heap.size w w') : Dia w0 w' n gi gmb gm C cI wc AI hs f i :=
  ⟨below_step H.below hb, blk_below H.bI hb, blk_below H.bM hb, Kd.S_below H.sI hb, H.out.of_eq (fun _ ho => blk_below ho hb), fun k hk => (H.row k hk).of_eq (fun _ ho => blk_below ho hb), H.far, H.one⟩
theorem Dia.drew {w0 w : World} {n gi gmb gm C cI wc : Nat} {AI : Option Addr} {hs : Nat → Nat × Nat} {f : Nat → F} {i : Nat} (H : Dia w0 w n gi gmb gm C cI wc AI hs f i) : Dia w0 w.drew n gi gmb gm C cI wc AI hs f i :=
  ⟨lD H.below, bD H.bI, bD H.bM, sD H.sI, H.out.of_eq (fun _ ho => bD ho), fun k hk => (H.row k hk).of_eq (fun _ ho => bD ho), H.far, H.one⟩
theorem Dia.drewN {w0 w : World} {n gi gmb gm C cI wc : Nat} {AI : Option Addr} {hs : Nat → Nat × Nat} {f : Nat → F} {i : Nat} (H : Dia w0 w n gi gmb gm C cI wc AI hs f i) (x : Nat) : Dia w0 (w.drewN x) n gi gmb gm C cI wc AI hs f i :=
  ⟨lN H.below x, bN H.bI x, bN H.bM x, sN H.sI x, H.out.of_eq (fun _ ho => bN ho x), fun k hk => (H.row k hk).of_eq (fun _ ho => bN ho x), H.far, H.one⟩
theorem Dia.box {w0 w : World} {n gi gmb gm C cI wc g : Nat} {AI : Option Addr} {hs : Nat → Nat × Nat} {f : Nat → F} {i : Nat} {cs : Array Value} (H : Dia w0 w n gi gmb gm C cI wc AI hs f i) (hb : w.heap[g]? = some (.cells cs 24 (0, 0))) (h1 : gi ≠ g) (h2 : gmb ≠ g) (h3 : w0.heap.size ≤ g) (u : Value) : Dia w0 (w.setCell ⟨g, 0, none⟩ u) n gi gmb gm C cI wc AI hs f i :=
  ⟨below_set H.below h3, blk_far H.bI (p := ⟨g, 0, none⟩) h1 u, blk_far H.bM (p := ⟨g, 0, none⟩) h2 u, farS H.sI hb (by decide) u,
    H.out.far (p := ⟨g, 0, none⟩) (by obtain ⟨cur, hc⟩ := H.out.blk; exact fun e => blk_ne hb hc (by decide) e.symm) u,
    fun k hk => (H.row k hk).far (p := ⟨g, 0, none⟩) (by obtain ⟨cur, hc⟩ := (H.row k hk).blk; exact fun e => blk_ne hb hc (by decide) e.symm) u, H.far, H.one⟩
/-- a diagonal. -/
def diag (f : Nat → F) : Nat → Nat → F := fun k j => if j = k then f k else 0#8
theorem Dia.read {w0 w : World} {n gi gmb gm C cI wc : Nat} {AI : Option Addr} {hs : Nat → Nat × Nat} {f : Nat → F} (H : Dia w0 w n gi gmb gm C cI wc AI hs f n) (hg : w0.heap.size ≤ gm) : Kd.S (Kd.slice 3 (Kd.int .i64)) 25 w w0.heap.size (fun _ => True) (.slice (some ⟨gm, 0, none⟩) n C) (fmat (diag f) n n) :=
  S_of_mat hg H.out (fun i hi => ⟨(H.row i hi).congr (fun j _ => by rw [if_pos hi]; rfl), (H.far i hi).1⟩) H.one

/-- is one of the first i nought? -/
def zeros (f : Nat → F) : Nat → Bool
  | 0 => false
  | i + 1 => zeros f i || decide (f i = 0#8)
theorem zeros_yes {f : Nat → F} {i n : Nat} (hi : i < n) (h : f i = 0#8) : zeros f n = true := by
  induction n with
  | zero => omega
  | succ n ih =>
    rw [zeros]
    by_cases e : i = n
    · subst e
      rw [decide_eq_true h, Bool.or_true]
    · rw [ih (by omega), Bool.true_or]
theorem zeros_no {f : Nat → F} {n : Nat} (h : ∀ i, i < n → f i ≠ 0#8) : zeros f n = false := by
  induction n with
  | zero => rfl
  | succ n ih => rw [zeros, ih (fun i hi => h i (by omega)), decide_eq_false (h n (by omega))]; rfl
theorem copy_d (m : List (List Int)) (hm : m.length ≤ 12) (hr : ∀ r ∈ m, r.length ≤ 12) (d : Nat) : ∀ (k i : Nat), i + d = m.length → d < k → GRef.ossuarylaw0_CopyMatrix.l0 k (i : Int) m (m.take i) = some m := by
  induction d with
  | zero =>
    intro k i hi hk
    obtain ⟨k, rfl⟩ : ∃ m, k = m + 1 := ⟨k - 1, by omega⟩
    simp only [GRef.ossuarylaw0_CopyMatrix.l0]
    rw [if_neg (by omega), List.take_of_length_le (by omega)]
  | succ d ih =>
    intro k i hi hk
    obtain ⟨k, rfl⟩ : ∃ m, k = m + 1 := ⟨k - 1, by omega⟩
    simp only [GRef.ossuarylaw0_CopyMatrix.l0]
    have hri := hr m[i] (List.getElem_mem (by omega))
    have hrd : GRef.rd_L2 m (i : Int) = m[i] := by
      show m.getD (i : Int).toNat [] = m[i]
      rw [Int.toNat_natCast, getD_get _ _ _ (by omega)]
    rw [if_pos (by omega)]
    simp only [Option.bind_some]
    rw [if_pos (by omega), hrd, if_pos (by simp; omega), if_pos (by rw [List.length_take]; omega), List.nil_append, ← List.take_succ_eq_append_getElem (by omega), succ_wrap i (by omega)]
    exact ih k (i + 1) (by omega) (by omega)
def diag16_T : Bool × List (List Nat × List Nat) := (true, [([], []), ([0], [0]), ([], []), ([1, 2], [1, 2]), ([3], [3]), ([], []), ([], []), ([], []), ([6, 7], [6, 7]), ([8], [8]), ([9], [9]), ([4, 5, 0, 1, 2, 3, 4, 5, 6, 7, 8, 9, 10], [4, 5]), ([11, 10, 0, 1, 2, 3, 4, 5, 6, 7, 8, 9, 10], [10, 11])])
def diag16_B : List Nat := [0, 1, 0, 7, 15, 0, 0, 0, 192, 448, 960, 2047, 4095]
theorem diag16_tab : rtab .any (opsOf Try.f9 16) = diag16_T := by kernel_rfl
theorem diag16_bits : waitsOk diag16_T.2 diag16_B = true := by kernel_rfl
abbrev diag16_q0 : Array Bool := #[false, false, false, false, false, false, false, false, false, false, false, false, false]
abbrev diag16_q1 : Array Bool := #[true, false, false, false, false, false, false, false, false, false, false, false, false]
abbrev diag16_q2 : Array Bool := #[true, false, true, false, false, false, false, false, false, false, false, false, false]
abbrev diag16_q3 : Array Bool := #[true, false, true, false, false, true, false, false, false, false, false, false, false]
abbrev diag16_q4 : Array Bool := #[true, false, true, false, false, true, true, false, false, false, false, false, false]
abbrev diag16_q5 : Array Bool := #[true, false, true, false, false, true, true, true, false, false, false, false, false]
abbrev diag16_q6 : Array Bool := #[true, false, true, false, false, true, true, true, true, false, false, false, false]
abbrev diag16_q7 : Array Bool := #[true, true, true, false, false, true, true, true, true, false, false, false, false]
abbrev diag16_q8 : Array Bool := #[true, true, true, true, false, true, true, true, true, false, false, false, false]
abbrev diag16_q9 : Array Bool := #[true, true, true, true, true, true, true, true, true, false, false, false, false]
abbrev diag16_q10 : Array Bool := #[true, true, true, true, true, true, true, true, true, true, false, false, false]
abbrev diag16_q11 : Array Bool := #[true, true, true, true, true, true, true, true, true, true, true, false, false]
abbrev diag16_q12 : Array Bool := #[true, true, true, true, true, true, true, true, true, true, true, true, false]
abbrev diag16_q13 : Array Bool := #[true, true, true, true, true, true, true, true, true, true, true, true, true]
set_option maxHeartbeats 3000000 in
set_option maxRecDepth 100000 in
theorem diag_none (k : Nat) (A : Option Addr) (c n : Nat) (l : List Int) (w : World) (hr : Kd.C (Kd.int .i64) w A l.length l) (hn : n = min l.length 12) (h1 : ¬ 1 ≤ n)
    (h5 : GInverts.ossuarylaw4_awake.f k = some true) :
    Calls Try.prog 9 #[.slice A l.length c] w fun e w' => e = .returned (.bool true) ∧ Below w.heap.size w w' := by
  have hu24 := Try.underlying24
  have HR := mk0 hr
  have A5 := mk0 h5
  have HB := mk0 (Below.refl w.heap.size w)
  have hmn : (if (12 : Int) < (l.length : Int) then 12 else (l.length : Int)) = (n : Int) := by split <;> omega
  have hnl : n ≤ l.length := by omega
  have hn12 : n ≤ 12 := by omega
  clear hn
  have q0 : decide ((n : Int) < 1) = true := decide_eq_true (by omega)
  clear hr h5
  go_enter Try.func9, Try.ntmps9
  go_wp2_with (first
    | ((with_reducible refine gCa (f := 42) rfl ?_); refine goesL_ (some 15) rfl rfl Try.func42 (by kernel_rfl) rfl #[] rfl (by (try simp only [List.map_toArray, List.map_nil]); first | done | rfl) ?_; (with_reducible refine (GInverts.ossuarylaw4_awake.calls k true _ A5.out).mono ?_); rintro e w1 ⟨rfl, hb⟩; refine ⟨_, rfl, ?_⟩; have n0_ := mk0 (below_step HB.out hb); clear HB; have HB := n0_; clear n0_; clear hb))
  go_ret
  exact ⟨rfl, HB.out⟩
set_option maxHeartbeats 3000000 in
set_option maxRecDepth 100000 in
theorem diag_walk (k : Nat) (A : Option Addr) (c n : Nat) (l : List Int) (f : Nat → F) (z : Bool) (r1 : List (List Int)) (r2 : Int) (y : Nat → Nat → F) (w : World) (hr : Kd.C (Kd.int .i64) w A l.length l) (hn : n = min l.length 12) (h1 : 1 ≤ n)
    (h5 : GInverts.ossuarylaw4_awake.f k = some true) (hI : GBase.matrix_Identity.f k (n : Int) = some (idM n, 0)) (hC : GRef.ossuarylaw0_CopyMatrix.f k (idM n) = some (idM n)) (hb : ∀ i : Nat, Go.bits .and .i64 (rd l (i : Int)) 255 = toI (f i)) (hlen : (idM n).length = n) (hv : inv.f (fmat (diag f) n n) = some (r1, r2)) (hfin : (zeros f n = true ∧ r1 = [] ∧ r2 = 401) ∨ (zeros f n = false ∧ r1 = fmat y n n ∧ r2 = 0 ∧ GMul.matrix_Mul.f k (fmat y n n) (fmat (diag f) n n) = some (idM n, 0) ∧ GBase.ossuarylaw0_SameMatrix.f k (idM n) (idM n) = some true ∧ ∀ i j, i < n → j < n → i ≠ j → y i j = 0#8)) :
    Calls Try.prog 9 #[.slice A l.length c] w fun e w' => e = .returned (.bool true) ∧ Below w.heap.size w w' := by
  have hu24 := Try.underlying24
  have HR := mk0 hr
  have A5 := mk0 h5
  have HB := mk0 (Below.refl w.heap.size w)
  have hmn : (if (12 : Int) < (l.length : Int) then 12 else (l.length : Int)) = (n : Int) := by split <;> omega
  have hnl : n ≤ l.length := by omega
  have hn12 : n ≤ 12 := by omega
  clear hn
  have q0 : decide ((n : Int) < 1) = false := decide_eq_false (by omega)
  have q9 : ((n : Int) != (n : Int)) = false := bne_self_eq_false _
  have AI := mk0 hI
  have AC := mk0 hC
  have HL := mk0 hlen
  have HF := mk0 hfin
  have HV := mk0 hv
  clear hr h5 hI hC hlen hfin hv
  go_enter Try.func9, Try.ntmps9
  go_wp2_with (first
    | ((with_reducible refine gCa (f := 42) rfl ?_); refine goesL_ (some 15) rfl rfl Try.func42 (by kernel_rfl) rfl #[] rfl (by (try simp only [List.map_toArray, List.map_nil]); first | done | rfl) ?_; (with_reducible refine (GInverts.ossuarylaw4_awake.calls k true _ A5.out).mono ?_); rintro e w1 ⟨rfl, hb⟩; refine ⟨_, rfl, ?_⟩; have n0_ := mk0 (below_step HB.out hb); clear HB; have HB := n0_; clear n0_; clear hb)
    | ((with_reducible refine gCa (f := 32) rfl ?_); refine goesL_ (some 24) rfl rfl Try.func32 (by kernel_rfl) rfl #[.int .i64 n] rfl (by (try simp only [List.map_toArray, List.map_cons, List.map_nil]); first | done | rfl) ?_; (with_reducible refine (GBase.matrix_Identity.calls k n (idM n) 0 _ AI.out).mono ?_); intro e w2 hq_; obtain ⟨va, he_, hS, hb⟩ := hq_; obtain ⟨Ai, ci, rfl⟩ := Kd.S_slice hS; rw [HL.out] at he_ hS; subst he_; refine ⟨_, rfl, ?_⟩; have SI := mk0 (Kd.S_lower hS (below_size HB.out)); have n0_ := mk0 (below_step HB.out hb); clear HB; have HB := n0_; clear n0_; clear hS hb)
    | ((with_reducible refine gate_dst (N := 4) rfl ?_); refine box_event ?hg (N := 4) ?hd (cs := #[.slice none 0 0]) (t := 24) ?hr ?_; (case hd => rfl); (case hg => rfl); (case hr => first | (go_simp; done) | (go_simp; rfl)); intro gi hg w3 hbox hb; have BKN := mk0 hbox; have GN := mk0 (Nat.le_trans (below_size HB.out) (Nat.le_of_eq hg.symm)); have n0_ := mk0 (below_step HB.out hb); have n1_ := mk0 (Kd.S_below SI.out hb); clear HB SI; have HB := n0_; have SI := n1_; clear n0_ n1_; have hzn : w3.cell? ⟨gi, 0, none⟩ = some (.slice none 0 0) := (blk_cell BKN.out 0).trans rfl; have hfn := blk_frozen BKN.out 0; clear hb hbox hg)
    | ((with_reducible refine gCa (f := 35) (xs := #[.tmp 27]) rfl ?_); have BI := mk0 (blk_set BKN.out 0 (.slice Ai n ci)); have n0_ := mk0 (lT HB.out GN (j := 0) (v := (.slice Ai n ci))); have n1_ := mk0 (farS SI.out BKN.out (by decide) (.slice Ai n ci)); clear HB SI; have HB := n0_; have SI := n1_; clear n0_ n1_; clear BKN GN hzn hfn; generalize w3.setCell ⟨gi, 0, none⟩ (.slice Ai n ci) = w4 at BI HB SI ⊢; refine goesL_ (some 28) rfl rfl Try.func35 (by kernel_rfl) rfl #[.int .i64 0] rfl (by (try simp only [List.map_toArray, List.map_cons, List.map_nil]); first | done | rfl) ?_; (with_reducible refine (GBase.ossuarylaw0_Num.calls 0 0 _ rfl).mono ?_); rintro e w' ⟨rfl, ⟨nd, rfl⟩⟩; refine ⟨_, rfl, ?_⟩; have n0_ := mk0 (lN HB.out nd); have n1_ := mk0 (bN BI.out nd); have n2_ := mk0 (sN SI.out nd); clear HB BI SI; have HB := n0_; have BI := n1_; have SI := n2_; clear n0_ n1_ n2_; generalize w4.drewN nd = w5 at BI HB SI ⊢; have hzi : w5.cell? ⟨gi, 0, none⟩ = some (.slice Ai n ci) := (blk_cell BI.out 0).trans rfl)
    | ((with_reducible refine gCa (f := 27) rfl ?_); refine goesL_ (some 38) rfl rfl Try.func27 (by kernel_rfl) rfl #[.agg #[.slice Ai n ci]] rfl (by (try simp only [List.map_toArray, List.map_cons, List.map_nil]); first | done | rfl) ?_; (have hrI_ := Kd.S_reads' SI.out); (have hcC_ : Calls Try.prog 27 #[.agg #[.slice Ai n ci]] w5 _ := (by have h_ := GRef.ossuarylaw0_CopyMatrix.calls k Ai ci (idM n) (idM n) w5 hrI_.2.2 (Nat.le_trans (Nat.le_of_eq HL.out) hrI_.2.1) AC.out; rw [HL.out] at h_; exact h_)); refine hcC_.mono ?_; intro e w6 hq_; obtain ⟨vm, he_, hS, hb⟩ := hq_; obtain ⟨Am, cm, rfl⟩ := Kd.S_slice hS; rw [HL.out] at he_ hS; subst he_; refine ⟨_, rfl, ?_⟩; have SM := mk0 hS; have n0_ := mk0 (Kd.S_mono (ok' := fun k => k < w5.heap.size) (Kd.S_bound SI.out) (fun _ hk => hk.2.2.1)); clear SI; have SI := n0_; clear n0_ hrI_ hcC_ hS; have HW := mk0 (below_size HB.out); have n0_ := mk0 (below_step HB.out hb); have n1_ := mk0 (blk_below BI.out hb); have n2_ := mk0 (Kd.S_below SI.out hb); clear HB BI SI; have HB := n0_; have BI := n1_; have SI := n2_; clear n0_ n1_ n2_; clear hb hzi)
    | ((with_reducible refine gate_dst (N := 7) rfl ?_); refine box_event ?hg (N := 7) ?hd (cs := #[.slice none 0 0]) (t := 24) ?hr ?_; (case hd => rfl); (case hg => rfl); (case hr => first | (go_simp; done) | (go_simp; rfl)); intro gmb hg w7 hbox hb; have BKN := mk0 hbox; have GN := mk0 (Nat.le_trans (below_size HB.out) (Nat.le_of_eq hg.symm)); have ngmbgi : gmb ≠ gi := (by rw [hg]; exact Nat.ne_of_gt (blk_lt BI.out)); have ngigmb : gi ≠ gmb := fun e_ => ngmbgi e_.symm; have n0_ := mk0 (below_step HB.out hb); have n1_ := mk0 (Kd.S_below SI.out hb); have n2_ := mk0 (Kd.S_below SM.out hb); have n3_ := mk0 (blk_below BI.out hb); clear HB SI SM BI; have HB := n0_; have SI := n1_; have SM := n2_; have BI := n3_; clear n0_ n1_ n2_ n3_; have hzn : w7.cell? ⟨gmb, 0, none⟩ = some (.slice none 0 0) := (blk_cell BKN.out 0).trans rfl; have hfn := blk_frozen BKN.out 0; clear hb hbox hg))
  have BM := mk0 (blk_set BKN.out 0 (.slice Am n cm))
  replace SI := mk0 (farS SI.out BKN.out (by decide) (.slice Am n cm))
  replace SM := mk0 (farS SM.out BKN.out (by decide) (.slice Am n cm))
  replace BI := mk0 (blk_far BI.out (p := ⟨gmb, 0, none⟩) ngigmb (.slice Am n cm))
  replace HB := mk0 (lT HB.out GN (j := 0) (v := (.slice Am n cm)))
  clear BKN GN hzn hfn
  obtain ⟨gm, Cm, hs, eM_, hgm, hO, hRow, hOne⟩ := mat_of_S h1 SM.out
  injection eM_ with e1_ e2_ e3_
  subst e1_
  subst e3_
  have HG := mk0 (Nat.le_trans HW.out hgm)
  have HD := mk0 (show Dia w _ n gi gmb gm cm ci w5.heap.size Ai hs f 0 from ⟨HB.out, BI.out, BM.out, SI.out, hO, fun k hk => (hRow k hk).1.congr (fun j _ => (if_neg (Nat.not_lt_zero _)).symm), fun k hk => ⟨Nat.le_trans HW.out (hRow k hk).2, (hRow k hk).2⟩, hOne⟩)
  clear HB BI BM SI SM hO hRow hOne hgm e2_
  go_loopw [6, 8] (fun v6 v8 wr => ∃ i : Nat, v8 = .int .i64 i ∧ v6 = .bool (zeros f i) ∧ i ≤ n ∧ Aside0 (Dia w wr n gi gmb gm cm ci w5.heap.size Ai hs f i)) (fun _ v _ => n - (intOf v).toNat)
  case atStart => exact ⟨0, rfl, rfl, by omega, HD⟩
  case round =>
    clear HD
    obtain ⟨i, rfl, rfl, hin, HD⟩ := hrel
    by_cases hlt : i < n
    · obtain ⟨ad, eA_, hc_⟩ := Kd.at_int (Kd.C_below HR.out HD.out.below) (i : Int) (by omega) (by omega)
      subst eA_
      rw [Int.toNat_natCast] at hc_
      have x0 : wr.cell? ⟨gmb, 0, none⟩ = some (.slice (some ⟨gm, 0, none⟩) n cm) := blk_cell HD.out.bM 0
      have x1 : wr.cell? ⟨gm, i, none⟩ = some (.slice (some ⟨(hs i).1, 0, none⟩) n (hs i).2) := HD.out.out.cell hlt
      have q1 : decide ((i : Int) < (n : Int)) = true := decide_eq_true (by omega)
      have q3 : decide ((i : Int) < (l.length : Int)) = true := decide_eq_true (by omega)
      have q4 : decide (0 ≤ (i : Int)) = true := decide_eq_true (by omega)
      have q2 : ((n : Int) != (n : Int)) = false := bne_self_eq_false _
      have hbv := hb i
      have hil : i < l.length := by omega
      go_wp2
      refine start_ (n := 13) (S := fun w' => w'.cell? ⟨gmb, 0, none⟩ = some (.slice (some ⟨gm, 0, none⟩) n cm) ∧ w'.cell? ⟨gm, i, none⟩ = some (.slice (some ⟨(hs i).1, 0, none⟩) n (hs i).2) ∧ w'.cell? (ad.add i) = some (.int .i64 (rd l (i : Int)))) (ds := [12]) diag16_q0 (by kernel_rfl) rfl rfl ⟨x0, x1, hc_⟩ (fun hHeld => ?_); refine with_tabW diag16_tab diag16_bits (fun HT_ HW_ => ?_)
      replace HD := mk0 (Dia.drew HD.out)
      clear x0 x1 hc_
      generalize wr.drew = W2 at HD hHeld ⊢
      have x4 := (HD.out.row i hlt).cell hlt
      have x5 := (HD.out.row i hlt).frozen i
      refine pure_ (i := 0) (N := some 52) (v := ?_) (a' := ?_) diag16_q1 rfl rfl (any_of HT_.out (by kernel_rfl)) (fun _ _ _ h => h) (Or.inl ⟨by rfl, ?_⟩) ?_ ?_
      rotate_left
      · intro w'
        go_simp
        with_reducible rfl
      rotate_left
      · simp only [Act.put, List.setIfInBounds_toArray, List.set_cons_zero, List.set_cons_succ, i64_w]
        rfl
      refine pure_ (i := 2) (N := some 54) (v := ?_) (a' := ?_) diag16_q2 rfl rfl (any_of HT_.out (by kernel_rfl)) (fun _ _ _ h => h) (Or.inl ⟨by rfl, ?_⟩) ?_ ?_
      rotate_left
      · intro w'
        go_simp
        with_reducible rfl
      rotate_left
      · simp only [Act.put, List.setIfInBounds_toArray, List.set_cons_zero, List.set_cons_succ, i64_w]
        rfl
      refine pure_ (i := 5) (N := some 57) (v := ?_) (a' := ?_) diag16_q3 rfl rfl (any_of HT_.out (by kernel_rfl)) (fun _ _ _ h => h) (Or.inl ⟨by rfl, ?_⟩) ?_ ?_
      rotate_left
      · intro w'
        go_simp
        with_reducible rfl
      rotate_left
      · simp only [Act.put, List.setIfInBounds_toArray, List.set_cons_zero, List.set_cons_succ, i64_w]
        rfl
      refine pure_ (i := 6) (N := some 58) (v := ?_) (a' := ?_) diag16_q4 rfl rfl (any_of HT_.out (by kernel_rfl)) (fun _ _ _ h => h) (Or.inl ⟨by rfl, ?_⟩) ?_ ?_
      rotate_left
      · intro w'
        go_simp
        with_reducible rfl
      rotate_left
      · simp only [Act.put, List.setIfInBounds_toArray, List.set_cons_zero, List.set_cons_succ, i64_w]
        rfl
      refine pure_ (i := 7) (N := some 59) (v := ?_) (a' := ?_) diag16_q5 rfl rfl (any_of HT_.out (by kernel_rfl)) (fun _ _ _ h => h) (Or.inl ⟨by rfl, ?_⟩) ?_ ?_
      rotate_left
      · intro w'
        go_simp
        with_reducible rfl
      rotate_left
      · simp only [Act.put, List.setIfInBounds_toArray, List.set_cons_zero, List.set_cons_succ, i64_w]
        rfl
      refine pure_ (i := 8) (N := some 60) (v := ?_) (a' := ?_) diag16_q6 rfl rfl (any_of HT_.out (by kernel_rfl)) (fun _ _ _ h => h) (Or.inl ⟨by rfl, ?_⟩) ?_ ?_
      rotate_left
      · intro w'
        go_simp
        with_reducible rfl
      rotate_left
      · simp only [Act.put, List.setIfInBounds_toArray, List.set_cons_zero, List.set_cons_succ, i64_w]
        rfl
      refine take_ (i := 1) (N := some 53) (v := ?_) (a' := ?_) diag16_q7 rfl rfl (take_ofW HT_.out HW_.out (by kernel_rfl)) (fun _ _ _ h => h) (Or.inl ⟨by rfl, ?_⟩) hHeld ?_ ?_
      rotate_left
      · rintro w' ⟨s0, s1, s2⟩
        go_simp
        with_reducible rfl
      rotate_left
      · simp only [Act.put, List.setIfInBounds_toArray, List.set_cons_zero, List.set_cons_succ, i64_w]
        rfl
      refine pure_ (i := 3) (N := some 55) (v := ?_) (a' := ?_) diag16_q8 rfl rfl (any_of HT_.out (by kernel_rfl)) (fun _ _ _ h => h) (Or.inl ⟨by rfl, ?_⟩) ?_ ?_
      rotate_left
      · intro w'
        go_simp
        with_reducible rfl
      rotate_left
      · simp only [Act.put, List.setIfInBounds_toArray, List.set_cons_zero, List.set_cons_succ, i64_w]
        rfl
      refine take_ (i := 4) (N := some 56) (v := ?_) (a' := ?_) diag16_q9 rfl rfl (take_ofW HT_.out HW_.out (by kernel_rfl)) (fun _ _ _ h => h) (Or.inl ⟨by rfl, ?_⟩) hHeld ?_ ?_
      rotate_left
      · rintro w' ⟨s0, s1, s2⟩
        go_simp
        with_reducible rfl
      rotate_left
      · simp only [Act.put, List.setIfInBounds_toArray, List.set_cons_zero, List.set_cons_succ, i64_w]
        rfl
      refine take_ (i := 9) (N := some 61) (v := ?_) (a' := ?_) diag16_q10 rfl rfl (take_ofW HT_.out HW_.out (by kernel_rfl)) (fun _ _ _ h => h) (Or.inl ⟨by rfl, ?_⟩) hHeld ?_ ?_
      rotate_left
      · rintro w' ⟨s0, s1, s2⟩
        go_simp
        with_reducible rfl
      rotate_left
      · simp only [Act.put, List.setIfInBounds_toArray, List.set_cons_zero, List.set_cons_succ, i64_w]
        rfl
      refine pure_ (i := 10) (N := some 62) (v := ?_) (a' := ?_) diag16_q11 rfl rfl (any_of HT_.out (by kernel_rfl)) (fun _ _ _ h => h) (Or.inl ⟨by rfl, ?_⟩) ?_ ?_
      rotate_left
      · intro w'
        go_simp
        with_reducible rfl
      rotate_left
      · simp only [Act.put, List.setIfInBounds_toArray, List.set_cons_zero, List.set_cons_succ, i64_w]
        rfl
      refine pure_ (i := 11) (N := some 63) (v := ?_) (a' := ?_) diag16_q12 rfl rfl (any_of HT_.out (by kernel_rfl)) (fun _ _ _ h => h) (Or.inl ⟨by rfl, ?_⟩) ?_ ?_
      rotate_left
      · intro w'
        go_simp
        with_reducible rfl
      rotate_left
      · simp only [Act.put, List.setIfInBounds_toArray, List.set_cons_zero, List.set_cons_succ, i64_w]
        rfl
      refine last_ (i := 12) (N := none) diag16_q13 rfl rfl (one_of HT_.out (by kernel_rfl)) (by decide) (fun K hK => ?_)
      refine skip_ (w1 := ?_) (by rfl) rfl ?_ ?_
      rotate_left
      · go_simp
        rfl
      refine hK.out _ _ ?_
      clear hK K
      refine done_ (done_of HT_.out (by kernel_rfl)) ?_
      clear HT_ HW_
      clear hHeld
      have HD2 := mk0 (Dia.step HD.out hlt)
      clear HD x4 x5
      generalize W2.setCell ⟨(hs i).1, i, none⟩ (.int .i64 (toI (f i))) = W3 at HD2 ⊢
      obtain ⟨ad2, eA2_, hd_⟩ := Kd.at_int (Kd.C_below HR.out HD2.out.below) (i : Int) (by omega) (by omega)
      injection eA2_ with eA3_
      subst eA3_
      rw [Int.toNat_natCast] at hd_
      rcases hz : zeros f i with _ | _
      · by_cases h0 : f i = 0#8
        · have e0 : toI (f i) = 0 := by rw [h0]; rfl
          rw [e0] at hbv
          go_wp2
          go_roundw
          case rel => exact ⟨i + 1, by go_num, by rw [zeros, hz, decide_eq_true h0]; rfl, by omega, HD2⟩
          case measure => simp only [intOf]; omega
        · have e0 : ((toI (f i)) == 0) = false := beq_eq_false_iff_ne.2 (fun e => h0 ((toI_eq_zero _).1 e))
          have e1 : decide ((toI (f i)) = 0) = false := decide_eq_false (fun e => h0 ((toI_eq_zero _).1 e))
          go_wp2
          go_roundw
          case rel => exact ⟨i + 1, by go_num, by rw [zeros, hz, decide_eq_false h0]; rfl, by omega, HD2⟩
          case measure => simp only [intOf]; omega
      · go_wp2
        go_roundw
        case rel => exact ⟨i + 1, by go_num, by rw [zeros, hz]; rfl, by omega, HD2⟩
        case measure => simp only [intOf]; omega
    · obtain rfl : n = i := by omega
      have q1 : decide ((n : Int) < (n : Int)) = false := decide_eq_false (by omega)
      have x0 : wr.cell? ⟨gmb, 0, none⟩ = some (.slice (some ⟨gm, 0, none⟩) n cm) := blk_cell HD.out.bM 0
      have AV := mk0 HV.out
      clear HV
      rcases HF.out with ⟨hz, rfl, rfl⟩ | ⟨hz, rfl, rfl, hm_, hs_, hy_⟩
      · go_wp2_with (first
          | ((with_reducible refine gCa (f := 40) rfl ?_); refine goesL_ (some 75) rfl rfl Try.func40 (by kernel_rfl) rfl #[.agg #[.slice (some ⟨gm, 0, none⟩) n cm]] rfl (by (try simp only [List.map_toArray, List.map_cons, List.map_nil]); first | done | rfl) ?_; (have hrM_ := Kd.S_reads' (HD.out.read HG.out)); (have hcC_ : Calls Try.prog 40 #[.agg #[.slice (some ⟨gm, 0, none⟩) n cm]] wr _ := (by have h_ := Pr.inv.calls (some ⟨gm, 0, none⟩) cm (fmat (diag f) n n) _ _ wr hrM_.2.2 (by rw [fmat_length]; exact hrM_.2.1) AV.out; rw [fmat_length] at h_; exact h_)); refine hcC_.mono ?_; intro e w8 hq_; obtain ⟨vx, he_, hS, hb⟩ := hq_; obtain ⟨Ax, cx, rfl⟩ := Kd.S_slice hS; rw [List.length_nil] at he_ hS; subst he_; refine ⟨_, rfl, ?_⟩; have SX := mk0 hS; clear hS x0 hrM_ hcC_; have n0_ := mk0 (HD.out.eqs hb); clear HD; have HD := n0_; clear n0_; clear hb)
          | ((with_reducible refine gate_dst (N := 9) rfl ?_); refine box_event ?hg (N := 9) ?hd (cs := #[.slice none 0 0]) (t := 24) ?hr ?_; (case hd => rfl); (case hg => rfl); (case hr => first | (go_simp; done) | (go_simp; rfl)); intro gx hg w9 hbox hb; have BKN := mk0 hbox; have GN := mk0 (Nat.le_trans (below_size HD.out.below) (Nat.le_of_eq hg.symm)); have ngxgi : gx ≠ gi := (by rw [hg]; exact Nat.ne_of_gt (blk_lt HD.out.bI)); have ngigx : gi ≠ gx := fun e_ => ngxgi e_.symm; have ngxgmb : gx ≠ gmb := (by rw [hg]; exact Nat.ne_of_gt (blk_lt HD.out.bM)); have ngmbgx : gmb ≠ gx := fun e_ => ngxgmb e_.symm; have n0_ := mk0 (HD.out.eqs hb); have n1_ := mk0 (Kd.S_below SX.out hb); clear HD SX; have HD := n0_; have SX := n1_; clear n0_ n1_; have hzn : w9.cell? ⟨gx, 0, none⟩ = some (.slice none 0 0) := (blk_cell BKN.out 0).trans rfl; have hfn := blk_frozen BKN.out 0; have x0 : w9.cell? ⟨gmb, 0, none⟩ = some (.slice (some ⟨gm, 0, none⟩) n cm) := blk_cell HD.out.bM 0; clear hb hbox hg)
          | ((with_reducible refine gCa (f := 35) (xs := #[.tmp 79]) rfl ?_); have BX := mk0 (blk_set BKN.out 0 (.slice Ax 0 cx)); have n0_ := mk0 (HD.out.box BKN.out ngigx ngmbgx GN.out (.slice Ax 0 cx)); have n1_ := mk0 (farS SX.out BKN.out (by decide) (.slice Ax 0 cx)); clear HD SX; have HD := n0_; have SX := n1_; clear n0_ n1_; clear BKN GN hzn hfn x0; generalize w9.setCell ⟨gx, 0, none⟩ (.slice Ax 0 cx) = w10 at BX HD SX ⊢; refine goesL_ (some 80) rfl rfl Try.func35 (by kernel_rfl) rfl #[.int .i64 401] rfl (by (try simp only [List.map_toArray, List.map_cons, List.map_nil]); first | done | rfl) ?_; (with_reducible refine (GBase.ossuarylaw0_Num.calls 401 401 _ rfl).mono ?_); rintro e w' ⟨rfl, ⟨nd, rfl⟩⟩; refine ⟨_, rfl, ?_⟩; have n0_ := mk0 (HD.out.drewN nd); have n1_ := mk0 (bN BX.out nd); have n2_ := mk0 (sN SX.out nd); clear HD BX SX; have HD := n0_; have BX := n1_; have SX := n2_; clear n0_ n1_ n2_; generalize w10.drewN nd = w11 at HD BX SX ⊢; have hzx : w11.cell? ⟨gx, 0, none⟩ = some (.slice Ax 0 cx) := (blk_cell BX.out 0).trans rfl))
        go_ret
        exact ⟨rfl, HD.out.below⟩
      · have AM := mk0 hm_
        have AS := mk0 hs_
        have HY := mk0 hy_
        clear hm_ hs_ hy_
        have q5 : ((0 : Int) != 0) = false := rfl
        go_wp2_with (first
          | ((with_reducible refine gCa (f := 40) rfl ?_); refine goesL_ (some 75) rfl rfl Try.func40 (by kernel_rfl) rfl #[.agg #[.slice (some ⟨gm, 0, none⟩) n cm]] rfl (by (try simp only [List.map_toArray, List.map_cons, List.map_nil]); first | done | rfl) ?_; (have hrM_ := Kd.S_reads' (HD.out.read HG.out)); (have hcC_ : Calls Try.prog 40 #[.agg #[.slice (some ⟨gm, 0, none⟩) n cm]] wr _ := (by have h_ := Pr.inv.calls (some ⟨gm, 0, none⟩) cm (fmat (diag f) n n) _ _ wr hrM_.2.2 (by rw [fmat_length]; exact hrM_.2.1) AV.out; rw [fmat_length] at h_; exact h_)); refine hcC_.mono ?_; intro e w8 hq_; obtain ⟨vx, he_, hS, hb⟩ := hq_; obtain ⟨Ax, cx, rfl⟩ := Kd.S_slice hS; rw [fmat_length] at he_ hS; subst he_; refine ⟨_, rfl, ?_⟩; have SX := mk0 hS; clear hS x0 hrM_ hcC_; have n0_ := mk0 (HD.out.eqs hb); clear HD; have HD := n0_; clear n0_; clear hb)
          | ((with_reducible refine gate_dst (N := 9) rfl ?_); refine box_event ?hg (N := 9) ?hd (cs := #[.slice none 0 0]) (t := 24) ?hr ?_; (case hd => rfl); (case hg => rfl); (case hr => first | (go_simp; done) | (go_simp; rfl)); intro gx hg w9 hbox hb; have BKN := mk0 hbox; have GN := mk0 (Nat.le_trans (below_size HD.out.below) (Nat.le_of_eq hg.symm)); have ngxgi : gx ≠ gi := (by rw [hg]; exact Nat.ne_of_gt (blk_lt HD.out.bI)); have ngigx : gi ≠ gx := fun e_ => ngxgi e_.symm; have ngxgmb : gx ≠ gmb := (by rw [hg]; exact Nat.ne_of_gt (blk_lt HD.out.bM)); have ngmbgx : gmb ≠ gx := fun e_ => ngxgmb e_.symm; have n0_ := mk0 (HD.out.eqs hb); have n1_ := mk0 (Kd.S_below SX.out hb); clear HD SX; have HD := n0_; have SX := n1_; clear n0_ n1_; have hzn : w9.cell? ⟨gx, 0, none⟩ = some (.slice none 0 0) := (blk_cell BKN.out 0).trans rfl; have hfn := blk_frozen BKN.out 0; have x0 : w9.cell? ⟨gmb, 0, none⟩ = some (.slice (some ⟨gm, 0, none⟩) n cm) := blk_cell HD.out.bM 0; clear hb hbox hg)
          | ((with_reducible refine gCa (f := 28) rfl ?_); have BX := mk0 (blk_set BKN.out 0 (.slice Ax n cx)); have n0_ := mk0 (HD.out.box BKN.out ngigx ngmbgx GN.out (.slice Ax n cx)); have n1_ := mk0 (farS SX.out BKN.out (by decide) (.slice Ax n cx)); clear HD SX; have HD := n0_; have SX := n1_; clear n0_ n1_; clear BKN GN hzn hfn x0; generalize w9.setCell ⟨gx, 0, none⟩ (.slice Ax n cx) = w10 at BX HD SX ⊢; refine goesL_ (some 91) rfl rfl Try.func28 (by kernel_rfl) rfl #[.agg #[.slice Ax n cx], .agg #[.slice (some ⟨gm, 0, none⟩) n cm]] rfl (by (try simp only [List.map_toArray, List.map_cons, List.map_nil]); first | done | rfl) ?_; (have hrM_ := Kd.S_reads' (HD.out.read HG.out)); (have hrX_ := Kd.S_reads' SX.out); (have hcC_ : Calls Try.prog 28 #[.agg #[.slice Ax n cx], .agg #[.slice (some ⟨gm, 0, none⟩) n cm]] w10 _ := (by have h_ := GMul.matrix_Mul.calls k Ax cx (fmat y n n) (some ⟨gm, 0, none⟩) cm (fmat (diag f) n n) (idM n) 0 w10 hrX_.2.2 (by rw [fmat_length]; exact hrX_.2.1) hrM_.2.2 (by rw [fmat_length]; exact hrM_.2.1) AM.out; rw [fmat_length, fmat_length] at h_; exact h_)); refine hcC_.mono ?_; intro e w11 hq_; obtain ⟨vy, he_, hS, hb⟩ := hq_; obtain ⟨Ay, cy, rfl⟩ := Kd.S_slice hS; rw [HL.out] at he_ hS; subst he_; refine ⟨_, rfl, ?_⟩; have SY := mk0 hS; clear hS hrM_ hrX_ hcC_; have n0_ := mk0 (HD.out.eqs hb); have n1_ := mk0 (Kd.S_below SX.out hb); have n2_ := mk0 (blk_below BX.out hb); clear HD SX BX; have HD := n0_; have SX := n1_; have BX := n2_; clear n0_ n1_ n2_; clear hb)
          | ((with_reducible refine gate_dst (N := 11) rfl ?_); refine box_event ?hg (N := 11) ?hd (cs := #[.slice none 0 0]) (t := 24) ?hr ?_; (case hd => rfl); (case hg => rfl); (case hr => first | (go_simp; done) | (go_simp; rfl)); intro gy hg w12 hbox hb; have BKN := mk0 hbox; have GN := mk0 (Nat.le_trans (below_size HD.out.below) (Nat.le_of_eq hg.symm)); have ngygi : gy ≠ gi := (by rw [hg]; exact Nat.ne_of_gt (blk_lt HD.out.bI)); have ngigy : gi ≠ gy := fun e_ => ngygi e_.symm; have ngygmb : gy ≠ gmb := (by rw [hg]; exact Nat.ne_of_gt (blk_lt HD.out.bM)); have ngmbgy : gmb ≠ gy := fun e_ => ngygmb e_.symm; have ngygx : gy ≠ gx := (by rw [hg]; exact Nat.ne_of_gt (blk_lt BX.out)); have ngxgy : gx ≠ gy := fun e_ => ngygx e_.symm; have n0_ := mk0 (HD.out.eqs hb); have n1_ := mk0 (Kd.S_below SX.out hb); have n2_ := mk0 (Kd.S_below SY.out hb); have n3_ := mk0 (blk_below BX.out hb); clear HD SX SY BX; have HD := n0_; have SX := n1_; have SY := n2_; have BX := n3_; clear n0_ n1_ n2_ n3_; have hzn : w12.cell? ⟨gy, 0, none⟩ = some (.slice none 0 0) := (blk_cell BKN.out 0).trans rfl; have hfn := blk_frozen BKN.out 0; clear hb hbox hg)
          | ((with_reducible refine gCa (f := 35) (xs := #[.tmp 94]) rfl ?_); have BY := mk0 (blk_set BKN.out 0 (.slice Ay n cy)); have n0_ := mk0 (HD.out.box BKN.out ngigy ngmbgy GN.out (.slice Ay n cy)); have n1_ := mk0 (farS SX.out BKN.out (by decide) (.slice Ay n cy)); have n2_ := mk0 (farS SY.out BKN.out (by decide) (.slice Ay n cy)); have n3_ := mk0 (blk_far BX.out (p := ⟨gy, 0, none⟩) ngxgy (.slice Ay n cy)); clear HD SX SY BX; have HD := n0_; have SX := n1_; have SY := n2_; have BX := n3_; clear n0_ n1_ n2_ n3_; clear BKN GN hzn hfn; generalize w12.setCell ⟨gy, 0, none⟩ (.slice Ay n cy) = w13 at BX BY HD SX SY ⊢; refine goesL_ (some 95) rfl rfl Try.func35 (by kernel_rfl) rfl #[.int .i64 0] rfl (by (try simp only [List.map_toArray, List.map_cons, List.map_nil]); first | done | rfl) ?_; (with_reducible refine (GBase.ossuarylaw0_Num.calls 0 0 _ rfl).mono ?_); rintro e w' ⟨rfl, ⟨nd, rfl⟩⟩; refine ⟨_, rfl, ?_⟩; have n0_ := mk0 (HD.out.drewN nd); have n1_ := mk0 (bN BX.out nd); have n2_ := mk0 (bN BY.out nd); have n3_ := mk0 (sN SX.out nd); have n4_ := mk0 (sN SY.out nd); clear HD BX BY SX SY; have HD := n0_; have BX := n1_; have BY := n2_; have SX := n3_; have SY := n4_; clear n0_ n1_ n2_ n3_ n4_; generalize w13.drewN nd = w14 at HD BX BY SX SY ⊢; have TK := mk0 True.intro)
          | (go_at_call 35; (with_reducible refine (GBase.ossuarylaw0_Num.calls 0 0 _ rfl).mono ?_); rintro e w' ⟨rfl, ⟨nd, rfl⟩⟩; have n0_ := mk0 (HD.out.drewN nd); have n1_ := mk0 (bN BX.out nd); have n2_ := mk0 (bN BY.out nd); have n3_ := mk0 (sN SX.out nd); have n4_ := mk0 (sN SY.out nd); clear HD BX BY SX SY; have HD := n0_; have BX := n1_; have BY := n2_; have SX := n3_; have SY := n4_; clear n0_ n1_ n2_ n3_ n4_; generalize w14.drewN nd = w15 at HD BX BY SX SY ⊢; have hzy : w15.cell? ⟨gy, 0, none⟩ = some (.slice Ay n cy) := (blk_cell BY.out 0).trans rfl; have hzi : w15.cell? ⟨gi, 0, none⟩ = some (.slice Ai n ci) := (blk_cell HD.out.bI 0).trans rfl)
          | (go_at_call 34; (have hrY_ := Kd.S_reads' SY.out); (have hrI_ := Kd.S_reads' HD.out.sI); (have hcC_ : Calls Try.prog 34 #[.agg #[.slice Ay n cy], .agg #[.slice Ai n ci]] w15 _ := (by have h_ := GBase.ossuarylaw0_SameMatrix.calls k Ay cy (idM n) Ai ci (idM n) true w15 hrY_.2.2 (by rw [HL.out]; exact hrY_.2.1) hrI_.2.2 (by rw [HL.out]; exact hrI_.2.1) AS.out; rw [HL.out] at h_; exact h_)); refine hcC_.mono ?_; rintro e w16 ⟨rfl, hb⟩; clear hcC_ hrY_ hrI_ hzy hzi SY; have n0_ := mk0 (HD.out.eqs hb); have n1_ := mk0 (blk_below BX.out hb); have n2_ := mk0 (Kd.S_below SX.out hb); clear HD BX SX; have HD := n0_; have BX := n1_; have SX := n2_; clear n0_ n1_ n2_; clear hb))
        have hrX_ := Kd.S_reads' SX.out
        rw [fmat_length] at hrX_
        have HC := mk0 hrX_.2.2
        have HBl := mk0 HD.out.below
        clear HD SX hrX_
        go_loopw [13] (fun v13 w2 => ∃ i : Nat, v13 = .int .i64 i ∧ i ≤ n ∧ Aside0 (Below w.heap.size w w2) ∧ Aside0 (w2.heap[gx]? = some (.cells #[.slice Ax n cx] 24 (0, 0))) ∧ Aside0 (Kd.C (Kd.slice 3 (Kd.int .i64)) w2 Ax n (fmat y n n))) (fun v _ => n - (intOf v).toNat)
        case atStart => exact ⟨0, rfl, by omega, HBl, BX, HC⟩
        case round =>
          clear HBl BX HC
          obtain ⟨i, rfl, hin2, HBl, BX, HC⟩ := hrel
          by_cases hlt : i < n
          · have q6 : decide ((i : Int) < (n : Int)) = true := decide_eq_true (by omega)
            go_wp2
            go_loopw [14] (fun v14 w3 => ∃ j : Nat, v14 = .int .i64 j ∧ j ≤ n ∧ Aside0 (Below w.heap.size w w3) ∧ Aside0 (w3.heap[gx]? = some (.cells #[.slice Ax n cx] 24 (0, 0))) ∧ Aside0 (Kd.C (Kd.slice 3 (Kd.int .i64)) w3 Ax n (fmat y n n))) (fun v _ => n - (intOf v).toNat)
            case atStart => exact ⟨0, rfl, by omega, HBl, BX, HC⟩
            case round =>
              clear HBl BX HC
              obtain ⟨j, rfl, hjn, HBl, BX, HC⟩ := hrel
              by_cases hlj : j < n
              · have q7 : decide ((j : Int) < (n : Int)) = true := decide_eq_true (by omega)
                by_cases hij : i = j
                · have q8 : ((i : Int) != (j : Int)) = false := by rw [hij]; exact bne_self_eq_false _
                  go_wp2
                  go_roundw
                  case rel => exact ⟨j + 1, by go_num, by omega, HBl, BX, HC⟩
                  case measure => simp only [intOf]; omega
                · have q8 : ((i : Int) != (j : Int)) = true := bne_iff_ne.2 (fun e => hij (by omega))
                  have y0 := (blk_cell BX.out 0).trans (rfl : _ = some (Value.slice Ax n cx))
                  obtain ⟨ad1, A1, c1, e1_, hy1_, hy2_, hy3_⟩ := GBase.at_L1 HC.out (i : Int) (by omega) (by omega)
                  subst e1_
                  rw [rdL _ i (by rw [fmat_length]; omega), fmat_get, rowOf_length] at hy1_ hy3_
                  obtain ⟨ad2, e2_, hy4_⟩ := Kd.at_int hy3_ (j : Int) (by omega) (by omega)
                  subst e2_
                  have e3_ : rd (rowOf (fun j => toI (y i j)) n) (j : Int) = 0 := by
                    show (rowOf (fun j => toI (y i j)) n).getD (j : Int).toNat 0 = 0
                    rw [Int.toNat_natCast, getD_get _ _ _ (by rw [rowOf_length]; omega), rowOf_get, HY.out i j hlt hlj hij]
                    rfl
                  rw [e3_] at hy4_
                  rw [Int.toNat_natCast] at hy1_ hy4_
                  go_wp2
                  go_roundw
                  case rel => exact ⟨j + 1, by go_num, by omega, HBl, BX, HC⟩
                  case measure => simp only [intOf]; omega
              · obtain rfl : n = j := by omega
                have q7 : decide ((n : Int) < (n : Int)) = false := decide_eq_false (by omega)
                go_wp2
                go_roundw
                case rel => exact ⟨i + 1, by go_num, by omega, HBl, BX, HC⟩
                case measure => simp only [intOf]; omega
          · obtain rfl : n = i := by omega
            have q6 : decide ((n : Int) < (n : Int)) = false := decide_eq_false (by omega)
            go_wp2
            go_ret
            exact ⟨rfl, HBl.out⟩
end Go.Proofs.Ytaahnicjjpddjaa.Pr
