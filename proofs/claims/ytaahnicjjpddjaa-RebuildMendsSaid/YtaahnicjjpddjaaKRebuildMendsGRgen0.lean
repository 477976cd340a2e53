/- The reference's inverse of what is no square matrix: the call's walk, by hand; and the call's contract at every matrix. No condition. Functions of the program as Lean functions, each with a proof that its call comes to what the function says. No condition. -/
import Derived.Test.YtaahnicjjpddjaaKRebuildMendsRefInvert
import Derived.Test.YtaahnicjjpddjaaKRebuildMendsGRef4
section
namespace Go.Proofs.Ytaahnicjjpddjaa.Pr
open Go.RowKit Go.Proofs.YtaahnicjjpddjaaW.PrintWords Go.Proofs.YtaahnicjjpddjaaW.PrintLast Go.Proofs.YtaahnicjjpddjaaW.PrintMore Go.Proofs.Ytaahnicjjpddjaa.Fld Go.Proofs.Ytaahnicjjpddjaa.Mat Go.Proofs.Ytaahnicjjpddjaa.Fn Go.Proofs.Ytaahnicjjpddjaa.GRef
set_option linter.unusedSimpArgs false
def rinv1_T : Bool × List (List Nat × List Nat) := (true, [([], []), ([0], [0]), ([1], [1]), ([2, 1], [2]), ([3], [3]), ([4, 3], [3, 4]), ([5, 3], [3, 5]), ([3], [3]), ([7, 3], [3, 7]), ([8, 3], [3, 8]), ([9, 3], [3, 9]), ([10, 3], [3, 10]), ([6, 11, 3], [3, 6, 11]), ([3, 12], [3, 12])])
def rinv1_B : List Nat := [0, 1, 3, 7, 15, 31, 63, 15, 143, 399, 911, 1935, 4095, 8191]
theorem rinv1_tab : rtab .any (opsOf Try.f41 1) = rinv1_T := by kernel_rfl
theorem rinv1_bits : waitsOk rinv1_T.2 rinv1_B = true := by kernel_rfl
def RNoEnd (w : World) (e : Ending) (w' : World) : Prop := e = .returned (.tuple #[.agg #[.slice none 0 0], .int .i64 400]) ∧ Below w.heap.size w w'
set_option maxHeartbeats 2000000 in
set_option maxRecDepth 100000 in
theorem rinvert_no1 (A0 : Option Addr) (c0 n : Nat) (l0 : List (List Int)) (w : World) (hl : n = l0.length) (hr : Kd.C (Kd.slice 3 (Kd.int .i64)) w A0 n l0) (hc : n ≤ c0) (h : mayB l0 = false) :
    Calls Try.prog 41 #[.agg #[.slice A0 n c0]] w (RNoEnd w) := by
  have hu24 := Try.underlying24
  have HR := Aside0.mk hr
  have HB := Aside0.mk (Below.refl w.heap.size w)
  have CM : ∀ W, Kd.C (Kd.slice 3 (Kd.int .i64)) W A0 n l0 → Calls Try.prog 37 #[.agg #[.slice A0 n c0]] W fun e w' => e = .returned (.bool false) ∧ Below W.heap.size W w' := by
    intro W hW
    subst hl
    exact ossuaryref1_MatrixMay.calls 300 A0 c0 l0 false W hW hc (by rw [rmay_f uV, h])
  clear hr hl h
  go_enter Try.func41, Try.ntmps41
  go_wp2_with (first
    | ((with_reducible refine gate_dst (N := 1) rfl ?_); refine box_event uW (N := 1) uW (cs := #[.slice A0 n c0]) (t := 24) uL ?_; intro g1 hg w1 hbox hb;
       have n0_ := Aside0.mk (below_step ul hb); have n1_ := Aside0.mk (hbox); have n2_ := Aside0.mk ((nB hg HB));
       clear HB; have HB := n0_; have BK1 := n1_; have GE1 := n2_; clear n0_ n1_ n2_; clear hb hbox hg; have hcz := (blk_cell BK1.out 0); have hfz := blk_frozen BK1.out 0)
    | ((with_reducible refine gate_dst (N := 2) rfl ?_); refine box_event uW (N := 2) uW (cs := #[.slice none 0 0]) (t := 24) uL ?_; intro g2 hg w2 hbox hb;
       have n0_ := Aside0.mk (below_step ul hb); have n1_ := Aside0.mk (hbox); have n2_ := Aside0.mk ((nB hg HB)); have n3_ := Aside0.mk (blk_below BK1.out hb); have n4_ := Aside0.mk (uK : g1 ≠ g2);
       clear HB BK1 hcz hfz; have HB := n0_; have BK2 := n1_; have GE2 := n2_; have BK1 := n3_; have NB := n4_; clear n0_ n1_ n2_ n3_ n4_; clear hb hbox hg; have hcz := (blk_cell BK1.out 0); have hfz := blk_frozen BK1.out 0))
  replace BK1 := mk0 (blk_drew BK1.out)
  replace BK2 := mk0 (blk_drew BK2.out)
  replace HB := mk0 (below_drew1 HB.out)
  clear hcz hfz
  refine start_ (n := 14) (S := fun w' => w'.cell? ⟨g1, 0, none⟩ = some (.slice A0 n c0)) (ds := []) (bz 14 0) uT rfl rfl ((blk_cell BK1.out 0).trans rfl) (fun hHeld => ?_); refine with_tabW rinv1_tab rinv1_bits (fun HT_ HW_ => ?_)
  generalize w2.drew = w42 at BK1 BK2 HB hHeld ⊢
  refine pT1 0 14 (bz 14 1) HT_.out HW_.out hHeld ?_
  refine one_ (i := 1) (N := some 15) (bz 14 3) rfl rfl (pO HT_.out) uZ (fun K hK => ?_)
  refine goes_ Try.func37 uT rfl #[.agg #[.slice A0 n c0]] uW rfl rfl uY ?_
  (with_reducible refine (CM _ ?side1).mono ?_)
  (case side1 => exact cB (Kd.C_below HR.out HB.out))
  rintro e w43 ⟨rfl, hb⟩
  refine ⟨_, rfl, ?_⟩
  replace BK1 := bK BK1 hb
  replace BK2 := bK BK2 hb
  replace HB := mk0 (below_step ul hb)
  clear hb
  refine hK.out _ _ ((blk_cell BK1.out 0).trans rfl) (fun hHeld => ?_)
  clear hK K
  refine pM (some 15) ?_
  refine pU 2 16 (bz 14 7) HT_.out ?_
  refine pU 3 17 (bz 14 15) HT_.out ?_
  refine pN 4 18 (bz 14 31) HT_.out ?_
  refine pN 5 19 (bz 14 63) HT_.out ?_
  refine pN 6 20 (bz 14 127) HT_.out ?_
  refine pN 7 21 (bz 14 255) HT_.out ?_
  refine pN 8 22 (bz 14 511) HT_.out ?_
  refine pN 9 23 (bz 14 1023) HT_.out ?_
  refine pN 10 24 (bz 14 2047) HT_.out ?_
  refine pN 11 25 (bz 14 4095) HT_.out ?_
  refine pN 12 26 (bz 14 8191) HT_.out ?_
  refine pU 13 27 (bz 14 16383) HT_.out ?_
  refine done_ (done_of HT_.out uT) ?_
  have hcz := (blk_cell BK2.out 0)
  have hfz := blk_frozen BK2.out 0
  go_wp2
  refine bodyPost_ret (results_ct rfl _ _ g2 24 #[.slice none 0 0] (0, 0) _ rfl ux Try.underlying24 rfl uT) rfl ?_
  exact ⟨rfl, below_set HB.out GE2.out⟩
set_option maxHeartbeats 2000000 in
set_option maxRecDepth 100000 in
theorem rinvert_no2 (A0 : Option Addr) (c0 n k : Nat) (l0 : List (List Int)) (w : World) (hl : n = l0.length) (hk : k = cols l0) (hr : Kd.C (Kd.slice 3 (Kd.int .i64)) w A0 n l0) (hc : n ≤ c0) (h : mayB l0 = true) (hne : n ≠ k) :
    Calls Try.prog 41 #[.agg #[.slice A0 n c0]] w (RNoEnd w) := by
  have hu24 := Try.underlying24
  have HR := Aside0.mk hr
  have HB := Aside0.mk (Below.refl w.heap.size w)
  have h1 := (may_fmat h).1
  have CM : ∀ W, Kd.C (Kd.slice 3 (Kd.int .i64)) W A0 n l0 → Calls Try.prog 37 #[.agg #[.slice A0 n c0]] W fun e w' => e = .returned (.bool true) ∧ Below W.heap.size W w' := by
    intro W hW
    subst hl
    exact ossuaryref1_MatrixMay.calls 300 A0 c0 l0 true W hW hc (by rw [rmay_f uV, h])
  obtain ⟨ad, R0, d0, e0, x0, _, _⟩ := GBase.at_L1 hr 0 uV uV
  have e1 : (GBase.rd_L1 l0 0).length = k := by rw [hk, show (0 : Int) = ((0 : Nat) : Int) from rfl, rdL _ 0 uV, cols_get _ uV]
  rw [e1, show ad.add (0 : Int).toNat = ad from add0 ad] at x0
  have q0 : decide ((0 : Int) < (n : Int)) = true := decide_eq_true uV
  have q1 : ((n : Int) != (k : Int)) = true := bne_iff_ne.mpr uV
  have r0 := eq_true (show (0 : Int) < (n : Int) by omega)
  have r1 := eq_true (show 0 < n by omega)
  have q2 : decide (0 < n) = true := decide_eq_true uV
  have HX := Aside0.mk x0
  subst e0
  clear hr hl hk h hne h1 e1 x0
  go_enter Try.func41, Try.ntmps41
  go_wp2_with (first
    | ((with_reducible refine gate_dst (N := 1) rfl ?_); refine box_event uW (N := 1) uW (cs := #[.slice (some ad) n c0]) (t := 24) uL ?_; intro g1 hg w1 hbox hb;
       have n0_ := Aside0.mk (below_step ul hb); have n1_ := Aside0.mk (hbox); have n2_ := Aside0.mk ((nB hg HB));
       clear HB; have HB := n0_; have BK1 := n1_; have GE1 := n2_; clear n0_ n1_ n2_; clear hb hbox hg; have hcz := (blk_cell BK1.out 0); have hfz := blk_frozen BK1.out 0)
    | ((with_reducible refine gate_dst (N := 2) rfl ?_); refine box_event uW (N := 2) uW (cs := #[.slice none 0 0]) (t := 24) uL ?_; intro g2 hg w2 hbox hb;
       have n0_ := Aside0.mk (below_step ul hb); have n1_ := Aside0.mk (hbox); have n2_ := Aside0.mk ((nB hg HB)); have n3_ := Aside0.mk (blk_below BK1.out hb); have n4_ := Aside0.mk (uK : g1 ≠ g2);
       clear HB BK1 hcz hfz; have HB := n0_; have BK2 := n1_; have GE2 := n2_; have BK1 := n3_; have NB := n4_; clear n0_ n1_ n2_ n3_ n4_; clear hb hbox hg; have hcz := (blk_cell BK1.out 0); have hfz := blk_frozen BK1.out 0))
  go_cut [27] (fun v27 wc => v27 = .bool true ∧ Aside0 (wc.heap[g2]? = some (.cells #[.slice none 0 0] 24 (0, 0))) ∧ Aside0 (Below w.heap.size w wc))
  case first =>
    go_region_with (go_at_call 37; (with_reducible refine (CM _ ?side1).mono ?_); (case side1 => exact cB (Kd.C_below HR.out HB.out)); rintro e w3 ⟨rfl, hb⟩; have n0_ := Aside0.mk (below_step ul hb); have n1_ := Aside0.mk (blk_below (bB BK1.out) hb); have n2_ := Aside0.mk (blk_below (bB BK2.out) hb); have x0' := pw_cell_below n0_.out HX.out; clear HB BK1 BK2 hcz hfz; have HB := n0_; have BK1 := n1_; have BK2 := n2_; clear n0_ n1_ n2_ hb; have hcz := (blk_cell BK1.out 0); have hfz := blk_frozen BK1.out 0)
    all_goals (go_wp2; go_meet)
    all_goals (exact ⟨rfl, ⟨bB BK2.out⟩, ⟨ul⟩⟩)
  case rest =>
    clear BK1 BK2 HB hcz hfz
    obtain ⟨rfl, BK2, HB⟩ := hcut
    have hcz := (blk_cell BK2.out 0)
    have hfz := blk_frozen BK2.out 0
    go_wp2
    refine bodyPost_ret (results_ct rfl _ _ g2 24 #[.slice none 0 0] (0, 0) _ rfl ux Try.underlying24 rfl uT) rfl ?_
    exact ⟨rfl, below_set HB.out GE2.out⟩
theorem rinv.calls (A0_0 : Option Addr) (c0_0 : Nat) (l0_0 : List (List Int)) (r1 : List (List Int)) (r2 : Int) (w : World) (hr0_0 : Kd.C (Kd.slice 3 (Kd.int .i64)) w A0_0 l0_0.length l0_0) (hc0_0 : l0_0.length ≤ c0_0) (h : inv.f l0_0 = some (r1, r2)) :
    Calls Try.prog 41 #[.agg #[.slice A0_0 l0_0.length c0_0]] w fun e w' => ∃ v0_ : Value, e = .returned (.tuple #[.agg #[v0_], .int .i64 r2]) ∧ Kd.S (Kd.slice 3 (Kd.int .i64)) 25 w' w.heap.size (fun _ => True) v0_ r1 ∧ Below w.heap.size w w' := by
  have h := Option.some.inj h
  by_cases hm : mayB l0_0 = true
  · by_cases hs : l0_0.length = cols l0_0
    · obtain ⟨hb, he⟩ := may_fmat hm
      rw [← hs] at he
      obtain ⟨n, hn⟩ : ∃ n, n = l0_0.length := ⟨_, rfl⟩
      obtain ⟨m, hme⟩ : ∃ m, m = ent l0_0 := ⟨_, rfl⟩
      rw [← hn, ← hme] at he
      rw [← hn] at hr0_0 hc0_0 hb ⊢
      rw [he] at hr0_0 h
      refine (rinvert_walk A0_0 c0_0 n m w hb.1 hb.2.1 hr0_0 hc0_0).mono ?_
      rintro e w' ⟨hB, ⟨y, v0, hy, hy', rfl, hS⟩ | ⟨hz, rfl⟩⟩
      · rw [invF_inv hb.1 hb.2.1 hy hy'] at h
        simp only [Prod.mk.injEq] at h
        obtain ⟨rfl, rfl⟩ := h
        exact ⟨v0, rfl, hS, hB⟩
      · rw [invF_sing hb.1 hb.2.1 hz] at h
        simp only [Prod.mk.injEq] at h
        obtain ⟨rfl, rfl⟩ := h
        exact ⟨_, rfl, Kd.S_nil _ _ _ _ _, hB⟩
    · rw [invF_no (fun e => hs e.2)] at h
      simp only [Prod.mk.injEq] at h
      obtain ⟨rfl, rfl⟩ := h
      refine (rinvert_no2 A0_0 c0_0 _ _ l0_0 w rfl rfl hr0_0 hc0_0 hm hs).mono ?_
      rintro e w' ⟨rfl, hB⟩
      exact ⟨_, rfl, Kd.S_nil _ _ _ _ _, hB⟩
  · rw [invF_no (fun e => hm e.1)] at h
    simp only [Prod.mk.injEq] at h
    obtain ⟨rfl, rfl⟩ := h
    refine (rinvert_no1 A0_0 c0_0 _ l0_0 w rfl hr0_0 hc0_0 (Bool.eq_false_iff.mpr hm)).mono ?_
    rintro e w' ⟨rfl, hB⟩
    exact ⟨_, rfl, Kd.S_nil _ _ _ _ _, hB⟩
end Go.Proofs.Ytaahnicjjpddjaa.Pr
end
section
namespace Go.Proofs.Ytaahnicjjpddjaa.GRgen
open Go.Proofs.Ytaahnicjjpddjaa.Fn
open Go.Proofs.Ytaahnicjjpddjaa
open Go.RowKit Go.Proofs.YtaahnicjjpddjaaW.PrintWords Go.Proofs.YtaahnicjjpddjaaW.PrintLast
set_option linter.unusedVariables false
set_option linter.unusedSimpArgs false
noncomputable def errW : Option Int → Value
 | none => .nilIface
 | some c => .iface 0 (.int .i64 c)
theorem errW_none : errW none = .nilIface := rfl
theorem errW_some (c : Int) : errW (some c) = .iface 0 (.int .i64 c) := rfl
noncomputable def rd_L1 (xs : List (List Int)) (i : Int) : (List Int) := xs.getD i.toNat ([] : List Int)
theorem at_L1 {w : World} {A : Option Addr} {n : Nat} {xs : List (List Int)} (h : Kd.C (Kd.slice 3 (Kd.int .i64)) w A n xs) (i : Int) (h0 : 0 ≤ i) (h1 : i < n) : ∃ ad A0 c0, A = some ad ∧ w.cell? (ad.add i.toNat) = some (.slice A0 (rd_L1 xs i).length c0) ∧ (rd_L1 xs i).length ≤ c0 ∧ (Kd.int .i64).C w A0 (rd_L1 xs i).length (rd_L1 xs i) := by
 obtain ⟨ad, c, e, _, hK, hc0⟩ := Kd.C_get h ([] : List Int) i h0 h1
 have hc : ∀ j u, c[j]? = some u → w.cell? (ad.add (i.toNat * 1 + j)) = some u := hc0
 obtain ⟨A0, c0, rfl, l0, g0⟩ := hK
 exact ⟨ad, A0, c0, e, uF, l0, g0⟩
noncomputable def rd_L2 (xs : List (List (List Int))) (i : Int) : (List (List Int)) := xs.getD i.toNat ([] : List (List Int))
theorem at_L2 {w : World} {A : Option Addr} {n : Nat} {xs : List (List (List Int))} (h : Kd.C (Kd.slice 25 (Kd.slice 3 (Kd.int .i64))) w A n xs) (i : Int) (h0 : 0 ≤ i) (h1 : i < n) : ∃ ad A0 c0, A = some ad ∧ w.cell? (ad.add i.toNat) = some (.slice A0 (rd_L2 xs i).length c0) ∧ (rd_L2 xs i).length ≤ c0 ∧ (Kd.slice 3 (Kd.int .i64)).C w A0 (rd_L2 xs i).length (rd_L2 xs i) := by
 obtain ⟨ad, c, e, _, hK, hc0⟩ := Kd.C_get h ([] : List (List Int)) i h0 h1
 have hc : ∀ j u, c[j]? = some u → w.cell? (ad.add (i.toNat * 1 + j)) = some u := hc0
 obtain ⟨A0, c0, rfl, l0, g0⟩ := hK
 exact ⟨ad, A0, c0, e, uF, l0, g0⟩
end Go.Proofs.Ytaahnicjjpddjaa.GRgen
end
