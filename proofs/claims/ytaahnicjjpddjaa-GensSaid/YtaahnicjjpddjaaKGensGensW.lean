/- The law of the code's matrix at any shape: the call's walk, by hand. -/
import Derived.Test.YtaahnicjjpddjaaKGensRefGen
import Derived.Test.YtaahnicjjpddjaaKGensSpoilN
import Derived.Test.YtaahnicjjpddjaaKGensGAwg1
namespace Go.Proofs.Ytaahnicjjpddjaa.Pr
open Go.RowKit Go.Proofs.YtaahnicjjpddjaaW.PrintWords Go.Proofs.YtaahnicjjpddjaaW.PrintLast Go.Proofs.YtaahnicjjpddjaaW.PrintMore Go.Proofs.Ytaahnicjjpddjaa.Fld Go.Proofs.Ytaahnicjjpddjaa.Mat Go.Proofs.Ytaahnicjjpddjaa.Fn
set_option linter.unusedVariables false
set_option linter.unusedSimpArgs false
def gens3_T : Bool × List (List Nat × List Nat) := (true, [([], []), ([], []), ([0, 1], [0, 1]), ([2], [2]), ([3, 2], [3]), ([4], [4]), ([5, 4, 4], [4, 5]), ([4], [4]), ([6, 7, 4], [4, 6, 7]), ([4, 8], [4, 8]), ([9, 6], [9]), ([10], [10]), ([11, 10, 10], [10, 11]), ([10], [10]), ([13, 12, 10], [10, 13]), ([12, 14, 10], [10, 12, 14]), ([10, 15], [10, 15])])
def gens3_B : List Nat := [0, 0, 3, 7, 15, 31, 63, 31, 255, 511, 1023, 2047, 4095, 2047, 16383, 32767, 65535]
theorem gens3_tab : rtab .any (opsOf Try.f11 3) = gens3_T := by kernel_rfl
theorem gens3_bits : waitsOk gens3_T.2 gens3_B = true := by kernel_rfl
abbrev gens3_q0 : Array Bool := #[false, false, false, false, false, false, false, false, false, false, false, false, false, false, false, false, false]
abbrev gens3_q1 : Array Bool := #[true, false, false, false, false, false, false, false, false, false, false, false, false, false, false, false, false]
abbrev gens3_q2 : Array Bool := #[true, true, false, false, false, false, false, false, false, false, false, false, false, false, false, false, false]
abbrev gens3_q3 : Array Bool := #[true, true, true, false, false, false, false, false, false, false, false, false, false, false, false, false, false]
abbrev gens3_q4 : Array Bool := #[true, true, true, true, false, false, false, false, false, false, false, false, false, false, false, false, false]
abbrev gens3_q5 : Array Bool := #[true, true, true, true, true, false, false, false, false, false, false, false, false, false, false, false, false]
abbrev gens3_q6 : Array Bool := #[true, true, true, true, true, true, false, false, false, false, false, false, false, false, false, false, false]
abbrev gens3_q7 : Array Bool := #[true, true, true, true, true, true, false, true, false, false, false, false, false, false, false, false, false]
abbrev gens3_q8 : Array Bool := #[true, true, true, true, true, true, true, true, false, false, false, false, false, false, false, false, false]
abbrev gens3_q9 : Array Bool := #[true, true, true, true, true, true, true, true, true, false, false, false, false, false, false, false, false]
abbrev gens3_q10 : Array Bool := #[true, true, true, true, true, true, true, true, true, true, false, false, false, false, false, false, false]
abbrev gens3_q11 : Array Bool := #[true, true, true, true, true, true, true, true, true, true, true, false, false, false, false, false, false]
abbrev gens3_q12 : Array Bool := #[true, true, true, true, true, true, true, true, true, true, true, true, false, false, false, false, false]
abbrev gens3_q13 : Array Bool := #[true, true, true, true, true, true, true, true, true, true, true, true, false, true, false, false, false]
abbrev gens3_q14 : Array Bool := #[true, true, true, true, true, true, true, true, true, true, true, true, true, true, false, false, false]
abbrev gens3_q15 : Array Bool := #[true, true, true, true, true, true, true, true, true, true, true, true, true, true, true, false, false]
abbrev gens3_q16 : Array Bool := #[true, true, true, true, true, true, true, true, true, true, true, true, true, true, true, true, false]
abbrev gens3_q17 : Array Bool := #[true, true, true, true, true, true, true, true, true, true, true, true, true, true, true, true, true]
set_option maxHeartbeats 3000000 in
set_option maxRecDepth 100000 in
theorem gens_walk (k : Nat) (d p : Int) (r1 : List (List Int)) (r2 : Int) (sm : Bool) (w : World) (hm : Mtx r1)
    (h1 : GGen.gen_Matrix.f k d p = some (r1, r2)) (h2 : GRgen.ossuaryref1_Gen.f k d p = some (r1, r2)) (h3 : GBase.ossuarylaw0_SameMatrix.f k r1 r1 = some true) (h4 : GGf.gen_May.f d p = some sm) (h6 : GRef.ossuaryref1_ShapeMay.f d p = some sm) (h5 : GAwg.ossuarylaw5_awake.f k = some true) :
    Calls Try.prog 11 #[.agg #[.int .i64 d, .int .i64 p]] w fun e w' => e = .returned (.bool true) ∧ Below w.heap.size w w' := by
  have hu24 := Try.underlying24
  have hu51 := Try.underlying51
  have A1 := mk0 h1
  have A2 := mk0 h2
  have A3 := mk0 h3
  have A4 := mk0 h4
  have A5 := mk0 h5
  have A6 := mk0 h6
  have HM := mk0 hm
  have HB := mk0 (Below.refl w.heap.size w)
  have q1 : (r2 != r2) = false := bne_self_eq_false r2
  have q2 : (sm != sm) = false := bne_self_eq_false sm
  clear h1 h2 h3 h4 h5 h6 hm
  go_enter Try.func11, Try.ntmps11
  go_wp2_with (first
    | ((with_reducible refine gate_dst (N := 1) rfl ?_); refine box_event ?hg (N := 1) ?hd (cs := #[.int .i64 d, .int .i64 p]) (t := 51) ?hr ?_; (case hd => rfl); (case hg => rfl); (case hr => first | (go_simp; done) | (go_simp; rfl)); intro g1 hg w1 hbox hb; have BK1 := mk0 hbox; have KB1 := mk0 hbox; have n0_ := mk0 (below_step HB.out hb); clear HB; have HB := n0_; clear n0_; have hz0 : w1.cell? ⟨g1, 0, none⟩ = some (.int .i64 d) := (blk_cell BK1.out 0).trans rfl; have hz1 : w1.cell? ⟨g1, 1, none⟩ = some (.int .i64 p) := (blk_cell BK1.out 1).trans rfl; clear hb hbox hg)
    | ((with_reducible refine gCa (f := 43) (xs := #[.tmp 10]) rfl ?_); refine goesL_ (some 11) rfl rfl Try.func43 (by kernel_rfl) rfl #[.agg #[.int .i64 d, .int .i64 p]] rfl (by (try simp only [List.map_toArray, List.map_cons, List.map_nil]); first | done | rfl) ?_; (with_reducible refine (GGen.gen_Matrix.calls k d p r1 r2 _ A1.out).mono ?_); rintro e w2 ⟨va, rfl, hS, hb⟩; refine ⟨_, rfl, ?_⟩; obtain ⟨Aa, ca, rfl⟩ := Kd.S_slice hS; have SA := mk0 hS; have HD := mk0 hb; clear hS hz0 hz1; have n0_ := mk0 (blk_below BK1.out hb); clear BK1; have BK1 := n0_; clear n0_; clear hb)
    | ((with_reducible refine gate_dst (N := 3) rfl ?_); refine box_event ?hg (N := 3) ?hd (cs := #[.slice none 0 0]) (t := 24) ?hr ?_; (case hd => rfl); (case hg => rfl); (case hr => first | (go_simp; done) | (go_simp; rfl)); intro ga hg w3 hbox hb; have BKN := mk0 hbox; have ngag1 : ga ≠ g1 := (by rw [hg]; exact Nat.ne_of_gt (blk_lt BK1.out)); have ng1ga : g1 ≠ ga := fun e_ => ngag1 e_.symm; have GN := mk0 (Nat.le_trans (below_size HD.out) (Nat.le_of_eq hg.symm)); have n0_ := mk0 (below_step HD.out hb); have n1_ := mk0 (blk_below BK1.out hb); have n2_ := mk0 (Kd.S_mono (ok' := fun k => k < w3.heap.size) (Kd.S_bound (Kd.S_below SA.out hb)) (fun _ hk => hk.2.2.1)); clear HD BK1 SA; have HD := n0_; have BK1 := n1_; have SA := n2_; clear n0_ n1_ n2_; have hzn : w3.cell? ⟨ga, 0, none⟩ = some (.slice none 0 0) := (blk_cell BKN.out 0).trans rfl; have hfn := blk_frozen BKN.out 0; have hz0 : w3.cell? ⟨g1, 0, none⟩ = some (.int .i64 d) := (blk_cell BK1.out 0).trans rfl; have hz1 : w3.cell? ⟨g1, 1, none⟩ = some (.int .i64 p) := (blk_cell BK1.out 1).trans rfl; clear hb hbox hg)
    | ((with_reducible refine gCa (f := 44) rfl ?_); have BKA := mk0 (blk_set BKN.out 0 (.slice Aa r1.length ca)); have n0_ := mk0 (lT HD.out GN (j := 0) (v := (.slice Aa r1.length ca))); have n1_ := mk0 (blk_far BK1.out (p := ⟨ga, 0, none⟩) ng1ga (.slice Aa r1.length ca)); have n2_ := mk0 (Kd.S_mono (Kd.S_far (p := ⟨ga, 0, none⟩) (Kd.S_types SA.out BKN.out (by decide)) (fun _ hk => hk.2) (.slice Aa r1.length ca)) (fun _ h_ => h_.1)); clear HD BK1 SA; have HD := n0_; have BK1 := n1_; have SA := n2_; clear n0_ n1_ n2_; clear BKN hzn hfn hz0 hz1; have HSZ := mk0 ((World.size_setCell w3 ⟨ga, 0, none⟩ (.slice Aa r1.length ca)) : _); refine goesL_ (some 16) rfl rfl Try.func44 (by kernel_rfl) rfl #[.agg #[.int .i64 d, .int .i64 p]] rfl (by (try simp only [List.map_toArray, List.map_cons, List.map_nil]); first | done | rfl) ?_; (with_reducible refine (GRgen.ossuaryref1_Gen.calls k d p r1 r2 _ A2.out).mono ?_); rintro e w7 ⟨vb, rfl, hS, hb⟩; refine ⟨_, rfl, ?_⟩; obtain ⟨Ab, cb, rfl⟩ := Kd.S_slice hS; rw [HSZ.out] at hS; have SB := mk0 (Kd.S_mono (ok' := fun k => w3.heap.size ≤ k) (Kd.S_bound hS) (fun _ hk => hk.2.1)); clear hS; have n0_ := mk0 (below_step HD.out hb); have n1_ := mk0 (blk_below BK1.out hb); have n2_ := mk0 (blk_below BKA.out hb); have n3_ := mk0 (Kd.S_below SA.out hb); clear HD BK1 BKA SA; have HD := n0_; have BK1 := n1_; have BKA := n2_; have SA := n3_; clear n0_ n1_ n2_ n3_; have HGB := mk0 (Nat.le_trans (Nat.le_of_eq HSZ.out.symm) (below_size hb)); clear GN HSZ hb)
    | ((with_reducible refine gate_dst (N := 5) rfl ?_); refine box_event ?hg (N := 5) ?hd (cs := #[.slice none 0 0]) (t := 24) ?hr ?_; (case hd => rfl); (case hg => rfl); (case hr => first | (go_simp; done) | (go_simp; rfl)); intro gb hg w8 hbox hb; have BKN := mk0 hbox; have ngbg1 : gb ≠ g1 := (by rw [hg]; exact Nat.ne_of_gt (blk_lt BK1.out)); have ng1gb : g1 ≠ gb := fun e_ => ngbg1 e_.symm; have ngbga : gb ≠ ga := (by rw [hg]; exact Nat.ne_of_gt (blk_lt BKA.out)); have ngagb : ga ≠ gb := fun e_ => ngbga e_.symm; have HGB2 := mk0 (Nat.le_trans HGB.out (Nat.le_of_eq hg.symm)); have GN := mk0 (Nat.le_trans (below_size HD.out) (Nat.le_of_eq hg.symm)); have n0_ := mk0 (below_step HD.out hb); have n1_ := mk0 (blk_below BK1.out hb); have n2_ := mk0 (blk_below BKA.out hb); have n3_ := mk0 (Kd.S_below SA.out hb); have n4_ := mk0 (Kd.S_below SB.out hb); clear HD BK1 BKA SA SB; have HD := n0_; have BK1 := n1_; have BKA := n2_; have SA := n3_; have SB := n4_; clear n0_ n1_ n2_ n3_ n4_; have hzn : w8.cell? ⟨gb, 0, none⟩ = some (.slice none 0 0) := (blk_cell BKN.out 0).trans rfl; have hfn := blk_frozen BKN.out 0; have hz0 : w8.cell? ⟨g1, 0, none⟩ = some (.int .i64 d) := (blk_cell BK1.out 0).trans rfl; have hz1 : w8.cell? ⟨g1, 1, none⟩ = some (.int .i64 p) := (blk_cell BK1.out 1).trans rfl; have hza : w8.cell? ⟨ga, 0, none⟩ = some (.slice Aa r1.length ca) := (blk_cell BKA.out 0).trans rfl; clear HGB hb hbox hg))
  have BKB := mk0 (blk_set BKN.out 0 (.slice Ab r1.length cb))
  have n0_ := mk0 (lT HD.out GN (j := 0) (v := (.slice Ab r1.length cb)))
  have n1_ := mk0 (blk_far BK1.out (p := ⟨gb, 0, none⟩) ng1gb (.slice Ab r1.length cb))
  have n2_ := mk0 (blk_far BKA.out (p := ⟨gb, 0, none⟩) ngagb (.slice Ab r1.length cb))
  have n3_ := mk0 (Kd.S_mono (Kd.S_far (p := ⟨gb, 0, none⟩) (Kd.S_types SA.out BKN.out (by decide)) (fun _ hk => hk.2) (.slice Ab r1.length cb)) (fun _ h_ => h_.1))
  have n4_ := mk0 (Kd.S_mono (Kd.S_far (p := ⟨gb, 0, none⟩) (Kd.S_types SB.out BKN.out (by decide)) (fun _ hk => hk.2) (.slice Ab r1.length cb)) (fun _ h_ => h_.1))
  clear HD BK1 BKA SA SB
  have HD := n0_
  have BK1 := n1_
  have BKA := n2_
  have SA := n3_
  have SB := n4_
  clear n0_ n1_ n2_ n3_ n4_
  clear BKN GN hzn hfn hz0 hz1 hza
  generalize w8.setCell ⟨gb, 0, none⟩ (.slice Ab r1.length cb) = W at BKB HD BK1 BKA SA SB ⊢
  refine start_ (n := 17) (S := fun w' => w'.cell? ⟨g1, 0, none⟩ = some (.int .i64 d) ∧ w'.cell? ⟨g1, 1, none⟩ = some (.int .i64 p) ∧ w'.cell? ⟨ga, 0, none⟩ = some (.slice Aa r1.length ca) ∧ w'.cell? ⟨gb, 0, none⟩ = some (.slice Ab r1.length cb)) (ds := []) gens3_q0 (by kernel_rfl) rfl rfl ⟨(blk_cell BK1.out 0).trans rfl, (blk_cell BK1.out 1).trans rfl, (blk_cell BKA.out 0).trans rfl, (blk_cell BKB.out 0).trans rfl⟩ (fun hHeld => ?_); refine with_tabW gens3_tab gens3_bits (fun HT_ HW_ => ?_)
  replace HD := mk0 (lD HD.out)
  replace BK1 := mk0 (bD BK1.out)
  replace BKA := mk0 (bD BKA.out)
  replace BKB := mk0 (bD BKB.out)
  replace SA := mk0 (sD SA.out)
  replace SB := mk0 (sD SB.out)
  generalize W.drew = W2 at BKB HD BK1 BKA SA SB hHeld ⊢
  refine take_ (i := 0) (N := some 19) (v := ?_) (a' := ?_) gens3_q1 rfl rfl (take_ofW HT_.out HW_.out (by kernel_rfl)) (fun _ _ _ h => h) (Or.inl ⟨by rfl, ?_⟩) hHeld ?_ ?_
  rotate_left
  · rintro w' ⟨s0, s1, s2, s3⟩
    go_simp
    with_reducible rfl
  rotate_left
  · simp only [Act.put, List.setIfInBounds_toArray, List.set_cons_zero, List.set_cons_succ, i64_w]
    rfl
  refine take_ (i := 1) (N := some 20) (v := ?_) (a' := ?_) gens3_q2 rfl rfl (take_ofW HT_.out HW_.out (by kernel_rfl)) (fun _ _ _ h => h) (Or.inl ⟨by rfl, ?_⟩) hHeld ?_ ?_
  rotate_left
  · rintro w' ⟨s0, s1, s2, s3⟩
    go_simp
    with_reducible rfl
  rotate_left
  · simp only [Act.put, List.setIfInBounds_toArray, List.set_cons_zero, List.set_cons_succ, i64_w]
    rfl
  refine one_ (i := 2) (N := some 21) gens3_q3 rfl rfl (one_of HT_.out (by kernel_rfl)) (by decide) (fun K hK => ?_)
  refine goes_ Try.func34 (by kernel_rfl) rfl #[.agg #[.slice Aa r1.length ca], .agg #[.slice Ab r1.length cb]] (by rfl) rfl rfl (by (try simp only [List.map_toArray, List.map_cons, List.map_nil]); first | done | rfl) ?_
  with_reducible refine (GBase.ossuarylaw0_SameMatrix.calls k _ _ r1 _ _ r1 true _ (Kd.S_reads' SA.out).2.2 (Kd.S_reads' SA.out).2.1 (Kd.S_reads' SB.out).2.2 (Kd.S_reads' SB.out).2.1 A3.out).mono ?_
  rintro e w9 ⟨rfl, hb⟩
  refine ⟨_, rfl, ?_⟩
  replace HD := mk0 (below_step HD.out hb)
  replace BK1 := mk0 (blk_below BK1.out hb)
  replace BKA := mk0 (blk_below BKA.out hb)
  replace BKB := mk0 (blk_below BKB.out hb)
  replace SA := mk0 (Kd.S_below SA.out hb)
  replace SB := mk0 (Kd.S_below SB.out hb)
  clear hb hHeld
  refine hK.out _ _ ⟨(blk_cell BK1.out 0).trans rfl, (blk_cell BK1.out 1).trans rfl, (blk_cell BKA.out 0).trans rfl, (blk_cell BKB.out 0).trans rfl⟩ (fun hHeld => ?_)
  clear hK K
  refine norm_ (a' := ?_) ?_ ?_
  rotate_left
  · show Act.put _ (some 21) _ = _
    simp only [Act.put, List.setIfInBounds_toArray, List.set_cons_zero, List.set_cons_succ, i64_w]
    rfl
  refine pure_ (i := 3) (N := some 22) (v := ?_) (a' := ?_) gens3_q4 rfl rfl (any_of HT_.out (by kernel_rfl)) (fun _ _ _ h => h) (Or.inl ⟨by rfl, ?_⟩) ?_ ?_
  rotate_left
  · intro w'
    go_simp
    with_reducible rfl
  rotate_left
  · simp only [Act.put, List.setIfInBounds_toArray, List.set_cons_zero, List.set_cons_succ, i64_w]
    rfl
  refine pure_ (i := 4) (N := some 23) (v := ?_) (a' := ?_) gens3_q5 rfl rfl (any_of HT_.out (by kernel_rfl)) (fun _ _ _ h => h) (Or.inl ⟨by rfl, ?_⟩) ?_ ?_
  rotate_left
  · intro w'
    go_simp
    with_reducible rfl
  rotate_left
  · simp only [Act.put, List.setIfInBounds_toArray, List.set_cons_zero, List.set_cons_succ, i64_w]
    rfl
  refine pure_ (i := 5) (N := some 24) (v := ?_) (a' := ?_) gens3_q6 rfl rfl (any_of HT_.out (by kernel_rfl)) (fun _ _ _ h => h) (Or.inl ⟨by rfl, ?_⟩) ?_ ?_
  rotate_left
  · intro w'
    go_simp
    with_reducible rfl
  rotate_left
  · simp only [Act.put, List.setIfInBounds_toArray, List.set_cons_zero, List.set_cons_succ, i64_w]
    rfl
  refine pure_ (i := 7) (N := some 26) (v := ?_) (a' := ?_) gens3_q7 rfl rfl (any_of HT_.out (by kernel_rfl)) (fun _ _ _ h => h) (Or.inl ⟨by rfl, ?_⟩) ?_ ?_
  rotate_left
  · intro w'
    go_simp
    with_reducible rfl
  rotate_left
  · simp only [Act.put, List.setIfInBounds_toArray, List.set_cons_zero, List.set_cons_succ, i64_w]
    rfl
  refine one_ (i := 6) (N := some 25) gens3_q8 rfl rfl (one_of HT_.out (by kernel_rfl)) (by decide) (fun K hK => ?_)
  refine goes_ Try.func35 (by kernel_rfl) rfl #[.int .i64 r2] (by rfl) rfl rfl (by (try simp only [List.map_toArray, List.map_cons, List.map_nil]); first | done | rfl) ?_
  with_reducible refine (GBase.ossuarylaw0_Num.calls r2 r2 _ rfl).mono ?_
  rintro e w' ⟨rfl, ⟨nd, rfl⟩⟩
  refine ⟨_, rfl, ?_⟩
  replace HD := mk0 (lN HD.out nd)
  replace BK1 := mk0 (bN BK1.out nd)
  replace BKA := mk0 (bN BKA.out nd)
  replace BKB := mk0 (bN BKB.out nd)
  replace SA := mk0 (sN SA.out nd)
  replace SB := mk0 (sN SB.out nd)
  generalize w9.drewN nd = w10 at HD BK1 BKA BKB SA SB ⊢
  clear hHeld
  refine hK.out _ _ ⟨(blk_cell BK1.out 0).trans rfl, (blk_cell BK1.out 1).trans rfl, (blk_cell BKA.out 0).trans rfl, (blk_cell BKB.out 0).trans rfl⟩ (fun hHeld => ?_)
  clear hK K
  refine norm_ (a' := ?_) ?_ ?_
  rotate_left
  · show Act.put _ (some 25) _ = _
    simp only [Act.put, List.setIfInBounds_toArray, List.set_cons_zero, List.set_cons_succ, i64_w]
    rfl
  refine pure_ (i := 8) (N := some 27) (v := ?_) (a' := ?_) gens3_q9 rfl rfl (any_of HT_.out (by kernel_rfl)) (fun _ _ _ h => h) (Or.inl ⟨by rfl, ?_⟩) ?_ ?_
  rotate_left
  · intro w'
    go_simp
    with_reducible rfl
  rotate_left
  · simp only [Act.put, List.setIfInBounds_toArray, List.set_cons_zero, List.set_cons_succ, i64_w]
    rfl
  refine pure_ (i := 9) (N := some 28) (v := ?_) (a' := ?_) gens3_q10 rfl rfl (any_of HT_.out (by kernel_rfl)) (fun _ _ _ h => h) (Or.inl ⟨by rfl, ?_⟩) ?_ ?_
  rotate_left
  · intro w'
    go_simp
    with_reducible rfl
  rotate_left
  · simp only [Act.put, List.setIfInBounds_toArray, List.set_cons_zero, List.set_cons_succ, i64_w]
    rfl
  refine pure_ (i := 10) (N := some 29) (v := ?_) (a' := ?_) gens3_q11 rfl rfl (any_of HT_.out (by kernel_rfl)) (fun _ _ _ h => h) (Or.inl ⟨by rfl, ?_⟩) ?_ ?_
  rotate_left
  · intro w'
    go_simp
    with_reducible rfl
  rotate_left
  · simp only [Act.put, List.setIfInBounds_toArray, List.set_cons_zero, List.set_cons_succ, i64_w]
    rfl
  refine take_ (i := 11) (N := some 30) (v := ?_) (a' := ?_) gens3_q12 rfl rfl (take_ofW HT_.out HW_.out (by kernel_rfl)) (fun _ _ _ h => h) (Or.inl ⟨by rfl, ?_⟩) hHeld ?_ ?_
  rotate_left
  · rintro w' ⟨s0, s1, s2, s3⟩
    go_simp
    with_reducible rfl
  rotate_left
  · simp only [Act.put, List.setIfInBounds_toArray, List.set_cons_zero, List.set_cons_succ, i64_w]
    rfl
  refine take_ (i := 13) (N := some 32) (v := ?_) (a' := ?_) gens3_q13 rfl rfl (take_ofW HT_.out HW_.out (by kernel_rfl)) (fun _ _ _ h => h) (Or.inl ⟨by rfl, ?_⟩) hHeld ?_ ?_
  rotate_left
  · rintro w' ⟨s0, s1, s2, s3⟩
    go_simp
    with_reducible rfl
  rotate_left
  · simp only [Act.put, List.setIfInBounds_toArray, List.set_cons_zero, List.set_cons_succ, i64_w]
    rfl
  refine one_ (i := 12) (N := some 31) gens3_q14 rfl rfl (one_of HT_.out (by kernel_rfl)) (by decide) (fun K hK => ?_)
  refine goes_ Try.func45 (by kernel_rfl) rfl #[.agg #[.int .i64 d, .int .i64 p]] (by rfl) rfl rfl (by (try simp only [List.map_toArray, List.map_cons, List.map_nil]); first | done | rfl) ?_
  with_reducible refine (GGf.gen_May.calls d p sm _ A4.out).mono ?_
  rintro e w11 ⟨rfl, hb⟩
  refine ⟨_, rfl, ?_⟩
  replace HD := mk0 (below_step HD.out hb)
  replace BK1 := mk0 (blk_below BK1.out hb)
  replace BKA := mk0 (blk_below BKA.out hb)
  replace BKB := mk0 (blk_below BKB.out hb)
  replace SA := mk0 (Kd.S_below SA.out hb)
  replace SB := mk0 (Kd.S_below SB.out hb)
  clear hb hHeld
  refine hK.out _ _ ⟨(blk_cell BK1.out 0).trans rfl, (blk_cell BK1.out 1).trans rfl, (blk_cell BKA.out 0).trans rfl, (blk_cell BKB.out 0).trans rfl⟩ (fun hHeld => ?_)
  clear hK K
  refine norm_ (a' := ?_) ?_ ?_
  rotate_left
  · show Act.put _ (some 31) _ = _
    simp only [Act.put, List.setIfInBounds_toArray, List.set_cons_zero, List.set_cons_succ, i64_w]
    rfl
  refine one_ (i := 14) (N := some 33) gens3_q15 rfl rfl (one_of HT_.out (by kernel_rfl)) (by decide) (fun K hK => ?_)
  refine goes_ Try.func46 (by kernel_rfl) rfl #[.agg #[.int .i64 d, .int .i64 p]] (by rfl) rfl rfl (by (try simp only [List.map_toArray, List.map_cons, List.map_nil]); first | done | rfl) ?_
  with_reducible refine (GRef.ossuaryref1_ShapeMay.calls d p sm _ A6.out).mono ?_
  rintro e w12 ⟨rfl, hb⟩
  refine ⟨_, rfl, ?_⟩
  replace HD := mk0 (below_step HD.out hb)
  replace BK1 := mk0 (blk_below BK1.out hb)
  replace BKA := mk0 (blk_below BKA.out hb)
  replace BKB := mk0 (blk_below BKB.out hb)
  replace SA := mk0 (Kd.S_below SA.out hb)
  replace SB := mk0 (Kd.S_below SB.out hb)
  clear hb hHeld
  refine hK.out _ _ ⟨(blk_cell BK1.out 0).trans rfl, (blk_cell BK1.out 1).trans rfl, (blk_cell BKA.out 0).trans rfl, (blk_cell BKB.out 0).trans rfl⟩ (fun hHeld => ?_)
  clear hK K
  refine norm_ (a' := ?_) ?_ ?_
  rotate_left
  · show Act.put _ (some 33) _ = _
    simp only [Act.put, List.setIfInBounds_toArray, List.set_cons_zero, List.set_cons_succ, i64_w]
    rfl
  refine pure_ (i := 15) (N := some 34) (v := ?_) (a' := ?_) gens3_q16 rfl rfl (any_of HT_.out (by kernel_rfl)) (fun _ _ _ h => h) (Or.inl ⟨by rfl, ?_⟩) ?_ ?_
  rotate_left
  · intro w'
    go_simp
    with_reducible rfl
  rotate_left
  · simp only [Act.put, List.setIfInBounds_toArray, List.set_cons_zero, List.set_cons_succ, i64_w]
    rfl
  refine pure_ (i := 16) (N := some 35) (v := ?_) (a' := ?_) gens3_q17 rfl rfl (any_of HT_.out (by kernel_rfl)) (fun _ _ _ h => h) (Or.inl ⟨by rfl, ?_⟩) ?_ ?_
  rotate_left
  · intro w'
    go_simp
    with_reducible rfl
  rotate_left
  · simp only [Act.put, List.setIfInBounds_toArray, List.set_cons_zero, List.set_cons_succ, i64_w]
    rfl
  refine done_ (done_of HT_.out (by kernel_rfl)) ?_
  clear HT_ HW_
  have hz0 : w12.cell? ⟨g1, 0, none⟩ = some (.int .i64 d) := (blk_cell BK1.out 0).trans rfl
  have hz1 : w12.cell? ⟨g1, 1, none⟩ = some (.int .i64 p) := (blk_cell BK1.out 1).trans rfl
  have hza : w12.cell? ⟨ga, 0, none⟩ = some (.slice Aa r1.length ca) := (blk_cell BKA.out 0).trans rfl
  clear hHeld
  go_wp2_with (first
    | ((with_reducible refine gCa (f := 38) rfl ?_); refine goesL_ (some 37) rfl rfl Try.func38 (by kernel_rfl) rfl #[.agg #[.slice Aa r1.length ca]] rfl (by (try simp only [List.map_toArray, List.map_cons, List.map_nil]); first | done | rfl) ?_; (with_reducible refine (spoilS2 _ _ HM.out SA.out (Nat.le_refl _) HD.out).mono ?_); rintro e w13 ⟨rfl, hb, hkp⟩; refine ⟨_, rfl, ?_⟩; have n0_ := mk0 (Kd.S_kept SB.out hkp (fun _ h1_ h2_ => Nat.lt_irrefl _ (Nat.lt_of_lt_of_le h2_ h1_))); have n1_ := mk0 (blk_kept BKB.out hkp (fun h2_ => Nat.lt_irrefl _ (Nat.lt_of_lt_of_le h2_ HGB2.out))); have n2_ := mk0 (blk_below KB1.out hb); have n3_ := mk0 (below_step HB.out hb); clear SA SB BKA BKB BK1 HD HB KB1 hza hz0 hz1; have SB := n0_; have BKB := n1_; have BK1 := n2_; have HB := n3_; clear n0_ n1_ n2_ n3_ hkp hb; have hz0 : w13.cell? ⟨g1, 0, none⟩ = some (.int .i64 d) := (blk_cell BK1.out 0).trans rfl; have hz1 : w13.cell? ⟨g1, 1, none⟩ = some (.int .i64 p) := (blk_cell BK1.out 1).trans rfl; (try clear n_))
    | ((with_reducible refine gCa (f := 43) (xs := #[.tmp 39]) rfl ?_); refine goesL_ (some 40) rfl rfl Try.func43 (by kernel_rfl) rfl #[.agg #[.int .i64 d, .int .i64 p]] rfl (by (try simp only [List.map_toArray, List.map_cons, List.map_nil]); first | done | rfl) ?_; (with_reducible refine (GGen.gen_Matrix.calls k d p r1 r2 _ A1.out).mono ?_); rintro e w14 ⟨vc, rfl, hS, hb⟩; refine ⟨_, rfl, ?_⟩; obtain ⟨Ac, cc, rfl⟩ := Kd.S_slice hS; have SC := mk0 hS; clear hS hz0 hz1 BK1; have n0_ := mk0 (below_step HB.out hb); have n1_ := mk0 (blk_below BKB.out hb); have n2_ := mk0 (Kd.S_below SB.out hb); clear HB BKB SB; have HB := n0_; have BKB := n1_; have SB := n2_; clear n0_ n1_ n2_; clear hb)
    | ((with_reducible refine gate_dst (N := 7) rfl ?_); refine box_event ?hg (N := 7) ?hd (cs := #[.slice none 0 0]) (t := 24) ?hr ?_; (case hd => rfl); (case hg => rfl); (case hr => first | (go_simp; done) | (go_simp; rfl)); intro gc hg w15 hbox hb; have BKN := mk0 hbox; have ngcgb : gc ≠ gb := (by rw [hg]; exact Nat.ne_of_gt (blk_lt BKB.out)); have ngbgc : gb ≠ gc := fun e_ => ngcgb e_.symm; have GN := mk0 (Nat.le_trans (below_size HB.out) (Nat.le_of_eq hg.symm)); have n0_ := mk0 (below_step HB.out hb); have n1_ := mk0 (blk_below BKB.out hb); have n2_ := mk0 (Kd.S_below SB.out hb); have n3_ := mk0 (Kd.S_below SC.out hb); clear HB BKB SB SC; have HB := n0_; have BKB := n1_; have SB := n2_; have SC := n3_; clear n0_ n1_ n2_ n3_; have hzn : w15.cell? ⟨gc, 0, none⟩ = some (.slice none 0 0) := (blk_cell BKN.out 0).trans rfl; have hfn := blk_frozen BKN.out 0; have hzb : w15.cell? ⟨gb, 0, none⟩ = some (.slice Ab r1.length cb) := (blk_cell BKB.out 0).trans rfl; clear hb hbox hg)
    | ((with_reducible refine gCa (f := 34) (xs := #[.tmp 43, .tmp 44]) rfl ?_); have n0_ := mk0 (lT HB.out GN (j := 0) (v := (.slice Ac r1.length cc))); have n1_ := mk0 (Kd.S_mono (Kd.S_far (p := ⟨gc, 0, none⟩) (Kd.S_types SB.out BKN.out (by decide)) (fun _ hk => hk.2) (.slice Ac r1.length cc)) (fun _ h_ => h_.1)); have n2_ := mk0 (Kd.S_mono (Kd.S_far (p := ⟨gc, 0, none⟩) (Kd.S_types SC.out BKN.out (by decide)) (fun _ hk => hk.2) (.slice Ac r1.length cc)) (fun _ h_ => h_.1)); clear HB SB SC; have HB := n0_; have SB := n1_; have SC := n2_; clear n0_ n1_ n2_; clear BKN hzn hfn hzb BKB; refine goesL_ (some 45) rfl rfl Try.func34 (by kernel_rfl) rfl #[.agg #[.slice Ac r1.length cc], .agg #[.slice Ab r1.length cb]] rfl (by (try simp only [List.map_toArray, List.map_cons, List.map_nil]); first | done | rfl) ?_; (with_reducible refine (GBase.ossuarylaw0_SameMatrix.calls k _ _ r1 _ _ r1 true _ ?s1 ?s2 ?s3 ?s4 A3.out).mono ?_); (case s1 => exact (Kd.S_reads' SC.out).2.2); (case s2 => exact (Kd.S_reads' SC.out).2.1); (case s3 => exact (Kd.S_reads' SB.out).2.2); (case s4 => exact (Kd.S_reads' SB.out).2.1); rintro e w16 ⟨rfl, hb⟩; refine ⟨_, rfl, ?_⟩; have n0_ := mk0 (below_step HB.out hb); clear HB SB SC; have HB := n0_; clear n0_ hb)
    | (go_at_call 47; (with_reducible refine (GAwg.ossuarylaw5_awake.calls k true _ A5.out).mono ?_); rintro e w17 ⟨rfl, hb⟩; have n0_ := mk0 (below_step HB.out hb); clear HB; have HB := n0_; clear n0_ hb))
  go_ret
  exact ⟨rfl, HB.out⟩
end Go.Proofs.Ytaahnicjjpddjaa.Pr
