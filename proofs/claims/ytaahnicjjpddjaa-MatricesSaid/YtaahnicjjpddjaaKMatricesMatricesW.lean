/- Matrices, rows, numbers of any kind: the call's walk, by hand. -/
import Derived.Test.YtaahnicjjpddjaaKMatricesGAwm1
import Derived.Test.YtaahnicjjpddjaaKMatricesMulF
import Derived.Test.YtaahnicjjpddjaaKMatricesMany3
import Derived.Test.YtaahnicjjpddjaaKMatricesSpoilN
import Derived.Test.YtaahnicjjpddjaaKMatricesGRef6
import Derived.Test.YtaahnicjjpddjaaKMatricesGRef4
namespace Go.Proofs.Ytaahnicjjpddjaa.MatR
open Go.RowKit Go.Proofs.YtaahnicjjpddjaaW.PrintWords Go.Proofs.YtaahnicjjpddjaaW.PrintLast Go.Proofs.YtaahnicjjpddjaaW.PrintMore Go.Proofs.Ytaahnicjjpddjaa.Fn Go.Proofs.Ytaahnicjjpddjaa.Fld Go.Proofs.Ytaahnicjjpddjaa.MadeW Go.Proofs.Ytaahnicjjpddjaa
set_option linter.unusedVariables false
set_option linter.unusedSimpArgs false
def matr8_T : Bool × List (List Nat × List Nat) := (true, [([], []), ([], []), ([0, 1], [0, 1]), ([2], [2]), ([3, 2], [3]), ([4], [4]), ([5, 4, 4], [4, 5]), ([4], [4]), ([6, 7, 4], [4, 6, 7]), ([4, 8], [4, 8]), ([9, 6], [9]), ([10], [10]), ([10], [10]), ([11, 12, 10, 10], [10, 11, 12]), ([13, 10], [10, 13]), ([10, 14], [10, 14]), ([15, 13], [15]), ([16], [16]), ([17, 16, 16], [16, 17]), ([16], [16]), ([18, 19, 16], [16, 18, 19]), ([16, 20], [16, 20]), ([21, 18], [21]), ([22], [22]), ([22], [22]), ([23, 24, 22, 22], [22, 23, 24]), ([25, 22], [22, 25]), ([22, 26], [22, 26]), ([27, 25], [27]), ([28], [28]), ([29, 28, 28], [28, 29]), ([28], [28]), ([30, 31, 28], [28, 30, 31]), ([28, 32], [28, 32]), ([33, 30], [33]), ([34], [34]), ([35, 34, 34], [34, 35]), ([34], [34]), ([37, 36, 34], [34, 37]), ([36, 38, 34], [34, 36, 38]), ([34, 39], [34, 39])])
def matr8_B : List Nat := [0, 0, 3, 7, 15, 31, 63, 31, 255, 511, 1023, 2047, 2047, 8191, 16383, 32767, 65535, 131071, 262143, 131071, 1048575, 2097151, 4194303, 8388607, 8388607, 33554431, 67108863, 134217727, 268435455, 536870911, 1073741823, 536870911, 4294967295, 8589934591, 17179869183, 34359738367, 68719476735, 34359738367, 274877906943, 549755813887, 1099511627775]
theorem matr8_tab : rtab .any (opsOf Try.f3 8) = matr8_T := by kernel_rfl
theorem matr8_bits : waitsOk matr8_T.2 matr8_B = true := by kernel_rfl
abbrev matr8_q0 : Array Bool := (bz 41 0)
abbrev matr8_q1 : Array Bool := (bz 41 1)
abbrev matr8_q2 : Array Bool := (bz 41 3)
abbrev matr8_q3 : Array Bool := (bz 41 7)
abbrev matr8_q4 : Array Bool := (bz 41 15)
abbrev matr8_q5 : Array Bool := (bz 41 31)
abbrev matr8_q6 : Array Bool := (bz 41 63)
abbrev matr8_q7 : Array Bool := (bz 41 191)
abbrev matr8_q8 : Array Bool := (bz 41 255)
abbrev matr8_q9 : Array Bool := (bz 41 511)
abbrev matr8_q10 : Array Bool := (bz 41 1023)
abbrev matr8_q11 : Array Bool := (bz 41 2047)
abbrev matr8_q12 : Array Bool := (bz 41 4095)
abbrev matr8_q13 : Array Bool := (bz 41 8191)
abbrev matr8_q14 : Array Bool := (bz 41 16383)
abbrev matr8_q15 : Array Bool := (bz 41 32767)
abbrev matr8_q16 : Array Bool := (bz 41 65535)
abbrev matr8_q17 : Array Bool := (bz 41 131071)
abbrev matr8_q18 : Array Bool := (bz 41 262143)
abbrev matr8_q19 : Array Bool := (bz 41 786431)
abbrev matr8_q20 : Array Bool := (bz 41 1048575)
abbrev matr8_q21 : Array Bool := (bz 41 2097151)
abbrev matr8_q22 : Array Bool := (bz 41 4194303)
abbrev matr8_q23 : Array Bool := (bz 41 8388607)
abbrev matr8_q24 : Array Bool := (bz 41 16777215)
abbrev matr8_q25 : Array Bool := (bz 41 33554431)
abbrev matr8_q26 : Array Bool := (bz 41 67108863)
abbrev matr8_q27 : Array Bool := (bz 41 134217727)
abbrev matr8_q28 : Array Bool := (bz 41 268435455)
abbrev matr8_q29 : Array Bool := (bz 41 536870911)
abbrev matr8_q30 : Array Bool := (bz 41 1073741823)
abbrev matr8_q31 : Array Bool := (bz 41 3221225471)
abbrev matr8_q32 : Array Bool := (bz 41 4294967295)
abbrev matr8_q33 : Array Bool := (bz 41 8589934591)
abbrev matr8_q34 : Array Bool := (bz 41 17179869183)
abbrev matr8_q35 : Array Bool := (bz 41 34359738367)
abbrev matr8_q36 : Array Bool := (bz 41 68719476735)
abbrev matr8_q37 : Array Bool := (bz 41 206158430207)
abbrev matr8_q38 : Array Bool := (bz 41 274877906943)
abbrev matr8_q39 : Array Bool := (bz 41 549755813887)
abbrev matr8_q40 : Array Bool := (bz 41 1099511627775)
abbrev matr8_q41 : Array Bool := (bz 41 2199023255551)
def N24 (w w' : World) : Prop := ∀ (k : Nat) (cs : Array Value) (t : TypeId), t ≠ 24 → w.heap[k]? = some (.cells cs t (0, 0)) → w'.heap[k]? = some (.cells cs t (0, 0))
def Rob (w : World) (X : Option Addr) (l : List (List Int)) : Prop := ∀ w', N24 w w' → Kd.C (Kd.slice 3 (Kd.int .i64)) w' X l.length l
theorem n24_below {w w' : World} (h : Below w.heap.size w w') : N24 w w' := fun k cs t _ hk => blk_below hk h
theorem n24_put {w : World} {g j : Nat} {cs : Array Value} (h : w.heap[g]? = some (.cells cs 24 (0, 0))) (v : Value) : N24 w (w.setCell ⟨g, j, none⟩ v) := fun k cs' t ht hk => blk_far hk (fun e => by
  have e : k = g := e
  subst e
  rw [h] at hk
  injection hk with e1
  injection e1 with e2 e3
  exact ht e3.symm) v
theorem Rob.step {w w1 : World} {X : Option Addr} {l : List (List Int)} (h : Rob w X l) (hk : N24 w w1) : Rob w1 X l := fun w' h' => h w' (fun k cs t ht hc => h' k cs t ht (hk k cs t ht hc))
theorem rob_of {w : World} {base : Nat} {ok : Nat → Prop} {X : Option Addr} {n c : Nat} {l : List (List Int)} (h : Kd.S (Kd.slice 3 (Kd.int .i64)) 25 w base ok (.slice X n c) l) : Rob w X l := fun w' hk =>
  (Kd.S_reads' (Kd.S_step (Kd.S_bound h) (fun k hok _ => by
    obtain ⟨_, _, _, q, hq, cells, hc⟩ := hok
    rw [hc]
    exact hk k cells q ((by decide : ∀ q, q ∈ 25 :: (Kd.slice 3 (Kd.int .i64)).E → q ≠ 24) q hq) hc))).2.2
theorem says_of {sp : Array (Many3.Sp 24)} {val : Nat → Value} {j : Nat} {s : Many3.Sp 24} {w : World} (hs : sp[j]? = some s) (h : s.p (s.ds.map val) (val j) w) : Many3.Says sp val j w := fun s' hs' => by
  rw [hs] at hs'
  cases hs'
  exact h
def spCopy (d : Nat) (l : List (List Int)) : Many3.Sp 24 := ⟨[d], fun _ v w => ∃ X c, v = .agg #[.slice X l.length c] ∧ l.length ≤ c ∧ Rob w X l, fun _ _ _ _ hb h => by
  obtain ⟨X, c, h1, h2, h3⟩ := h
  exact ⟨X, c, h1, h2, h3.step (n24_below hb)⟩⟩
def spBox (Z : Nat) : Many3.Sp 24 := ⟨[], fun _ v w => ∃ g cs, v = .pointer (some ⟨g, 0, none⟩) ∧ Z ≤ g ∧ cs.size = 1 ∧ w.heap[g]? = some (.cells cs 24 (0, 0)), fun _ _ _ _ hb h => by
  obtain ⟨g, cs, h1, h2, h3, h4⟩ := h
  exact ⟨g, cs, h1, h2, h3, blk_below h4 hb⟩⟩
def spPut (p c : Nat) (n : Nat) : Many3.Sp 24 := ⟨[p, c], fun vs _ w => ∃ g X d, vs.getD 0 undef = .pointer (some ⟨g, 0, none⟩) ∧ vs.getD 1 undef = .agg #[.slice X n d] ∧ w.heap[g]? = some (.cells #[.slice X n d] 24 (0, 0)), fun _ _ _ _ hb h => by
  obtain ⟨g, X, d, h1, h2, h3⟩ := h
  exact ⟨g, X, d, h1, h2, blk_below h3 hb⟩⟩
def matr_sp (A B : Option Addr) (ca cb : Nat) (la lb : List (List Int)) (Z : Nat) : Array (Many3.Sp 24) := #[Many3.Sp.eq [] (fun _ => .agg #[.slice A la.length ca]), spCopy 0 la, Many3.Sp.eq [] (fun _ => .agg #[.slice B lb.length cb]), spCopy 2 lb, spBox Z, spBox Z, spPut 4 1 la.length, spPut 5 3 lb.length]
def matr_D : Array (List Nat) := #[[], [0], [], [2], [], [], [4, 1], [5, 3]]
def matr_L : List (Option Tmp) := [some 23, some 24, some 25, some 26, some 9, some 10, none, none]
theorem box_ne {w : World} {v : Value} {Z : Nat} (h : ∃ g cs, v = .pointer (some ⟨g, 0, none⟩) ∧ Z ≤ g ∧ cs.size = 1 ∧ w.heap[g]? = some (.cells cs 24 (0, 0))) : v ≠ .pointer (some ⟨w.heap.size, 0, none⟩) := by
  obtain ⟨g, cs, rfl, _, _, hk⟩ := h
  intro e
  injection e with e1
  injection e1 with e2
  injection e2 with e3
  have := blk_lt hk
  omega
set_option maxHeartbeats 8000000 in
set_option maxRecDepth 100000 in
theorem walk (kf : Nat) (A B R : Option Addr) (ca cb cr : Nat) (la lb : List (List Int)) (rows : List Int) (kk : Int) (p r t : List (List Int)) (e1 e2 e3 : Int) (m : Bool) (w : World)
    (hA : Kd.C (Kd.slice 3 (Kd.int .i64)) w A la.length la) (hca : la.length ≤ ca) (hB : Kd.C (Kd.slice 3 (Kd.int .i64)) w B lb.length lb) (hcb : lb.length ≤ cb) (hR : Kd.C (Kd.int .i64) w R rows.length rows) (hcr : rows.length ≤ cr)
    (x1 : GRef.ossuarylaw0_CopyMatrix.f kf la = some la) (x2 : GRef.ossuarylaw0_CopyMatrix.f kf lb = some lb) (x3 : GMulF.matrix_Mul.f kf la lb = some (p, e1)) (x4 : GRef.ossuaryref1_MulMatrix.f kf la lb = some (p, e1)) (x5 : GBase.matrix_Pick.f kf la rows = some (r, e2)) (x6 : GRef.ossuaryref1_Pick.f kf la rows = some (r, e2)) (x7 : GBase.matrix_Identity.f kf kk = some (t, e3)) (x8 : GRef.ossuaryref1_Identity.f kf kk = some (t, e3)) (x9 : GBase.matrix_May.f kf la = some m) (x10 : GRef.ossuaryref1_MatrixMay.f kf la = some m)
    (s1 : GBase.ossuarylaw0_SameMatrix.f kf p p = some true) (s2 : GBase.ossuarylaw0_SameMatrix.f kf r r = some true) (s3 : GBase.ossuarylaw0_SameMatrix.f kf t t = some true) (s4 : GBase.ossuarylaw0_SameMatrix.f kf la la = some true) (s5 : GBase.ossuarylaw0_SameMatrix.f kf lb lb = some true) (h5 : GAwm.ossuarylaw3_awake.f kf = some true) (hp : Pr.Mtx p) (hr : Pr.Mtx r) :
    Calls Try.prog 3 #[.agg #[.slice A la.length ca], .agg #[.slice B lb.length cb], .slice R rows.length cr, .int .i64 kk] w fun e w' => e = .returned (.bool true) ∧ Below w.heap.size w w' := by
  have hu24 := Try.underlying24
  have X1 := mk0 x1
  have X2 := mk0 x2
  have X3 := mk0 x3
  have X4 := mk0 x4
  have X5 := mk0 x5
  have X6 := mk0 x6
  have X7 := mk0 x7
  have X8 := mk0 x8
  have X9 := mk0 x9
  have X10 := mk0 x10
  have Y1 := mk0 s1
  have Y2 := mk0 s2
  have Y3 := mk0 s3
  have Y4 := mk0 s4
  have Y5 := mk0 s5
  have A5 := mk0 h5
  have HA := mk0 hA
  have HBm := mk0 hB
  have HRr := mk0 hR
  have MP := mk0 hp
  have MR := mk0 hr
  have HB := mk0 (Below.refl w.heap.size w)
  clear x1 x2 x3 x4 x5 x6 x7 x8 x9 x10 s1 s2 s3 s4 s5 h5 hA hB hR hp hr
  go_enter Try.func3, Try.ntmps3
  go_wp2_with (first
    | ((with_reducible refine gate_dst (N := 4) rfl ?_); refine box_event uT (N := 4) uT (cs := #[.slice A la.length ca]) (t := 24) uK ?_; intro g4 hg w1 hbox hb; have BK4 := mk0 hbox; have n0_ := mk0 (below_step HB.out hb); clear HB; have HB := n0_; clear n0_ hbox hg hb)
    | ((with_reducible refine gate_dst (N := 5) rfl ?_); refine box_event uT (N := 5) uT (cs := #[.slice B lb.length cb]) (t := 24) uK ?_; intro g5 hg W0 hbox hb; have Z5 := mk0 hbox; have Z4 := mk0 (blk_below BK4.out hb); have n0_ := mk0 (below_step HB.out hb); clear HB; have HB := n0_; clear n0_ hbox hg hb BK4))
  have HA0 := mk0 (Kd.C_below HA.out HB.out)
  have HB0 := mk0 (Kd.C_below HBm.out HB.out)
  refine Many3.many_ (matr_sp A B ca cb la lb W0.drew.heap.size) [4, 5] matr_D matr_L 8 ?tm uP rfl rfl uP uP ?hf ?hstep ?hend
  case hf => intro val; simp only [matr_L, Many3.fillL, List.setIfInBounds_toArray, List.set_cons_zero, List.set_cons_succ, Nat.reduceAdd]; rfl
  case hstep =>
    refine Many3.all_succ ?_ ?s7
    refine Many3.all_succ ?_ ?s6
    refine Many3.all_succ ?_ ?s5
    refine Many3.all_succ ?_ ?s4
    refine Many3.all_succ ?_ ?s3
    refine Many3.all_succ ?_ ?s2
    refine Many3.all_succ ?_ ?s1
    refine Many3.all_succ ?_ ?s0
    exact Many3.all_zero
    case s0 =>
      refine Many3.stepAt_of rfl rfl rfl rfl (fun val w' lst hB hnl hD hcl hS hne => ?_)
      have hx_ : w'.cell? ⟨g4, 0, none⟩ = some (.slice A la.length ca) := blk_cell (blk_below Z4.out (Many3.undrew hB)) 0
      refine Many3.does_value (v := ?_) (w1 := ?_) ?_ ?_
      rotate_left 2
      · go_simp
        first | (with_reducible rfl) | (constructor; (· rfl); (· rfl)) | rfl
      exact ⟨⟨Below.refl _ _, Many3.keep_all (Below.refl _ _) hS⟩, (fun h => absurd h uQ), rfl⟩
    case s1 =>
      refine Many3.stepAt_of rfl rfl rfl rfl (fun val w' lst hB hnl hD hcl hS hne => ?_)
      have hB' := Many3.undrew hB
      refine Many3.does_go (fn := Try.f27) uP rfl uP #[.agg #[.slice A la.length ca]] rfl ?_ ?_
      · have q_ : val 0 = .agg #[.slice A la.length ca] := hS 0 (hD 0 uQ) _ rfl
        simp only [List.map_toArray, List.map_cons, List.map_nil, Act.eval]
        go_simp
      refine (GRef.ossuarylaw0_CopyMatrix.calls kf A ca la la w' (Kd.C_below HA0.out hB') hca X1.out).mono ?_
      rintro e w'' ⟨v0, rfl, ho, hb⟩
      obtain ⟨X, c, rfl⟩ := Kd.S_slice ho
      exact ⟨_, rfl, ⟨hb.mono hB.size, Many3.keep_all hb hS⟩, (fun h => absurd h uQ), X, c, rfl, (Kd.S_reads' ho).2.1, rob_of ho⟩
    case s2 =>
      refine Many3.stepAt_of rfl rfl rfl rfl (fun val w' lst hB hnl hD hcl hS hne => ?_)
      have hx_ : w'.cell? ⟨g5, 0, none⟩ = some (.slice B lb.length cb) := blk_cell (blk_below Z5.out (Many3.undrew hB)) 0
      refine Many3.does_value (v := ?_) (w1 := ?_) ?_ ?_
      rotate_left 2
      · go_simp
        first | (with_reducible rfl) | (constructor; (· rfl); (· rfl)) | rfl
      exact ⟨⟨Below.refl _ _, Many3.keep_all (Below.refl _ _) hS⟩, (fun h => absurd h uQ), rfl⟩
    case s3 =>
      refine Many3.stepAt_of rfl rfl rfl rfl (fun val w' lst hB hnl hD hcl hS hne => ?_)
      have hB' := Many3.undrew hB
      refine Many3.does_go (fn := Try.f27) uP rfl uP #[.agg #[.slice B lb.length cb]] rfl ?_ ?_
      · have q_ : val 2 = .agg #[.slice B lb.length cb] := hS 2 (hD 2 uQ) _ rfl
        simp only [List.map_toArray, List.map_cons, List.map_nil, Act.eval]
        go_simp
      refine (GRef.ossuarylaw0_CopyMatrix.calls kf B cb lb lb w' (Kd.C_below HB0.out hB') hcb X2.out).mono ?_
      rintro e w'' ⟨v0, rfl, ho, hb⟩
      obtain ⟨X, c, rfl⟩ := Kd.S_slice ho
      exact ⟨_, rfl, ⟨hb.mono hB.size, Many3.keep_all hb hS⟩, (fun h => absurd h uQ), X, c, rfl, (Kd.S_reads' ho).2.1, rob_of ho⟩
    case s4 =>
      refine Many3.stepAt_of rfl rfl rfl rfl (fun val w' lst hB hnl hD hcl hS hne => ?_)
      refine Many3.does_value (v := ?_) (w1 := ?_) ?_ ?_
      rotate_left 2
      · go_simp
        first | (with_reducible rfl) | (constructor; (· rfl); (· rfl)) | rfl
      refine ⟨⟨(lA (Below.refl _ w') _).mono hB.size, Many3.keep_all (lA (Below.refl _ _) _) hS⟩, fun _ b hb hl => ?_, _, _, rfl, hB.size, rfl, blk_new _ _⟩
      rcases List.mem_cons.1 hb with rfl | hb
      · exact absurd hl hnl
      · obtain rfl := List.mem_singleton.1 hb
        exact box_ne (hS 5 hl _ rfl)
    case s5 =>
      refine Many3.stepAt_of rfl rfl rfl rfl (fun val w' lst hB hnl hD hcl hS hne => ?_)
      refine Many3.does_value (v := ?_) (w1 := ?_) ?_ ?_
      rotate_left 2
      · go_simp
        first | (with_reducible rfl) | (constructor; (· rfl); (· rfl)) | rfl
      refine ⟨⟨(lA (Below.refl _ w') _).mono hB.size, Many3.keep_all (lA (Below.refl _ _) _) hS⟩, fun _ b hb hl => ?_, _, _, rfl, hB.size, rfl, blk_new _ _⟩
      rcases List.mem_cons.1 hb with rfl | hb
      · exact box_ne (hS 4 hl _ rfl)
      · obtain rfl := List.mem_singleton.1 hb
        exact absurd hl hnl
    case s6 =>
      refine Many3.stepAt_of rfl rfl rfl rfl (fun val w' lst hB hnl hD hcl hS hne => ?_)
      obtain ⟨X, c, q1, hlc_, hrob_⟩ := hS 1 (hD 1 uQ) _ rfl
      obtain ⟨g_, cs_, q4, hz_, hs_, hk_⟩ := hS 4 (hD 4 uQ) _ rfl
      obtain ⟨x_, rfl⟩ := Many3.one_cell hs_
      have hx_ : w'.cell? ⟨g_, 0, none⟩ = some x_ := blk_cell hk_ 0
      have hf_ := blk_frozen hk_ 0
      refine Many3.does_skip (w1 := w'.setCell ⟨g_, 0, none⟩ (.slice X la.length c)) ?_ rfl ?_
      · go_simp
        try rfl
      refine ⟨⟨Below.setCell (p := ⟨g_, 0, none⟩) (Below.refl _ _) hz_ _, fun j hl => ?_⟩, (fun h => absurd h uQ), g_, X, c, q4, q1, blk_put hk_ 0 _ rfl⟩
      have hj : j < 8 := (hcl j hl).1
      obtain rfl | rfl | rfl | rfl | rfl | rfl | rfl | rfl : j = 0 ∨ j = 1 ∨ j = 2 ∨ j = 3 ∨ j = 4 ∨ j = 5 ∨ j = 6 ∨ j = 7 := by omega
      · exact says_of rfl (hS 0 hl _ rfl)
      · exact (by obtain ⟨X_, c_, h1_, h2_, h3_⟩ := hS 1 hl _ rfl; exact says_of rfl ⟨X_, c_, h1_, h2_, h3_.step (n24_put hk_ _)⟩)
      · exact says_of rfl (hS 2 hl _ rfl)
      · exact (by obtain ⟨X_, c_, h1_, h2_, h3_⟩ := hS 3 hl _ rfl; exact says_of rfl ⟨X_, c_, h1_, h2_, h3_.step (n24_put hk_ _)⟩)
      · exact says_of rfl ⟨g_, #[.slice X la.length c], q4, hz_, rfl, blk_put hk_ 0 _ rfl⟩
      · exact (by obtain ⟨g2, cs2, h1_, h2_, h3_, h4_⟩ := hS 5 hl _ rfl; exact says_of rfl ⟨g2, cs2, h1_, h2_, h3_, blk_far h4_ (fun e => hne 5 uQ 4 uQ uQ hl (hD 4 uQ) (by rw [h1_, q4]; exact congrArg (fun g => Value.pointer (some ⟨g, 0, none⟩)) e)) _⟩)
      · exact absurd hl hnl
      · exact (by obtain ⟨g2, X2, c2, h1_, h2_, h3_⟩ := hS 7 hl _ rfl; exact says_of rfl ⟨g2, X2, c2, h1_, h2_, blk_far h3_ (fun e => hne 5 uQ 4 uQ uQ ((hcl 7 hl).2 5 uQ) (hD 4 uQ) (by rw [show val 5 = _ from h1_, q4]; exact congrArg (fun g => Value.pointer (some ⟨g, 0, none⟩)) e)) _⟩)
    case s7 =>
      refine Many3.stepAt_of rfl rfl rfl rfl (fun val w' lst hB hnl hD hcl hS hne => ?_)
      obtain ⟨X, c, q1, hlc_, hrob_⟩ := hS 3 (hD 3 uQ) _ rfl
      obtain ⟨g_, cs_, q4, hz_, hs_, hk_⟩ := hS 5 (hD 5 uQ) _ rfl
      obtain ⟨x_, rfl⟩ := Many3.one_cell hs_
      have hx_ : w'.cell? ⟨g_, 0, none⟩ = some x_ := blk_cell hk_ 0
      have hf_ := blk_frozen hk_ 0
      refine Many3.does_skip (w1 := w'.setCell ⟨g_, 0, none⟩ (.slice X lb.length c)) ?_ rfl ?_
      · go_simp
        try rfl
      refine ⟨⟨Below.setCell (p := ⟨g_, 0, none⟩) (Below.refl _ _) hz_ _, fun j hl => ?_⟩, (fun h => absurd h uQ), g_, X, c, q4, q1, blk_put hk_ 0 _ rfl⟩
      have hj : j < 8 := (hcl j hl).1
      obtain rfl | rfl | rfl | rfl | rfl | rfl | rfl | rfl : j = 0 ∨ j = 1 ∨ j = 2 ∨ j = 3 ∨ j = 4 ∨ j = 5 ∨ j = 6 ∨ j = 7 := by omega
      · exact says_of rfl (hS 0 hl _ rfl)
      · exact (by obtain ⟨X_, c_, h1_, h2_, h3_⟩ := hS 1 hl _ rfl; exact says_of rfl ⟨X_, c_, h1_, h2_, h3_.step (n24_put hk_ _)⟩)
      · exact says_of rfl (hS 2 hl _ rfl)
      · exact (by obtain ⟨X_, c_, h1_, h2_, h3_⟩ := hS 3 hl _ rfl; exact says_of rfl ⟨X_, c_, h1_, h2_, h3_.step (n24_put hk_ _)⟩)
      · exact (by obtain ⟨g2, cs2, h1_, h2_, h3_, h4_⟩ := hS 4 hl _ rfl; exact says_of rfl ⟨g2, cs2, h1_, h2_, h3_, blk_far h4_ (fun e => hne 4 uQ 5 uQ uQ hl (hD 5 uQ) (by rw [h1_, q4]; exact congrArg (fun g => Value.pointer (some ⟨g, 0, none⟩)) e)) _⟩)
      · exact says_of rfl ⟨g_, #[.slice X lb.length c], q4, hz_, rfl, blk_put hk_ 0 _ rfl⟩
      · exact (by obtain ⟨g2, X2, c2, h1_, h2_, h3_⟩ := hS 6 hl _ rfl; exact says_of rfl ⟨g2, X2, c2, h1_, h2_, blk_far h3_ (fun e => hne 4 uQ 5 uQ uQ ((hcl 6 hl).2 4 uQ) (hD 5 uQ) (by rw [show val 4 = _ from h1_, q4]; exact congrArg (fun g => Value.pointer (some ⟨g, 0, none⟩)) e)) _⟩)
      · exact absurd hl hnl
  case hend =>
    intro val W1 hB1 h
    obtain ⟨g9, Ax, cx, q4, q1, k9⟩ := (show ∃ g X d, val 4 = .pointer (some ⟨g, 0, none⟩) ∧ val 1 = .agg #[.slice X la.length d] ∧ W1.heap[g]? = some (.cells #[.slice X la.length d] 24 (0, 0)) from h 6 uQ _ rfl)
    obtain ⟨g10, Ay, cy, q5, q3, k10⟩ := (show ∃ g X d, val 5 = .pointer (some ⟨g, 0, none⟩) ∧ val 3 = .agg #[.slice X lb.length d] ∧ W1.heap[g]? = some (.cells #[.slice X lb.length d] 24 (0, 0)) from h 7 uQ _ rfl)
    obtain ⟨Ax', cx', q1', hcx, rx⟩ := (show ∃ X c, val 1 = .agg #[.slice X la.length c] ∧ la.length ≤ c ∧ Rob W1 X la from h 1 uQ _ rfl)
    obtain ⟨Ay', cy', q3', hcy, ry⟩ := (show ∃ X c, val 3 = .agg #[.slice X lb.length c] ∧ lb.length ≤ c ∧ Rob W1 X lb from h 3 uQ _ rfl)
    have e0_ : val 0 = .agg #[.slice A la.length ca] := h 0 uQ _ rfl
    have e2_ : val 2 = .agg #[.slice B lb.length cb] := h 2 uQ _ rfl
    rw [q1] at q1'
    obtain ⟨rfl, rfl⟩ : Ax = Ax' ∧ cx = cx' := by injection q1' with e1; injection e1 with e1; injection e1 with e1 _; injection e1 with e1 _ e2; exact ⟨e1, e2⟩
    rw [q3] at q3'
    obtain ⟨rfl, rfl⟩ : Ay = Ay' ∧ cy = cy' := by injection q3' with e1; injection e1 with e1; injection e1 with e1 _; injection e1 with e1 _ e2; exact ⟨e1, e2⟩
    have hb1 := Many3.undrew hB1
    have CX := mk0 (rx W1 (fun _ _ _ _ h => h))
    have CY := mk0 (ry W1 (fun _ _ _ _ h => h))
    have CA := mk0 (Kd.C_below HA0.out hb1)
    have CBm := mk0 (Kd.C_below HB0.out hb1)
    have CR := mk0 (Kd.C_below (Kd.C_below HRr.out HB.out) hb1)
    have K4 := mk0 (blk_below Z4.out hb1)
    have K5 := mk0 (blk_below Z5.out hb1)
    have K9 := mk0 k9
    have K10 := mk0 k10
    have HCX := mk0 hcx
    have HCY := mk0 hcy
    have HCA := mk0 hca
    have HCB := mk0 hcb
    have HCR := mk0 hcr
    have HBw := mk0 (below_step (w := w) HB.out hb1)
    have HB1 := mk0 (Below.refl W1.heap.size W1)
    rw [e0_, e2_, q1, q3, q4, q5]
    clear h hB1 hb1 HB HA0 HB0 HRr HA HBm Z4 Z5 k9 k10 hcx hcy hca hcb hcr rx ry q1 q3 q4 q5 q1' q3' e0_ e2_ hu24 val
    have hz9 : W1.cell? ⟨g9, 0, none⟩ = some (.slice Ax la.length cx) := (blk_cell K9.out 0).trans rfl
    have hz10 : W1.cell? ⟨g10, 0, none⟩ = some (.slice Ay lb.length cy) := (blk_cell K10.out 0).trans rfl
    have hu24 := Try.underlying24
    go_wp2_with (first
      | ((with_reducible refine gate_dst (N := 11) rfl ?_); refine box_event uT (N := 11) uT (cs := #[.slice none 0 0]) (t := 24) uK ?_; intro g11 hg u11 hbox hb; have BKN := mk0 hbox; have GN := mk0 (show u30.heap.size ≤ g11 from Nat.le_of_eq hg.symm); have HC := mk0 hb; have HY := mk0 (below_step HB1.out hb); have hzn : u11.cell? ⟨g11, 0, none⟩ = some (.slice none 0 0) := (blk_cell hbox 0).trans rfl; have hfn := blk_frozen hbox 0; have hz4 : u11.cell? ⟨g4, 0, none⟩ = some (.slice A la.length ca) := (blk_cell (blk_below K4.out HY.out) 0).trans rfl; have na4_ : g11 ≠ g4 := (by rw [hg]; exact Nat.ne_of_gt (blk_lt (blk_below K4.out HB1.out))); have nb4_ := na4_.symm; have hz5 : u11.cell? ⟨g5, 0, none⟩ = some (.slice B lb.length cb) := (blk_cell (blk_below K5.out HY.out) 0).trans rfl; have na5_ : g11 ≠ g5 := (by rw [hg]; exact Nat.ne_of_gt (blk_lt (blk_below K5.out HB1.out))); have nb5_ := na5_.symm; clear HY hbox hg hb)
      | ((with_reducible refine gate_dst (N := 13) rfl ?_); refine box_event uT (N := 13) uT (cs := #[.slice none 0 0]) (t := 24) uK ?_; intro g13 hg u13 hbox hb; have BKN := mk0 hbox; have GN := mk0 (show u36.heap.size ≤ g13 from Nat.le_of_eq hg.symm); have HC := mk0 hb; have HY := mk0 (below_step HB1.out hb); have hzn : u13.cell? ⟨g13, 0, none⟩ = some (.slice none 0 0) := (blk_cell hbox 0).trans rfl; have hfn := blk_frozen hbox 0; have hz9 : u13.cell? ⟨g9, 0, none⟩ = some (.slice Ax la.length cx) := (blk_cell (blk_below K9.out HY.out) 0).trans rfl; have na9_ : g13 ≠ g9 := (by rw [hg]; exact Nat.ne_of_gt (blk_lt (blk_below K9.out HB1.out))); have nb9_ := na9_.symm; clear HY hbox hg hb)
      | ((with_reducible refine gate_dst (N := 15) rfl ?_); refine box_event uT (N := 15) uT (cs := #[.slice none 0 0]) (t := 24) uK ?_; intro g15 hg u15 hbox hb; have BKN := mk0 hbox; have GN := mk0 (show u42.heap.size ≤ g15 from Nat.le_of_eq hg.symm); have HC := mk0 hb; have HY := mk0 (below_step HB1.out hb); have hzn : u15.cell? ⟨g15, 0, none⟩ = some (.slice none 0 0) := (blk_cell hbox 0).trans rfl; have hfn := blk_frozen hbox 0; have hz4 : u15.cell? ⟨g4, 0, none⟩ = some (.slice A la.length ca) := (blk_cell (blk_below K4.out HY.out) 0).trans rfl; have na4_ : g15 ≠ g4 := (by rw [hg]; exact Nat.ne_of_gt (blk_lt (blk_below K4.out HB1.out))); have nb4_ := na4_.symm; have G15 := mk0 (Nat.le_trans SZ.out (Nat.le_of_eq hg.symm)); clear HY hbox hg hb)
      | ((with_reducible refine gate_dst (N := 17) rfl ?_); refine box_event uT (N := 17) uT (cs := #[.slice none 0 0]) (t := 24) uK ?_; intro g17 hg u17 hbox hb; have BKN := mk0 hbox; have GN := mk0 (show u48.heap.size ≤ g17 from Nat.le_of_eq hg.symm); have HC := mk0 hb; have HY := mk0 (below_step HB1.out hb); have hzn : u17.cell? ⟨g17, 0, none⟩ = some (.slice none 0 0) := (blk_cell hbox 0).trans rfl; have hfn := blk_frozen hbox 0; clear HY hbox hg hb)
      | ((with_reducible refine gate_dst (N := 19) rfl ?_); refine box_event uT (N := 19) uT (cs := #[.slice none 0 0]) (t := 24) uK ?_; intro g19 hg u19 hbox hb; have BKN := mk0 hbox; have GN := mk0 (show u53.heap.size ≤ g19 from Nat.le_of_eq hg.symm); have HC := mk0 hb; have HY := mk0 (below_step HB1.out hb); have hzn : u19.cell? ⟨g19, 0, none⟩ = some (.slice none 0 0) := (blk_cell hbox 0).trans rfl; have hfn := blk_frozen hbox 0; clear HY hbox hg hb)
      | ((with_reducible refine gate_dst (N := 21) rfl ?_); refine box_event uT (N := 21) uT (cs := #[.slice none 0 0]) (t := 24) uK ?_; intro g21 hg u21 hbox hb; have BKN := mk0 hbox; have GN := mk0 (show u58.heap.size ≤ g21 from Nat.le_of_eq hg.symm); have HC := mk0 hb; have HY := mk0 (below_step HB1.out hb); have hzn : u21.cell? ⟨g21, 0, none⟩ = some (.slice none 0 0) := (blk_cell hbox 0).trans rfl; have hfn := blk_frozen hbox 0; clear HY hbox hg hb)
      | ((with_reducible refine gCa (f := 28) (xs := #[.tmp 28, .tmp 29]) rfl ?_); have HY := HB1; clear hz9 hz10; refine goesL_ (some 30) rfl rfl Try.func28 uP rfl #[.agg #[.slice Ax la.length cx], .agg #[.slice Ay lb.length cy]] rfl um ?_; (with_reducible refine (GMulF.matrix_Mul.calls kf Ax cx la Ay cy lb p e1 _ (Kd.C_below CX.out HY.out) HCX.out (Kd.C_below CY.out HY.out) HCY.out X3.out).mono ?_); rintro e u30 ⟨v0, rfl, hS, hb⟩; obtain ⟨Ap, cp, rfl⟩ := Kd.S_slice hS; refine ⟨_, rfl, ?_⟩; have SZ := mk0 (Nat.le_refl u30.heap.size); clear HB1; have HB1 := mk0 (below_step HY.out hb); clear HY; have L11 := mk0 (Kd.S_reads' hS).2.1; have SP := mk0 (Kd.S_mono (ok' := fun k => k < u30.heap.size) (Kd.S_bound hS) (fun _ hk => hk.2.2.1)); clear hS hb)
      | ((with_reducible refine gCa (f := 29) (xs := #[.tmp 34, .tmp 35]) rfl ?_); have HX := mk0 (lT HC.out GN (j := 0) (v := (.slice Ap p.length cp))); have HY := mk0 (below_step HB1.out HX.out); have BK11 := mk0 (blk_put (cs := #[.slice none 0 0]) BKN.out 0 (.slice Ap p.length cp) rfl); clear BKN GN HC hzn hfn; clear hz4 hz5 na4_ nb4_ na5_ nb5_; refine goesL_ (some 36) rfl rfl Try.func29 uP rfl #[.agg #[.slice A la.length ca], .agg #[.slice B lb.length cb]] rfl um ?_; (with_reducible refine (GRef.ossuaryref1_MulMatrix.calls kf A ca la B cb lb p e1 _ (Kd.C_below CA.out HY.out) HCA.out (Kd.C_below CBm.out HY.out) HCB.out X4.out).mono ?_); rintro e u36 ⟨v0, rfl, hS, hb⟩; obtain ⟨Aq, cq, rfl⟩ := Kd.S_slice hS; refine ⟨_, rfl, ?_⟩; replace BK11 := mk0 (blk_below BK11.out hb); replace HB1 := mk0 (below_step HY.out hb); replace SZ := mk0 (Nat.le_trans SZ.out (below_size (below_step HX.out hb))); replace SP := mk0 (Kd.S_below SP.out (below_step HX.out hb)); clear HX HY; have L13 := mk0 (Kd.S_reads' hS).2.1; have C13 := mk0 (Kd.S_reads' hS).2.2; clear hS hb)
      | ((with_reducible refine gCa (f := 30) (xs := #[.tmp 40, .tmp 41]) rfl ?_); have HX := mk0 (lT HC.out GN (j := 0) (v := (.slice Aq p.length cq))); have HY := mk0 (below_step HB1.out HX.out); have BK13 := mk0 (blk_put (cs := #[.slice none 0 0]) BKN.out 0 (.slice Aq p.length cq) rfl); clear BKN GN HC hzn hfn; clear hz9 na9_ nb9_; refine goesL_ (some 42) rfl rfl Try.func30 uP rfl #[.agg #[.slice Ax la.length cx], .slice R rows.length cr] rfl um ?_; (with_reducible refine (GBase.matrix_Pick.calls kf Ax cx la R cr rows r e2 _ (Kd.C_below CX.out HY.out) HCX.out (Kd.C_below CR.out HY.out) HCR.out X5.out).mono ?_); rintro e u42 ⟨v0, rfl, hS, hb⟩; obtain ⟨Ar, cr2, rfl⟩ := Kd.S_slice hS; refine ⟨_, rfl, ?_⟩; have GU := mk0 (Nat.le_trans SZ.out (below_size HX.out)); have GB := mk0 (below_size HY.out); replace BK13 := mk0 (blk_below BK13.out hb); replace HB1 := mk0 (below_step HY.out hb); replace SZ := mk0 (Nat.le_trans SZ.out (below_size (below_step HX.out hb))); replace SP := mk0 (Kd.S_below SP.out (below_step HX.out hb)); replace BK11 := mk0 (blk_below BK11.out (below_step HX.out hb)); replace C13 := mk0 (Kd.C_below C13.out (below_step HX.out hb)); clear HX HY; have L15 := mk0 (Kd.S_reads' hS).2.1; have SR := mk0 (Kd.S_mono (ok' := fun k => u30.heap.size ≤ k) (Kd.S_bound hS) (fun _ hk => Nat.le_trans GU.out hk.2.1)); clear GU; clear hS hb)
      | ((with_reducible refine gCa (f := 31) (xs := #[.tmp 46, .tmp 47]) rfl ?_); have HX := mk0 (lT HC.out GN (j := 0) (v := (.slice Ar r.length cr2))); have HY := mk0 (below_step HB1.out HX.out); have BK15 := mk0 (blk_put (cs := #[.slice none 0 0]) BKN.out 0 (.slice Ar r.length cr2) rfl); clear BKN GN HC hzn hfn; clear hz4 na4_ nb4_; refine goesL_ (some 48) rfl rfl Try.func31 uP rfl #[.agg #[.slice A la.length ca], .slice R rows.length cr] rfl um ?_; (with_reducible refine (GRef.ossuaryref1_Pick.calls kf A ca la R cr rows r e2 _ (Kd.C_below CA.out HY.out) HCA.out (Kd.C_below CR.out HY.out) HCR.out X6.out).mono ?_); rintro e u48 ⟨v0, rfl, hS, hb⟩; obtain ⟨As, cs2, rfl⟩ := Kd.S_slice hS; refine ⟨_, rfl, ?_⟩; replace BK15 := mk0 (blk_below BK15.out hb); replace HB1 := mk0 (below_step HY.out hb); replace SZ := mk0 (Nat.le_trans SZ.out (below_size (below_step HX.out hb))); replace SP := mk0 (Kd.S_below SP.out (below_step HX.out hb)); replace BK11 := mk0 (blk_below BK11.out (below_step HX.out hb)); replace C13 := mk0 (Kd.C_below C13.out (below_step HX.out hb)); replace BK13 := mk0 (blk_below BK13.out (below_step HX.out hb)); replace SR := mk0 (Kd.S_below SR.out (below_step HX.out hb)); clear HX HY; have L17 := mk0 (Kd.S_reads' hS).2.1; have C17 := mk0 (Kd.S_reads' hS).2.2; clear hS hb)
      | ((with_reducible refine gCa (f := 32) (xs := #[.tmp 52]) rfl ?_); have HX := mk0 (lT HC.out GN (j := 0) (v := (.slice As r.length cs2))); have HY := mk0 (below_step HB1.out HX.out); have BK17 := mk0 (blk_put (cs := #[.slice none 0 0]) BKN.out 0 (.slice As r.length cs2) rfl); clear BKN GN HC hzn hfn; refine goesL_ (some 53) rfl rfl Try.func32 uP rfl #[.int .i64 kk] rfl um ?_; (with_reducible refine (GBase.matrix_Identity.calls kf kk t e3 _ X7.out).mono ?_); rintro e u53 ⟨v0, rfl, hS, hb⟩; obtain ⟨At, ct, rfl⟩ := Kd.S_slice hS; refine ⟨_, rfl, ?_⟩; replace BK17 := mk0 (blk_below BK17.out hb); replace HB1 := mk0 (below_step HY.out hb); replace SZ := mk0 (Nat.le_trans SZ.out (below_size (below_step HX.out hb))); replace SP := mk0 (Kd.S_below SP.out (below_step HX.out hb)); replace BK11 := mk0 (blk_below BK11.out (below_step HX.out hb)); replace C13 := mk0 (Kd.C_below C13.out (below_step HX.out hb)); replace BK13 := mk0 (blk_below BK13.out (below_step HX.out hb)); replace SR := mk0 (Kd.S_below SR.out (below_step HX.out hb)); replace BK15 := mk0 (blk_below BK15.out (below_step HX.out hb)); replace C17 := mk0 (Kd.C_below C17.out (below_step HX.out hb)); clear HX HY; have L19 := mk0 (Kd.S_reads' hS).2.1; have C19 := mk0 (Kd.S_reads' hS).2.2; clear hS hb)
      | ((with_reducible refine gCa (f := 33) (xs := #[.tmp 57]) rfl ?_); have HX := mk0 (lT HC.out GN (j := 0) (v := (.slice At t.length ct))); have HY := mk0 (below_step HB1.out HX.out); have BK19 := mk0 (blk_put (cs := #[.slice none 0 0]) BKN.out 0 (.slice At t.length ct) rfl); clear BKN GN HC hzn hfn; refine goesL_ (some 58) rfl rfl Try.func33 uP rfl #[.int .i64 kk] rfl um ?_; (with_reducible refine (GRef.ossuaryref1_Identity.calls kf kk t e3 _ X8.out).mono ?_); rintro e u58 ⟨v0, rfl, hS, hb⟩; obtain ⟨Av, cv, rfl⟩ := Kd.S_slice hS; refine ⟨_, rfl, ?_⟩; replace BK19 := mk0 (blk_below BK19.out hb); replace HB1 := mk0 (below_step HY.out hb); replace SZ := mk0 (Nat.le_trans SZ.out (below_size (below_step HX.out hb))); replace SP := mk0 (Kd.S_below SP.out (below_step HX.out hb)); replace BK11 := mk0 (blk_below BK11.out (below_step HX.out hb)); replace C13 := mk0 (Kd.C_below C13.out (below_step HX.out hb)); replace BK13 := mk0 (blk_below BK13.out (below_step HX.out hb)); replace SR := mk0 (Kd.S_below SR.out (below_step HX.out hb)); replace BK15 := mk0 (blk_below BK15.out (below_step HX.out hb)); replace C17 := mk0 (Kd.C_below C17.out (below_step HX.out hb)); replace BK17 := mk0 (blk_below BK17.out (below_step HX.out hb)); replace C19 := mk0 (Kd.C_below C19.out (below_step HX.out hb)); clear HX HY; have L21 := mk0 (Kd.S_reads' hS).2.1; have C21 := mk0 (Kd.S_reads' hS).2.2; clear hS hb))
    have HX := mk0 (lT HC.out GN (j := 0) (v := (.slice Av t.length cv)))
    have BK21 := mk0 (blk_put (cs := #[.slice none 0 0]) BKN.out 0 (.slice Av t.length cv) rfl)
    clear BKN GN HC hzn hfn
    replace HB1 := mk0 (below_step HB1.out HX.out)
    replace SP := mk0 (Kd.S_below SP.out HX.out)
    replace BK11 := mk0 (blk_below BK11.out HX.out)
    replace C13 := mk0 (Kd.C_below C13.out HX.out)
    replace BK13 := mk0 (blk_below BK13.out HX.out)
    replace SR := mk0 (Kd.S_below SR.out HX.out)
    replace BK15 := mk0 (blk_below BK15.out HX.out)
    replace C17 := mk0 (Kd.C_below C17.out HX.out)
    replace BK17 := mk0 (blk_below BK17.out HX.out)
    replace C19 := mk0 (Kd.C_below C19.out HX.out)
    replace BK19 := mk0 (blk_below BK19.out HX.out)
    replace C21 := mk0 (Kd.C_below C21.out HX.out)
    clear HX
    generalize u58.setCell ⟨g21, 0, none⟩ (.slice Av t.length cv) = W8 at HB1 SP C13 SR C17 C19 C21 BK11 BK13 BK15 BK17 BK19 BK21 ⊢
    have q1_ : (e1 != e1) = false := bne_self_eq_false e1
    have q2_ : (e2 != e2) = false := bne_self_eq_false e2
    have q3_ : (e3 != e3) = false := bne_self_eq_false e3
    have q4_ : (m != m) = false := bne_self_eq_false m
    refine start_ (n := 41) (S := fun w' => w'.cell? ⟨g11, 0, none⟩ = some (.slice Ap p.length cp) ∧ w'.cell? ⟨g13, 0, none⟩ = some (.slice Aq p.length cq) ∧ w'.cell? ⟨g15, 0, none⟩ = some (.slice Ar r.length cr2) ∧ w'.cell? ⟨g17, 0, none⟩ = some (.slice As r.length cs2) ∧ w'.cell? ⟨g19, 0, none⟩ = some (.slice At t.length ct) ∧ w'.cell? ⟨g21, 0, none⟩ = some (.slice Av t.length cv) ∧ w'.cell? ⟨g9, 0, none⟩ = some (.slice Ax la.length cx) ∧ w'.cell? ⟨g4, 0, none⟩ = some (.slice A la.length ca)) (ds := []) matr8_q0 uP rfl rfl ⟨(blk_cell BK11.out 0).trans rfl, (blk_cell BK13.out 0).trans rfl, (blk_cell BK15.out 0).trans rfl, (blk_cell BK17.out 0).trans rfl, (blk_cell BK19.out 0).trans rfl, (blk_cell BK21.out 0).trans rfl, (blk_cell (blk_below K9.out HB1.out) 0).trans rfl, (blk_cell (blk_below K4.out HB1.out) 0).trans rfl⟩ (fun hHeld => ?_); refine with_tabW matr8_tab matr8_bits (fun HT_ HW_ => ?_)
    replace HB1 := mk0 (lD HB1.out)
    replace SP := mk0 (sD SP.out)
    replace C13 := mk0 (Kd.C_below C13.out (lD (Below.refl _ _)))
    replace SR := mk0 (sD SR.out)
    replace C17 := mk0 (Kd.C_below C17.out (lD (Below.refl _ _)))
    replace C19 := mk0 (Kd.C_below C19.out (lD (Below.refl _ _)))
    replace C21 := mk0 (Kd.C_below C21.out (lD (Below.refl _ _)))
    replace BK11 := mk0 (bD BK11.out)
    replace BK13 := mk0 (bD BK13.out)
    replace BK15 := mk0 (bD BK15.out)
    replace BK17 := mk0 (bD BK17.out)
    replace BK19 := mk0 (bD BK19.out)
    replace BK21 := mk0 (bD BK21.out)
    generalize W8.drew = v0 at HB1 SP C13 SR C17 C19 C21 BK11 BK13 BK15 BK17 BK19 BK21 hHeld ⊢
    refine take_ (i := 0) (N := some 61) (v := ?_) (a' := ?_) matr8_q1 rfl rfl (pW HT_.out HW_.out) (fun _ _ _ h => h) (Or.inl ⟨uT, ?_⟩) hHeld ?_ ?_
    rotate_left
    · rintro w' ⟨s0, s1, s2, s3, s4, s5, s6, s7⟩
      go_simp
      with_reducible rfl
    rotate_left
    · simp only [Act.put, List.setIfInBounds_toArray, List.set_cons_zero, List.set_cons_succ, i64_w]
      rfl
    refine take_ (i := 1) (N := some 62) (v := ?_) (a' := ?_) matr8_q2 rfl rfl (pW HT_.out HW_.out) (fun _ _ _ h => h) (Or.inl ⟨uT, ?_⟩) hHeld ?_ ?_
    rotate_left
    · rintro w' ⟨s0, s1, s2, s3, s4, s5, s6, s7⟩
      go_simp
      with_reducible rfl
    rotate_left
    · simp only [Act.put, List.setIfInBounds_toArray, List.set_cons_zero, List.set_cons_succ, i64_w]
      rfl
    refine one_ (i := 2) (N := some 63) matr8_q3 rfl rfl (pO HT_.out) uQ (fun K hK => ?_)
    refine goes_ Try.func34 uP rfl #[.agg #[.slice Ap p.length cp], .agg #[.slice Aq p.length cq]] uT rfl rfl um ?_
    with_reducible refine (GBase.ossuarylaw0_SameMatrix.calls kf Ap cp p Aq cq p true _ (Kd.S_reads' SP.out).2.2 L11.out C13.out L13.out Y1.out).mono ?_
    rintro e v1 ⟨rfl, hb⟩
    refine ⟨_, rfl, ?_⟩
    replace HB1 := mk0 (below_step HB1.out hb)
    replace SP := mk0 (Kd.S_below SP.out hb)
    replace C13 := mk0 (Kd.C_below C13.out hb)
    replace SR := mk0 (Kd.S_below SR.out hb)
    replace C17 := mk0 (Kd.C_below C17.out hb)
    replace C19 := mk0 (Kd.C_below C19.out hb)
    replace C21 := mk0 (Kd.C_below C21.out hb)
    replace BK11 := mk0 (blk_below BK11.out hb)
    replace BK13 := mk0 (blk_below BK13.out hb)
    replace BK15 := mk0 (blk_below BK15.out hb)
    replace BK17 := mk0 (blk_below BK17.out hb)
    replace BK19 := mk0 (blk_below BK19.out hb)
    replace BK21 := mk0 (blk_below BK21.out hb)
    clear hb hHeld
    refine hK.out _ _ ⟨(blk_cell BK11.out 0).trans rfl, (blk_cell BK13.out 0).trans rfl, (blk_cell BK15.out 0).trans rfl, (blk_cell BK17.out 0).trans rfl, (blk_cell BK19.out 0).trans rfl, (blk_cell BK21.out 0).trans rfl, (blk_cell (blk_below K9.out HB1.out) 0).trans rfl, (blk_cell (blk_below K4.out HB1.out) 0).trans rfl⟩ (fun hHeld => ?_)
    clear hK K
    refine norm_ (a' := ?_) ?_ ?_
    rotate_left
    · show Act.put _ (some 63) _ = _
      simp only [Act.put, List.setIfInBounds_toArray, List.set_cons_zero, List.set_cons_succ, i64_w]
      rfl
    refine pure_ (i := 3) (N := some 64) (v := ?_) (a' := ?_) matr8_q4 rfl rfl (pA HT_.out) (fun _ _ _ h => h) (Or.inl ⟨uT, ?_⟩) ?_ ?_
    rotate_left
    · intro w'
      go_simp
      with_reducible rfl
    rotate_left
    · simp only [Act.put, List.setIfInBounds_toArray, List.set_cons_zero, List.set_cons_succ, i64_w]
      rfl
    refine pure_ (i := 4) (N := some 65) (v := ?_) (a' := ?_) matr8_q5 rfl rfl (pA HT_.out) (fun _ _ _ h => h) (Or.inl ⟨uT, ?_⟩) ?_ ?_
    rotate_left
    · intro w'
      go_simp
      with_reducible rfl
    rotate_left
    · simp only [Act.put, List.setIfInBounds_toArray, List.set_cons_zero, List.set_cons_succ, i64_w]
      rfl
    refine pure_ (i := 5) (N := some 66) (v := ?_) (a' := ?_) matr8_q6 rfl rfl (pA HT_.out) (fun _ _ _ h => h) (Or.inl ⟨uT, ?_⟩) ?_ ?_
    rotate_left
    · intro w'
      go_simp
      with_reducible rfl
    rotate_left
    · simp only [Act.put, List.setIfInBounds_toArray, List.set_cons_zero, List.set_cons_succ, i64_w]
      rfl
    refine pure_ (i := 7) (N := some 68) (v := ?_) (a' := ?_) matr8_q7 rfl rfl (pA HT_.out) (fun _ _ _ h => h) (Or.inl ⟨uT, ?_⟩) ?_ ?_
    rotate_left
    · intro w'
      go_simp
      with_reducible rfl
    rotate_left
    · simp only [Act.put, List.setIfInBounds_toArray, List.set_cons_zero, List.set_cons_succ, i64_w]
      rfl
    refine one_ (i := 6) (N := some 67) matr8_q8 rfl rfl (pO HT_.out) uQ (fun K hK => ?_)
    refine goes_ Try.func35 uP rfl #[.int .i64 e1] uT rfl rfl um ?_
    with_reducible refine (GBase.ossuarylaw0_Num.calls e1 e1 _ rfl).mono ?_
    rintro e w' ⟨rfl, ⟨nd, rfl⟩⟩
    refine ⟨_, rfl, ?_⟩
    replace HB1 := mk0 (lN HB1.out nd)
    replace SP := mk0 (sN SP.out nd)
    replace C13 := mk0 (Kd.C_below C13.out (lN (Below.refl _ _) nd))
    replace SR := mk0 (sN SR.out nd)
    replace C17 := mk0 (Kd.C_below C17.out (lN (Below.refl _ _) nd))
    replace C19 := mk0 (Kd.C_below C19.out (lN (Below.refl _ _) nd))
    replace C21 := mk0 (Kd.C_below C21.out (lN (Below.refl _ _) nd))
    replace BK11 := mk0 (bN BK11.out nd)
    replace BK13 := mk0 (bN BK13.out nd)
    replace BK15 := mk0 (bN BK15.out nd)
    replace BK17 := mk0 (bN BK17.out nd)
    replace BK19 := mk0 (bN BK19.out nd)
    replace BK21 := mk0 (bN BK21.out nd)
    generalize v1.drewN nd = v2 at HB1 SP C13 SR C17 C19 C21 BK11 BK13 BK15 BK17 BK19 BK21 ⊢
    clear hHeld
    refine hK.out _ _ ⟨(blk_cell BK11.out 0).trans rfl, (blk_cell BK13.out 0).trans rfl, (blk_cell BK15.out 0).trans rfl, (blk_cell BK17.out 0).trans rfl, (blk_cell BK19.out 0).trans rfl, (blk_cell BK21.out 0).trans rfl, (blk_cell (blk_below K9.out HB1.out) 0).trans rfl, (blk_cell (blk_below K4.out HB1.out) 0).trans rfl⟩ (fun hHeld => ?_)
    clear hK K
    refine norm_ (a' := ?_) ?_ ?_
    rotate_left
    · show Act.put _ (some 67) _ = _
      simp only [Act.put, List.setIfInBounds_toArray, List.set_cons_zero, List.set_cons_succ, i64_w]
      rfl
    refine pure_ (i := 8) (N := some 69) (v := ?_) (a' := ?_) matr8_q9 rfl rfl (pA HT_.out) (fun _ _ _ h => h) (Or.inl ⟨uT, ?_⟩) ?_ ?_
    rotate_left
    · intro w'
      go_simp
      with_reducible rfl
    rotate_left
    · simp only [Act.put, List.setIfInBounds_toArray, List.set_cons_zero, List.set_cons_succ, i64_w]
      rfl
    refine pure_ (i := 9) (N := some 70) (v := ?_) (a' := ?_) matr8_q10 rfl rfl (pA HT_.out) (fun _ _ _ h => h) (Or.inl ⟨uT, ?_⟩) ?_ ?_
    rotate_left
    · intro w'
      go_simp
      with_reducible rfl
    rotate_left
    · simp only [Act.put, List.setIfInBounds_toArray, List.set_cons_zero, List.set_cons_succ, i64_w]
      rfl
    refine pure_ (i := 10) (N := some 71) (v := ?_) (a' := ?_) matr8_q11 rfl rfl (pA HT_.out) (fun _ _ _ h => h) (Or.inl ⟨uT, ?_⟩) ?_ ?_
    rotate_left
    · intro w'
      go_simp
      with_reducible rfl
    rotate_left
    · simp only [Act.put, List.setIfInBounds_toArray, List.set_cons_zero, List.set_cons_succ, i64_w]
      rfl
    refine take_ (i := 11) (N := some 72) (v := ?_) (a' := ?_) matr8_q12 rfl rfl (pW HT_.out HW_.out) (fun _ _ _ h => h) (Or.inl ⟨uT, ?_⟩) hHeld ?_ ?_
    rotate_left
    · rintro w' ⟨s0, s1, s2, s3, s4, s5, s6, s7⟩
      go_simp
      with_reducible rfl
    rotate_left
    · simp only [Act.put, List.setIfInBounds_toArray, List.set_cons_zero, List.set_cons_succ, i64_w]
      rfl
    refine take_ (i := 12) (N := some 73) (v := ?_) (a' := ?_) matr8_q13 rfl rfl (pW HT_.out HW_.out) (fun _ _ _ h => h) (Or.inl ⟨uT, ?_⟩) hHeld ?_ ?_
    rotate_left
    · rintro w' ⟨s0, s1, s2, s3, s4, s5, s6, s7⟩
      go_simp
      with_reducible rfl
    rotate_left
    · simp only [Act.put, List.setIfInBounds_toArray, List.set_cons_zero, List.set_cons_succ, i64_w]
      rfl
    refine one_ (i := 13) (N := some 74) matr8_q14 rfl rfl (pO HT_.out) uQ (fun K hK => ?_)
    refine goes_ Try.func34 uP rfl #[.agg #[.slice Ar r.length cr2], .agg #[.slice As r.length cs2]] uT rfl rfl um ?_
    with_reducible refine (GBase.ossuarylaw0_SameMatrix.calls kf Ar cr2 r As cs2 r true _ (Kd.S_reads' SR.out).2.2 L15.out C17.out L17.out Y2.out).mono ?_
    rintro e v3 ⟨rfl, hb⟩
    refine ⟨_, rfl, ?_⟩
    replace HB1 := mk0 (below_step HB1.out hb)
    replace SP := mk0 (Kd.S_below SP.out hb)
    replace C13 := mk0 (Kd.C_below C13.out hb)
    replace SR := mk0 (Kd.S_below SR.out hb)
    replace C17 := mk0 (Kd.C_below C17.out hb)
    replace C19 := mk0 (Kd.C_below C19.out hb)
    replace C21 := mk0 (Kd.C_below C21.out hb)
    replace BK11 := mk0 (blk_below BK11.out hb)
    replace BK13 := mk0 (blk_below BK13.out hb)
    replace BK15 := mk0 (blk_below BK15.out hb)
    replace BK17 := mk0 (blk_below BK17.out hb)
    replace BK19 := mk0 (blk_below BK19.out hb)
    replace BK21 := mk0 (blk_below BK21.out hb)
    clear hb hHeld
    refine hK.out _ _ ⟨(blk_cell BK11.out 0).trans rfl, (blk_cell BK13.out 0).trans rfl, (blk_cell BK15.out 0).trans rfl, (blk_cell BK17.out 0).trans rfl, (blk_cell BK19.out 0).trans rfl, (blk_cell BK21.out 0).trans rfl, (blk_cell (blk_below K9.out HB1.out) 0).trans rfl, (blk_cell (blk_below K4.out HB1.out) 0).trans rfl⟩ (fun hHeld => ?_)
    clear hK K
    refine norm_ (a' := ?_) ?_ ?_
    rotate_left
    · show Act.put _ (some 74) _ = _
      simp only [Act.put, List.setIfInBounds_toArray, List.set_cons_zero, List.set_cons_succ, i64_w]
      rfl
    refine pure_ (i := 14) (N := some 75) (v := ?_) (a' := ?_) matr8_q15 rfl rfl (pA HT_.out) (fun _ _ _ h => h) (Or.inl ⟨uT, ?_⟩) ?_ ?_
    rotate_left
    · intro w'
      go_simp
      with_reducible rfl
    rotate_left
    · simp only [Act.put, List.setIfInBounds_toArray, List.set_cons_zero, List.set_cons_succ, i64_w]
      rfl
    refine pure_ (i := 15) (N := some 76) (v := ?_) (a' := ?_) matr8_q16 rfl rfl (pA HT_.out) (fun _ _ _ h => h) (Or.inl ⟨uT, ?_⟩) ?_ ?_
    rotate_left
    · intro w'
      go_simp
      with_reducible rfl
    rotate_left
    · simp only [Act.put, List.setIfInBounds_toArray, List.set_cons_zero, List.set_cons_succ, i64_w]
      rfl
    refine pure_ (i := 16) (N := some 77) (v := ?_) (a' := ?_) matr8_q17 rfl rfl (pA HT_.out) (fun _ _ _ h => h) (Or.inl ⟨uT, ?_⟩) ?_ ?_
    rotate_left
    · intro w'
      go_simp
      with_reducible rfl
    rotate_left
    · simp only [Act.put, List.setIfInBounds_toArray, List.set_cons_zero, List.set_cons_succ, i64_w]
      rfl
    refine pure_ (i := 17) (N := some 78) (v := ?_) (a' := ?_) matr8_q18 rfl rfl (pA HT_.out) (fun _ _ _ h => h) (Or.inl ⟨uT, ?_⟩) ?_ ?_
    rotate_left
    · intro w'
      go_simp
      with_reducible rfl
    rotate_left
    · simp only [Act.put, List.setIfInBounds_toArray, List.set_cons_zero, List.set_cons_succ, i64_w]
      rfl
    refine pure_ (i := 19) (N := some 80) (v := ?_) (a' := ?_) matr8_q19 rfl rfl (pA HT_.out) (fun _ _ _ h => h) (Or.inl ⟨uT, ?_⟩) ?_ ?_
    rotate_left
    · intro w'
      go_simp
      with_reducible rfl
    rotate_left
    · simp only [Act.put, List.setIfInBounds_toArray, List.set_cons_zero, List.set_cons_succ, i64_w]
      rfl
    refine one_ (i := 18) (N := some 79) matr8_q20 rfl rfl (pO HT_.out) uQ (fun K hK => ?_)
    refine goes_ Try.func35 uP rfl #[.int .i64 e2] uT rfl rfl um ?_
    with_reducible refine (GBase.ossuarylaw0_Num.calls e2 e2 _ rfl).mono ?_
    rintro e w' ⟨rfl, ⟨nd, rfl⟩⟩
    refine ⟨_, rfl, ?_⟩
    replace HB1 := mk0 (lN HB1.out nd)
    replace SP := mk0 (sN SP.out nd)
    replace C13 := mk0 (Kd.C_below C13.out (lN (Below.refl _ _) nd))
    replace SR := mk0 (sN SR.out nd)
    replace C17 := mk0 (Kd.C_below C17.out (lN (Below.refl _ _) nd))
    replace C19 := mk0 (Kd.C_below C19.out (lN (Below.refl _ _) nd))
    replace C21 := mk0 (Kd.C_below C21.out (lN (Below.refl _ _) nd))
    replace BK11 := mk0 (bN BK11.out nd)
    replace BK13 := mk0 (bN BK13.out nd)
    replace BK15 := mk0 (bN BK15.out nd)
    replace BK17 := mk0 (bN BK17.out nd)
    replace BK19 := mk0 (bN BK19.out nd)
    replace BK21 := mk0 (bN BK21.out nd)
    generalize v3.drewN nd = v4 at HB1 SP C13 SR C17 C19 C21 BK11 BK13 BK15 BK17 BK19 BK21 ⊢
    clear hHeld
    refine hK.out _ _ ⟨(blk_cell BK11.out 0).trans rfl, (blk_cell BK13.out 0).trans rfl, (blk_cell BK15.out 0).trans rfl, (blk_cell BK17.out 0).trans rfl, (blk_cell BK19.out 0).trans rfl, (blk_cell BK21.out 0).trans rfl, (blk_cell (blk_below K9.out HB1.out) 0).trans rfl, (blk_cell (blk_below K4.out HB1.out) 0).trans rfl⟩ (fun hHeld => ?_)
    clear hK K
    refine norm_ (a' := ?_) ?_ ?_
    rotate_left
    · show Act.put _ (some 79) _ = _
      simp only [Act.put, List.setIfInBounds_toArray, List.set_cons_zero, List.set_cons_succ, i64_w]
      rfl
    refine pure_ (i := 20) (N := some 81) (v := ?_) (a' := ?_) matr8_q21 rfl rfl (pA HT_.out) (fun _ _ _ h => h) (Or.inl ⟨uT, ?_⟩) ?_ ?_
    rotate_left
    · intro w'
      go_simp
      with_reducible rfl
    rotate_left
    · simp only [Act.put, List.setIfInBounds_toArray, List.set_cons_zero, List.set_cons_succ, i64_w]
      rfl
    refine pure_ (i := 21) (N := some 82) (v := ?_) (a' := ?_) matr8_q22 rfl rfl (pA HT_.out) (fun _ _ _ h => h) (Or.inl ⟨uT, ?_⟩) ?_ ?_
    rotate_left
    · intro w'
      go_simp
      with_reducible rfl
    rotate_left
    · simp only [Act.put, List.setIfInBounds_toArray, List.set_cons_zero, List.set_cons_succ, i64_w]
      rfl
    refine pure_ (i := 22) (N := some 83) (v := ?_) (a' := ?_) matr8_q23 rfl rfl (pA HT_.out) (fun _ _ _ h => h) (Or.inl ⟨uT, ?_⟩) ?_ ?_
    rotate_left
    · intro w'
      go_simp
      with_reducible rfl
    rotate_left
    · simp only [Act.put, List.setIfInBounds_toArray, List.set_cons_zero, List.set_cons_succ, i64_w]
      rfl
    refine take_ (i := 23) (N := some 84) (v := ?_) (a' := ?_) matr8_q24 rfl rfl (pW HT_.out HW_.out) (fun _ _ _ h => h) (Or.inl ⟨uT, ?_⟩) hHeld ?_ ?_
    rotate_left
    · rintro w' ⟨s0, s1, s2, s3, s4, s5, s6, s7⟩
      go_simp
      with_reducible rfl
    rotate_left
    · simp only [Act.put, List.setIfInBounds_toArray, List.set_cons_zero, List.set_cons_succ, i64_w]
      rfl
    refine take_ (i := 24) (N := some 85) (v := ?_) (a' := ?_) matr8_q25 rfl rfl (pW HT_.out HW_.out) (fun _ _ _ h => h) (Or.inl ⟨uT, ?_⟩) hHeld ?_ ?_
    rotate_left
    · rintro w' ⟨s0, s1, s2, s3, s4, s5, s6, s7⟩
      go_simp
      with_reducible rfl
    rotate_left
    · simp only [Act.put, List.setIfInBounds_toArray, List.set_cons_zero, List.set_cons_succ, i64_w]
      rfl
    refine one_ (i := 25) (N := some 86) matr8_q26 rfl rfl (pO HT_.out) uQ (fun K hK => ?_)
    refine goes_ Try.func34 uP rfl #[.agg #[.slice At t.length ct], .agg #[.slice Av t.length cv]] uT rfl rfl um ?_
    with_reducible refine (GBase.ossuarylaw0_SameMatrix.calls kf At ct t Av cv t true _ C19.out L19.out C21.out L21.out Y3.out).mono ?_
    rintro e v5 ⟨rfl, hb⟩
    refine ⟨_, rfl, ?_⟩
    replace HB1 := mk0 (below_step HB1.out hb)
    replace SP := mk0 (Kd.S_below SP.out hb)
    replace C13 := mk0 (Kd.C_below C13.out hb)
    replace SR := mk0 (Kd.S_below SR.out hb)
    replace C17 := mk0 (Kd.C_below C17.out hb)
    replace C19 := mk0 (Kd.C_below C19.out hb)
    replace C21 := mk0 (Kd.C_below C21.out hb)
    replace BK11 := mk0 (blk_below BK11.out hb)
    replace BK13 := mk0 (blk_below BK13.out hb)
    replace BK15 := mk0 (blk_below BK15.out hb)
    replace BK17 := mk0 (blk_below BK17.out hb)
    replace BK19 := mk0 (blk_below BK19.out hb)
    replace BK21 := mk0 (blk_below BK21.out hb)
    clear hb hHeld
    refine hK.out _ _ ⟨(blk_cell BK11.out 0).trans rfl, (blk_cell BK13.out 0).trans rfl, (blk_cell BK15.out 0).trans rfl, (blk_cell BK17.out 0).trans rfl, (blk_cell BK19.out 0).trans rfl, (blk_cell BK21.out 0).trans rfl, (blk_cell (blk_below K9.out HB1.out) 0).trans rfl, (blk_cell (blk_below K4.out HB1.out) 0).trans rfl⟩ (fun hHeld => ?_)
    clear hK K
    refine norm_ (a' := ?_) ?_ ?_
    rotate_left
    · show Act.put _ (some 86) _ = _
      simp only [Act.put, List.setIfInBounds_toArray, List.set_cons_zero, List.set_cons_succ, i64_w]
      rfl
    refine pure_ (i := 26) (N := some 87) (v := ?_) (a' := ?_) matr8_q27 rfl rfl (pA HT_.out) (fun _ _ _ h => h) (Or.inl ⟨uT, ?_⟩) ?_ ?_
    rotate_left
    · intro w'
      go_simp
      with_reducible rfl
    rotate_left
    · simp only [Act.put, List.setIfInBounds_toArray, List.set_cons_zero, List.set_cons_succ, i64_w]
      rfl
    refine pure_ (i := 27) (N := some 88) (v := ?_) (a' := ?_) matr8_q28 rfl rfl (pA HT_.out) (fun _ _ _ h => h) (Or.inl ⟨uT, ?_⟩) ?_ ?_
    rotate_left
    · intro w'
      go_simp
      with_reducible rfl
    rotate_left
    · simp only [Act.put, List.setIfInBounds_toArray, List.set_cons_zero, List.set_cons_succ, i64_w]
      rfl
    refine pure_ (i := 28) (N := some 89) (v := ?_) (a' := ?_) matr8_q29 rfl rfl (pA HT_.out) (fun _ _ _ h => h) (Or.inl ⟨uT, ?_⟩) ?_ ?_
    rotate_left
    · intro w'
      go_simp
      with_reducible rfl
    rotate_left
    · simp only [Act.put, List.setIfInBounds_toArray, List.set_cons_zero, List.set_cons_succ, i64_w]
      rfl
    refine pure_ (i := 29) (N := some 90) (v := ?_) (a' := ?_) matr8_q30 rfl rfl (pA HT_.out) (fun _ _ _ h => h) (Or.inl ⟨uT, ?_⟩) ?_ ?_
    rotate_left
    · intro w'
      go_simp
      with_reducible rfl
    rotate_left
    · simp only [Act.put, List.setIfInBounds_toArray, List.set_cons_zero, List.set_cons_succ, i64_w]
      rfl
    refine pure_ (i := 31) (N := some 92) (v := ?_) (a' := ?_) matr8_q31 rfl rfl (pA HT_.out) (fun _ _ _ h => h) (Or.inl ⟨uT, ?_⟩) ?_ ?_
    rotate_left
    · intro w'
      go_simp
      with_reducible rfl
    rotate_left
    · simp only [Act.put, List.setIfInBounds_toArray, List.set_cons_zero, List.set_cons_succ, i64_w]
      rfl
    refine one_ (i := 30) (N := some 91) matr8_q32 rfl rfl (pO HT_.out) uQ (fun K hK => ?_)
    refine goes_ Try.func35 uP rfl #[.int .i64 e3] uT rfl rfl um ?_
    with_reducible refine (GBase.ossuarylaw0_Num.calls e3 e3 _ rfl).mono ?_
    rintro e w' ⟨rfl, ⟨nd, rfl⟩⟩
    refine ⟨_, rfl, ?_⟩
    replace HB1 := mk0 (lN HB1.out nd)
    replace SP := mk0 (sN SP.out nd)
    replace C13 := mk0 (Kd.C_below C13.out (lN (Below.refl _ _) nd))
    replace SR := mk0 (sN SR.out nd)
    replace C17 := mk0 (Kd.C_below C17.out (lN (Below.refl _ _) nd))
    replace C19 := mk0 (Kd.C_below C19.out (lN (Below.refl _ _) nd))
    replace C21 := mk0 (Kd.C_below C21.out (lN (Below.refl _ _) nd))
    replace BK11 := mk0 (bN BK11.out nd)
    replace BK13 := mk0 (bN BK13.out nd)
    replace BK15 := mk0 (bN BK15.out nd)
    replace BK17 := mk0 (bN BK17.out nd)
    replace BK19 := mk0 (bN BK19.out nd)
    replace BK21 := mk0 (bN BK21.out nd)
    generalize v5.drewN nd = v6 at HB1 SP C13 SR C17 C19 C21 BK11 BK13 BK15 BK17 BK19 BK21 ⊢
    clear hHeld
    refine hK.out _ _ ⟨(blk_cell BK11.out 0).trans rfl, (blk_cell BK13.out 0).trans rfl, (blk_cell BK15.out 0).trans rfl, (blk_cell BK17.out 0).trans rfl, (blk_cell BK19.out 0).trans rfl, (blk_cell BK21.out 0).trans rfl, (blk_cell (blk_below K9.out HB1.out) 0).trans rfl, (blk_cell (blk_below K4.out HB1.out) 0).trans rfl⟩ (fun hHeld => ?_)
    clear hK K
    refine norm_ (a' := ?_) ?_ ?_
    rotate_left
    · show Act.put _ (some 91) _ = _
      simp only [Act.put, List.setIfInBounds_toArray, List.set_cons_zero, List.set_cons_succ, i64_w]
      rfl
    refine pure_ (i := 32) (N := some 93) (v := ?_) (a' := ?_) matr8_q33 rfl rfl (pA HT_.out) (fun _ _ _ h => h) (Or.inl ⟨uT, ?_⟩) ?_ ?_
    rotate_left
    · intro w'
      go_simp
      with_reducible rfl
    rotate_left
    · simp only [Act.put, List.setIfInBounds_toArray, List.set_cons_zero, List.set_cons_succ, i64_w]
      rfl
    refine pure_ (i := 33) (N := some 94) (v := ?_) (a' := ?_) matr8_q34 rfl rfl (pA HT_.out) (fun _ _ _ h => h) (Or.inl ⟨uT, ?_⟩) ?_ ?_
    rotate_left
    · intro w'
      go_simp
      with_reducible rfl
    rotate_left
    · simp only [Act.put, List.setIfInBounds_toArray, List.set_cons_zero, List.set_cons_succ, i64_w]
      rfl
    refine pure_ (i := 34) (N := some 95) (v := ?_) (a' := ?_) matr8_q35 rfl rfl (pA HT_.out) (fun _ _ _ h => h) (Or.inl ⟨uT, ?_⟩) ?_ ?_
    rotate_left
    · intro w'
      go_simp
      with_reducible rfl
    rotate_left
    · simp only [Act.put, List.setIfInBounds_toArray, List.set_cons_zero, List.set_cons_succ, i64_w]
      rfl
    refine take_ (i := 35) (N := some 96) (v := ?_) (a' := ?_) matr8_q36 rfl rfl (pW HT_.out HW_.out) (fun _ _ _ h => h) (Or.inl ⟨uT, ?_⟩) hHeld ?_ ?_
    rotate_left
    · rintro w' ⟨s0, s1, s2, s3, s4, s5, s6, s7⟩
      go_simp
      with_reducible rfl
    rotate_left
    · simp only [Act.put, List.setIfInBounds_toArray, List.set_cons_zero, List.set_cons_succ, i64_w]
      rfl
    refine take_ (i := 37) (N := some 98) (v := ?_) (a' := ?_) matr8_q37 rfl rfl (pW HT_.out HW_.out) (fun _ _ _ h => h) (Or.inl ⟨uT, ?_⟩) hHeld ?_ ?_
    rotate_left
    · rintro w' ⟨s0, s1, s2, s3, s4, s5, s6, s7⟩
      go_simp
      with_reducible rfl
    rotate_left
    · simp only [Act.put, List.setIfInBounds_toArray, List.set_cons_zero, List.set_cons_succ, i64_w]
      rfl
    refine one_ (i := 36) (N := some 97) matr8_q38 rfl rfl (pO HT_.out) uQ (fun K hK => ?_)
    refine goes_ Try.func36 uP rfl #[.agg #[.slice Ax la.length cx]] uT rfl rfl um ?_
    with_reducible refine (GBase.matrix_May.calls kf Ax cx la m _ (Kd.C_below CX.out HB1.out) HCX.out X9.out).mono ?_
    rintro e v7 ⟨rfl, hb⟩
    refine ⟨_, rfl, ?_⟩
    replace HB1 := mk0 (below_step HB1.out hb)
    replace SP := mk0 (Kd.S_below SP.out hb)
    replace C13 := mk0 (Kd.C_below C13.out hb)
    replace SR := mk0 (Kd.S_below SR.out hb)
    replace C17 := mk0 (Kd.C_below C17.out hb)
    replace C19 := mk0 (Kd.C_below C19.out hb)
    replace C21 := mk0 (Kd.C_below C21.out hb)
    replace BK11 := mk0 (blk_below BK11.out hb)
    replace BK13 := mk0 (blk_below BK13.out hb)
    replace BK15 := mk0 (blk_below BK15.out hb)
    replace BK17 := mk0 (blk_below BK17.out hb)
    replace BK19 := mk0 (blk_below BK19.out hb)
    replace BK21 := mk0 (blk_below BK21.out hb)
    clear hb hHeld
    refine hK.out _ _ ⟨(blk_cell BK11.out 0).trans rfl, (blk_cell BK13.out 0).trans rfl, (blk_cell BK15.out 0).trans rfl, (blk_cell BK17.out 0).trans rfl, (blk_cell BK19.out 0).trans rfl, (blk_cell BK21.out 0).trans rfl, (blk_cell (blk_below K9.out HB1.out) 0).trans rfl, (blk_cell (blk_below K4.out HB1.out) 0).trans rfl⟩ (fun hHeld => ?_)
    clear hK K
    refine norm_ (a' := ?_) ?_ ?_
    rotate_left
    · show Act.put _ (some 97) _ = _
      simp only [Act.put, List.setIfInBounds_toArray, List.set_cons_zero, List.set_cons_succ, i64_w]
      rfl
    refine one_ (i := 38) (N := some 99) matr8_q39 rfl rfl (pO HT_.out) uQ (fun K hK => ?_)
    refine goes_ Try.func37 uP rfl #[.agg #[.slice A la.length ca]] uT rfl rfl um ?_
    with_reducible refine (GRef.ossuaryref1_MatrixMay.calls kf A ca la m _ (Kd.C_below CA.out HB1.out) HCA.out X10.out).mono ?_
    rintro e v8 ⟨rfl, hb⟩
    refine ⟨_, rfl, ?_⟩
    replace HB1 := mk0 (below_step HB1.out hb)
    replace SP := mk0 (Kd.S_below SP.out hb)
    replace C13 := mk0 (Kd.C_below C13.out hb)
    replace SR := mk0 (Kd.S_below SR.out hb)
    replace C17 := mk0 (Kd.C_below C17.out hb)
    replace C19 := mk0 (Kd.C_below C19.out hb)
    replace C21 := mk0 (Kd.C_below C21.out hb)
    replace BK11 := mk0 (blk_below BK11.out hb)
    replace BK13 := mk0 (blk_below BK13.out hb)
    replace BK15 := mk0 (blk_below BK15.out hb)
    replace BK17 := mk0 (blk_below BK17.out hb)
    replace BK19 := mk0 (blk_below BK19.out hb)
    replace BK21 := mk0 (blk_below BK21.out hb)
    clear hb hHeld
    refine hK.out _ _ ⟨(blk_cell BK11.out 0).trans rfl, (blk_cell BK13.out 0).trans rfl, (blk_cell BK15.out 0).trans rfl, (blk_cell BK17.out 0).trans rfl, (blk_cell BK19.out 0).trans rfl, (blk_cell BK21.out 0).trans rfl, (blk_cell (blk_below K9.out HB1.out) 0).trans rfl, (blk_cell (blk_below K4.out HB1.out) 0).trans rfl⟩ (fun hHeld => ?_)
    clear hK K
    refine norm_ (a' := ?_) ?_ ?_
    rotate_left
    · show Act.put _ (some 99) _ = _
      simp only [Act.put, List.setIfInBounds_toArray, List.set_cons_zero, List.set_cons_succ, i64_w]
      rfl
    refine pure_ (i := 39) (N := some 100) (v := ?_) (a' := ?_) matr8_q40 rfl rfl (pA HT_.out) (fun _ _ _ h => h) (Or.inl ⟨uT, ?_⟩) ?_ ?_
    rotate_left
    · intro w'
      go_simp
      with_reducible rfl
    rotate_left
    · simp only [Act.put, List.setIfInBounds_toArray, List.set_cons_zero, List.set_cons_succ, i64_w]
      rfl
    refine pure_ (i := 40) (N := some 101) (v := ?_) (a' := ?_) matr8_q41 rfl rfl (pA HT_.out) (fun _ _ _ h => h) (Or.inl ⟨uT, ?_⟩) ?_ ?_
    rotate_left
    · intro w'
      go_simp
      with_reducible rfl
    rotate_left
    · simp only [Act.put, List.setIfInBounds_toArray, List.set_cons_zero, List.set_cons_succ, i64_w]
      rfl
    refine done_ (done_of HT_.out uP) ?_
    clear HT_ HW_ hHeld C13 C17 C19 C21 BK13 BK17 BK19 BK21 q1_ q2_ q3_ q4_
    have hz11 : v8.cell? ⟨g11, 0, none⟩ = some (.slice Ap p.length cp) := (blk_cell BK11.out 0).trans rfl
    go_wp2_with (first
      | ((with_reducible refine gCa (f := 38) (xs := #[.tmp 102]) rfl ?_); refine goesL_ (some 103) rfl rfl Try.func38 uP rfl #[.agg #[.slice Ap p.length cp]] rfl um ?_; (with_reducible refine (Pr.spoilS2 W1 _ MP.out SP.out ?hbase HB1.out).mono ?_); (case hbase => exact Nat.le_refl _); rintro e v9 ⟨rfl, hb, hkp⟩; refine ⟨_, rfl, ?_⟩; have n0_ := mk0 (Kd.S_kept SR.out hkp (fun _ h1_ h2_ => Nat.lt_irrefl _ (Nat.lt_of_lt_of_le h2_ h1_))); have n1_ := mk0 (blk_kept BK15.out hkp (fun h2_ => Nat.lt_irrefl _ (Nat.lt_of_lt_of_le h2_ G15.out))); clear hz11 SP BK11 HB1 SR BK15; have HB1 := mk0 hb; have SR := n0_; have BK15 := n1_; clear n0_ n1_ hkp hb; have hz15 : v9.cell? ⟨g15, 0, none⟩ = some (.slice Ar r.length cr2) := (blk_cell BK15.out 0).trans rfl)
      | ((with_reducible refine gCa (f := 38) (xs := #[.tmp 104]) rfl ?_); refine goesL_ (some 105) rfl rfl Try.func38 uP rfl #[.agg #[.slice Ar r.length cr2]] rfl um ?_; (with_reducible refine (Pr.spoilS2 W1 _ MR.out SR.out ?hbase HB1.out).mono ?_); (case hbase => exact GB.out); rintro e v10 ⟨rfl, hb, hkp⟩; refine ⟨_, rfl, ?_⟩; clear hz15 SR BK15 HB1; have HB1 := mk0 hb; clear hkp hb; have hz9 : v10.cell? ⟨g9, 0, none⟩ = some (.slice Ax la.length cx) := (blk_cell (blk_below K9.out HB1.out) 0).trans rfl; have hz4 : v10.cell? ⟨g4, 0, none⟩ = some (.slice A la.length ca) := (blk_cell (blk_below K4.out HB1.out) 0).trans rfl; have hz10 : v10.cell? ⟨g10, 0, none⟩ = some (.slice Ay lb.length cy) := (blk_cell (blk_below K10.out HB1.out) 0).trans rfl; have hz5 : v10.cell? ⟨g5, 0, none⟩ = some (.slice B lb.length cb) := (blk_cell (blk_below K5.out HB1.out) 0).trans rfl)
      | ((with_reducible refine gCa (f := 34) (xs := #[.tmp 106, .tmp 107]) rfl ?_); refine goesL_ (some 108) rfl rfl Try.func34 uP rfl #[.agg #[.slice Ax la.length cx], .agg #[.slice A la.length ca]] rfl um ?_; (with_reducible refine (GBase.ossuarylaw0_SameMatrix.calls kf Ax cx la A ca la true _ (Kd.C_below CX.out HB1.out) HCX.out (Kd.C_below CA.out HB1.out) HCA.out Y4.out).mono ?_); rintro e v11 ⟨rfl, hb⟩; refine ⟨_, rfl, ?_⟩; have n0_ := mk0 (below_step HB1.out hb); clear HB1; have HB1 := n0_; clear n0_ hb; clear hz9 hz4 hz10 hz5; have hz10 : v11.cell? ⟨g10, 0, none⟩ = some (.slice Ay lb.length cy) := (blk_cell (blk_below K10.out HB1.out) 0).trans rfl; have hz5 : v11.cell? ⟨g5, 0, none⟩ = some (.slice B lb.length cb) := (blk_cell (blk_below K5.out HB1.out) 0).trans rfl)
      | (go_at_call 34; (with_reducible refine (GBase.ossuarylaw0_SameMatrix.calls kf Ay cy lb B cb lb true _ (Kd.C_below CY.out HB1.out) HCY.out (Kd.C_below CBm.out HB1.out) HCB.out Y5.out).mono ?_); rintro e v12 ⟨rfl, hb⟩; have n0_ := mk0 (below_step HB1.out hb); clear HB1; have HB1 := n0_; clear n0_ hb; clear hz10 hz5)
      | (go_at_call 39; (with_reducible refine (GAwm.ossuarylaw3_awake.calls kf true _ A5.out).mono ?_); rintro e v13 ⟨rfl, hb⟩; have n0_ := mk0 (below_step HB1.out hb); clear HB1; have HB1 := n0_; clear n0_ hb))
    go_ret
    exact ⟨rfl, below_step HBw.out HB1.out⟩
end Go.Proofs.Ytaahnicjjpddjaa.MatR
