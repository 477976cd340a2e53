/- What the printed functions of the field come to, in the field's own words; with enough rounds, for every number of the field. The reference's row operations on one row of a pair of matrices: what they come to. Plain; no condition. The reference's exchange of rows: the call's walk, by hand; its row operations over a pair of matrices. No condition. -/
import Derived.Test.YtaahnicjjpddjaaKRebuildMendsGRef10
import Derived.Test.YtaahnicjjpddjaaKRebuildMendsGRef9
section
namespace Go.Proofs.Ytaahnicjjpddjaa.RefGf
open Go.RowKit Go.Proofs.Ytaahnicjjpddjaa.GRef Go.Proofs.Ytaahnicjjpddjaa.Fld Go.Proofs.YtaahnicjjpddjaaW.PrintWords Go.Proofs.YtaahnicjjpddjaaW.PrintLast Go.Proofs.YtaahnicjjpddjaaW.PrintMore
theorem succ_of {n k : Nat} (h : n < k) : ∃ m, k = m + 1 := ⟨k - 1, uV⟩
theorem bn_yes {n : Int} (h0 : 0 ≤ n) (h1 : n < 256) : ossuaryref1_byteNum.f n = some true := by
  unfold ossuaryref1_byteNum.f; rw [if_pos h0, decide_eq_true uV]
theorem bn_no {n : Int} (h : n < 0 ∨ 256 ≤ n) : ossuaryref1_byteNum.f n = some false := by
  unfold ossuaryref1_byteNum.f
  by_cases h0 : n ≥ 0
  · rw [if_pos h0, decide_eq_false uV]
  · rw [if_neg h0]
theorem bn (a : F) : ossuaryref1_byteNum.f (toI a) = some true := bn_yes (toI_lo a) (toI_hi a)
theorem shr_at (b i : Nat) (hi : i < 8) : shr .i64 (b : Int) (i : Int) = ((b / 2 ^ i : Nat) : Int) := by
  unfold shr
  have e : min (i : Int).toNat IntKind.i64.bits = i := by
    have : IntKind.i64.bits = 64 := rfl
    rw [this, Int.toNat_natCast]; omega
  rw [e]
  rw [Int.natCast_ediv, Int.natCast_pow]; rfl
theorem rmul_l (d : Nat) : ∀ (k : Nat) (a o : F) (b i : Nat), b < 256 → i + d = 8 → d < k → ossuaryref1_mul.l0 k (toI a) (b : Int) (toI o) (i : Int) = some (toI (o ^^^ fmN d a (b / 2 ^ i))) := by
  induction d with
  | zero =>
    intro k a o b i hb hi hk
    obtain ⟨k, rfl⟩ := succ_of hk
    simp only [ossuaryref1_mul.l0]
    rw [if_neg uV]
    simp [fmN]
  | succ d ih =>
    intro k a o b i hb hi hk
    obtain ⟨k, rfl⟩ := succ_of hk
    have hw : wrap64 ((i : Int) + 1) = ((i + 1 : Nat) : Int) := wrap64_in uV uV
    have hd : b / 2 ^ (i + 1) = b / 2 ^ i / 2 := by rw [Nat.pow_succ, Nat.div_div_eq_div_mul]
    simp only [ossuaryref1_mul.l0]
    rw [if_pos uV, if_pos uV, shr_at b i uV, and_1, dbl_wrap, hw, fmN_succ, ← hd]
    by_cases h1 : b / 2 ^ i % 2 = 1
    · rw [if_pos uV]
      have hbit : bitF (b / 2 ^ i) a = a := by unfold bitF; rw [if_pos h1]
      rw [hbit, ← BitVec.xor_assoc, xor_i64]
      by_cases h2 : toI a * 2 ≥ 256
      · rw [if_pos uV, dbl_hi a h2]
        exact ih k _ _ _ _ hb uV uV
      · rw [if_neg uV, dbl_lo a h2]
        exact ih k _ _ _ _ hb uV uV
    · rw [if_neg uV]
      have hbit : bitF (b / 2 ^ i) a = 0#8 := by unfold bitF; rw [if_neg h1]
      rw [hbit, BitVec.zero_xor]
      by_cases h2 : toI a * 2 ≥ 256
      · rw [if_pos uV, dbl_hi a h2]
        exact ih k _ _ _ _ hb uV uV
      · rw [if_neg uV, dbl_lo a h2]
        exact ih k _ _ _ _ hb uV uV
theorem rmul_f {k : Nat} (hk : 8 < k) (a b : F) : ossuaryref1_mul.f k (toI a) (toI b) = some (toI (fm a b)) := by
  have h := rmul_l 8 k a 0#8 b.toNat 0 b.isLt rfl hk
  rw [BitVec.zero_xor, Nat.pow_zero, Nat.div_one] at h
  exact h
theorem rinv_l (a : F) (ha : a ≠ 0#8) (d : Nat) : ∀ (k : Nat) (x : Int), 0 ≤ x → x + d = toI (fi a) → d + 9 < k → ossuaryref1_inv.l0 k (toI a) x = some (toI (fi a)) := by
  induction d with
  | zero =>
    intro k x h0 hx hk
    obtain ⟨k, rfl⟩ := succ_of hk
    have hx' : x = toI (fi a) := by omega
    subst hx'
    have hh := toI_hi (fi a)
    simp only [ossuaryref1_inv.l0]
    rw [if_pos hh, rmul_f uV, fm_fi a ha]
    rfl
  | succ d ih =>
    intro k x h0 hx hk
    obtain ⟨k, rfl⟩ := succ_of hk
    have hh := toI_hi (fi a)
    obtain ⟨y, rfl⟩ := ex_toI h0 uV
    have hne : ¬ toI (fm a y) = 1 := by
      intro e
      have := fi_unique a y (toI_inj e)
      rw [this] at hx; omega
    simp only [ossuaryref1_inv.l0]
    rw [if_pos uV, rmul_f uV]
    simp only [Option.bind_some]
    rw [if_neg hne, wrap64_in uV uV]
    exact ih k _ uV uV uV
theorem fi_ne (a : F) (ha : a ≠ 0#8) : fi a ≠ 0#8 := by
  intro e
  have h := fm_fi a ha
  rw [e, fm_zero] at h
  exact absurd h uZ
theorem rinv_f {k : Nat} (hk : 270 < k) (a : F) (ha : a ≠ 0#8) : ossuaryref1_inv.f k (toI a) = some (toI (fi a)) := by
  have h0 := toI_lo (fi a)
  have h1 := toI_hi (fi a)
  have h2 : toI (fi a) ≠ 0 := fun e => fi_ne a ha ((toI_eq_zero _).1 e)
  exact rinv_l a ha (toI (fi a) - 1).toNat k 1 uV uV uV
theorem rpow_l (d : Nat) : ∀ (k : Nat) (a : F) (i : Nat), i + d ≤ 1000 → d + 9 < k → ossuaryref1_Pow.l0 k (toI a) ((i + d : Nat) : Int) (toI (fp a i)) (i : Int) = some (toI (fp a (i + d)), 0) := by
  induction d with
  | zero =>
    intro k a i hi hk
    obtain ⟨k, rfl⟩ := succ_of hk
    simp only [ossuaryref1_Pow.l0]
    rw [if_neg uV]; rfl
  | succ d ih =>
    intro k a i hi hk
    obtain ⟨k, rfl⟩ := succ_of hk
    have hw : wrap64 ((i : Int) + 1) = ((i + 1 : Nat) : Int) := wrap64_in uV uV
    simp only [ossuaryref1_Pow.l0]
    rw [if_pos uV, rmul_f uV]
    simp only [Option.bind_some]
    have h := ih k a (i + 1) uV uV
    rw [show i + 1 + d = i + (d + 1) from by omega] at h
    rw [hw]
    exact h
theorem rPow_f {k : Nat} (hk : 1020 < k) (a : F) (e : Nat) (he : e ≤ 1000) : ossuaryref1_Pow.f k (toI a) (e : Int) = some (toI (fp a e), 0) := by
  unfold ossuaryref1_Pow.f
  rw [bn]
  simp only [Option.bind_some, if_true]
  rw [if_neg uV, decide_eq_false uV]
  obtain ⟨k, rfl⟩ := succ_of hk
  simp only [ossuaryref1_Pow.j0]
  rw [if_neg uZ]
  have h := rpow_l e k a 0 uV uV
  rw [Nat.zero_add] at h
  exact h
end Go.Proofs.Ytaahnicjjpddjaa.RefGf
end
section
namespace Go.Proofs.Ytaahnicjjpddjaa.Pr
open Go.RowKit Go.Proofs.YtaahnicjjpddjaaW.PrintWords Go.Proofs.YtaahnicjjpddjaaW.PrintLast Go.Proofs.YtaahnicjjpddjaaW.PrintMore Go.Proofs.Ytaahnicjjpddjaa.Fld Go.Proofs.Ytaahnicjjpddjaa.Mat Go.Proofs.Ytaahnicjjpddjaa.GRef
theorem rowOf_set (g : Nat → Int) (n i : Nat) (x : Int) : (rowOf g n).set i x = rowOf (fun j => if j = i then x else g j) n := by
  apply List.ext_getElem
  · rw [List.length_set, rowOf_length, rowOf_length]
  · intro j h1 h2
    rw [List.getElem_set, rowOf_get, rowOf_get]
    by_cases e : i = j
    · rw [if_pos e, if_pos e.symm]
    · rw [if_neg e, if_neg (fun h => e h.symm)]
theorem rowOf_congr {g h : Nat → Int} {n : Nat} (e : ∀ j, j < n → g j = h j) : rowOf g n = rowOf h n := by
  apply List.ext_getElem
  · rw [rowOf_length, rowOf_length]
  · intro j h1 h2
    rw [rowOf_get, rowOf_get]
    exact e j (by rw [rowOf_length] at h1; exact h1)
theorem rd_rowOf (g : Nat → Int) (n i : Nat) (h : i < n) : rd (rowOf g n) (i : Int) = g i := by
  show (rowOf g n).getD (i : Int).toNat 0 = g i
  rw [Int.toNat_natCast, getD_get _ _ _ (by rw [rowOf_length]; exact h), rowOf_get]
theorem rtimes_l (r : Nat → F) (y : F) (n : Nat) (hn : n ≤ 12) (d : Nat) : ∀ (k i : Nat), i + d = n → d + 9 < k →
    ossuaryref1_times.l0 k (rowOf (fun j => toI (if j < i then fm (r j) y else r j)) n) (toI y) (i : Int) = some (rowOf (fun j => toI (fm (r j) y)) n) := by
  induction d with
  | zero =>
    intro k i hi hk
    obtain ⟨k, rfl⟩ : ∃ m, k = m + 1 := ⟨k - 1, uV⟩
    simp only [ossuaryref1_times.l0]
    rw [rowOf_length, if_neg uV]
    exact congrArg some (rowOf_congr (fun j hj => by simp only [if_pos (show j < i by omega)]))
  | succ d ih =>
    intro k i hi hk
    obtain ⟨k, rfl⟩ : ∃ m, k = m + 1 := ⟨k - 1, uV⟩
    simp only [ossuaryref1_times.l0]
    rw [rowOf_length, if_pos uV, if_pos uV, rd_rowOf _ _ _ uV]
    simp only [if_neg (Nat.lt_irrefl i)]
    rw [RefGf.rmul_f uV, Option.bind_some, Int.toNat_natCast, rowOf_set, succ_wrap i uV]
    rw [← ih k (i + 1) uV uV]
    refine congrArg (fun l => ossuaryref1_times.l0 k l (toI y) ((i + 1 : Nat) : Int)) (rowOf_congr (fun j _ => ?_))
    by_cases e : j = i
    · simp only [if_pos e, if_pos (show j < i + 1 by omega)]; rw [e]
    · by_cases e2 : j < i
      · simp only [if_neg e, if_pos e2, if_pos (show j < i + 1 by omega)]
      · simp only [if_neg e, if_neg e2, if_neg (show ¬ j < i + 1 by omega)]
theorem rtimes_f {k : Nat} (hk : 30 < k) (r : Nat → F) (y : F) (n : Nat) (hn : n ≤ 12) : ossuaryref1_times.f k (rowOf (fun j => toI (r j)) n) (toI y) = some (rowOf (fun j => toI (fm (r j) y)) n) := by
  have h := rtimes_l r y n hn n k 0 uV uV
  simp only [Nat.not_lt_zero, if_false] at h
  exact h
theorem rless_l (r s : Nat → F) (y : F) (n : Nat) (hn : n ≤ 12) (d : Nat) : ∀ (k i : Nat), i + d = n → d + 9 < k →
    ossuaryref1_less.l0 k (rowOf (fun j => toI (if j < i then r j ^^^ fm (s j) y else r j)) n) (rowOf (fun j => toI (s j)) n) (toI y) (i : Int) = some (rowOf (fun j => toI (r j ^^^ fm (s j) y)) n) := by
  induction d with
  | zero =>
    intro k i hi hk
    obtain ⟨k, rfl⟩ : ∃ m, k = m + 1 := ⟨k - 1, uV⟩
    simp only [ossuaryref1_less.l0]
    rw [rowOf_length, if_neg uV]
    exact congrArg some (rowOf_congr (fun j hj => by simp only [if_pos (show j < i by omega)]))
  | succ d ih =>
    intro k i hi hk
    obtain ⟨k, rfl⟩ : ∃ m, k = m + 1 := ⟨k - 1, uV⟩
    simp only [ossuaryref1_less.l0]
    rw [rowOf_length, rowOf_length, if_pos uV, if_pos uV, if_pos uV, rd_rowOf _ _ _ uV, rd_rowOf _ _ _ uV]
    simp only [if_neg (Nat.lt_irrefl i)]
    rw [RefGf.rmul_f uV, Option.bind_some, xor_i64, Int.toNat_natCast, rowOf_set, succ_wrap i uV]
    rw [← ih k (i + 1) uV uV]
    refine congrArg (fun l => ossuaryref1_less.l0 k l (rowOf (fun j => toI (s j)) n) (toI y) ((i + 1 : Nat) : Int)) (rowOf_congr (fun j _ => ?_))
    by_cases e : j = i
    · simp only [if_pos e, if_pos (show j < i + 1 by omega)]; rw [e]
    · by_cases e2 : j < i
      · simp only [if_neg e, if_pos e2, if_pos (show j < i + 1 by omega)]
      · simp only [if_neg e, if_neg e2, if_neg (show ¬ j < i + 1 by omega)]
theorem rless_f {k : Nat} (hk : 30 < k) (r s : Nat → F) (y : F) (n : Nat) (hn : n ≤ 12) : ossuaryref1_less.f k (rowOf (fun j => toI (r j)) n) (rowOf (fun j => toI (s j)) n) (toI y) = some (rowOf (fun j => toI (r j ^^^ fm (s j) y)) n) := by
  have h := rless_l r s y n hn n k 0 uV uV
  simp only [Nat.not_lt_zero, if_false] at h
  exact h
theorem hdr_inj {n : Nat} {h h' : Nat × Nat} (e : hdr n h = hdr n h') : h = h' := by
  unfold hdr at e
  injection e with e1 _ e3
  injection e1 with e1
  injection e1 with e1
  exact Prod.ext e1 e3
section
variable {w w' : World} {n : Nat} {gs Cs : Nat → Nat} {hs : Nat → Nat → Nat × Nat} {v : Nat → Nat → Nat → F}
/-- row a of matrix t, as r. -/
def setRow (v : Nat → Nat → Nat → F) (t a : Nat) (r : Nat → F) : Nat → Nat → Nat → F := fun t' i j => if t' = t ∧ i = a then r j else v t' i j
theorem Two.row_kept (H : Two w n gs Cs hs v) {t a base : Nat} {ok : Nat → Prop} {r : Nat → F} (ht : t < 2) (ha : a < n) (hk : Kept w w' (fun k => k = (hs t a).1)) (hR : Kd.R (Kd.int .i64) 3 w' base ok (hdr n (hs t a)) (rowOf (fun j => toI (r j)) n)) :
    Two w' n gs Cs hs (setRow v t a r) := by
  refine ⟨fun t' ht' => (H.out t' ht').of_eq (fun _ ho => blk_kept ho hk (out_ne_row (H.out t' ht') (H.row t a ht ha))), fun t' i ht' hi => ?_, H.apart, H.gapart⟩
  by_cases e : t' = t ∧ i = a
  · obtain ⟨rfl, rfl⟩ := e
    obtain ⟨hd, e1, e2, _⟩ := row_of_R uV hR
    rw [← hdr_inj e1] at e2
    exact e2.congr (fun j _ => by unfold setRow; rw [if_pos ⟨rfl, rfl⟩])
  · refine ((H.row t' i ht' hi).of_eq (fun _ ho => blk_kept ho hk (fun e' => e (H.apart t' i t a ht' hi ht ha e')))).congr (fun j _ => ?_)
    unfold setRow
    rw [if_neg e]
theorem Keep24.kept {t a : Nat} (hk : Kept w w' (fun k => k = (hs t a).1)) (hr : ∃ cur, w.heap[(hs t a).1]? = some (.cells cur 3 (0, 0))) : Keep24 w w' := by
  refine ⟨hk.1, fun k cs e => blk_kept e hk (fun e' => ?_)⟩
  obtain ⟨cur, hr⟩ := hr
  rw [e', hr] at e
  exact absurd (Obj.cells.inj (Option.some.inj e)).2.1 uZ
theorem RowAt.toC {h : Nat × Nat} {r : Nat → F} (H : RowAt w h n r) : Kd.C (Kd.int .i64) w (some ⟨h.1, 0, none⟩) n (rowOf (fun j => toI (r j)) n) := by
  have h1 := R_of_row (base := 0) (ok := fun _ => True) H (Nat.zero_le _) trivial
  have h3 := (Kd.R_reads' h1).2.2
  rw [rowOf_length] at h3
  exact h3
end
end Go.Proofs.Ytaahnicjjpddjaa.Pr
end
section
namespace Go.Proofs.Ytaahnicjjpddjaa.Pr
open Go.RowKit Go.Proofs.YtaahnicjjpddjaaW.PrintWords Go.Proofs.YtaahnicjjpddjaaW.PrintLast Go.Proofs.YtaahnicjjpddjaaW.PrintMore Go.Proofs.Ytaahnicjjpddjaa.Fld Go.Proofs.Ytaahnicjjpddjaa.Mat Go.Proofs.Ytaahnicjjpddjaa.GRef
def SwapEnd (W0 : World) (n : Nat) (gs Cs : Nat → Nat) (hs : Nat → Nat → Nat × Nat) (v : Nat → Nat → Nat → F) (w : World) (e : Ending) (w' : World) : Prop :=
  e = .returned (.tuple #[]) ∧ Two w' n gs Cs hs v ∧ Below W0.heap.size W0 w' ∧ Keep24 w w'
set_option maxHeartbeats 2000000 in
set_option maxRecDepth 100000 in
theorem swap_calls (W0 : World) (n : Nat) (gs Cs : Nat → Nat) (hs : Nat → Nat → Nat × Nat) (v : Nat → Nat → Nat → F) (t a i : Nat) (w : World)
    (ht : t < 2) (ha : a < n) (hi : i < n) (hT : Two w n gs Cs hs v) (hB : Below W0.heap.size W0 w) (hnew : W0.heap.size ≤ gs t) :
    Calls Try.prog 82 #[.agg #[.slice (some ⟨gs t, 0, none⟩) n (Cs t)], .int .i64 a, .int .i64 i] w (SwapEnd W0 n gs Cs (swap1 hs t a i) (swap1 v t a i) w) := by
  have hu24 := Try.underlying24
  have HT := Aside0.mk hT
  have HB := Aside0.mk hB
  have HK := Aside0.mk (Keep24.refl w)
  have GEO := Aside0.mk hnew
  have HW := Aside0.mk hB.size
  clear hT hB hnew
  have q1 : decide ((a : Int) < (n : Int)) = true := decide_eq_true uV
  have q2 : decide ((i : Int) < (n : Int)) = true := decide_eq_true uV
  go_enter Try.func82, Try.ntmps82
  go_wp2_with (first
    | ((with_reducible refine gate_dst (N := 3) rfl ?_); refine box_event uW (N := 3) uW (cs := #[.slice (some ⟨gs t, 0, none⟩) n (Cs t)]) (t := 24) uL ?_; intro gx hg w1 hbox hb;
       have n0_ := Aside0.mk (below_step HB.out hb); have n1_ := Aside0.mk hbox; have n2_ := Aside0.mk (show w.heap.size ≤ gx by rw [hg]; exact Nat.le_refl _); have n3_ := Aside0.mk (HT.out.below hb); have n4_ := Aside0.mk (HK.out.below hb);
       have n5_ := Aside0.mk (show (∀ t, t < 2 → gs t ≠ gx) from fun t' ht' => by have := HT.out.lt_out ht'; omega);
       clear HB HT HK; have HB := n0_; have BKX := n1_; have GEX := n2_; have HT := n3_; have HK := n4_; have NX := n5_; clear n0_ n1_ n2_ n3_ n4_ n5_ hb hbox hg;
       have xb : w1.cell? ⟨gx, 0, none⟩ = some (.slice (some ⟨gs t, 0, none⟩) n (Cs t)) := (blk_cell BKX.out 0).trans rfl;
       have hne1 := NX.out t ht; have hne2 := (NX.out t ht).symm;
       have y1 : w1.cell? ⟨gs t, a, none⟩ = some (.slice (some ⟨(hs t a).1, 0, none⟩) n (hs t a).2) := (HT.out.out t ht).cell ha;
       have y2 : w1.cell? ⟨gs t, i, none⟩ = some (.slice (some ⟨(hs t i).1, 0, none⟩) n (hs t i).2) := (HT.out.out t ht).cell hi;
       have y3 : w1.frozen? ⟨gs t, a, none⟩ = false := (HT.out.out t ht).frozen a;
       have y4 : w1.frozen? ⟨gs t, i, none⟩ = false := (HT.out.out t ht).frozen i;
       have HO1 := (HT.out.out t ht).put a (hs t i);
       have z1 : (w1.setCell ⟨gs t, a, none⟩ (.slice (some ⟨(hs t i).1, 0, none⟩) n (hs t i).2)).cell? ⟨gs t, i, none⟩ = some (.slice (some ⟨(hs t i).1, 0, none⟩) n (hs t i).2) := (by refine (HO1.cell hi).trans ?_; simp only [ite_self]; rfl);
       have z2 : (w1.setCell ⟨gs t, a, none⟩ (.slice (some ⟨(hs t i).1, 0, none⟩) n (hs t i).2)).frozen? ⟨gs t, i, none⟩ = false := HO1.frozen i;
       clear HO1))
  go_region
  all_goals (go_wp2; go_end0)
  all_goals (exact ⟨rfl, by (with_reducible repeat (first | refine Two.drewN ?_ _ | refine Two.drew ?_)); exact HT.out.swap ht ha hi, by repeat (first | (with_reducible first | exact HB.out | apply below_alloc | apply pw_below_drewN | apply below_drew1 | refine below_set ?_ GEO.out) | exact HB.out), by (with_reducible repeat (first | refine Keep24.drewN ?_ _ | refine Keep24.drew ?_)); refine Keep24.out2 ?_ (HT.out.out t ht).blk; exact HK.out⟩)
end Go.Proofs.Ytaahnicjjpddjaa.Pr
end
