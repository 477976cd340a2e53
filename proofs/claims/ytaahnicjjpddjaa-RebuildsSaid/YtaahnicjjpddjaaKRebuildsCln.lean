/- What the printed functions of the field come to, in the field's own words; with enough rounds, for every number of the field. The library's copy of a slice of whole numbers: new memory of the call's own, with the same numbers. The slice takes fewer than 2^44 numbers (as every slice that came in does). -/
import Derived.Test.YtaahnicjjpddjaaKRebuildsGGf1
import Derived.WalkSpells
import Derived.Lib.LazyBuf
section
namespace Go.Proofs.Ytaahnicjjpddjaa.GfsGf
open Go.RowKit Go.Proofs.Ytaahnicjjpddjaa.GGf Go.Proofs.Ytaahnicjjpddjaa.Fld Go.Proofs.YtaahnicjjpddjaaW.PrintWords Go.Proofs.YtaahnicjjpddjaaW.PrintLast Go.Proofs.YtaahnicjjpddjaaW.PrintMore
theorem succ_of {n k : Nat} (h : n < k) : ∃ m, k = m + 1 := ⟨k - 1, uX⟩
theorem gfis_yes {n : Int} (h0 : 0 ≤ n) (h1 : n < 256) : gf_Is.f n = some true := by
  unfold gf_Is.f; rw [if_pos h0, decide_eq_true h1]
theorem gfis_no {n : Int} (h : n < 0 ∨ 256 ≤ n) : gf_Is.f n = some false := by
  unfold gf_Is.f
  by_cases h0 : n ≥ 0
  · rw [if_pos h0, decide_eq_false uX]
  · rw [if_neg h0]
theorem gfis (a : F) : gf_Is.f (toI a) = some true := gfis_yes (toI_lo a) (toI_hi a)
theorem times_l (n : Nat) : ∀ (k : Nat) (a o : F) (b : Nat), b < 2 ^ n → n < k → gf_Times.l0 k (toI a) (b : Int) (toI o) = some (toI (o ^^^ fmN n a b)) := by
  induction n with
  | zero =>
    intro k a o b hb hk
    obtain ⟨k, rfl⟩ := succ_of hk
    have hb0 : b = 0 := by have : (2 : Nat) ^ 0 = 1 := rfl; omega
    subst hb0
    simp only [gf_Times.l0]
    rw [if_neg uX]
    simp [fmN]
  | succ n ih =>
    intro k a o b hb hk
    obtain ⟨k, rfl⟩ := succ_of hk
    have hb2 : b / 2 < 2 ^ n := by have : (2 : Nat) ^ (n + 1) = 2 ^ n * 2 := rfl; omega
    have hd : (b : Int) / 2 = ((b / 2 : Nat) : Int) := by omega
    simp only [gf_Times.l0]
    by_cases h0 : b = 0
    · subst h0
      rw [if_neg uX, fmN_zero_right]
      simp
    · rw [if_pos uX, and_1, dbl_wrap, hd, fmN_succ]
      by_cases h1 : b % 2 = 1
      · rw [if_pos uX]
        have hbit : bitF b a = a := by unfold bitF; rw [if_pos h1]
        rw [hbit, ← BitVec.xor_assoc, xor_i64]
        by_cases h2 : toI a * 2 ≥ 256
        · rw [if_pos h2, dbl_hi a h2]
          exact ih k _ _ _ hb2 uX
        · rw [if_neg h2, dbl_lo a h2]
          exact ih k _ _ _ hb2 uX
      · rw [if_neg uX]
        have hbit : bitF b a = 0#8 := by unfold bitF; rw [if_neg h1]
        rw [hbit, BitVec.zero_xor]
        by_cases h2 : toI a * 2 ≥ 256
        · rw [if_pos h2, dbl_hi a h2]
          exact ih k _ _ _ hb2 uX
        · rw [if_neg h2, dbl_lo a h2]
          exact ih k _ _ _ hb2 uX
theorem times_f {k : Nat} (hk : 8 < k) (a b : F) : gf_Times.f k (toI a) (toI b) = some (toI (fm a b)) := by
  have h := times_l 8 k a 0#8 b.toNat b.isLt hk
  rw [BitVec.zero_xor] at h
  exact h
theorem power_l (n : Nat) : ∀ (k : Nat) (a o : F) (e : Nat), e < 2 ^ n → n + 9 < k → gf_power.l0 k (toI a) (e : Int) (toI o) = some (toI (fm o (fp a e))) := by
  induction n with
  | zero =>
    intro k a o e he hk
    obtain ⟨k, rfl⟩ := succ_of hk
    have he0 : e = 0 := by have : (2 : Nat) ^ 0 = 1 := rfl; omega
    subst he0
    simp only [gf_power.l0]
    rw [if_neg uX, fp, fm_one]
  | succ n ih =>
    intro k a o e he hk
    obtain ⟨k, rfl⟩ := succ_of hk
    have he2 : e / 2 < 2 ^ n := by have : (2 : Nat) ^ (n + 1) = 2 ^ n * 2 := rfl; omega
    have hd : (e : Int) / 2 = ((e / 2 : Nat) : Int) := by omega
    simp only [gf_power.l0]
    by_cases h0 : e = 0
    · subst h0
      rw [if_neg uX, fp, fm_one]
    · rw [if_pos uX, and_1, hd]
      simp only [times_f (show 8 < k by omega), Option.bind_some]
      have e1 : fp (fm a a) (e / 2) = fp a (2 * (e / 2)) := fp_sq _ _
      by_cases h1 : e % 2 = 1
      · rw [if_pos uX, ih k _ _ _ he2 uX, e1, fm_assoc]
        have e2 : fm a (fp a (2 * (e / 2))) = fp a e := by
          rw [fm_comm]; show fp a (2 * (e / 2) + 1) = _; rw [show 2 * (e / 2) + 1 = e from by omega]
        rw [e2]
      · rw [if_neg uX, ih k _ _ _ he2 uX, e1, show 2 * (e / 2) = e from by omega]
theorem power_f {k : Nat} (hk : 19 < k) (a : F) (e : Nat) (he : e < 1024) : gf_power.f k (toI a) (e : Int) = some (toI (fp a e)) := by
  have h := power_l 10 k a 1#8 e he hk
  rw [one_fm] at h
  exact h
theorem ginv_f {k : Nat} (hk : 19 < k) (a : F) (h : a ≠ 0#8) : gf_Inv.f k (toI a) = some (toI (fi a), 0) := by
  unfold gf_Inv.f
  have hp := power_f hk a 254 uX
  have hn : ¬ toI a = 0 := fun e => h ((toI_eq_zero a).1 e)
  simp only [gfis, Option.bind_some, if_true, if_neg hn]
  rw [show ((254 : Nat) : Int) = 254 from rfl] at hp
  rw [hp]; rfl
theorem gpow_f {k : Nat} (hk : 19 < k) (a : F) (e : Nat) (he : e ≤ 1000) : gf_Pow.f k (toI a) (e : Int) = some (toI (fp a e), 0) := by
  unfold gf_Pow.f
  simp only [gfis, Option.bind_some, if_true]
  rw [if_neg uX, if_neg uX, power_f hk a e uX]; rfl
end Go.Proofs.Ytaahnicjjpddjaa.GfsGf
end
section
namespace Go.Proofs.Ytaahnicjjpddjaa.Fn
open Go.RowKit Go.Proofs.YtaahnicjjpddjaaW.PrintWords Go.Proofs.YtaahnicjjpddjaaW.PrintLast Go.Proofs.YtaahnicjjpddjaaW.PrintMore
set_option linter.unusedVariables false
set_option linter.unusedSimpArgs false
theorem cln_info3 : (Try.prog.info? 3).map (fun i => (i.zero, i.size, i.bytes)) = some (some (.int .i64 0), 1, 8) := by kernel_rfl
def cloneInts.f (xs : List Int) : Option (List Int) := if xs.length < 17592186044416 then some xs else none
set_option maxHeartbeats 8000000 in
set_option maxRecDepth 100000 in
theorem cloneInts.calls (A0 : Option Addr) (c0 : Nat) (l0 : List Int) (r : List Int) (w : World) (hr0 : Kd.C (Kd.int .i64) w A0 l0.length l0) (hc0 : l0.length ≤ c0) (h : cloneInts.f l0 = some r) :
    Calls Try.prog 69 #[.slice A0 l0.length c0] w fun e w' => ∃ v0_ : Value, e = .returned (v0_) ∧ Kd.R (Kd.int .i64) 3 w' w.heap.size (fun _ => True) v0_ r ∧ Below w.heap.size w w' := by
  have heq := fun (W : World) (a : Option Addr) (l c : Nat) => Lib.run_eql_slice_nil (P := Try.prog) W 25 3 a l c 0 0 Try.underlying25
  unfold cloneInts.f at h
  by_cases c2 : l0.length < 17592186044416
  · rw [if_pos c2] at h
    obtain rfl := Option.some.inj h
    have LMc2 := Aside0.mk c2
    clear c2
    cases A0 with
    | none =>
      have hl : l0 = [] := by
        cases l0 with
        | nil => rfl
        | cons x xs =>
          obtain ⟨ad, e, _⟩ := hr0.2.2 qa
          cases e
      subst hl
      have hn : (none : Option Addr).isNone = true := rfl
      clear hr0 hc0
      go_enter Try.func69, Try.ntmps69
      go_wp2
      go_ret
      exact ⟨_, rfl, Kd.R_nil _ _ _ _ _, Below.refl _ _⟩
    | some ad =>
      have HR0 := Aside0.mk hr0
      have HC0 := Aside0.mk hc0
      clear hr0 hc0
      have HB := Aside0.mk (Below.refl w.heap.size w)
      have hn : (some ad : Option Addr).isNone = false := rfl
      obtain ⟨y101, hy101⟩ : ∃ y_ : List Int, y_ = (([] : List Int)) := ⟨_, rfl⟩
      have Ny101 := Aside0.mk hy101
      clear hy101
      obtain ⟨y104, hy104⟩ : ∃ y_ : List Int, y_ = (y101 ++ l0) := ⟨_, rfl⟩
      have Ny104 := Aside0.mk hy104
      clear hy104
      go_enter Try.func69, Try.ntmps69
      go_wp2_with (first | ((with_reducible refine gate_dst (N := 5) rfl ?_); refine Kd.R_lit (Kd.int .i64) _ 3 ?hg (N := 5) ?hd (xs := ([] : List Int)) (inner := []) (ok := fun _ => True) (okp := fun _ => True) ?hr ?hp (fun _ hk => hk) trivial (Below.refl _ _) (Nat.le_refl _) qa ?_; (case hd => rfl); (case hg => rfl); (case hr => first | (go_simp; done) | (go_simp; rfl)); (case hp => exact (Reps.none _ _)); intro v102 w3 ho4 hb hg_ hnew_; clear hg_ hnew_; (first | rw [← Ny101.out] at ho4 | (simp only [Int.reduceToNat] at ho4; rw [← Ny101.out] at ho4)); have HO103 := mk0 (Kd.R_lower ho4 (below_size ul)); replace HB := mk0 (below_step ul hb); clear hb ho4) | ((with_reducible refine gBu (b := .append) (xs := #[.tmp 5, .tmp 6]) rfl ?_); at_builtin; refine Kd.R_append_rows (Kd.int .i64) (w0 := w) w.heap.size rfl (.tmp 5) (.tmp 6) 25 3 (.int .i64 0) 8 rfl Try.underlying25 cln_info3 rfl q9 uX v102 y101 l0 _ _ _ (fun _ => True) (fun _ => False) rfl rfl ?aO ?aR (fun _ _ h => h) (fun _ h => h.elim) ?aF ?aB ?aS ?aL ?_; (case aR => repeat (first | exact (Kd.C_below HR0.out HB.out) | (with_reducible refine Kd.C_alloc ?_ _) | (with_reducible refine Kd.C_drewN ?_ _) | (with_reducible refine Kd.C_drew ?_))); (case aB => exact ul); (case aF => exact (fun _ _ => trivial)); (case aO => exact (by (with_reducible repeat (first | apply Kd.R_alloc | apply Kd.R_drewN | apply Kd.R_drew)); exact HO103.out)); (case aS => exact (below_size ul)); (case aL => have := LMc2.out; have e0 : y101.length = 0 := (congrArg List.length Ny101.out); omega); intro v105 w5 ho hb hg hat; rw [← Ny104.out] at ho; replace HB := mk0 (hb); have HO106 := mk0 (ho); clear HO103; clear ho hb hg hat))
      go_ret
      refine ⟨_, rfl, ?_, ul⟩
      have e1 : y104 = l0 := by rw [Ny104.out, Ny101.out]; rfl
      rw [← e1]
      (with_reducible repeat (first | apply Kd.R_alloc | apply Kd.R_drewN | apply Kd.R_drew)); exact HO106.out
  · rw [if_neg c2] at h
    exact absurd h qa
end Go.Proofs.Ytaahnicjjpddjaa.Fn
end
