/- The law of encoding at any shape and data: the call's walk, by hand. Words of the code: what is decoded and rebuilt of some of their rows is the word again. No condition. Encoding at any shape and data is the document's: what the call of the law comes to. Of the data: they take no more than memory has. The law's call comes to true at every shape and data that memory holds: no further condition. -/
import Derived.Test.YtaahnicjjpddjaaKEncodesSpoilT
import Derived.Test.YtaahnicjjpddjaaKEncodesAwE
import Derived.Test.YtaahnicjjpddjaaKEncodesEncLaw
import Derived.Test.YtaahnicjjpddjaaKEncodesGEnc0
section
namespace Go.Proofs.Ytaahnicjjpddjaa.Pr
open Go.RowKit Go.Proofs.YtaahnicjjpddjaaW.PrintWords Go.Proofs.YtaahnicjjpddjaaW.PrintLast Go.Proofs.YtaahnicjjpddjaaW.PrintMore Go.Proofs.Ytaahnicjjpddjaa.Fld Go.Proofs.Ytaahnicjjpddjaa.Mat Go.Proofs.Ytaahnicjjpddjaa.Fn
set_option linter.unusedVariables false
set_option linter.unusedSimpArgs false
set_option maxHeartbeats 3000000 in
set_option maxRecDepth 100000 in
theorem encodes_walk (k : Nat) (d p : Int) (A : Option Addr) (c : Nat) (l : List ByteArray) (r1 : List ByteArray) (r2 : Int) (w : World) (hr : Kd.C Kd.string w A l.length l) (hc : l.length ≤ c) (hl : (0 + l.length) * 16 ≤ 140737488355328)
    (h1 : GEnc.encode_Encode.f k d p l = some (r1, r2)) (h2 : GRenc.ossuaryref1_Encode.f k d p l = some (r1, r2)) (h3 : GVec.ossuarylaw0_SameTexts.f k r1 r1 = some true) (h4 : GVec.ossuarylaw0_SameTexts.f k l l = some true) (h5 : AwE.AwE k) (hz : ∀ x ∈ r1, x.size ≤ 5000) :
    Calls Try.prog 16 #[.agg #[.int .i64 d, .int .i64 p], .slice A l.length c] w fun e w' => e = .returned (.bool true) ∧ Below w.heap.size w w' := by
  have hu51 := Try.underlying51
  have einfo9 : (Try.prog.info? 9).map (fun i => (i.zero, i.size, i.bytes)) = some (some (.string ⟨#[]⟩), 1, 16) := by kernel_rfl
  have HR := mk0 hr
  have HC := mk0 hc
  have LN := mk0 hl
  have A1 := mk0 h1
  have A2 := mk0 h2
  have A3 := mk0 h3
  have A4 := mk0 h4
  have A5 := mk0 h5
  have HZ := mk0 hz
  have HB := mk0 (Below.refl w.heap.size w)
  have q1 : (r2 != r2) = false := bne_self_eq_false r2
  clear hr hc hl h1 h2 h3 h4 h5 hz
  go_enter Try.func16, Try.ntmps16
  go_wp2_with (first
    | ((with_reducible refine gate_dst (N := 2) rfl ?_); refine box_event ?hg (N := 2) ?hd (cs := #[.int .i64 d, .int .i64 p]) (t := 51) ?hr ?_; (case hd => rfl); (case hg => rfl); (case hr => first | (go_simp; done) | (go_simp; rfl)); intro g1 hg w1 hbox hb; have BK1 := mk0 hbox; have n0_ := mk0 (below_step HB.out hb); clear HB; have HB := n0_; clear n0_; clear hb hbox hg)
    | ((with_reducible refine gate_dst (N := 10) rfl ?_); refine Kd.R_lit Kd.string _ 9 ?hg (N := 10) ?hd (xs := ([] : List ByteArray)) (inner := []) (ok := fun _ => True) (okp := fun _ => True) ?hr ?hp (fun _ hk => hk) trivial (Below.refl _ _) (Nat.le_refl _) (by simp) ?_; (case hd => rfl); (case hg => rfl); (case hr => first | (go_simp; done) | (go_simp; rfl)); (case hp => exact Reps.none _ _); intro v5 w2 ho hb hg_ hnew_; clear hg_ hnew_; have SL := mk0 (Kd.R_lower ho (below_size HB.out)); have n0_ := mk0 (below_step HB.out hb); have n1_ := mk0 (blk_below BK1.out hb); clear HB BK1; have HB := n0_; have BK1 := n1_; clear n0_ n1_; clear ho hb)
    | ((with_reducible refine gBu (b := .append) (xs := #[.tmp 10, .tmp 11]) rfl ?_); at_builtin; refine Kd.R_append_rows Kd.string (w0 := w) w.heap.size rfl (.tmp 10) (.tmp 11) 58 9 (.string ⟨#[]⟩) 16 rfl Try.underlying58 einfo9 rfl (by decide) (by omega) v5 [] l _ _ _ (fun _ => True) (fun _ => False) rfl rfl SL.out (Kd.C_below HR.out HB.out) (fun x cs h => h) (fun _ h => h.elim) (fun _ _ => trivial) HB.out (below_size HB.out) LN.out ?_; intro v6 w3 ho hb hg hat; rw [List.nil_append] at ho; obtain ⟨Ax, cx, rfl⟩ := Kd.R_slice ho; have SX := mk0 ho; have n0_ := mk0 (blk_grown BK1.out hg (Kd.R_ne SL.out BK1.out (by decide))); have n1_ := mk0 hb; clear HB BK1 SL ho hb hg hat; have BK1 := n0_; have HB := n1_; clear n0_ n1_; have hz0 : w3.cell? ⟨g1, 0, none⟩ = some (.int .i64 d) := (blk_cell BK1.out 0).trans rfl; have hz1 : w3.cell? ⟨g1, 1, none⟩ = some (.int .i64 p) := (blk_cell BK1.out 1).trans rfl; (try clear n_))
    | ((with_reducible refine gCa (f := 48) rfl ?_); refine goesL_ (some 16) rfl rfl Try.func48 (by kernel_rfl) rfl #[.agg #[.int .i64 d, .int .i64 p], .slice Ax l.length cx] rfl (by (try simp only [List.map_toArray, List.map_cons, List.map_nil]); first | done | rfl) ?_; (with_reducible refine (GEnc.encode_Encode.calls k d p _ _ l r1 r2 _ (Kd.R_reads' SX.out).2.2 (Kd.R_reads' SX.out).2.1 A1.out).mono ?_); rintro e w4 ⟨va, rfl, hS, hb⟩; refine ⟨_, rfl, ?_⟩; obtain ⟨Aa, ca, rfl⟩ := Kd.R_slice hS; have SA := mk0 hS; have HD := mk0 hb; clear hS hz0 hz1; have n0_ := mk0 (blk_below BK1.out hb); clear BK1; have BK1 := n0_; clear n0_; have hz0 : w4.cell? ⟨g1, 0, none⟩ = some (.int .i64 d) := (blk_cell BK1.out 0).trans rfl; have hz1 : w4.cell? ⟨g1, 1, none⟩ = some (.int .i64 p) := (blk_cell BK1.out 1).trans rfl; clear hb)
    | ((with_reducible refine gCa (f := 49) rfl ?_); refine goesL_ (some 22) rfl rfl Try.func49 (by kernel_rfl) rfl #[.agg #[.int .i64 d, .int .i64 p], .slice A l.length c] rfl (by (try simp only [List.map_toArray, List.map_cons, List.map_nil]); first | done | rfl) ?_; (with_reducible refine (GRenc.ossuaryref1_Encode.calls k d p _ _ l r1 r2 _ (Kd.C_below HR.out (below_step HB.out HD.out)) HC.out A2.out).mono ?_); rintro e w5 ⟨vb, rfl, hS, hb⟩; refine ⟨_, rfl, ?_⟩; obtain ⟨Ab, cb, rfl⟩ := Kd.R_slice hS; have SB := mk0 hS; clear hS hz0 hz1 BK1; have n0_ := mk0 (below_step HD.out hb); have n1_ := mk0 (Kd.R_below SA.out hb); clear HD SA; have HD := n0_; have SA := n1_; clear n0_ n1_; clear hb)
    | ((with_reducible refine gCa (f := 50) (xs := #[.tmp 25, .tmp 26]) rfl ?_); refine goesL_ (some 27) rfl rfl Try.func50 (by kernel_rfl) rfl #[.slice Aa r1.length ca, .slice Ab r1.length cb] rfl (by (try simp only [List.map_toArray, List.map_cons, List.map_nil]); first | done | rfl) ?_; (with_reducible refine (GVec.ossuarylaw0_SameTexts.calls k _ _ r1 _ _ r1 true _ (Kd.R_reads' SA.out).2.2 (Kd.R_reads' SA.out).2.1 (Kd.R_reads' SB.out).2.2 (Kd.R_reads' SB.out).2.1 A3.out).mono ?_); rintro e w6 ⟨rfl, ⟨nd, rfl⟩⟩; refine ⟨_, rfl, ?_⟩; clear SB)
    | (go_at_call 35; (with_reducible refine (GBase.ossuarylaw0_Num.calls r2 r2 _ rfl).mono ?_); rintro e w7 ⟨rfl, ⟨nd2, rfl⟩⟩)
    | ((with_reducible refine gCa (f := 51) rfl ?_); refine goesL_ (some 36) rfl rfl Try.func51 (by kernel_rfl) rfl #[.slice Aa r1.length ca] rfl (by (try simp only [List.map_toArray, List.map_cons, List.map_nil]); first | done | rfl) ?_; (with_reducible refine (spoilT w3 _ (rN SA.out _) (Nat.le_refl _) (lN HD.out _) HZ.out).mono ?_); rintro e w8 ⟨rfl, hb⟩; refine ⟨_, rfl, ?_⟩; clear HD SA; have HD := mk0 hb; clear hb)
    | ((with_reducible refine gCa (f := 50) (xs := #[.tmp 37, .tmp 38]) rfl ?_); refine goesL_ (some 39) rfl rfl Try.func50 (by kernel_rfl) rfl #[.slice Ax l.length cx, .slice A l.length c] rfl (by (try simp only [List.map_toArray, List.map_cons, List.map_nil]); first | done | rfl) ?_; (with_reducible refine (GVec.ossuarylaw0_SameTexts.calls k _ _ l _ _ l true _ (Kd.C_below (Kd.R_reads' SX.out).2.2 HD.out) (Kd.R_reads' SX.out).2.1 (Kd.C_below HR.out (below_step HB.out HD.out)) HC.out A4.out).mono ?_); rintro e w9 ⟨rfl, ⟨nd3, rfl⟩⟩; refine ⟨_, rfl, ?_⟩; have n0_ := mk0 (lN HD.out nd3); clear HD; have HD := n0_; clear n0_)
    | (go_at_call 52; (with_reducible refine (AwE.calls k _ A5.out).mono ?_); rintro e w10 ⟨rfl, hb⟩; have n0_ := mk0 (below_step HD.out hb); clear HD; have HD := n0_; clear n0_; clear hb))
  go_ret
  exact ⟨rfl, below_step HB.out HD.out⟩
end Go.Proofs.Ytaahnicjjpddjaa.Pr
end
section
namespace Go.Proofs.Ytaahnicjjpddjaa.Enc
open Go.RowKit Go.Proofs.YtaahnicjjpddjaaW.PrintWords Go.Proofs.YtaahnicjjpddjaaW.PrintLast Go.Proofs.YtaahnicjjpddjaaW.PrintMore Go.Proofs.Ytaahnicjjpddjaa.Fld Go.Proofs.Ytaahnicjjpddjaa.Mat Go.Proofs.Ytaahnicjjpddjaa.Fn Go.Proofs.Ytaahnicjjpddjaa.Pr Go.Proofs.Ytaahnicjjpddjaa.GEnc
open Go.Proofs.Ytaahnicjjpddjaa.GvcVec (combine alikeB alikeB_mk alikeB_size row0 row0_mem vcomb alike_f bF accF combine_yes ba_bytes sumF_size sumF_byte rdOf_nat)

/-- a word of the code. -/
noncomputable def word (d p : Nat) (data : List ByteArray) : List ByteArray := data ++ par d p data
theorem same_l (xs : List ByteArray) (hb : xs.length < 9223372036854775807) (d : Nat) : ∀ (k i : Nat), i + d = xs.length → d < k → GVec.ossuarylaw0_SameTexts.l0 k xs xs (i : Int) = some true := by
  induction d with
  | zero =>
    intro k i hi hk
    obtain ⟨k, rfl⟩ : ∃ m, k = m + 1 := ⟨k - 1, by omega⟩
    simp only [GVec.ossuarylaw0_SameTexts.l0]
    rw [if_neg (by omega)]
  | succ d ih =>
    intro k i hi hk
    obtain ⟨k, rfl⟩ : ∃ m, k = m + 1 := ⟨k - 1, by omega⟩
    simp only [GVec.ossuarylaw0_SameTexts.l0]
    rw [if_pos (by omega), if_pos (by omega), if_pos (by omega), if_pos trivial, show wrap64 ((i : Int) + 1) = ((i + 1 : Nat) : Int) from wrap64_in (by omega) (by omega), ih k (i + 1) (by omega) (by omega)]
theorem same_self {k : Nat} (xs : List ByteArray) (hb : xs.length < 9223372036854775807) (hk : xs.length < k) : GVec.ossuarylaw0_SameTexts.f k xs xs = some true := by
  unfold GVec.ossuarylaw0_SameTexts.f
  rw [if_pos rfl]
  exact same_l xs hb xs.length k 0 (by omega) (by omega)
theorem par21 : par 2 1 [⟨#[97]⟩, ⟨#[98]⟩] = [⟨#[103]⟩] := by
  have e : rowOf (fun j => toI (code 2 2 j)) 2 = [3, 2] := by
    have h := fmat_get (code 2) 3 2 2 (by rw [fmat_length]; omega)
    rw [← h]
    simp only [code21]; rfl
  unfold par cmb
  simp only [List.range_succ, List.range_zero, List.nil_append, List.map_cons, List.map_nil]
  rw [show 2 + 0 = 2 from rfl, e]
  decide +kernel
end Go.Proofs.Ytaahnicjjpddjaa.Enc
end
section
namespace Go.Proofs.Ytaahnicjjpddjaa.Enc
open Go.RowKit Go.Proofs.YtaahnicjjpddjaaW.PrintWords Go.Proofs.YtaahnicjjpddjaaW.PrintLast Go.Proofs.YtaahnicjjpddjaaW.PrintMore Go.Proofs.Ytaahnicjjpddjaa.Fld Go.Proofs.Ytaahnicjjpddjaa.Mat Go.Proofs.Ytaahnicjjpddjaa.Fn Go.Proofs.Ytaahnicjjpddjaa.Pr
open Go.Proofs.Ytaahnicjjpddjaa.GvcVec (alikeB)

theorem awake6_f {k : Nat} (hk : 61000 < k) : AwE.AwE k := by
  have e1 : GEnc.encode_Encode.f k 2 1 [⟨#[97]⟩, ⟨#[98]⟩] = some ([⟨#[103]⟩], 0) := by
    have h := enc_f hk 2 1 (by omega) (by omega) (by omega) [⟨#[97]⟩, ⟨#[98]⟩] rfl (by decide +kernel)
    rw [par21] at h
    exact h
  have e2 : GEnc.encode_Encode.f k 2 1 [⟨#[97]⟩] = some ([], 600) := enc_no hk 2 1 _ (by simp; omega) (by simp)
  have e3 : GEnc.encode_Encode.f k 2 1 [⟨#[97]⟩, ⟨#[98, 99]⟩] = some ([], 600) := enc_no hk 2 1 _ (by simp; omega) (fun h => absurd h.2.2 (by decide +kernel))
  have e4 : GEnc.encode_Encode.f k 1 0 [⟨#[]⟩] = some ([], 0) := enc_f hk 1 0 (by omega) (by omega) (by omega) [⟨#[]⟩] rfl (by decide +kernel)
  exact ⟨e1, e2, e3, e4, same_self _ (by decide) (by simp; omega)⟩
theorem encodes_calls (d p : Int) (A : Option Addr) (c : Nat) (l : List ByteArray) (r : Bool) (w : World) (hr : Kd.C Kd.string w A l.length l) (hc : l.length ≤ c) (h : r = true ∧ l.length * 16 ≤ 140737488351232) :
    Calls Try.prog 16 #[.agg #[.int .i64 d, .int .i64 p], .slice A l.length c] w fun e w' => e = .returned (.bool r) ∧ Below w.heap.size w w' := by
  obtain ⟨rfl, hl⟩ := h
  obtain ⟨k, hk⟩ : ∃ k, k = l.length + 61001 := ⟨_, rfl⟩
  obtain ⟨⟨r1, r2⟩, ⟨h1, h2⟩, hs, hz⟩ := enc_same (show 61000 < k by omega) d p l (by omega)
  simp only at hs hz
  exact encodes_walk k d p A c l r1 r2 w hr hc (by omega) h1 h2 (same_self _ (by omega) (by omega)) (same_self _ (by omega) (by omega)) (awake6_f (by omega)) hz
end Go.Proofs.Ytaahnicjjpddjaa.Enc
end
section
namespace Go.Proofs.Ytaahnicjjpddjaa.Pure
set_option linter.unusedVariables false
theorem Encodes {G G' : Prop} {S : ByteArray → Prop} (a0 b0 : Int) (_ : G) (_ : G') (l : List ByteArray) (_ : ∀ x ∈ l, S x) (s : l.length * 16 ≤ 140737488351232) : true = true ∧ l.length * 16 ≤ 140737488351232 := ⟨rfl, s⟩
end Go.Proofs.Ytaahnicjjpddjaa.Pure
end
