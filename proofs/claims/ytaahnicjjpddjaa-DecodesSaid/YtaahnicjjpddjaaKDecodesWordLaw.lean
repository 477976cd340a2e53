/- The law of decoding at any shape, shards, and which of them are there: the call's walk, by hand. Words of the code: what is decoded and rebuilt of some of their rows is the word again. No condition. -/
import Derived.Test.YtaahnicjjpddjaaKDecodesGAwd1
section
namespace Go.Proofs.Ytaahnicjjpddjaa.Pr
open Go.RowKit Go.Proofs.YtaahnicjjpddjaaW.PrintWords Go.Proofs.YtaahnicjjpddjaaW.PrintLast Go.Proofs.YtaahnicjjpddjaaW.PrintMore Go.Proofs.Ytaahnicjjpddjaa.Fld Go.Proofs.Ytaahnicjjpddjaa.Mat Go.Proofs.Ytaahnicjjpddjaa.Fn
set_option linter.unusedVariables false
set_option linter.unusedSimpArgs false
set_option maxHeartbeats 3000000 in
set_option maxRecDepth 100000 in
theorem decodes_walk (k : Nat) (d p : Int) (A : Option Addr) (c : Nat) (l : List ByteArray) (AH : Option Addr) (c2 : Nat) (hv : List Bool) (r1 : List ByteArray) (r2 : Int) (w : World) (hr : Kd.C Kd.string w A l.length l) (hc : l.length ≤ c) (hr2 : Kd.C Kd.bool w AH hv.length hv) (hc2 : hv.length ≤ c2) (hl : (0 + l.length) * 16 ≤ 140737488355328)
    (h1 : GEnc.decode_Decode.f k d p l hv = some (r1, r2)) (h2 : GRenc.ossuaryref1_Decode.f k d p l hv = some (r1, r2)) (h3 : GVec.ossuarylaw0_SameTexts.f k r1 r1 = some true) (h4 : GVec.ossuarylaw0_SameTexts.f k l l = some true) (h5 : GAwd.ossuarylaw7_awake.f k = some true) (hz : ∀ x ∈ r1, x.size ≤ 5000) :
    Calls Try.prog 18 #[.agg #[.int .i64 d, .int .i64 p], .slice A l.length c, .slice AH hv.length c2] w fun e w' => e = .returned (.bool true) ∧ Below w.heap.size w w' := by
  have hu51 := Try.underlying51
  have einfo9 : (Try.prog.info? 9).map (fun i => (i.zero, i.size, i.bytes)) = some (some (.string ⟨#[]⟩), 1, 16) := by kernel_rfl
  have HR := mk0 hr
  have HC := mk0 hc
  have LN := mk0 hl
  have A1 := mk0 h1
  have A2 := mk0 h2
  have A3 := mk0 h3
  have A4 := mk0 h4
  have A5 := mk0 h5
  have HZ := mk0 hz
  have HB := mk0 (Below.refl w.heap.size w)
  have q1 : (r2 != r2) = false := bne_self_eq_false r2
  have HV := mk0 hr2
  have HVC := mk0 hc2
  clear hr2 hc2 hr hc hl h1 h2 h3 h4 h5 hz
  go_enter Try.func18, Try.ntmps18
  go_wp2_with (first
    | ((with_reducible refine gate_dst (N := 3) rfl ?_); refine box_event uU (N := 3) uU (cs := #[.int .i64 d, .int .i64 p]) (t := 51) uI ?_; intro g1 hg w1 hbox hb; have BK1 := mk0 hbox; replace HB := mk0 (below_step HB.out hb); clear hb hbox hg)
    | ((with_reducible refine gate_dst (N := 12) rfl ?_); refine Kd.R_lit Kd.string _ 9 ?hg (N := 12) ?hd (xs := ([] : List ByteArray)) (inner := []) (ok := fun _ => True) (okp := fun _ => True) ?hr ?hp (fun _ hk => hk) trivial (Below.refl _ _) (Nat.le_refl _) uY ?_; (case hd => rfl); (case hg => rfl); (case hr => first | (go_simp; done) | (go_simp; rfl)); (case hp => exact Reps.none _ _); intro v5 w2 ho hb hg_ hnew_; clear hg_ hnew_; have SL := mk0 (Kd.R_lower ho (below_size HB.out)); replace HB := mk0 (below_step HB.out hb); replace BK1 := mk0 (blk_below BK1.out hb); clear ho hb)
    | ((with_reducible refine gBu (b := .append) (xs := #[.tmp 12, .tmp 13]) rfl ?_); at_builtin; refine Kd.R_append_rows Kd.string (w0 := w) w.heap.size rfl (.tmp 12) (.tmp 13) 58 9 (.string ⟨#[]⟩) 16 rfl Try.underlying58 einfo9 rfl uX uT v5 [] l _ _ _ (fun _ => True) (fun _ => False) rfl rfl SL.out (Kd.C_below HR.out HB.out) (fun x cs h => h) (fun _ h => h.elim) (fun _ _ => trivial) HB.out (below_size HB.out) LN.out ?_; intro v6 w3 ho hb hg hat; rw [List.nil_append] at ho; obtain ⟨Ax, cx, rfl⟩ := Kd.R_slice ho; have SX := mk0 ho; replace BK1 := mk0 (blk_grown BK1.out hg (Kd.R_ne SL.out BK1.out uX)); replace HB := mk0 hb; clear SL ho hb hg hat; have hz0 : w3.cell? ⟨g1, 0, none⟩ = some (.int .i64 d) := (blk_cell BK1.out 0).trans rfl; have hz1 : w3.cell? ⟨g1, 1, none⟩ = some (.int .i64 p) := (blk_cell BK1.out 1).trans rfl; (try clear n_))
    | ((with_reducible refine gCa (f := 53) rfl ?_); refine goesL_ (some 19) rfl rfl Try.func53 uR rfl #[.agg #[.int .i64 d, .int .i64 p], .slice Ax l.length cx, .slice AH hv.length c2] rfl uW ?_; (with_reducible refine (GEnc.decode_Decode.calls k d p _ _ l _ _ hv r1 r2 _ (Kd.R_reads' SX.out).2.2 (Kd.R_reads' SX.out).2.1 (Kd.C_below HV.out HB.out) HVC.out A1.out).mono ?_); rintro e w4 ⟨va, rfl, hS, hb⟩; refine ⟨_, rfl, ?_⟩; obtain ⟨Aa, ca, rfl⟩ := Kd.R_slice hS; have SA := mk0 hS; have HD := mk0 hb; clear hS hz0 hz1; replace BK1 := mk0 (blk_below BK1.out hb); have hz0 : w4.cell? ⟨g1, 0, none⟩ = some (.int .i64 d) := (blk_cell BK1.out 0).trans rfl; have hz1 : w4.cell? ⟨g1, 1, none⟩ = some (.int .i64 p) := (blk_cell BK1.out 1).trans rfl; clear hb)
    | ((with_reducible refine gCa (f := 54) rfl ?_); refine goesL_ (some 26) rfl rfl Try.func54 uR rfl #[.agg #[.int .i64 d, .int .i64 p], .slice A l.length c, .slice AH hv.length c2] rfl uW ?_; (with_reducible refine (GRenc.ossuaryref1_Decode.calls k d p _ _ l _ _ hv r1 r2 _ (Kd.C_below HR.out (below_step HB.out HD.out)) HC.out (Kd.C_below HV.out (below_step HB.out HD.out)) HVC.out A2.out).mono ?_); rintro e w5 ⟨vb, rfl, hS, hb⟩; refine ⟨_, rfl, ?_⟩; obtain ⟨Ab, cb, rfl⟩ := Kd.R_slice hS; have SB := mk0 hS; clear hS hz0 hz1 BK1; replace HD := mk0 (below_step HD.out hb); replace SA := mk0 (Kd.R_below SA.out hb); clear hb)
    | ((with_reducible refine gCa (f := 50) (xs := #[.tmp 29, .tmp 30]) rfl ?_); refine goesL_ (some 31) rfl rfl Try.func50 uR rfl #[.slice Aa r1.length ca, .slice Ab r1.length cb] rfl uW ?_; (with_reducible refine (GVec.ossuarylaw0_SameTexts.calls k _ _ r1 _ _ r1 true _ (Kd.R_reads' SA.out).2.2 (Kd.R_reads' SA.out).2.1 (Kd.R_reads' SB.out).2.2 (Kd.R_reads' SB.out).2.1 A3.out).mono ?_); rintro e w6 ⟨rfl, ⟨nd, rfl⟩⟩; refine ⟨_, rfl, ?_⟩; clear SB)
    | (go_at_call 35; (with_reducible refine (GBase.ossuarylaw0_Num.calls r2 r2 _ rfl).mono ?_); rintro e w7 ⟨rfl, ⟨nd2, rfl⟩⟩)
    | ((with_reducible refine gCa (f := 51) rfl ?_); refine goesL_ (some 40) rfl rfl Try.func51 uR rfl #[.slice Aa r1.length ca] rfl uW ?_; (with_reducible refine (spoilT w3 _ (rN SA.out _) (Nat.le_refl _) (lN HD.out _) HZ.out).mono ?_); rintro e w8 ⟨rfl, hb⟩; refine ⟨_, rfl, ?_⟩; clear HD SA; have HD := mk0 hb; clear hb)
    | ((with_reducible refine gCa (f := 50) (xs := #[.tmp 41, .tmp 42]) rfl ?_); refine goesL_ (some 43) rfl rfl Try.func50 uR rfl #[.slice Ax l.length cx, .slice A l.length c] rfl uW ?_; (with_reducible refine (GVec.ossuarylaw0_SameTexts.calls k _ _ l _ _ l true _ (Kd.C_below (Kd.R_reads' SX.out).2.2 HD.out) (Kd.R_reads' SX.out).2.1 (Kd.C_below HR.out (below_step HB.out HD.out)) HC.out A4.out).mono ?_); rintro e w9 ⟨rfl, ⟨nd3, rfl⟩⟩; refine ⟨_, rfl, ?_⟩; replace HD := mk0 (lN HD.out nd3))
    | (go_at_call 55; (with_reducible refine (GAwd.ossuarylaw7_awake.calls k true _ A5.out).mono ?_); rintro e w10 ⟨rfl, hb⟩; replace HD := mk0 (below_step HD.out hb); clear hb))
  go_ret
  exact ⟨rfl, below_step HB.out HD.out⟩
end Go.Proofs.Ytaahnicjjpddjaa.Pr
end
section
namespace Go.Proofs.Ytaahnicjjpddjaa.Enc
open Go.RowKit Go.Proofs.YtaahnicjjpddjaaW.PrintWords Go.Proofs.YtaahnicjjpddjaaW.PrintLast Go.Proofs.YtaahnicjjpddjaaW.PrintMore Go.Proofs.Ytaahnicjjpddjaa.Fld Go.Proofs.Ytaahnicjjpddjaa.Mat Go.Proofs.Ytaahnicjjpddjaa.Fn Go.Proofs.Ytaahnicjjpddjaa.Pr Go.Proofs.Ytaahnicjjpddjaa.GEnc
open Go.Proofs.Ytaahnicjjpddjaa.GvcVec (combine alikeB alikeB_mk alikeB_size row0 row0_mem vcomb alike_f bF accF combine_yes ba_bytes sumF_size sumF_byte rdOf_nat)

/-- a word of the code. -/
noncomputable def word (d p : Nat) (data : List ByteArray) : List ByteArray := data ++ par d p data
theorem word_length (d p : Nat) (data : List ByteArray) (hl : data.length = d) : (word d p data).length = d + p := by unfold word; rw [List.length_append, par_length, hl]
theorem txt_get (xs : List ByteArray) (i : Nat) (h : i < xs.length) : txt xs i = xs[i] := getD_get xs _ i h
theorem word_top {d p : Nat} {data : List ByteArray} (hl : data.length = d) {r : Nat} (hr : r < d) : txt (word d p data) r = txt data r := by
  rw [txt_get _ _ (by rw [word_length d p data hl]; omega), txt_get _ _ uT]
  unfold word
  rw [List.getElem_append_left uT]
theorem word_low {d p : Nat} {data : List ByteArray} (hl : data.length = d) {r : Nat} (hr : d ≤ r) (hr' : r < d + p) : txt (word d p data) r = cmb d (code d r) data := by
  rw [txt_get _ _ (by rw [word_length d p data hl]; omega)]
  unfold word
  rw [List.getElem_append_right uT]
  unfold par
  rw [List.getElem_map, List.getElem_range, hl, show d + (r - d) = r by omega]
theorem data_size {d : Nat} {data : List ByteArray} (hl : data.length = d) (ha : alikeB data = true) {i : Nat} (hi : i < d) : (txt data i).size = (row0 data).size := by
  rw [txt_get _ _ uT]
  exact ((alikeB_size ha) _ (List.getElem_mem _)).1
theorem word_size {d p : Nat} (h1 : 1 ≤ d) (h2 : d ≤ 4) {data : List ByteArray} (hl : data.length = d) (ha : alikeB data = true) {r : Nat} (hr : r < d + p) : (txt (word d p data) r).size = (row0 data).size := by
  by_cases h : r < d
  · rw [word_top hl h]; exact data_size hl ha h
  · rw [word_low hl uT hr]; exact cmb_size _ h1 uT hl ha
theorem word_byte {d p : Nat} (h1 : 1 ≤ d) (h2 : d ≤ 4) {data : List ByteArray} (hl : data.length = d) (ha : alikeB data = true) {r : Nat} (hr : r < d + p) (j : Nat) (hj : j < (row0 data).size) :
    bF (txt (word d p data) r) j = mm d (code d) (fun k j => bF (txt data k) j) r j := by
  by_cases h : r < d
  · rw [word_top hl h]
    refine (sum_delta d r (fun k => bF (txt data k) j) h).symm.trans (sum_congr _ _ _ (fun k hk => ?_))
    rw [code_top uT r k h hk]
  · rw [word_low hl uT hr]
    exact cmb_byte _ h1 uT hl ha j hj
theorem alike_all {xs : List ByteArray} {m : Nat} (hm : m ≤ 4096) (h : ∀ x ∈ xs, x.size = m) : alikeB xs = true := by
  by_cases h0 : 0 < xs.length
  · exact (alikeB_mk m hm h h0).1
  · have : xs = [] := List.length_eq_zero_iff.1 uT
    subst this; rfl
theorem row0_size {xs : List ByteArray} {m : Nat} (h : ∀ x ∈ xs, x.size = m) (h0 : 0 < xs.length) : (row0 xs).size = m := h _ (row0_mem h0)
/-- what is decoded of rows of a word. -/
theorem decd_word {d p : Nat} (h1 : 1 ≤ d) (h2 : d ≤ 4) {data own : List ByteArray} (hl : data.length = d) (ha : alikeB data = true) (ho : own.length = d) (rs : Nat → Nat) (hr : ∀ t, t < d → rs t < d + p)
    (he : ∀ t, t < d → txt own t = txt (word d p data) (rs t)) {y : Nat → Nat → F} (hy : eqM d (mm d y (fun i j => code d (rs i) j)) delta) : decd d y own = data := by
  have hm := (alikeB_size ha _ (row0_mem uT)).2
  have hs : ∀ x ∈ own, x.size = (row0 data).size := fun x hx => by
    obtain ⟨t, ht, rfl⟩ := List.getElem_of_mem hx
    have e := he t uT
    rw [txt_get _ _ ht] at e
    rw [e]
    exact word_size h1 h2 hl ha (hr t uT)
  have hoa := alike_all hm hs
  have hor := row0_size hs uT
  apply List.ext_getElem
  · rw [decd_length, hl]
  · intro i hi1 hi2
    have hi : i < d := by rw [decd_length] at hi1; exact hi1
    have e0 : (decd d y own)[i] = cmb d (y i) own := by simp [decd]
    rw [e0]
    have hsz : (cmb d (y i) own).size = (row0 data).size := by rw [cmb_size _ h1 uT ho hoa, hor]
    have hds := data_size hl ha hi
    rw [txt_get _ _ uT] at hds
    refine ba_bytes (by rw [hsz, hds]) (fun j hj => ?_)
    rw [hsz] at hj
    rw [cmb_byte _ h1 uT ho hoa j uT]
    have e1 : sumF d (fun t => fm (y i t) (bF (own.getD t ByteArray.empty) j)) = mm d y (mm d (fun t k => code d (rs t) k) (fun k j => bF (txt data k) j)) i j :=
      sum_congr _ _ _ (fun t ht => by
        have e2 := word_byte h1 h2 hl ha (hr t ht) j hj
        rw [← he t ht] at e2
        show fm (y i t) (bF (txt own t) j) = _
        rw [e2]; rfl)
    rw [e1, ← mm_assoc]
    have e3 : mm d (mm d y (fun t k => code d (rs t) k)) (fun k j => bF (txt data k) j) i j = mm d delta (fun k j => bF (txt data k) j) i j := mm_congr d _ _ _ _ i j (fun k hk => hy i k hi hk) (fun _ _ => rfl)
    rw [e3, delta_mm d _ i j hi, txt_get _ _ uT]
/-- decoding, of a word some of whose rows are there, whatever the rest. -/
theorem dec_word {k : Nat} (hk : 61000 < k) {d p : Nat} (h1 : 1 ≤ d) (h2 : d ≤ 4) (h3 : p ≤ 2) {data shards : List ByteArray} {hv : List Bool} (hl : data.length = d) (ha : alikeB data = true) (hs : shards.length = d + p) (hh : hv.length = d + p)
    (hn : d ≤ (had hv 0).length) (hoa : alikeB (ownOf shards hv) = true) (he : ∀ t, t < d → txt shards ((had hv 0).getD t 0) = txt (word d p data) ((had hv 0).getD t 0)) :
    decode_Decode.f k (d : Int) (p : Int) shards hv = some (data, 0) := by
  have h := dec_f hk d p h1 h2 h3 shards hv hs hh
  unfold decEnd at h
  rw [if_pos hoa, if_neg uT] at h
  obtain ⟨y, hy, h⟩ := h
  rw [h]
  have hto : ((ownOf shards hv).take d).length = d := by rw [List.length_take, own_length]; omega
  rw [decd_word (p := p) h1 h2 hl ha hto (fun t => (had hv 0).getD t 0) (fun t ht => ?_) (fun t ht => ?_) hy]
  · show (had hv 0).getD t 0 < d + p
    rw [getD_get _ _ _ (show t < (had hv 0).length by omega)]
    have := (had_lo hv 0 _ (List.getElem_mem (show t < (had hv 0).length by omega))).2.1
    omega
  · rw [← he t ht, txt_get _ _ uT, List.getElem_take]
    unfold ownOf
    rw [List.getElem_map, getD_get _ _ _ uT]
theorem dec_few {k : Nat} (hk : 61000 < k) {d p : Nat} (h1 : 1 ≤ d) (h2 : d ≤ 4) (h3 : p ≤ 2) {shards : List ByteArray} {hv : List Bool} (hs : shards.length = d + p) (hh : hv.length = d + p)
    (hn : (had hv 0).length < d) (hoa : alikeB (ownOf shards hv) = true) : decode_Decode.f k (d : Int) (p : Int) shards hv = some ([], 701) := by
  have h := dec_f hk d p h1 h2 h3 shards hv hs hh
  unfold decEnd at h
  rw [if_pos hoa, if_pos hn] at h
  exact h
theorem same_l (xs : List ByteArray) (hb : xs.length < 9223372036854775807) (d : Nat) : ∀ (k i : Nat), i + d = xs.length → d < k → GVec.ossuarylaw0_SameTexts.l0 k xs xs (i : Int) = some true := by
  induction d with
  | zero =>
    intro k i hi hk
    obtain ⟨k, rfl⟩ : ∃ m, k = m + 1 := ⟨k - 1, uT⟩
    simp only [GVec.ossuarylaw0_SameTexts.l0]
    rw [if_neg uT]
  | succ d ih =>
    intro k i hi hk
    obtain ⟨k, rfl⟩ : ∃ m, k = m + 1 := ⟨k - 1, uT⟩
    simp only [GVec.ossuarylaw0_SameTexts.l0]
    rw [if_pos uT, if_pos uT, if_pos uT, if_pos trivial, show wrap64 ((i : Int) + 1) = ((i + 1 : Nat) : Int) from wrap64_in uT uT, ih k (i + 1) uT uT]
theorem same_self {k : Nat} (xs : List ByteArray) (hb : xs.length < 9223372036854775807) (hk : xs.length < k) : GVec.ossuarylaw0_SameTexts.f k xs xs = some true := by
  unfold GVec.ossuarylaw0_SameTexts.f
  rw [if_pos rfl]
  exact same_l xs hb xs.length k 0 uT uT
theorem par21 : par 2 1 [⟨#[97]⟩, ⟨#[98]⟩] = [⟨#[103]⟩] := by
  have e : rowOf (fun j => toI (code 2 2 j)) 2 = [3, 2] := by
    have h := fmat_get (code 2) 3 2 2 uM
    rw [← h]
    simp only [code21]; rfl
  unfold par cmb
  simp only [List.range_succ, List.range_zero, List.nil_append, List.map_cons, List.map_nil]
  rw [show 2 + 0 = 2 from rfl, e]
  decide +kernel
end Go.Proofs.Ytaahnicjjpddjaa.Enc
end
