/- The law of rebuilding at any shape, shards, and which of them are there: the call's walk, by hand. Words of the code: what is decoded and rebuilt of some of their rows is the word again. No condition. Rebuild at any shape, shards, and which of them are there is the document's: what the call of the law comes to. Of the shards: they take no more than memory has. The law's call comes to true at every shape and shards that memory holds: no further condition. Arguments opened as the printed contracts want them: slices of numbers, bools, strings, and of slices, each with its reach. No condition. -/
import Derived.Test.YtaahnicjjpddjaaKRebuildsGAwr1
import Derived.Lib.SmallJoins
section
namespace Go.Proofs.Ytaahnicjjpddjaa.Pr
open Go.RowKit Go.Proofs.YtaahnicjjpddjaaW.PrintWords Go.Proofs.YtaahnicjjpddjaaW.PrintLast Go.Proofs.YtaahnicjjpddjaaW.PrintMore Go.Proofs.Ytaahnicjjpddjaa.Fld Go.Proofs.Ytaahnicjjpddjaa.Mat Go.Proofs.Ytaahnicjjpddjaa.Fn
set_option linter.unusedVariables false
set_option linter.unusedSimpArgs false
set_option maxHeartbeats 3000000 in
set_option maxRecDepth 100000 in
theorem rebuilds_walk (k : Nat) (d p : Int) (A : Option Addr) (c : Nat) (l : List ByteArray) (AH : Option Addr) (c2 : Nat) (hv : List Bool) (r1 : List ByteArray) (r2 : Int) (w : World) (hr : Kd.C Kd.string w A l.length l) (hc : l.length ≤ c) (hr2 : Kd.C Kd.bool w AH hv.length hv) (hc2 : hv.length ≤ c2) (hl : (0 + l.length) * 16 ≤ 140737488355328)
    (h1 : GEnc.rebuild_Rebuild.f k d p l hv = some (r1, r2)) (h2 : GRenc.ossuaryref1_Rebuild.f k d p l hv = some (r1, r2)) (h3 : GVec.ossuarylaw0_SameTexts.f k r1 r1 = some true) (h4 : GVec.ossuarylaw0_SameTexts.f k l l = some true) (h5 : GAwr.ossuarylaw8_awake.f k = some true) (hz : ∀ x ∈ r1, x.size ≤ 5000) :
    Calls Try.prog 22 #[.agg #[.int .i64 d, .int .i64 p], .slice A l.length c, .slice AH hv.length c2] w fun e w' => e = .returned (.bool true) ∧ Below w.heap.size w w' := by
  have hu51 := Try.underlying51
  have einfo9 : (Try.prog.info? 9).map (fun i => (i.zero, i.size, i.bytes)) = some (some (.string ⟨#[]⟩), 1, 16) := by kernel_rfl
  have HR := mk0 hr
  have HC := mk0 hc
  have LN := mk0 hl
  have A1 := mk0 h1
  have A2 := mk0 h2
  have A3 := mk0 h3
  have A4 := mk0 h4
  have A5 := mk0 h5
  have HZ := mk0 hz
  have HB := mk0 (Below.refl w.heap.size w)
  have q1 : (r2 != r2) = false := bne_self_eq_false r2
  have HV := mk0 hr2
  have HVC := mk0 hc2
  clear hr2 hc2 hr hc hl h1 h2 h3 h4 h5 hz
  go_enter Try.func22, Try.ntmps22
  go_wp2_with (first
    | ((with_reducible refine gate_dst (N := 3) rfl ?_); refine box_event uY (N := 3) uY (cs := #[.int .i64 d, .int .i64 p]) (t := 51) uM ?_; intro g1 hg w1 hbox hb; have BK1 := mk0 hbox; replace HB := mk0 (below_step HB.out hb); clear hb hbox hg)
    | ((with_reducible refine gate_dst (N := 12) rfl ?_); refine Kd.R_lit Kd.string _ 9 ?hg (N := 12) ?hd (xs := ([] : List ByteArray)) (inner := []) (ok := fun _ => True) (okp := fun _ => True) ?hr ?hp (fun _ hk => hk) trivial (Below.refl _ _) (Nat.le_refl _) qa ?_; (case hd => rfl); (case hg => rfl); (case hr => first | (go_simp; done) | (go_simp; rfl)); (case hp => exact Reps.none _ _); intro v5 w2 ho hb hg_ hnew_; clear hg_ hnew_; have SL := mk0 (Kd.R_lower ho (below_size HB.out)); replace HB := mk0 (below_step HB.out hb); replace BK1 := mk0 (blk_below BK1.out hb); clear ho hb)
    | ((with_reducible refine gBu (b := .append) (xs := #[.tmp 12, .tmp 13]) rfl ?_); at_builtin; refine Kd.R_append_rows Kd.string (w0 := w) w.heap.size rfl (.tmp 12) (.tmp 13) 58 9 (.string ⟨#[]⟩) 16 rfl Try.underlying58 einfo9 rfl q9 uX v5 [] l _ _ _ (fun _ => True) (fun _ => False) rfl rfl SL.out (Kd.C_below HR.out HB.out) (fun x cs h => h) (fun _ h => h.elim) (fun _ _ => trivial) HB.out (below_size HB.out) LN.out ?_; intro v6 w3 ho hb hg hat; rw [List.nil_append] at ho; obtain ⟨Ax, cx, rfl⟩ := Kd.R_slice ho; have SX := mk0 ho; replace BK1 := mk0 (blk_grown BK1.out hg (Kd.R_ne SL.out BK1.out q9)); replace HB := mk0 hb; clear SL ho hb hg hat; have hz0 : w3.cell? ⟨g1, 0, none⟩ = some (.int .i64 d) := (blk_cell BK1.out 0).trans rfl; have hz1 : w3.cell? ⟨g1, 1, none⟩ = some (.int .i64 p) := (blk_cell BK1.out 1).trans rfl; (try clear n_))
    | ((with_reducible refine gCa (f := 59) rfl ?_); refine goesL_ (some 19) rfl rfl Try.func59 uV rfl #[.agg #[.int .i64 d, .int .i64 p], .slice Ax l.length cx, .slice AH hv.length c2] rfl q7 ?_; (with_reducible refine (GEnc.rebuild_Rebuild.calls k d p _ _ l _ _ hv r1 r2 _ (Kd.R_reads' SX.out).2.2 (Kd.R_reads' SX.out).2.1 (Kd.C_below HV.out HB.out) HVC.out A1.out).mono ?_); rintro e w4 ⟨va, rfl, hS, hb⟩; refine ⟨_, rfl, ?_⟩; obtain ⟨Aa, ca, rfl⟩ := Kd.R_slice hS; have SA := mk0 hS; have HD := mk0 hb; clear hS hz0 hz1; replace BK1 := mk0 (blk_below BK1.out hb); have hz0 : w4.cell? ⟨g1, 0, none⟩ = some (.int .i64 d) := (blk_cell BK1.out 0).trans rfl; have hz1 : w4.cell? ⟨g1, 1, none⟩ = some (.int .i64 p) := (blk_cell BK1.out 1).trans rfl; clear hb)
    | ((with_reducible refine gCa (f := 60) rfl ?_); refine goesL_ (some 26) rfl rfl Try.func60 uV rfl #[.agg #[.int .i64 d, .int .i64 p], .slice A l.length c, .slice AH hv.length c2] rfl q7 ?_; (with_reducible refine (GRenc.ossuaryref1_Rebuild.calls k d p _ _ l _ _ hv r1 r2 _ (Kd.C_below HR.out (below_step HB.out HD.out)) HC.out (Kd.C_below HV.out (below_step HB.out HD.out)) HVC.out A2.out).mono ?_); rintro e w5 ⟨vb, rfl, hS, hb⟩; refine ⟨_, rfl, ?_⟩; obtain ⟨Ab, cb, rfl⟩ := Kd.R_slice hS; have SB := mk0 hS; clear hS hz0 hz1 BK1; replace HD := mk0 (below_step HD.out hb); replace SA := mk0 (Kd.R_below SA.out hb); clear hb)
    | ((with_reducible refine gCa (f := 50) (xs := #[.tmp 29, .tmp 30]) rfl ?_); refine goesL_ (some 31) rfl rfl Try.func50 uV rfl #[.slice Aa r1.length ca, .slice Ab r1.length cb] rfl q7 ?_; (with_reducible refine (GVec.ossuarylaw0_SameTexts.calls k _ _ r1 _ _ r1 true _ (Kd.R_reads' SA.out).2.2 (Kd.R_reads' SA.out).2.1 (Kd.R_reads' SB.out).2.2 (Kd.R_reads' SB.out).2.1 A3.out).mono ?_); rintro e w6 ⟨rfl, ⟨nd, rfl⟩⟩; refine ⟨_, rfl, ?_⟩; clear SB)
    | (go_at_call 35; (with_reducible refine (GBase.ossuarylaw0_Num.calls r2 r2 _ rfl).mono ?_); rintro e w7 ⟨rfl, ⟨nd2, rfl⟩⟩)
    | ((with_reducible refine gCa (f := 51) rfl ?_); refine goesL_ (some 40) rfl rfl Try.func51 uV rfl #[.slice Aa r1.length ca] rfl q7 ?_; (with_reducible refine (spoilT w3 _ (rN SA.out _) (Nat.le_refl _) (lN HD.out _) HZ.out).mono ?_); rintro e w8 ⟨rfl, hb⟩; refine ⟨_, rfl, ?_⟩; clear HD SA; have HD := mk0 hb; clear hb)
    | ((with_reducible refine gCa (f := 50) (xs := #[.tmp 41, .tmp 42]) rfl ?_); refine goesL_ (some 43) rfl rfl Try.func50 uV rfl #[.slice Ax l.length cx, .slice A l.length c] rfl q7 ?_; (with_reducible refine (GVec.ossuarylaw0_SameTexts.calls k _ _ l _ _ l true _ (Kd.C_below (Kd.R_reads' SX.out).2.2 HD.out) (Kd.R_reads' SX.out).2.1 (Kd.C_below HR.out (below_step HB.out HD.out)) HC.out A4.out).mono ?_); rintro e w9 ⟨rfl, ⟨nd3, rfl⟩⟩; refine ⟨_, rfl, ?_⟩; replace HD := mk0 (lN HD.out nd3))
    | (go_at_call 61; (with_reducible refine (GAwr.ossuarylaw8_awake.calls k true _ A5.out).mono ?_); rintro e w10 ⟨rfl, hb⟩; replace HD := mk0 (below_step HD.out hb); clear hb))
  go_ret
  exact ⟨rfl, below_step HB.out HD.out⟩
end Go.Proofs.Ytaahnicjjpddjaa.Pr
end
section
namespace Go.Proofs.Ytaahnicjjpddjaa.Enc
open Go.RowKit Go.Proofs.YtaahnicjjpddjaaW.PrintWords Go.Proofs.YtaahnicjjpddjaaW.PrintLast Go.Proofs.YtaahnicjjpddjaaW.PrintMore Go.Proofs.Ytaahnicjjpddjaa.Fld Go.Proofs.Ytaahnicjjpddjaa.Mat Go.Proofs.Ytaahnicjjpddjaa.Fn Go.Proofs.Ytaahnicjjpddjaa.Pr Go.Proofs.Ytaahnicjjpddjaa.GEnc
open Go.Proofs.Ytaahnicjjpddjaa.GvcVec (combine alikeB alikeB_mk alikeB_size row0 row0_mem vcomb alike_f bF accF combine_yes ba_bytes sumF_size sumF_byte rdOf_nat)
/-- a word of the code. -/
noncomputable def word (d p : Nat) (data : List ByteArray) : List ByteArray := data ++ par d p data
theorem word_length (d p : Nat) (data : List ByteArray) (hl : data.length = d) : (word d p data).length = d + p := by unfold word; rw [List.length_append, par_length, hl]
theorem txt_get (xs : List ByteArray) (i : Nat) (h : i < xs.length) : txt xs i = xs[i] := getD_get xs _ i h
theorem word_top {d p : Nat} {data : List ByteArray} (hl : data.length = d) {r : Nat} (hr : r < d) : txt (word d p data) r = txt data r := by
  rw [txt_get _ _ (by rw [word_length d p data hl]; omega), txt_get _ _ uX]
  unfold word
  rw [List.getElem_append_left uX]
theorem word_low {d p : Nat} {data : List ByteArray} (hl : data.length = d) {r : Nat} (hr : d ≤ r) (hr' : r < d + p) : txt (word d p data) r = cmb d (code d r) data := by
  rw [txt_get _ _ (by rw [word_length d p data hl]; omega)]
  unfold word
  rw [List.getElem_append_right uX]
  unfold par
  rw [List.getElem_map, List.getElem_range, hl, show d + (r - d) = r by omega]
theorem data_size {d : Nat} {data : List ByteArray} (hl : data.length = d) (ha : alikeB data = true) {i : Nat} (hi : i < d) : (txt data i).size = (row0 data).size := by
  rw [txt_get _ _ uX]
  exact ((alikeB_size ha) _ (List.getElem_mem _)).1
theorem word_size {d p : Nat} (h1 : 1 ≤ d) (h2 : d ≤ 4) {data : List ByteArray} (hl : data.length = d) (ha : alikeB data = true) {r : Nat} (hr : r < d + p) : (txt (word d p data) r).size = (row0 data).size := by
  by_cases h : r < d
  · rw [word_top hl h]; exact data_size hl ha h
  · rw [word_low hl uX hr]; exact cmb_size _ h1 uX hl ha
theorem word_byte {d p : Nat} (h1 : 1 ≤ d) (h2 : d ≤ 4) {data : List ByteArray} (hl : data.length = d) (ha : alikeB data = true) {r : Nat} (hr : r < d + p) (j : Nat) (hj : j < (row0 data).size) :
    bF (txt (word d p data) r) j = mm d (code d) (fun k j => bF (txt data k) j) r j := by
  by_cases h : r < d
  · rw [word_top hl h]
    refine (sum_delta d r (fun k => bF (txt data k) j) h).symm.trans (sum_congr _ _ _ (fun k hk => ?_))
    rw [code_top uX r k h hk]
  · rw [word_low hl uX hr]
    exact cmb_byte _ h1 uX hl ha j hj
theorem alike_all {xs : List ByteArray} {m : Nat} (hm : m ≤ 4096) (h : ∀ x ∈ xs, x.size = m) : alikeB xs = true := by
  by_cases h0 : 0 < xs.length
  · exact (alikeB_mk m hm h h0).1
  · have : xs = [] := List.length_eq_zero_iff.1 uX
    subst this; rfl
theorem row0_size {xs : List ByteArray} {m : Nat} (h : ∀ x ∈ xs, x.size = m) (h0 : 0 < xs.length) : (row0 xs).size = m := h _ (row0_mem h0)
/-- what is decoded of rows of a word. -/
theorem decd_word {d p : Nat} (h1 : 1 ≤ d) (h2 : d ≤ 4) {data own : List ByteArray} (hl : data.length = d) (ha : alikeB data = true) (ho : own.length = d) (rs : Nat → Nat) (hr : ∀ t, t < d → rs t < d + p)
    (he : ∀ t, t < d → txt own t = txt (word d p data) (rs t)) {y : Nat → Nat → F} (hy : eqM d (mm d y (fun i j => code d (rs i) j)) delta) : decd d y own = data := by
  have hm := (alikeB_size ha _ (row0_mem uX)).2
  have hs : ∀ x ∈ own, x.size = (row0 data).size := fun x hx => by
    obtain ⟨t, ht, rfl⟩ := List.getElem_of_mem hx
    have e := he t uX
    rw [txt_get _ _ ht] at e
    rw [e]
    exact word_size h1 h2 hl ha (hr t uX)
  have hoa := alike_all hm hs
  have hor := row0_size hs uX
  apply List.ext_getElem
  · rw [decd_length, hl]
  · intro i hi1 hi2
    have hi : i < d := by rw [decd_length] at hi1; exact hi1
    have e0 : (decd d y own)[i] = cmb d (y i) own := by simp [decd]
    rw [e0]
    have hsz : (cmb d (y i) own).size = (row0 data).size := by rw [cmb_size _ h1 uX ho hoa, hor]
    have hds := data_size hl ha hi
    rw [txt_get _ _ uX] at hds
    refine ba_bytes (by rw [hsz, hds]) (fun j hj => ?_)
    rw [hsz] at hj
    rw [cmb_byte _ h1 uX ho hoa j uX]
    have e1 : sumF d (fun t => fm (y i t) (bF (own.getD t ByteArray.empty) j)) = mm d y (mm d (fun t k => code d (rs t) k) (fun k j => bF (txt data k) j)) i j :=
      sum_congr _ _ _ (fun t ht => by
        have e2 := word_byte h1 h2 hl ha (hr t ht) j hj
        rw [← he t ht] at e2
        show fm (y i t) (bF (txt own t) j) = _
        rw [e2]; rfl)
    rw [e1, ← mm_assoc]
    have e3 : mm d (mm d y (fun t k => code d (rs t) k)) (fun k j => bF (txt data k) j) i j = mm d delta (fun k j => bF (txt data k) j) i j := mm_congr d _ _ _ _ i j (fun k hk => hy i k hi hk) (fun _ _ => rfl)
    rw [e3, delta_mm d _ i j hi, txt_get _ _ uX]
/-- decoding, of a word some of whose rows are there, whatever the rest. -/
theorem dec_word {k : Nat} (hk : 61000 < k) {d p : Nat} (h1 : 1 ≤ d) (h2 : d ≤ 4) (h3 : p ≤ 2) {data shards : List ByteArray} {hv : List Bool} (hl : data.length = d) (ha : alikeB data = true) (hs : shards.length = d + p) (hh : hv.length = d + p)
    (hn : d ≤ (had hv 0).length) (hoa : alikeB (ownOf shards hv) = true) (he : ∀ t, t < d → txt shards ((had hv 0).getD t 0) = txt (word d p data) ((had hv 0).getD t 0)) :
    decode_Decode.f k (d : Int) (p : Int) shards hv = some (data, 0) := by
  have h := dec_f hk d p h1 h2 h3 shards hv hs hh
  unfold decEnd at h
  rw [if_pos hoa, if_neg uX] at h
  obtain ⟨y, hy, h⟩ := h
  rw [h]
  have hto : ((ownOf shards hv).take d).length = d := by rw [List.length_take, own_length]; omega
  rw [decd_word (p := p) h1 h2 hl ha hto (fun t => (had hv 0).getD t 0) (fun t ht => ?_) (fun t ht => ?_) hy]
  · show (had hv 0).getD t 0 < d + p
    rw [getD_get _ _ _ (show t < (had hv 0).length by omega)]
    have := (had_lo hv 0 _ (List.getElem_mem (show t < (had hv 0).length by omega))).2.1
    omega
  · rw [← he t ht, txt_get _ _ uX, List.getElem_take]
    unfold ownOf
    rw [List.getElem_map, getD_get _ _ _ uX]
/-- .. and rebuilding. -/
theorem reb_word {k : Nat} (hk : 61000 < k) {d p : Nat} (h1 : 1 ≤ d) (h2 : d ≤ 4) (h3 : p ≤ 2) {data shards : List ByteArray} {hv : List Bool} (hl : data.length = d) (ha : alikeB data = true) (hs : shards.length = d + p) (hh : hv.length = d + p)
    (hn : d ≤ (had hv 0).length) (hoa : alikeB (ownOf shards hv) = true) (he : ∀ t, t < d → txt shards ((had hv 0).getD t 0) = txt (word d p data) ((had hv 0).getD t 0)) :
    rebuild_Rebuild.f k (d : Int) (p : Int) shards hv = some (word d p data, 0) := by
  unfold rebuild_Rebuild.f
  rw [dec_word hk h1 h2 h3 hl ha hs hh hn hoa he]
  simp only [Option.bind_some, if_true]
  rw [enc_f hk d p h1 h2 h3 data hl ha]
  simp only [Option.bind_some]
  rw [if_pos (by rw [par_length]; omega)]
  rfl
theorem reb_few {k : Nat} (hk : 61000 < k) {d p : Nat} (h1 : 1 ≤ d) (h2 : d ≤ 4) (h3 : p ≤ 2) {shards : List ByteArray} {hv : List Bool} (hs : shards.length = d + p) (hh : hv.length = d + p)
    (hn : (had hv 0).length < d) (hoa : alikeB (ownOf shards hv) = true) : rebuild_Rebuild.f k (d : Int) (p : Int) shards hv = some ([], 801) := by
  have h := dec_f hk d p h1 h2 h3 shards hv hs hh
  unfold decEnd at h
  rw [if_pos hoa, if_pos hn] at h
  unfold rebuild_Rebuild.f
  rw [h]; rfl
theorem reb_no {k : Nat} (hk : 61000 < k) (a b : Int) (shards : List ByteArray) (hv : List Bool) (h : ¬ ((1 ≤ a ∧ a ≤ 4 ∧ 0 ≤ b ∧ b ≤ 2) ∧ (shards.length : Int) = a + b ∧ hv.length = shards.length)) : rebuild_Rebuild.f k a b shards hv = some ([], 800) := by
  unfold rebuild_Rebuild.f
  rw [dec_no hk a b shards hv h]; rfl
theorem same_l (xs : List ByteArray) (hb : xs.length < 9223372036854775807) (d : Nat) : ∀ (k i : Nat), i + d = xs.length → d < k → GVec.ossuarylaw0_SameTexts.l0 k xs xs (i : Int) = some true := by
  induction d with
  | zero =>
    intro k i hi hk
    obtain ⟨k, rfl⟩ : ∃ m, k = m + 1 := ⟨k - 1, uX⟩
    simp only [GVec.ossuarylaw0_SameTexts.l0]
    rw [if_neg uX]
  | succ d ih =>
    intro k i hi hk
    obtain ⟨k, rfl⟩ : ∃ m, k = m + 1 := ⟨k - 1, uX⟩
    simp only [GVec.ossuarylaw0_SameTexts.l0]
    rw [if_pos uX, if_pos uX, if_pos uX, if_pos trivial, show wrap64 ((i : Int) + 1) = ((i + 1 : Nat) : Int) from wrap64_in uX uX, ih k (i + 1) uX uX]
theorem same_self {k : Nat} (xs : List ByteArray) (hb : xs.length < 9223372036854775807) (hk : xs.length < k) : GVec.ossuarylaw0_SameTexts.f k xs xs = some true := by
  unfold GVec.ossuarylaw0_SameTexts.f
  rw [if_pos rfl]
  exact same_l xs hb xs.length k 0 uX uX
theorem par21 : par 2 1 [⟨#[97]⟩, ⟨#[98]⟩] = [⟨#[103]⟩] := by
  have e : rowOf (fun j => toI (code 2 2 j)) 2 = [3, 2] := by
    have h := fmat_get (code 2) 3 2 2 uQ
    rw [← h]
    simp only [code21]; rfl
  unfold par cmb
  simp only [List.range_succ, List.range_zero, List.nil_append, List.map_cons, List.map_nil]
  rw [show 2 + 0 = 2 from rfl, e]
  decide +kernel
end Go.Proofs.Ytaahnicjjpddjaa.Enc
end
section
namespace Go.Proofs.Ytaahnicjjpddjaa.Enc
open Go.RowKit Go.Proofs.YtaahnicjjpddjaaW.PrintWords Go.Proofs.YtaahnicjjpddjaaW.PrintLast Go.Proofs.YtaahnicjjpddjaaW.PrintMore Go.Proofs.Ytaahnicjjpddjaa.Fld Go.Proofs.Ytaahnicjjpddjaa.Mat Go.Proofs.Ytaahnicjjpddjaa.Fn Go.Proofs.Ytaahnicjjpddjaa.Pr
open Go.Proofs.Ytaahnicjjpddjaa.GvcVec (alikeB)
theorem awake8_f {k : Nat} (hk : 61000 < k) : GAwr.ossuarylaw8_awake.f k = some true := by
  unfold GAwr.ossuarylaw8_awake.f
  have e1 : GEnc.rebuild_Rebuild.f k 2 1 [⟨#[97]⟩, ⟨#[]⟩, ⟨#[103]⟩] [true, false, true] = some ([⟨#[97]⟩, ⟨#[98]⟩, ⟨#[103]⟩], 0) := by
    have h := reb_word hk (d := 2) (p := 1) uX uX uX (data := [⟨#[97]⟩, ⟨#[98]⟩]) (shards := [⟨#[97]⟩, ⟨#[]⟩, ⟨#[103]⟩]) (hv := [true, false, true]) rfl uT rfl rfl q9 uT (fun t ht => by
      unfold word
      rw [par21]
      rcases (show t = 0 ∨ t = 1 by omega) with rfl | rfl <;> rfl)
    unfold word at h
    rw [par21] at h
    exact h
  have e2 : GEnc.rebuild_Rebuild.f k 2 1 [⟨#[97]⟩, ⟨#[]⟩, ⟨#[]⟩] [true, false, false] = some ([], 801) :=
    reb_few hk (d := 2) (p := 1) uX uX uX rfl rfl q9 uT
  have e3 : GEnc.rebuild_Rebuild.f k 2 1 [] [] = some ([], 800) := reb_no hk 2 1 [] [] qa
  rw [e1, e2, e3]
  simp only [Option.bind_some, num_f]
  rw [same_self _ q9 uU]
  rfl
theorem rebuilds_calls (d p : Int) (A : Option Addr) (c : Nat) (l : List ByteArray) (A2 : Option Addr) (c2 : Nat) (hv : List Bool) (r : Bool) (w : World) (hr : Kd.C Kd.string w A l.length l) (hc : l.length ≤ c) (hr2 : Kd.C Kd.bool w A2 hv.length hv) (hc2 : hv.length ≤ c2) (h : r = true ∧ l.length * 16 ≤ 140737488351232) :
    Calls Try.prog 22 #[.agg #[.int .i64 d, .int .i64 p], .slice A l.length c, .slice A2 hv.length c2] w fun e w' => e = .returned (.bool r) ∧ Below w.heap.size w w' := by
  obtain ⟨rfl, hl⟩ := h
  obtain ⟨k, hk⟩ : ∃ k, k = l.length + 61001 := ⟨_, rfl⟩
  obtain ⟨⟨r1, r2⟩, h1, h2, h3⟩ := reb_same (show 61000 < k by omega) d p l hv
  have hs : r1.length ≤ 6 ∧ ∀ x ∈ r1, x.size ≤ 5000 := h3
  exact rebuilds_walk k d p A c l A2 c2 hv r1 r2 w hr hc hr2 hc2 uX h1 h2 (same_self _ (by have := hs.1; omega) (by have := hs.1; omega)) (same_self _ uX uX) (awake8_f uX) hs.2
end Go.Proofs.Ytaahnicjjpddjaa.Enc
end
section
namespace Go.Proofs.Ytaahnicjjpddjaa.Pure
set_option linter.unusedVariables false
theorem Rebuilds {G G' : Prop} {S : ByteArray → Prop} {B : Bool → Prop} {T : Prop} (a0 b0 : Int) (_ : G) (_ : G') (l : List ByteArray) (_ : ∀ x ∈ l, S x) (s : l.length * 16 ≤ 140737488351232) (l2 : List Bool) (_ : ∀ x ∈ l2, B x) (_ : T) : true = true ∧ l.length * 16 ≤ 140737488351232 := ⟨rfl, s⟩
end Go.Proofs.Ytaahnicjjpddjaa.Pure
end
section
namespace Go.Proofs.Ytaahnicjjpddjaa.Opn
open Go.RowKit Go.ChangeShapes Go.WideShapes Go.Joins Go.Deep Go.Proofs.YtaahnicjjpddjaaW.PrintWords
section
variable {H : Type}
/-- What reads as a datum of type e is of kind d, and G holds of it. -/
def Opens (enc : TypeId × Value → H) (P : Program) (W : World) (e : TypeId) {α : Type} (d : Kd α) (G : α → Prop) : Prop :=
  ∀ (n : Nat) (V : Value) (D : DataW H) (Pl : List MemPlace), DataW.trod enc P W 0 (fun _ => true) true n e [V] = some (D, Pl) →
    (∀ m ∈ D.weights P e, m ≤ 140737488351232) → ∃ x, d.K W x [V] ∧ G x
variable {enc : TypeId × Value → H} {P : Program} {W : World}
theorem opens_bool {e : TypeId} (he : P.underlying e = some .bool) : Opens enc P W e Kd.bool (fun _ => True) := by
  intro n V D Pl h _
  obtain ⟨x, hcs, _⟩ := DataW.trod_bool he h
  exact ⟨x, hcs, trivial⟩
theorem opens_string {e : TypeId} (he : P.underlying e = some .string) : Opens enc P W e Kd.string (fun x => x.size ≤ 140737488351232) := by
  intro n V D Pl h hz
  obtain ⟨x, hcs, hx, _⟩ := DataW.trod_string he h
  simp only [Prod.mk.injEq] at hx
  refine ⟨x, hcs, ?_⟩
  have h1 := hz x.data.toList.length (by rw [hx.1]; simp [DataW.weights])
  rw [Array.length_toList] at h1
  exact h1
theorem weights_mem_all {e : TypeId} {n : Nat} : ∀ {ds : List (DataW H)} {d : DataW H}, d ∈ ds → n ∈ d.weights P e → n ∈ DataW.weightsAll P e ds
  | d0 :: ds, d, hd, hn => by
    simp only [DataW.weightsAll, List.mem_append]
    rcases List.mem_cons.1 hd with rfl | h
    · exact .inl hn
    · exact .inr (weights_mem_all h hn)
  | [], _, hd, _ => by simp at hd
theorem opens_slice {t e : TypeId} {α : Type} {d : Kd α} {G : α → Prop} (B : Nat) (ht : P.underlying t = some (.slice e)) (hc : P.cellsOf e = 1) (hB : P.bytesOf e = B) (hd : d.sz = 1)
    (ho : Opens enc P W e d G) : Opens enc P W t (Kd.slice e d) (fun xs => (∀ x ∈ xs, G x) ∧ xs.length * B ≤ 140737488351232) := by
  intro n V D Pl h hz
  rcases open_slice1 ht hc h with ⟨hcs, _⟩ | ⟨a, len, cap, m, n', V', D', Pl', hcs, _, hl, hm, hmm, hx, each⟩
  · simp only [List.cons.injEq, and_true] at hcs
    subst hcs
    exact ⟨[], ⟨none, 0, rfl, Nat.le_refl _, Kd.C_nil _ _⟩, by simp, by simp⟩
  · simp only [if_true] at hmm
    subst hmm
    simp only [List.cons.injEq, and_true] at hcs
    subst hcs
    simp only [Prod.mk.injEq] at hx
    have hw : (len + (m - len)) * B ≤ 140737488351232 ∧ ∀ i, i < len → ∀ q ∈ (D' i).weights P e, q ≤ 140737488351232 := by
      rw [hx.1] at hz
      simp only [DataW.weights, ht, List.mem_cons, List.mem_append] at hz
      constructor
      · have h1 := hz _ (.inl rfl)
        simp only [List.length_map, List.length_range, hB] at h1
        exact h1
      · intro i hi q hq
        exact hz q (.inr (.inl (weights_mem_all (List.mem_map.2 ⟨i, List.mem_range.2 hi, rfl⟩) hq)))
    have hex : ∀ i, i < len → ∃ x : α, d.K W x [V' i] ∧ G x := fun i hi => ho n' (V' i) (D' i) (Pl' i) (each i (by omega)).2 (hw.2 i hi)
    have hex2 : ∀ i, ∃ x : Option α, i < len → ∃ y, x = some y ∧ d.K W y [V' i] ∧ G y := by
      intro i
      by_cases hi : i < len
      · obtain ⟨x, hx⟩ := hex i hi
        exact ⟨some x, fun _ => ⟨x, rfl, hx⟩⟩
      · exact ⟨none, fun h => absurd h hi⟩
    let X : Nat → Option α := fun i => (hex2 i).choose
    have hX : ∀ i, i < len → ∃ y, X i = some y ∧ d.K W y [V' i] ∧ G y := fun i => (hex2 i).choose_spec
    let xs : List α := (List.range len).filterMap X
    have hall : ∀ k, k ≤ len → ((List.range k).filterMap X).length = k ∧ ∀ j, j < k → ∃ y, ((List.range k).filterMap X)[j]? = some y ∧ d.K W y [V' j] ∧ G y := by
      intro k
      induction k with
      | zero => intro _; exact ⟨rfl, fun j hj => absurd hj (by omega)⟩
      | succ k ih =>
        intro hk
        obtain ⟨h1, h2⟩ := ih (by omega)
        obtain ⟨y, hy, hy2⟩ := hX k (by omega)
        have e1 : (List.range (k + 1)).filterMap X = (List.range k).filterMap X ++ [y] := by
          rw [List.range_succ, List.filterMap_append]
          simp [hy]
        rw [e1]
        refine ⟨by rw [List.length_append, h1]; rfl, fun j hj => ?_⟩
        by_cases hj2 : j < k
        · obtain ⟨z, hz1, hz2⟩ := h2 j hj2
          exact ⟨z, by rw [List.getElem?_append_left (by omega)]; exact hz1, hz2⟩
        · have : j = k := by omega
          subst this
          exact ⟨y, by rw [List.getElem?_append_right (by omega), h1]; simp, hy2⟩
    obtain ⟨hlen, hget⟩ := hall len (Nat.le_refl _)
    have hxl : xs.length = len := hlen
    refine ⟨xs, ⟨some a, m, by rw [hlen], by rw [hlen]; exact hl, ⟨rfl, by rw [hlen]; unfold maxLen at hm; omega, fun _ => ⟨a, rfl, ?_⟩⟩⟩, ?_, ?_⟩
    · intro j p hp
      have hj : j < len := by
        have := (List.getElem?_eq_some_iff.1 hp).1
        omega
      obtain ⟨y, hy1, hy2, _⟩ := hget j hj
      have e2 : p = y := Option.some.inj (hp.symm.trans hy1)
      subst e2
      refine ⟨[V' j], by rw [hd]; rfl, hy2, fun i u hu => ?_⟩
      have hi0 : i = 0 := by
        have := (List.getElem?_eq_some_iff.1 hu).1
        simpa using this
      subst hi0
      have hu' : V' j = u := by simpa using hu
      rw [hd, Nat.mul_one, Nat.add_zero, ← hu']
      exact (each j (by omega)).1
    · intro x hx2
      obtain ⟨j, hj, hxj⟩ := List.mem_iff_getElem.1 hx2
      have hj' : j < len := by omega
      obtain ⟨y, hy1, _, hy3⟩ := hget j hj'
      have e2 : some x = some y := by rw [← hy1]; exact (List.getElem?_eq_some_iff.2 ⟨hj, hxj⟩).symm
      rw [Option.some.inj e2]; exact hy3
    · rw [hlen]
      exact Nat.le_trans (Nat.mul_le_mul_right _ (by omega)) hw.1
/-- A parameter of a slice's type. -/
theorem param_slice {t e : TypeId} {α : Type} {d : Kd α} {G : α → Prop} {r : Reach} {b0 B : Nat} {v : Value} {D : DataW H} {p : List MemPlace} {ts : List TypeId} {ds : List (DataW H)} {j : Nat}
    (ht : P.underlying t = some (.slice e)) (hc : P.cellsOf e = 1) (hB : P.bytesOf e = B) (hd : d.sz = 1) (ho : Opens enc P W e d G)
    (hv : Value.okWide P W r b0 t v) (h : DataW.Trod enc P W 0 (fun _ => true) true t v D p)
    (hsz : (DataW.weightsEach P ts ds).all (· ≤ reachBytes) = true) (hj : ts[j]? = some t) (hD : ds[j]? = some D) :
    ∃ A c xs, v = .slice A (List.length xs) c ∧ xs.length ≤ c ∧ d.C W A xs.length xs ∧ (∀ x ∈ xs, G x) ∧ xs.length * B ≤ 140737488351232 := by
  obtain ⟨a, len, cap, rfl⟩ := okWide_slice ht hv
  obtain ⟨n, hf⟩ := h
  have hz : ∀ m ∈ D.weights P t, m ≤ 140737488351232 := fun m hm => by
    have := List.all_eq_true.1 hsz _ (DataW.weights_mem_each hj hD m hm)
    exact of_decide_eq_true this
  obtain ⟨xs, ⟨A, c, hcs, hl, hC⟩, hG⟩ := opens_slice (enc := enc) B ht hc hB hd ho n (.slice a len cap) D p (by simpa [Value.cells] using hf) hz
  simp only [List.cons.injEq, and_true] at hcs
  exact ⟨A, c, xs, hcs, hl, hC, hG.1, hG.2⟩
/-- A parameter that is a struct of two whole numbers. -/
theorem param_two {t : TypeId} {f0 f1 : Field} {k : IntKind} {r : Reach} {b0 : Nat} {v : Value} {D : DataW H} {p : List MemPlace}
    (hs : P.underlying t = some (.struct #[f0, f1])) (hone : oneCellFields P #[f0, f1] = true) (hC : P.cellsOf t = 2)
    (h0 : P.underlying f0.type = some (.int k)) (h1 : P.underlying f1.type = some (.int k))
    (hv : Value.okWide P W r b0 t v) (h : DataW.Trod enc P W 0 (fun _ => true) true t v D p) :
    ∃ a b, v = .agg #[.int k a, .int k b] ∧ (Lit.int k a).wf = true ∧ (Lit.int k b).wf = true := by
  obtain ⟨c0, c1, y0, y1, m, rfl, _, _, hy0, hy1⟩ := open_agg2 hs hone hC hv h
  obtain ⟨a, e0, _, wa⟩ := DataW.trod_int h0 hy0
  obtain ⟨b, e1, _, wb⟩ := DataW.trod_int h1 hy1
  simp only [List.cons.injEq, and_true] at e0 e1
  subst e0 e1
  exact ⟨a, b, rfl, wa, wb⟩
end
end Go.Proofs.Ytaahnicjjpddjaa.Opn
end
