/- Words of the code: what is decoded and rebuilt of some of their rows is the word again. No condition. -/
import Derived.Test.YtaahnicjjpddjaaEncLaw
import Derived.Test.YtaahnicjjpddjaaGVec3
namespace Go.Proofs.Ytaahnicjjpddjaa.Enc
open Go.RowKit Go.Proofs.YtaahnicjjpddjaaW.PrintWords Go.Proofs.YtaahnicjjpddjaaW.PrintLast Go.Proofs.YtaahnicjjpddjaaW.PrintMore Go.Proofs.Ytaahnicjjpddjaa.Fld Go.Proofs.Ytaahnicjjpddjaa.Mat Go.Proofs.Ytaahnicjjpddjaa.Fn Go.Proofs.Ytaahnicjjpddjaa.Pr Go.Proofs.Ytaahnicjjpddjaa.GEnc
open Go.Proofs.Ytaahnicjjpddjaa.GvcVec (combine alikeB alikeB_mk alikeB_size row0 row0_mem vcomb alike_f bF accF combine_yes ba_bytes sumF_size sumF_byte rdOf_nat)

/-- a word of the code. -/
noncomputable def word (d p : Nat) (data : List ByteArray) : List ByteArray := data ++ par d p data
theorem word_length (d p : Nat) (data : List ByteArray) (hl : data.length = d) : (word d p data).length = d + p := by unfold word; rw [List.length_append, par_length, hl]
theorem txt_get (xs : List ByteArray) (i : Nat) (h : i < xs.length) : txt xs i = xs[i] := getD_get xs _ i h
theorem word_top {d p : Nat} {data : List ByteArray} (hl : data.length = d) {r : Nat} (hr : r < d) : txt (word d p data) r = txt data r := by
  rw [txt_get _ _ (by rw [word_length d p data hl]; omega), txt_get _ _ (by omega)]
  unfold word
  rw [List.getElem_append_left (by omega)]
theorem word_low {d p : Nat} {data : List ByteArray} (hl : data.length = d) {r : Nat} (hr : d ≤ r) (hr' : r < d + p) : txt (word d p data) r = cmb d (code d r) data := by
  rw [txt_get _ _ (by rw [word_length d p data hl]; omega)]
  unfold word
  rw [List.getElem_append_right (by omega)]
  unfold par
  rw [List.getElem_map, List.getElem_range, hl, show d + (r - d) = r by omega]
theorem data_size {d : Nat} {data : List ByteArray} (hl : data.length = d) (ha : alikeB data = true) {i : Nat} (hi : i < d) : (txt data i).size = (row0 data).size := by
  rw [txt_get _ _ (by omega)]
  exact ((alikeB_size ha) _ (List.getElem_mem _)).1
theorem word_size {d p : Nat} (h1 : 1 ≤ d) (h2 : d ≤ 4) {data : List ByteArray} (hl : data.length = d) (ha : alikeB data = true) {r : Nat} (hr : r < d + p) : (txt (word d p data) r).size = (row0 data).size := by
  by_cases h : r < d
  · rw [word_top hl h]; exact data_size hl ha h
  · rw [word_low hl (by omega) hr]; exact cmb_size _ h1 (by omega) hl ha
theorem word_byte {d p : Nat} (h1 : 1 ≤ d) (h2 : d ≤ 4) {data : List ByteArray} (hl : data.length = d) (ha : alikeB data = true) {r : Nat} (hr : r < d + p) (j : Nat) (hj : j < (row0 data).size) :
    bF (txt (word d p data) r) j = mm d (code d) (fun k j => bF (txt data k) j) r j := by
  by_cases h : r < d
  · rw [word_top hl h]
    refine (sum_delta d r (fun k => bF (txt data k) j) h).symm.trans (sum_congr _ _ _ (fun k hk => ?_))
    rw [code_top (by omega) r k h hk]
  · rw [word_low hl (by omega) hr]
    exact cmb_byte _ h1 (by omega) hl ha j hj
theorem alike_all {xs : List ByteArray} {m : Nat} (hm : m ≤ 4096) (h : ∀ x ∈ xs, x.size = m) : alikeB xs = true := by
  by_cases h0 : 0 < xs.length
  · exact (alikeB_mk m hm h h0).1
  · have : xs = [] := List.length_eq_zero_iff.1 (by omega)
    subst this; rfl
theorem row0_size {xs : List ByteArray} {m : Nat} (h : ∀ x ∈ xs, x.size = m) (h0 : 0 < xs.length) : (row0 xs).size = m := h _ (row0_mem h0)
/-- what is decoded of rows of a word. -/
theorem decd_word {d p : Nat} (h1 : 1 ≤ d) (h2 : d ≤ 4) {data own : List ByteArray} (hl : data.length = d) (ha : alikeB data = true) (ho : own.length = d) (rs : Nat → Nat) (hr : ∀ t, t < d → rs t < d + p)
    (he : ∀ t, t < d → txt own t = txt (word d p data) (rs t)) {y : Nat → Nat → F} (hy : eqM d (mm d y (fun i j => code d (rs i) j)) delta) : decd d y own = data := by
  have hm := (alikeB_size ha _ (row0_mem (by omega))).2
  have hs : ∀ x ∈ own, x.size = (row0 data).size := fun x hx => by
    obtain ⟨t, ht, rfl⟩ := List.getElem_of_mem hx
    have e := he t (by omega)
    rw [txt_get _ _ ht] at e
    rw [e]
    exact word_size h1 h2 hl ha (hr t (by omega))
  have hoa := alike_all hm hs
  have hor := row0_size hs (by omega)
  apply List.ext_getElem
  · rw [decd_length, hl]
  · intro i hi1 hi2
    have hi : i < d := by rw [decd_length] at hi1; exact hi1
    have e0 : (decd d y own)[i] = cmb d (y i) own := by simp [decd]
    rw [e0]
    have hsz : (cmb d (y i) own).size = (row0 data).size := by rw [cmb_size _ h1 (by omega) ho hoa, hor]
    have hds := data_size hl ha hi
    rw [txt_get _ _ (by omega)] at hds
    refine ba_bytes (by rw [hsz, hds]) (fun j hj => ?_)
    rw [hsz] at hj
    rw [cmb_byte _ h1 (by omega) ho hoa j (by omega)]
    have e1 : sumF d (fun t => fm (y i t) (bF (own.getD t ByteArray.empty) j)) = mm d y (mm d (fun t k => code d (rs t) k) (fun k j => bF (txt data k) j)) i j :=
      sum_congr _ _ _ (fun t ht => by
        have e2 := word_byte h1 h2 hl ha (hr t ht) j hj
        rw [← he t ht] at e2
        show fm (y i t) (bF (txt own t) j) = _
        rw [e2]; rfl)
    rw [e1, ← mm_assoc]
    have e3 : mm d (mm d y (fun t k => code d (rs t) k)) (fun k j => bF (txt data k) j) i j = mm d delta (fun k j => bF (txt data k) j) i j := mm_congr d _ _ _ _ i j (fun k hk => hy i k hi hk) (fun _ _ => rfl)
    rw [e3, delta_mm d _ i j hi, txt_get _ _ (by omega)]
/-- decoding, of a word some of whose rows are there, whatever the rest. -/
theorem dec_word {k : Nat} (hk : 61000 < k) {d p : Nat} (h1 : 1 ≤ d) (h2 : d ≤ 4) (h3 : p ≤ 2) {data shards : List ByteArray} {hv : List Bool} (hl : data.length = d) (ha : alikeB data = true) (hs : shards.length = d + p) (hh : hv.length = d + p)
    (hn : d ≤ (had hv 0).length) (hoa : alikeB (ownOf shards hv) = true) (he : ∀ t, t < d → txt shards ((had hv 0).getD t 0) = txt (word d p data) ((had hv 0).getD t 0)) :
    decode_Decode.f k (d : Int) (p : Int) shards hv = some (data, 0) := by
  have h := dec_f hk d p h1 h2 h3 shards hv hs hh
  unfold decEnd at h
  rw [if_pos hoa, if_neg (by omega)] at h
  obtain ⟨y, hy, h⟩ := h
  rw [h]
  have hto : ((ownOf shards hv).take d).length = d := by rw [List.length_take, own_length]; omega
  rw [decd_word (p := p) h1 h2 hl ha hto (fun t => (had hv 0).getD t 0) (fun t ht => ?_) (fun t ht => ?_) hy]
  · show (had hv 0).getD t 0 < d + p
    rw [getD_get _ _ _ (show t < (had hv 0).length by omega)]
    have := (had_lo hv 0 _ (List.getElem_mem (show t < (had hv 0).length by omega))).2.1
    omega
  · rw [← he t ht, txt_get _ _ (by omega), List.getElem_take]
    unfold ownOf
    rw [List.getElem_map, getD_get _ _ _ (by omega)]
/-- .. and rebuilding. -/
theorem reb_word {k : Nat} (hk : 61000 < k) {d p : Nat} (h1 : 1 ≤ d) (h2 : d ≤ 4) (h3 : p ≤ 2) {data shards : List ByteArray} {hv : List Bool} (hl : data.length = d) (ha : alikeB data = true) (hs : shards.length = d + p) (hh : hv.length = d + p)
    (hn : d ≤ (had hv 0).length) (hoa : alikeB (ownOf shards hv) = true) (he : ∀ t, t < d → txt shards ((had hv 0).getD t 0) = txt (word d p data) ((had hv 0).getD t 0)) :
    rebuild_Rebuild.f k (d : Int) (p : Int) shards hv = some (word d p data, 0) := by
  unfold rebuild_Rebuild.f
  rw [dec_word hk h1 h2 h3 hl ha hs hh hn hoa he]
  simp only [Option.bind_some, if_true]
  rw [enc_f hk d p h1 h2 h3 data hl ha]
  simp only [Option.bind_some]
  rw [if_pos (by rw [par_length]; omega)]
  rfl
theorem dec_few {k : Nat} (hk : 61000 < k) {d p : Nat} (h1 : 1 ≤ d) (h2 : d ≤ 4) (h3 : p ≤ 2) {shards : List ByteArray} {hv : List Bool} (hs : shards.length = d + p) (hh : hv.length = d + p)
    (hn : (had hv 0).length < d) (hoa : alikeB (ownOf shards hv) = true) : decode_Decode.f k (d : Int) (p : Int) shards hv = some ([], 701) := by
  have h := dec_f hk d p h1 h2 h3 shards hv hs hh
  unfold decEnd at h
  rw [if_pos hoa, if_pos hn] at h
  exact h
theorem dec_bad {k : Nat} (hk : 61000 < k) {d p : Nat} (h1 : 1 ≤ d) (h2 : d ≤ 4) (h3 : p ≤ 2) {shards : List ByteArray} {hv : List Bool} (hs : shards.length = d + p) (hh : hv.length = d + p)
    (hoa : alikeB (ownOf shards hv) = false) : decode_Decode.f k (d : Int) (p : Int) shards hv = some ([], 700) := by
  have h := dec_f hk d p h1 h2 h3 shards hv hs hh
  unfold decEnd at h
  rw [if_neg (by rw [hoa]; decide)] at h
  exact h
theorem reb_few {k : Nat} (hk : 61000 < k) {d p : Nat} (h1 : 1 ≤ d) (h2 : d ≤ 4) (h3 : p ≤ 2) {shards : List ByteArray} {hv : List Bool} (hs : shards.length = d + p) (hh : hv.length = d + p)
    (hn : (had hv 0).length < d) (hoa : alikeB (ownOf shards hv) = true) : rebuild_Rebuild.f k (d : Int) (p : Int) shards hv = some ([], 801) := by
  have h := dec_f hk d p h1 h2 h3 shards hv hs hh
  unfold decEnd at h
  rw [if_pos hoa, if_pos hn] at h
  unfold rebuild_Rebuild.f
  rw [h]; rfl
theorem reb_bad {k : Nat} (hk : 61000 < k) {d p : Nat} (h1 : 1 ≤ d) (h2 : d ≤ 4) (h3 : p ≤ 2) {shards : List ByteArray} {hv : List Bool} (hs : shards.length = d + p) (hh : hv.length = d + p)
    (hoa : alikeB (ownOf shards hv) = false) : rebuild_Rebuild.f k (d : Int) (p : Int) shards hv = some ([], 800) := by
  have h := dec_f hk d p h1 h2 h3 shards hv hs hh
  unfold decEnd at h
  rw [if_neg (by rw [hoa]; decide)] at h
  unfold rebuild_Rebuild.f
  rw [h]; rfl
theorem reb_no {k : Nat} (hk : 61000 < k) (a b : Int) (shards : List ByteArray) (hv : List Bool) (h : ¬ ((1 ≤ a ∧ a ≤ 4 ∧ 0 ≤ b ∧ b ≤ 2) ∧ (shards.length : Int) = a + b ∧ hv.length = shards.length)) : rebuild_Rebuild.f k a b shards hv = some ([], 800) := by
  unfold rebuild_Rebuild.f
  rw [dec_no hk a b shards hv h]; rfl

theorem same_l (xs : List ByteArray) (hb : xs.length < 9223372036854775807) (d : Nat) : ∀ (k i : Nat), i + d = xs.length → d < k → GVec.ossuarylaw0_SameTexts.l0 k xs xs (i : Int) = some true := by
  induction d with
  | zero =>
    intro k i hi hk
    obtain ⟨k, rfl⟩ : ∃ m, k = m + 1 := ⟨k - 1, by omega⟩
    simp only [GVec.ossuarylaw0_SameTexts.l0]
    rw [if_neg (by omega)]
  | succ d ih =>
    intro k i hi hk
    obtain ⟨k, rfl⟩ : ∃ m, k = m + 1 := ⟨k - 1, by omega⟩
    simp only [GVec.ossuarylaw0_SameTexts.l0]
    rw [if_pos (by omega), if_pos (by omega), if_pos (by omega), if_pos trivial, show wrap64 ((i : Int) + 1) = ((i + 1 : Nat) : Int) from wrap64_in (by omega) (by omega), ih k (i + 1) (by omega) (by omega)]
theorem same_self {k : Nat} (xs : List ByteArray) (hb : xs.length < 9223372036854775807) (hk : xs.length < k) : GVec.ossuarylaw0_SameTexts.f k xs xs = some true := by
  unfold GVec.ossuarylaw0_SameTexts.f
  rw [if_pos rfl]
  exact same_l xs hb xs.length k 0 (by omega) (by omega)
theorem par21 : par 2 1 [⟨#[97]⟩, ⟨#[98]⟩] = [⟨#[103]⟩] := by
  have e : rowOf (fun j => toI (code 2 2 j)) 2 = [3, 2] := by
    have h := fmat_get (code 2) 3 2 2 (by rw [fmat_length]; omega)
    rw [← h]
    simp only [code21]; rfl
  unfold par cmb
  simp only [List.range_succ, List.range_zero, List.nil_append, List.map_cons, List.map_nil]
  rw [show 2 + 0 = 2 from rfl, e]
  decide +kernel
end Go.Proofs.Ytaahnicjjpddjaa.Enc
