/- Words of the code: what is decoded and rebuilt of some of their rows is the word again. No condition. Equal pieces of a text, and what is decoded and rebuilt of texts that are alike. Plain; no condition. The reference's product of matrices: what it comes to. Plain; no condition. -/
import Derived.Test.YtaahnicjjpddjaaKRebuildMendsEncLaw
import Derived.Test.YtaahnicjjpddjaaKRebuildMendsRefInvSt
import Derived.Test.YtaahnicjjpddjaaKRebuildMendsGRef4
section
namespace Go.Proofs.Ytaahnicjjpddjaa.Enc
open Go.RowKit Go.Proofs.YtaahnicjjpddjaaW.PrintWords Go.Proofs.YtaahnicjjpddjaaW.PrintLast Go.Proofs.YtaahnicjjpddjaaW.PrintMore Go.Proofs.Ytaahnicjjpddjaa.Fld Go.Proofs.Ytaahnicjjpddjaa.Mat Go.Proofs.Ytaahnicjjpddjaa.Fn Go.Proofs.Ytaahnicjjpddjaa.Pr Go.Proofs.Ytaahnicjjpddjaa.GEnc
open Go.Proofs.Ytaahnicjjpddjaa.GvcVec (combine alikeB alikeB_mk alikeB_size row0 row0_mem vcomb alike_f bF accF combine_yes ba_bytes sumF_size sumF_byte rdOf_nat)
/-- a word of the code. -/
noncomputable def word (d p : Nat) (data : List ByteArray) : List ByteArray := data ++ par d p data
theorem word_length (d p : Nat) (data : List ByteArray) (hl : data.length = d) : (word d p data).length = d + p := by unfold word; rw [List.length_append, par_length, hl]
theorem txt_get (xs : List ByteArray) (i : Nat) (h : i < xs.length) : txt xs i = xs[i] := getD_get xs _ i h
theorem word_top {d p : Nat} {data : List ByteArray} (hl : data.length = d) {r : Nat} (hr : r < d) : txt (word d p data) r = txt data r := by
  rw [txt_get _ _ (by rw [word_length d p data hl]; omega), txt_get _ _ uV]
  unfold word
  rw [List.getElem_append_left uV]
theorem word_low {d p : Nat} {data : List ByteArray} (hl : data.length = d) {r : Nat} (hr : d ≤ r) (hr' : r < d + p) : txt (word d p data) r = cmb d (code d r) data := by
  rw [txt_get _ _ (by rw [word_length d p data hl]; omega)]
  unfold word
  rw [List.getElem_append_right uV]
  unfold par
  rw [List.getElem_map, List.getElem_range, hl, show d + (r - d) = r by omega]
theorem data_size {d : Nat} {data : List ByteArray} (hl : data.length = d) (ha : alikeB data = true) {i : Nat} (hi : i < d) : (txt data i).size = (row0 data).size := by
  rw [txt_get _ _ uV]
  exact ((alikeB_size ha) _ (List.getElem_mem _)).1
theorem word_size {d p : Nat} (h1 : 1 ≤ d) (h2 : d ≤ 4) {data : List ByteArray} (hl : data.length = d) (ha : alikeB data = true) {r : Nat} (hr : r < d + p) : (txt (word d p data) r).size = (row0 data).size := by
  by_cases h : r < d
  · rw [word_top hl h]; exact data_size hl ha h
  · rw [word_low hl uV hr]; exact cmb_size _ h1 uV hl ha
theorem word_byte {d p : Nat} (h1 : 1 ≤ d) (h2 : d ≤ 4) {data : List ByteArray} (hl : data.length = d) (ha : alikeB data = true) {r : Nat} (hr : r < d + p) (j : Nat) (hj : j < (row0 data).size) :
    bF (txt (word d p data) r) j = mm d (code d) (fun k j => bF (txt data k) j) r j := by
  by_cases h : r < d
  · rw [word_top hl h]
    refine (sum_delta d r (fun k => bF (txt data k) j) h).symm.trans (sum_congr _ _ _ (fun k hk => ?_))
    rw [code_top uV r k h hk]
  · rw [word_low hl uV hr]
    exact cmb_byte _ h1 uV hl ha j hj
theorem alike_all {xs : List ByteArray} {m : Nat} (hm : m ≤ 4096) (h : ∀ x ∈ xs, x.size = m) : alikeB xs = true := by
  by_cases h0 : 0 < xs.length
  · exact (alikeB_mk m hm h h0).1
  · have : xs = [] := List.length_eq_zero_iff.1 uV
    subst this; rfl
theorem row0_size {xs : List ByteArray} {m : Nat} (h : ∀ x ∈ xs, x.size = m) (h0 : 0 < xs.length) : (row0 xs).size = m := h _ (row0_mem h0)
/-- what is decoded of rows of a word. -/
theorem decd_word {d p : Nat} (h1 : 1 ≤ d) (h2 : d ≤ 4) {data own : List ByteArray} (hl : data.length = d) (ha : alikeB data = true) (ho : own.length = d) (rs : Nat → Nat) (hr : ∀ t, t < d → rs t < d + p)
    (he : ∀ t, t < d → txt own t = txt (word d p data) (rs t)) {y : Nat → Nat → F} (hy : eqM d (mm d y (fun i j => code d (rs i) j)) delta) : decd d y own = data := by
  have hm := (alikeB_size ha _ (row0_mem uV)).2
  have hs : ∀ x ∈ own, x.size = (row0 data).size := fun x hx => by
    obtain ⟨t, ht, rfl⟩ := List.getElem_of_mem hx
    have e := he t uV
    rw [txt_get _ _ ht] at e
    rw [e]
    exact word_size h1 h2 hl ha (hr t uV)
  have hoa := alike_all hm hs
  have hor := row0_size hs uV
  apply List.ext_getElem
  · rw [decd_length, hl]
  · intro i hi1 hi2
    have hi : i < d := by rw [decd_length] at hi1; exact hi1
    have e0 : (decd d y own)[i] = cmb d (y i) own := by simp [decd]
    rw [e0]
    have hsz : (cmb d (y i) own).size = (row0 data).size := by rw [cmb_size _ h1 uV ho hoa, hor]
    have hds := data_size hl ha hi
    rw [txt_get _ _ uV] at hds
    refine ba_bytes (by rw [hsz, hds]) (fun j hj => ?_)
    rw [hsz] at hj
    rw [cmb_byte _ h1 uV ho hoa j uV]
    have e1 : sumF d (fun t => fm (y i t) (bF (own.getD t ByteArray.empty) j)) = mm d y (mm d (fun t k => code d (rs t) k) (fun k j => bF (txt data k) j)) i j :=
      sum_congr _ _ _ (fun t ht => by
        have e2 := word_byte h1 h2 hl ha (hr t ht) j hj
        rw [← he t ht] at e2
        show fm (y i t) (bF (txt own t) j) = _
        rw [e2]; rfl)
    rw [e1, ← mm_assoc]
    have e3 : mm d (mm d y (fun t k => code d (rs t) k)) (fun k j => bF (txt data k) j) i j = mm d delta (fun k j => bF (txt data k) j) i j := mm_congr d _ _ _ _ i j (fun k hk => hy i k hi hk) (fun _ _ => rfl)
    rw [e3, delta_mm d _ i j hi, txt_get _ _ uV]
/-- decoding, of a word some of whose rows are there, whatever the rest. -/
theorem dec_word {k : Nat} (hk : 61000 < k) {d p : Nat} (h1 : 1 ≤ d) (h2 : d ≤ 4) (h3 : p ≤ 2) {data shards : List ByteArray} {hv : List Bool} (hl : data.length = d) (ha : alikeB data = true) (hs : shards.length = d + p) (hh : hv.length = d + p)
    (hn : d ≤ (had hv 0).length) (hoa : alikeB (ownOf shards hv) = true) (he : ∀ t, t < d → txt shards ((had hv 0).getD t 0) = txt (word d p data) ((had hv 0).getD t 0)) :
    decode_Decode.f k (d : Int) (p : Int) shards hv = some (data, 0) := by
  have h := dec_f hk d p h1 h2 h3 shards hv hs hh
  unfold decEnd at h
  rw [if_pos hoa, if_neg uV] at h
  obtain ⟨y, hy, h⟩ := h
  rw [h]
  have hto : ((ownOf shards hv).take d).length = d := by rw [List.length_take, own_length]; omega
  rw [decd_word (p := p) h1 h2 hl ha hto (fun t => (had hv 0).getD t 0) (fun t ht => ?_) (fun t ht => ?_) hy]
  · show (had hv 0).getD t 0 < d + p
    rw [getD_get _ _ _ (show t < (had hv 0).length by omega)]
    have := (had_lo hv 0 _ (List.getElem_mem (show t < (had hv 0).length by omega))).2.1
    omega
  · rw [← he t ht, txt_get _ _ uV, List.getElem_take]
    unfold ownOf
    rw [List.getElem_map, getD_get _ _ _ uV]
/-- .. and rebuilding. -/
theorem reb_word {k : Nat} (hk : 61000 < k) {d p : Nat} (h1 : 1 ≤ d) (h2 : d ≤ 4) (h3 : p ≤ 2) {data shards : List ByteArray} {hv : List Bool} (hl : data.length = d) (ha : alikeB data = true) (hs : shards.length = d + p) (hh : hv.length = d + p)
    (hn : d ≤ (had hv 0).length) (hoa : alikeB (ownOf shards hv) = true) (he : ∀ t, t < d → txt shards ((had hv 0).getD t 0) = txt (word d p data) ((had hv 0).getD t 0)) :
    rebuild_Rebuild.f k (d : Int) (p : Int) shards hv = some (word d p data, 0) := by
  unfold rebuild_Rebuild.f
  rw [dec_word hk h1 h2 h3 hl ha hs hh hn hoa he]
  simp only [Option.bind_some, if_true]
  rw [enc_f hk d p h1 h2 h3 data hl ha]
  simp only [Option.bind_some]
  rw [if_pos (by rw [par_length]; omega)]
  rfl
theorem reb_few {k : Nat} (hk : 61000 < k) {d p : Nat} (h1 : 1 ≤ d) (h2 : d ≤ 4) (h3 : p ≤ 2) {shards : List ByteArray} {hv : List Bool} (hs : shards.length = d + p) (hh : hv.length = d + p)
    (hn : (had hv 0).length < d) (hoa : alikeB (ownOf shards hv) = true) : rebuild_Rebuild.f k (d : Int) (p : Int) shards hv = some ([], 801) := by
  have h := dec_f hk d p h1 h2 h3 shards hv hs hh
  unfold decEnd at h
  rw [if_pos hoa, if_pos hn] at h
  unfold rebuild_Rebuild.f
  rw [h]; rfl
theorem reb_no {k : Nat} (hk : 61000 < k) (a b : Int) (shards : List ByteArray) (hv : List Bool) (h : ¬ ((1 ≤ a ∧ a ≤ 4 ∧ 0 ≤ b ∧ b ≤ 2) ∧ (shards.length : Int) = a + b ∧ hv.length = shards.length)) : rebuild_Rebuild.f k a b shards hv = some ([], 800) := by
  unfold rebuild_Rebuild.f
  rw [dec_no hk a b shards hv h]; rfl
theorem same_l (xs : List ByteArray) (hb : xs.length < 9223372036854775807) (d : Nat) : ∀ (k i : Nat), i + d = xs.length → d < k → GVec.ossuarylaw0_SameTexts.l0 k xs xs (i : Int) = some true := by
  induction d with
  | zero =>
    intro k i hi hk
    obtain ⟨k, rfl⟩ : ∃ m, k = m + 1 := ⟨k - 1, uV⟩
    simp only [GVec.ossuarylaw0_SameTexts.l0]
    rw [if_neg uV]
  | succ d ih =>
    intro k i hi hk
    obtain ⟨k, rfl⟩ : ∃ m, k = m + 1 := ⟨k - 1, uV⟩
    simp only [GVec.ossuarylaw0_SameTexts.l0]
    rw [if_pos uV, if_pos uV, if_pos uV, if_pos trivial, show wrap64 ((i : Int) + 1) = ((i + 1 : Nat) : Int) from wrap64_in uV uV, ih k (i + 1) uV uV]
theorem same_self {k : Nat} (xs : List ByteArray) (hb : xs.length < 9223372036854775807) (hk : xs.length < k) : GVec.ossuarylaw0_SameTexts.f k xs xs = some true := by
  unfold GVec.ossuarylaw0_SameTexts.f
  rw [if_pos rfl]
  exact same_l xs hb xs.length k 0 uV uV
theorem par21 : par 2 1 [⟨#[97]⟩, ⟨#[98]⟩] = [⟨#[103]⟩] := by
  have e : rowOf (fun j => toI (code 2 2 j)) 2 = [3, 2] := by
    have h := fmat_get (code 2) 3 2 2 uP
    rw [← h]
    simp only [code21]; rfl
  unfold par cmb
  simp only [List.range_succ, List.range_zero, List.nil_append, List.map_cons, List.map_nil]
  rw [show 2 + 0 = 2 from rfl, e]
  decide +kernel
end Go.Proofs.Ytaahnicjjpddjaa.Enc
end
section
namespace Go.Proofs.Ytaahnicjjpddjaa.Enc
open Go.RowKit Go.Proofs.YtaahnicjjpddjaaW.PrintWords Go.Proofs.YtaahnicjjpddjaaW.PrintLast Go.Proofs.YtaahnicjjpddjaaW.PrintMore Go.Proofs.Ytaahnicjjpddjaa.Fld Go.Proofs.Ytaahnicjjpddjaa.Mat Go.Proofs.Ytaahnicjjpddjaa.Fn Go.Proofs.Ytaahnicjjpddjaa.Pr
open Go.Proofs.Ytaahnicjjpddjaa.GvcVec (combine alikeB alikeB_size row0 row0_mem bF ba_bytes)
/-- texts, each of m bytes. -/
def Of (m : Nat) (xs : List ByteArray) : Prop := ∀ x ∈ xs, x.size = m
def piece (t : ByteArray) (m i : Nat) : ByteArray := t.extract (m * i) (m * i + m)
def pieces (t : ByteArray) (m n : Nat) : List ByteArray := (List.range n).map (piece t m)
theorem pieces_succ (t : ByteArray) (m n : Nat) : pieces t m (n + 1) = pieces t m n ++ [piece t m n] := by unfold pieces; rw [List.range_succ, List.map_append]; rfl
theorem pieces_length (t : ByteArray) (m n : Nat) : (pieces t m n).length = n := by simp [pieces]
theorem piece_size {t : ByteArray} {m n i : Nat} (h : m * n ≤ t.size) (hi : i < n) : (piece t m i).size = m := by
  have h2 : m * i + m ≤ m * n := by rw [← Nat.mul_succ]; exact Nat.mul_le_mul_left m hi
  unfold piece
  rw [ByteArray.size_extract]
  omega
theorem pieces_of {t : ByteArray} {m d : Nat} (h : m * d ≤ t.size) : Of m (pieces t m d) := by
  intro x hx
  unfold pieces at hx
  obtain ⟨i, hi, rfl⟩ := List.mem_map.1 hx
  exact piece_size h (List.mem_range.1 hi)
theorem of_txt {m : Nat} {xs : List ByteArray} (h : Of m xs) {i : Nat} (hi : i < xs.length) : (txt xs i).size = m := by
  rw [txt_get _ _ hi]; exact h _ (List.getElem_mem hi)
theorem own_of {m K : Nat} {xs : List ByteArray} {hv : List Bool} (hl : hv.length = K) (h : ∀ r, r < K → (txt xs r).size = m) : Of m (ownOf xs hv) := fun x hx => by
  unfold ownOf at hx
  obtain ⟨r, hr, rfl⟩ := List.mem_map.1 hx
  exact h r (by have := (had_lo hv 0 r hr).2.1; omega)
theorem word_of {d p m : Nat} (hm : m ≤ 4096) (h1 : 1 ≤ d) (h2 : d ≤ 4) {D : List ByteArray} (hl : D.length = d) (h : Of m D) : Of m (word d p D) := fun x hx => by
  obtain ⟨r, hr, rfl⟩ := List.getElem_of_mem hx
  rw [word_length d p D hl] at hr
  have e := word_size h1 h2 hl (alike_all hm h) hr
  rw [txt_get _ _ (by rw [word_length d p D hl]; exact hr)] at e
  rw [e]
  exact row0_size h uV
/-- the next of those that are there, walked on: a set place read again. -/
theorem set_next (bs : List Bool) (e i : Nat) (hl : bs.length = i) (v : Bool) : (bs ++ List.replicate (e + 1) false).set i v = (bs ++ [v]) ++ List.replicate e false := by
  rw [List.set_append_right _ _ uV, show i - bs.length = 0 by omega, List.replicate_succ, List.set_cons_zero, List.append_assoc]; rfl
theorem had_true (bs : List Bool) (i : Nat) (hl : bs.length = i) : had (bs ++ [true]) 0 = had bs 0 ++ [i] := by rw [had_append, show 0 + bs.length = i by omega]; rfl
end Go.Proofs.Ytaahnicjjpddjaa.Enc
end
section
namespace Go.Proofs.Ytaahnicjjpddjaa.Pr
open Go.RowKit Go.Proofs.YtaahnicjjpddjaaW.PrintWords Go.Proofs.YtaahnicjjpddjaaW.PrintLast Go.Proofs.YtaahnicjjpddjaaW.PrintMore Go.Proofs.Ytaahnicjjpddjaa.Fld Go.Proofs.Ytaahnicjjpddjaa.Mat Go.Proofs.Ytaahnicjjpddjaa.Fn Go.Proofs.Ytaahnicjjpddjaa.GRef
/-- one number written. -/
theorem fmat_setAt (g : Nat → Nat → F) (n c i j : Nat) (v : F) : (fmat g n c).set i ((rowOf (fun t => toI (g i t)) c).set j (toI v)) = fmat (fun a b => if a = i then (if b = j then v else g a b) else g a b) n c := by
  have e : (rowOf (fun t => toI (g i t)) c).set j (toI v) = rowOf (fun t => toI (if t = j then v else g i t)) c := by
    rw [rowOf_set]
    exact rowOf_congr (fun t _ => by by_cases h : t = j <;> simp [h])
  rw [e, fmat_setRow]
  exact fmat_congr _ _ _ _ (fun a b _ _ => by by_cases h : a = i <;> simp [h])
/-- what stands while a product is made: rows ahead of i, of row i the numbers ahead of j, and x at j. -/
def St (q : Nat → Nat → F) (i j : Nat) (x : F) : Nat → Nat → F := fun a b => if a < i then q a b else if a = i then (if b < j then q a b else if b = j then x else 0#8) else 0#8
theorem St_at (q : Nat → Nat → F) (i j : Nat) (x : F) : St q i j x i j = x := by unfold St; rw [if_neg (Nat.lt_irrefl i), if_pos rfl, if_neg (Nat.lt_irrefl j), if_pos rfl]
theorem St_set (q : Nat → Nat → F) (n c i j : Nat) (x v : F) : fmat (fun a b => if a = i then (if b = j then v else St q i j x a b) else St q i j x a b) n c = fmat (St q i j v) n c :=
  fmat_congr _ _ _ _ (fun a b _ _ => by
    unfold St
    by_cases h : a = i
    · subst h
      by_cases h2 : b = j
      · subst h2; simp
      · simp [h2]
    · simp [h])
theorem St_next (q : Nat → Nat → F) (n c i j : Nat) : fmat (St q i j (q i j)) n c = fmat (St q i (j + 1) 0#8) n c :=
  fmat_congr _ _ _ _ (fun a b _ _ => by
    unfold St
    by_cases h : a < i
    · rw [if_pos h, if_pos h]
    · rw [if_neg h, if_neg h]
      by_cases h2 : a = i
      · subst h2
        rw [if_pos rfl, if_pos rfl]
        by_cases h3 : b < j
        · rw [if_pos h3, if_pos (show b < j + 1 by omega)]
        · rw [if_neg h3]
          by_cases h4 : b = j
          · subst h4
            rw [if_pos rfl, if_pos (show b < b + 1 by omega)]
          · rw [if_neg h4, if_neg (show ¬ b < j + 1 by omega)]
            by_cases h5 : b = j + 1 <;> simp [h5]
      · rw [if_neg h2, if_neg h2])
theorem St_row (q : Nat → Nat → F) (n c i : Nat) : fmat (St q i c 0#8) n c = fmat (St q (i + 1) 0 0#8) n c :=
  fmat_congr _ _ _ _ (fun a b _ hb => by
    unfold St
    by_cases h : a < i
    · rw [if_pos h, if_pos (show a < i + 1 by omega)]
    · rw [if_neg h]
      by_cases h2 : a = i
      · subst h2
        rw [if_pos rfl, if_pos hb, if_pos (show a < a + 1 by omega)]
      · rw [if_neg h2, if_neg (show ¬ a < i + 1 by omega)]
        by_cases h3 : a = i + 1
        · rw [if_pos h3, if_neg (Nat.not_lt_zero _)]
          by_cases h4 : b = 0 <;> simp [h4]
        · rw [if_neg h3])
theorem St_zero (q : Nat → Nat → F) (n c : Nat) : fmat (fun _ _ => 0#8) n c = fmat (St q 0 0 0#8) n c :=
  fmat_congr _ _ _ _ (fun a b _ _ => by
    unfold St
    rw [if_neg (Nat.not_lt_zero _)]
    by_cases h : a = 0
    · rw [if_pos h, if_neg (Nat.not_lt_zero _)]
      by_cases h4 : b = 0 <;> simp [h4]
    · rw [if_neg h])
theorem St_all (q : Nat → Nat → F) (n c : Nat) : fmat (St q n 0 0#8) n c = fmat q n c :=
  fmat_congr _ _ _ _ (fun a b ha _ => by unfold St; rw [if_pos ha])
theorem rm_2 (g h : Nat → Nat → F) (n d m i j : Nat) (hi : i < n) (hj : j < m) (h2 : d ≤ 12) (h3 : m ≤ 12) (R : List (List Int) × Int) (K : Nat)
    (H : ∀ k, K < k → ossuaryref1_MulMatrix.l1 k (i : Int) ((j + 1 : Nat) : Int) (fmat g n d) (fmat h d m) (fmat (St (mm d g h) i (j + 1) 0#8) n m) = some R) (e : Nat) :
    ∀ k t, t + e = d → K + e + 20 < k → ossuaryref1_MulMatrix.l2 k (i : Int) (j : Int) (t : Int) (fmat g n d) (fmat h d m) (fmat (St (mm d g h) i j (sumF t (fun s => fm (g i s) (h s j)))) n m) = some R := by
  induction e with
  | zero =>
    intro k t ht hk
    obtain ⟨k, rfl⟩ : ∃ m, k = m + 1 := ⟨k - 1, uV⟩
    obtain rfl : t = d := by omega
    simp only [ossuaryref1_MulMatrix.l2]
    rw [fmat_length, if_neg uV, succ_wrap j uV]
    have e1 : fmat (St (mm t g h) i j (sumF t (fun s => fm (g i s) (h s j)))) n m = fmat (St (mm t g h) i (j + 1) 0#8) n m := St_next (mm t g h) n m i j
    rw [e1]
    exact H k uV
  | succ e ih =>
    intro k t ht hk
    obtain ⟨k, rfl⟩ : ∃ m, k = m + 1 := ⟨k - 1, uV⟩
    have ih' := ih k (t + 1) uV uV
    obtain ⟨x, hx⟩ : ∃ x, x = sumF t (fun s => fm (g i s) (h s j)) := ⟨_, rfl⟩
    have hx2 : sumF (t + 1) (fun s => fm (g i s) (h s j)) = x ^^^ fm (g i t) (h t j) := by rw [hx]; rfl
    rw [hx2] at ih'
    rw [← hx]
    have eM : rd_L2 (fmat (St (mm d g h) i j x) n m) (i : Int) = rowOf (fun b => toI (St (mm d g h) i j x i b)) m := by rw [rdR _ i uP, fmat_get]
    have eA : rd_L2 (fmat g n d) (i : Int) = rowOf (fun b => toI (g i b)) d := by rw [rdR _ i uP, fmat_get]
    have eB : rd_L2 (fmat h d m) (t : Int) = rowOf (fun b => toI (h t b)) m := by rw [rdR _ t uP, fmat_get]
    simp only [ossuaryref1_MulMatrix.l2]
    rw [eM, eA, eB, fmat_length, fmat_length, fmat_length, rowOf_length, rowOf_length, rowOf_length, if_pos uV, if_pos uV, if_pos uV, if_pos uV, if_pos uV, if_pos uV, if_pos uV, if_pos uV, if_pos uV]
    rw [rd_at (rowOf (fun b => toI (g i b)) d) t (by rw [rowOf_length]; omega), rd_at (rowOf (fun b => toI (h t b)) m) j (by rw [rowOf_length]; omega), rd_at (rowOf (fun b => toI (St (mm d g h) i j x i b)) m) j (by rw [rowOf_length]; omega), rowOf_get, rowOf_get, rowOf_get, RefGf.rmul_f uV]
    simp only [Option.bind_some]
    rw [St_at, xor_i64, Int.toNat_natCast, Int.toNat_natCast, fmat_setAt, St_set, succ_wrap t uV]
    exact ih'
theorem rm_1 (g h : Nat → Nat → F) (n d m i : Nat) (hi : i < n) (h1 : n ≤ 12) (h2 : d ≤ 12) (h3 : m ≤ 12) (R : List (List Int) × Int) (K : Nat)
    (H : ∀ k, K < k → ossuaryref1_MulMatrix.l0 k ((i + 1 : Nat) : Int) (fmat g n d) (fmat h d m) (fmat (St (mm d g h) (i + 1) 0 0#8) n m) = some R) (e : Nat) :
    ∀ k j, j + e = m → K + e * 40 + 10 < k → ossuaryref1_MulMatrix.l1 k (i : Int) (j : Int) (fmat g n d) (fmat h d m) (fmat (St (mm d g h) i j 0#8) n m) = some R := by
  induction e with
  | zero =>
    intro k j hj hk
    obtain ⟨k, rfl⟩ : ∃ m, k = m + 1 := ⟨k - 1, uV⟩
    obtain rfl : j = m := by omega
    simp only [ossuaryref1_MulMatrix.l1]
    rw [rdR _ i uP, fmat_get, rowOf_length, fmat_length, if_pos uV, if_pos uV, if_neg uV, succ_wrap i uV, St_row]
    exact H k uV
  | succ e ih =>
    intro k j hj hk
    obtain ⟨k, rfl⟩ : ∃ m, k = m + 1 := ⟨k - 1, uV⟩
    simp only [ossuaryref1_MulMatrix.l1]
    rw [rdR _ i uP, fmat_get, rowOf_length, fmat_length, if_pos uV, if_pos uV, if_pos uV]
    exact rm_2 g h n d m i j hi uV h2 h3 R (K + e * 40 + 10) (fun k hk' => ih k (j + 1) uV hk') d k 0 uV uV
theorem rm_0 (g h : Nat → Nat → F) (n d m : Nat) (h1 : n ≤ 12) (h2 : d ≤ 12) (h3 : m ≤ 12) (e : Nat) :
    ∀ k i, i + e = n → e * 600 + 10 < k → ossuaryref1_MulMatrix.l0 k (i : Int) (fmat g n d) (fmat h d m) (fmat (St (mm d g h) i 0 0#8) n m) = some (fmat (mm d g h) n m, 0) := by
  induction e with
  | zero =>
    intro k i hi hk
    obtain ⟨k, rfl⟩ : ∃ m, k = m + 1 := ⟨k - 1, uV⟩
    obtain rfl : i = n := by omega
    simp only [ossuaryref1_MulMatrix.l0]
    rw [fmat_length, if_neg uV, St_all]
  | succ e ih =>
    intro k i hi hk
    obtain ⟨k, rfl⟩ : ∃ m, k = m + 1 := ⟨k - 1, uV⟩
    simp only [ossuaryref1_MulMatrix.l0]
    rw [fmat_length, if_pos uV]
    exact rm_1 g h n d m i uV h1 h2 h3 _ (e * 600 + 10) (fun k hk' => ih k (i + 1) uV hk') m k 0 uV uV
theorem rmulM_f {k : Nat} (hk : 7500 < k) (g h : Nat → Nat → F) (n d m : Nat) (h1 : 1 ≤ n) (h2 : n ≤ 12) (h3 : 1 ≤ d) (h4 : d ≤ 12) (h5 : 1 ≤ m) (h6 : m ≤ 12) :
    ossuaryref1_MulMatrix.f k (fmat g n d) (fmat h d m) = some (fmat (mm d g h) n m, 0) := by
  unfold ossuaryref1_MulMatrix.f
  rw [rmay_f uV, rmay_f uV, fmat_may g n d h1 h2 h3 h4, fmat_may h d m h3 h4 h5 h6]
  simp only [Option.bind_some, if_true]
  have e0 : rd_L2 (fmat g n d) 0 = rowOf (fun b => toI (g 0 b)) d := by rw [show (0 : Int) = ((0 : Nat) : Int) from rfl, rdR _ 0 uP, fmat_get]
  have e1 : rd_L2 (fmat h d m) 0 = rowOf (fun b => toI (h 0 b)) m := by rw [show (0 : Int) = ((0 : Nat) : Int) from rfl, rdR _ 0 uP, fmat_get]
  obtain ⟨k, rfl⟩ : ∃ m, k = m + 1 := ⟨k - 1, uV⟩
  rw [fmat_length, fmat_length, if_pos uV, e0, rowOf_length, bne_self_eq_false]
  simp only [ossuaryref1_MulMatrix.j0, Bool.false_eq_true, if_false]
  rw [fmat_length, fmat_length, if_pos uV, e1, rowOf_length, blank_f uV n m h2 h6]
  simp only [Option.bind_some]
  rw [St_zero (mm d g h)]
  exact rm_0 g h n d m h2 h4 h6 n k 0 uV uV
end Go.Proofs.Ytaahnicjjpddjaa.Pr
end
