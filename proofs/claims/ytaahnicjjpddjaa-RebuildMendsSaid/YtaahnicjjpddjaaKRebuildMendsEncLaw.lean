/- What encoding, decoding and rebuilding come to, at every input: sums of rows by the code's matrix and its inverses. No condition. -/
import Derived.Test.YtaahnicjjpddjaaKRebuildMendsShp
import Derived.Test.YtaahnicjjpddjaaKRebuildMendsGvcVecLaw
import Derived.Test.YtaahnicjjpddjaaKRebuildMendsGRef1
namespace Go.Proofs.Ytaahnicjjpddjaa.Enc
open Go.RowKit Go.Proofs.YtaahnicjjpddjaaW.PrintWords Go.Proofs.YtaahnicjjpddjaaW.PrintLast Go.Proofs.YtaahnicjjpddjaaW.PrintMore Go.Proofs.Ytaahnicjjpddjaa.Fld Go.Proofs.Ytaahnicjjpddjaa.Mat Go.Proofs.Ytaahnicjjpddjaa.Fn Go.Proofs.Ytaahnicjjpddjaa.Pr Go.Proofs.Ytaahnicjjpddjaa.GEnc
open Go.Proofs.Ytaahnicjjpddjaa.GvcVec (combine alikeB alikeB_mk alikeB_size row0 row0_mem vcomb alike_f bF accF combine_yes ba_bytes sumF_size sumF_byte rdOf_nat)
/-- a sum of rows. -/
def cmb (d : Nat) (f : Nat → F) (rows : List ByteArray) : ByteArray := (combine (rowOf (fun j => toI (f j)) d) rows).1
theorem rowOf_map (d : Nat) (f : Nat → F) : rowOf (fun j => toI (f j)) d = ((List.range d).map f).map toI := by unfold rowOf; rw [List.map_map]; rfl
theorem cmb_eq {d : Nat} (f : Nat → F) {rows : List ByteArray} (h1 : 1 ≤ d) (h2 : d ≤ 12) (hl : rows.length = d) (ha : alikeB rows = true) : combine (rowOf (fun j => toI (f j)) d) rows = (cmb d f rows, 0) := by
  have hs := alikeB_size ha
  have hm := hs _ (row0_mem uV)
  have h := combine_yes (cs := (List.range d).map f) (rows := rows) (row0 rows).size uS uS uS hm.2 (fun r hr => (hs r hr).1)
  unfold cmb
  rw [rowOf_map, h]
theorem acc_sum (f : Nat → F) (j : Nat) : ∀ (rows : List ByteArray) (s : Nat), accF ((List.range' s rows.length).map f) rows j = sumF rows.length (fun i => fm (f (s + i)) (bF (rows.getD i ByteArray.empty) j)) := by
  intro rows
  induction rows with
  | nil => intro s; rfl
  | cons r rows ih =>
    intro s
    rw [List.length_cons, List.range'_succ, List.map_cons, accF, ih (s + 1), sum_front]
    refine congrArg (fun z => fm (f s) (bF r j) ^^^ z) (sum_congr _ _ _ (fun k _ => ?_))
    rw [show s + 1 + k = s + (k + 1) by omega, List.getD_cons_succ]
theorem cmb_size {d : Nat} (f : Nat → F) {rows : List ByteArray} (h1 : 1 ≤ d) (h2 : d ≤ 12) (hl : rows.length = d) (ha : alikeB rows = true) : (cmb d f rows).size = (row0 rows).size := by
  have hs := alikeB_size ha
  have hm := hs _ (row0_mem uV)
  have h := combine_yes (cs := (List.range d).map f) (rows := rows) (row0 rows).size uS uS uS hm.2 (fun r hr => (hs r hr).1)
  unfold cmb
  rw [rowOf_map, h]
  exact sumF_size _ _ _
theorem cmb_byte {d : Nat} (f : Nat → F) {rows : List ByteArray} (h1 : 1 ≤ d) (h2 : d ≤ 12) (hl : rows.length = d) (ha : alikeB rows = true) (j : Nat) (hj : j < (row0 rows).size) : bF (cmb d f rows) j = sumF d (fun i => fm (f i) (bF (rows.getD i ByteArray.empty) j)) := by
  have hs := alikeB_size ha
  have hm := hs _ (row0_mem uV)
  have h := combine_yes (cs := (List.range d).map f) (rows := rows) (row0 rows).size uS uS uS hm.2 (fun r hr => (hs r hr).1)
  unfold cmb
  rw [rowOf_map, h]
  refine (sumF_byte _ _ _ _ hj).trans ?_
  have e := acc_sum f j rows 0
  rw [← List.range_eq_range', hl] at e
  rw [e]
  exact sum_congr _ _ _ (fun k _ => by rw [Nat.zero_add])
/-- the parity. -/
noncomputable def par (d p : Nat) (data : List ByteArray) : List ByteArray := (List.range p).map fun i => cmb d (code d (d + i)) data
theorem par_length (d p : Nat) (data : List ByteArray) : (par d p data).length = p := by simp [par]
theorem par_succ (d p : Nat) (data : List ByteArray) : par d (p + 1) data = par d p data ++ [cmb d (code d (d + p)) data] := by unfold par; rw [List.range_succ, List.map_append]; rfl
theorem rdL2 (m : List (List Int)) (i : Nat) (h : i < m.length) : rd_L2 m (i : Int) = m[i] := by
  show m.getD (i : Int).toNat [] = m[i]
  rw [Int.toNat_natCast, getD_get _ _ _ h]
theorem fmat_drop (g : Nat → Nat → F) (d p m : Nat) : (fmat g (d + p) m).drop d = fmat (fun i j => g (d + i) j) p m := by
  apply List.ext_getElem
  · rw [List.length_drop, fmat_length, fmat_length]; omega
  · intro i h1 h2
    rw [List.getElem_drop, fmat_get, fmat_get]
theorem enc_l (d p : Nat) (h1 : 1 ≤ d) (h2 : d ≤ 4) (h3 : p ≤ 2) (data : List ByteArray) (hl : data.length = d) (ha : alikeB data = true) (e : Nat) : ∀ (k i : Nat), i + e = p → 60000 + e < k →
    encode_Encode.l0 k data (par d i data) (fmat (fun i j => code d (d + i) j) p d) (p : Int) (i : Int) = some (par d p data, 0) := by
  induction e with
  | zero =>
    intro k i hi hk
    obtain ⟨k, rfl⟩ : ∃ m, k = m + 1 := ⟨k - 1, uV⟩
    obtain rfl : p = i := by omega
    simp only [encode_Encode.l0]
    rw [if_neg uV]
  | succ e ih =>
    intro k i hi hk
    obtain ⟨k, rfl⟩ : ∃ m, k = m + 1 := ⟨k - 1, uV⟩
    simp only [encode_Encode.l0]
    rw [if_pos uV, if_pos uV, fmat_length, if_pos uV, rdL2 _ i uP, fmat_get, vcomb uV _ _ uV, cmb_eq _ h1 uV hl ha]
    simp only [Option.bind_some]
    rw [par_length, if_pos uV, succ_wrap i uV, ← par_succ]
    exact ih k (i + 1) uV uV
theorem enc_f {k : Nat} (hk : 61000 < k) (d p : Nat) (h1 : 1 ≤ d) (h2 : d ≤ 4) (h3 : p ≤ 2) (data : List ByteArray) (hl : data.length = d) (ha : alikeB data = true) : encode_Encode.f k (d : Int) (p : Int) data = some (par d p data, 0) := by
  unfold encode_Encode.f
  rw [gen_f uV d p h1 h2 h3]
  simp only [Option.bind_some, if_true]
  obtain ⟨k, rfl⟩ : ∃ m, k = m + 1 := ⟨k - 1, uV⟩
  rw [if_pos uV, alike_f _ uV uV, ha]
  simp only [Option.bind_some, encode_Encode.j0, Bool.not_true, Bool.false_eq_true, if_false]
  rw [if_pos uV, fmat_length, if_pos uV, Int.toNat_natCast, fmat_drop, fmat_length]
  exact enc_l d p h1 h2 h3 data hl ha p k 0 uV uV
/-- which are there, from s on. -/
def had : List Bool → Nat → List Nat
  | [], _ => []
  | b :: bs, s => if b = true then s :: had bs (s + 1) else had bs (s + 1)
theorem had_lo : ∀ (bs : List Bool) (s : Nat), ∀ r ∈ had bs s, s ≤ r ∧ r < s + bs.length ∧ bs[r - s]? = some true
  | [], _ => fun r hr => by cases hr
  | b :: bs, s => fun r hr => by
    rw [had] at hr
    by_cases hb : b = true
    · rw [if_pos hb] at hr
      rcases List.mem_cons.1 hr with rfl | hr
      · refine ⟨Nat.le_refl _, qa, ?_⟩
        rw [Nat.sub_self, List.getElem?_cons_zero, hb]
      · obtain ⟨h1, h2, h3⟩ := had_lo bs (s + 1) r hr
        refine ⟨uV, by rw [List.length_cons]; omega, ?_⟩
        rw [show r - s = (r - (s + 1)) + 1 by omega, List.getElem?_cons_succ]; exact h3
    · rw [if_neg hb] at hr
      obtain ⟨h1, h2, h3⟩ := had_lo bs (s + 1) r hr
      refine ⟨uV, by rw [List.length_cons]; omega, ?_⟩
      rw [show r - s = (r - (s + 1)) + 1 by omega, List.getElem?_cons_succ]; exact h3
theorem had_nd : ∀ (bs : List Bool) (s : Nat), (had bs s).Nodup
  | [], _ => List.nodup_nil
  | b :: bs, s => by
    rw [had]
    split
    · refine List.nodup_cons.2 ⟨fun h => ?_, had_nd bs (s + 1)⟩
      have := (had_lo bs (s + 1) s h).1
      omega
    · exact had_nd bs (s + 1)
def txt (shards : List ByteArray) (r : Nat) : ByteArray := shards.getD r ByteArray.empty
/-- the rows that are there, and their texts. -/
def rowsOf (have_ : List Bool) : List Int := (had have_ 0).map fun (r : Nat) => (r : Int)
def ownOf (shards : List ByteArray) (have_ : List Bool) : List ByteArray := (had have_ 0).map (txt shards)
theorem had_append : ∀ (a b : List Bool) (s : Nat), had (a ++ b) s = had a s ++ had b (s + a.length)
  | [], b, s => by simp [had]
  | x :: a, b, s => by
    rw [List.cons_append, had, had, had_append a b (s + 1), List.length_cons, show s + 1 + a.length = s + (a.length + 1) by omega]
    split <;> rfl
theorem had_step (hv : List Bool) (i : Nat) (hi : i < hv.length) : had (hv.take (i + 1)) 0 = had (hv.take i) 0 ++ if hv[i] = true then [i] else [] := by
  rw [List.take_succ_eq_append_getElem hi, had_append, List.length_take, show 0 + min i hv.length = i by omega]
  rfl
theorem had_len (hv : List Bool) (s : Nat) : (had hv s).length ≤ hv.length := by
  induction hv generalizing s with
  | nil => exact Nat.le_refl _
  | cons b bs ih =>
    rw [had, List.length_cons]
    have := ih (s + 1)
    split
    · rw [List.length_cons]; omega
    · omega
theorem rd_bool (xs : List Bool) (i : Nat) (h : i < xs.length) : rdOf false xs (i : Int) = xs[i] := by
  show xs.getD (i : Int).toNat false = xs[i]
  rw [Int.toNat_natCast, getD_get _ _ _ h]
theorem rd_txt (xs : List ByteArray) (i : Nat) : rdOf ByteArray.empty xs (i : Int) = txt xs i := by
  show xs.getD (i : Int).toNat ByteArray.empty = _
  rw [Int.toNat_natCast]; rfl
theorem rows_in (hv : List Bool) (n : Nat) (hn : hv.length ≤ n) (m : Nat) : rowsIn n ((rowsOf hv).take m) = true := by
  unfold rowsIn
  rw [List.all_eq_true]
  intro r hr
  obtain ⟨s, hs, rfl⟩ := List.mem_map.1 (List.mem_of_mem_take hr)
  have := (had_lo hv 0 s hs).2.1
  rw [Bool.and_eq_true]
  exact ⟨decide_eq_true uV, decide_eq_true uV⟩
theorem rows_nd (hv : List Bool) (m : Nat) : ((rowsOf hv).take m).Nodup :=
  List.Sublist.nodup (List.take_sublist _ _) (List.pairwise_map.2 ((had_nd hv 0).imp (fun h e => h uV)))
/-- what is decoded. -/
def decd (d : Nat) (y : Nat → Nat → F) (own : List ByteArray) : List ByteArray := (List.range d).map fun i => cmb d (y i) own
theorem decd_length (d : Nat) (y : Nat → Nat → F) (own : List ByteArray) : (decd d y own).length = d := by simp [decd]
theorem dec_out (d p : Nat) (h1 : 1 ≤ d) (h2 : d ≤ 4) (y : Nat → Nat → F) (own : List ByteArray) (hl : d ≤ own.length) (ha : alikeB (own.take d) = true) (e : Nat) : ∀ (k i : Nat), i + e = d → 60000 + e < k →
    decode_Decode.l1 k own ((decd d y (own.take d)).take i) (fmat y d d) (d : Int) (i : Int) (d : Int) (p : Int) = some (decd d y (own.take d), 0) := by
  induction e with
  | zero =>
    intro k i hi hk
    obtain ⟨k, rfl⟩ : ∃ m, k = m + 1 := ⟨k - 1, uV⟩
    obtain rfl : d = i := by omega
    simp only [decode_Decode.l1]
    rw [if_neg uV, List.take_of_length_le (by rw [decd_length]; exact Nat.le_refl _)]
  | succ e ih =>
    intro k i hi hk
    obtain ⟨k, rfl⟩ : ∃ m, k = m + 1 := ⟨k - 1, uV⟩
    simp only [decode_Decode.l1]
    have hlen : (own.take d).length = d := by rw [List.length_take]; omega
    rw [if_pos uV, if_pos uV, fmat_length, if_pos uV, if_pos uV, if_pos uV, Int.toNat_natCast, rdL2 _ i uP, fmat_get, vcomb uV _ _ uV, cmb_eq _ h1 uV hlen ha]
    simp only [Option.bind_some]
    have e1 : (decd d y (own.take d)).take i ++ [cmb d (y i) (own.take d)] = (decd d y (own.take d)).take (i + 1) := by
      rw [List.take_succ_eq_append_getElem (by rw [decd_length]; omega)]
      simp [decd]
    rw [if_pos (by rw [List.length_take]; simp; omega), succ_wrap i uV, e1]
    exact ih k (i + 1) uV uV
/-- what the last step of decoding comes to. -/
noncomputable def decEnd (d : Nat) (shards : List ByteArray) (hv : List Bool) : Option (List ByteArray × Int) → Prop := fun r =>
  if alikeB (ownOf shards hv) = true then
    if (had hv 0).length < d then r = some ([], 701)
    else ∃ y, eqM d (mm d y (fun i j => code d ((had hv 0).getD i 0) j)) delta ∧ r = some (decd d y ((ownOf shards hv).take d), 0)
  else r = some ([], 700)
theorem own_length (shards : List ByteArray) (hv : List Bool) : (ownOf shards hv).length = (had hv 0).length := by simp [ownOf]
theorem alike_take {rows : List ByteArray} (h : alikeB rows = true) (d : Nat) (h1 : 1 ≤ d) (hl : d ≤ rows.length) : alikeB (rows.take d) = true ∧ (row0 (rows.take d)).size = (row0 rows).size := by
  have hs := alikeB_size h
  have hm := (hs _ (row0_mem uV)).2
  exact alikeB_mk (row0 rows).size hm (fun r hr => (hs r (List.mem_of_mem_take hr)).1) (by rw [List.length_take]; omega)
theorem dec_in (d p : Nat) (h1 : 1 ≤ d) (h2 : d ≤ 4) (h3 : p ≤ 2) (shards : List ByteArray) (hv : List Bool) (hs : shards.length = d + p) (hh : hv.length = d + p) (e : Nat) : ∀ (k i : Nat), i + e = d + p → 60100 + e < k →
    decEnd d shards hv (decode_Decode.l0 k shards (rowsOf (hv.take i)) (ownOf shards (hv.take i)) hv ((d + p : Nat) : Int) (i : Int) (d : Int) (p : Int) (fmat (code d) (d + p) d)) := by
  induction e with
  | zero =>
    intro k i hi hk
    obtain ⟨k, rfl⟩ : ∃ m, k = m + 1 := ⟨k - 1, uV⟩
    simp only [decode_Decode.l0]
    have hlen := had_len hv 0
    rw [List.take_of_length_le uV, if_neg uV, alike_f _ (by rw [own_length]; omega) (by rw [own_length]; omega)]
    simp only [Option.bind_some]
    unfold decEnd
    by_cases ha : alikeB (ownOf shards hv) = true
    · rw [if_pos ha, if_pos ha, own_length]
      by_cases hl : (had hv 0).length < d
      · have hl' : (((had hv 0).length : Nat) : Int) < (d : Int) := by omega
        rw [if_pos hl', if_pos hl]
      · have hrl : (rowsOf hv).length = (had hv 0).length := by simp [rowsOf]
        have hl' : ¬ (((had hv 0).length : Nat) : Int) < (d : Int) := by omega
        rw [if_neg hl, if_neg hl', if_pos uV, hrl, if_pos uV, Int.toNat_natCast]
        have htl : ((rowsOf hv).take d).length = d := by rw [List.length_take, hrl]; omega
        rw [pick_ok uV _ _ _ uV uV uV uV ((rowsOf hv).take d) uV uV (rows_in hv _ uV _), htl]
        simp only [Option.bind_some]
        obtain ⟨y, hy⟩ := code_picked h1 uV (show d + p ≤ 12 by omega) ((rowsOf hv).take d) htl (rows_in hv _ uV _) (rows_nd hv d)
        rw [inv_ok h1 uV hy]
        simp only [Option.bind_some]
        rw [fmat_length]
        have h0 := dec_out d p h1 h2 y (ownOf shards hv) (by rw [own_length]; omega) (alike_take ha d h1 (by rw [own_length]; omega)).1 d k 0 uV uV
        rw [List.take_zero] at h0
        refine ⟨y, ?_, h0⟩
        refine (mm_eq (eqM.refl d y) (fun i j hi hj => ?_)).trans hy
        rw [getD_get _ _ _ (show i < (had hv 0).length by omega), getD_get _ _ _ (show i < ((rowsOf hv).take d).length by omega)]
        show code d (had hv 0)[i] j = code d (((rowsOf hv).take d)[i]'uV).toNat j
        rw [List.getElem_take]
        simp [rowsOf]
    · rw [if_neg ha, if_neg ha]
  | succ e ih =>
    intro k i hi hk
    obtain ⟨k, rfl⟩ : ∃ m, k = m + 1 := ⟨k - 1, uV⟩
    simp only [decode_Decode.l0]
    have hih := ih k (i + 1) uV uV
    have hl1 := had_len (hv.take i) 0
    have hl2 : (hv.take i).length ≤ i := List.length_take_le _ _
    rw [if_pos uV, if_pos uV, if_pos uV, rd_bool hv i uV]
    unfold rowsOf ownOf at hih ⊢
    rw [had_step hv i uV, List.map_append, List.map_append] at hih
    by_cases hb : hv[i] = true
    · rw [if_pos hb] at hih
      rw [if_pos hb]
      simp only [Option.bind_some]
      rw [if_pos uS, if_pos uV, if_pos uS, succ_wrap i uV, rd_txt]
      exact hih
    · rw [if_neg hb] at hih
      rw [if_neg hb, succ_wrap i uV]
      simp only [List.map_nil, List.append_nil] at hih
      exact hih
theorem all_f (d p : Nat) (h2 : d ≤ 4) (h3 : p ≤ 2) : GGf.gen_All.f (d : Int) (p : Int) = some ((d + p : Nat) : Int) := by
  unfold GGf.gen_All.f
  rw [wrap64_in uV uV]
  rfl
theorem dec_f {k : Nat} (hk : 61000 < k) (d p : Nat) (h1 : 1 ≤ d) (h2 : d ≤ 4) (h3 : p ≤ 2) (shards : List ByteArray) (hv : List Bool) (hs : shards.length = d + p) (hh : hv.length = d + p) :
    decEnd d shards hv (decode_Decode.f k (d : Int) (p : Int) shards hv) := by
  unfold decode_Decode.f
  have es : (shards.length : Int) = ((d + p : Nat) : Int) := by omega
  have eh : (hv.length : Int) = ((d + p : Nat) : Int) := by omega
  have j : ∀ m, decode_Decode.j0 k shards hv false (d : Int) (p : Int) m = decode_Decode.l0 (k - 1) shards [] [] hv ((d + p : Nat) : Int) 0 (d : Int) (p : Int) m := fun m => by
    obtain ⟨k, rfl⟩ : ∃ m, k = m + 1 := ⟨k - 1, uV⟩
    simp only [decode_Decode.j0, Bool.false_eq_true, if_false, Nat.add_sub_cancel]
    rw [eh]
  have h := dec_in d p h1 h2 h3 shards hv hs hh (d + p) (k - 1) 0 uV uV
  rw [List.take_zero] at h
  rw [all_f d p h2 h3, gen_f uV d p h1 h2 h3, es, eh]
  generalize (((d + p : Nat)) : Int) = N at h j ⊢
  simp only [Option.bind_some, if_true]
  rw [bne_self_eq_false, j]
  exact h
theorem dec_no {k : Nat} (hk : 61000 < k) (a b : Int) (shards : List ByteArray) (hv : List Bool) (h : ¬ ((1 ≤ a ∧ a ≤ 4 ∧ 0 ≤ b ∧ b ≤ 2) ∧ (shards.length : Int) = a + b ∧ hv.length = shards.length)) : decode_Decode.f k a b shards hv = some ([], 700) := by
  unfold decode_Decode.f
  have j : ∀ m, decode_Decode.j0 k shards hv true a b m = some ([], 700) := fun m => by
    obtain ⟨k, rfl⟩ : ∃ m, k = m + 1 := ⟨k - 1, uV⟩
    simp only [decode_Decode.j0, if_true]
  by_cases hs : 1 ≤ a ∧ a ≤ 4 ∧ 0 ≤ b ∧ b ≤ 2
  · obtain ⟨d, rfl⟩ : ∃ d : Nat, a = (d : Int) := ⟨a.toNat, uV⟩
    obtain ⟨p, rfl⟩ : ∃ p : Nat, b = (p : Int) := ⟨b.toNat, uV⟩
    rw [all_f d p uV uV, gen_f uV d p uV uV uV]
    simp only [Option.bind_some, if_true]
    by_cases hl : (shards.length : Int) = ((d + p : Nat) : Int)
    · rw [if_pos hl, show ((hv.length : Int) != (shards.length : Int)) = true from bne_iff_ne.2 (fun e => h ⟨hs, hl, uV⟩), j]
    · rw [if_neg hl, j]
  · rw [gen_no a b hs]
    simp only [Option.bind_some]
    rw [if_neg uZ, j]
end Go.Proofs.Ytaahnicjjpddjaa.Enc
