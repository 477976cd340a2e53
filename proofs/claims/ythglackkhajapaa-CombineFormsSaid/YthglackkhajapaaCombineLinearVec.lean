/- What the printed functions over rows of bytes come to: sums of rows, each times its number, byte by byte; with enough rounds, for all numbers and rows. -/
import Derived.Test.YthglackkhajapaaGCombineLinear1
import Derived.Test.YthglackkhajapaaGCombineLinear2
import Derived.Test.YthglackkhajapaaCombineLinearGf
namespace Go.Proofs.Ythglackkhajapaa.CombineLinearVec
open Go.RowKit Go.Proofs.Ythglackkhajapaa.GCombineLinear Go.Proofs.Ythglackkhajapaa.Fld Go.Proofs.Ythglackkhajapaa.CombineLinearGf Go.Proofs.YthglackkhajapaaW.PrintWords Go.Proofs.YthglackkhajapaaW.PrintLast Go.Proofs.YthglackkhajapaaW.PrintMore

/-- byte j of a text. -/
def bF (s : ByteArray) (j : Nat) : F := if h : j < s.size then (s[j]'h).toBitVec else 0#8
theorem bt_bF (s : ByteArray) (j : Nat) : bt s (j : Int) = toI (bF s j) := by
  unfold bt bF
  by_cases h : j < s.size
  · rw [dif_pos (by simpa using h), dif_pos h]; rfl
  · rw [dif_neg (by simpa using h), dif_neg h]; rfl
theorem bt_wrap (s : ByteArray) (j : Nat) : wrap64 (bt s (j : Int)) = toI (bF s j) := by
  rw [bt_bF]
  have h0 := toI_lo (bF s j); have h1 := toI_hi (bF s j)
  exact wrap64_in (by omega) (by omega)
def strF (xs : List F) : ByteArray := strOfNums (xs.map toI)
theorem strF_data (xs : List F) : (strF xs).data.toList = xs.map fun x => (⟨x⟩ : UInt8) := by
  unfold strF strOfNums
  simp only [List.map_map]
  apply List.map_congr_left
  intro x _
  simp only [Function.comp]
  unfold toI
  rw [Int.toNat_natCast]
  apply UInt8.toNat_inj.1
  rw [UInt8.toNat_ofNat', Nat.mod_eq_of_lt x.isLt]
  rfl
theorem strF_size (xs : List F) : (strF xs).size = xs.length := by
  rw [← data_length, strF_data, List.length_map]
theorem bF_data (s : ByteArray) (j : Nat) (h : j < s.size) : s.data.toList[j]? = some (⟨bF s j⟩ : UInt8) := by
  have h2 : j < s.data.toList.length := by rw [data_length]; exact h
  rw [List.getElem?_eq_getElem h2]
  unfold bF
  rw [dif_pos h]
  rfl
theorem bF_strF (xs : List F) (j : Nat) : bF (strF xs) j = xs.getD j 0#8 := by
  by_cases h : j < xs.length
  · have h1 := bF_data (strF xs) j (by rw [strF_size]; exact h)
    rw [strF_data, List.getElem?_map, List.getElem?_eq_getElem h] at h1
    have h2 := Option.some.inj h1
    rw [List.getD_eq_getElem?_getD, List.getElem?_eq_getElem h]
    exact (congrArg UInt8.toBitVec h2).symm
  · unfold bF
    rw [dif_neg (by rw [strF_size]; exact h), List.getD_eq_getElem?_getD, List.getElem?_eq_none (by omega)]; rfl
theorem ba_ext {s t : ByteArray} (h : s.data.toList = t.data.toList) : s = t := by
  cases s; cases t
  simp only at h
  congr 1
  exact Array.toList_inj.1 h
/-- a text out of its bytes. -/
theorem strF_of (s : ByteArray) (xs : List F) (hl : xs.length = s.size) (h : ∀ j, j < s.size → xs.getD j 0#8 = bF s j) : strF xs = s := by
  apply ba_ext
  apply List.ext_getElem?
  intro j
  by_cases hj : j < s.size
  · rw [bF_data s j hj, strF_data, List.getElem?_map, List.getElem?_eq_getElem (show j < xs.length by omega), ← h j hj, List.getD_eq_getElem?_getD, List.getElem?_eq_getElem (show j < xs.length by omega)]
    rfl
  · rw [List.getElem?_eq_none (by rw [data_length, strF_size]; omega), List.getElem?_eq_none (by rw [data_length]; omega)]

def sameB (m : Nat) (r : ByteArray) : Bool := decide (r.size = m) && decide (r.size ≤ 4096)
def row0 (rows : List ByteArray) : ByteArray := rdOf ByteArray.empty rows 0
def alikeB (rows : List ByteArray) : Bool := rows.all (sameB (row0 rows).size)
theorem rdOf_nat (rows : List ByteArray) (i : Nat) (h : i < rows.length) : rdOf ByteArray.empty rows (i : Int) = rows[i] := by
  unfold rdOf
  rw [Int.toNat_natCast, List.getD_eq_getElem?_getD, List.getElem?_eq_getElem h]; rfl
theorem rd_nat (xs : List Int) (i : Nat) (h : i < xs.length) : rd xs (i : Int) = xs[i] := by
  unfold rd
  rw [Int.toNat_natCast, List.getD_eq_getElem?_getD, List.getElem?_eq_getElem h]; rfl
theorem succ_wrap (i : Nat) (h : i < 1000000000) : wrap64 ((i : Int) + 1) = ((i + 1 : Nat) : Int) := wrap64_in (by omega) (by omega)

theorem succ_wrap' (i : Nat) (h : i < 9223372036854775807) : wrap64 ((i : Int) + 1) = ((i + 1 : Nat) : Int) := wrap64_in (by omega) (by omega)

theorem alike_l (rows : List ByteArray) (hl : rows.length < 9223372036854775807) (d : Nat) : ∀ (k i : Nat), i + d = rows.length → d < k → vec_Alike.l0 k rows rows (rows.length : Int) (i : Int) = some ((rows.drop i).all (sameB (row0 rows).size)) := by
  induction d with
  | zero =>
    intro k i hi hk
    obtain ⟨k, rfl⟩ := succ_of hk
    simp only [vec_Alike.l0]
    rw [if_neg (by omega), List.drop_of_length_le (by omega)]; rfl
  | succ d ih =>
    intro k i hi hk
    obtain ⟨k, rfl⟩ := succ_of hk
    have hi2 : i < rows.length := by omega
    simp only [vec_Alike.l0]
    rw [if_pos (by omega), if_pos (by omega), if_pos (by omega), if_pos (by omega), rdOf_nat rows i hi2, List.drop_eq_getElem_cons hi2, List.all_cons]
    show (if ((rows[i].size : Nat) : Int) = ((row0 rows).size : Int) then _ else _) = _
    by_cases h1 : rows[i].size = (row0 rows).size
    · rw [if_pos (by omega)]
      by_cases h2 : rows[i].size ≤ 4096
      · rw [if_neg (by omega), succ_wrap' i (by omega), ih k (i + 1) (by omega) (by omega)]
        have e : sameB (row0 rows).size rows[i] = true := by unfold sameB; rw [decide_eq_true h1, decide_eq_true h2]; rfl
        rw [e, Bool.true_and]
      · rw [if_pos (by omega)]
        have e : sameB (row0 rows).size rows[i] = false := by unfold sameB; rw [decide_eq_false h2, Bool.and_false]
        rw [e, Bool.false_and]
    · rw [if_neg (by omega)]
      have e : sameB (row0 rows).size rows[i] = false := by unfold sameB; rw [decide_eq_false h1, Bool.false_and]
      rw [e, Bool.false_and]
theorem alike_f {k : Nat} (rows : List ByteArray) (hl : rows.length < 9223372036854775807) (hk : rows.length < k) : vec_Alike.f k rows = some (alikeB rows) := by
  have h := alike_l rows hl rows.length k 0 (by omega) hk
  rw [List.drop_zero] at h
  exact h
/-- a row, times a number, added; up to place j. -/
def updF (c : F) (r : ByteArray) (j : Nat) (xs : List F) : List F := xs.mapIdx fun t x => if t < j then x ^^^ fm c (bF r t) else x
def addF (c : F) (r : ByteArray) (xs : List F) : List F := xs.mapIdx fun t x => x ^^^ fm c (bF r t)
theorem updF_zero (c : F) (r : ByteArray) (xs : List F) : updF c r 0 xs = xs := by
  apply List.ext_getElem?
  intro t
  unfold updF
  rw [List.getElem?_mapIdx]
  cases xs[t]? <;> simp
theorem updF_all (c : F) (r : ByteArray) (xs : List F) : updF c r xs.length xs = addF c r xs := by
  apply List.ext_getElem
  · simp [updF, addF]
  · intro t h1 h2
    simp only [updF, addF, List.getElem_mapIdx]
    rw [if_pos (by simpa [updF] using h1)]
theorem updF_length (c : F) (r : ByteArray) (j : Nat) (xs : List F) : (updF c r j xs).length = xs.length := by simp [updF]
theorem addF_length (c : F) (r : ByteArray) (xs : List F) : (addF c r xs).length = xs.length := by simp [addF]
theorem updF_get (c : F) (r : ByteArray) (j : Nat) (xs : List F) (h : j < xs.length) : (updF c r j xs)[j]'(by rw [updF_length]; exact h) = xs[j] := by
  simp [updF]
theorem updF_step (c : F) (r : ByteArray) (j : Nat) (xs : List F) (h : j < xs.length) : (updF c r j xs).set j (xs[j] ^^^ fm c (bF r j)) = updF c r (j + 1) xs := by
  apply List.ext_getElem
  · simp [updF]
  · intro t h1 h2
    rw [List.getElem_set]
    by_cases e : j = t
    · subst e
      rw [if_pos rfl]
      simp [updF]
    · rw [if_neg e]
      simp only [updF, List.getElem_mapIdx]
      by_cases h3 : t < j
      · rw [if_pos h3, if_pos (by omega)]
      · rw [if_neg h3, if_neg (by omega)]

def combL : List F → List ByteArray → List F → List F
  | c :: cs, r :: rs, xs => combL cs rs (addF c r xs)
  | _, _, xs => xs
theorem combL_length : ∀ (cs : List F) (rs : List ByteArray) (xs : List F), (combL cs rs xs).length = xs.length
  | c :: cs, r :: rs, xs => by rw [combL, combL_length cs rs, addF_length]
  | [], _, _ => by simp [combL]
  | _ :: _, [], _ => by simp [combL]
/-- byte j of a sum. -/
def accF : List F → List ByteArray → Nat → F
  | c :: cs, r :: rs, j => fm c (bF r j) ^^^ accF cs rs j
  | _, _, _ => 0#8
theorem combL_get : ∀ (cs : List F) (rs : List ByteArray) (xs : List F) (j : Nat), j < xs.length → (combL cs rs xs).getD j 0#8 = xs.getD j 0#8 ^^^ accF cs rs j
  | c :: cs, r :: rs, xs, j, h => by
    rw [combL, combL_get cs rs (addF c r xs) j (by rw [addF_length]; exact h), accF, ← BitVec.xor_assoc]
    congr 1
    rw [List.getD_eq_getElem?_getD, List.getD_eq_getElem?_getD, List.getElem?_eq_getElem h, List.getElem?_eq_getElem (show j < (addF c r xs).length by rw [addF_length]; exact h)]
    simp [addF]
  | [], _, _, _, _ => by simp [combL, accF]
  | _ :: _, [], _, _, _ => by simp [combL, accF]

def okV (cs : List Int) : Bool := cs.all fun c => decide (0 ≤ c) && decide (c < 256)
theorem okV_cons_yes {c : Int} {cs : List Int} (h0 : 0 ≤ c) (h1 : c < 256) : okV (c :: cs) = okV cs := by
  unfold okV; rw [List.all_cons, decide_eq_true h0, decide_eq_true h1]; rfl
theorem okV_cons_no {c : Int} {cs : List Int} (h : c < 0 ∨ 256 ≤ c) : okV (c :: cs) = false := by
  unfold okV
  rw [List.all_cons]
  have : (decide (0 ≤ c) && decide (c < 256)) = false := by
    rw [Bool.and_eq_false_iff]
    rcases h with h | h
    · exact .inl (decide_eq_false (by omega))
    · exact .inr (decide_eq_false (by omega))
  rw [this, Bool.false_and]
def noStr : ByteArray := ⟨#[]⟩
def zerosF (m : Nat) : List F := List.replicate m 0#8
/-- the sum of rows, each times its number, or the refusal. -/
def combine (cs : List Int) (rows : List ByteArray) : ByteArray × Int :=
  if 1 ≤ cs.length ∧ cs.length ≤ 12 ∧ rows.length = cs.length ∧ alikeB rows = true ∧ okV cs = true then
    (strF (combL (cs.map ofI) rows (zerosF (row0 rows).size)), 0) else (noStr, 200)
theorem alikeB_size {rows : List ByteArray} (h : alikeB rows = true) : ∀ r ∈ rows, r.size = (row0 rows).size ∧ r.size ≤ 4096 := by
  intro r hr
  have h1 := List.all_eq_true.1 h r hr
  unfold sameB at h1
  rw [Bool.and_eq_true] at h1
  exact ⟨of_decide_eq_true h1.1, of_decide_eq_true h1.2⟩
theorem row0_mem {rows : List ByteArray} (h : 0 < rows.length) : row0 rows ∈ rows := by
  have := rdOf_nat rows 0 h
  unfold row0
  rw [show (0 : Int) = ((0 : Nat) : Int) from rfl, this]
  exact List.getElem_mem _
theorem zeros_map (m : Nat) : List.replicate m (0 : Int) = (zerosF m).map toI := by
  unfold zerosF; rw [List.map_replicate]; rfl
theorem set_map (xs : List F) (j : Nat) (v : F) : (xs.map toI).set j (toI v) = (xs.set j v).map toI := by rw [List.map_set]
theorem xor_mod (a b : F) : bits .xor .u8 (toI a) (toI b % 256) = toI (a ^^^ b) := by
  have h0 := toI_lo b; have h1 := toI_hi b
  rw [show toI b % 256 = toI b from by omega, xor_u8]
theorem rd_map (xs : List F) (j : Nat) (h : j < xs.length) : rd (xs.map toI) (j : Int) = toI xs[j] := by
  rw [rd_nat _ j (by rw [List.length_map]; exact h), List.getElem_map]

theorem vin_l (rows : List ByteArray) (cs : List Int) (c : F) (i : Nat) (hi : i < rows.length) (xs : List F) (hx : xs.length < 5000) (hs : rows[i].size = xs.length) (e : Nat) :
    ∀ (k j : Nat), j + e = xs.length → e + 9 < k →
      vec_Combine.l1 k rows ((updF c rows[i] j xs).map toI) (i : Int) (toI c) cs (cs.length : Int) (i : Int) (xs.length : Int) (j : Int) =
        vec_Combine.l0 (k - (e + 1)) rows ((addF c rows[i] xs).map toI) cs (cs.length : Int) (wrap64 ((i : Int) + 1)) := by
  induction e with
  | zero =>
    intro k j hj hk
    obtain ⟨k, rfl⟩ := succ_of hk
    have hj2 : j = xs.length := by omega
    subst hj2
    simp only [vec_Combine.l1]
    rw [if_neg (by omega), updF_all]
    rfl
  | succ e ih =>
    intro k j hj hk
    obtain ⟨k, rfl⟩ := succ_of hk
    have hj2 : j < xs.length := by omega
    simp only [vec_Combine.l1]
    have hl : (((updF c rows[i] j xs).map toI).length : Int) = (xs.length : Int) := by rw [List.length_map, updF_length]
    rw [if_pos (by omega), if_pos (by omega), hl, if_pos (by omega), if_pos (by omega), if_pos (by omega), rdOf_nat rows i hi, if_pos (by omega), bt_wrap, times_f (by omega)]
    simp only [Option.bind_some]
    rw [rd_map _ j (by rw [updF_length]; exact hj2), updF_get _ _ _ _ hj2, xor_mod, Int.toNat_natCast, set_map, updF_step _ _ _ _ hj2, succ_wrap j (by omega), ih k (j + 1) (by omega) (by omega)]
    rw [show k + 1 - (e + 1 + 1) = k - (e + 1) from by omega]

theorem vout_l (rows : List ByteArray) (cs : List Int) (hr : rows.length = cs.length) (hc : cs.length ≤ 12) (m : Nat) (hm : m ≤ 4096) (hs : ∀ r ∈ rows, r.size = m) (d : Nat) :
    ∀ (k i : Nat) (xs : List F), i + d = cs.length → xs.length = m → d * (m + 2) + 20 < k →
      vec_Combine.l0 k rows (xs.map toI) cs (cs.length : Int) (i : Int) =
        if okV (cs.drop i) = true then some (strF (combL ((cs.drop i).map ofI) (rows.drop i) xs), 0) else some (noStr, 200) := by
  induction d with
  | zero =>
    intro k i xs hi hx hk
    obtain ⟨k, rfl⟩ := succ_of hk
    simp only [vec_Combine.l0]
    rw [if_neg (by omega), List.drop_of_length_le (by omega)]
    rfl
  | succ d ih =>
    intro k i xs hi hx hk
    obtain ⟨k, rfl⟩ := succ_of hk
    have hi2 : i < cs.length := by omega
    have hi3 : i < rows.length := by omega
    have hmul : (d + 1) * (m + 2) = d * (m + 2) + (m + 2) := Nat.succ_mul _ _
    simp only [vec_Combine.l0]
    rw [if_pos (by omega), if_pos (by omega), if_pos (by omega), rd_nat cs i hi2, List.drop_eq_getElem_cons hi2, List.drop_eq_getElem_cons hi3]
    by_cases hv : 0 ≤ cs[i] ∧ cs[i] < 256
    · obtain ⟨c, hcc⟩ := ex_toI hv.1 hv.2
      rw [gfis_yes hv.1 hv.2, okV_cons_yes hv.1 hv.2, List.map_cons, combL]
      simp only [Option.bind_some, if_true]
      have e1 : ofI cs[i] = c := by rw [hcc, ofI_toI]
      rw [e1, hcc]
      have h := vin_l rows cs c i hi3 xs (by omega) (by rw [hs _ (List.getElem_mem hi3), hx]) xs.length k 0 (by omega) (by omega)
      rw [updF_zero] at h
      rw [List.length_map]
      refine h.trans ?_
      rw [succ_wrap i (by omega)]
      exact ih _ (i + 1) _ (by omega) (by rw [addF_length]; exact hx) (by omega)
    · rw [gfis_no (by omega), okV_cons_no (by omega)]
      rfl

theorem vcomb {k : Nat} (hk : 60000 < k) (cs : List Int) (rows : List ByteArray) (hl : rows.length < 9223372036854775807) : vec_Combine.f k cs rows = some (combine cs rows) := by
  unfold vec_Combine.f combine
  have j0 : ∀ b, vec_Combine.j0 k cs rows b = if b = true then some (noStr, 200) else (if 0 < (rows.length : Int) then (if 0 ≤ ((row0 rows).size : Int) then (if ((row0 rows).size : Int).toNat ≤ 281474976710656 then (vec_Combine.l0 (k - 1) rows (List.replicate ((row0 rows).size : Int).toNat 0) cs (cs.length : Int) 0) else (none)) else (none)) else (none)) := by
    intro b
    obtain ⟨k, rfl⟩ := succ_of hk
    simp only [vec_Combine.j0]
    rfl
  simp only [j0]
  by_cases h1 : cs.length < 1
  · rw [if_pos (by omega), if_pos trivial, if_neg (by omega)]
  · rw [if_neg (by omega)]
    by_cases h2 : cs.length > 12
    · rw [if_pos (by omega), if_pos trivial, if_neg (by omega)]
    · rw [if_neg (by omega)]
      by_cases h3 : rows.length = cs.length
      · rw [if_pos (by omega), alike_f rows hl (by omega)]
        simp only [Option.bind_some]
        cases h4 : alikeB rows with
        | false =>
          have hne : ¬ (1 ≤ cs.length ∧ cs.length ≤ 12 ∧ rows.length = cs.length ∧ false = true ∧ okV cs = true) := fun h => by have := h.2.2.2.1; contradiction
          rw [if_neg hne]; rfl
        | true =>
          have hs := alikeB_size h4
          have h0 := hs _ (row0_mem (by omega))
          have hmul : cs.length * ((row0 rows).size + 2) ≤ 12 * 4098 := Nat.mul_le_mul (by omega) (by omega)
          have h := vout_l rows cs h3 (by omega) (row0 rows).size h0.2 (fun r hr => (hs r hr).1) cs.length (k - 1) 0 (zerosF (row0 rows).size) (by omega) (by unfold zerosF; simp) (by omega)
          rw [← zeros_map, List.drop_zero, List.drop_zero] at h
          simp only [Bool.not_true, Bool.false_eq_true, if_false]
          rw [if_pos (by omega), if_pos (by omega), if_pos (by omega), Int.toNat_natCast]
          refine h.trans ?_
          by_cases h5 : okV cs = true
          · rw [if_pos h5, if_pos ⟨by omega, by omega, h3, trivial, h5⟩]
          · rw [if_neg h5, if_neg (fun hh => h5 hh.2.2.2.2)]
      · rw [if_neg (by omega), if_pos trivial, if_neg (fun hh => h3 hh.2.2.1)]
end Go.Proofs.Ythglackkhajapaa.CombineLinearVec
