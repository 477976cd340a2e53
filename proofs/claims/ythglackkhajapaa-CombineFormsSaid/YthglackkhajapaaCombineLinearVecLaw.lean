/- Sums of rows, each times its number: what they come to byte by byte, and when they are not refused. No condition. -/
import Derived.Test.YthglackkhajapaaCombineLinearVec
namespace Go.Proofs.Ythglackkhajapaa.CombineLinearVec
open Go.RowKit Go.Proofs.Ythglackkhajapaa.Fld Go.Proofs.YthglackkhajapaaW.PrintWords

theorem okV_map (cs : List F) : okV (cs.map toI) = true := by
  induction cs with
  | nil => rfl
  | cons c cs ih => rw [List.map_cons, okV_cons_yes (toI_lo c) (toI_hi c), ih]
theorem map_ofI (cs : List F) : (cs.map toI).map ofI = cs := by
  rw [List.map_map]
  have : (ofI ∘ toI) = id := by funext x; exact ofI_toI x
  rw [this, List.map_id]
theorem alikeB_mk {rows : List ByteArray} (m : Nat) (hm : m ≤ 4096) (h : ∀ r ∈ rows, r.size = m) (h0 : 0 < rows.length) : alikeB rows = true ∧ (row0 rows).size = m := by
  have e := h _ (row0_mem h0)
  refine ⟨?_, e⟩
  unfold alikeB
  rw [List.all_eq_true]
  intro r hr
  have hr' := h r hr
  unfold sameB
  rw [decide_eq_true (show r.size = (row0 rows).size by omega), decide_eq_true (show r.size ≤ 4096 by omega)]; rfl
/-- the sum itself. -/
def sumF (cs : List F) (rows : List ByteArray) (m : Nat) : ByteArray := strF (combL cs rows (zerosF m))
theorem sumF_size (cs : List F) (rows : List ByteArray) (m : Nat) : (sumF cs rows m).size = m := by
  unfold sumF; rw [strF_size, combL_length]; unfold zerosF; simp
theorem sumF_byte (cs : List F) (rows : List ByteArray) (m j : Nat) (h : j < m) : bF (sumF cs rows m) j = accF cs rows j := by
  unfold sumF
  rw [bF_strF, combL_get _ _ _ _ (by unfold zerosF; simp [h])]
  have : (zerosF m).getD j 0#8 = 0#8 := by
    unfold zerosF
    rw [List.getD_eq_getElem?_getD, List.getElem?_replicate]
    split <;> rfl
  rw [this, BitVec.zero_xor]
theorem combine_yes {cs : List F} {rows : List ByteArray} (m : Nat) (h1 : 1 ≤ cs.length) (h2 : cs.length ≤ 12) (h3 : rows.length = cs.length) (hm : m ≤ 4096) (h : ∀ r ∈ rows, r.size = m) :
    combine (cs.map toI) rows = (sumF cs rows m, 0) := by
  obtain ⟨ha, hb⟩ := alikeB_mk m hm h (by omega)
  unfold combine
  rw [if_pos ⟨by rw [List.length_map]; exact h1, by rw [List.length_map]; exact h2, by rw [List.length_map]; exact h3, ha, okV_map cs⟩, map_ofI, hb]
  rfl
theorem size_zero_of (s : ByteArray) (j : Nat) (h : ¬ j < s.size) : bF s j = 0#8 := by unfold bF; rw [dif_neg h]
theorem ba_bytes {s t : ByteArray} (hs : s.size = t.size) (h : ∀ j, j < s.size → bF s j = bF t j) : s = t := by
  apply ba_ext
  apply List.ext_getElem?
  intro j
  by_cases hj : j < s.size
  · rw [bF_data s j hj, bF_data t j (by omega), h j hj]
  · rw [List.getElem?_eq_none (by rw [data_length]; omega), List.getElem?_eq_none (by rw [data_length]; omega)]
theorem bF_extract (s : ByteArray) (a b j : Nat) (hb : b ≤ s.size) (hj : j < b - a) : bF (s.extract a b) j = bF s (a + j) := by
  have h1 : j < (s.extract a b).size := by rw [ByteArray.size_extract]; omega
  have h2 : a + j < s.size := by omega
  unfold bF
  rw [dif_pos h1, dif_pos h2, ByteArray.getElem_extract]
/-- what a sum of rows that are all one comes to. -/
theorem acc_const (cs : List F) (a : ByteArray) (j : Nat) : accF cs (cs.map fun _ => a) j = fm (cs.foldr (fun c s => c ^^^ s) 0#8) (bF a j) := by
  induction cs with
  | nil => simp only [accF, List.foldr_nil, zero_fm]
  | cons c cs ih => rw [List.map_cons, accF, ih, List.foldr_cons, xor_fm]
end Go.Proofs.Ythglackkhajapaa.CombineLinearVec
