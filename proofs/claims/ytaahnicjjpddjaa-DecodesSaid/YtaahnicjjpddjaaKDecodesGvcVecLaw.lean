/- Functions of the program as Lean functions, each with a proof that its call comes to what the function says. No condition. Shapes and rows by a number: what remainders come to; rows that are picked. Plain; no condition. Sums of rows, each times its number: what they come to byte by byte, and when they are not refused. No condition. -/
import Derived.Test.YtaahnicjjpddjaaKDecodesGRef13
import Derived.Test.YtaahnicjjpddjaaKDecodesGRef6
import Derived.Test.YtaahnicjjpddjaaKDecodesGvcVec
section
namespace Go.Proofs.Ytaahnicjjpddjaa.GRenc
open Go.Proofs.Ytaahnicjjpddjaa.Fn
open Go.Proofs.Ytaahnicjjpddjaa
open Go.RowKit Go.Proofs.YtaahnicjjpddjaaW.PrintWords Go.Proofs.YtaahnicjjpddjaaW.PrintLast
set_option linter.unusedVariables false
set_option linter.unusedSimpArgs false



noncomputable def errW : Option Int → Value
 | none => .nilIface
 | some c => .iface 0 (.int .i64 c)
theorem errW_none : errW none = .nilIface := rfl
theorem errW_some (c : Int) : errW (some c) = .iface 0 (.int .i64 c) := rfl

theorem info3 : (Try.prog.info? 3).map (fun i => (i.zero, i.size, i.bytes)) = some (some (.int .i64 0), 1, 8) := by kernel_rfl
theorem info9 : (Try.prog.info? 9).map (fun i => (i.zero, i.size, i.bytes)) = some (some (.string ⟨#[]⟩), 1, 16) := by kernel_rfl
-- the values' own types
noncomputable def rd_L1 (xs : List (List Int)) (i : Int) : (List Int) := xs.getD i.toNat ([] : List Int)
theorem at_L1 {w : World} {A : Option Addr} {n : Nat} {xs : List (List Int)} (h : Kd.C (Kd.slice 3 (Kd.int .i64)) w A n xs) (i : Int) (h0 : 0 ≤ i) (h1 : i < n) : ∃ ad A0 c0, A = some ad ∧ w.cell? (ad.add i.toNat) = some (.slice A0 (rd_L1 xs i).length c0) ∧ (rd_L1 xs i).length ≤ c0 ∧ (Kd.int .i64).C w A0 (rd_L1 xs i).length (rd_L1 xs i) := by
 obtain ⟨ad, c, e, _, hK, hc0⟩ := Kd.C_get h ([] : List Int) i h0 h1
 have hc : ∀ j u, c[j]? = some u → w.cell? (ad.add (i.toNat * 1 + j)) = some u := hc0
 obtain ⟨A0, c0, rfl, l0, g0⟩ := hK
 exact ⟨ad, A0, c0, e, uI, l0, g0⟩

noncomputable def rd_L2 (xs : List (List (List Int))) (i : Int) : (List (List Int)) := xs.getD i.toNat ([] : List (List Int))
theorem at_L2 {w : World} {A : Option Addr} {n : Nat} {xs : List (List (List Int))} (h : Kd.C (Kd.slice 25 (Kd.slice 3 (Kd.int .i64))) w A n xs) (i : Int) (h0 : 0 ≤ i) (h1 : i < n) : ∃ ad A0 c0, A = some ad ∧ w.cell? (ad.add i.toNat) = some (.slice A0 (rd_L2 xs i).length c0) ∧ (rd_L2 xs i).length ≤ c0 ∧ (Kd.slice 3 (Kd.int .i64)).C w A0 (rd_L2 xs i).length (rd_L2 xs i) := by
 obtain ⟨ad, c, e, _, hK, hc0⟩ := Kd.C_get h ([] : List (List Int)) i h0 h1
 have hc : ∀ j u, c[j]? = some u → w.cell? (ad.add (i.toNat * 1 + j)) = some u := hc0
 obtain ⟨A0, c0, rfl, l0, g0⟩ := hK
 exact ⟨ad, A0, c0, e, uI, l0, g0⟩

/-! #### struct type 24 -/
/-! #### struct type 51 -/
end Go.Proofs.Ytaahnicjjpddjaa.GRenc
end
section
namespace Go.Proofs.Ytaahnicjjpddjaa.GRenc
end Go.Proofs.Ytaahnicjjpddjaa.GRenc
end
section
namespace Go.Proofs.Ytaahnicjjpddjaa.Pr
open Go.RowKit Go.Proofs.YtaahnicjjpddjaaW.PrintWords Go.Proofs.YtaahnicjjpddjaaW.PrintLast Go.Proofs.YtaahnicjjpddjaaW.PrintMore Go.Proofs.Ytaahnicjjpddjaa.Fld Go.Proofs.Ytaahnicjjpddjaa.Mat Go.Proofs.Ytaahnicjjpddjaa.Fn

theorem rowsIn_get {n : Nat} {rows : List Int} (h : rowsIn n rows = true) {i : Nat} (hi : i < rows.length) : 0 ≤ rows[i] ∧ rows[i].toNat < n := by
  have h1 := List.all_eq_true.1 h _ (List.getElem_mem hi)
  rw [Bool.and_eq_true] at h1
  have h2 := of_decide_eq_true h1.1
  have h3 := of_decide_eq_true h1.2
  exact ⟨h2, uY⟩
theorem pick_fmat (g : Nat → Nat → F) (n m : Nat) (rows : List Int) (h : rowsIn n rows = true) : rows.map (fun r => (fmat g n m).getD r.toNat []) = fmat (fun i j => g (rows.getD i 0).toNat j) rows.length m := by
  apply List.ext_getElem
  · rw [List.length_map, fmat_length]
  · intro i h1 h2
    rw [List.length_map] at h1
    have h3 := (rowsIn_get h h1).2
    rw [List.getElem_map, getD_get _ _ _ (by rw [fmat_length]; exact h3), fmat_get, fmat_get, getD_get rows 0 i h1]
theorem pick_ok {k : Nat} (hk : 200 < k) (g : Nat → Nat → F) (n m : Nat) (n1 : 1 ≤ n) (n2 : n ≤ 12) (m1 : 1 ≤ m) (m2 : m ≤ 12) (rows : List Int) (h1 : 1 ≤ rows.length) (h2 : rows.length ≤ 12) (h : rowsIn n rows = true) :
    GBase.matrix_Pick.f k (fmat g n m) rows = some (fmat (fun i j => g (rows.getD i 0).toNat j) rows.length m, 0) := by
  rw [pick_f hk, fmat_length, if_pos ⟨fmat_may _ _ _ n1 n2 m1 m2, ⟨h1, h2⟩, h⟩, pick_fmat _ _ _ _ h]

def upto (n : Nat) : List Int := (List.range n).map fun (i : Nat) => (i : Int)
/-- distinct rows of the code's matrix, picked, have an inverse. -/
theorem code_picked {d : Nat} (_ : 1 ≤ d) (hd : d ≤ 12) {n : Nat} (hn : n ≤ 12) (rows : List Int) (hl : rows.length = d) (h : rowsIn n rows = true) (hnd : rows.Nodup) :
    ∃ y, eqM d (mm d y (fun i j => code d (rows.getD i 0).toNat j)) delta := by
  refine code_rows hd (fun i => (rows.getD i 0).toNat) (fun i hi => ?_) (fun i j hi hj e => ?_)
  · rw [getD_get _ _ _ uY]
    have := (rowsIn_get h (show i < rows.length by omega)).2
    omega
  · rw [getD_get _ _ _ (show i < rows.length by omega), getD_get _ _ _ (show j < rows.length by omega)] at e
    have h2 := (rowsIn_get h (show i < rows.length by omega)).1
    have h3 := (rowsIn_get h (show j < rows.length by omega)).1
    exact (List.getElem_inj hnd).1 (show rows[i] = rows[j] by omega)
theorem code21 : fmat (code 2) 3 2 = [[1, 0], [0, 1], [3, 2]] := code_lit 2 3 uY _ uU uU
end Go.Proofs.Ytaahnicjjpddjaa.Pr
end
section
namespace Go.Proofs.Ytaahnicjjpddjaa.GvcVec
open Go.RowKit Go.Proofs.Ytaahnicjjpddjaa.Fld Go.Proofs.YtaahnicjjpddjaaW.PrintWords

theorem okV_map (cs : List F) : okV (cs.map toI) = true := by
  induction cs with
  | nil => rfl
  | cons c cs ih => rw [List.map_cons, okV_cons_yes (toI_lo c) (toI_hi c), ih]
theorem map_ofI (cs : List F) : (cs.map toI).map ofI = cs := by
  rw [List.map_map]
  have : (ofI ∘ toI) = id := by funext x; exact ofI_toI x
  rw [this, List.map_id]
theorem alikeB_mk {rows : List ByteArray} (m : Nat) (hm : m ≤ 4096) (h : ∀ r ∈ rows, r.size = m) (h0 : 0 < rows.length) : alikeB rows = true ∧ (row0 rows).size = m := by
  have e := h _ (row0_mem h0)
  refine ⟨?_, e⟩
  unfold alikeB
  rw [List.all_eq_true]
  intro r hr
  have hr' := h r hr
  unfold sameB
  rw [decide_eq_true (show r.size = (row0 rows).size by omega), decide_eq_true (show r.size ≤ 4096 by omega)]; rfl
/-- the sum itself. -/
def sumF (cs : List F) (rows : List ByteArray) (m : Nat) : ByteArray := strF (combL cs rows (zerosF m))
theorem sumF_size (cs : List F) (rows : List ByteArray) (m : Nat) : (sumF cs rows m).size = m := by
  unfold sumF; rw [strF_size, combL_length]; unfold zerosF; simp
theorem sumF_byte (cs : List F) (rows : List ByteArray) (m j : Nat) (h : j < m) : bF (sumF cs rows m) j = accF cs rows j := by
  unfold sumF
  rw [bF_strF, combL_get _ _ _ _ (by unfold zerosF; simp [h])]
  have : (zerosF m).getD j 0#8 = 0#8 := by
    unfold zerosF
    rw [List.getD_eq_getElem?_getD, List.getElem?_replicate]
    split <;> rfl
  rw [this, BitVec.zero_xor]
theorem combine_yes {cs : List F} {rows : List ByteArray} (m : Nat) (h1 : 1 ≤ cs.length) (h2 : cs.length ≤ 12) (h3 : rows.length = cs.length) (hm : m ≤ 4096) (h : ∀ r ∈ rows, r.size = m) :
    combine (cs.map toI) rows = (sumF cs rows m, 0) := by
  obtain ⟨ha, hb⟩ := alikeB_mk m hm h uY
  unfold combine
  rw [if_pos ⟨by rw [List.length_map]; exact h1, by rw [List.length_map]; exact h2, by rw [List.length_map]; exact h3, ha, okV_map cs⟩, map_ofI, hb]
  rfl
theorem ba_bytes {s t : ByteArray} (hs : s.size = t.size) (h : ∀ j, j < s.size → bF s j = bF t j) : s = t := by
  apply ba_ext
  apply List.ext_getElem?
  intro j
  by_cases hj : j < s.size
  · rw [bF_data s j hj, bF_data t j uY, h j hj]
  · rw [List.getElem?_eq_none (by rw [data_length]; omega), List.getElem?_eq_none (by rw [data_length]; omega)]
end Go.Proofs.Ytaahnicjjpddjaa.GvcVec
end
