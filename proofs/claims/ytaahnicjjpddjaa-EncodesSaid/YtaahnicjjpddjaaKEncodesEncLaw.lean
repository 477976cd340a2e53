/- Functions of the program as Lean functions, each with a proof that its call comes to what the function says; written by wip/gen.py of our own repo. No condition. What encoding, decoding and rebuilding come to, at every input: sums of rows by the code's matrix and its inverses. No condition. -/
import Derived.Test.YtaahnicjjpddjaaKEncodesGEnc0
import Derived.Test.YtaahnicjjpddjaaKEncodesGEnc1
section
namespace Go.Proofs.Ytaahnicjjpddjaa.Enc
open Go.RowKit Go.Proofs.YtaahnicjjpddjaaW.PrintWords Go.Proofs.YtaahnicjjpddjaaW.PrintLast Go.Proofs.YtaahnicjjpddjaaW.PrintMore Go.Proofs.Ytaahnicjjpddjaa.Fld Go.Proofs.Ytaahnicjjpddjaa.Mat Go.Proofs.Ytaahnicjjpddjaa.Fn Go.Proofs.Ytaahnicjjpddjaa.Pr Go.Proofs.Ytaahnicjjpddjaa.GEnc
open Go.Proofs.Ytaahnicjjpddjaa.GvcVec (combine alikeB alikeB_mk alikeB_size row0 row0_mem vcomb alike_f bF accF combine_yes ba_bytes sumF_size sumF_byte rdOf_nat)

/-- a sum of rows. -/
def cmb (d : Nat) (f : Nat → F) (rows : List ByteArray) : ByteArray := (combine (rowOf (fun j => toI (f j)) d) rows).1
theorem rowOf_map (d : Nat) (f : Nat → F) : rowOf (fun j => toI (f j)) d = ((List.range d).map f).map toI := by unfold rowOf; rw [List.map_map]; rfl
theorem cmb_eq {d : Nat} (f : Nat → F) {rows : List ByteArray} (h1 : 1 ≤ d) (h2 : d ≤ 12) (hl : rows.length = d) (ha : alikeB rows = true) : combine (rowOf (fun j => toI (f j)) d) rows = (cmb d f rows, 0) := by
  have hs := alikeB_size ha
  have hm := hs _ (row0_mem (by omega))
  have h := combine_yes (cs := (List.range d).map f) (rows := rows) (row0 rows).size (by simp; omega) (by simp; omega) (by simp; omega) hm.2 (fun r hr => (hs r hr).1)
  unfold cmb
  rw [rowOf_map, h]
theorem cmb_size {d : Nat} (f : Nat → F) {rows : List ByteArray} (h1 : 1 ≤ d) (h2 : d ≤ 12) (hl : rows.length = d) (ha : alikeB rows = true) : (cmb d f rows).size = (row0 rows).size := by
  have hs := alikeB_size ha
  have hm := hs _ (row0_mem (by omega))
  have h := combine_yes (cs := (List.range d).map f) (rows := rows) (row0 rows).size (by simp; omega) (by simp; omega) (by simp; omega) hm.2 (fun r hr => (hs r hr).1)
  unfold cmb
  rw [rowOf_map, h]
  exact sumF_size _ _ _
/-- the parity. -/
noncomputable def par (d p : Nat) (data : List ByteArray) : List ByteArray := (List.range p).map fun i => cmb d (code d (d + i)) data
theorem par_length (d p : Nat) (data : List ByteArray) : (par d p data).length = p := by simp [par]
theorem par_succ (d p : Nat) (data : List ByteArray) : par d (p + 1) data = par d p data ++ [cmb d (code d (d + p)) data] := by unfold par; rw [List.range_succ, List.map_append]; rfl
theorem rdL2 (m : List (List Int)) (i : Nat) (h : i < m.length) : rd_L2 m (i : Int) = m[i] := by
  show m.getD (i : Int).toNat [] = m[i]
  rw [Int.toNat_natCast, getD_get _ _ _ h]
theorem fmat_drop (g : Nat → Nat → F) (d p m : Nat) : (fmat g (d + p) m).drop d = fmat (fun i j => g (d + i) j) p m := by
  apply List.ext_getElem
  · rw [List.length_drop, fmat_length, fmat_length]; omega
  · intro i h1 h2
    rw [List.getElem_drop, fmat_get, fmat_get]
theorem enc_l (d p : Nat) (h1 : 1 ≤ d) (h2 : d ≤ 4) (h3 : p ≤ 2) (data : List ByteArray) (hl : data.length = d) (ha : alikeB data = true) (e : Nat) : ∀ (k i : Nat), i + e = p → 60000 + e < k →
    encode_Encode.l0 k data (par d i data) (fmat (fun i j => code d (d + i) j) p d) (p : Int) (i : Int) = some (par d p data, 0) := by
  induction e with
  | zero =>
    intro k i hi hk
    obtain ⟨k, rfl⟩ : ∃ m, k = m + 1 := ⟨k - 1, by omega⟩
    obtain rfl : p = i := by omega
    simp only [encode_Encode.l0]
    rw [if_neg (by omega)]
  | succ e ih =>
    intro k i hi hk
    obtain ⟨k, rfl⟩ : ∃ m, k = m + 1 := ⟨k - 1, by omega⟩
    simp only [encode_Encode.l0]
    rw [if_pos (by omega), if_pos (by omega), fmat_length, if_pos (by omega), rdL2 _ i (by rw [fmat_length]; omega), fmat_get, vcomb (by omega) _ _ (by omega), cmb_eq _ h1 (by omega) hl ha]
    simp only [Option.bind_some]
    rw [par_length, if_pos (by omega), succ_wrap i (by omega), ← par_succ]
    exact ih k (i + 1) (by omega) (by omega)
theorem enc_f {k : Nat} (hk : 61000 < k) (d p : Nat) (h1 : 1 ≤ d) (h2 : d ≤ 4) (h3 : p ≤ 2) (data : List ByteArray) (hl : data.length = d) (ha : alikeB data = true) : encode_Encode.f k (d : Int) (p : Int) data = some (par d p data, 0) := by
  unfold encode_Encode.f
  rw [gen_f (by omega) d p h1 h2 h3]
  simp only [Option.bind_some, if_true]
  obtain ⟨k, rfl⟩ : ∃ m, k = m + 1 := ⟨k - 1, by omega⟩
  rw [if_pos (by omega), alike_f _ (by omega) (by omega), ha]
  simp only [Option.bind_some, encode_Encode.j0, Bool.not_true, Bool.false_eq_true, if_false]
  rw [if_pos (by omega), fmat_length, if_pos (by omega), Int.toNat_natCast, fmat_drop, fmat_length]
  exact enc_l d p h1 h2 h3 data hl ha p k 0 (by omega) (by omega)
theorem enc_no {k : Nat} (hk : 61000 < k) (a b : Int) (data : List ByteArray) (hk' : data.length < k) (h : ¬ ((1 ≤ a ∧ a ≤ 4 ∧ 0 ≤ b ∧ b ≤ 2) ∧ (data.length : Int) = a ∧ alikeB data = true)) : encode_Encode.f k a b data = some ([], 600) := by
  unfold encode_Encode.f
  have j : ∀ m, encode_Encode.j0 k data true a b m = some ([], 600) := fun m => by
    obtain ⟨k, rfl⟩ : ∃ m, k = m + 1 := ⟨k - 1, by omega⟩
    simp only [encode_Encode.j0, if_true]
  by_cases hs : 1 ≤ a ∧ a ≤ 4 ∧ 0 ≤ b ∧ b ≤ 2
  · obtain ⟨d, rfl⟩ : ∃ d : Nat, a = (d : Int) := ⟨a.toNat, by omega⟩
    obtain ⟨p, rfl⟩ : ∃ p : Nat, b = (p : Int) := ⟨b.toNat, by omega⟩
    rw [gen_f (by omega) d p (by omega) (by omega) (by omega)]
    simp only [Option.bind_some, if_true]
    by_cases hl : (data.length : Int) = (d : Int)
    · rw [if_pos hl, alike_f _ (by omega) (by omega)]
      have ha : alikeB data = false := Bool.eq_false_iff.2 (fun e => h ⟨hs, hl, e⟩)
      rw [ha]
      simp only [Option.bind_some, Bool.not_false, j]
    · rw [if_neg hl, j]
  · rw [gen_no a b hs]
    simp only [Option.bind_some]
    rw [if_neg (by decide), j]

/-! ### decoding -/
end Go.Proofs.Ytaahnicjjpddjaa.Enc
end
