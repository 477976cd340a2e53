/- The reference's encoding: what it comes to, and that it is the program's at every input. Plain; no condition. Texts of one's own, written over: the call's walk, by hand. Plain; no condition. -/
import Derived.Test.YtaahnicjjpddjaaKEncodesGVec0
import Derived.Test.YtaahnicjjpddjaaKEncodesGRenc0
import Derived.Test.YtaahnicjjpddjaaKEncodesGRenc1
import Derived.Test.YtaahnicjjpddjaaKEncodesEncLaw
import Derived.Test.YtaahnicjjpddjaaKEncodesInvTwo
section
namespace Go.Proofs.Ytaahnicjjpddjaa.Enc
open Go.RowKit Go.Proofs.YtaahnicjjpddjaaW.PrintWords Go.Proofs.YtaahnicjjpddjaaW.PrintLast Go.Proofs.YtaahnicjjpddjaaW.PrintMore Go.Proofs.Ytaahnicjjpddjaa.Fld Go.Proofs.Ytaahnicjjpddjaa.Mat Go.Proofs.Ytaahnicjjpddjaa.Fn Go.Proofs.Ytaahnicjjpddjaa.Pr
open Go.Proofs.Ytaahnicjjpddjaa.GvcVec (combine alikeB alikeB_size row0 row0_mem)
open Go.Proofs.Ytaahnicjjpddjaa.Rvc (rcomb ralike_f)

theorem rdE (m : List (List Int)) (i : Nat) (h : i < m.length) : GRenc.rd_L1 m (i : Int) = m[i] := by
  show m.getD (i : Int).toNat [] = m[i]
  rw [Int.toNat_natCast, getD_get _ _ _ h]
theorem renc_l (d p : Nat) (h1 : 1 ≤ d) (h2 : d ≤ 4) (h3 : p ≤ 2) (data : List ByteArray) (hl : data.length = d) (ha : alikeB data = true) (e : Nat) : ∀ (k i : Nat), i + e = p → 60000 + e < k →
    GRenc.ossuaryref1_Encode.l0 k data (par d i data) ((d + i : Nat) : Int) (d : Int) (p : Int) (fmat (code d) (d + p) d) = some (par d p data, 0) := by
  have ew : wrap64 ((d : Int) + (p : Int)) = ((d + p : Nat) : Int) := by rw [wrap64_in (by omega) (by omega)]; omega
  induction e with
  | zero =>
    intro k i hi hk
    obtain ⟨k, rfl⟩ : ∃ m, k = m + 1 := ⟨k - 1, by omega⟩
    obtain rfl : p = i := by omega
    simp only [GRenc.ossuaryref1_Encode.l0]
    rw [ew, if_neg (Int.lt_irrefl _)]
  | succ e ih =>
    intro k i hi hk
    obtain ⟨k, rfl⟩ : ∃ m, k = m + 1 := ⟨k - 1, by omega⟩
    have ih' := ih k (i + 1) (by omega) (by omega)
    simp only [GRenc.ossuaryref1_Encode.l0]
    rw [ew]
    clear ew
    rw [if_pos (Int.ofNat_lt.2 (by omega)), if_pos (Int.natCast_nonneg _), fmat_length, if_pos (Int.ofNat_lt.2 (by omega)), rdE _ (d + i) (by rw [fmat_length]; omega), fmat_get, rcomb (by omega) _ _ (by omega), cmb_eq _ h1 (by omega) hl ha]
    simp only [Option.bind_some]
    rw [par_length, if_pos (by omega), succ_wrap (d + i) (by omega), ← par_succ]
    exact ih'
theorem renc_f {k : Nat} (hk : 61000 < k) (d p : Nat) (h1 : 1 ≤ d) (h2 : d ≤ 4) (h3 : p ≤ 2) (data : List ByteArray) (hl : data.length = d) (ha : alikeB data = true) : GRenc.ossuaryref1_Encode.f k (d : Int) (p : Int) data = some (par d p data, 0) := by
  unfold GRenc.ossuaryref1_Encode.f
  rw [rshape_f, decide_eq_true ⟨by omega, by omega, by omega, by omega⟩]
  simp only [Option.bind_some, if_true]
  obtain ⟨k, rfl⟩ : ∃ m, k = m + 1 := ⟨k - 1, by omega⟩
  rw [if_pos (by omega), ralike_f _ (by omega) (by omega), ha]
  simp only [Option.bind_some, GRenc.ossuaryref1_Encode.j0, Bool.not_true, Bool.false_eq_true, if_false]
  rw [rgen_f (by omega) d p h1 h2 h3]
  simp only [Option.bind_some]
  exact renc_l d p h1 h2 h3 data hl ha p k 0 (by omega) (by omega)
theorem renc_no {k : Nat} (hk : 61000 < k) (a b : Int) (data : List ByteArray) (h : ¬ ((1 ≤ a ∧ a ≤ 4 ∧ 0 ≤ b ∧ b ≤ 2) ∧ (data.length : Int) = a ∧ alikeB data = true)) : GRenc.ossuaryref1_Encode.f k a b data = some ([], 600) := by
  unfold GRenc.ossuaryref1_Encode.f
  have j : ∀ a b, GRenc.ossuaryref1_Encode.j0 k data true a b = some ([], 600) := fun a b => by
    obtain ⟨k, rfl⟩ : ∃ m, k = m + 1 := ⟨k - 1, by omega⟩
    simp only [GRenc.ossuaryref1_Encode.j0, if_true]
  rw [rshape_f]
  by_cases hs : 1 ≤ a ∧ a ≤ 4 ∧ 0 ≤ b ∧ b ≤ 2
  · rw [decide_eq_true hs]
    simp only [Option.bind_some, if_true]
    by_cases hl : (data.length : Int) = a
    · rw [if_pos hl, ralike_f _ (by omega) (by omega)]
      have ha : alikeB data = false := Bool.eq_false_iff.2 (fun e => h ⟨hs, hl, e⟩)
      rw [ha]
      simp only [Option.bind_some, Bool.not_false, j]
    · rw [if_neg hl, j]
  · rw [decide_eq_false hs]
    simp only [Option.bind_some, Bool.false_eq_true, if_false, j]
theorem cmb_small {d : Nat} (f : Nat → F) {rows : List ByteArray} (h1 : 1 ≤ d) (h2 : d ≤ 12) (hl : rows.length = d) (ha : alikeB rows = true) : (cmb d f rows).size ≤ 5000 := by
  have := (alikeB_size ha _ (row0_mem (by omega))).2
  rw [cmb_size f h1 h2 hl ha]
  omega
theorem par_size (d p : Nat) (h1 : 1 ≤ d) (h2 : d ≤ 4) (data : List ByteArray) (hl : data.length = d) (ha : alikeB data = true) : ∀ x ∈ par d p data, x.size ≤ 5000 := by
  intro x hx
  unfold par at hx
  obtain ⟨i, _, rfl⟩ := List.mem_map.1 hx
  exact cmb_small _ h1 (by omega) hl ha
def encode_r (k : Nat) (a b : Int) (data : List ByteArray) (r : List ByteArray × Int) : Prop := GEnc.encode_Encode.f k a b data = some r ∧ GRenc.ossuaryref1_Encode.f k a b data = some r
/-- the program's is the document's. -/
theorem enc_same {k : Nat} (hk : 61000 < k) (a b : Int) (data : List ByteArray) (hk' : data.length < k) : ∃ r, encode_r k a b data r ∧ (r.1.length ≤ 2 ∧ ∀ x ∈ r.1, x.size ≤ 5000) := by
  by_cases h : (1 ≤ a ∧ a ≤ 4 ∧ 0 ≤ b ∧ b ≤ 2) ∧ (data.length : Int) = a ∧ alikeB data = true
  · obtain ⟨hs, hl, ha⟩ := h
    obtain ⟨d, rfl⟩ : ∃ d : Nat, a = (d : Int) := ⟨a.toNat, by omega⟩
    obtain ⟨p, rfl⟩ : ∃ p : Nat, b = (p : Int) := ⟨b.toNat, by omega⟩
    exact ⟨(par d p data, 0), ⟨enc_f hk d p (by omega) (by omega) (by omega) data (by omega) ha, renc_f hk d p (by omega) (by omega) (by omega) data (by omega) ha⟩, ⟨by rw [par_length]; omega, par_size d p (by omega) (by omega) data (by omega) ha⟩⟩
  · exact ⟨([], 600), ⟨enc_no hk a b data hk' h, renc_no hk a b data h⟩, by simp, by simp⟩
end Go.Proofs.Ytaahnicjjpddjaa.Enc
end
section
namespace Go.Proofs.Ytaahnicjjpddjaa.Pr
open Go.RowKit Go.Proofs.YtaahnicjjpddjaaW.PrintWords Go.Proofs.YtaahnicjjpddjaaW.PrintLast Go.Proofs.YtaahnicjjpddjaaW.PrintMore Go.Proofs.Ytaahnicjjpddjaa.Fld Go.Proofs.Ytaahnicjjpddjaa.Mat
set_option linter.unusedVariables false

/-- the texts from i on as they were. -/
def StrAt (w : World) (g n i : Nat) (xs : List ByteArray) : Prop := ∃ cur, w.heap[g]? = some (.cells cur 9 (0, 0)) ∧ ∀ j, i ≤ j → j < n → cur[j]? = some (.string (xs.getD j ByteArray.empty))
theorem StrAt.cell {w : World} {g n i : Nat} {xs : List ByteArray} (H : StrAt w g n i xs) (hi : i < n) : w.cell? ⟨g, i, none⟩ = some (.string (xs.getD i ByteArray.empty)) := by
  obtain ⟨cur, h1, h2⟩ := H
  exact (blk_cell h1 i).trans (h2 i (Nat.le_refl _) hi)
theorem StrAt.frozen {w : World} {g n i : Nat} {xs : List ByteArray} (H : StrAt w g n i xs) (j : Nat) : w.frozen? ⟨g, j, none⟩ = false := by
  obtain ⟨cur, h1, _⟩ := H
  exact blk_frozen h1 j
theorem StrAt.put {w : World} {g n i : Nat} {xs : List ByteArray} (H : StrAt w g n i xs) (u : Value) : StrAt (w.setCell ⟨g, i, none⟩ u) g n (i + 1) xs := by
  obtain ⟨cur, h1, h2⟩ := H
  refine ⟨cur.setIfInBounds i u, blk_put h1 i _ rfl, fun j h3 h4 => ?_⟩
  rw [Array.getElem?_setIfInBounds, if_neg (by omega)]
  exact h2 j (by omega) h4
def SpoilEnd (W0 : World) (e : Ending) (w' : World) : Prop := e = .returned (.tuple #[]) ∧ Below W0.heap.size W0 w'
set_option maxHeartbeats 2000000 in
set_option maxRecDepth 100000 in
theorem spoilT_calls (W0 w : World) (n g c : Nat) (xs : List ByteArray) (hn : n ≤ 9223372036854775807) (hg : W0.heap.size ≤ g) (hB : Below W0.heap.size W0 w) (hS : StrAt w g n 0 xs) (hx : n ≤ xs.length) (hz : ∀ x ∈ xs, x.size ≤ 5000) :
    Calls Try.prog 51 #[.slice (some ⟨g, 0, none⟩) n c] w (SpoilEnd W0) := by
  have HB := Aside0.mk hB
  have HS := Aside0.mk hS
  have HG := Aside0.mk hg
  have HZ := Aside0.mk hz
  clear hB hS hg hz
  go_enter Try.func51, Try.ntmps51
  go_wp2
  go_loopw [2] (fun v2 wr => ∃ i : Nat, v2 = .int .i64 i ∧ i ≤ n ∧ Aside0 (Below W0.heap.size W0 wr) ∧ Aside0 (StrAt wr g n i xs)) (fun v _ => n - (intOf v).toNat)
  case atStart => exact ⟨0, rfl, by omega, HB, HS⟩
  case round =>
    clear HS HB
    obtain ⟨i, rfl, hin, HB, HS⟩ := hrel
    by_cases hlt : i < n
    · have q1 : decide ((i : Int) < (n : Int)) = true := decide_eq_true (by omega)
      have x1 := HS.out.cell hlt
      have x2 := HS.out.frozen i
      have x3 : (xs[i]?.getD ByteArray.empty).size ≤ 5000 := by
        rw [List.getElem?_eq_getElem (by omega)]
        exact HZ.out _ (List.getElem_mem _)
      go_wp2
      all_goals first
        | exact ⟨⟨i + 1, by go_num, by omega, ⟨below_set HB.out HG.out⟩, ⟨HS.out.put _⟩⟩, by simp only [intOf]; omega⟩
        | omega
    · obtain rfl : n = i := by omega
      have q1 : decide ((n : Int) < (n : Int)) = false := decide_eq_false (by omega)
      go_wp2
      go_end0
      exact ⟨rfl, HB.out⟩
set_option maxHeartbeats 2000000 in
theorem spoilT_nil (W0 w : World) (A : Option Addr) (c : Nat) (hB : Below W0.heap.size W0 w) : Calls Try.prog 51 #[.slice A 0 c] w (SpoilEnd W0) := by
  have HB := Aside0.mk hB
  clear hB
  go_enter Try.func51, Try.ntmps51
  go_wp2
  go_loopw [2] (fun v2 wr => v2 = .int .i64 0 ∧ Aside0 (Below W0.heap.size W0 wr)) (fun _ _ => 0)
  case atStart => exact ⟨rfl, HB⟩
  case round =>
    obtain ⟨rfl, HB2⟩ := hrel
    go_wp2
    go_end0
    exact ⟨rfl, HB2.out⟩
theorem spoilT (W0 w : World) {xs : List ByteArray} {base : Nat} {ok : Nat → Prop} {A : Option Addr} {c : Nat} (h : Kd.R Kd.string 9 w base ok (.slice A xs.length c) xs) (hb : W0.heap.size ≤ base) (hB : Below W0.heap.size W0 w) (hz : ∀ x ∈ xs, x.size ≤ 5000) :
    Calls Try.prog 51 #[.slice A xs.length c] w (SpoilEnd W0) := by
  have hm := (Kd.R_reads' h).2.2.2.1
  by_cases hn : 1 ≤ xs.length
  · obtain ⟨h0, inner, ho, hr⟩ := h
    obtain ⟨g, C, cur, h1, h2, h3, h4, h5, h6, h7⟩ := own_slice ho hn
    injection h1 with e1 e2 e3
    subst e1
    refine spoilT_calls W0 w xs.length g c xs hm (Nat.le_trans hb h2) hB ⟨cur, h3, fun j _ hj => ?_⟩ (Nat.le_refl _) hz
    rw [take_get h7 hj]
    obtain ⟨hl, hr⟩ := hr
    have h8 := hr j _ (List.getElem?_eq_getElem hj)
    have h9 : (inner.drop (j * 1)).take 1 = [Value.string xs[j]] := h8
    rw [Nat.mul_one] at h9
    have h11 : ((inner.drop j).take 1)[0]? = some (Value.string xs[j]) := by rw [h9]; rfl
    rw [List.getElem?_take_of_lt (by omega), List.getElem?_drop, Nat.add_zero] at h11
    rw [h11, getD_get _ _ _ hj]
  · have e : xs.length = 0 := by omega
    rw [e]
    exact spoilT_nil W0 w A c hB
end Go.Proofs.Ytaahnicjjpddjaa.Pr
end
