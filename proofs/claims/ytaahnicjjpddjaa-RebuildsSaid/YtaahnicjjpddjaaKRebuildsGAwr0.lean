/- The reference's decoding and rebuilding: what they come to, and that they are the program's at every input. Plain; no condition. Texts of one's own, written over: the call's walk, by hand. Plain; no condition. Functions of the program as Lean functions, each with a proof that its call comes to what the function says. No condition. -/
import Derived.Test.YtaahnicjjpddjaaKRebuildsRefEnc
import Derived.Test.YtaahnicjjpddjaaKRebuildsGRenc3
section
namespace Go.Proofs.Ytaahnicjjpddjaa.Pr
open Go.RowKit Go.Proofs.YtaahnicjjpddjaaW.PrintWords Go.Proofs.YtaahnicjjpddjaaW.PrintLast Go.Proofs.YtaahnicjjpddjaaW.PrintMore Go.Proofs.Ytaahnicjjpddjaa.Fld Go.Proofs.Ytaahnicjjpddjaa.Mat Go.Proofs.Ytaahnicjjpddjaa.Fn Go.Proofs.Ytaahnicjjpddjaa.GRef
theorem rpick_l (g : Nat → Nat → F) (n m : Nat) (_ : n ≤ 12) (hm : m ≤ 12) (rows : List Int) (h2 : rows.length ≤ 12) (h : rowsIn n rows = true) (e : Nat) : ∀ (k i : Nat), i + e = rows.length → e < k →
    ossuaryref1_Pick.l0 k rows (i : Int) (fmat g n m) (fmat (fun i j => g (rows.getD i 0).toNat j) i m) = some (fmat (fun i j => g (rows.getD i 0).toNat j) rows.length m, 0) := by
  induction e with
  | zero =>
    intro k i hi hk
    obtain ⟨k, rfl⟩ : ∃ m, k = m + 1 := ⟨k - 1, uX⟩
    simp only [ossuaryref1_Pick.l0]
    rw [if_neg uX, show i = rows.length by omega]
  | succ e ih =>
    intro k i hi hk
    obtain ⟨k, rfl⟩ : ∃ m, k = m + 1 := ⟨k - 1, uX⟩
    have ih' := ih k (i + 1) uX uX
    have hi2 : i < rows.length := by omega
    obtain ⟨r0, r1⟩ := rowsIn_get h hi2
    obtain ⟨r, hr⟩ : ∃ r : Nat, rows[i] = (r : Int) := ⟨rows[i].toNat, uX⟩
    have hr2 : r < n := by omega
    have e1 : fmat (fun i j => g (rows.getD i 0).toNat j) i m ++ [rowOf (fun j => toI (g r j)) m] = fmat (fun i j => g (rows.getD i 0).toNat j) (i + 1) m := by
      have hg : rows.getD i 0 = (r : Int) := by rw [getD_get rows 0 i hi2]; exact hr
      refine Eq.trans ?_ (matOf_succ _ _ _).symm
      simp only [hg, Int.toNat_natCast]
      rfl
    simp only [ossuaryref1_Pick.l0]
    rw [if_pos uX, if_pos uX, rd_at rows i hi2, hr, if_neg uX, fmat_length, if_neg uX]
    simp only [Option.bind_some, List.nil_append, List.length_nil]
    rw [if_pos uX, if_pos uX, rdR _ r uQ, fmat_get, rowOf_length, if_pos uX, fmat_length, if_pos uX, e1, succ_wrap i uX]
    exact ih'
theorem rpick_ok {k : Nat} (hk : 300 < k) (g : Nat → Nat → F) (n m : Nat) (n1 : 1 ≤ n) (n2 : n ≤ 12) (m1 : 1 ≤ m) (m2 : m ≤ 12) (rows : List Int) (h1 : 1 ≤ rows.length) (h2 : rows.length ≤ 12) (h : rowsIn n rows = true) :
    ossuaryref1_Pick.f k (fmat g n m) rows = some (fmat (fun i j => g (rows.getD i 0).toNat j) rows.length m, 0) := by
  unfold ossuaryref1_Pick.f
  rw [rmay_f uX, fmat_may g n m n1 n2 m1 m2]
  simp only [Option.bind_some, if_true]
  obtain ⟨k, rfl⟩ : ∃ m, k = m + 1 := ⟨k - 1, uX⟩
  rw [if_neg uX, decide_eq_false uX]
  simp only [ossuaryref1_Pick.j0, Bool.false_eq_true, if_false]
  exact rpick_l g n m n2 m2 rows h2 h rows.length k 0 uX uX
end Go.Proofs.Ytaahnicjjpddjaa.Pr
namespace Go.Proofs.Ytaahnicjjpddjaa.Enc
open Go.RowKit Go.Proofs.YtaahnicjjpddjaaW.PrintWords Go.Proofs.YtaahnicjjpddjaaW.PrintLast Go.Proofs.YtaahnicjjpddjaaW.PrintMore Go.Proofs.Ytaahnicjjpddjaa.Fld Go.Proofs.Ytaahnicjjpddjaa.Mat Go.Proofs.Ytaahnicjjpddjaa.Fn Go.Proofs.Ytaahnicjjpddjaa.Pr
open Go.Proofs.Ytaahnicjjpddjaa.GvcVec (combine alikeB alikeB_size row0 row0_mem)
open Go.Proofs.Ytaahnicjjpddjaa.Rvc (rcomb ralike_f)
/-- two inverses of one matrix are one. -/
theorem inv_one {d : Nat} {y y' m : Nat → Nat → F} (h : eqM d (mm d y m) delta) (h' : eqM d (mm d y' m) delta) : eqM d y y' := fun i j hi hj => by
  have hr := right_of_left h'
  have e1 : mm d y (mm d m y') i j = y i j := (mm_congr d y y _ delta i j (fun _ _ => rfl) (fun k hk => hr k j hk hj)).trans (mm_delta d y i j hj)
  rw [← e1, ← mm_assoc]
  exact (mm_congr d _ delta y' y' i j (fun k hk => h i k hi hk) (fun _ _ => rfl)).trans (delta_mm d y' i j hi)
theorem decd_congr {d : Nat} {y y' : Nat → Nat → F} (h : eqM d y y') (own : List ByteArray) : decd d y own = decd d y' own := by
  unfold decd
  refine List.map_congr_left (fun i hi => ?_)
  have hi' := List.mem_range.1 hi
  unfold cmb
  rw [rowOf_congr (fun j hj => by rw [h i j hi' hj])]
theorem decEnd_one {d : Nat} {shards : List ByteArray} {hv : List Bool} {x x' : Option (List ByteArray × Int)} (h : decEnd d shards hv x) (h' : decEnd d shards hv x') : x = x' := by
  unfold decEnd at h h'
  by_cases ha : alikeB (ownOf shards hv) = true
  · rw [if_pos ha] at h h'
    by_cases hl : (had hv 0).length < d
    · rw [if_pos hl] at h h'
      rw [h, h']
    · rw [if_neg hl] at h h'
      obtain ⟨y, hy, rfl⟩ := h
      obtain ⟨y', hy', rfl⟩ := h'
      rw [decd_congr (inv_one hy hy')]
  · rw [if_neg ha] at h h'
    rw [h, h']
theorem rdec_out (d p : Nat) (h1 : 1 ≤ d) (h2 : d ≤ 4) (y : Nat → Nat → F) (own : List ByteArray) (hl : d ≤ own.length) (ha : alikeB (own.take d) = true) (e : Nat) : ∀ (k i : Nat), i + e = d → 60000 + e < k →
    GRenc.ossuaryref1_Decode.l1 k own ((decd d y (own.take d)).take i) (i : Int) (d : Int) (p : Int) (fmat y d d) = some (decd d y (own.take d), 0) := by
  induction e with
  | zero =>
    intro k i hi hk
    obtain ⟨k, rfl⟩ : ∃ m, k = m + 1 := ⟨k - 1, uX⟩
    obtain rfl : d = i := by omega
    simp only [GRenc.ossuaryref1_Decode.l1]
    rw [if_neg uX, List.take_of_length_le (by rw [decd_length]; exact Nat.le_refl _)]
  | succ e ih =>
    intro k i hi hk
    obtain ⟨k, rfl⟩ : ∃ m, k = m + 1 := ⟨k - 1, uX⟩
    simp only [GRenc.ossuaryref1_Decode.l1]
    have hlen : (own.take d).length = d := by rw [List.length_take]; omega
    rw [if_pos uX, if_pos uX, fmat_length, if_pos uX, if_pos uX, if_pos uX, Int.toNat_natCast, rdE _ i uQ, fmat_get, rcomb uX _ _ uX, cmb_eq _ h1 uX hlen ha]
    simp only [Option.bind_some]
    have e1 : (decd d y (own.take d)).take i ++ [cmb d (y i) (own.take d)] = (decd d y (own.take d)).take (i + 1) := by
      rw [List.take_succ_eq_append_getElem (by rw [decd_length]; omega)]
      simp [decd]
    rw [if_pos (by rw [List.length_take, decd_length]; omega), succ_wrap i uX, e1]
    exact ih k (i + 1) uX uX
theorem rdec_in (d p : Nat) (h1 : 1 ≤ d) (h2 : d ≤ 4) (h3 : p ≤ 2) (shards : List ByteArray) (hv : List Bool) (hs : shards.length = d + p) (hh : hv.length = d + p) (e : Nat) : ∀ (k i : Nat), i + e = d + p → 60100 + e < k →
    decEnd d shards hv (GRenc.ossuaryref1_Decode.l0 k shards hv (rowsOf (hv.take i)) (ownOf shards (hv.take i)) (i : Int) (d : Int) (p : Int)) := by
  induction e with
  | zero =>
    intro k i hi hk
    obtain ⟨k, rfl⟩ : ∃ m, k = m + 1 := ⟨k - 1, uX⟩
    simp only [GRenc.ossuaryref1_Decode.l0]
    have hlen := had_len hv 0
    rw [List.take_of_length_le uX, if_neg uX, ralike_f _ uS uS]
    simp only [Option.bind_some]
    unfold decEnd
    by_cases ha : alikeB (ownOf shards hv) = true
    · rw [if_pos ha, if_pos ha]
      have hrl : (rowsOf hv).length = (had hv 0).length := by simp [rowsOf]
      rw [hrl]
      by_cases hl : (had hv 0).length < d
      · have hl' : (((had hv 0).length : Nat) : Int) < (d : Int) := by omega
        rw [if_pos hl', if_pos hl]
      · have hl' : ¬ (((had hv 0).length : Nat) : Int) < (d : Int) := by omega
        rw [if_neg hl, if_neg hl', rgen_f uX d p h1 h2 h3]
        simp only [Option.bind_some]
        rw [if_pos uX, if_pos uX, Int.toNat_natCast]
        have htl : ((rowsOf hv).take d).length = d := by rw [List.length_take, hrl]; omega
        rw [rpick_ok uX _ _ _ uX uX uX uX ((rowsOf hv).take d) uX uX (rows_in hv _ uX _), htl]
        simp only [Option.bind_some]
        obtain ⟨y, hy⟩ := code_picked h1 uX (show d + p ≤ 12 by omega) ((rowsOf hv).take d) htl (rows_in hv _ uX _) (rows_nd hv d)
        rw [inv_ok h1 uX hy]
        simp only [Option.bind_some]
        have h0 := rdec_out d p h1 h2 y (ownOf shards hv) uS (alike_take ha d h1 uS).1 d k 0 uX uX
        rw [List.take_zero] at h0
        refine ⟨y, ?_, h0⟩
        refine (mm_eq (eqM.refl d y) (fun i j hi hj => ?_)).trans hy
        rw [getD_get _ _ _ (show i < (had hv 0).length by omega), getD_get _ _ _ (show i < ((rowsOf hv).take d).length by omega)]
        show code d (had hv 0)[i] j = code d (((rowsOf hv).take d)[i]'uX).toNat j
        rw [List.getElem_take]
        simp [rowsOf]
    · rw [if_neg ha, if_neg ha]
  | succ e ih =>
    intro k i hi hk
    obtain ⟨k, rfl⟩ : ∃ m, k = m + 1 := ⟨k - 1, uX⟩
    simp only [GRenc.ossuaryref1_Decode.l0]
    have hih := ih k (i + 1) uX uX
    have hl1 := had_len (hv.take i) 0
    have hl2 : (hv.take i).length ≤ i := List.length_take_le _ _
    rw [if_pos uX, if_pos uX, rd_bool hv i uX]
    unfold rowsOf ownOf at hih ⊢
    rw [had_step hv i uX, List.map_append, List.map_append] at hih
    by_cases hb : hv[i] = true
    · rw [if_pos hb] at hih
      rw [if_pos hb, if_pos uU, if_pos uX, if_pos uU, succ_wrap i uX, rd_txt]
      exact hih
    · rw [if_neg hb] at hih
      rw [if_neg hb, succ_wrap i uX]
      simp only [List.map_nil, List.append_nil] at hih
      exact hih
theorem wsum (d p : Nat) (h2 : d ≤ 4) (h3 : p ≤ 2) : wrap64 ((d : Int) + (p : Int)) = ((d + p : Nat) : Int) := by
  rw [wrap64_in uX uX]; rfl
theorem rdec_0 {k : Nat} (hk : 60500 < k) (d p : Nat) (h1 : 1 ≤ d) (h2 : d ≤ 4) (h3 : p ≤ 2) (shards : List ByteArray) (hv : List Bool) (hs : shards.length = d + p) (hh : hv.length = d + p) :
    decEnd d shards hv (GRenc.ossuaryref1_Decode.l0 k shards hv ([] : List Int) ([] : List ByteArray) 0 (d : Int) (p : Int)) := by
  have h := rdec_in d p h1 h2 h3 shards hv hs hh (d + p) k 0 uX uX
  rw [List.take_zero, show rowsOf [] = ([] : List Int) from rfl, show ownOf shards [] = ([] : List ByteArray) from rfl, show ((0 : Nat) : Int) = 0 from rfl] at h
  exact h
theorem rdec_j {k : Nat} (hk : 0 < k) (shards : List ByteArray) (hv : List Bool) (a b : Int) : GRenc.ossuaryref1_Decode.j0 k shards hv false a b = GRenc.ossuaryref1_Decode.l0 (k - 1) shards hv ([] : List Int) ([] : List ByteArray) 0 a b := by
  obtain ⟨k, rfl⟩ : ∃ m, k = m + 1 := ⟨k - 1, uX⟩
  simp only [GRenc.ossuaryref1_Decode.j0, Bool.false_eq_true, if_false, Nat.add_sub_cancel]
theorem rdec_t (k : Nat) (a b : Int) (shards : List ByteArray) (hv : List Bool) (hm : GRef.ossuaryref1_ShapeMay.f a b = some true) (hl : (shards.length : Int) = wrap64 (a + b)) (hh : hv.length = shards.length) :
    GRenc.ossuaryref1_Decode.f k a b shards hv = GRenc.ossuaryref1_Decode.j0 k shards hv false a b := by
  unfold GRenc.ossuaryref1_Decode.f
  rw [hm, Option.bind_some, if_pos rfl, if_pos hl, hh, bne_self_eq_false]
theorem rdec_f {k : Nat} (hk : 61000 < k) (d p : Nat) (h1 : 1 ≤ d) (h2 : d ≤ 4) (h3 : p ≤ 2) (shards : List ByteArray) (hv : List Bool) (hs : shards.length = d + p) (hh : hv.length = d + p) :
    decEnd d shards hv (GRenc.ossuaryref1_Decode.f k (d : Int) (p : Int) shards hv) := by
  have hm : GRef.ossuaryref1_ShapeMay.f (d : Int) (p : Int) = some true := by rw [rshape_f, decide_eq_true ⟨uX, uX, uX, uX⟩]
  rw [rdec_t k _ _ shards hv hm (by rw [wsum d p h2 h3, hs]) (by rw [hs, hh]), rdec_j uX]
  exact rdec_0 uX d p h1 h2 h3 shards hv hs hh
theorem rdec_no {k : Nat} (hk : 61000 < k) (a b : Int) (shards : List ByteArray) (hv : List Bool) (h : ¬ ((1 ≤ a ∧ a ≤ 4 ∧ 0 ≤ b ∧ b ≤ 2) ∧ (shards.length : Int) = a + b ∧ hv.length = shards.length)) : GRenc.ossuaryref1_Decode.f k a b shards hv = some ([], 700) := by
  unfold GRenc.ossuaryref1_Decode.f
  have j : ∀ a b, GRenc.ossuaryref1_Decode.j0 k shards hv true a b = some ([], 700) := fun a b => by
    obtain ⟨k, rfl⟩ : ∃ m, k = m + 1 := ⟨k - 1, uX⟩
    simp only [GRenc.ossuaryref1_Decode.j0, if_true]
  rw [rshape_f]
  by_cases hs : 1 ≤ a ∧ a ≤ 4 ∧ 0 ≤ b ∧ b ≤ 2
  · rw [decide_eq_true hs, wrap64_in (n := a + b) uX uX]
    simp only [Option.bind_some, if_true]
    by_cases hl : (shards.length : Int) = a + b
    · rw [if_pos hl, show ((hv.length : Int) != (shards.length : Int)) = true from bne_iff_ne.2 (fun e => h ⟨hs, hl, uX⟩), j]
    · rw [if_neg hl, j]
  · rw [decide_eq_false hs]
    simp only [Option.bind_some, Bool.false_eq_true, if_false, j]
/-- what decoding may come to. -/
def DecR (r : List ByteArray × Int) : Prop := r = ([], 700) ∨ r = ([], 701) ∨ (r.1.length ≤ 4 ∧ r.2 = 0 ∧ ∀ x ∈ r.1, x.size ≤ 5000)
theorem dec_same {k : Nat} (hk : 61000 < k) (a b : Int) (shards : List ByteArray) (hv : List Bool) : ∃ r, GEnc.decode_Decode.f k a b shards hv = some r ∧ GRenc.ossuaryref1_Decode.f k a b shards hv = some r ∧ DecR r := by
  by_cases h : (1 ≤ a ∧ a ≤ 4 ∧ 0 ≤ b ∧ b ≤ 2) ∧ (shards.length : Int) = a + b ∧ hv.length = shards.length
  · obtain ⟨hs, hl, hh⟩ := h
    obtain ⟨d, rfl⟩ : ∃ d : Nat, a = (d : Int) := ⟨a.toNat, uX⟩
    obtain ⟨p, rfl⟩ : ∃ p : Nat, b = (p : Int) := ⟨b.toNat, uX⟩
    have e1 := dec_f hk d p uX uX uX shards hv uX uX
    have e2 := rdec_f hk d p uX uX uX shards hv uX uX
    rw [← decEnd_one e1 e2]
    have hx : ∃ r, GEnc.decode_Decode.f k (d : Int) (p : Int) shards hv = some r ∧ DecR r := by
      unfold decEnd at e1
      split at e1
      · split at e1
        · exact ⟨_, e1, .inr (.inl rfl)⟩
        · obtain ⟨y, _, e1⟩ := e1
          refine ⟨_, e1, .inr (.inr ⟨by rw [decd_length]; omega, rfl, fun x hx => ?_⟩)⟩
          simp only at hx
          unfold decd at hx
          obtain ⟨i, _, rfl⟩ := List.mem_map.1 hx
          exact cmb_small _ uX uX (by rw [List.length_take, own_length]; omega) (alike_take ‹_› d uX uS).1
      · exact ⟨_, e1, .inl rfl⟩
    obtain ⟨r, h1, h2⟩ := hx
    exact ⟨r, h1, h1, h2⟩
  · exact ⟨([], 700), dec_no hk a b shards hv h, rdec_no hk a b shards hv h, .inl rfl⟩
theorem reb_same {k : Nat} (hk : 61000 < k) (a b : Int) (shards : List ByteArray) (hv : List Bool) : ∃ r, GEnc.rebuild_Rebuild.f k a b shards hv = some r ∧ GRenc.ossuaryref1_Rebuild.f k a b shards hv = some r ∧ r.1.length ≤ 6 ∧ ∀ x ∈ r.1, x.size ≤ 5000 := by
  obtain ⟨⟨r1, r2⟩, h1, h2, h3⟩ := dec_same hk a b shards hv
  unfold GEnc.rebuild_Rebuild.f GRenc.ossuaryref1_Rebuild.f
  rw [h1, h2]
  simp only [Option.bind_some]
  rcases h3 with h3 | h3 | ⟨h3, h4, h8⟩
  · obtain ⟨rfl, rfl⟩ := Prod.mk.inj h3
    exact ⟨([], 800), rfl, rfl, qa, qa⟩
  · obtain ⟨rfl, rfl⟩ := Prod.mk.inj h3
    exact ⟨([], 801), rfl, rfl, qa, qa⟩
  · simp only at h3 h4 h8
    subst h4
    obtain ⟨⟨s1, s2⟩, ⟨h5, h6⟩, hs, h9⟩ := enc_same hk a b r1 uX
    simp only at hs h9
    rw [h5, h6]
    simp only [Option.bind_some, if_true]
    rw [if_pos uX, if_neg q9]
    refine ⟨_, rfl, rfl, by rw [List.length_append]; omega, fun x hx => ?_⟩
    rcases List.mem_append.1 hx with h | h
    · exact h8 x h
    · exact h9 x h
end Go.Proofs.Ytaahnicjjpddjaa.Enc
end
section
namespace Go.Proofs.Ytaahnicjjpddjaa.Pr
open Go.RowKit Go.Proofs.YtaahnicjjpddjaaW.PrintWords Go.Proofs.YtaahnicjjpddjaaW.PrintLast Go.Proofs.YtaahnicjjpddjaaW.PrintMore Go.Proofs.Ytaahnicjjpddjaa.Fld Go.Proofs.Ytaahnicjjpddjaa.Mat
set_option linter.unusedVariables false
/-- the texts from i on as they were. -/
def StrAt (w : World) (g n i : Nat) (xs : List ByteArray) : Prop := ∃ cur, w.heap[g]? = some (.cells cur 9 (0, 0)) ∧ ∀ j, i ≤ j → j < n → cur[j]? = some (.string (xs.getD j ByteArray.empty))
theorem StrAt.cell {w : World} {g n i : Nat} {xs : List ByteArray} (H : StrAt w g n i xs) (hi : i < n) : w.cell? ⟨g, i, none⟩ = some (.string (xs.getD i ByteArray.empty)) := by
  obtain ⟨cur, h1, h2⟩ := H
  exact (blk_cell h1 i).trans (h2 i (Nat.le_refl _) hi)
theorem StrAt.frozen {w : World} {g n i : Nat} {xs : List ByteArray} (H : StrAt w g n i xs) (j : Nat) : w.frozen? ⟨g, j, none⟩ = false := by
  obtain ⟨cur, h1, _⟩ := H
  exact blk_frozen h1 j
theorem StrAt.put {w : World} {g n i : Nat} {xs : List ByteArray} (H : StrAt w g n i xs) (u : Value) : StrAt (w.setCell ⟨g, i, none⟩ u) g n (i + 1) xs := by
  obtain ⟨cur, h1, h2⟩ := H
  refine ⟨cur.setIfInBounds i u, blk_put h1 i _ rfl, fun j h3 h4 => ?_⟩
  rw [Array.getElem?_setIfInBounds, if_neg uX]
  exact h2 j uX h4
def SpoilEnd (W0 : World) (e : Ending) (w' : World) : Prop := e = .returned (.tuple #[]) ∧ Below W0.heap.size W0 w'
set_option maxHeartbeats 2000000 in
set_option maxRecDepth 100000 in
theorem spoilT_calls (W0 w : World) (n g c : Nat) (xs : List ByteArray) (hn : n ≤ 9223372036854775807) (hg : W0.heap.size ≤ g) (hB : Below W0.heap.size W0 w) (hS : StrAt w g n 0 xs) (hx : n ≤ xs.length) (hz : ∀ x ∈ xs, x.size ≤ 5000) :
    Calls Try.prog 51 #[.slice (some ⟨g, 0, none⟩) n c] w (SpoilEnd W0) := by
  have HB := Aside0.mk hB
  have HS := Aside0.mk hS
  have HG := Aside0.mk hg
  have HZ := Aside0.mk hz
  clear hB hS hg hz
  go_enter Try.func51, Try.ntmps51
  go_wp2
  go_loopw [2] (fun v2 wr => ∃ i : Nat, v2 = .int .i64 i ∧ i ≤ n ∧ Aside0 (Below W0.heap.size W0 wr) ∧ Aside0 (StrAt wr g n i xs)) (fun v _ => n - (intOf v).toNat)
  case atStart => exact ⟨0, rfl, uX, HB, HS⟩
  case round =>
    clear HS HB
    obtain ⟨i, rfl, hin, HB, HS⟩ := hrel
    by_cases hlt : i < n
    · have q1 : decide ((i : Int) < (n : Int)) = true := decide_eq_true uX
      have x1 := HS.out.cell hlt
      have x2 := HS.out.frozen i
      have x3 : (xs[i]?.getD ByteArray.empty).size ≤ 5000 := by
        rw [List.getElem?_eq_getElem uX]
        exact HZ.out _ (List.getElem_mem _)
      go_wp2
      all_goals first
        | exact ⟨⟨i + 1, uW, uX, ⟨below_set HB.out HG.out⟩, ⟨HS.out.put _⟩⟩, by simp only [intOf]; omega⟩
        | omega
    · obtain rfl : n = i := by omega
      have q1 : decide ((n : Int) < (n : Int)) = false := decide_eq_false uX
      go_wp2
      go_end0
      exact ⟨rfl, HB.out⟩
set_option maxHeartbeats 2000000 in
theorem spoilT_nil (W0 w : World) (A : Option Addr) (c : Nat) (hB : Below W0.heap.size W0 w) : Calls Try.prog 51 #[.slice A 0 c] w (SpoilEnd W0) := by
  have HB := Aside0.mk hB
  clear hB
  go_enter Try.func51, Try.ntmps51
  go_wp2
  go_loopw [2] (fun v2 wr => v2 = .int .i64 0 ∧ Aside0 (Below W0.heap.size W0 wr)) (fun _ _ => 0)
  case atStart => exact ⟨rfl, HB⟩
  case round =>
    obtain ⟨rfl, HB2⟩ := hrel
    go_wp2
    go_end0
    exact ⟨rfl, HB2.out⟩
theorem spoilT (W0 w : World) {xs : List ByteArray} {base : Nat} {ok : Nat → Prop} {A : Option Addr} {c : Nat} (h : Kd.R Kd.string 9 w base ok (.slice A xs.length c) xs) (hb : W0.heap.size ≤ base) (hB : Below W0.heap.size W0 w) (hz : ∀ x ∈ xs, x.size ≤ 5000) :
    Calls Try.prog 51 #[.slice A xs.length c] w (SpoilEnd W0) := by
  have hm := (Kd.R_reads' h).2.2.2.1
  by_cases hn : 1 ≤ xs.length
  · obtain ⟨h0, inner, ho, hr⟩ := h
    obtain ⟨g, C, cur, h1, h2, h3, h4, h5, h6, h7⟩ := own_slice ho hn
    injection h1 with e1 e2 e3
    subst e1
    refine spoilT_calls W0 w xs.length g c xs hm (Nat.le_trans hb h2) hB ⟨cur, h3, fun j _ hj => ?_⟩ (Nat.le_refl _) hz
    rw [take_get h7 hj]
    obtain ⟨hl, hr⟩ := hr
    have h8 := hr j _ (List.getElem?_eq_getElem hj)
    have h9 : (inner.drop (j * 1)).take 1 = [Value.string xs[j]] := h8
    rw [Nat.mul_one] at h9
    have h11 : ((inner.drop j).take 1)[0]? = some (Value.string xs[j]) := by rw [h9]; rfl
    rw [List.getElem?_take_of_lt uX, List.getElem?_drop, Nat.add_zero] at h11
    rw [h11, getD_get _ _ _ hj]
  · have e : xs.length = 0 := by omega
    rw [e]
    exact spoilT_nil W0 w A c hB
end Go.Proofs.Ytaahnicjjpddjaa.Pr
end
section
namespace Go.Proofs.Ytaahnicjjpddjaa.GAwr
open Go.Proofs.Ytaahnicjjpddjaa.Fn
open Go.Proofs.Ytaahnicjjpddjaa
open Go.RowKit Go.Proofs.YtaahnicjjpddjaaW.PrintWords Go.Proofs.YtaahnicjjpddjaaW.PrintLast
set_option linter.unusedVariables false
set_option linter.unusedSimpArgs false
noncomputable def errW : Option Int → Value
 | none => .nilIface
 | some c => .iface 0 (.int .i64 c)
theorem errW_none : errW none = .nilIface := rfl
theorem errW_some (c : Int) : errW (some c) = .iface 0 (.int .i64 c) := rfl
theorem info9 : (Try.prog.info? 9).map (fun i => (i.zero, i.size, i.bytes)) = some (some (.string ⟨#[]⟩), 1, 16) := by kernel_rfl
noncomputable def rd_L2 (xs : List (List ByteArray)) (i : Int) : (List ByteArray) := xs.getD i.toNat ([] : List ByteArray)
theorem at_L2 {w : World} {A : Option Addr} {n : Nat} {xs : List (List ByteArray)} (h : Kd.C (Kd.slice 9 Kd.string) w A n xs) (i : Int) (h0 : 0 ≤ i) (h1 : i < n) : ∃ ad A0 c0, A = some ad ∧ w.cell? (ad.add i.toNat) = some (.slice A0 (rd_L2 xs i).length c0) ∧ (rd_L2 xs i).length ≤ c0 ∧ Kd.string.C w A0 (rd_L2 xs i).length (rd_L2 xs i) := by
 obtain ⟨ad, c, e, _, hK, hc0⟩ := Kd.C_get h ([] : List ByteArray) i h0 h1
 have hc : ∀ j u, c[j]? = some u → w.cell? (ad.add (i.toNat * 1 + j)) = some u := hc0
 obtain ⟨A0, c0, rfl, l0, g0⟩ := hK
 exact ⟨ad, A0, c0, e, uG, l0, g0⟩
end Go.Proofs.Ytaahnicjjpddjaa.GAwr
end
