/- What the reference's sum of rows comes to: with enough rounds, for all numbers and rows. No condition. The reference's encoding: what it comes to, and that it is the program's at every input. Plain; no condition. The first shards that are there decide, whatever the others say: at every input. -/
import Derived.Test.YtaahnicjjpddjaaKDecodeFirstRefGen
import Derived.Test.YtaahnicjjpddjaaKDecodeFirstGDecodeFirst2
section
namespace Go.Proofs.Ytaahnicjjpddjaa.Rvc
open Go.RowKit Go.Proofs.Ytaahnicjjpddjaa.GRef Go.Proofs.Ytaahnicjjpddjaa.Fld Go.Proofs.Ytaahnicjjpddjaa.RefGf Go.Proofs.YtaahnicjjpddjaaW.PrintWords Go.Proofs.YtaahnicjjpddjaaW.PrintLast Go.Proofs.YtaahnicjjpddjaaW.PrintMore
open Go.Proofs.Ytaahnicjjpddjaa.GvcVec
theorem ralike_l (rows : List ByteArray) (hl : rows.length < 9223372036854775807) (d : Nat) : ∀ (k i : Nat), i + d = rows.length → d < k → ossuaryref1_alike.l0 k rows (i : Int) = some ((rows.drop i).all (sameB (row0 rows).size)) := by
  induction d with
  | zero =>
    intro k i hi hk
    obtain ⟨k, rfl⟩ := succ_of hk
    simp only [ossuaryref1_alike.l0]
    rw [if_neg uW, List.drop_of_length_le uW]; rfl
  | succ d ih =>
    intro k i hi hk
    obtain ⟨k, rfl⟩ := succ_of hk
    have hi2 : i < rows.length := by omega
    simp only [ossuaryref1_alike.l0]
    rw [if_pos uW, if_pos uW, if_pos uW, rdOf_nat rows i hi2, List.drop_eq_getElem_cons hi2, List.all_cons]
    show (if ((rows[i].size : Nat) : Int) = ((row0 rows).size : Int) then _ else _) = _
    by_cases h1 : rows[i].size = (row0 rows).size
    · rw [if_pos uW]
      by_cases h2 : rows[i].size ≤ 4096
      · rw [if_neg uW, succ_wrap' i uW, ih k (i + 1) uW uW]
        have e : sameB (row0 rows).size rows[i] = true := by unfold sameB; rw [decide_eq_true h1, decide_eq_true h2]; rfl
        rw [e, Bool.true_and]
      · rw [if_pos uW]
        have e : sameB (row0 rows).size rows[i] = false := by unfold sameB; rw [decide_eq_false h2, Bool.and_false]
        rw [e, Bool.false_and]
    · rw [if_neg uW]
      have e : sameB (row0 rows).size rows[i] = false := by unfold sameB; rw [decide_eq_false h1, Bool.false_and]
      rw [e, Bool.false_and]
theorem ralike_f {k : Nat} (rows : List ByteArray) (hl : rows.length < 9223372036854775807) (hk : rows.length < k) : ossuaryref1_alike.f k rows = some (alikeB rows) := by
  have h := ralike_l rows hl rows.length k 0 uW hk
  rw [List.drop_zero] at h
  exact h
theorem rin_l (rows : List ByteArray) (cs : List Int) (i : Nat) (hi : i < rows.length) (hc : i < cs.length) (c : F) (hcc : cs[i] = toI c) (xs : List F) (hx : xs.length < 5000) (hs : rows[i].size = xs.length) (e : Nat) :
    ∀ (k j : Nat), j + e = xs.length → e + 9 < k →
      ossuaryref1_Combine.l2 k cs rows ((updF c rows[i] j xs).map toI) (i : Int) (j : Int) =
        ossuaryref1_Combine.l1 (k - (e + 1)) cs rows ((addF c rows[i] xs).map toI) (wrap64 ((i : Int) + 1)) := by
  induction e with
  | zero =>
    intro k j hj hk
    obtain ⟨k, rfl⟩ := succ_of hk
    have hj2 : j = xs.length := by omega
    subst hj2
    have hl : (((updF c rows[i] xs.length xs).map toI).length : Int) = (xs.length : Int) := by rw [List.length_map, updF_length]
    simp only [ossuaryref1_Combine.l2]
    rw [hl, if_neg uW, updF_all]
    rfl
  | succ e ih =>
    intro k j hj hk
    obtain ⟨k, rfl⟩ := succ_of hk
    have hj2 : j < xs.length := by omega
    simp only [ossuaryref1_Combine.l2]
    have hl : (((updF c rows[i] j xs).map toI).length : Int) = (xs.length : Int) := by rw [List.length_map, updF_length]
    rw [hl, if_pos uW, if_pos uW, if_pos uW, if_pos uW, if_pos uW, rdOf_nat rows i hi, if_pos uW, bt_wrap, rd_nat cs i hc, hcc, rmul_f uW]
    simp only [Option.bind_some]
    rw [rd_map _ j (by rw [updF_length]; exact hj2), updF_get _ _ _ _ hj2, xor_mod, Int.toNat_natCast, set_map, updF_step _ _ _ _ hj2, succ_wrap j uW, ih k (j + 1) uW uW]
    rw [show k + 1 - (e + 1 + 1) = k - (e + 1) from by omega]
theorem rout_l (rows : List ByteArray) (cs : List Int) (hr : rows.length = cs.length) (hc : cs.length ≤ 12) (hok : okV cs = true) (m : Nat) (hm : m ≤ 4096) (hs : ∀ r ∈ rows, r.size = m) (d : Nat) :
    ∀ (k i : Nat) (xs : List F), i + d = cs.length → xs.length = m → d * (m + 2) + 20 < k →
      ossuaryref1_Combine.l1 k cs rows (xs.map toI) (i : Int) = some (strF (combL ((cs.drop i).map ofI) (rows.drop i) xs), 0) := by
  induction d with
  | zero =>
    intro k i xs hi hx hk
    obtain ⟨k, rfl⟩ := succ_of hk
    simp only [ossuaryref1_Combine.l1]
    rw [if_neg uW, List.drop_of_length_le uW]
    rfl
  | succ d ih =>
    intro k i xs hi hx hk
    obtain ⟨k, rfl⟩ := succ_of hk
    have hi2 : i < cs.length := by omega
    have hi3 : i < rows.length := by omega
    have hmul : (d + 1) * (m + 2) = d * (m + 2) + (m + 2) := Nat.succ_mul _ _
    have hv := List.all_eq_true.1 hok cs[i] (List.getElem_mem hi2)
    rw [Bool.and_eq_true] at hv
    obtain ⟨c, hcc⟩ := ex_toI (of_decide_eq_true hv.1) (of_decide_eq_true hv.2)
    simp only [ossuaryref1_Combine.l1]
    rw [if_pos uW, List.drop_eq_getElem_cons hi2, List.drop_eq_getElem_cons hi3, List.map_cons, combL]
    have e1 : ofI cs[i] = c := by rw [hcc, ofI_toI]
    rw [e1]
    have h := rin_l rows cs i hi3 hi2 c hcc xs uW (by rw [hs _ (List.getElem_mem hi3), hx]) xs.length k 0 uW uW
    rw [updF_zero] at h
    refine h.trans ?_
    rw [succ_wrap i uW]
    exact ih _ (i + 1) _ uW (by rw [addF_length]; exact hx) uW
theorem rchk_l (rows : List ByteArray) (cs : List Int) (hc : cs.length ≤ 12) (d : Nat) :
    ∀ (k i : Nat), i + d = cs.length → d < k →
      ossuaryref1_Combine.l0 k cs rows (i : Int) = if okV (cs.drop i) = true then ossuaryref1_Combine.l0 (k - d) cs rows (cs.length : Int) else some (noStr, 200) := by
  induction d with
  | zero =>
    intro k i hi hk
    rw [List.drop_of_length_le uW, show i = cs.length from by omega]
    rfl
  | succ d ih =>
    intro k i hi hk
    obtain ⟨k, rfl⟩ := succ_of hk
    have hi2 : i < cs.length := by omega
    conv => lhs; unfold ossuaryref1_Combine.l0
    rw [if_pos uW, if_pos uW, rd_nat cs i hi2, List.drop_eq_getElem_cons hi2]
    by_cases hv : 0 ≤ cs[i] ∧ cs[i] < 256
    · rw [bn_yes hv.1 hv.2, okV_cons_yes hv.1 hv.2]
      simp only [Option.bind_some, if_true]
      rw [succ_wrap i uW, ih k (i + 1) uW uW, show k + 1 - (d + 1) = k - d from by omega]
    · rw [bn_no uW, okV_cons_no uW]
      rfl
theorem rcomb {k : Nat} (hk : 60000 < k) (cs : List Int) (rows : List ByteArray) (hl : rows.length < 9223372036854775807) : ossuaryref1_Combine.f k cs rows = some (combine cs rows) := by
  unfold ossuaryref1_Combine.f combine
  have j0 : ∀ b, ossuaryref1_Combine.j0 k cs rows b = if b = true then some (noStr, 200) else ossuaryref1_Combine.l0 (k - 1) cs rows 0 := by
    intro b
    obtain ⟨k, rfl⟩ := succ_of hk
    simp only [ossuaryref1_Combine.j0]
    rfl
  simp only [j0]
  by_cases h1 : cs.length < 1
  · rw [if_pos uW, if_pos trivial, if_neg uW]
  · rw [if_neg uW]
    by_cases h2 : cs.length > 12
    · rw [if_pos uW, if_pos trivial, if_neg uW]
    · rw [if_neg uW]
      by_cases h3 : rows.length = cs.length
      · rw [if_pos uW, ralike_f rows hl uW]
        simp only [Option.bind_some]
        cases h4 : alikeB rows with
        | false =>
          have hne : ¬ (1 ≤ cs.length ∧ cs.length ≤ 12 ∧ rows.length = cs.length ∧ false = true ∧ okV cs = true) := fun h => by have := h.2.2.2.1; contradiction
          rw [if_neg hne]; rfl
        | true =>
          have hs := alikeB_size h4
          have h0 := hs _ (row0_mem uW)
          have hmul : cs.length * ((row0 rows).size + 2) ≤ 12 * 4098 := Nat.mul_le_mul uW uW
          simp only [Bool.not_true, Bool.false_eq_true, if_false]
          have hq := rchk_l rows cs uW cs.length (k - 1) 0 uW uW
          rw [List.drop_zero] at hq
          refine hq.trans ?_
          by_cases h5 : okV cs = true
          · rw [if_pos h5, if_pos ⟨uW, uW, h3, by trivial, h5⟩]
            obtain ⟨k', hk'⟩ : ∃ k', k - 1 - cs.length = k' + 1 := ⟨k - 1 - cs.length - 1, uW⟩
            rw [hk']
            simp only [ossuaryref1_Combine.l0]
            rw [if_neg uW, if_pos uW, if_pos uW]
            show (if ((row0 rows).size : Int).toNat ≤ 281474976710656 then ossuaryref1_Combine.l1 k' cs rows (List.replicate ((row0 rows).size : Int).toNat 0) 0 else none) = _
            rw [if_pos uW, Int.toNat_natCast, zeros_map]
            have h := rout_l rows cs h3 uW h5 (row0 rows).size h0.2 (fun r hr => (hs r hr).1) cs.length k' 0 (zerosF (row0 rows).size) uW (by unfold zerosF; simp) uW
            rw [List.drop_zero, List.drop_zero] at h
            exact h
          · rw [if_neg h5, if_neg (fun hh => h5 hh.2.2.2.2)]
      · rw [if_neg uW, if_pos trivial, if_neg (fun hh => h3 hh.2.2.1)]
end Go.Proofs.Ytaahnicjjpddjaa.Rvc
end
section
namespace Go.Proofs.Ytaahnicjjpddjaa.Enc
open Go.RowKit Go.Proofs.YtaahnicjjpddjaaW.PrintWords Go.Proofs.YtaahnicjjpddjaaW.PrintLast Go.Proofs.YtaahnicjjpddjaaW.PrintMore Go.Proofs.Ytaahnicjjpddjaa.Fld Go.Proofs.Ytaahnicjjpddjaa.Mat Go.Proofs.Ytaahnicjjpddjaa.Fn Go.Proofs.Ytaahnicjjpddjaa.Pr
open Go.Proofs.Ytaahnicjjpddjaa.GvcVec (combine alikeB alikeB_size row0 row0_mem)
open Go.Proofs.Ytaahnicjjpddjaa.Rvc (rcomb ralike_f)
theorem rdE (m : List (List Int)) (i : Nat) (h : i < m.length) : GRenc.rd_L1 m (i : Int) = m[i] := by
  show m.getD (i : Int).toNat [] = m[i]
  rw [Int.toNat_natCast, getD_get _ _ _ h]
theorem renc_l (d p : Nat) (h1 : 1 ≤ d) (h2 : d ≤ 4) (h3 : p ≤ 2) (data : List ByteArray) (hl : data.length = d) (ha : alikeB data = true) (e : Nat) : ∀ (k i : Nat), i + e = p → 60000 + e < k →
    GRenc.ossuaryref1_Encode.l0 k data (par d i data) ((d + i : Nat) : Int) (d : Int) (p : Int) (fmat (code d) (d + p) d) = some (par d p data, 0) := by
  have ew : wrap64 ((d : Int) + (p : Int)) = ((d + p : Nat) : Int) := by rw [wrap64_in uW uW]; omega
  induction e with
  | zero =>
    intro k i hi hk
    obtain ⟨k, rfl⟩ : ∃ m, k = m + 1 := ⟨k - 1, uW⟩
    obtain rfl : p = i := by omega
    simp only [GRenc.ossuaryref1_Encode.l0]
    rw [ew, if_neg (Int.lt_irrefl _)]
  | succ e ih =>
    intro k i hi hk
    obtain ⟨k, rfl⟩ : ∃ m, k = m + 1 := ⟨k - 1, uW⟩
    have ih' := ih k (i + 1) uW uW
    simp only [GRenc.ossuaryref1_Encode.l0]
    rw [ew]
    clear ew
    rw [if_pos (Int.ofNat_lt.2 uW), if_pos (Int.natCast_nonneg _), fmat_length, if_pos (Int.ofNat_lt.2 uW), rdE _ (d + i) uQ, fmat_get, rcomb uW _ _ uW, cmb_eq _ h1 uW hl ha]
    simp only [Option.bind_some]
    rw [par_length, if_pos uW, succ_wrap (d + i) uW, ← par_succ]
    exact ih'
theorem renc_f {k : Nat} (hk : 61000 < k) (d p : Nat) (h1 : 1 ≤ d) (h2 : d ≤ 4) (h3 : p ≤ 2) (data : List ByteArray) (hl : data.length = d) (ha : alikeB data = true) : GRenc.ossuaryref1_Encode.f k (d : Int) (p : Int) data = some (par d p data, 0) := by
  unfold GRenc.ossuaryref1_Encode.f
  rw [rshape_f, decide_eq_true ⟨uW, uW, uW, uW⟩]
  simp only [Option.bind_some, if_true]
  obtain ⟨k, rfl⟩ : ∃ m, k = m + 1 := ⟨k - 1, uW⟩
  rw [if_pos uW, ralike_f _ uW uW, ha]
  simp only [Option.bind_some, GRenc.ossuaryref1_Encode.j0, Bool.not_true, Bool.false_eq_true, if_false]
  rw [rgen_f uW d p h1 h2 h3]
  simp only [Option.bind_some]
  exact renc_l d p h1 h2 h3 data hl ha p k 0 uW uW
end Go.Proofs.Ytaahnicjjpddjaa.Enc
end
section
namespace Go.Proofs.Ytaahnicjjpddjaa.Pure
open Go.RowKit Go.Proofs.Ytaahnicjjpddjaa.GDecodeFirst Go.Proofs.YtaahnicjjpddjaaW.PrintWords Go.Proofs.YtaahnicjjpddjaaW.PrintLast Go.Proofs.YtaahnicjjpddjaaW.PrintMore Go.Proofs.Ytaahnicjjpddjaa.Fld Go.Proofs.Ytaahnicjjpddjaa.Mat Go.Proofs.Ytaahnicjjpddjaa.Fn Go.Proofs.Ytaahnicjjpddjaa.Pr Go.Proofs.Ytaahnicjjpddjaa.Enc
open Go.Proofs.Ytaahnicjjpddjaa.GvcVec (alikeB row0)
theorem awake7_f {k : Nat} (hk : 61000 < k) : ossuarylaw7_awake.f k = some true := by
  unfold ossuarylaw7_awake.f
  have e1 : GEnc.decode_Decode.f k 2 1 [⟨#[]⟩, ⟨#[98]⟩, ⟨#[103]⟩] [false, true, true] = some ([⟨#[97]⟩, ⟨#[98]⟩], 0) :=
    dec_word hk (d := 2) (p := 1) uW uW uW (data := [⟨#[97]⟩, ⟨#[98]⟩]) rfl uS rfl rfl qa uS (fun t ht => by
      unfold word
      rw [par21]
      rcases (show t = 0 ∨ t = 1 by omega) with rfl | rfl <;> rfl)
  have e2 : GEnc.decode_Decode.f k 2 1 [⟨#[]⟩, ⟨#[98]⟩, ⟨#[]⟩] [false, true, false] = some ([], 701) :=
    dec_few hk (d := 2) (p := 1) uW uW uW rfl rfl qa uS
  have e3 : GEnc.decode_Decode.f k 2 1 [⟨#[]⟩, ⟨#[98]⟩] [false, true] = some ([], 700) := dec_no hk 2 1 _ _ qb
  rw [e1, e2, e3]
  simp only [Option.bind_some, num_f]
  rw [same_self _ qa uT]
  rfl
theorem pieces_l (d m : Nat) (hm : m ≤ 60) (hd : d ≤ 4) (t : ByteArray) (ht : m * d ≤ t.size) (e : Nat) : ∀ (k i : Nat), i + e = d → e < k →
    ossuarylaw7_pieces.l0 k t (d : Int) (m : Int) (pieces t m i) (i : Int) = some (pieces t m d) := by
  induction e with
  | zero =>
    intro k i hi hk
    obtain ⟨k, rfl⟩ : ∃ m, k = m + 1 := ⟨k - 1, uW⟩
    obtain rfl : i = d := by omega
    simp only [ossuarylaw7_pieces.l0]
    rw [if_neg (Int.lt_irrefl _)]
  | succ e ih =>
    intro k i hi hk
    obtain ⟨k, rfl⟩ : ∃ m, k = m + 1 := ⟨k - 1, uW⟩
    have hmi : m * i ≤ 60 * 4 := Nat.mul_le_mul hm uW
    have hmi2 : m * i + m ≤ t.size := by
      refine Nat.le_trans ?_ ht
      rw [← Nat.mul_succ]
      exact Nat.mul_le_mul_left m uW
    have ih' := ih k (i + 1) uW uW
    rw [pieces_succ] at ih'
    unfold piece at ih'
    have e1 : wrap64 ((m : Int) * (i : Int)) = ((m * i : Nat) : Int) := by
      rw [show (m : Int) * (i : Int) = ((m * i : Nat) : Int) from (Int.natCast_mul m i).symm]
      exact wrap64_in uW uW
    have e2 : wrap64 (((m * i : Nat) : Int) + (m : Int)) = ((m * i + m : Nat) : Int) := by rw [wrap64_in uW uW]; omega
    have e3 : (pieces t m i).length < 8796093022208 := by rw [pieces_length]; omega
    simp only [ossuarylaw7_pieces.l0]
    rw [e1, e2, succ_wrap i uW]
    generalize m * i = q at *
    clear e1 e2
    have c1 : (i : Int) < (d : Int) := Int.ofNat_lt.2 uW
    have c2 : (q : Int) ≤ ((q + m : Nat) : Int) := Int.ofNat_le.2 (Nat.le_add_right q m)
    have c3 : ((q + m : Nat) : Int) ≤ (t.size : Int) := Int.ofNat_le.2 hmi2
    rw [if_pos c1, if_pos (Int.natCast_nonneg _), if_pos c2, if_pos c3, if_pos e3, Int.toNat_natCast, Int.toNat_natCast]
    exact ih'
theorem pieces_f {k : Nat} (hk : 100 < k) (d : Nat) (h1 : 1 ≤ d) (h2 : d ≤ 4) (t : ByteArray) (ht : t.size ≤ 140737488351232) : ∃ m, m ≤ 60 ∧ m * d ≤ t.size ∧ ossuarylaw7_pieces.f k t (d : Int) = some (pieces t m d) := by
  obtain ⟨m, hm, hma, em⟩ : ∃ m : Nat, m ≤ 60 ∧ m * d ≤ t.size ∧ Go.Proofs.Ytaahnicjjpddjaa.GDecodeFirst.mn (wrap64 ((t.size : Int) / (d : Int))) 60 = (m : Int) := by
    have hq : (t.size : Int) / (d : Int) = ((t.size / d : Nat) : Int) := (Int.natCast_ediv _ _).symm
    have hle : t.size / d ≤ t.size := Nat.div_le_self _ _
    refine ⟨min (t.size / d) 60, uW, Nat.le_trans (Nat.mul_le_mul_right _ (Nat.min_le_left _ _)) (Nat.div_mul_le_self _ _), ?_⟩
    rw [hq]
    generalize t.size / d = q at hle ⊢
    rw [wrap64_in uW uW]
    unfold Go.Proofs.Ytaahnicjjpddjaa.GDecodeFirst.mn
    split <;> omega
  refine ⟨m, hm, hma, ?_⟩
  unfold ossuarylaw7_pieces.f
  rw [if_neg (show ¬ (d : Int) = 0 by omega), em]
  exact pieces_l d m hm h2 t hma d k 0 uW uW
theorem lie_some {a b : ByteArray} (ha : a.size ≤ 5000) (hb : b.size ≤ 140737488351232) : ∃ r, Pr.lie.f a b = some r ∧ r.size = a.size := by
  refine ⟨_, if_pos ⟨ha, uW⟩, ?_⟩
  rw [strOfNums_size]
  unfold lieL
  rw [List.length_append, List.length_take, List.length_drop, bytesOf_length, bytesOf_length]
  omega
def First (d : Nat) (W xs : List ByteArray) (bs : List Bool) : Prop := ∀ t, t < d → t < (had bs 0).length → txt xs ((had bs 0).getD t 0) = txt W ((had bs 0).getD t 0)
theorem txt_set {xs : List ByteArray} {i r : Nat} (v : ByteArray) (h : r ≠ i) : txt (xs.set i v) r = txt xs r := by
  unfold txt
  rw [List.getD_eq_getElem?_getD, List.getD_eq_getElem?_getD, List.getElem?_set_ne (Ne.symm h)]
theorem of_set {m : Nat} {xs : List ByteArray} (h : Of m xs) {i : Nat} {v : ByteArray} (hv : v.size = m) : Of m (xs.set i v) := fun x hx => by
  rcases List.mem_or_eq_of_mem_set hx with h1 | h1
  · exact h x h1
  · exact h1 ▸ hv
theorem had_get_lt {bs : List Bool} {t : Nat} (h : t < (had bs 0).length) : (had bs 0).getD t 0 < bs.length := by
  rw [getD_get _ _ _ h]
  have := (had_lo bs 0 _ (List.getElem_mem h)).2.1
  omega
theorem getD_app {α : Type} (l : List α) (x d : α) (t : Nat) (h : t < l.length) : (l ++ [x]).getD t d = l.getD t d := by
  rw [List.getD_eq_getElem?_getD, List.getD_eq_getElem?_getD, List.getElem?_append_left h]
theorem getD_last {α : Type} (l : List α) (x d : α) : (l ++ [x]).getD l.length d = x := by
  rw [List.getD_eq_getElem?_getD]; simp
theorem first_l (d m : Nat) (hm : m ≤ 60) (h1 : 1 ≤ d) (h2 : d ≤ 4) (other : ByteArray) (ho : other.size ≤ 140737488351232) (which : Int) {D : List ByteArray} (hD : D.length = d) (hO : Of m D) (e : Nat) :
    ∀ (k i : Nat) (bs : List Bool) (xs : List ByteArray), bs.length = i → i + e = d + 2 → d ≤ (had bs 0).length + e → xs.length = d + 2 → Of m xs → First d (word d 2 D) xs bs → (∀ r, i ≤ r → txt xs r = txt (word d 2 D) r) → 62000 + 2 * e < k →
    ossuarylaw7_DecodeFirst.l0 k other which D xs (bs ++ List.replicate e false) (((had bs 0).length : Nat) : Int) (i : Int) (d : Int) 2 = some true := by
  induction e with
  | zero =>
    intro k i bs xs hl hi hd hx hof hf hr hk
    obtain ⟨k, rfl⟩ : ∃ m, k = m + 1 := ⟨k - 1, uW⟩
    simp only [ossuarylaw7_DecodeFirst.l0]
    rw [List.replicate_zero, List.append_nil, if_neg uW]
    have hdec := dec_word (k := k) uW (p := 2) h1 h2 uW (data := D) (shards := xs) (hv := bs) hD (alike_all (show m ≤ 4096 by omega) hO) hx uW uW
      (alike_all (show m ≤ 4096 by omega) (own_of uW (fun r hr => of_txt hof uW))) (fun t ht => hf t ht uW)
    rw [show ((2 : Nat) : Int) = 2 from rfl] at hdec
    rw [hdec]
    simp only [Option.bind_some, num_f, if_true]
    rw [same_self _ uW uW]
    rfl
  | succ e ih =>
    intro k i bs xs hl hi hd hx hof hf hr hk
    obtain ⟨k, rfl⟩ : ∃ m, k = m + 1 := ⟨k - 1, uW⟩
    obtain ⟨k, rfl⟩ : ∃ m, k = m + 1 := ⟨k - 1, uW⟩
    have hle := had_len bs 0
    have had1 := had_true bs i hl
    have had0 := had_false bs
    have key : ∀ v : Bool, (v = false → d ≤ (had bs 0).length + e) →
        ossuarylaw7_DecodeFirst.j2 (k + 1) other which D xs ((bs ++ [v]) ++ List.replicate e false) (((had bs 0).length : Nat) : Int) (i : Int) (d : Int) 2 = some true := fun v hv => by
      simp only [ossuarylaw7_DecodeFirst.j2]
      rw [if_pos (Int.natCast_nonneg _), if_pos uT, rd_next bs e i hl, succ_wrap i uW, succ_wrap (had bs 0).length uW]
      cases v with
      | true =>
        rw [if_pos rfl]
        by_cases hc : (((had bs 0).length + 1 : Nat) : Int) > (d : Int)
        · rw [if_pos hc, if_pos uW, rd_txt xs i]
          obtain ⟨r, hr1, hr2⟩ := lie_some (a := txt xs i) (b := other) (by rw [of_txt hof (show i < xs.length by omega)]; omega) ho
          rw [hr1]
          simp only [Option.bind_some, Int.toNat_natCast]
          have h := ih k (i + 1) (bs ++ [true]) (xs.set i r) uT uW (by rw [had1, List.length_append, List.length_singleton]; omega) (by simp; exact hx) (of_set hof (by rw [hr2]; exact of_txt hof (show i < xs.length by omega)))
            (fun t ht htl => by
              have htb : t < (had bs 0).length := by omega
              rw [had1, getD_app _ _ _ _ htb]
              have := had_get_lt htb
              rw [txt_set _ uW]
              exact hf t ht htb)
            (fun r hr' => by rw [txt_set _ uW]; exact hr r uW) uW
          rw [had1, List.length_append, List.length_singleton] at h
          exact h
        · rw [if_neg hc]
          have h := ih k (i + 1) (bs ++ [true]) xs uT uW (by rw [had1, List.length_append, List.length_singleton]; omega) hx hof
            (fun t ht htl => by
              rw [had1] at htl ⊢
              rw [List.length_append, List.length_singleton] at htl
              by_cases htb : t < (had bs 0).length
              · rw [getD_app _ _ _ _ htb]
                exact hf t ht htb
              · obtain rfl : t = (had bs 0).length := by omega
                rw [getD_last]
                exact hr i (Nat.le_refl _))
            (fun r hr' => hr r uW) uW
          rw [had1, List.length_append, List.length_singleton] at h
          exact h
      | false =>
        rw [if_neg qa]
        have h := ih k (i + 1) (bs ++ [false]) xs uT uW (by rw [had0]; exact hv rfl) hx hof
          (fun t ht htl => by rw [had0] at htl ⊢; exact hf t ht htl) (fun r hr' => hr r uW) uW
        rw [had0] at h
        exact h
    simp only [ossuarylaw7_DecodeFirst.l0]
    rw [if_pos uW, if_pos uW, Int.toNat_natCast]
    have hlen : (i : Int) < (((bs ++ List.replicate (e + 1) false).length : Nat) : Int) := by simp; omega
    by_cases hbit : Go.bits .and .i64 (shr .i64 which (i : Int)) 1 = 1
    · rw [if_pos hbit, if_pos hlen, set_next bs e i hl]
      exact key true (fun h => by cases h)
    · rw [if_neg hbit, if_pos hlen]
      have w1 : wrap64 ((xs.length : Int) - (i : Int)) = ((e + 1 : Nat) : Int) := by rw [hx, wrap64_in uW uW]; omega
      have w2 : wrap64 ((d : Int) - (((had bs 0).length : Nat) : Int)) = (d : Int) - (((had bs 0).length : Nat) : Int) := wrap64_in uW uW
      rw [w1, w2, set_next bs e i hl]
      clear w1 w2
      exact key _ (fun h => by have := of_decide_eq_false h; omega)
theorem first_f {k : Nat} (hk : 62400 < k) (a0 : Int) (t : ByteArray) (ht : t.size ≤ 140737488351232) (other : ByteArray) (ho : other.size ≤ 140737488351232) (which : Int) : ossuarylaw7_DecodeFirst.f k a0 t other which = some true := by
  unfold ossuarylaw7_DecodeFirst.f
  rw [awake7_f uW]
  simp only [Option.bind_some, if_true]
  obtain ⟨r, hr, e⟩ := mod_u a0 4 uW uW
  rw [show ((4 : Nat) : Int) = 4 from rfl] at e
  obtain ⟨d, hd⟩ : ∃ d, d = 1 + r := ⟨_, rfl⟩
  have e1 : wrap64 (1 + (r : Int)) = (d : Int) := by rw [wrap64_in uW uW]; omega
  rw [e, e1]
  clear e e1
  obtain ⟨m, hm, hma, em⟩ := pieces_f (show 100 < k by omega) d uW uW t ht
  rw [em]
  simp only [Option.bind_some]
  have hO := pieces_of hma
  have hl := pieces_length t m d
  generalize pieces t m d = D at hO hl ⊢
  have h1 : 1 ≤ d := by omega
  have h2 : d ≤ 4 := by omega
  have e4 := renc_f (show 61000 < k by omega) d 2 h1 h2 uW D hl (alike_all (show m ≤ 4096 by omega) hO)
  rw [show ((2 : Nat) : Int) = 2 from rfl] at e4
  rw [e4]
  simp only [Option.bind_some, if_true]
  rw [show decide ((D.length : Int) < 1) = false from decide_eq_false uW]
  obtain ⟨k, rfl⟩ : ∃ m, k = m + 1 := ⟨k - 1, uW⟩
  simp only [ossuarylaw7_DecodeFirst.j0, Bool.false_eq_true, if_false, List.nil_append, Option.bind_some]
  have hp := par_length d 2 D
  rw [if_pos uT, if_pos uW, if_pos (Int.natCast_nonneg _), if_pos uT, Int.toNat_natCast]
  show ossuarylaw7_DecodeFirst.l0 k other which D (word d 2 D) (List.replicate (word d 2 D).length false) 0 0 (d : Int) 2 = some true
  rw [word_length d 2 D hl]
  exact first_l d m hm h1 h2 other ho which hl hO (d + 2) k 0 [] (word d 2 D) rfl uW (by simp [had]) (word_length d 2 D hl) (word_of uW h1 h2 hl hO) (fun _ _ _ => rfl) (fun _ _ => rfl) uW
theorem DecodeFirst {G G' : Prop} (a0 : Int) (_ : G) (a1 : ByteArray) (h1 : a1.size ≤ 140737488351232) (a2 : ByteArray) (h2 : a2.size ≤ 140737488351232) (a3 : Int) (_ : G') : ∃ k, ossuarylaw7_DecodeFirst.f k a0 a1 a2 a3 = some true := ⟨62401, first_f uW a0 a1 h1 a2 h2 a3⟩
end Go.Proofs.Ytaahnicjjpddjaa.Pure
end
