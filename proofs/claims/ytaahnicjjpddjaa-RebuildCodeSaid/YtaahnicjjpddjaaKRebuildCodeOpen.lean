/- What the reference's sum of rows comes to: with enough rounds, for all numbers and rows. No condition. The reference's encoding: what it comes to, and that it is the program's at every input. Plain; no condition. Whatever Data shards say, all that is rebuilt is a word of the code, and rebuilt again it is the same: at every input. Arguments opened as the printed contracts want them: slices of numbers, bools, strings, and of slices, each with its reach. No condition. -/
import Derived.Test.YtaahnicjjpddjaaKRebuildCodeRefGen
import Derived.Test.YtaahnicjjpddjaaKRebuildCodeGRebuildCode2
import Derived.Lib.SmallJoins
section
namespace Go.Proofs.Ytaahnicjjpddjaa.Rvc
open Go.RowKit Go.Proofs.Ytaahnicjjpddjaa.GRef Go.Proofs.Ytaahnicjjpddjaa.Fld Go.Proofs.Ytaahnicjjpddjaa.RefGf Go.Proofs.YtaahnicjjpddjaaW.PrintWords Go.Proofs.YtaahnicjjpddjaaW.PrintLast Go.Proofs.YtaahnicjjpddjaaW.PrintMore
open Go.Proofs.Ytaahnicjjpddjaa.GvcVec
theorem ralike_l (rows : List ByteArray) (hl : rows.length < 9223372036854775807) (d : Nat) : ∀ (k i : Nat), i + d = rows.length → d < k → ossuaryref1_alike.l0 k rows (i : Int) = some ((rows.drop i).all (sameB (row0 rows).size)) := by
  induction d with
  | zero =>
    intro k i hi hk
    obtain ⟨k, rfl⟩ := succ_of hk
    simp only [ossuaryref1_alike.l0]
    rw [if_neg uU, List.drop_of_length_le uU]; rfl
  | succ d ih =>
    intro k i hi hk
    obtain ⟨k, rfl⟩ := succ_of hk
    have hi2 : i < rows.length := by omega
    simp only [ossuaryref1_alike.l0]
    rw [if_pos uU, if_pos uU, if_pos uU, rdOf_nat rows i hi2, List.drop_eq_getElem_cons hi2, List.all_cons]
    show (if ((rows[i].size : Nat) : Int) = ((row0 rows).size : Int) then _ else _) = _
    by_cases h1 : rows[i].size = (row0 rows).size
    · rw [if_pos uU]
      by_cases h2 : rows[i].size ≤ 4096
      · rw [if_neg uU, succ_wrap' i uU, ih k (i + 1) uU uU]
        have e : sameB (row0 rows).size rows[i] = true := by unfold sameB; rw [decide_eq_true h1, decide_eq_true h2]; rfl
        rw [e, Bool.true_and]
      · rw [if_pos uU]
        have e : sameB (row0 rows).size rows[i] = false := by unfold sameB; rw [decide_eq_false h2, Bool.and_false]
        rw [e, Bool.false_and]
    · rw [if_neg uU]
      have e : sameB (row0 rows).size rows[i] = false := by unfold sameB; rw [decide_eq_false h1, Bool.false_and]
      rw [e, Bool.false_and]
theorem ralike_f {k : Nat} (rows : List ByteArray) (hl : rows.length < 9223372036854775807) (hk : rows.length < k) : ossuaryref1_alike.f k rows = some (alikeB rows) := by
  have h := ralike_l rows hl rows.length k 0 uU hk
  rw [List.drop_zero] at h
  exact h
theorem rin_l (rows : List ByteArray) (cs : List Int) (i : Nat) (hi : i < rows.length) (hc : i < cs.length) (c : F) (hcc : cs[i] = toI c) (xs : List F) (hx : xs.length < 5000) (hs : rows[i].size = xs.length) (e : Nat) :
    ∀ (k j : Nat), j + e = xs.length → e + 9 < k →
      ossuaryref1_Combine.l2 k cs rows ((updF c rows[i] j xs).map toI) (i : Int) (j : Int) =
        ossuaryref1_Combine.l1 (k - (e + 1)) cs rows ((addF c rows[i] xs).map toI) (wrap64 ((i : Int) + 1)) := by
  induction e with
  | zero =>
    intro k j hj hk
    obtain ⟨k, rfl⟩ := succ_of hk
    have hj2 : j = xs.length := by omega
    subst hj2
    have hl : (((updF c rows[i] xs.length xs).map toI).length : Int) = (xs.length : Int) := by rw [List.length_map, updF_length]
    simp only [ossuaryref1_Combine.l2]
    rw [hl, if_neg uU, updF_all]
    rfl
  | succ e ih =>
    intro k j hj hk
    obtain ⟨k, rfl⟩ := succ_of hk
    have hj2 : j < xs.length := by omega
    simp only [ossuaryref1_Combine.l2]
    have hl : (((updF c rows[i] j xs).map toI).length : Int) = (xs.length : Int) := by rw [List.length_map, updF_length]
    rw [hl, if_pos uU, if_pos uU, if_pos uU, if_pos uU, if_pos uU, rdOf_nat rows i hi, if_pos uU, bt_wrap, rd_nat cs i hc, hcc, rmul_f uU]
    simp only [Option.bind_some]
    rw [rd_map _ j (by rw [updF_length]; exact hj2), updF_get _ _ _ _ hj2, xor_mod, Int.toNat_natCast, set_map, updF_step _ _ _ _ hj2, succ_wrap j uU, ih k (j + 1) uU uU]
    rw [show k + 1 - (e + 1 + 1) = k - (e + 1) from by omega]
theorem rout_l (rows : List ByteArray) (cs : List Int) (hr : rows.length = cs.length) (hc : cs.length ≤ 12) (hok : okV cs = true) (m : Nat) (hm : m ≤ 4096) (hs : ∀ r ∈ rows, r.size = m) (d : Nat) :
    ∀ (k i : Nat) (xs : List F), i + d = cs.length → xs.length = m → d * (m + 2) + 20 < k →
      ossuaryref1_Combine.l1 k cs rows (xs.map toI) (i : Int) = some (strF (combL ((cs.drop i).map ofI) (rows.drop i) xs), 0) := by
  induction d with
  | zero =>
    intro k i xs hi hx hk
    obtain ⟨k, rfl⟩ := succ_of hk
    simp only [ossuaryref1_Combine.l1]
    rw [if_neg uU, List.drop_of_length_le uU]
    rfl
  | succ d ih =>
    intro k i xs hi hx hk
    obtain ⟨k, rfl⟩ := succ_of hk
    have hi2 : i < cs.length := by omega
    have hi3 : i < rows.length := by omega
    have hmul : (d + 1) * (m + 2) = d * (m + 2) + (m + 2) := Nat.succ_mul _ _
    have hv := List.all_eq_true.1 hok cs[i] (List.getElem_mem hi2)
    rw [Bool.and_eq_true] at hv
    obtain ⟨c, hcc⟩ := ex_toI (of_decide_eq_true hv.1) (of_decide_eq_true hv.2)
    simp only [ossuaryref1_Combine.l1]
    rw [if_pos uU, List.drop_eq_getElem_cons hi2, List.drop_eq_getElem_cons hi3, List.map_cons, combL]
    have e1 : ofI cs[i] = c := by rw [hcc, ofI_toI]
    rw [e1]
    have h := rin_l rows cs i hi3 hi2 c hcc xs uU (by rw [hs _ (List.getElem_mem hi3), hx]) xs.length k 0 uU uU
    rw [updF_zero] at h
    refine h.trans ?_
    rw [succ_wrap i uU]
    exact ih _ (i + 1) _ uU (by rw [addF_length]; exact hx) uU
theorem rchk_l (rows : List ByteArray) (cs : List Int) (hc : cs.length ≤ 12) (d : Nat) :
    ∀ (k i : Nat), i + d = cs.length → d < k →
      ossuaryref1_Combine.l0 k cs rows (i : Int) = if okV (cs.drop i) = true then ossuaryref1_Combine.l0 (k - d) cs rows (cs.length : Int) else some (noStr, 200) := by
  induction d with
  | zero =>
    intro k i hi hk
    rw [List.drop_of_length_le uU, show i = cs.length from by omega]
    rfl
  | succ d ih =>
    intro k i hi hk
    obtain ⟨k, rfl⟩ := succ_of hk
    have hi2 : i < cs.length := by omega
    conv => lhs; unfold ossuaryref1_Combine.l0
    rw [if_pos uU, if_pos uU, rd_nat cs i hi2, List.drop_eq_getElem_cons hi2]
    by_cases hv : 0 ≤ cs[i] ∧ cs[i] < 256
    · rw [bn_yes hv.1 hv.2, okV_cons_yes hv.1 hv.2]
      simp only [Option.bind_some, if_true]
      rw [succ_wrap i uU, ih k (i + 1) uU uU, show k + 1 - (d + 1) = k - d from by omega]
    · rw [bn_no uU, okV_cons_no uU]
      rfl
theorem rcomb {k : Nat} (hk : 60000 < k) (cs : List Int) (rows : List ByteArray) (hl : rows.length < 9223372036854775807) : ossuaryref1_Combine.f k cs rows = some (combine cs rows) := by
  unfold ossuaryref1_Combine.f combine
  have j0 : ∀ b, ossuaryref1_Combine.j0 k cs rows b = if b = true then some (noStr, 200) else ossuaryref1_Combine.l0 (k - 1) cs rows 0 := by
    intro b
    obtain ⟨k, rfl⟩ := succ_of hk
    simp only [ossuaryref1_Combine.j0]
    rfl
  simp only [j0]
  by_cases h1 : cs.length < 1
  · rw [if_pos uU, if_pos trivial, if_neg uU]
  · rw [if_neg uU]
    by_cases h2 : cs.length > 12
    · rw [if_pos uU, if_pos trivial, if_neg uU]
    · rw [if_neg uU]
      by_cases h3 : rows.length = cs.length
      · rw [if_pos uU, ralike_f rows hl uU]
        simp only [Option.bind_some]
        cases h4 : alikeB rows with
        | false =>
          have hne : ¬ (1 ≤ cs.length ∧ cs.length ≤ 12 ∧ rows.length = cs.length ∧ false = true ∧ okV cs = true) := fun h => by have := h.2.2.2.1; contradiction
          rw [if_neg hne]; rfl
        | true =>
          have hs := alikeB_size h4
          have h0 := hs _ (row0_mem uU)
          have hmul : cs.length * ((row0 rows).size + 2) ≤ 12 * 4098 := Nat.mul_le_mul uU uU
          simp only [Bool.not_true, Bool.false_eq_true, if_false]
          have hq := rchk_l rows cs uU cs.length (k - 1) 0 uU uU
          rw [List.drop_zero] at hq
          refine hq.trans ?_
          by_cases h5 : okV cs = true
          · rw [if_pos h5, if_pos ⟨uU, uU, h3, by trivial, h5⟩]
            obtain ⟨k', hk'⟩ : ∃ k', k - 1 - cs.length = k' + 1 := ⟨k - 1 - cs.length - 1, uU⟩
            rw [hk']
            simp only [ossuaryref1_Combine.l0]
            rw [if_neg uU, if_pos uU, if_pos uU]
            show (if ((row0 rows).size : Int).toNat ≤ 281474976710656 then ossuaryref1_Combine.l1 k' cs rows (List.replicate ((row0 rows).size : Int).toNat 0) 0 else none) = _
            rw [if_pos uU, Int.toNat_natCast, zeros_map]
            have h := rout_l rows cs h3 uU h5 (row0 rows).size h0.2 (fun r hr => (hs r hr).1) cs.length k' 0 (zerosF (row0 rows).size) uU (by unfold zerosF; simp) uU
            rw [List.drop_zero, List.drop_zero] at h
            exact h
          · rw [if_neg h5, if_neg (fun hh => h5 hh.2.2.2.2)]
      · rw [if_neg uU, if_pos trivial, if_neg (fun hh => h3 hh.2.2.1)]
end Go.Proofs.Ytaahnicjjpddjaa.Rvc
end
section
namespace Go.Proofs.Ytaahnicjjpddjaa.Enc
open Go.RowKit Go.Proofs.YtaahnicjjpddjaaW.PrintWords Go.Proofs.YtaahnicjjpddjaaW.PrintLast Go.Proofs.YtaahnicjjpddjaaW.PrintMore Go.Proofs.Ytaahnicjjpddjaa.Fld Go.Proofs.Ytaahnicjjpddjaa.Mat Go.Proofs.Ytaahnicjjpddjaa.Fn Go.Proofs.Ytaahnicjjpddjaa.Pr
open Go.Proofs.Ytaahnicjjpddjaa.GvcVec (combine alikeB alikeB_size row0 row0_mem)
open Go.Proofs.Ytaahnicjjpddjaa.Rvc (rcomb ralike_f)
theorem rdE (m : List (List Int)) (i : Nat) (h : i < m.length) : GRenc.rd_L1 m (i : Int) = m[i] := by
  show m.getD (i : Int).toNat [] = m[i]
  rw [Int.toNat_natCast, getD_get _ _ _ h]
theorem renc_l (d p : Nat) (h1 : 1 ≤ d) (h2 : d ≤ 4) (h3 : p ≤ 2) (data : List ByteArray) (hl : data.length = d) (ha : alikeB data = true) (e : Nat) : ∀ (k i : Nat), i + e = p → 60000 + e < k →
    GRenc.ossuaryref1_Encode.l0 k data (par d i data) ((d + i : Nat) : Int) (d : Int) (p : Int) (fmat (code d) (d + p) d) = some (par d p data, 0) := by
  have ew : wrap64 ((d : Int) + (p : Int)) = ((d + p : Nat) : Int) := by rw [wrap64_in uU uU]; omega
  induction e with
  | zero =>
    intro k i hi hk
    obtain ⟨k, rfl⟩ : ∃ m, k = m + 1 := ⟨k - 1, uU⟩
    obtain rfl : p = i := by omega
    simp only [GRenc.ossuaryref1_Encode.l0]
    rw [ew, if_neg (Int.lt_irrefl _)]
  | succ e ih =>
    intro k i hi hk
    obtain ⟨k, rfl⟩ : ∃ m, k = m + 1 := ⟨k - 1, uU⟩
    have ih' := ih k (i + 1) uU uU
    simp only [GRenc.ossuaryref1_Encode.l0]
    rw [ew]
    clear ew
    rw [if_pos (Int.ofNat_lt.2 uU), if_pos (Int.natCast_nonneg _), fmat_length, if_pos (Int.ofNat_lt.2 uU), rdE _ (d + i) uO, fmat_get, rcomb uU _ _ uU, cmb_eq _ h1 uU hl ha]
    simp only [Option.bind_some]
    rw [par_length, if_pos uU, succ_wrap (d + i) uU, ← par_succ]
    exact ih'
theorem renc_f {k : Nat} (hk : 61000 < k) (d p : Nat) (h1 : 1 ≤ d) (h2 : d ≤ 4) (h3 : p ≤ 2) (data : List ByteArray) (hl : data.length = d) (ha : alikeB data = true) : GRenc.ossuaryref1_Encode.f k (d : Int) (p : Int) data = some (par d p data, 0) := by
  unfold GRenc.ossuaryref1_Encode.f
  rw [rshape_f, decide_eq_true ⟨uU, uU, uU, uU⟩]
  simp only [Option.bind_some, if_true]
  obtain ⟨k, rfl⟩ : ∃ m, k = m + 1 := ⟨k - 1, uU⟩
  rw [if_pos uU, ralike_f _ uU uU, ha]
  simp only [Option.bind_some, GRenc.ossuaryref1_Encode.j0, Bool.not_true, Bool.false_eq_true, if_false]
  rw [rgen_f uU d p h1 h2 h3]
  simp only [Option.bind_some]
  exact renc_l d p h1 h2 h3 data hl ha p k 0 uU uU
end Go.Proofs.Ytaahnicjjpddjaa.Enc
end
section
namespace Go.Proofs.Ytaahnicjjpddjaa.Pure
open Go.RowKit Go.Proofs.Ytaahnicjjpddjaa.GRebuildCode Go.Proofs.YtaahnicjjpddjaaW.PrintWords Go.Proofs.YtaahnicjjpddjaaW.PrintLast Go.Proofs.YtaahnicjjpddjaaW.PrintMore Go.Proofs.Ytaahnicjjpddjaa.Fld Go.Proofs.Ytaahnicjjpddjaa.Mat Go.Proofs.Ytaahnicjjpddjaa.Fn Go.Proofs.Ytaahnicjjpddjaa.Pr Go.Proofs.Ytaahnicjjpddjaa.Enc
open Go.Proofs.Ytaahnicjjpddjaa.GvcVec (alikeB)
theorem awake8_f {k : Nat} (hk : 61000 < k) : ossuarylaw8_awake.f k = some true := by
  unfold ossuarylaw8_awake.f
  have e1 : GEnc.rebuild_Rebuild.f k 2 1 [⟨#[97]⟩, ⟨#[]⟩, ⟨#[103]⟩] [true, false, true] = some ([⟨#[97]⟩, ⟨#[98]⟩, ⟨#[103]⟩], 0) := by
    have h := reb_word hk (d := 2) (p := 1) uU uU uU (data := [⟨#[97]⟩, ⟨#[98]⟩]) (shards := [⟨#[97]⟩, ⟨#[]⟩, ⟨#[103]⟩]) (hv := [true, false, true]) rfl uQ rfl rfl uY uQ (fun t ht => by
      unfold word
      rw [par21]
      rcases (show t = 0 ∨ t = 1 by omega) with rfl | rfl <;> rfl)
    unfold word at h
    rw [par21] at h
    exact h
  have e2 : GEnc.rebuild_Rebuild.f k 2 1 [⟨#[97]⟩, ⟨#[]⟩, ⟨#[]⟩] [true, false, false] = some ([], 801) :=
    reb_few hk (d := 2) (p := 1) uU uU uU rfl rfl uY uQ
  have e3 : GEnc.rebuild_Rebuild.f k 2 1 [] [] = some ([], 800) := reb_no hk 2 1 [] [] uZ
  rw [e1, e2, e3]
  simp only [Option.bind_some, num_f]
  rw [same_self _ uY uR]
  rfl
/-- which of so many, at least so many of them. -/
theorem some_l (K d : Nat) (hK : K ≤ 6) (which : Int) (e : Nat) : ∀ (k i : Nat) (bs : List Bool), bs.length = i → i + e = K → d ≤ (had bs 0).length + e → d ≤ 6 → e < k →
    ∃ hv, (hv.length = K ∧ d ≤ (had hv 0).length) ∧ ossuarylaw8_some.l0 k (K : Int) (d : Int) which (bs ++ List.replicate e false) (((had bs 0).length : Nat) : Int) (i : Int) = some hv := by
  induction e with
  | zero =>
    intro k i bs hl hi hd hd6 hk
    obtain ⟨k, rfl⟩ : ∃ m, k = m + 1 := ⟨k - 1, uU⟩
    simp only [ossuarylaw8_some.l0]
    rw [if_neg uU, List.replicate_zero, List.append_nil]
    exact ⟨bs, ⟨uU, uU⟩, rfl⟩
  | succ e ih =>
    intro k i bs hl hi hd hd6 hk
    obtain ⟨k, rfl⟩ : ∃ m, k = m + 1 := ⟨k - 1, uU⟩
    have hle := had_len bs 0
    have had1 := had_true bs i hl
    have had0 := had_false bs
    have t1 : ∃ hv, (hv.length = K ∧ d ≤ (had hv 0).length) ∧ ossuarylaw8_some.l0 k (K : Int) (d : Int) which ((bs ++ [true]) ++ List.replicate e false) ((((had bs 0).length + 1 : Nat)) : Int) ((i + 1 : Nat) : Int) = some hv := by
      have h := ih k (i + 1) (bs ++ [true]) uR uU (by rw [had1, List.length_append, List.length_singleton]; omega) hd6 uU
      rw [had1, List.length_append, List.length_singleton] at h
      exact h
    have t0 : d ≤ (had bs 0).length + e → ∃ hv, (hv.length = K ∧ d ≤ (had hv 0).length) ∧ ossuarylaw8_some.l0 k (K : Int) (d : Int) which ((bs ++ [false]) ++ List.replicate e false) (((had bs 0).length : Nat) : Int) ((i + 1 : Nat) : Int) = some hv := fun h0 => by
      have h := ih k (i + 1) (bs ++ [false]) uR uU (by rw [had0]; omega) hd6 uU
      rw [had0] at h
      exact h
    have hlen : (i : Int) < (((bs ++ List.replicate (e + 1) false).length : Nat) : Int) := by simp; omega
    simp only [ossuarylaw8_some.l0]
    rw [if_pos uU, if_pos uU, Int.toNat_natCast, succ_wrap i uU, succ_wrap (had bs 0).length uU]
    by_cases hbit : Go.bits .and .i64 (shr .i64 which (i : Int)) 1 = 1
    · rw [if_pos hbit, if_pos hlen]
      simp only [Option.bind_some]
      rw [set_next bs e i hl, rd_next bs e i hl, if_pos rfl]
      exact t1
    · rw [if_neg hbit, if_pos hlen]
      simp only [Option.bind_some]
      have w1 : wrap64 ((K : Int) - (i : Int)) = ((e + 1 : Nat) : Int) := by rw [wrap64_in uU uU]; omega
      have w2 : wrap64 ((d : Int) - (((had bs 0).length : Nat) : Int)) = (d : Int) - (((had bs 0).length : Nat) : Int) := wrap64_in uU uU
      rw [w1, w2]
      clear w1 w2
      by_cases hq : ((e + 1 : Nat) : Int) ≤ (d : Int) - (((had bs 0).length : Nat) : Int)
      · rw [decide_eq_true hq, set_next bs e i hl, rd_next bs e i hl, if_pos rfl]
        exact t1
      · rw [decide_eq_false hq, set_next bs e i hl, rd_next bs e i hl, if_neg uY]
        exact t0 uU
theorem some_f {k : Nat} (hk : 100 < k) (K d : Nat) (hK : K ≤ 6) (hd : d ≤ K) (which : Int) : ∃ hv, (hv.length = K ∧ d ≤ (had hv 0).length) ∧ ossuarylaw8_some.f k (K : Int) (d : Int) which = some hv := by
  have h := some_l K d hK which K k 0 [] rfl uU (by simp [had]; omega) uU uU
  unfold ossuarylaw8_some.f
  rw [if_pos (Int.natCast_nonneg _), Int.toNat_natCast, if_pos uU]
  exact h
theorem code_end {k : Nat} (hk : 61100 < k) {d m : Nat} (hm : m ≤ 30) (h1 : 1 ≤ d) (h2 : d ≤ 4) (which other : Int) (t : ByteArray) {xs : List ByteArray} (hl : xs.length = d + 2) (h : Of m xs) :
    ossuarylaw8_RebuildCode.l0 k t which other ((d + 2 : Nat) : Int) (m : Int) xs ((d + 2 : Nat) : Int) (d : Int) 2 = some true := by
  obtain ⟨k, rfl⟩ : ∃ m, k = m + 1 := ⟨k - 1, uU⟩
  obtain ⟨hv, ⟨hh, hd⟩, e1⟩ := some_f (show 100 < k by omega) (d + 2) d uU uU which
  obtain ⟨D, hD, ho, e2⟩ := reb_any (show 61000 < k by omega) (show m ≤ 4096 by omega) h1 h2 (show 2 ≤ 2 by omega) hl hh hd h
  have hw := word_length d 2 D hD
  rw [show ((2 : Nat) : Int) = 2 from rfl] at e2
  simp only [ossuarylaw8_RebuildCode.l0]
  rw [if_neg (Int.lt_irrefl _), e1]
  simp only [Option.bind_some]
  rw [e2]
  simp only [Option.bind_some, num_f, if_true]
  obtain ⟨k, rfl⟩ : ∃ m, k = m + 1 := ⟨k - 1, uU⟩
  obtain ⟨hv2, ⟨hh2, hd2⟩, e3⟩ := some_f (show 100 < k by omega) (d + 2) d uU uU other
  have e4 := renc_f (show 61000 < k by omega) d 2 h1 h2 uU D hD (alike_all (show m ≤ 4096 by omega) ho)
  have e5 := reb_self (show 61000 < k by omega) (show m ≤ 4096 by omega) h1 h2 (show 2 ≤ 2 by omega) hD ho hh2 hd2
  rw [show ((2 : Nat) : Int) = 2 from rfl] at e4 e5
  have hp := par_length d 2 D
  have et : (word d 2 D).take d = D := by unfold word; rw [List.take_append_of_le_length uU, List.take_of_length_le uU]
  have ed : (word d 2 D).drop d = par d 2 D := by unfold word; rw [List.drop_append_of_le_length uU, List.drop_of_length_le uU, List.nil_append]
  rw [hw, bne_self_eq_false]
  simp only [ossuarylaw8_RebuildCode.j1, Bool.false_eq_true, if_false]
  rw [if_pos (Int.natCast_nonneg _), hw, if_pos uU, Int.toNat_natCast, et, ed, e4]
  simp only [Option.bind_some]
  rw [e3]
  simp only [Option.bind_some]
  rw [e5]
  simp only [Option.bind_some, if_true, num_f]
  rw [same_self _ uU uU]
  simp only [Option.bind_some, if_true]
  rw [same_self _ uU uU]
  rfl
theorem code_l (d m : Nat) (hm : m ≤ 30) (h1 : 1 ≤ d) (h2 : d ≤ 4) (which other : Int) (t : ByteArray) (ht : m * (d + 2) ≤ t.size) (e : Nat) : ∀ (k i : Nat), i + e = d + 2 → 61200 + e < k →
    ossuarylaw8_RebuildCode.l0 k t which other ((d + 2 : Nat) : Int) (m : Int) (pieces t m i) (i : Int) (d : Int) 2 = some true := by
  induction e with
  | zero =>
    intro k i hi hk
    obtain rfl : i = d + 2 := by omega
    exact code_end uU hm h1 h2 which other t (pieces_length _ _ _) (pieces_of ht)
  | succ e ih =>
    intro k i hi hk
    obtain ⟨k, rfl⟩ : ∃ m, k = m + 1 := ⟨k - 1, uU⟩
    have hmi : m * i ≤ 30 * 6 := Nat.mul_le_mul hm uU
    have hmi2 : m * i + m ≤ t.size := by
      refine Nat.le_trans ?_ ht
      rw [← Nat.mul_succ]
      exact Nat.mul_le_mul_left m uU
    have ih' := ih k (i + 1) uU uU
    rw [pieces_succ] at ih'
    unfold piece at ih'
    have e1 : wrap64 ((m : Int) * (i : Int)) = ((m * i : Nat) : Int) := by
      rw [show (m : Int) * (i : Int) = ((m * i : Nat) : Int) from (Int.natCast_mul m i).symm]
      exact wrap64_in uU uU
    have e2 : wrap64 (((m * i : Nat) : Int) + (m : Int)) = ((m * i + m : Nat) : Int) := by rw [wrap64_in uU uU]; omega
    have e3 : (pieces t m i).length < 8796093022208 := by rw [pieces_length]; omega
    simp only [ossuarylaw8_RebuildCode.l0]
    rw [e1, e2, succ_wrap i uU]
    generalize m * i = q at *
    clear e1 e2
    have c1 : (i : Int) < ((d + 2 : Nat) : Int) := Int.ofNat_lt.2 uU
    have c2 : (q : Int) ≤ ((q + m : Nat) : Int) := Int.ofNat_le.2 (Nat.le_add_right q m)
    have c3 : ((q + m : Nat) : Int) ≤ (t.size : Int) := Int.ofNat_le.2 hmi2
    rw [if_pos c1, if_pos (Int.natCast_nonneg _), if_pos c2, if_pos c3, if_pos e3, Int.toNat_natCast, Int.toNat_natCast]
    exact ih'
theorem code_f {k : Nat} (hk : 61400 < k) (a0 : Int) (t : ByteArray) (ht : t.size ≤ 140737488351232) (which other : Int) : ossuarylaw8_RebuildCode.f k a0 t which other = some true := by
  unfold ossuarylaw8_RebuildCode.f
  rw [awake8_f uU]
  simp only [Option.bind_some, if_true]
  obtain ⟨r, hr, e⟩ := mod_u a0 4 uU uU
  rw [show ((4 : Nat) : Int) = 4 from rfl] at e
  obtain ⟨d, hd⟩ : ∃ d, d = 1 + r := ⟨_, rfl⟩
  have e1 : wrap64 (1 + (r : Int)) = (d : Int) := by rw [wrap64_in uU uU]; omega
  have e2 : wrap64 ((d : Int) + 2) = ((d + 2 : Nat) : Int) := by rw [wrap64_in uU uU]; omega
  rw [e, e1, e2]
  clear e e1 e2
  obtain ⟨m, hm, hma, em⟩ : ∃ m : Nat, m ≤ 30 ∧ m * (d + 2) ≤ t.size ∧ Go.Proofs.Ytaahnicjjpddjaa.GRebuildCode.mn (wrap64 ((t.size : Int) / ((d + 2 : Nat) : Int))) 30 = (m : Int) := by
    have hq : (t.size : Int) / ((d + 2 : Nat) : Int) = ((t.size / (d + 2) : Nat) : Int) := (Int.natCast_ediv _ _).symm
    have hle : t.size / (d + 2) ≤ t.size := Nat.div_le_self _ _
    refine ⟨min (t.size / (d + 2)) 30, uU, Nat.le_trans (Nat.mul_le_mul_right _ (Nat.min_le_left _ _)) (Nat.div_mul_le_self _ _), ?_⟩
    rw [hq]
    generalize t.size / (d + 2) = q at hle ⊢
    rw [wrap64_in uU uU]
    unfold Go.Proofs.Ytaahnicjjpddjaa.GRebuildCode.mn
    split <;> omega
  rw [em, if_neg (show ¬ ((d + 2 : Nat) : Int) = 0 by omega)]
  exact code_l d m hm uU uU which other t hma (d + 2) k 0 uU uU
theorem RebuildCode {G G' G'' : Prop} (a0 : Int) (_ : G) (t : ByteArray) (ht : t.size ≤ 140737488351232) (a2 : Int) (_ : G') (a3 : Int) (_ : G'') : ∃ k, ossuarylaw8_RebuildCode.f k a0 t a2 a3 = some true := ⟨61401, code_f uU a0 t ht a2 a3⟩
end Go.Proofs.Ytaahnicjjpddjaa.Pure
end
section
namespace Go.Proofs.Ytaahnicjjpddjaa.Opn
end Go.Proofs.Ytaahnicjjpddjaa.Opn
end
