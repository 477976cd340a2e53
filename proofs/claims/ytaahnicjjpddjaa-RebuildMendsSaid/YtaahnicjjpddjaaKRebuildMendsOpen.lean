/- The reference's making of the code's matrix: what it comes to. Plain; no condition. What the reference's sum of rows comes to: with enough rounds, for all numbers and rows. No condition. The reference's encoding: what it comes to, and that it is the program's at every input. Plain; no condition. One that is there but is not as it should be is put right: at every input. Arguments opened as the printed contracts want them: slices of numbers, bools, strings, and of slices, each with its reach. No condition. -/
import Derived.Test.YtaahnicjjpddjaaKRebuildMendsRefMul
import Derived.Test.YtaahnicjjpddjaaKRebuildMendsGRebuildMends2
import Derived.Lib.SmallJoins
section
namespace Go.Proofs.Ytaahnicjjpddjaa.Pr
open Go.RowKit Go.Proofs.YtaahnicjjpddjaaW.PrintWords Go.Proofs.YtaahnicjjpddjaaW.PrintLast Go.Proofs.YtaahnicjjpddjaaW.PrintMore Go.Proofs.Ytaahnicjjpddjaa.Fld Go.Proofs.Ytaahnicjjpddjaa.Mat Go.Proofs.Ytaahnicjjpddjaa.Fn
theorem rdG (m : List (List Int)) (i : Nat) (h : i < m.length) : GRgen.rd_L1 m (i : Int) = m[i] := by
  show m.getD (i : Int).toNat [] = m[i]
  rw [Int.toNat_natCast, getD_get _ _ _ h]
theorem rg_1 (n d i : Nat) (hi : i < n) (h1 : n ≤ 12) (h2 : d ≤ 12) (p : Int) (R : List (List Int) × Int) (K : Nat)
    (H : ∀ k, K < k → GRgen.ossuaryref1_Gen.l0 k ((i + 1 : Nat) : Int) (d : Int) p (fmat (St (van num) (i + 1) 0 0#8) n d) = some R) (e : Nat) :
    ∀ k j, j + e = d → K + e + 1100 < k → GRgen.ossuaryref1_Gen.l1 k (i : Int) (j : Int) (d : Int) p (fmat (St (van num) i j 0#8) n d) = some R := by
  induction e with
  | zero =>
    intro k j hj hk
    obtain ⟨k, rfl⟩ : ∃ m, k = m + 1 := ⟨k - 1, uV⟩
    obtain rfl : j = d := by omega
    simp only [GRgen.ossuaryref1_Gen.l1]
    rw [if_neg uV, succ_wrap i uV, St_row]
    exact H k uV
  | succ e ih =>
    intro k j hj hk
    obtain ⟨k, rfl⟩ : ∃ m, k = m + 1 := ⟨k - 1, uV⟩
    have ih' := ih k (j + 1) uV uV
    have hp : GRef.ossuaryref1_Pow.f k (i : Int) (j : Int) = some (toI (van num i j), 0) := by
      rw [← toI_num (show i < 256 by omega)]
      exact RefGf.rPow_f uV (num i) j uV
    simp only [GRgen.ossuaryref1_Gen.l1]
    rw [if_pos uV, hp]
    simp only [Option.bind_some]
    rw [rdG _ i uP, fmat_get, rowOf_length, fmat_length, if_pos uV, if_pos uV, if_pos uV, if_pos uV, Int.toNat_natCast, Int.toNat_natCast, fmat_setAt, St_set, St_next, succ_wrap j uV]
    exact ih'
theorem rg_0 (n d : Nat) (hd1 : 1 ≤ d) (hdn : d ≤ n) (h1 : n ≤ 12) (p : Int) (e : Nat) :
    ∀ k i, i + e = n → e * 1200 + 8000 < k → GRgen.ossuaryref1_Gen.l0 k (i : Int) (d : Int) p (fmat (St (van num) i 0 0#8) n d) = some (fmat (code d) n d, 0) := by
  induction e with
  | zero =>
    intro k i hi hk
    obtain ⟨k, rfl⟩ : ∃ m, k = m + 1 := ⟨k - 1, uV⟩
    obtain rfl : i = n := by omega
    simp only [GRgen.ossuaryref1_Gen.l0]
    rw [St_all, fmat_length, if_neg uV, if_pos uV, if_pos uV, Int.toNat_natCast, fmat_take _ _ _ _ hdn, inv_ok hd1 uV (back_left uV)]
    simp only [Option.bind_some]
    rw [rmulM_f uV (van num) (back d) i d d uV h1 hd1 uV hd1 uV]
    rfl
  | succ e ih =>
    intro k i hi hk
    obtain ⟨k, rfl⟩ : ∃ m, k = m + 1 := ⟨k - 1, uV⟩
    simp only [GRgen.ossuaryref1_Gen.l0]
    rw [fmat_length, if_pos uV]
    exact rg_1 n d i uV h1 uV p _ (e * 1200 + 8000) (fun k hk' => ih k (i + 1) uV hk') d k 0 uV uV
theorem rshape_f (d p : Int) : GRef.ossuaryref1_ShapeMay.f d p = some (decide (1 ≤ d ∧ d ≤ 4 ∧ 0 ≤ p ∧ p ≤ 2)) := genmay_f d p
theorem rgen_f {k : Nat} (hk : 20000 < k) (d p : Nat) (h1 : 1 ≤ d) (h2 : d ≤ 4) (h3 : p ≤ 2) : GRgen.ossuaryref1_Gen.f k (d : Int) (p : Int) = some (fmat (code d) (d + p) d, 0) := by
  unfold GRgen.ossuaryref1_Gen.f
  rw [rshape_f, decide_eq_true ⟨uV, uV, uV, uV⟩]
  simp only [Option.bind_some, if_true]
  rw [wrap64_in uV uV, show (d : Int) + (p : Int) = ((d + p : Nat) : Int) from rfl, blank_f uV (d + p) d uV uV]
  simp only [Option.bind_some]
  rw [St_zero (van num)]
  exact rg_0 (d + p) d h1 uV uV (p : Int) (d + p) k 0 uV uV
end Go.Proofs.Ytaahnicjjpddjaa.Pr
end
section
namespace Go.Proofs.Ytaahnicjjpddjaa.Rvc
open Go.RowKit Go.Proofs.Ytaahnicjjpddjaa.GRef Go.Proofs.Ytaahnicjjpddjaa.Fld Go.Proofs.Ytaahnicjjpddjaa.RefGf Go.Proofs.YtaahnicjjpddjaaW.PrintWords Go.Proofs.YtaahnicjjpddjaaW.PrintLast Go.Proofs.YtaahnicjjpddjaaW.PrintMore
open Go.Proofs.Ytaahnicjjpddjaa.GvcVec
theorem ralike_l (rows : List ByteArray) (hl : rows.length < 9223372036854775807) (d : Nat) : ∀ (k i : Nat), i + d = rows.length → d < k → ossuaryref1_alike.l0 k rows (i : Int) = some ((rows.drop i).all (sameB (row0 rows).size)) := by
  induction d with
  | zero =>
    intro k i hi hk
    obtain ⟨k, rfl⟩ := succ_of hk
    simp only [ossuaryref1_alike.l0]
    rw [if_neg uV, List.drop_of_length_le uV]; rfl
  | succ d ih =>
    intro k i hi hk
    obtain ⟨k, rfl⟩ := succ_of hk
    have hi2 : i < rows.length := by omega
    simp only [ossuaryref1_alike.l0]
    rw [if_pos uV, if_pos uV, if_pos uV, rdOf_nat rows i hi2, List.drop_eq_getElem_cons hi2, List.all_cons]
    show (if ((rows[i].size : Nat) : Int) = ((row0 rows).size : Int) then _ else _) = _
    by_cases h1 : rows[i].size = (row0 rows).size
    · rw [if_pos uV]
      by_cases h2 : rows[i].size ≤ 4096
      · rw [if_neg uV, succ_wrap' i uV, ih k (i + 1) uV uV]
        have e : sameB (row0 rows).size rows[i] = true := by unfold sameB; rw [decide_eq_true h1, decide_eq_true h2]; rfl
        rw [e, Bool.true_and]
      · rw [if_pos uV]
        have e : sameB (row0 rows).size rows[i] = false := by unfold sameB; rw [decide_eq_false h2, Bool.and_false]
        rw [e, Bool.false_and]
    · rw [if_neg uV]
      have e : sameB (row0 rows).size rows[i] = false := by unfold sameB; rw [decide_eq_false h1, Bool.false_and]
      rw [e, Bool.false_and]
theorem ralike_f {k : Nat} (rows : List ByteArray) (hl : rows.length < 9223372036854775807) (hk : rows.length < k) : ossuaryref1_alike.f k rows = some (alikeB rows) := by
  have h := ralike_l rows hl rows.length k 0 uV hk
  rw [List.drop_zero] at h
  exact h
theorem rin_l (rows : List ByteArray) (cs : List Int) (i : Nat) (hi : i < rows.length) (hc : i < cs.length) (c : F) (hcc : cs[i] = toI c) (xs : List F) (hx : xs.length < 5000) (hs : rows[i].size = xs.length) (e : Nat) :
    ∀ (k j : Nat), j + e = xs.length → e + 9 < k →
      ossuaryref1_Combine.l2 k cs rows ((updF c rows[i] j xs).map toI) (i : Int) (j : Int) =
        ossuaryref1_Combine.l1 (k - (e + 1)) cs rows ((addF c rows[i] xs).map toI) (wrap64 ((i : Int) + 1)) := by
  induction e with
  | zero =>
    intro k j hj hk
    obtain ⟨k, rfl⟩ := succ_of hk
    have hj2 : j = xs.length := by omega
    subst hj2
    have hl : (((updF c rows[i] xs.length xs).map toI).length : Int) = (xs.length : Int) := by rw [List.length_map, updF_length]
    simp only [ossuaryref1_Combine.l2]
    rw [hl, if_neg uV, updF_all]
    rfl
  | succ e ih =>
    intro k j hj hk
    obtain ⟨k, rfl⟩ := succ_of hk
    have hj2 : j < xs.length := by omega
    simp only [ossuaryref1_Combine.l2]
    have hl : (((updF c rows[i] j xs).map toI).length : Int) = (xs.length : Int) := by rw [List.length_map, updF_length]
    rw [hl, if_pos uV, if_pos uV, if_pos uV, if_pos uV, if_pos uV, rdOf_nat rows i hi, if_pos uV, bt_wrap, rd_nat cs i hc, hcc, rmul_f uV]
    simp only [Option.bind_some]
    rw [rd_map _ j (by rw [updF_length]; exact hj2), updF_get _ _ _ _ hj2, xor_mod, Int.toNat_natCast, set_map, updF_step _ _ _ _ hj2, succ_wrap j uV, ih k (j + 1) uV uV]
    rw [show k + 1 - (e + 1 + 1) = k - (e + 1) from by omega]
theorem rout_l (rows : List ByteArray) (cs : List Int) (hr : rows.length = cs.length) (hc : cs.length ≤ 12) (hok : okV cs = true) (m : Nat) (hm : m ≤ 4096) (hs : ∀ r ∈ rows, r.size = m) (d : Nat) :
    ∀ (k i : Nat) (xs : List F), i + d = cs.length → xs.length = m → d * (m + 2) + 20 < k →
      ossuaryref1_Combine.l1 k cs rows (xs.map toI) (i : Int) = some (strF (combL ((cs.drop i).map ofI) (rows.drop i) xs), 0) := by
  induction d with
  | zero =>
    intro k i xs hi hx hk
    obtain ⟨k, rfl⟩ := succ_of hk
    simp only [ossuaryref1_Combine.l1]
    rw [if_neg uV, List.drop_of_length_le uV]
    rfl
  | succ d ih =>
    intro k i xs hi hx hk
    obtain ⟨k, rfl⟩ := succ_of hk
    have hi2 : i < cs.length := by omega
    have hi3 : i < rows.length := by omega
    have hmul : (d + 1) * (m + 2) = d * (m + 2) + (m + 2) := Nat.succ_mul _ _
    have hv := List.all_eq_true.1 hok cs[i] (List.getElem_mem hi2)
    rw [Bool.and_eq_true] at hv
    obtain ⟨c, hcc⟩ := ex_toI (of_decide_eq_true hv.1) (of_decide_eq_true hv.2)
    simp only [ossuaryref1_Combine.l1]
    rw [if_pos uV, List.drop_eq_getElem_cons hi2, List.drop_eq_getElem_cons hi3, List.map_cons, combL]
    have e1 : ofI cs[i] = c := by rw [hcc, ofI_toI]
    rw [e1]
    have h := rin_l rows cs i hi3 hi2 c hcc xs uV (by rw [hs _ (List.getElem_mem hi3), hx]) xs.length k 0 uV uV
    rw [updF_zero] at h
    refine h.trans ?_
    rw [succ_wrap i uV]
    exact ih _ (i + 1) _ uV (by rw [addF_length]; exact hx) uV
theorem rchk_l (rows : List ByteArray) (cs : List Int) (hc : cs.length ≤ 12) (d : Nat) :
    ∀ (k i : Nat), i + d = cs.length → d < k →
      ossuaryref1_Combine.l0 k cs rows (i : Int) = if okV (cs.drop i) = true then ossuaryref1_Combine.l0 (k - d) cs rows (cs.length : Int) else some (noStr, 200) := by
  induction d with
  | zero =>
    intro k i hi hk
    rw [List.drop_of_length_le uV, show i = cs.length from by omega]
    rfl
  | succ d ih =>
    intro k i hi hk
    obtain ⟨k, rfl⟩ := succ_of hk
    have hi2 : i < cs.length := by omega
    conv => lhs; unfold ossuaryref1_Combine.l0
    rw [if_pos uV, if_pos uV, rd_nat cs i hi2, List.drop_eq_getElem_cons hi2]
    by_cases hv : 0 ≤ cs[i] ∧ cs[i] < 256
    · rw [bn_yes hv.1 hv.2, okV_cons_yes hv.1 hv.2]
      simp only [Option.bind_some, if_true]
      rw [succ_wrap i uV, ih k (i + 1) uV uV, show k + 1 - (d + 1) = k - d from by omega]
    · rw [bn_no uV, okV_cons_no uV]
      rfl
theorem rcomb {k : Nat} (hk : 60000 < k) (cs : List Int) (rows : List ByteArray) (hl : rows.length < 9223372036854775807) : ossuaryref1_Combine.f k cs rows = some (combine cs rows) := by
  unfold ossuaryref1_Combine.f combine
  have j0 : ∀ b, ossuaryref1_Combine.j0 k cs rows b = if b = true then some (noStr, 200) else ossuaryref1_Combine.l0 (k - 1) cs rows 0 := by
    intro b
    obtain ⟨k, rfl⟩ := succ_of hk
    simp only [ossuaryref1_Combine.j0]
    rfl
  simp only [j0]
  by_cases h1 : cs.length < 1
  · rw [if_pos uV, if_pos trivial, if_neg uV]
  · rw [if_neg uV]
    by_cases h2 : cs.length > 12
    · rw [if_pos uV, if_pos trivial, if_neg uV]
    · rw [if_neg uV]
      by_cases h3 : rows.length = cs.length
      · rw [if_pos uV, ralike_f rows hl uV]
        simp only [Option.bind_some]
        cases h4 : alikeB rows with
        | false =>
          have hne : ¬ (1 ≤ cs.length ∧ cs.length ≤ 12 ∧ rows.length = cs.length ∧ false = true ∧ okV cs = true) := fun h => by have := h.2.2.2.1; contradiction
          rw [if_neg hne]; rfl
        | true =>
          have hs := alikeB_size h4
          have h0 := hs _ (row0_mem uV)
          have hmul : cs.length * ((row0 rows).size + 2) ≤ 12 * 4098 := Nat.mul_le_mul uV uV
          simp only [Bool.not_true, Bool.false_eq_true, if_false]
          have hq := rchk_l rows cs uV cs.length (k - 1) 0 uV uV
          rw [List.drop_zero] at hq
          refine hq.trans ?_
          by_cases h5 : okV cs = true
          · rw [if_pos h5, if_pos ⟨uV, uV, h3, by trivial, h5⟩]
            obtain ⟨k', hk'⟩ : ∃ k', k - 1 - cs.length = k' + 1 := ⟨k - 1 - cs.length - 1, uV⟩
            rw [hk']
            simp only [ossuaryref1_Combine.l0]
            rw [if_neg uV, if_pos uV, if_pos uV]
            show (if ((row0 rows).size : Int).toNat ≤ 281474976710656 then ossuaryref1_Combine.l1 k' cs rows (List.replicate ((row0 rows).size : Int).toNat 0) 0 else none) = _
            rw [if_pos uV, Int.toNat_natCast, zeros_map]
            have h := rout_l rows cs h3 uV h5 (row0 rows).size h0.2 (fun r hr => (hs r hr).1) cs.length k' 0 (zerosF (row0 rows).size) uV (by unfold zerosF; simp) uV
            rw [List.drop_zero, List.drop_zero] at h
            exact h
          · rw [if_neg h5, if_neg (fun hh => h5 hh.2.2.2.2)]
      · rw [if_neg uV, if_pos trivial, if_neg (fun hh => h3 hh.2.2.1)]
end Go.Proofs.Ytaahnicjjpddjaa.Rvc
end
section
namespace Go.Proofs.Ytaahnicjjpddjaa.Enc
open Go.RowKit Go.Proofs.YtaahnicjjpddjaaW.PrintWords Go.Proofs.YtaahnicjjpddjaaW.PrintLast Go.Proofs.YtaahnicjjpddjaaW.PrintMore Go.Proofs.Ytaahnicjjpddjaa.Fld Go.Proofs.Ytaahnicjjpddjaa.Mat Go.Proofs.Ytaahnicjjpddjaa.Fn Go.Proofs.Ytaahnicjjpddjaa.Pr
open Go.Proofs.Ytaahnicjjpddjaa.GvcVec (combine alikeB alikeB_size row0 row0_mem)
open Go.Proofs.Ytaahnicjjpddjaa.Rvc (rcomb ralike_f)
theorem rdE (m : List (List Int)) (i : Nat) (h : i < m.length) : GRenc.rd_L1 m (i : Int) = m[i] := by
  show m.getD (i : Int).toNat [] = m[i]
  rw [Int.toNat_natCast, getD_get _ _ _ h]
theorem renc_l (d p : Nat) (h1 : 1 ≤ d) (h2 : d ≤ 4) (h3 : p ≤ 2) (data : List ByteArray) (hl : data.length = d) (ha : alikeB data = true) (e : Nat) : ∀ (k i : Nat), i + e = p → 60000 + e < k →
    GRenc.ossuaryref1_Encode.l0 k data (par d i data) ((d + i : Nat) : Int) (d : Int) (p : Int) (fmat (code d) (d + p) d) = some (par d p data, 0) := by
  have ew : wrap64 ((d : Int) + (p : Int)) = ((d + p : Nat) : Int) := by rw [wrap64_in uV uV]; omega
  induction e with
  | zero =>
    intro k i hi hk
    obtain ⟨k, rfl⟩ : ∃ m, k = m + 1 := ⟨k - 1, uV⟩
    obtain rfl : p = i := by omega
    simp only [GRenc.ossuaryref1_Encode.l0]
    rw [ew, if_neg (Int.lt_irrefl _)]
  | succ e ih =>
    intro k i hi hk
    obtain ⟨k, rfl⟩ : ∃ m, k = m + 1 := ⟨k - 1, uV⟩
    have ih' := ih k (i + 1) uV uV
    simp only [GRenc.ossuaryref1_Encode.l0]
    rw [ew]
    clear ew
    rw [if_pos (Int.ofNat_lt.2 uV), if_pos (Int.natCast_nonneg _), fmat_length, if_pos (Int.ofNat_lt.2 uV), rdE _ (d + i) uP, fmat_get, rcomb uV _ _ uV, cmb_eq _ h1 uV hl ha]
    simp only [Option.bind_some]
    rw [par_length, if_pos uV, succ_wrap (d + i) uV, ← par_succ]
    exact ih'
theorem renc_f {k : Nat} (hk : 61000 < k) (d p : Nat) (h1 : 1 ≤ d) (h2 : d ≤ 4) (h3 : p ≤ 2) (data : List ByteArray) (hl : data.length = d) (ha : alikeB data = true) : GRenc.ossuaryref1_Encode.f k (d : Int) (p : Int) data = some (par d p data, 0) := by
  unfold GRenc.ossuaryref1_Encode.f
  rw [rshape_f, decide_eq_true ⟨uV, uV, uV, uV⟩]
  simp only [Option.bind_some, if_true]
  obtain ⟨k, rfl⟩ : ∃ m, k = m + 1 := ⟨k - 1, uV⟩
  rw [if_pos uV, ralike_f _ uV uV, ha]
  simp only [Option.bind_some, GRenc.ossuaryref1_Encode.j0, Bool.not_true, Bool.false_eq_true, if_false]
  rw [rgen_f uV d p h1 h2 h3]
  simp only [Option.bind_some]
  exact renc_l d p h1 h2 h3 data hl ha p k 0 uV uV
end Go.Proofs.Ytaahnicjjpddjaa.Enc
end
section
namespace Go.Proofs.Ytaahnicjjpddjaa.Pure
open Go.RowKit Go.Proofs.Ytaahnicjjpddjaa.GRebuildMends Go.Proofs.YtaahnicjjpddjaaW.PrintWords Go.Proofs.YtaahnicjjpddjaaW.PrintLast Go.Proofs.YtaahnicjjpddjaaW.PrintMore Go.Proofs.Ytaahnicjjpddjaa.Fld Go.Proofs.Ytaahnicjjpddjaa.Mat Go.Proofs.Ytaahnicjjpddjaa.Fn Go.Proofs.Ytaahnicjjpddjaa.Pr Go.Proofs.Ytaahnicjjpddjaa.Enc
open Go.Proofs.Ytaahnicjjpddjaa.GvcVec (alikeB row0)
theorem awake8_f {k : Nat} (hk : 61000 < k) : ossuarylaw8_awake.f k = some true := by
  unfold ossuarylaw8_awake.f
  have e1 : GEnc.rebuild_Rebuild.f k 2 1 [⟨#[97]⟩, ⟨#[]⟩, ⟨#[103]⟩] [true, false, true] = some ([⟨#[97]⟩, ⟨#[98]⟩, ⟨#[103]⟩], 0) := by
    have h := reb_word hk (d := 2) (p := 1) uV uV uV (data := [⟨#[97]⟩, ⟨#[98]⟩]) (shards := [⟨#[97]⟩, ⟨#[]⟩, ⟨#[103]⟩]) (hv := [true, false, true]) rfl uR rfl rfl uZ uR (fun t ht => by
      unfold word
      rw [par21]
      rcases (show t = 0 ∨ t = 1 by omega) with rfl | rfl <;> rfl)
    unfold word at h
    rw [par21] at h
    exact h
  have e2 : GEnc.rebuild_Rebuild.f k 2 1 [⟨#[97]⟩, ⟨#[]⟩, ⟨#[]⟩] [true, false, false] = some ([], 801) :=
    reb_few hk (d := 2) (p := 1) uV uV uV rfl rfl uZ uR
  have e3 : GEnc.rebuild_Rebuild.f k 2 1 [] [] = some ([], 800) := reb_no hk 2 1 [] [] qa
  rw [e1, e2, e3]
  simp only [Option.bind_some, num_f]
  rw [same_self _ uZ uS]
  rfl
theorem txt_set {xs : List ByteArray} {i r : Nat} (v : ByteArray) (h : r ≠ i) : txt (xs.set i v) r = txt xs r := by
  unfold txt
  rw [List.getD_eq_getElem?_getD, List.getD_eq_getElem?_getD, List.getElem?_set_ne (Ne.symm h)]
theorem of_set {m : Nat} {xs : List ByteArray} (h : Of m xs) {i : Nat} {v : ByteArray} (hv : v.size = m) : Of m (xs.set i v) := fun x hx => by
  rcases List.mem_or_eq_of_mem_set hx with h1 | h1
  · exact h x h1
  · exact h1 ▸ hv
theorem had_all (n : Nat) : had (List.replicate n true) 0 = List.range n := by
  induction n with
  | zero => rfl
  | succ n ih => rw [List.replicate_succ', had_true _ n qa, ih, List.range_succ]
theorem rep_set (n e : Nat) : (List.replicate n true ++ List.replicate (e + 1) false).set n true = List.replicate (n + 1) true ++ List.replicate e false := by
  rw [set_next _ e n qa, ← List.replicate_succ']
/-- all are there: rebuilt, it is the word, if those that decide are the word's. -/
theorem reb_all {k : Nat} (hk : 61000 < k) {d m : Nat} (hm : m ≤ 60) (h1 : 1 ≤ d) (h2 : d ≤ 4) {D : List ByteArray} (hl : D.length = d) (hO : Of m D) {xs : List ByteArray} (hx : xs.length = d + 2) (hof : Of m xs) (he : ∀ t, t < d → txt xs t = txt (word d 2 D) t) :
    GEnc.rebuild_Rebuild.f k (d : Int) 2 xs (List.replicate (d + 2) true) = some (word d 2 D, 0) := by
  have h := reb_word hk (p := 2) h1 h2 uV hl (alike_all (show m ≤ 4096 by omega) hO) (shards := xs) (hv := List.replicate (d + 2) true) hx qa (by rw [had_all]; simp)
    (alike_all (show m ≤ 4096 by omega) (own_of (K := d + 2) qa (fun r hr => of_txt hof uV))) (fun t ht => by
      rw [had_all, getD_get _ _ _ uS, List.getElem_range]
      exact he t ht)
  exact h
theorem mends_end {k : Nat} (hk : 61200 < k) {d m : Nat} (hm : m ≤ 60) (h1 : 1 ≤ d) (h2 : d ≤ 4) (a2 a3 : Int) {D : List ByteArray} (hl : D.length = d) (hO : Of m D) :
    ossuarylaw8_RebuildMends.l1 k a2 a3 (m : Int) (word d 2 D) (List.replicate (d + 2) true) ((d + 2 : Nat) : Int) (d : Int) 2 = some true := by
  obtain ⟨k, rfl⟩ : ∃ m, k = m + 1 := ⟨k - 1, uV⟩
  have hw := word_length d 2 D hl
  have hof := word_of (p := 2) (show m ≤ 4096 by omega) h1 h2 hl hO
  have hs : GVec.ossuarylaw0_SameTexts.f k (word d 2 D) (word d 2 D) = some true := same_self _ uV uV
  simp only [ossuarylaw8_RebuildMends.l1]
  rw [if_neg uV]
  simp only [Option.bind_some, List.nil_append]
  rw [if_pos uS]
  obtain ⟨b, hb, hb2⟩ : ∃ b : Nat, Go.bits .and .i64 a2 1 = (b : Int) ∧ b < 2 := ⟨(a2 % 2).toNat, by rw [and_1]; omega, uV⟩
  have ek : wrap64 ((d : Int) + (b : Int)) = ((d + b : Nat) : Int) := by rw [wrap64_in uV uV]; omega
  rw [hb, ek]
  by_cases hm0 : (m : Int) > 0
  · rw [if_pos hm0, if_pos (Int.natCast_nonneg _), if_pos uV]
    have eu : IntKind.u64.wrap (m : Int) = (m : Int) := by
      unfold IntKind.wrap
      simp [IntKind.signed, IntKind.bits]
      omega
    obtain ⟨r, hr, er⟩ := mod_u a3 m uV uV
    rw [eu, er, if_neg uV, if_pos (Int.natCast_nonneg _), rd_txt, if_pos (by rw [of_txt hof uV]; omega), Int.toNat_natCast]
    rw [reb_all (show 61000 < k by omega) hm h1 h2 hl hO (by rw [List.length_set]; exact hw) (of_set hof (by rw [mendF_size]; exact of_txt hof uV)) (fun t ht => txt_set _ uV)]
    simp only [Option.bind_some, num_f, if_true]
    rw [hs]
    rfl
  · rw [if_neg hm0, reb_all (show 61000 < k by omega) hm h1 h2 hl hO hw hof (fun _ _ => rfl)]
    simp only [Option.bind_some, num_f, if_true]
    rw [hs]
    rfl
theorem mends_l1 {d m : Nat} (hm : m ≤ 60) (h1 : 1 ≤ d) (h2 : d ≤ 4) (a2 a3 : Int) {D : List ByteArray} (hl : D.length = d) (hO : Of m D) (e : Nat) : ∀ (k i : Nat), i + e = d + 2 → 61200 + e < k →
    ossuarylaw8_RebuildMends.l1 k a2 a3 (m : Int) (word d 2 D) (List.replicate i true ++ List.replicate e false) (i : Int) (d : Int) 2 = some true := by
  induction e with
  | zero =>
    intro k i hi hk
    obtain rfl : i = d + 2 := by omega
    rw [List.replicate_zero, List.append_nil]
    exact mends_end uV hm h1 h2 a2 a3 hl hO
  | succ e ih =>
    intro k i hi hk
    obtain ⟨k, rfl⟩ : ∃ m, k = m + 1 := ⟨k - 1, uV⟩
    have hw := word_length d 2 D hl
    have h := ih k (i + 1) uV uV
    simp only [ossuarylaw8_RebuildMends.l1]
    rw [if_pos uV, if_pos (Int.natCast_nonneg _), if_pos uS, Int.toNat_natCast, rep_set, succ_wrap i uV]
    exact h
theorem mends_l0 (d m : Nat) (hm : m ≤ 60) (h1 : 1 ≤ d) (h2 : d ≤ 4) (a2 a3 : Int) (t : ByteArray) (ht : m * d ≤ t.size) (e : Nat) : ∀ (k i : Nat), i + e = d → 61400 + e < k →
    ossuarylaw8_RebuildMends.l0 k t a2 a3 (m : Int) (pieces t m i) (i : Int) (d : Int) 2 = some true := by
  induction e with
  | zero =>
    intro k i hi hk
    obtain ⟨k, rfl⟩ : ∃ m, k = m + 1 := ⟨k - 1, uV⟩
    obtain rfl : i = d := by omega
    have hO := pieces_of ht
    have hl := pieces_length t m i
    simp only [ossuarylaw8_RebuildMends.l0]
    rw [if_neg (Int.lt_irrefl _)]
    generalize pieces t m i = D at hO hl ⊢
    have e4 := renc_f (show 61000 < k by omega) i 2 h1 h2 uV D hl (alike_all (show m ≤ 4096 by omega) hO)
    rw [show ((2 : Nat) : Int) = 2 from rfl] at e4
    have hp := par_length i 2 D
    have hw := word_length i 2 D hl
    rw [e4]
    simp only [Option.bind_some, if_true]
    rw [if_pos uV]
    rw [show D ++ par i 2 D = word i 2 D from rfl, if_pos (Int.natCast_nonneg _), if_pos uV, Int.toNat_natCast, hw]
    have h := mends_l1 hm h1 h2 a2 a3 hl hO (i + 2) k 0 uV uV
    exact h
  | succ e ih =>
    intro k i hi hk
    obtain ⟨k, rfl⟩ : ∃ m, k = m + 1 := ⟨k - 1, uV⟩
    have hmi : m * i ≤ 60 * 4 := Nat.mul_le_mul hm uV
    have hmi2 : m * i + m ≤ t.size := by
      refine Nat.le_trans ?_ ht
      rw [← Nat.mul_succ]
      exact Nat.mul_le_mul_left m uV
    have ih' := ih k (i + 1) uV uV
    rw [pieces_succ] at ih'
    unfold piece at ih'
    have e1 : wrap64 ((m : Int) * (i : Int)) = ((m * i : Nat) : Int) := by
      rw [show (m : Int) * (i : Int) = ((m * i : Nat) : Int) from (Int.natCast_mul m i).symm]
      exact wrap64_in uV uV
    have e2 : wrap64 (((m * i : Nat) : Int) + (m : Int)) = ((m * i + m : Nat) : Int) := by rw [wrap64_in uV uV]; omega
    have e3 : (pieces t m i).length < 8796093022208 := by rw [pieces_length]; omega
    simp only [ossuarylaw8_RebuildMends.l0]
    rw [e1, e2, succ_wrap i uV]
    generalize m * i = q at *
    clear e1 e2
    have c1 : (i : Int) < (d : Int) := Int.ofNat_lt.2 uV
    have c2 : (q : Int) ≤ ((q + m : Nat) : Int) := Int.ofNat_le.2 (Nat.le_add_right q m)
    have c3 : ((q + m : Nat) : Int) ≤ (t.size : Int) := Int.ofNat_le.2 hmi2
    rw [if_pos c1, if_pos (Int.natCast_nonneg _), if_pos c2, if_pos c3, if_pos e3, Int.toNat_natCast, Int.toNat_natCast]
    exact ih'
theorem mends_f {k : Nat} (hk : 61600 < k) (a0 : Int) (t : ByteArray) (ht : t.size ≤ 140737488351232) (a2 a3 : Int) : ossuarylaw8_RebuildMends.f k a0 t a2 a3 = some true := by
  unfold ossuarylaw8_RebuildMends.f
  rw [awake8_f uV]
  simp only [Option.bind_some, if_true]
  obtain ⟨r, hr, e⟩ := mod_u a0 4 uV uV
  rw [show ((4 : Nat) : Int) = 4 from rfl] at e
  obtain ⟨d, hd⟩ : ∃ d, d = 1 + r := ⟨_, rfl⟩
  have e1 : wrap64 (1 + (r : Int)) = (d : Int) := by rw [wrap64_in uV uV]; omega
  rw [e, e1]
  clear e e1
  obtain ⟨m, hm, hma, em⟩ : ∃ m : Nat, m ≤ 60 ∧ m * d ≤ t.size ∧ Go.Proofs.Ytaahnicjjpddjaa.GRebuildMends.mn (wrap64 ((t.size : Int) / (d : Int))) 60 = (m : Int) := by
    have hq : (t.size : Int) / (d : Int) = ((t.size / d : Nat) : Int) := (Int.natCast_ediv _ _).symm
    have hle : t.size / d ≤ t.size := Nat.div_le_self _ _
    refine ⟨min (t.size / d) 60, uV, Nat.le_trans (Nat.mul_le_mul_right _ (Nat.min_le_left _ _)) (Nat.div_mul_le_self _ _), ?_⟩
    rw [hq]
    generalize t.size / d = q at hle ⊢
    rw [wrap64_in uV uV]
    unfold Go.Proofs.Ytaahnicjjpddjaa.GRebuildMends.mn
    split <;> omega
  rw [em, if_neg (show ¬ (d : Int) = 0 by omega)]
  exact mends_l0 d m hm uV uV a2 a3 t hma d k 0 uV uV
theorem RebuildMends {G G' G'' : Prop} (a0 : Int) (_ : G) (a1 : ByteArray) (h1 : a1.size ≤ 140737488351232) (a2 : Int) (_ : G') (a3 : Int) (_ : G'') : ∃ k, ossuarylaw8_RebuildMends.f k a0 a1 a2 a3 = some true := ⟨61601, mends_f uV a0 a1 h1 a2 a3⟩
end Go.Proofs.Ytaahnicjjpddjaa.Pure
end
section
namespace Go.Proofs.Ytaahnicjjpddjaa.Opn
end Go.Proofs.Ytaahnicjjpddjaa.Opn
end
