/- What the reference's sum of rows comes to: with enough rounds, for all numbers and rows. No condition. -/
import Derived.Test.YtaahnicjjpddjaaKRebuildsGvcVec
import Derived.Test.YtaahnicjjpddjaaKRebuildsGRef13
namespace Go.Proofs.Ytaahnicjjpddjaa.Rvc
open Go.RowKit Go.Proofs.Ytaahnicjjpddjaa.GRef Go.Proofs.Ytaahnicjjpddjaa.Fld Go.Proofs.Ytaahnicjjpddjaa.RefGf Go.Proofs.YtaahnicjjpddjaaW.PrintWords Go.Proofs.YtaahnicjjpddjaaW.PrintLast Go.Proofs.YtaahnicjjpddjaaW.PrintMore
open Go.Proofs.Ytaahnicjjpddjaa.GvcVec
theorem ralike_l (rows : List ByteArray) (hl : rows.length < 9223372036854775807) (d : Nat) : ∀ (k i : Nat), i + d = rows.length → d < k → ossuaryref1_alike.l0 k rows (i : Int) = some ((rows.drop i).all (sameB (row0 rows).size)) := by
  induction d with
  | zero =>
    intro k i hi hk
    obtain ⟨k, rfl⟩ := succ_of hk
    simp only [ossuaryref1_alike.l0]
    rw [if_neg uX, List.drop_of_length_le uX]; rfl
  | succ d ih =>
    intro k i hi hk
    obtain ⟨k, rfl⟩ := succ_of hk
    have hi2 : i < rows.length := by omega
    simp only [ossuaryref1_alike.l0]
    rw [if_pos uX, if_pos uX, if_pos uX, rdOf_nat rows i hi2, List.drop_eq_getElem_cons hi2, List.all_cons]
    show (if ((rows[i].size : Nat) : Int) = ((row0 rows).size : Int) then _ else _) = _
    by_cases h1 : rows[i].size = (row0 rows).size
    · rw [if_pos uX]
      by_cases h2 : rows[i].size ≤ 4096
      · rw [if_neg uX, succ_wrap' i uX, ih k (i + 1) uX uX]
        have e : sameB (row0 rows).size rows[i] = true := by unfold sameB; rw [decide_eq_true h1, decide_eq_true h2]; rfl
        rw [e, Bool.true_and]
      · rw [if_pos uX]
        have e : sameB (row0 rows).size rows[i] = false := by unfold sameB; rw [decide_eq_false h2, Bool.and_false]
        rw [e, Bool.false_and]
    · rw [if_neg uX]
      have e : sameB (row0 rows).size rows[i] = false := by unfold sameB; rw [decide_eq_false h1, Bool.false_and]
      rw [e, Bool.false_and]
theorem ralike_f {k : Nat} (rows : List ByteArray) (hl : rows.length < 9223372036854775807) (hk : rows.length < k) : ossuaryref1_alike.f k rows = some (alikeB rows) := by
  have h := ralike_l rows hl rows.length k 0 uX hk
  rw [List.drop_zero] at h
  exact h
theorem rin_l (rows : List ByteArray) (cs : List Int) (i : Nat) (hi : i < rows.length) (hc : i < cs.length) (c : F) (hcc : cs[i] = toI c) (xs : List F) (hx : xs.length < 5000) (hs : rows[i].size = xs.length) (e : Nat) :
    ∀ (k j : Nat), j + e = xs.length → e + 9 < k →
      ossuaryref1_Combine.l2 k cs rows ((updF c rows[i] j xs).map toI) (i : Int) (j : Int) =
        ossuaryref1_Combine.l1 (k - (e + 1)) cs rows ((addF c rows[i] xs).map toI) (wrap64 ((i : Int) + 1)) := by
  induction e with
  | zero =>
    intro k j hj hk
    obtain ⟨k, rfl⟩ := succ_of hk
    have hj2 : j = xs.length := by omega
    subst hj2
    have hl : (((updF c rows[i] xs.length xs).map toI).length : Int) = (xs.length : Int) := by rw [List.length_map, updF_length]
    simp only [ossuaryref1_Combine.l2]
    rw [hl, if_neg uX, updF_all]
    rfl
  | succ e ih =>
    intro k j hj hk
    obtain ⟨k, rfl⟩ := succ_of hk
    have hj2 : j < xs.length := by omega
    simp only [ossuaryref1_Combine.l2]
    have hl : (((updF c rows[i] j xs).map toI).length : Int) = (xs.length : Int) := by rw [List.length_map, updF_length]
    rw [hl, if_pos uX, if_pos uX, if_pos uX, if_pos uX, if_pos uX, rdOf_nat rows i hi, if_pos uX, bt_wrap, rd_nat cs i hc, hcc, rmul_f uX]
    simp only [Option.bind_some]
    rw [rd_map _ j (by rw [updF_length]; exact hj2), updF_get _ _ _ _ hj2, xor_mod, Int.toNat_natCast, set_map, updF_step _ _ _ _ hj2, succ_wrap j uX, ih k (j + 1) uX uX]
    rw [show k + 1 - (e + 1 + 1) = k - (e + 1) from by omega]
theorem rout_l (rows : List ByteArray) (cs : List Int) (hr : rows.length = cs.length) (hc : cs.length ≤ 12) (hok : okV cs = true) (m : Nat) (hm : m ≤ 4096) (hs : ∀ r ∈ rows, r.size = m) (d : Nat) :
    ∀ (k i : Nat) (xs : List F), i + d = cs.length → xs.length = m → d * (m + 2) + 20 < k →
      ossuaryref1_Combine.l1 k cs rows (xs.map toI) (i : Int) = some (strF (combL ((cs.drop i).map ofI) (rows.drop i) xs), 0) := by
  induction d with
  | zero =>
    intro k i xs hi hx hk
    obtain ⟨k, rfl⟩ := succ_of hk
    simp only [ossuaryref1_Combine.l1]
    rw [if_neg uX, List.drop_of_length_le uX]
    rfl
  | succ d ih =>
    intro k i xs hi hx hk
    obtain ⟨k, rfl⟩ := succ_of hk
    have hi2 : i < cs.length := by omega
    have hi3 : i < rows.length := by omega
    have hmul : (d + 1) * (m + 2) = d * (m + 2) + (m + 2) := Nat.succ_mul _ _
    have hv := List.all_eq_true.1 hok cs[i] (List.getElem_mem hi2)
    rw [Bool.and_eq_true] at hv
    obtain ⟨c, hcc⟩ := ex_toI (of_decide_eq_true hv.1) (of_decide_eq_true hv.2)
    simp only [ossuaryref1_Combine.l1]
    rw [if_pos uX, List.drop_eq_getElem_cons hi2, List.drop_eq_getElem_cons hi3, List.map_cons, combL]
    have e1 : ofI cs[i] = c := by rw [hcc, ofI_toI]
    rw [e1]
    have h := rin_l rows cs i hi3 hi2 c hcc xs uX (by rw [hs _ (List.getElem_mem hi3), hx]) xs.length k 0 uX uX
    rw [updF_zero] at h
    refine h.trans ?_
    rw [succ_wrap i uX]
    exact ih _ (i + 1) _ uX (by rw [addF_length]; exact hx) uX
theorem rchk_l (rows : List ByteArray) (cs : List Int) (hc : cs.length ≤ 12) (d : Nat) :
    ∀ (k i : Nat), i + d = cs.length → d < k →
      ossuaryref1_Combine.l0 k cs rows (i : Int) = if okV (cs.drop i) = true then ossuaryref1_Combine.l0 (k - d) cs rows (cs.length : Int) else some (noStr, 200) := by
  induction d with
  | zero =>
    intro k i hi hk
    rw [List.drop_of_length_le uX, show i = cs.length from by omega]
    rfl
  | succ d ih =>
    intro k i hi hk
    obtain ⟨k, rfl⟩ := succ_of hk
    have hi2 : i < cs.length := by omega
    conv => lhs; unfold ossuaryref1_Combine.l0
    rw [if_pos uX, if_pos uX, rd_nat cs i hi2, List.drop_eq_getElem_cons hi2]
    by_cases hv : 0 ≤ cs[i] ∧ cs[i] < 256
    · rw [bn_yes hv.1 hv.2, okV_cons_yes hv.1 hv.2]
      simp only [Option.bind_some, if_true]
      rw [succ_wrap i uX, ih k (i + 1) uX uX, show k + 1 - (d + 1) = k - d from by omega]
    · rw [bn_no uX, okV_cons_no uX]
      rfl
theorem rcomb {k : Nat} (hk : 60000 < k) (cs : List Int) (rows : List ByteArray) (hl : rows.length < 9223372036854775807) : ossuaryref1_Combine.f k cs rows = some (combine cs rows) := by
  unfold ossuaryref1_Combine.f combine
  have j0 : ∀ b, ossuaryref1_Combine.j0 k cs rows b = if b = true then some (noStr, 200) else ossuaryref1_Combine.l0 (k - 1) cs rows 0 := by
    intro b
    obtain ⟨k, rfl⟩ := succ_of hk
    simp only [ossuaryref1_Combine.j0]
    rfl
  simp only [j0]
  by_cases h1 : cs.length < 1
  · rw [if_pos uX, if_pos trivial, if_neg uX]
  · rw [if_neg uX]
    by_cases h2 : cs.length > 12
    · rw [if_pos uX, if_pos trivial, if_neg uX]
    · rw [if_neg uX]
      by_cases h3 : rows.length = cs.length
      · rw [if_pos uX, ralike_f rows hl uX]
        simp only [Option.bind_some]
        cases h4 : alikeB rows with
        | false =>
          have hne : ¬ (1 ≤ cs.length ∧ cs.length ≤ 12 ∧ rows.length = cs.length ∧ false = true ∧ okV cs = true) := fun h => by have := h.2.2.2.1; contradiction
          rw [if_neg hne]; rfl
        | true =>
          have hs := alikeB_size h4
          have h0 := hs _ (row0_mem uX)
          have hmul : cs.length * ((row0 rows).size + 2) ≤ 12 * 4098 := Nat.mul_le_mul uX uX
          simp only [Bool.not_true, Bool.false_eq_true, if_false]
          have hq := rchk_l rows cs uX cs.length (k - 1) 0 uX uX
          rw [List.drop_zero] at hq
          refine hq.trans ?_
          by_cases h5 : okV cs = true
          · rw [if_pos h5, if_pos ⟨uX, uX, h3, by trivial, h5⟩]
            obtain ⟨k', hk'⟩ : ∃ k', k - 1 - cs.length = k' + 1 := ⟨k - 1 - cs.length - 1, uX⟩
            rw [hk']
            simp only [ossuaryref1_Combine.l0]
            rw [if_neg uX, if_pos uX, if_pos uX]
            show (if ((row0 rows).size : Int).toNat ≤ 281474976710656 then ossuaryref1_Combine.l1 k' cs rows (List.replicate ((row0 rows).size : Int).toNat 0) 0 else none) = _
            rw [if_pos uX, Int.toNat_natCast, zeros_map]
            have h := rout_l rows cs h3 uX h5 (row0 rows).size h0.2 (fun r hr => (hs r hr).1) cs.length k' 0 (zerosF (row0 rows).size) uX (by unfold zerosF; simp) uX
            rw [List.drop_zero, List.drop_zero] at h
            exact h
          · rw [if_neg h5, if_neg (fun hh => h5 hh.2.2.2.2)]
      · rw [if_neg uX, if_pos trivial, if_neg (fun hh => h3 hh.2.2.1)]
end Go.Proofs.Ytaahnicjjpddjaa.Rvc
