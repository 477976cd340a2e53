/- Rows that are cut in two are combined part by part: at every input. -/
import Derived.Test.YthglackkhajapaaGCombineParts3
import Derived.Test.YthglackkhajapaaCombinePartsVecLaw
namespace Go.Proofs.Ythglackkhajapaa.Pure
open Go.RowKit Go.Proofs.Ythglackkhajapaa.GCombineParts Go.Proofs.YthglackkhajapaaW.PrintWords Go.Proofs.YthglackkhajapaaW.PrintLast Go.Proofs.YthglackkhajapaaW.PrintMore Go.Proofs.Ythglackkhajapaa.Fld Go.Proofs.Ythglackkhajapaa.CombinePartsGf Go.Proofs.Ythglackkhajapaa.CombinePartsVec

theorem cp_awake {k : Nat} (hk : 60000 < k) : ossuarylaw2_awake.f k = some true := by
  unfold ossuarylaw2_awake.f
  rw [vcomb hk _ _ (by decide), vcomb hk _ _ (by decide), vcomb hk _ _ (by decide)]
  have e1 : combine [1, 2] [⟨#[97, 98]⟩, ⟨#[128, 1]⟩] = (⟨#[124, 96]⟩, 0) := by decide +kernel
  have e2 : combine [1] [⟨#[97]⟩, ⟨#[98]⟩] = (noStr, 200) := by decide +kernel
  have e3 : combine [] [] = (noStr, 200) := by decide +kernel
  rw [e1, e2, e3]
  simp only [Option.bind_some, num_f]
  rw [if_pos (by decide +kernel), if_pos trivial, if_pos trivial]
  rfl

/-- byte j of a sum of rows hangs on the rows' bytes alone. -/
theorem acc_congr (cs : List F) : ∀ (rs ss : List ByteArray) (i j : Nat), rs.length = ss.length → (∀ t (h1 : t < rs.length) (h2 : t < ss.length), bF rs[t] i = bF ss[t] j) → accF cs rs i = accF cs ss j := by
  induction cs with
  | nil => intro rs ss i j _ _; simp only [accF]
  | cons c cs ih =>
    intro rs ss i j hl h
    cases rs with
    | nil =>
      cases ss with
      | nil => simp only [accF]
      | cons s ss => simp at hl
    | cons r rs =>
      cases ss with
      | nil => simp at hl
      | cons s ss =>
        simp only [accF]
        rw [ih rs ss i j (by simpa using hl) (fun t h1 h2 => h (t + 1) (by simpa using h1) (by simpa using h2))]
        have := h 0 (by simp) (by simp)
        simp only [List.getElem_cons_zero] at this
        rw [this]

theorem parts_sum (cs : List F) (rows : List ByteArray) (m c : Nat) (hc : c ≤ m) (hm : ∀ r ∈ rows, r.size = m) :
    sumF cs rows m = sumF cs (rows.map fun r => r.extract 0 c) c ++ sumF cs (rows.map fun r => r.extract c r.size) (m - c) := by
  apply ba_bytes
  · rw [ByteArray.size_append, sumF_size, sumF_size, sumF_size]; omega
  · intro j hj
    rw [sumF_size] at hj
    have hap : ∀ (s t : ByteArray) (j : Nat), bF (s ++ t) j = if j < s.size then bF s j else bF t (j - s.size) := by
      intro s t j
      by_cases h1 : j < s.size
      · rw [if_pos h1]
        unfold bF
        rw [dif_pos (by rw [ByteArray.size_append]; omega), dif_pos h1, ByteArray.getElem_append_left h1]
      · rw [if_neg h1]
        unfold bF
        by_cases h2 : j - s.size < t.size
        · rw [dif_pos (by rw [ByteArray.size_append]; omega), dif_pos h2, ByteArray.getElem_append_right (by omega)]
        · rw [dif_neg (by rw [ByteArray.size_append]; omega), dif_neg h2]
    rw [sumF_byte _ _ _ _ hj, hap, sumF_size]
    by_cases h : j < c
    · rw [if_pos h, sumF_byte _ _ _ _ h]
      refine acc_congr cs _ _ _ _ (by rw [List.length_map]) (fun t h1 h2 => ?_)
      rw [List.getElem_map, bF_extract _ _ _ _ (by rw [hm _ (List.getElem_mem h1)]; omega) (by omega), Nat.zero_add]
    · rw [if_neg h, sumF_byte _ _ _ _ (by omega)]
      refine acc_congr cs _ _ _ _ (by rw [List.length_map]) (fun t h1 h2 => ?_)
      have hs := hm _ (List.getElem_mem h1)
      rw [List.getElem_map, bF_extract _ _ _ _ (Nat.le_refl _) (by omega), show c + (j - c) = j from by omega]

theorem part_l (cs : List F) (rows : List ByteArray) (m c : Nat) (hc : c ≤ m) (hm4 : m ≤ 4096) (hm : ∀ r ∈ rows, r.size = m) (h1 : 1 ≤ cs.length) (h2 : cs.length ≤ 12) (h3 : rows.length = cs.length) (d : Nat) :
    ∀ (k i : Nat), i + d = rows.length → 60100 + d < k →
      ossuarylaw2_CombineParts.l0 k (cs.map toI) rows (sumF cs rows m) (c : Int) ((rows.take i).map fun r => r.extract 0 c) ((rows.take i).map fun r => r.extract c r.size) (i : Int) = some true := by
  induction d with
  | zero =>
    intro k i hi hk
    obtain ⟨k, rfl⟩ := succ_of hk
    simp only [ossuarylaw2_CombineParts.l0]
    rw [if_neg (by omega), List.take_of_length_le (by omega), vcomb (by omega) _ _ (by rw [List.length_map]; omega), vcomb (by omega) _ _ (by rw [List.length_map]; omega)]
    rw [combine_yes c h1 h2 (by rw [List.length_map]; omega) (by omega) (by intro r hr; obtain ⟨s, hs, rfl⟩ := List.mem_map.1 hr; rw [ByteArray.size_extract, hm s hs]; omega)]
    rw [combine_yes (m - c) h1 h2 (by rw [List.length_map]; omega) (by omega) (by intro r hr; obtain ⟨s, hs, rfl⟩ := List.mem_map.1 hr; rw [ByteArray.size_extract, hm s hs]; omega)]
    simp only [Option.bind_some, num_f, if_true]
    rw [if_pos (by rw [sumF_size, sumF_size]; omega), ← parts_sum cs rows m c hc hm]
    simp
  | succ d ih =>
    intro k i hi hk
    obtain ⟨k, rfl⟩ := succ_of hk
    have hi2 : i < rows.length := by omega
    have hs := hm _ (List.getElem_mem hi2)
    simp only [ossuarylaw2_CombineParts.l0]
    rw [if_pos (by omega), if_pos (by omega), rdOf_nat rows i hi2, if_neg (by omega), if_pos (by omega), if_pos (by omega), if_pos (by rw [List.length_map, List.length_take]; omega), if_pos (by rw [List.length_map, List.length_take]; omega), Int.toNat_natCast, succ_wrap i (by omega)]
    have h := ih k (i + 1) (by omega) (by omega)
    rw [List.take_succ_eq_append_getElem hi2, List.map_append, List.map_append] at h
    exact h

theorem CombineParts (cs : List Int) (_ : ∀ x ∈ cs, (Lit.int .i64 x).wf = true) (_ : cs.length * 8 ≤ 140737488351232) (rows : List ByteArray) (_ : ∀ x ∈ rows, x.size ≤ 140737488351232) (hr : rows.length * 16 ≤ 140737488351232) (a : Int) (_ : (Lit.int .i64 a).wf = true) :
    ∃ k, ossuarylaw2_CombineParts.f k cs rows a = some true := by
  obtain ⟨k, hk⟩ : ∃ k, 70000 < k := ⟨70001, by omega⟩
  refine ⟨k, ?_⟩
  unfold ossuarylaw2_CombineParts.f
  rw [cp_awake (by omega), vcomb (by omega) _ _ (by omega)]
  simp only [Option.bind_some, if_true, num_f]
  obtain ⟨k, rfl⟩ := succ_of hk
  by_cases hv : 1 ≤ cs.length ∧ cs.length ≤ 12 ∧ rows.length = cs.length ∧ alikeB rows = true ∧ okV cs = true
  · obtain ⟨h1, h2, h3, h4, h5⟩ := hv
    obtain ⟨m, hm, hm4⟩ : ∃ m, (row0 rows).size = m ∧ m ≤ 4096 := ⟨_, rfl, (alikeB_size h4 _ (row0_mem (by omega))).2⟩
    have hall : ∀ r ∈ rows, r.size = m := fun r hr => by rw [← hm]; exact (alikeB_size h4 r hr).1
    obtain ⟨fs, rfl⟩ : ∃ fs : List F, cs = fs.map toI := by
      refine ⟨cs.map ofI, ?_⟩
      rw [List.map_map]
      have : ∀ c ∈ cs, (toI ∘ ofI) c = c := by
        intro c hc
        have h6 := List.all_eq_true.1 h5 c hc
        rw [Bool.and_eq_true] at h6
        exact toI_ofI (of_decide_eq_true h6.1) (of_decide_eq_true h6.2)
      rw [List.map_congr_left this, List.map_id']
    rw [List.length_map] at h1 h2 h3
    rw [combine_yes m h1 h2 h3 hm4 hall]
    simp only [if_true]
    rw [decide_eq_false (by omega)]
    simp only [ossuarylaw2_CombineParts.j0]
    rw [if_neg (by decide), if_pos (by omega)]
    have hz : (((rdOf ByteArray.empty rows 0).size : Nat) : Int) = (m : Int) := by rw [← hm]; rfl
    rw [hz, wrap64_in (n := (m : Int) + 1) (by omega) (by omega)]
    have hu : IntKind.u64.wrap ((m : Int) + 1) = (m : Int) + 1 := by simp [IntKind.wrap, IntKind.bits, IntKind.signed]; omega
    have h0 : 0 ≤ IntKind.u64.wrap a := by
      simp [IntKind.wrap, IntKind.bits, IntKind.signed]
      exact Int.emod_nonneg _ (by decide)
    rw [hu, if_neg (by omega), Int.tmod_eq_emod_of_nonneg h0]
    have h6 := Int.emod_nonneg (IntKind.u64.wrap a) (show (m : Int) + 1 ≠ 0 by omega)
    have h7 := Int.emod_lt_of_pos (IntKind.u64.wrap a) (show 0 < (m : Int) + 1 by omega)
    rw [wrap64_in (by omega) (by omega)]
    obtain ⟨c, hc⟩ := Int.eq_ofNat_of_zero_le h6
    rw [hc]
    exact part_l fs rows m c (by omega) hm4 hall h1 h2 h3 rows.length k 0 (by omega) (by omega)
  · have e : combine cs rows = (noStr, 200) := by unfold combine; rw [if_neg hv]
    rw [e]
    rw [if_neg (by decide)]
    simp only [ossuarylaw2_CombineParts.j0]
    rw [if_pos trivial]
    decide +kernel

end Go.Proofs.Ythglackkhajapaa.Pure
