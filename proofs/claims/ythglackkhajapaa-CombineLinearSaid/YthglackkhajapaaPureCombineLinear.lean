/- Sums of rows that are sums are the sum of sums; with 1 alone a sum is that row: at every input. -/
import Derived.Test.YthglackkhajapaaGCombineLinear3
import Derived.Test.YthglackkhajapaaCombineLinearVecLaw
namespace Go.Proofs.Ythglackkhajapaa.Pure
open Go.RowKit Go.Proofs.Ythglackkhajapaa.GCombineLinear Go.Proofs.YthglackkhajapaaW.PrintWords Go.Proofs.YthglackkhajapaaW.PrintLast Go.Proofs.YthglackkhajapaaW.PrintMore Go.Proofs.Ythglackkhajapaa.Fld Go.Proofs.Ythglackkhajapaa.CombineLinearGf Go.Proofs.Ythglackkhajapaa.CombineLinearVec

theorem cl_awake {k : Nat} (hk : 60000 < k) : ossuarylaw2_awake.f k = some true := by
  unfold ossuarylaw2_awake.f
  rw [vcomb hk _ _ (by decide), vcomb hk _ _ (by decide), vcomb hk _ _ (by decide)]
  have e1 : combine [1, 2] [⟨#[97, 98]⟩, ⟨#[128, 1]⟩] = (⟨#[124, 96]⟩, 0) := by decide +kernel
  have e2 : combine [1] [⟨#[97]⟩, ⟨#[98]⟩] = (noStr, 200) := by decide +kernel
  have e3 : combine [] [] = (noStr, 200) := by decide +kernel
  rw [e1, e2, e3]
  simp only [Option.bind_some, num_f]
  rw [if_pos (by decide +kernel), if_pos trivial, if_pos trivial]
  rfl

theorem fold_one (n : Nat) : ∀ i, i < n → ((List.replicate n (0#8 : F)).set i 1#8).foldr (fun c s => c ^^^ s) 0#8 = 1#8 := by
  have hz : ∀ n, (List.replicate n (0#8 : F)).foldr (fun c s => c ^^^ s) 0#8 = 0#8 := by
    intro n
    induction n with
    | zero => rfl
    | succ n ih => rw [List.replicate_succ, List.foldr_cons, ih]; rfl
  induction n with
  | zero => intro i h; omega
  | succ n ih =>
    intro i h
    rw [List.replicate_succ]
    cases i with
    | zero => rw [List.set_cons_zero, List.foldr_cons, hz]; rfl
    | succ i => rw [List.set_cons_succ, List.foldr_cons, ih i (by omega)]; rfl

theorem two_comb {k : Nat} (hk : 60000 < k) (a b : ByteArray) (m : Nat) (hm : m ≤ 100) (ha : a.size = m) (hb : b.size = m) :
    vec_Combine.f k [1, 1] [a, b] = some (sumF [1#8, 1#8] [a, b] m, 0) := by
  rw [vcomb hk _ _ (by simp)]
  have h := combine_yes (cs := [1#8, 1#8]) (rows := [a, b]) m (by simp) (by simp) (by simp) (by omega) (by intro r hr; simp at hr; rcases hr with rfl | rfl <;> assumption)
  exact congrArg some h

theorem acc_two (a b : ByteArray) (j : Nat) : accF [1#8, 1#8] [a, b] j = bF a j ^^^ bF b j := by
  simp only [accF, one_fm, BitVec.xor_zero]

theorem const_comb {k : Nat} (hk : 60000 < k) (ds : List F) (a : ByteArray) (m : Nat) (hm : m ≤ 100) (ha : a.size = m) (h1 : 1 ≤ ds.length) (h2 : ds.length ≤ 8) :
    vec_Combine.f k (ds.map toI) (ds.map fun _ => a) = some (sumF ds (ds.map fun _ => a) m, 0) := by
  rw [vcomb hk _ _ (by rw [List.length_map]; omega)]
  exact congrArg some (combine_yes m h1 (by omega) (by rw [List.length_map]) (by omega) (by intro r hr; obtain ⟨_, _, rfl⟩ := List.mem_map.1 hr; exact ha))

theorem set_one (ds : List F) (i : Nat) : (ds.map fun _ => (0 : Int)).set i 1 = ((List.replicate ds.length (0#8 : F)).set i 1#8).map toI := by
  rw [List.map_set, List.map_replicate, List.map_const']; rfl

theorem lin_l (cs : List Int) (a b : ByteArray) (m : Nat) (hm : m ≤ 100) (ha : a.size = m) (hb : b.size = m) (K : Nat) (hK1 : 1 ≤ K) (hK : K ≤ 8) (i : Nat) (hi : i < K) (d : Nat) :
    ∀ (k : Nat) (ds : List F), ds.length + d = K → 60100 + 2 * d < k →
      ossuarylaw2_CombineLinear.l0 k cs a b (K : Int) (ds.map fun _ => a) (ds.map fun _ => b) (ds.map fun _ => sumF [1#8, 1#8] [a, b] m) (ds.map toI) (ds.map fun _ => 0) (i : Int) (ds.length : Int) = some true := by
  induction d with
  | zero =>
    intro k ds hd hk
    obtain ⟨k, rfl⟩ := succ_of hk
    have hl : ds.length = K := by omega
    have hw : (sumF [1#8, 1#8] [a, b] m).size = m := sumF_size _ _ _
    have hx : (sumF ds (ds.map fun _ => a) m).size = m := sumF_size _ _ _
    have hy : (sumF ds (ds.map fun _ => b) m).size = m := sumF_size _ _ _
    have ho : vec_Combine.f k ((ds.map fun _ => (0 : Int)).set i 1) (ds.map fun _ => a) = some (sumF ((List.replicate ds.length (0#8 : F)).set i 1#8) (ds.map fun _ => a) m, 0) := by
      have h := const_comb (k := k) (by omega) ((List.replicate ds.length (0#8 : F)).set i 1#8) a m hm ha (by simp; omega) (by simp; omega)
      rw [set_one]
      have e : (((List.replicate ds.length (0#8 : F)).set i 1#8).map fun _ => a) = ds.map fun _ => a := by rw [List.map_const', List.map_const']; simp
      rw [e] at h
      exact h
    simp only [ossuarylaw2_CombineLinear.l0]
    rw [if_neg (by omega), if_pos (by omega), if_pos (by rw [List.length_map]; omega), Int.toNat_natCast, const_comb (by omega) ds a m hm ha (by omega) (by omega), const_comb (by omega) ds b m hm hb (by omega) (by omega), const_comb (by omega) ds _ m hm hw (by omega) (by omega), ho]
    simp only [Option.bind_some]
    rw [two_comb (by omega) _ _ m hm hx hy]
    simp only [Option.bind_some, num_f, if_true]
    have e1 : sumF [1#8, 1#8] [sumF ds (ds.map fun _ => a) m, sumF ds (ds.map fun _ => b) m] m = sumF ds (ds.map fun _ => sumF [1#8, 1#8] [a, b] m) m := by
      apply ba_bytes
      · rw [sumF_size, sumF_size]
      · intro j hj
        rw [sumF_size] at hj
        rw [sumF_byte _ _ _ _ hj, sumF_byte _ _ _ _ hj, acc_two, sumF_byte _ _ _ _ hj, sumF_byte _ _ _ _ hj, acc_const, acc_const, acc_const, sumF_byte _ _ _ _ hj, acc_two, fm_xor]
    have e2 : sumF ((List.replicate ds.length (0#8 : F)).set i 1#8) (ds.map fun _ => a) m = a := by
      apply ba_bytes
      · rw [sumF_size, ha]
      · intro j hj
        rw [sumF_size] at hj
        rw [sumF_byte _ _ _ _ hj]
        have e : (ds.map fun _ => a) = (((List.replicate ds.length (0#8 : F)).set i 1#8).map fun _ => a) := by rw [List.map_const', List.map_const']; simp
        rw [e, acc_const, fold_one _ _ (by omega), one_fm]
    rw [e1, e2, if_pos rfl]
    simp
  | succ d ih =>
    intro k ds hd hk
    obtain ⟨k, rfl⟩ := succ_of hk
    obtain ⟨k, rfl⟩ : ∃ m, k = m + 1 := ⟨k - 1, by omega⟩
    have hd : ∃ v : F, (if (ds.length : Int) < (cs.length : Int) then (if 0 ≤ (ds.length : Int) then (ossuarylaw2_CombineLinear.j1 (k + 1) cs a b (K : Int) (ds.map fun _ => a) (ds.map fun _ => b) (ds.map fun _ => sumF [1#8, 1#8] [a, b] m) (ds.map toI) (ds.map fun _ => 0) (i : Int) (ds.length : Int) (Go.bits .and .i64 (rd cs (ds.length : Int)) 255)) else (none)) else (ossuarylaw2_CombineLinear.j1 (k + 1) cs a b (K : Int) (ds.map fun _ => a) (ds.map fun _ => b) (ds.map fun _ => sumF [1#8, 1#8] [a, b] m) (ds.map toI) (ds.map fun _ => 0) (i : Int) (ds.length : Int) 0)) =
        ossuarylaw2_CombineLinear.j1 (k + 1) cs a b (K : Int) (ds.map fun _ => a) (ds.map fun _ => b) (ds.map fun _ => sumF [1#8, 1#8] [a, b] m) (ds.map toI) (ds.map fun _ => 0) (i : Int) (ds.length : Int) (toI v) := by
      by_cases h : (ds.length : Int) < (cs.length : Int)
      · obtain ⟨v, hv⟩ := ex_toI (n := rd cs (ds.length : Int) % 256) (by omega) (by omega)
        refine ⟨v, ?_⟩
        rw [if_pos h, if_pos (by omega), and_255, hv]
      · refine ⟨0#8, ?_⟩
        rw [if_neg h]; rfl
    obtain ⟨v, hv⟩ := hd
    simp only [ossuarylaw2_CombineLinear.l0] at hv ⊢
    rw [if_pos (by omega)]
    refine hv.trans ?_
    simp only [ossuarylaw2_CombineLinear.j1]
    rw [if_pos (by rw [List.length_map]; omega), if_pos (by rw [List.length_map]; omega), if_pos (by rw [List.length_map]; omega), if_pos (by rw [List.length_map]; omega), two_comb (by omega) a b m hm ha hb]
    simp only [Option.bind_some, num_f, if_true]
    rw [if_pos (by rw [List.length_map]; omega), succ_wrap _ (by omega)]
    have h := ih k (ds ++ [v]) (by simp; omega) (by omega)
    simp only [List.map_append, List.map_cons, List.map_nil, List.length_append, List.length_cons, List.length_nil] at h
    exact h

theorem mn_le (x y : Int) : mn x y ≤ x ∧ mn x y ≤ y := by unfold mn; split <;> omega
theorem mn_nat (x y : Int) (hx : 0 ≤ x) (hy : 0 ≤ y) : 0 ≤ mn x y := by unfold mn; split <;> omega

theorem CombineLinear : ossuarylaw2_CombineLinear.Pure := by
  intro cs a b at_ hl hl8 _ ha hb _
  obtain ⟨k, hk⟩ : ∃ k, 70000 < k := ⟨70001, by omega⟩
  refine ⟨k, ?_⟩
  unfold ossuarylaw2_CombineLinear.f
  rw [cl_awake (by omega)]
  simp only [Option.bind_some, if_true]
  have h1 := mn_le (a.size : Int) (b.size : Int)
  have h2 := mn_le (mn (a.size : Int) (b.size : Int)) 100
  have h3 := mn_nat (mn (a.size : Int) (b.size : Int)) 100 (mn_nat _ _ (by omega) (by omega)) (by omega)
  obtain ⟨m, hm⟩ := Int.eq_ofNat_of_zero_le h3
  rw [hm] at h2 ⊢
  rw [if_pos (by omega), if_pos (by omega), if_pos (by omega), and_7]
  obtain ⟨K, hK⟩ := Int.eq_ofNat_of_zero_le (a := 1 + (cs.length : Int) % 8) (by omega)
  rw [wrap64_in (n := 1 + (cs.length : Int) % 8) (by omega) (by omega), hK]
  have hu : IntKind.u64.wrap (K : Int) = (K : Int) := by simp [IntKind.wrap, IntKind.bits, IntKind.signed]; omega
  rw [hu, if_neg (by omega)]
  have h0 : 0 ≤ IntKind.u64.wrap at_ := by
    simp [IntKind.wrap, IntKind.bits, IntKind.signed]
    exact Int.emod_nonneg _ (by decide)
  rw [Int.tmod_eq_emod_of_nonneg h0]
  have h5 := Int.emod_nonneg (IntKind.u64.wrap at_) (show (K : Int) ≠ 0 by omega)
  have h6 := Int.emod_lt_of_pos (IntKind.u64.wrap at_) (show 0 < (K : Int) by omega)
  rw [wrap64_in (by omega) (by omega)]
  obtain ⟨i, hi⟩ := Int.eq_ofNat_of_zero_le h5
  rw [hi, Int.toNat_natCast]
  have h := lin_l cs (a.extract 0 m) (b.extract 0 m) m (by omega) (by rw [ByteArray.size_extract]; omega) (by rw [ByteArray.size_extract]; omega) K (by omega) (by omega) i (by omega) K k [] (by simp) (by omega)
  exact h

/-- The same, its facts in the row's order. -/
theorem CombineLinearRow (cs : List Int) (g : ∀ x ∈ cs, (Lit.int .i64 x).wf = true) (s : cs.length * 8 ≤ 140737488351232) (a : ByteArray) (wa : a.size ≤ 140737488351232) (b : ByteArray) (wb : b.size ≤ 140737488351232) (c : Int) (wc : (Lit.int .i64 c).wf = true) :
    ∃ k, ossuarylaw2_CombineLinear.f k cs a b c = some true :=
  CombineLinear cs a b c (by unfold maxLen; omega) s g wa wb wc

end Go.Proofs.Ythglackkhajapaa.Pure
