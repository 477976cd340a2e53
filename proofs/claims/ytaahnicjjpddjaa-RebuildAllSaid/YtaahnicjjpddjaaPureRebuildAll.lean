/- Whatever shards are gone, as many as there is parity, all are as they were: at every input. -/
import Derived.Test.YtaahnicjjpddjaaGRebuildAll2
import Derived.Test.YtaahnicjjpddjaaWordLaw
namespace Go.Proofs.Ytaahnicjjpddjaa.Pure
open Go.RowKit Go.Proofs.Ytaahnicjjpddjaa.GRebuildAll Go.Proofs.YtaahnicjjpddjaaW.PrintWords Go.Proofs.YtaahnicjjpddjaaW.PrintLast Go.Proofs.YtaahnicjjpddjaaW.PrintMore Go.Proofs.Ytaahnicjjpddjaa.Fld Go.Proofs.Ytaahnicjjpddjaa.Mat Go.Proofs.Ytaahnicjjpddjaa.Fn Go.Proofs.Ytaahnicjjpddjaa.Pr Go.Proofs.Ytaahnicjjpddjaa.Enc
open Go.Proofs.Ytaahnicjjpddjaa.GvcVec (alikeB)

theorem awake8_f {k : Nat} (hk : 61000 < k) : ossuarylaw8_awake.f k = some true := by
  unfold ossuarylaw8_awake.f
  have e1 : GEnc.rebuild_Rebuild.f k 2 1 [⟨#[97]⟩, ⟨#[]⟩, ⟨#[103]⟩] [true, false, true] = some ([⟨#[97]⟩, ⟨#[98]⟩, ⟨#[103]⟩], 0) := by
    have h := reb_word hk (d := 2) (p := 1) (by omega) (by omega) (by omega) (data := [⟨#[97]⟩, ⟨#[98]⟩]) (shards := [⟨#[97]⟩, ⟨#[]⟩, ⟨#[103]⟩]) (hv := [true, false, true]) rfl (by decide +kernel) rfl rfl (by decide) (by decide +kernel) (fun t ht => by
      unfold word
      rw [par21]
      rcases (show t = 0 ∨ t = 1 by omega) with rfl | rfl <;> rfl)
    unfold word at h
    rw [par21] at h
    exact h
  have e2 : GEnc.rebuild_Rebuild.f k 2 1 [⟨#[97]⟩, ⟨#[]⟩, ⟨#[]⟩] [true, false, false] = some ([], 801) :=
    reb_few hk (d := 2) (p := 1) (by omega) (by omega) (by omega) rfl rfl (by decide) (by decide +kernel)
  have e3 : GEnc.rebuild_Rebuild.f k 2 1 [] [] = some ([], 800) := reb_no hk 2 1 [] [] (by simp)
  rw [e1, e2, e3]
  simp only [Option.bind_some, num_f]
  rw [same_self _ (by decide) (by simp; omega)]
  rfl


/-- how many are gone. -/
theorem had_set (hv : List Bool) : ∀ (i s : Nat), (had hv s).length ≤ (had (hv.set i false) s).length + 1 := by
  induction hv with
  | nil => intro i s; simp [had]
  | cons b bs ih =>
    intro i s
    cases i with
    | zero =>
      rw [List.set_cons_zero]
      simp only [had]
      rw [if_neg (show ¬ (false = true) by decide)]
      split
      · rw [List.length_cons]; exact Nat.le_refl _
      · omega
    | succ i =>
      rw [List.set_cons_succ, had, had]
      have := ih i (s + 1)
      split
      · rw [List.length_cons, List.length_cons]; omega
      · exact this
theorem had_all (n s : Nat) : (had (List.replicate n true) s).length = n := by
  induction n generalizing s with
  | zero => rfl
  | succ n ih => rw [List.replicate_succ, had, if_pos rfl, List.length_cons, ih]
/-- what stands where something is there is as it was. -/
structure Left (d p i : Nat) (W left : List ByteArray) (hv : List Bool) : Prop where
  l1 : left.length = d + p
  l2 : hv.length = d + p
  many : d + p ≤ (had hv 0).length + i
  same : ∀ r, r < d + p → hv[r]? = some true → txt left r = txt W r
theorem Left.gone {d p i : Nat} {W left : List ByteArray} {hv : List Bool} (h : Left d p i W left hv) (q : Nat) (x : ByteArray) : Left d p (i + 1) W (left.set q x) (hv.set q false) := by
  refine ⟨by rw [List.length_set, h.l1], by rw [List.length_set, h.l2], ?_, fun r hr e => ?_⟩
  · have := had_set hv q 0
    have := h.many
    omega
  · have hne : q ≠ r := by
      rintro rfl
      rw [List.getElem?_set_self (by rw [h.l2]; exact hr)] at e
      cases e
    rw [List.getElem?_set_ne hne] at e
    rw [← h.same r hr e]
    unfold txt
    rw [List.getD_eq_getElem?_getD, List.getD_eq_getElem?_getD, List.getElem?_set_ne hne]
theorem all_end {k : Nat} (hk : 61000 < k) {d p i : Nat} (h1 : 1 ≤ d) (h2 : d ≤ 4) (h3 : p ≤ 2) (hi : i ≤ p) {data left : List ByteArray} {hv : List Bool} (hl : data.length = d) (ha : alikeB data = true) (h : Left d p i (word d p data) left hv) :
    ((GEnc.rebuild_Rebuild.f k (d : Int) (p : Int) left hv).bind fun bt170 => ((GBase.ossuarylaw0_Num.f bt170.2).bind fun t174 => (if t174 = 0 then ((GVec.ossuarylaw0_SameTexts.f k bt170.1 (word d p data)).bind fun t175 => (some t175)) else (some false)))) = some true := by
  have hm := (GvcVec.alikeB_size ha _ (GvcVec.row0_mem (by omega))).2
  have hmany := h.many
  have hs : ∀ r ∈ had hv 0, txt left r = txt (word d p data) r := fun r hr => by
    obtain ⟨_, h4, h5⟩ := had_lo hv 0 r hr
    exact h.same r (by have := h.l2; omega) h5
  have hoa : alikeB (ownOf left hv) = true := alike_all hm (fun x hx => by
    unfold ownOf at hx
    obtain ⟨r, hr, rfl⟩ := List.mem_map.1 hx
    rw [hs r hr]
    have := (had_lo hv 0 r hr).2.1
    exact word_size h1 h2 hl ha (by have := h.l2; omega))
  rw [reb_word hk h1 h2 h3 hl ha h.l1 h.l2 (by omega) hoa (fun t ht => by
    have ht' : t < (had hv 0).length := by omega
    rw [getD_get _ _ _ ht']
    exact hs _ (List.getElem_mem ht'))]
  simp only [Option.bind_some, num_f, if_true]
  have hw := word_length d p data hl
  rw [same_self _ (by omega) (by omega)]
  rfl
theorem gone_l (d p : Nat) (h1 : 1 ≤ d) (h2 : d ≤ 4) (h3 : p ≤ 2) {data : List ByteArray} (hl : data.length = d) (ha : alikeB data = true) (gone : List Int) (e : Nat) : ∀ (k i : Nat) (left : List ByteArray) (hv : List Bool), i + e = p → 61001 + e < k → Left d p i (word d p data) left hv →
    ossuarylaw8_RebuildAll.l2 k gone (word d p data) left hv (i : Int) (d : Int) (p : Int) = some true := by
  induction e with
  | zero =>
    intro k i left hv hi hk h
    obtain ⟨k, rfl⟩ : ∃ m, k = m + 1 := ⟨k - 1, by omega⟩
    simp only [ossuarylaw8_RebuildAll.l2]
    by_cases hg : (i : Int) < (gone.length : Int)
    · rw [if_pos hg, if_neg (by omega)]
      exact all_end (by omega) h1 h2 h3 (by omega) hl ha h
    · rw [if_neg hg]
      exact all_end (by omega) h1 h2 h3 (by omega) hl ha h
  | succ e ih =>
    intro k i left hv hi hk h
    obtain ⟨k, rfl⟩ : ∃ m, k = m + 1 := ⟨k - 1, by omega⟩
    simp only [ossuarylaw8_RebuildAll.l2]
    have hw := word_length d p data hl
    have hl1 := h.l1
    have hl2 := h.l2
    by_cases hg : (i : Int) < (gone.length : Int)
    · have hu : IntKind.u64.wrap (((word d p data).length : Nat) : Int) = ((d + p : Nat) : Int) := by
        rw [hw]
        show ((d + p : Nat) : Int) % 18446744073709551616 = _
        omega
      obtain ⟨q, hq, eq⟩ := mod_u (rd gone (i : Int)) (d + p) (by omega) (by omega)
      rw [if_pos hg, if_pos (by omega), if_pos (by omega), hu, if_neg (by omega), eq, if_pos (by omega), if_pos (by omega), if_pos (by omega), Int.toNat_natCast, succ_wrap i (by omega)]
      exact ih k (i + 1) _ _ (by omega) (by omega) (h.gone q _)
    · rw [if_neg hg]
      exact all_end (by omega) h1 h2 h3 (by omega) hl ha h
theorem have_l (d p : Nat) (h1 : 1 ≤ d) (h2 : d ≤ 4) (h3 : p ≤ 2) {data : List ByteArray} (hl : data.length = d) (ha : alikeB data = true) (gone : List Int) (e : Nat) : ∀ (k i : Nat), i + e = d + p → 61100 + e < k →
    ossuarylaw8_RebuildAll.l1 k gone (word d p data) (word d p data) (List.replicate i true ++ List.replicate e false) (i : Int) (d : Int) (p : Int) = some true := by
  induction e with
  | zero =>
    intro k i hi hk
    obtain ⟨k, rfl⟩ : ∃ m, k = m + 1 := ⟨k - 1, by omega⟩
    simp only [ossuarylaw8_RebuildAll.l1]
    have hw := word_length d p data hl
    rw [if_neg (by omega), List.replicate_zero, List.append_nil, show i = d + p by omega]
    exact gone_l d p h1 h2 h3 hl ha gone p k 0 _ _ (by omega) (by omega) ⟨hw, by simp, by rw [had_all]; omega, fun _ _ _ => rfl⟩
  | succ e ih =>
    intro k i hi hk
    obtain ⟨k, rfl⟩ : ∃ m, k = m + 1 := ⟨k - 1, by omega⟩
    simp only [ossuarylaw8_RebuildAll.l1]
    have hw := word_length d p data hl
    have e1 : (List.replicate i true ++ List.replicate (e + 1) false).set i true = List.replicate (i + 1) true ++ List.replicate e false := by
      rw [List.set_append_right _ _ (by simp), List.length_replicate, Nat.sub_self, List.replicate_succ, List.set_cons_zero, List.replicate_succ']
      simp
    rw [if_pos (by omega), if_pos (by omega), if_pos (by simp; omega), Int.toNat_natCast, e1, succ_wrap i (by omega)]
    exact ih k (i + 1) (by omega) (by omega)
/-- equal pieces of a text. -/
def piece (t : ByteArray) (m i : Nat) : ByteArray := t.extract (m * i) (m * i + m)
def pieces (t : ByteArray) (m n : Nat) : List ByteArray := (List.range n).map (piece t m)
theorem pieces_succ (t : ByteArray) (m n : Nat) : pieces t m (n + 1) = pieces t m n ++ [piece t m n] := by unfold pieces; rw [List.range_succ, List.map_append]; rfl
theorem pieces_length (t : ByteArray) (m n : Nat) : (pieces t m n).length = n := by simp [pieces]
theorem pieces_size {t : ByteArray} {m d : Nat} (h : m * d ≤ t.size) : ∀ x ∈ pieces t m d, x.size = m := by
  intro x hx
  unfold pieces at hx
  obtain ⟨i, hi, rfl⟩ := List.mem_map.1 hx
  have hi' := List.mem_range.1 hi
  have h2 : m * i + m ≤ m * d := by rw [← Nat.mul_succ]; exact Nat.mul_le_mul_left m hi'
  unfold piece
  rw [ByteArray.size_extract]
  omega
theorem cut_0 (t : ByteArray) (gone : List Int) (d p m : Nat) (h1 : 1 ≤ d) (h2 : d ≤ 4) (h3 : p ≤ 2) (hm : m ≤ 60) (hmd : m * d ≤ t.size) (k : Nat) (hk : 61200 < k) :
    ossuarylaw8_RebuildAll.l0 (k + 1) t gone (m : Int) (pieces t m d) (d : Int) (d : Int) (p : Int) = some true := by
  have hl := pieces_length t m d
  have ha : alikeB (pieces t m d) = true := alike_all (by omega) (pieces_size hmd)
  have ew : wrap64 ((d : Int) + (p : Int)) = ((d + p : Nat) : Int) := by rw [wrap64_in (by omega) (by omega)]; omega
  have hp := par_length d p (pieces t m d)
  have hW := word_length d p (pieces t m d) hl
  have h := have_l d p h1 h2 h3 hl ha gone (d + p) k 0 (by omega) (by omega)
  rw [List.replicate_zero, List.nil_append] at h
  have he := enc_f (show 61000 < k by omega) d p h1 h2 h3 _ hl ha
  have hc : (pieces t m d).length + (par d p (pieces t m d)).length < 8796093022208 := by omega
  unfold word at hW h
  generalize par d p (pieces t m d) = P at *
  generalize pieces t m d = D at *
  simp only [ossuarylaw8_RebuildAll.l0]
  rw [if_neg (Int.lt_irrefl _), he, ew]
  clear he ew
  simp only [Option.bind_some, num_f, if_true]
  rw [if_pos hc]
  generalize D ++ P = W at *
  have hN : d + p ≤ 6 := by omega
  generalize ((d + p : Nat)) = N at *
  have e1 : (W.length : Int) = (N : Int) := by rw [hW]
  have e2 : ([] : List ByteArray).length + W.length < 8796093022208 := by simp; omega
  have e3 : (W.length : Int).toNat ≤ 281474976710656 := by omega
  rw [if_pos e1, if_pos e2, if_pos (Int.natCast_nonneg _), if_pos e3, Int.toNat_natCast, hW, List.nil_append]
  exact h
theorem cut_l (t : ByteArray) (gone : List Int) (d p m : Nat) (h1 : 1 ≤ d) (h2 : d ≤ 4) (h3 : p ≤ 2) (hm : m ≤ 60) (hmd : m * d ≤ t.size) (e : Nat) : ∀ (k i : Nat), i + e = d → 61201 + e < k →
    ossuarylaw8_RebuildAll.l0 k t gone (m : Int) (pieces t m i) (i : Int) (d : Int) (p : Int) = some true := by
  induction e with
  | zero =>
    intro k i hi hk
    obtain ⟨k, rfl⟩ : ∃ m, k = m + 1 := ⟨k - 1, by omega⟩
    obtain rfl : d = i := by omega
    exact cut_0 t gone d p m h1 h2 h3 hm hmd k (by omega)
  | succ e ih =>
    intro k i hi hk
    obtain ⟨k, rfl⟩ : ∃ m, k = m + 1 := ⟨k - 1, by omega⟩
    have hmi : m * i ≤ 60 * 4 := Nat.mul_le_mul hm (by omega)
    have hmi2 : m * i + m ≤ t.size := by
      refine Nat.le_trans ?_ hmd
      rw [← Nat.mul_succ]
      exact Nat.mul_le_mul_left m (by omega)
    have ih' := ih k (i + 1) (by omega) (by omega)
    rw [pieces_succ] at ih'
    unfold piece at ih'
    have e1 : wrap64 ((m : Int) * (i : Int)) = ((m * i : Nat) : Int) := by
      rw [show (m : Int) * (i : Int) = ((m * i : Nat) : Int) from (Int.natCast_mul m i).symm]
      exact wrap64_in (by omega) (by omega)
    have e2 : wrap64 (((m * i : Nat) : Int) + (m : Int)) = ((m * i + m : Nat) : Int) := by rw [wrap64_in (by omega) (by omega)]; omega
    have e3 : (pieces t m i).length < 8796093022208 := by rw [pieces_length]; omega
    simp only [ossuarylaw8_RebuildAll.l0]
    rw [e1, e2, succ_wrap i (by omega)]
    generalize m * i = q at *
    clear e1 e2
    have c1 : (i : Int) < (d : Int) := Int.ofNat_lt.2 (by omega)
    have c2 : (q : Int) ≤ ((q + m : Nat) : Int) := Int.ofNat_le.2 (Nat.le_add_right q m)
    have c3 : ((q + m : Nat) : Int) ≤ (t.size : Int) := Int.ofNat_le.2 hmi2
    rw [if_pos c1, if_pos (Int.natCast_nonneg _), if_pos c2, if_pos c3, if_pos e3, Int.toNat_natCast, Int.toNat_natCast]
    exact ih'
theorem all_f {k : Nat} (hk : 61300 < k) (a0 a1 : Int) (t : ByteArray) (ht : t.size ≤ 140737488351232) (gone : List Int) : ossuarylaw8_RebuildAll.f k a0 a1 t gone = some true := by
  unfold ossuarylaw8_RebuildAll.f
  rw [awake8_f (by omega)]
  simp only [Option.bind_some, if_true]
  obtain ⟨r, hr, e⟩ := mod_u a0 4 (by omega) (by omega)
  obtain ⟨p, hp, e'⟩ := mod_u a1 3 (by omega) (by omega)
  rw [show ((4 : Nat) : Int) = 4 from rfl] at e
  rw [show ((3 : Nat) : Int) = 3 from rfl] at e'
  rw [e, e', wrap64_in (n := 1 + (r : Int)) (by omega) (by omega), show 1 + (r : Int) = ((1 + r : Nat) : Int) by omega, if_neg (by omega)]
  obtain ⟨m, hm, hm2, em⟩ : ∃ m : Nat, m ≤ 60 ∧ m * (1 + r) ≤ t.size ∧ mn (wrap64 ((t.size : Int) / ((1 + r : Nat) : Int))) 60 = (m : Int) := by
    have hq : (t.size : Int) / ((1 + r : Nat) : Int) = ((t.size / (1 + r) : Nat) : Int) := (Int.natCast_ediv _ _).symm
    have hle : t.size / (1 + r) ≤ t.size := Nat.div_le_self _ _
    have hmx : (((t.size / (1 + r) : Nat)) : Int) ≤ 140737488351232 := by omega
    have hmn0 : 0 ≤ (((t.size / (1 + r) : Nat)) : Int) := Int.natCast_nonneg _
    refine ⟨min (t.size / (1 + r)) 60, by omega, ?_, ?_⟩
    · exact Nat.le_trans (Nat.mul_le_mul_right _ (Nat.min_le_left _ _)) (Nat.div_mul_le_self _ _)
    · rw [hq, wrap64_in (by omega) (by omega)]
      unfold mn
      split <;> omega
  rw [em]
  exact cut_l t gone (1 + r) p m (by omega) (by omega) (by omega) hm hm2 (1 + r) k 0 (by omega) (by omega)
theorem RebuildAll {G G' G'' S : Prop} (a0 : Int) (_ : G) (a1 : Int) (_ : G') (t : ByteArray) (ht : t.size ≤ 140737488351232) (gone : List Int) (_ : G'') (_ : S) : ∃ k, ossuarylaw8_RebuildAll.f k a0 a1 t gone = some true := ⟨61301, all_f (by omega) a0 a1 t ht gone⟩
end Go.Proofs.Ytaahnicjjpddjaa.Pure
