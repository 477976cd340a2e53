/- Powers of distinct numbers: matrices that have inverses; the code's matrix. Plain algebra; no condition. The program's making of the code's matrix comes to it, at every shape. Plain algebra; no condition. Shapes and rows by a number: what remainders come to; rows that are picked. Plain; no condition. -/
import Derived.Test.YtaahnicjjpddjaaKRebuildMendsGGen2
section
namespace Go.Proofs.Ytaahnicjjpddjaa.Fld
open Go.Proofs.Ytaahnicjjpddjaa.Pr
theorem sum_front (n : Nat) (f : Nat → F) : sumF (n + 1) f = f 0 ^^^ sumF n (fun k => f (k + 1)) := by
  induction n with
  | zero => simp [sumF]
  | succ n ih => rw [sumF, ih, sumF, BitVec.xor_assoc]
/-- of what is added twice nothing is left. -/
theorem sum_tele (n : Nat) (g : Nat → F) : sumF n (fun k => g k ^^^ g (k + 1)) = g 0 ^^^ g n := by
  induction n with
  | zero => simp [sumF]
  | succ n ih => rw [sumF, ih, BitVec.xor_assoc, ← BitVec.xor_assoc (g n), BitVec.xor_self, BitVec.zero_xor]
/-- from the top: c n, c n a + c (n - 1), .. -/
def hor (n : Nat) (c : Nat → F) (a : F) : Nat → F
  | 0 => 0#8
  | m + 1 => c (n - m) ^^^ fm a (hor n c a m)
theorem xor_eq_zero {a b : F} (h : a ^^^ b = 0#8) : a = b := by
  have h2 : (a ^^^ b) ^^^ b = 0#8 ^^^ b := by rw [h]
  rw [BitVec.xor_assoc, BitVec.xor_self, BitVec.xor_zero, BitVec.zero_xor] at h2
  exact h2
theorem hor_at (n : Nat) (c : Nat → F) (a : F) (k : Nat) (hk : k ≤ n) : c k = hor n c a (n + 1 - k) ^^^ fm a (hor n c a (n - k)) := by
  rw [show n + 1 - k = (n - k) + 1 by omega, hor, show n - (n - k) = k by omega, BitVec.xor_assoc, BitVec.xor_self, BitVec.xor_zero]
theorem hor_all (n : Nat) (c : Nat → F) (a : F) : sumF (n + 1) (fun k => fm (fp a k) (c k)) = hor n c a (n + 1) := by
  have h : sumF (n + 1) (fun k => fm (fp a k) (c k)) = sumF (n + 1) (fun k => fm (fp a k) (hor n c a (n + 1 - k)) ^^^ fm (fp a (k + 1)) (hor n c a (n + 1 - (k + 1)))) :=
    sum_congr _ _ _ (fun k hk => by
      show fm (fp a k) (c k) = _
      rw [hor_at n c a k uV, fm_xor, show fp a (k + 1) = fm (fp a k) a from rfl, fm_assoc, show n + 1 - (k + 1) = n - k by omega])
  rw [h, sum_tele (n + 1) (fun k => fm (fp a k) (hor n c a (n + 1 - k)))]
  simp only [Nat.sub_self, Nat.sub_zero, hor, fm_zero, BitVec.xor_zero]
  rw [show fp a 0 = 1#8 from rfl, one_fm]
theorem hor_split (n : Nat) (c : Nat → F) (a x : F) (h0 : hor n c a (n + 1) = 0#8) : sumF (n + 1) (fun k => fm (fp x k) (c k)) = fm (x ^^^ a) (sumF n (fun k => fm (fp x k) (hor n c a (n - k)))) := by
  have h : sumF (n + 1) (fun k => fm (fp x k) (c k)) = sumF (n + 1) (fun k => fm (fp x k) (hor n c a (n + 1 - k)) ^^^ fm a (fm (fp x k) (hor n c a (n - k)))) :=
    sum_congr _ _ _ (fun k hk => by
      show fm (fp x k) (c k) = _
      rw [hor_at n c a k uV, fm_xor, ← fm_assoc, fm_comm (fp x k) a, fm_assoc])
  rw [h, sum_xor, sum_front n (fun k => fm (fp x k) (hor n c a (n + 1 - k)))]
  simp only [Nat.sub_zero]
  rw [h0, fm_zero, BitVec.zero_xor]
  have e1 : sumF n (fun k => fm (fp x (k + 1)) (hor n c a (n + 1 - (k + 1)))) = fm x (sumF n (fun k => fm (fp x k) (hor n c a (n - k)))) := by
    rw [fm_sum]
    exact sum_congr _ _ _ (fun k _ => by
      show fm (fm (fp x k) x) (hor n c a (n + 1 - (k + 1))) = _
      rw [fm_comm (fp x k) x, fm_assoc, show n + 1 - (k + 1) = n - k by omega])
  have e2 : sumF (n + 1) (fun k => fm a (fm (fp x k) (hor n c a (n - k)))) = fm a (sumF n (fun k => fm (fp x k) (hor n c a (n - k)))) := by
    rw [← fm_sum, sumF]
    simp only [Nat.sub_self, hor, fm_zero, BitVec.xor_zero]
  rw [e1, e2, ← xor_fm]
/-- a sum of powers that is nought at as many numbers is nought. -/
theorem roots (n : Nat) : ∀ (c x : Nat → F), (∀ i j, i < n → j < n → x i = x j → i = j) → (∀ i, i < n → sumF n (fun k => fm (fp (x i) k) (c k)) = 0#8) → ∀ k, k < n → c k = 0#8 := by
  induction n with
  | zero => intro c x _ _ k hk; omega
  | succ n ih =>
    intro c x hx hs k hk
    have h0 : hor n c (x n) (n + 1) = 0#8 := by rw [← hor_all]; exact hs n uV
    have hq : ∀ k, k < n → hor n c (x n) (n - k) = 0#8 := ih (fun k => hor n c (x n) (n - k)) x (fun i j hi hj => hx i j uV uV) (fun i hi => by
      have h := hs i uV
      rw [hor_split n c (x n) (x i) h0] at h
      rcases (fm_eq_zero _ _).1 h with h1 | h1
      · have := hx i n uV uV (xor_eq_zero h1)
        omega
      · exact h1)
    have hq' : ∀ m, m ≤ n → hor n c (x n) m = 0#8 := fun m hm => by
      rcases Nat.eq_zero_or_pos m with rfl | hp
      · rfl
      · have := hq (n - m) uV
        rw [show n - (n - m) = m by omega] at this
        exact this
    rw [hor_at n c (x n) k uV, hq' (n - k) uV, fm_zero, BitVec.xor_zero]
    rcases Nat.eq_zero_or_pos k with rfl | hp
    · exact h0
    · exact hq' _ uV
/-- an inverse, or numbers, not all nought, that all rows take to nought. -/
theorem kernel_or (n : Nat) (m : Nat → Nat → F) : (∃ y, eqM n (mm n y m) delta) ∨ ∃ P : Nat → F, (∃ c, c < n ∧ P c ≠ 0#8) ∧ ∀ i, i < n → sumF n (fun k => fm (m i k) (P k)) = 0#8 := by
  have step : ∀ c, c ≤ n → (∃ v, Stands n m c v) ∨ ∃ P : Nat → F, (∃ c, c < n ∧ P c ≠ 0#8) ∧ ∀ i, i < n → sumF n (fun k => fm (m i k) (P k)) = 0#8 := by
    intro c
    induction c with
    | zero => exact fun _ => .inl ⟨v2 m delta, Stands.start n m _ rfl rfl⟩
    | succ c ih =>
      intro hc
      rcases ih uV with ⟨v, h⟩ | h
      · by_cases hz : ∀ k, c ≤ k → k < n → v 0 k c = 0#8
        · obtain ⟨q, hq⟩ : ∃ q : Nat → F, q = fun k => if k < c then v 0 k c else 0#8 := ⟨_, rfl⟩
          obtain ⟨P, hP⟩ : ∃ P : Nat → F, P = fun k => q k ^^^ delta k c := ⟨_, rfl⟩
          have h1 : eqM n (mm n (v 0) (fun k _ => P k)) (fun _ _ => 0#8) := by
            intro i j hi _
            have e1 : mm n (v 0) (fun k _ => P k) i j = sumF n (fun k => fm (v 0 i k) (q k) ^^^ fm (v 0 i k) (delta k c)) := by
              unfold mm
              exact sum_congr _ _ _ (fun k _ => by rw [hP, fm_xor])
            have e2 : sumF n (fun k => fm (v 0 i k) (q k)) = q i := by
              rw [← sum_delta n i q hi]
              refine sum_congr _ _ _ (fun k hk => ?_)
              by_cases h2 : k < c
              · rw [h.cols i k hi h2]
              · have e : q k = 0#8 := by rw [hq]; exact if_neg h2
                rw [e, fm_zero, fm_zero]
            rw [e1, sum_xor, e2, sum_delta_r n c (fun k => v 0 i k) uV, hq]
            by_cases h2 : i < c
            · simp only [if_pos h2, BitVec.xor_self]
            · simp only [if_neg h2]
              rw [hz i uV hi]; rfl
          obtain ⟨u, hu⟩ := h.kept.back
          have h2 : eqM n (mm n m (fun k _ => P k)) (fun _ _ => 0#8) := by
            refine (deltaM n _).symm.trans ((mm_eq hu.symm (eqM.refl n _)).trans ?_)
            refine (assocM n u (v 1) (mm n m (fun k _ => P k))).trans ((mm_eq (eqM.refl n u) ((assocM n (v 1) m _).symm.trans ((mm_eq h.kept.prod (eqM.refl n _)).trans h1))).trans (mm_zero n u))
          refine .inr ⟨P, ⟨c, uV, ?_⟩, fun i hi => h2 i 0 hi uV⟩
          rw [hP, hq]
          simp only [if_neg (Nat.lt_irrefl c), delta_self]
          decide
        · obtain ⟨i, hi⟩ := Classical.not_forall.1 hz
          obtain ⟨hci, hi⟩ := Classical.not_imp.1 hi
          obtain ⟨hin, hi⟩ := Classical.not_imp.1 hi
          obtain ⟨v', h'⟩ := clear_all uV n (h.turn uV hin hci hi)
          exact .inl ⟨v', h'.next⟩
      · exact .inr h
  rcases step n (Nat.le_refl _) with ⟨v, h⟩ | h
  · exact .inl ⟨_, h.done.1⟩
  · exact .inr h
/-- powers, a row for each number. -/
def van (x : Nat → F) : Nat → Nat → F := fun i k => fp (x i) k
theorem van_inv (n : Nat) (x : Nat → F) (hx : ∀ i j, i < n → j < n → x i = x j → i = j) : ∃ y, eqM n (mm n y (van x)) delta := by
  rcases kernel_or n (van x) with h | ⟨P, ⟨c, hc, hne⟩, hP⟩
  · exact h
  · exact absurd (roots n P x hx hP c hc) hne
def num (i : Nat) : F := BitVec.ofNat 8 i
theorem num_inj {i j : Nat} (hi : i < 256) (hj : j < 256) (h : num i = num j) : i = j := by
  have h1 := congrArg BitVec.toNat h
  unfold num at h1
  rw [BitVec.toNat_ofNat, BitVec.toNat_ofNat, Nat.mod_eq_of_lt uV, Nat.mod_eq_of_lt uV] at h1
  exact h1
open Classical in
/-- what turns the powers of the first numbers back. -/
noncomputable def back (d : Nat) : Nat → Nat → F := if h : ∃ y, eqM d (mm d y (van num)) delta then Classical.choose h else delta
theorem back_left {d : Nat} (hd : d ≤ 12) : eqM d (mm d (back d) (van num)) delta := by
  have h := van_inv d num (fun i j hi hj => num_inj uV uV)
  unfold back
  rw [dif_pos h]
  exact Classical.choose_spec h
theorem back_right {d : Nat} (hd : d ≤ 12) : eqM d (mm d (van num) (back d)) delta := right_of_left (back_left hd)
/-- the code's matrix: rows without end. -/
noncomputable def code (d : Nat) : Nat → Nat → F := mm d (van num) (back d)
theorem code_top {d : Nat} (hd : d ≤ 12) : ∀ i j, i < d → j < d → code d i j = delta i j := back_right hd
/-- a matrix that does to the powers what it does is it. -/
theorem code_one {d : Nat} (hd : d ≤ 12) (L : Nat → Nat → F) (i : Nat) (h : ∀ j, j < d → mm d L (van num) i j = van num i j) (j : Nat) (hj : j < d) : L i j = code d i j := by
  have h1 : mm d L delta i j = mm d L (mm d (van num) (back d)) i j := mm_congr d _ _ _ _ i j (fun _ _ => rfl) (fun k hk => (back_right hd k j hk hj).symm)
  rw [mm_delta d L i j hj, ← mm_assoc] at h1
  rw [h1]
  exact mm_congr d _ _ _ _ i j (fun k hk => h k hk) (fun _ _ => rfl)
/-- distinct rows of it have an inverse. -/
theorem code_rows {d : Nat} (hd : d ≤ 12) (s : Nat → Nat) (hs : ∀ i, i < d → s i < 256) (hi : ∀ i j, i < d → j < d → s i = s j → i = j) : ∃ y, eqM d (mm d y (fun i j => code d (s i) j)) delta := by
  obtain ⟨z, hz⟩ := van_inv d (fun i => num (s i)) (fun i j h1 h2 e => hi i j h1 h2 (num_inj (hs i h1) (hs j h2) e))
  refine ⟨mm d (van num) z, ?_⟩
  have e : eqM d (fun i j => code d (s i) j) (mm d (van (fun i => num (s i))) (back d)) := fun i j _ _ => rfl
  refine (mm_eq (eqM.refl d _) e).trans ((assocM d (van num) z _).trans ?_)
  refine (mm_eq (eqM.refl d (van num)) ((assocM d z _ (back d)).symm.trans ((mm_eq hz (eqM.refl d (back d))).trans (deltaM d (back d))))).trans (back_right hd)
end Go.Proofs.Ytaahnicjjpddjaa.Fld
end
section
namespace Go.Proofs.Ytaahnicjjpddjaa.Pr
open Go.RowKit Go.Proofs.YtaahnicjjpddjaaW.PrintWords Go.Proofs.YtaahnicjjpddjaaW.PrintLast Go.Proofs.YtaahnicjjpddjaaW.PrintMore Go.Proofs.Ytaahnicjjpddjaa.Fld Go.Proofs.Ytaahnicjjpddjaa.Mat Go.Proofs.Ytaahnicjjpddjaa.Fn Go.Proofs.Ytaahnicjjpddjaa.GGen
theorem toI_num {i : Nat} (h : i < 256) : toI (num i) = (i : Int) := by
  unfold toI num
  rw [BitVec.toNat_ofNat, Nat.mod_eq_of_lt uV]
theorem fmat_take (g : Nat → Nat → F) (n m d : Nat) (h : d ≤ n) : (fmat g n m).take d = fmat g d m := by
  apply List.ext_getElem
  · rw [List.length_take, fmat_length, fmat_length]; omega
  · intro i h1 h2
    rw [List.getElem_take, fmat_get, fmat_get]
theorem genmay_f (d p : Int) : GGf.gen_May.f d p = some (decide (1 ≤ d ∧ d ≤ 4 ∧ 0 ≤ p ∧ p ≤ 2)) := by
  unfold GGf.gen_May.f
  by_cases h1 : d ≥ 1
  · rw [if_pos h1]
    by_cases h2 : d ≤ 4
    · rw [if_pos h2]
      by_cases h3 : p ≥ 0
      · rw [if_pos h3]
        exact congrArg some (decide_eq_decide.2 ⟨fun h => ⟨h1, h2, h3, h⟩, fun h => h.2.2.2⟩)
      · rw [if_neg h3, decide_eq_false (fun h => h3 h.2.2.1)]
    · rw [if_neg h2, decide_eq_false (fun h => h2 h.2.1)]
  · rw [if_neg h1, decide_eq_false (fun h => h1 h.1)]
theorem gen_in (i d n : Nat) (hi : i < n) (hn : n ≤ 12) (hd : d ≤ 12) (p : Int) (acc : List (List Int)) (hacc : acc.length ≤ 12) (e : Nat) :
    ∀ (k j : Nat), j + e = d → e + 20 < k → gen_Matrix.l1 k (i : Int) (partRow (fun j => toI (van num i j)) j d) (n : Int) (i : Int) (d : Int) (j : Int) (d : Int) p acc = gen_Matrix.l0 (k - (e + 1)) (n : Int) (((i + 1 : Nat) : Int)) (d : Int) p (acc ++ [rowOf (fun j => toI (van num i j)) d]) := by
  induction e with
  | zero =>
    intro k j hj hk
    obtain ⟨k, rfl⟩ : ∃ m, k = m + 1 := ⟨k - 1, uV⟩
    simp only [gen_Matrix.l1]
    have e : j = d := by omega
    subst e
    rw [if_neg uV, if_pos uV, succ_wrap i uV, partRow_all]
    rfl
  | succ e ih =>
    intro k j hj hk
    obtain ⟨k, rfl⟩ : ∃ m, k = m + 1 := ⟨k - 1, uV⟩
    simp only [gen_Matrix.l1]
    have hp : GGf.gf_Pow.f k (i : Int) (j : Int) = some (toI (van num i j), 0) := by
      rw [← toI_num (show i < 256 by omega)]
      exact GfsGf.gpow_f uV (num i) j uV
    rw [if_pos uV, hp]
    simp only [Option.bind_some]
    rw [if_pos uV, partRow_length _ _ _ uV, if_pos uV, Int.toNat_natCast, partRow_set (fun j => toI (van num i j)) _ _ uV, succ_wrap j uV, ih k (j + 1) uV uV, show k + 1 - (e + 1 + 1) = k - (e + 1) from by omega]
theorem gen_out (d n : Nat) (h1 : 1 ≤ d) (hd : d ≤ n) (hn : n ≤ 12) (p : Int) (e : Nat) :
    ∀ (k i : Nat), i + e = n → e * (d + 2) + 250 < k → gen_Matrix.l0 k (n : Int) (i : Int) (d : Int) p (fmat (van num) i d) = some (fmat (code d) n d, 0) := by
  induction e with
  | zero =>
    intro k i hi hk
    obtain ⟨k, rfl⟩ : ∃ m, k = m + 1 := ⟨k - 1, uV⟩
    obtain rfl : n = i := by omega
    simp only [gen_Matrix.l0]
    rw [if_neg uV, if_pos uV, fmat_length, if_pos uV, Int.toNat_natCast, fmat_take _ _ _ _ hd, inv_ok h1 uV (back_left uV)]
    simp only [Option.bind_some]
    rw [mul_f uV (van num) (back d) n d d uV hn h1 uV h1 uV]
    rfl
  | succ e ih =>
    intro k i hi hk
    obtain ⟨k, rfl⟩ : ∃ m, k = m + 1 := ⟨k - 1, uV⟩
    have hmul : (e + 1) * (d + 2) = e * (d + 2) + (d + 2) := Nat.succ_mul _ _
    simp only [gen_Matrix.l0]
    rw [if_pos uV, if_pos uV, if_pos uV, Int.toNat_natCast]
    simp only [Option.bind_some, List.length_replicate]
    have h := gen_in i d n uV hn uV p (fmat (van num) i d) uP d k 0 uV uV
    have e0 : partRow (fun j => toI (van num i j)) 0 d = List.replicate d 0 := by unfold partRow rowOf; simp
    rw [e0] at h
    refine h.trans ?_
    have e1 : fmat (van num) i d ++ [rowOf (fun j => toI (van num i j)) d] = fmat (van num) (i + 1) d := (matOf_succ _ _ _).symm
    rw [e1]
    exact ih _ (i + 1) uV uV
theorem gen_f {k : Nat} (hk : 400 < k) (d p : Nat) (h1 : 1 ≤ d) (h2 : d ≤ 4) (h3 : p ≤ 2) : gen_Matrix.f k (d : Int) (p : Int) = some (fmat (code d) (d + p) d, 0) := by
  unfold gen_Matrix.f
  rw [genmay_f, decide_eq_true ⟨uV, uV, uV, uV⟩]
  simp only [Option.bind_some, if_true]
  unfold GGf.gen_All.f
  rw [wrap64_in uV uV, Option.bind_some, show (d : Int) + (p : Int) = ((d + p : Nat) : Int) from rfl]
  have hmul : (d + p) * (d + 2) ≤ 6 * 6 := Nat.mul_le_mul uV uV
  exact gen_out d (d + p) h1 uV uV (p : Int) (d + p) k 0 uV uV
theorem gen_no {k : Nat} (d p : Int) (h : ¬ (1 ≤ d ∧ d ≤ 4 ∧ 0 ≤ p ∧ p ≤ 2)) : gen_Matrix.f k d p = some ([], 500) := by
  unfold gen_Matrix.f
  rw [genmay_f, decide_eq_false h]
  simp
/-- by hand. -/
theorem code_lit (d n : Nat) (hd : d ≤ 12) (L : List (List Int)) (hL : fmat (ent L) n d = L) (h : ∀ i, i < n → ∀ j, j < d → mm d (ent L) (van num) i j = van num i j) : fmat (code d) n d = L := by
  rw [← hL]
  exact fmat_congr _ _ _ _ (fun i j hi hj => (code_one hd (ent L) i (h i hi) j hj).symm)
end Go.Proofs.Ytaahnicjjpddjaa.Pr
end
section
namespace Go.Proofs.Ytaahnicjjpddjaa.Pr
open Go.RowKit Go.Proofs.YtaahnicjjpddjaaW.PrintWords Go.Proofs.YtaahnicjjpddjaaW.PrintLast Go.Proofs.YtaahnicjjpddjaaW.PrintMore Go.Proofs.Ytaahnicjjpddjaa.Fld Go.Proofs.Ytaahnicjjpddjaa.Mat Go.Proofs.Ytaahnicjjpddjaa.Fn
theorem mod_u (x : Int) (n : Nat) (h1 : 1 ≤ n) (h2 : n ≤ 64) : ∃ r : Nat, r < n ∧ wrap64 (Int.tmod (IntKind.u64.wrap x) (n : Int)) = (r : Int) := by
  have hw : IntKind.u64.wrap x = x % 18446744073709551616 := rfl
  have h3 := Int.emod_nonneg x (show (18446744073709551616 : Int) ≠ 0 by omega)
  have h4 : Int.tmod (x % 18446744073709551616) (n : Int) = (x % 18446744073709551616) % (n : Int) := Int.tmod_eq_emod_of_nonneg h3
  have h5 := Int.emod_nonneg (x % 18446744073709551616) (show (n : Int) ≠ 0 by omega)
  have h6 := Int.emod_lt_of_pos (x % 18446744073709551616) (show (0 : Int) < n by omega)
  refine ⟨((x % 18446744073709551616) % (n : Int)).toNat, uV, ?_⟩
  rw [hw, h4, wrap64_in uV uV]
  omega
theorem rowsIn_get {n : Nat} {rows : List Int} (h : rowsIn n rows = true) {i : Nat} (hi : i < rows.length) : 0 ≤ rows[i] ∧ rows[i].toNat < n := by
  have h1 := List.all_eq_true.1 h _ (List.getElem_mem hi)
  rw [Bool.and_eq_true] at h1
  have h2 := of_decide_eq_true h1.1
  have h3 := of_decide_eq_true h1.2
  exact ⟨h2, uV⟩
theorem pick_fmat (g : Nat → Nat → F) (n m : Nat) (rows : List Int) (h : rowsIn n rows = true) : rows.map (fun r => (fmat g n m).getD r.toNat []) = fmat (fun i j => g (rows.getD i 0).toNat j) rows.length m := by
  apply List.ext_getElem
  · rw [List.length_map, fmat_length]
  · intro i h1 h2
    rw [List.length_map] at h1
    have h3 := (rowsIn_get h h1).2
    rw [List.getElem_map, getD_get _ _ _ (by rw [fmat_length]; exact h3), fmat_get, fmat_get, getD_get rows 0 i h1]
theorem pick_ok {k : Nat} (hk : 200 < k) (g : Nat → Nat → F) (n m : Nat) (n1 : 1 ≤ n) (n2 : n ≤ 12) (m1 : 1 ≤ m) (m2 : m ≤ 12) (rows : List Int) (h1 : 1 ≤ rows.length) (h2 : rows.length ≤ 12) (h : rowsIn n rows = true) :
    GBase.matrix_Pick.f k (fmat g n m) rows = some (fmat (fun i j => g (rows.getD i 0).toNat j) rows.length m, 0) := by
  rw [pick_f hk, fmat_length, if_pos ⟨fmat_may _ _ _ n1 n2 m1 m2, ⟨h1, h2⟩, h⟩, pick_fmat _ _ _ _ h]
def upto (n : Nat) : List Int := (List.range n).map fun (i : Nat) => (i : Int)
/-- distinct rows of the code's matrix, picked, have an inverse. -/
theorem code_picked {d : Nat} (_ : 1 ≤ d) (hd : d ≤ 12) {n : Nat} (hn : n ≤ 12) (rows : List Int) (hl : rows.length = d) (h : rowsIn n rows = true) (hnd : rows.Nodup) :
    ∃ y, eqM d (mm d y (fun i j => code d (rows.getD i 0).toNat j)) delta := by
  refine code_rows hd (fun i => (rows.getD i 0).toNat) (fun i hi => ?_) (fun i j hi hj e => ?_)
  · rw [getD_get _ _ _ uV]
    have := (rowsIn_get h (show i < rows.length by omega)).2
    omega
  · rw [getD_get _ _ _ (show i < rows.length by omega), getD_get _ _ _ (show j < rows.length by omega)] at e
    have h2 := (rowsIn_get h (show i < rows.length by omega)).1
    have h3 := (rowsIn_get h (show j < rows.length by omega)).1
    exact (List.getElem_inj hnd).1 (show rows[i] = rows[j] by omega)
theorem code21 : fmat (code 2) 3 2 = [[1, 0], [0, 1], [3, 2]] := code_lit 2 3 uV _ uR uR
end Go.Proofs.Ytaahnicjjpddjaa.Pr
end
