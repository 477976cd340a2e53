/- Powers of distinct numbers: matrices that have inverses; the code's matrix. Plain algebra; no condition. Functions of the program as Lean functions, each with a proof that its call comes to what the function says. No condition. -/
import Derived.Test.YtaahnicjjpddjaaKRebuildsInvTwo
section
namespace Go.Proofs.Ytaahnicjjpddjaa.Fld
open Go.Proofs.Ytaahnicjjpddjaa.Pr
theorem sum_front (n : Nat) (f : Nat → F) : sumF (n + 1) f = f 0 ^^^ sumF n (fun k => f (k + 1)) := by
  induction n with
  | zero => simp [sumF]
  | succ n ih => rw [sumF, ih, sumF, BitVec.xor_assoc]
/-- of what is added twice nothing is left. -/
theorem sum_tele (n : Nat) (g : Nat → F) : sumF n (fun k => g k ^^^ g (k + 1)) = g 0 ^^^ g n := by
  induction n with
  | zero => simp [sumF]
  | succ n ih => rw [sumF, ih, BitVec.xor_assoc, ← BitVec.xor_assoc (g n), BitVec.xor_self, BitVec.zero_xor]
/-- from the top: c n, c n a + c (n - 1), .. -/
def hor (n : Nat) (c : Nat → F) (a : F) : Nat → F
  | 0 => 0#8
  | m + 1 => c (n - m) ^^^ fm a (hor n c a m)
theorem xor_eq_zero {a b : F} (h : a ^^^ b = 0#8) : a = b := by
  have h2 : (a ^^^ b) ^^^ b = 0#8 ^^^ b := by rw [h]
  rw [BitVec.xor_assoc, BitVec.xor_self, BitVec.xor_zero, BitVec.zero_xor] at h2
  exact h2
theorem hor_at (n : Nat) (c : Nat → F) (a : F) (k : Nat) (hk : k ≤ n) : c k = hor n c a (n + 1 - k) ^^^ fm a (hor n c a (n - k)) := by
  rw [show n + 1 - k = (n - k) + 1 by omega, hor, show n - (n - k) = k by omega, BitVec.xor_assoc, BitVec.xor_self, BitVec.xor_zero]
theorem hor_all (n : Nat) (c : Nat → F) (a : F) : sumF (n + 1) (fun k => fm (fp a k) (c k)) = hor n c a (n + 1) := by
  have h : sumF (n + 1) (fun k => fm (fp a k) (c k)) = sumF (n + 1) (fun k => fm (fp a k) (hor n c a (n + 1 - k)) ^^^ fm (fp a (k + 1)) (hor n c a (n + 1 - (k + 1)))) :=
    sum_congr _ _ _ (fun k hk => by
      show fm (fp a k) (c k) = _
      rw [hor_at n c a k uX, fm_xor, show fp a (k + 1) = fm (fp a k) a from rfl, fm_assoc, show n + 1 - (k + 1) = n - k by omega])
  rw [h, sum_tele (n + 1) (fun k => fm (fp a k) (hor n c a (n + 1 - k)))]
  simp only [Nat.sub_self, Nat.sub_zero, hor, fm_zero, BitVec.xor_zero]
  rw [show fp a 0 = 1#8 from rfl, one_fm]
theorem hor_split (n : Nat) (c : Nat → F) (a x : F) (h0 : hor n c a (n + 1) = 0#8) : sumF (n + 1) (fun k => fm (fp x k) (c k)) = fm (x ^^^ a) (sumF n (fun k => fm (fp x k) (hor n c a (n - k)))) := by
  have h : sumF (n + 1) (fun k => fm (fp x k) (c k)) = sumF (n + 1) (fun k => fm (fp x k) (hor n c a (n + 1 - k)) ^^^ fm a (fm (fp x k) (hor n c a (n - k)))) :=
    sum_congr _ _ _ (fun k hk => by
      show fm (fp x k) (c k) = _
      rw [hor_at n c a k uX, fm_xor, ← fm_assoc, fm_comm (fp x k) a, fm_assoc])
  rw [h, sum_xor, sum_front n (fun k => fm (fp x k) (hor n c a (n + 1 - k)))]
  simp only [Nat.sub_zero]
  rw [h0, fm_zero, BitVec.zero_xor]
  have e1 : sumF n (fun k => fm (fp x (k + 1)) (hor n c a (n + 1 - (k + 1)))) = fm x (sumF n (fun k => fm (fp x k) (hor n c a (n - k)))) := by
    rw [fm_sum]
    exact sum_congr _ _ _ (fun k _ => by
      show fm (fm (fp x k) x) (hor n c a (n + 1 - (k + 1))) = _
      rw [fm_comm (fp x k) x, fm_assoc, show n + 1 - (k + 1) = n - k by omega])
  have e2 : sumF (n + 1) (fun k => fm a (fm (fp x k) (hor n c a (n - k)))) = fm a (sumF n (fun k => fm (fp x k) (hor n c a (n - k)))) := by
    rw [← fm_sum, sumF]
    simp only [Nat.sub_self, hor, fm_zero, BitVec.xor_zero]
  rw [e1, e2, ← xor_fm]
/-- a sum of powers that is nought at as many numbers is nought. -/
theorem roots (n : Nat) : ∀ (c x : Nat → F), (∀ i j, i < n → j < n → x i = x j → i = j) → (∀ i, i < n → sumF n (fun k => fm (fp (x i) k) (c k)) = 0#8) → ∀ k, k < n → c k = 0#8 := by
  induction n with
  | zero => intro c x _ _ k hk; omega
  | succ n ih =>
    intro c x hx hs k hk
    have h0 : hor n c (x n) (n + 1) = 0#8 := by rw [← hor_all]; exact hs n uX
    have hq : ∀ k, k < n → hor n c (x n) (n - k) = 0#8 := ih (fun k => hor n c (x n) (n - k)) x (fun i j hi hj => hx i j uX uX) (fun i hi => by
      have h := hs i uX
      rw [hor_split n c (x n) (x i) h0] at h
      rcases (fm_eq_zero _ _).1 h with h1 | h1
      · have := hx i n uX uX (xor_eq_zero h1)
        omega
      · exact h1)
    have hq' : ∀ m, m ≤ n → hor n c (x n) m = 0#8 := fun m hm => by
      rcases Nat.eq_zero_or_pos m with rfl | hp
      · rfl
      · have := hq (n - m) uX
        rw [show n - (n - m) = m by omega] at this
        exact this
    rw [hor_at n c (x n) k uX, hq' (n - k) uX, fm_zero, BitVec.xor_zero]
    rcases Nat.eq_zero_or_pos k with rfl | hp
    · exact h0
    · exact hq' _ uX
/-- an inverse, or numbers, not all nought, that all rows take to nought. -/
theorem kernel_or (n : Nat) (m : Nat → Nat → F) : (∃ y, eqM n (mm n y m) delta) ∨ ∃ P : Nat → F, (∃ c, c < n ∧ P c ≠ 0#8) ∧ ∀ i, i < n → sumF n (fun k => fm (m i k) (P k)) = 0#8 := by
  have step : ∀ c, c ≤ n → (∃ v, Stands n m c v) ∨ ∃ P : Nat → F, (∃ c, c < n ∧ P c ≠ 0#8) ∧ ∀ i, i < n → sumF n (fun k => fm (m i k) (P k)) = 0#8 := by
    intro c
    induction c with
    | zero => exact fun _ => .inl ⟨v2 m delta, Stands.start n m _ rfl rfl⟩
    | succ c ih =>
      intro hc
      rcases ih uX with ⟨v, h⟩ | h
      · by_cases hz : ∀ k, c ≤ k → k < n → v 0 k c = 0#8
        · obtain ⟨q, hq⟩ : ∃ q : Nat → F, q = fun k => if k < c then v 0 k c else 0#8 := ⟨_, rfl⟩
          obtain ⟨P, hP⟩ : ∃ P : Nat → F, P = fun k => q k ^^^ delta k c := ⟨_, rfl⟩
          have h1 : eqM n (mm n (v 0) (fun k _ => P k)) (fun _ _ => 0#8) := by
            intro i j hi _
            have e1 : mm n (v 0) (fun k _ => P k) i j = sumF n (fun k => fm (v 0 i k) (q k) ^^^ fm (v 0 i k) (delta k c)) := by
              unfold mm
              exact sum_congr _ _ _ (fun k _ => by rw [hP, fm_xor])
            have e2 : sumF n (fun k => fm (v 0 i k) (q k)) = q i := by
              rw [← sum_delta n i q hi]
              refine sum_congr _ _ _ (fun k hk => ?_)
              by_cases h2 : k < c
              · rw [h.cols i k hi h2]
              · have e : q k = 0#8 := by rw [hq]; exact if_neg h2
                rw [e, fm_zero, fm_zero]
            rw [e1, sum_xor, e2, sum_delta_r n c (fun k => v 0 i k) uX, hq]
            by_cases h2 : i < c
            · simp only [if_pos h2, BitVec.xor_self]
            · simp only [if_neg h2]
              rw [hz i uX hi]; rfl
          obtain ⟨u, hu⟩ := h.kept.back
          have h2 : eqM n (mm n m (fun k _ => P k)) (fun _ _ => 0#8) := by
            refine (deltaM n _).symm.trans ((mm_eq hu.symm (eqM.refl n _)).trans ?_)
            refine (assocM n u (v 1) (mm n m (fun k _ => P k))).trans ((mm_eq (eqM.refl n u) ((assocM n (v 1) m _).symm.trans ((mm_eq h.kept.prod (eqM.refl n _)).trans h1))).trans (mm_zero n u))
          refine .inr ⟨P, ⟨c, uX, ?_⟩, fun i hi => h2 i 0 hi uX⟩
          rw [hP, hq]
          simp only [if_neg (Nat.lt_irrefl c), delta_self]
          decide
        · obtain ⟨i, hi⟩ := Classical.not_forall.1 hz
          obtain ⟨hci, hi⟩ := Classical.not_imp.1 hi
          obtain ⟨hin, hi⟩ := Classical.not_imp.1 hi
          obtain ⟨v', h'⟩ := clear_all uX n (h.turn uX hin hci hi)
          exact .inl ⟨v', h'.next⟩
      · exact .inr h
  rcases step n (Nat.le_refl _) with ⟨v, h⟩ | h
  · exact .inl ⟨_, h.done.1⟩
  · exact .inr h
/-- powers, a row for each number. -/
def van (x : Nat → F) : Nat → Nat → F := fun i k => fp (x i) k
theorem van_inv (n : Nat) (x : Nat → F) (hx : ∀ i j, i < n → j < n → x i = x j → i = j) : ∃ y, eqM n (mm n y (van x)) delta := by
  rcases kernel_or n (van x) with h | ⟨P, ⟨c, hc, hne⟩, hP⟩
  · exact h
  · exact absurd (roots n P x hx hP c hc) hne
def num (i : Nat) : F := BitVec.ofNat 8 i
theorem num_inj {i j : Nat} (hi : i < 256) (hj : j < 256) (h : num i = num j) : i = j := by
  have h1 := congrArg BitVec.toNat h
  unfold num at h1
  rw [BitVec.toNat_ofNat, BitVec.toNat_ofNat, Nat.mod_eq_of_lt uX, Nat.mod_eq_of_lt uX] at h1
  exact h1
open Classical in
/-- what turns the powers of the first numbers back. -/
noncomputable def back (d : Nat) : Nat → Nat → F := if h : ∃ y, eqM d (mm d y (van num)) delta then Classical.choose h else delta
theorem back_left {d : Nat} (hd : d ≤ 12) : eqM d (mm d (back d) (van num)) delta := by
  have h := van_inv d num (fun i j hi hj => num_inj uX uX)
  unfold back
  rw [dif_pos h]
  exact Classical.choose_spec h
theorem back_right {d : Nat} (hd : d ≤ 12) : eqM d (mm d (van num) (back d)) delta := right_of_left (back_left hd)
/-- the code's matrix: rows without end. -/
noncomputable def code (d : Nat) : Nat → Nat → F := mm d (van num) (back d)
theorem code_top {d : Nat} (hd : d ≤ 12) : ∀ i j, i < d → j < d → code d i j = delta i j := back_right hd
/-- a matrix that does to the powers what it does is it. -/
theorem code_one {d : Nat} (hd : d ≤ 12) (L : Nat → Nat → F) (i : Nat) (h : ∀ j, j < d → mm d L (van num) i j = van num i j) (j : Nat) (hj : j < d) : L i j = code d i j := by
  have h1 : mm d L delta i j = mm d L (mm d (van num) (back d)) i j := mm_congr d _ _ _ _ i j (fun _ _ => rfl) (fun k hk => (back_right hd k j hk hj).symm)
  rw [mm_delta d L i j hj, ← mm_assoc] at h1
  rw [h1]
  exact mm_congr d _ _ _ _ i j (fun k hk => h k hk) (fun _ _ => rfl)
/-- distinct rows of it have an inverse. -/
theorem code_rows {d : Nat} (hd : d ≤ 12) (s : Nat → Nat) (hs : ∀ i, i < d → s i < 256) (hi : ∀ i j, i < d → j < d → s i = s j → i = j) : ∃ y, eqM d (mm d y (fun i j => code d (s i) j)) delta := by
  obtain ⟨z, hz⟩ := van_inv d (fun i => num (s i)) (fun i j h1 h2 e => hi i j h1 h2 (num_inj (hs i h1) (hs j h2) e))
  refine ⟨mm d (van num) z, ?_⟩
  have e : eqM d (fun i j => code d (s i) j) (mm d (van (fun i => num (s i))) (back d)) := fun i j _ _ => rfl
  refine (mm_eq (eqM.refl d _) e).trans ((assocM d (van num) z _).trans ?_)
  refine (mm_eq (eqM.refl d (van num)) ((assocM d z _ (back d)).symm.trans ((mm_eq hz (eqM.refl d (back d))).trans (deltaM d (back d))))).trans (back_right hd)
end Go.Proofs.Ytaahnicjjpddjaa.Fld
end
section
namespace Go.Proofs.Ytaahnicjjpddjaa.GGen
open Go.Proofs.Ytaahnicjjpddjaa.Fn
open Go.Proofs.Ytaahnicjjpddjaa
open Go.RowKit Go.Proofs.YtaahnicjjpddjaaW.PrintWords Go.Proofs.YtaahnicjjpddjaaW.PrintLast
set_option linter.unusedVariables false
set_option linter.unusedSimpArgs false
noncomputable def errW : Option Int → Value
 | none => .nilIface
 | some c => .iface 0 (.int .i64 c)
theorem errW_none : errW none = .nilIface := rfl
theorem errW_some (c : Int) : errW (some c) = .iface 0 (.int .i64 c) := rfl
theorem info3 : (Try.prog.info? 3).map (fun i => (i.zero, i.size, i.bytes)) = some (some (.int .i64 0), 1, 8) := by kernel_rfl
theorem info25 : (Try.prog.info? 25).map (fun i => (i.zero, i.size, i.bytes)) = some (some (.slice none 0 0), 1, 24) := by kernel_rfl
noncomputable def rd_L2 (xs : List (List Int)) (i : Int) : (List Int) := xs.getD i.toNat ([] : List Int)
theorem at_L2 {w : World} {A : Option Addr} {n : Nat} {xs : List (List Int)} (h : Kd.C (Kd.slice 3 (Kd.int .i64)) w A n xs) (i : Int) (h0 : 0 ≤ i) (h1 : i < n) : ∃ ad A0 c0, A = some ad ∧ w.cell? (ad.add i.toNat) = some (.slice A0 (rd_L2 xs i).length c0) ∧ (rd_L2 xs i).length ≤ c0 ∧ (Kd.int .i64).C w A0 (rd_L2 xs i).length (rd_L2 xs i) := by
 obtain ⟨ad, c, e, _, hK, hc0⟩ := Kd.C_get h ([] : List Int) i h0 h1
 have hc : ∀ j u, c[j]? = some u → w.cell? (ad.add (i.toNat * 1 + j)) = some u := hc0
 obtain ⟨A0, c0, rfl, l0, g0⟩ := hK
 exact ⟨ad, A0, c0, e, uG, l0, g0⟩
end Go.Proofs.Ytaahnicjjpddjaa.GGen
end
