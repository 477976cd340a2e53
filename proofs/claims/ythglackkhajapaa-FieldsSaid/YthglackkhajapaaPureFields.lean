/- The program's sums, products, inverses and powers are the document's, at every input. -/
import Derived.Test.YthglackkhajapaaPFieldsx2
import Derived.Test.YthglackkhajapaaFieldsGf
namespace Go.Proofs.Ythglackkhajapaa.Pure
open Go.RowKit Go.Proofs.Ythglackkhajapaa.PFields Go.Proofs.YthglackkhajapaaW.PrintWords Go.Proofs.YthglackkhajapaaW.PrintLast Go.Proofs.Ythglackkhajapaa.Fld Go.Proofs.Ythglackkhajapaa.FieldsGf

theorem fields_pair (k : Nat) (hk : 1020 < k) (a b : Int) :
    (∃ r, gf_Add.f a b = some r ∧ ossuaryref1_Add.f a b = some r) ∧ (∃ r, gf_Mul.f k a b = some r ∧ ossuaryref1_Mul.f k a b = some r) := by
  by_cases ha : 0 ≤ a ∧ a < 256
  · by_cases hb : 0 ≤ b ∧ b < 256
    · obtain ⟨x, rfl⟩ := ex_toI ha.1 ha.2
      obtain ⟨y, rfl⟩ := ex_toI hb.1 hb.2
      exact ⟨⟨_, gadd_f x y, radd_f x y⟩, ⟨_, gmul_f (by omega) x y, rMul_f (by omega) x y⟩⟩
    · exact ⟨⟨_, gadd_no (by omega), radd_no (by omega)⟩, ⟨_, gmul_no (by omega), rMul_no (by omega)⟩⟩
  · exact ⟨⟨_, gadd_no (by omega), radd_no (by omega)⟩, ⟨_, gmul_no (by omega), rMul_no (by omega)⟩⟩

theorem fields_inv (k : Nat) (hk : 1020 < k) (a : Int) : ∃ r, gf_Inv.f k a = some r ∧ ossuaryref1_Inv.f k a = some r := by
  by_cases ha : 0 ≤ a ∧ a < 256
  · obtain ⟨x, rfl⟩ := ex_toI ha.1 ha.2
    by_cases h0 : x = 0#8
    · subst h0
      exact ⟨_, ginv_zero, rInv_zero⟩
    · exact ⟨_, ginv_f (by omega) x h0, rInv_f (by omega) x h0⟩
  · exact ⟨_, ginv_no (by omega), rInv_no (by omega)⟩

theorem fields_pow (k : Nat) (hk : 1020 < k) (a e : Int) : ∃ r, gf_Pow.f k a e = some r ∧ ossuaryref1_Pow.f k a e = some r := by
  by_cases ha : 0 ≤ a ∧ a < 256
  · obtain ⟨x, rfl⟩ := ex_toI ha.1 ha.2
    by_cases he : 0 ≤ e ∧ e ≤ 1000
    · obtain ⟨n, rfl⟩ := Int.eq_ofNat_of_zero_le he.1
      exact ⟨_, gpow_f (by omega) x n (by omega), rPow_f (by omega) x n (by omega)⟩
    · have := toI_lo x; have := toI_hi x
      exact ⟨_, gpow_no (by omega), rPow_no (by omega) (by omega)⟩
  · exact ⟨_, gpow_no (by omega), rPow_no (by omega) (by omega)⟩

theorem Fields : ossuarylaw1_Fields.Pure := by
  intro a b e _ _ _
  refine ⟨1100, ?_⟩
  obtain ⟨⟨r1, p1, q1⟩, ⟨r2, p2, q2⟩⟩ := fields_pair 1100 (by omega) a b
  obtain ⟨r3, p3, q3⟩ := fields_inv 1100 (by omega) a
  obtain ⟨r4, p4, q4⟩ := fields_pow 1100 (by omega) a e
  unfold ossuarylaw1_Fields.f
  simp only [p1, q1, p2, q2, p3, q3, p4, q4, Option.bind_some, if_true, num_f, awake1 (show 19 < 1100 by omega)]

end Go.Proofs.Ythglackkhajapaa.Pure
