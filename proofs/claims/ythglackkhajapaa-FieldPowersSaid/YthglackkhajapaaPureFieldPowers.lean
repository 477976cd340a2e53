/- The powers of 2 go through all numbers but 0, come to 1 behind 255, and are multiplied by adding exponents: at every input. -/
import Derived.Test.YthglackkhajapaaPFieldPowersx2
import Derived.Test.YthglackkhajapaaFieldPowersGf
namespace Go.Proofs.Ythglackkhajapaa.Pure
open Go.RowKit Go.Proofs.Ythglackkhajapaa.PFieldPowers Go.Proofs.YthglackkhajapaaW.PrintWords Go.Proofs.YthglackkhajapaaW.PrintLast Go.Proofs.Ythglackkhajapaa.Fld Go.Proofs.Ythglackkhajapaa.FieldPowersGf

theorem fp_mod (a : Int) : ∃ i : Nat, i < 255 ∧ wrap64 (Int.tmod (IntKind.u64.wrap a) 255) = (i : Int) := by
  have h0 : 0 ≤ IntKind.u64.wrap a := by
    simp [IntKind.wrap, IntKind.bits, IntKind.signed]
    exact Int.emod_nonneg _ (by decide)
  have h1 : Int.tmod (IntKind.u64.wrap a) 255 = IntKind.u64.wrap a % 255 := Int.tmod_eq_emod_of_nonneg h0
  rw [h1]
  refine ⟨(IntKind.u64.wrap a % 255).toNat, by omega, ?_⟩
  rw [wrap64_in (by omega) (by omega)]
  omega

theorem FieldPowers : ossuarylaw1_FieldPowers.Pure := by
  intro a b _ _
  refine ⟨1100, ?_⟩
  unfold ossuarylaw1_FieldPowers.f
  obtain ⟨i, hi, ei⟩ := fp_mod a
  obtain ⟨j, hj, ej⟩ := fp_mod b
  rw [ei, ej, wrap64_in (n := (i : Int) + j) (by omega) (by omega), wrap64_in (n := (i : Int) + 255) (by omega) (by omega)]
  have p : ∀ n : Nat, n ≤ 1000 → gf_Pow.f 1100 2 (n : Int) = some (toI (E n), 0) := fun n hn => by
    have := gpow_f (show 19 < 1100 by omega) 2#8 n hn
    rwa [two_E] at this
  have p1 := p i (by omega)
  have p2 := p j (by omega)
  have p3 := p (i + j) (by omega)
  have p4 := p (i + 255) (by omega)
  rw [Int.natCast_add] at p3 p4
  rw [show ((255 : Nat) : Int) = 255 from rfl] at p4
  have hne : ¬ toI (E i) = 0 := fun e => E_ne i ((toI_eq_zero _).1 e)
  simp only [awake1 (show 19 < 1100 by omega), p1, p2, p3, p4, gmul_f (show 8 < 1100 by omega), E_E, E_add_255, Option.bind_some, if_true, num_f, if_neg hne]
  have e1 : (toI (E i) == toI (E j)) = ((i : Int) == (j : Int)) := by
    rw [Bool.eq_iff_iff, beq_iff_eq, beq_iff_eq]
    constructor
    · intro h
      have := E_inj_255 i j hi hj (toI_inj h)
      rw [this]
    · intro h
      have : i = j := by omega
      rw [this]
  rw [e1]; simp

end Go.Proofs.Ythglackkhajapaa.Pure
