/- Numbers, rows that are none: what the call of the law comes to, at every number. -/
import Derived.Test.YthglackkhajapaaCombFormsW
import Derived.Test.YthglackkhajapaaNum
namespace Go.Proofs.Ythglackkhajapaa.CombF
open Go.RowKit Go.Proofs.YthglackkhajapaaW.PrintWords Go.Proofs.YthglackkhajapaaW.PrintLast Go.Proofs.YthglackkhajapaaW.PrintMore Go.Proofs.Ythglackkhajapaa.Fld Go.Proofs.Ythglackkhajapaa.GCombineLinear Go.Proofs.Ythglackkhajapaa.CombineLinearGf Go.Proofs.Ythglackkhajapaa.CombineLinearVec Go.Proofs.Ythglackkhajapaa
theorem mod_u (x : Int) (n : Nat) (h1 : 1 ≤ n) (h2 : n ≤ 64) : ∃ r : Nat, r < n ∧ wrap64 (Int.tmod (IntKind.u64.wrap x) (n : Int)) = (r : Int) := by
  have hw : IntKind.u64.wrap x = x % 18446744073709551616 := rfl
  have h3 := Int.emod_nonneg x (show (18446744073709551616 : Int) ≠ 0 by omega)
  have h4 : Int.tmod (x % 18446744073709551616) (n : Int) = (x % 18446744073709551616) % (n : Int) := Int.tmod_eq_emod_of_nonneg h3
  have h5 := Int.emod_nonneg (x % 18446744073709551616) (show (n : Int) ≠ 0 by omega)
  have h6 := Int.emod_lt_of_pos (x % 18446744073709551616) (show (0 : Int) < n by omega)
  refine ⟨((x % 18446744073709551616) % (n : Int)).toNat, by omega, ?_⟩
  rw [hw, h4, wrap64_in (by omega) (by omega)]
  omega
theorem cl_awake {k : Nat} (hk : 60000 < k) : ossuarylaw2_awake.f k = some true := by
  unfold ossuarylaw2_awake.f
  rw [vcomb hk _ _ (by decide), vcomb hk _ _ (by decide), vcomb hk _ _ (by decide)]
  have e1 : combine [1, 2] [⟨#[97, 98]⟩, ⟨#[128, 1]⟩] = (⟨#[124, 96]⟩, 0) := by decide +kernel
  have e2 : combine [1] [⟨#[97]⟩, ⟨#[98]⟩] = (noStr, 200) := by decide +kernel
  have e3 : combine [] [] = (noStr, 200) := by decide +kernel
  rw [e1, e2, e3]
  have num_f : ∀ n : Int, ossuarylaw0_Num.f n = some n := fun _ => rfl
  simp only [Option.bind_some, num_f]
  rw [if_pos (by decide +kernel), if_pos trivial, if_pos trivial]
  rfl
theorem calls (a0 a1 : Int) (r : Bool) (w : World) (h : r = true) : Calls Try.prog 10 #[.int .i64 a0, .int .i64 a1] w fun e w' => e = .returned (.bool r) ∧ Below w.heap.size w w' := by
  subst h
  obtain ⟨b, hb⟩ : ∃ b, Go.bits .and .i64 a1 1023 = b := ⟨_, rfl⟩
  have hb0 : 0 ≤ b ∧ b < 1024 := by rw [← hb, and_1023]; omega
  have hc : wrap64 (1 + b) = 1 + b := wrap64_in (by omega) (by omega)
  have hn : wrap64 (4096 + (1 + b)) = 4096 + (1 + b) := wrap64_in (by omega) (by omega)
  have hn1 : wrap64 (255 + (1 + b)) = 255 + (1 + b) := wrap64_in (by omega) (by omega)
  have hn2 : wrap64 (-(1 + b)) = -(1 + b) := wrap64_in (by omega) (by omega)
  obtain ⟨q, hq, e⟩ := mod_u a0 7 (by omega) (by omega)
  rw [show ((7 : Nat) : Int) = 7 from rfl] at e
  exact walk 60001 (q : Int) a0 a1 b (1 + b) _ _ _ _ w (cl_awake (by omega)) hb e (by omega) hc hn hn1 hn2 rfl rfl (by omega) (by omega) (by omega) (by omega) rfl (by rw [strOfNums_size, List.length_replicate]; omega)
end Go.Proofs.Ythglackkhajapaa.CombF
