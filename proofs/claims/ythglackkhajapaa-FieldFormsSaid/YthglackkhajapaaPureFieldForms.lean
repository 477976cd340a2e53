/- Numbers and exponents that are none are refused: at every input. -/
import Derived.Test.YthglackkhajapaaPFieldFormsx2
import Derived.Test.YthglackkhajapaaFieldFormsGf
namespace Go.Proofs.Ythglackkhajapaa.Pure
open Go.RowKit Go.Proofs.Ythglackkhajapaa.PFieldForms Go.Proofs.YthglackkhajapaaW.PrintWords Go.Proofs.YthglackkhajapaaW.PrintLast Go.Proofs.Ythglackkhajapaa.Fld Go.Proofs.Ythglackkhajapaa.FieldFormsGf

theorem FieldForms : ossuarylaw1_FieldForms.Pure := by
  intro a _
  refine ⟨1100, ?_⟩
  unfold ossuarylaw1_FieldForms.f
  rw [and_1023]
  obtain ⟨d, hd, h0, h1⟩ : ∃ d : Int, wrap64 (1 + a % 1024) = d ∧ 1 ≤ d ∧ d ≤ 1024 := ⟨1 + a % 1024, wrap64_in (by omega) (by omega), by omega, by omega⟩
  rw [hd, wrap64_in (n := 255 + d) (by omega) (by omega), wrap64_in (n := -d) (by omega) (by omega), wrap64_in (n := 1000 + d) (by omega) (by omega)]
  have e1 : gf_Add.f (255 + d) 1 = some (0, 100) := gadd_no (by omega)
  have e2 : gf_Add.f 1 (-d) = some (0, 100) := gadd_no (by omega)
  have e3 : gf_Mul.f 1100 (-d) 1 = some (0, 100) := gmul_no (by omega)
  have e4 : gf_Mul.f 1100 1 (255 + d) = some (0, 100) := gmul_no (by omega)
  have e5 : gf_Inv.f 1100 (-d) = some (0, 100) := ginv_no (by omega)
  have e6 : gf_Inv.f 1100 (255 + d) = some (0, 100) := ginv_no (by omega)
  have e7 : gf_Pow.f 1100 (255 + d) 1 = some (0, 100) := gpow_no (by omega)
  have e8 : gf_Pow.f 1100 1 (-d) = some (0, 100) := gpow_no (by omega)
  have e9 : gf_Pow.f 1100 1 (1000 + d) = some (0, 100) := gpow_no (by omega)
  simp only [awake1 (show 19 < 1100 by omega), e1, e2, e3, e4, e5, e6, e7, e8, e9, ginv_zero, Option.bind_some, if_true, num_f]
  rfl

end Go.Proofs.Ythglackkhajapaa.Pure
