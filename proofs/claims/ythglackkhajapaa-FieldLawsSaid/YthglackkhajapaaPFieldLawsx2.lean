-- PRINTED BY print.sh 35421559b90ae4d0a3588c463048766b98c2df88dd9212a6774a882060cdf62d: not written by this session
import Derived.Test.YthglackkhajapaaPFieldLawsx0
import Derived.Test.YthglackkhajapaaPFieldLawsx1
namespace Go.Proofs.Ythglackkhajapaa.PFieldLaws
open Go.RowKit Go.Proofs.YthglackkhajapaaW.PrintWords Go.Proofs.YthglackkhajapaaW.PrintLast Go.Proofs.YthglackkhajapaaW.PrintMore
attribute [local go_sem] max2_int min2_int max_two min_two max_three min_three max_four min_four   -- for this text's walks alone
set_option linter.unusedVariables false
set_option linter.unusedSimpArgs false

/-! ### ossuarylaw1_FieldLaws: function 13 -/
def ossuarylaw1_FieldLaws.j0 : Nat → Int → Int → Int → Int → Int → Int → Int → Int → Bool → Option (Bool)
  | 0, _, _, _, _, _, _, _, _, _ => none
  | k + 1, x7, x8, x10, x12, x18, x20, x24, x26, x136 => if x136 = true then (some false) else (if x7 > 0 then ((gf_Inv.f k x7).bind fun bt159 => ((gf_Mul.f k bt159.1 x10).bind fun bt161 => ((ossuarylaw0_Num.f bt159.2).bind fun t163 => (if t163 = 0 then ((ossuarylaw0_Num.f bt161.2).bind fun t164 => (if t164 = 0 then (if bt161.1 = x8 then (if x10 = x12 then (if x18 = x20 then (if x24 = x26 then (if x10 ≥ 0 then (if x10 ≤ 255 then (if x7 = 0 then (some ((x10 == 0) == true)) else (some ((x10 == 0) == (x8 == 0)))) else (some false)) else (some false)) else (some false)) else (some false)) else (some false)) else (some false)) else (some false))) else (some false))))) else (if x10 = x12 then (if x18 = x20 then (if x24 = x26 then (if x10 ≥ 0 then (if x10 ≤ 255 then (if x7 = 0 then (some ((x10 == 0) == true)) else (some ((x10 == 0) == (x8 == 0)))) else (some false)) else (some false)) else (some false)) else (some false)) else (some false)))
def ossuarylaw1_FieldLaws.f (k : Nat) (a0 : Int) (a1 : Int) (a2 : Int) : Option (Bool) := (ossuarylaw1_awake.f k).bind fun t131 => (if t131 = true then ((gf_Mul.f k (Go.bits .and .i64 a0 255) (Go.bits .and .i64 a1 255)).bind fun bt132 => ((gf_Mul.f k (Go.bits .and .i64 a1 255) (Go.bits .and .i64 a0 255)).bind fun bt134 => ((gf_Mul.f k (Go.bits .and .i64 a0 255) (Go.bits .and .i64 a2 255)).bind fun bt136 => ((gf_Mul.f k (Go.bits .and .i64 a1 255) (Go.bits .and .i64 a2 255)).bind fun bt138 => ((gf_Mul.f k bt132.1 (Go.bits .and .i64 a2 255)).bind fun bt140 => ((gf_Mul.f k (Go.bits .and .i64 a0 255) bt138.1).bind fun bt142 => ((gf_Add.f (Go.bits .and .i64 a1 255) (Go.bits .and .i64 a2 255)).bind fun bt144 => ((gf_Mul.f k (Go.bits .and .i64 a0 255) bt144.1).bind fun bt146 => ((gf_Add.f bt132.1 bt136.1).bind fun bt148 => ((ossuarylaw0_Num.f bt132.2).bind fun t150 => (if t150 = 0 then ((ossuarylaw0_Num.f bt134.2).bind fun t151 => (if t151 = 0 then ((ossuarylaw0_Num.f bt136.2).bind fun t152 => (if t152 = 0 then ((ossuarylaw0_Num.f bt138.2).bind fun t153 => (if t153 = 0 then ((ossuarylaw0_Num.f bt140.2).bind fun t154 => (if t154 = 0 then ((ossuarylaw0_Num.f bt142.2).bind fun t155 => (if t155 = 0 then ((ossuarylaw0_Num.f bt144.2).bind fun t156 => (if t156 = 0 then ((ossuarylaw0_Num.f bt146.2).bind fun t157 => (if t157 = 0 then ((ossuarylaw0_Num.f bt148.2).bind fun t158 => (ossuarylaw1_FieldLaws.j0 k (Go.bits .and .i64 a0 255) (Go.bits .and .i64 a1 255) bt132.1 bt134.1 bt140.1 bt142.1 bt146.1 bt148.1 (t158 != 0))) else (ossuarylaw1_FieldLaws.j0 k (Go.bits .and .i64 a0 255) (Go.bits .and .i64 a1 255) bt132.1 bt134.1 bt140.1 bt142.1 bt146.1 bt148.1 true))) else (ossuarylaw1_FieldLaws.j0 k (Go.bits .and .i64 a0 255) (Go.bits .and .i64 a1 255) bt132.1 bt134.1 bt140.1 bt142.1 bt146.1 bt148.1 true))) else (ossuarylaw1_FieldLaws.j0 k (Go.bits .and .i64 a0 255) (Go.bits .and .i64 a1 255) bt132.1 bt134.1 bt140.1 bt142.1 bt146.1 bt148.1 true))) else (ossuarylaw1_FieldLaws.j0 k (Go.bits .and .i64 a0 255) (Go.bits .and .i64 a1 255) bt132.1 bt134.1 bt140.1 bt142.1 bt146.1 bt148.1 true))) else (ossuarylaw1_FieldLaws.j0 k (Go.bits .and .i64 a0 255) (Go.bits .and .i64 a1 255) bt132.1 bt134.1 bt140.1 bt142.1 bt146.1 bt148.1 true))) else (ossuarylaw1_FieldLaws.j0 k (Go.bits .and .i64 a0 255) (Go.bits .and .i64 a1 255) bt132.1 bt134.1 bt140.1 bt142.1 bt146.1 bt148.1 true))) else (ossuarylaw1_FieldLaws.j0 k (Go.bits .and .i64 a0 255) (Go.bits .and .i64 a1 255) bt132.1 bt134.1 bt140.1 bt142.1 bt146.1 bt148.1 true))) else (ossuarylaw1_FieldLaws.j0 k (Go.bits .and .i64 a0 255) (Go.bits .and .i64 a1 255) bt132.1 bt134.1 bt140.1 bt142.1 bt146.1 bt148.1 true)))))))))))) else (some false))
theorem ossuarylaw1_FieldLaws.mono_l : ∀ k, (∀ y0 y1 y2 y3 y4 y5 y6 y7 y8, LeO (ossuarylaw1_FieldLaws.j0 k y0 y1 y2 y3 y4 y5 y6 y7 y8) (ossuarylaw1_FieldLaws.j0 (k + 1) y0 y1 y2 y3 y4 y5 y6 y7 y8))
  | 0 => fun _ _ _ _ _ _ _ _ _ r h => by simp [ossuarylaw1_FieldLaws.j0] at h
  | k + 1 => by
    have ih0 := ossuarylaw1_FieldLaws.mono_l k
    · intro y0 y1 y2 y3 y4 y5 y6 y7 y8
      unfold ossuarylaw1_FieldLaws.j0
      repeat' first
      | (with_reducible exact ih0 _ _ _ _ _ _ _ _ _)
      | (with_reducible exact gf_Inv.mono _ _)
      | (with_reducible exact gf_Mul.mono _ _ _)
      | (with_reducible exact ossuarylaw1_awake.mono _)
      | (with_reducible exact LeO.refl _)
      | (with_reducible exact LeO.none _)
      | (with_reducible refine LeO.ite ?_ ?_)
      | (with_reducible refine LeO.bind ?_ (fun _ => ?_))
      | exact ih0 _ _ _ _ _ _ _ _ _
      | exact gf_Inv.mono _ _
      | exact gf_Mul.mono _ _ _
      | exact ossuarylaw1_awake.mono _
      | exact LeO.none _
      | refine LeO.ite ?_ ?_
      | refine LeO.bind ?_ (fun _ => ?_)
theorem ossuarylaw1_FieldLaws.mono : ∀ a0 a1 a2 k, LeO (ossuarylaw1_FieldLaws.f k a0 a1 a2) (ossuarylaw1_FieldLaws.f (k + 1) a0 a1 a2) := by
  intro a0 a1 a2 k
  have ih0 := ossuarylaw1_FieldLaws.mono_l k
  unfold ossuarylaw1_FieldLaws.f
  repeat' first
      | (with_reducible exact ih0 _ _ _ _ _ _ _ _ _)
      | (with_reducible exact gf_Inv.mono _ _)
      | (with_reducible exact gf_Mul.mono _ _ _)
      | (with_reducible exact ossuarylaw1_awake.mono _)
      | (with_reducible exact LeO.refl _)
      | (with_reducible exact LeO.none _)
      | (with_reducible refine LeO.ite ?_ ?_)
      | (with_reducible refine LeO.bind ?_ (fun _ => ?_))
      | exact ih0 _ _ _ _ _ _ _ _ _
      | exact gf_Inv.mono _ _
      | exact gf_Mul.mono _ _ _
      | exact ossuarylaw1_awake.mono _
      | exact LeO.none _
      | refine LeO.ite ?_ ?_
      | refine LeO.bind ?_ (fun _ => ?_)
set_option maxHeartbeats 8000000 in
set_option maxRecDepth 100000 in
theorem ossuarylaw1_FieldLaws.calls (k : Nat) (a0 : Int) (a1 : Int) (a2 : Int) (r : Bool) (w : World) (h : ossuarylaw1_FieldLaws.f k a0 a1 a2 = some r) :
    Calls Try.prog 13 #[.int .i64 a0, .int .i64 a1, .int .i64 a2] w fun e w' => e = .returned (.bool r) ∧ Drawn0 w w' := by
  have H : ((ossuarylaw1_awake.f k).bind fun t131 => (if t131 = true then ((gf_Mul.f k (Go.bits .and .i64 a0 255) (Go.bits .and .i64 a1 255)).bind fun bt132 => ((gf_Mul.f k (Go.bits .and .i64 a1 255) (Go.bits .and .i64 a0 255)).bind fun bt134 => ((gf_Mul.f k (Go.bits .and .i64 a0 255) (Go.bits .and .i64 a2 255)).bind fun bt136 => ((gf_Mul.f k (Go.bits .and .i64 a1 255) (Go.bits .and .i64 a2 255)).bind fun bt138 => ((gf_Mul.f k bt132.1 (Go.bits .and .i64 a2 255)).bind fun bt140 => ((gf_Mul.f k (Go.bits .and .i64 a0 255) bt138.1).bind fun bt142 => ((gf_Add.f (Go.bits .and .i64 a1 255) (Go.bits .and .i64 a2 255)).bind fun bt144 => ((gf_Mul.f k (Go.bits .and .i64 a0 255) bt144.1).bind fun bt146 => ((gf_Add.f bt132.1 bt136.1).bind fun bt148 => ((ossuarylaw0_Num.f bt132.2).bind fun t150 => (if t150 = 0 then ((ossuarylaw0_Num.f bt134.2).bind fun t151 => (if t151 = 0 then ((ossuarylaw0_Num.f bt136.2).bind fun t152 => (if t152 = 0 then ((ossuarylaw0_Num.f bt138.2).bind fun t153 => (if t153 = 0 then ((ossuarylaw0_Num.f bt140.2).bind fun t154 => (if t154 = 0 then ((ossuarylaw0_Num.f bt142.2).bind fun t155 => (if t155 = 0 then ((ossuarylaw0_Num.f bt144.2).bind fun t156 => (if t156 = 0 then ((ossuarylaw0_Num.f bt146.2).bind fun t157 => (if t157 = 0 then ((ossuarylaw0_Num.f bt148.2).bind fun t158 => (ossuarylaw1_FieldLaws.j0 k (Go.bits .and .i64 a0 255) (Go.bits .and .i64 a1 255) bt132.1 bt134.1 bt140.1 bt142.1 bt146.1 bt148.1 (t158 != 0))) else (ossuarylaw1_FieldLaws.j0 k (Go.bits .and .i64 a0 255) (Go.bits .and .i64 a1 255) bt132.1 bt134.1 bt140.1 bt142.1 bt146.1 bt148.1 true))) else (ossuarylaw1_FieldLaws.j0 k (Go.bits .and .i64 a0 255) (Go.bits .and .i64 a1 255) bt132.1 bt134.1 bt140.1 bt142.1 bt146.1 bt148.1 true))) else (ossuarylaw1_FieldLaws.j0 k (Go.bits .and .i64 a0 255) (Go.bits .and .i64 a1 255) bt132.1 bt134.1 bt140.1 bt142.1 bt146.1 bt148.1 true))) else (ossuarylaw1_FieldLaws.j0 k (Go.bits .and .i64 a0 255) (Go.bits .and .i64 a1 255) bt132.1 bt134.1 bt140.1 bt142.1 bt146.1 bt148.1 true))) else (ossuarylaw1_FieldLaws.j0 k (Go.bits .and .i64 a0 255) (Go.bits .and .i64 a1 255) bt132.1 bt134.1 bt140.1 bt142.1 bt146.1 bt148.1 true))) else (ossuarylaw1_FieldLaws.j0 k (Go.bits .and .i64 a0 255) (Go.bits .and .i64 a1 255) bt132.1 bt134.1 bt140.1 bt142.1 bt146.1 bt148.1 true))) else (ossuarylaw1_FieldLaws.j0 k (Go.bits .and .i64 a0 255) (Go.bits .and .i64 a1 255) bt132.1 bt134.1 bt140.1 bt142.1 bt146.1 bt148.1 true))) else (ossuarylaw1_FieldLaws.j0 k (Go.bits .and .i64 a0 255) (Go.bits .and .i64 a1 255) bt132.1 bt134.1 bt140.1 bt142.1 bt146.1 bt148.1 true)))))))))))) else (some false))) = some r := h
  clear h
  replace H := Option.bind_eq_some_iff.mp H
  obtain ⟨t131, A40, H⟩ := H
  replace H : (if t131 = true then ((gf_Mul.f k (Go.bits .and .i64 a0 255) (Go.bits .and .i64 a1 255)).bind fun bt132 => ((gf_Mul.f k (Go.bits .and .i64 a1 255) (Go.bits .and .i64 a0 255)).bind fun bt134 => ((gf_Mul.f k (Go.bits .and .i64 a0 255) (Go.bits .and .i64 a2 255)).bind fun bt136 => ((gf_Mul.f k (Go.bits .and .i64 a1 255) (Go.bits .and .i64 a2 255)).bind fun bt138 => ((gf_Mul.f k bt132.1 (Go.bits .and .i64 a2 255)).bind fun bt140 => ((gf_Mul.f k (Go.bits .and .i64 a0 255) bt138.1).bind fun bt142 => ((gf_Add.f (Go.bits .and .i64 a1 255) (Go.bits .and .i64 a2 255)).bind fun bt144 => ((gf_Mul.f k (Go.bits .and .i64 a0 255) bt144.1).bind fun bt146 => ((gf_Add.f bt132.1 bt136.1).bind fun bt148 => ((ossuarylaw0_Num.f bt132.2).bind fun t150 => (if t150 = 0 then ((ossuarylaw0_Num.f bt134.2).bind fun t151 => (if t151 = 0 then ((ossuarylaw0_Num.f bt136.2).bind fun t152 => (if t152 = 0 then ((ossuarylaw0_Num.f bt138.2).bind fun t153 => (if t153 = 0 then ((ossuarylaw0_Num.f bt140.2).bind fun t154 => (if t154 = 0 then ((ossuarylaw0_Num.f bt142.2).bind fun t155 => (if t155 = 0 then ((ossuarylaw0_Num.f bt144.2).bind fun t156 => (if t156 = 0 then ((ossuarylaw0_Num.f bt146.2).bind fun t157 => (if t157 = 0 then ((ossuarylaw0_Num.f bt148.2).bind fun t158 => (ossuarylaw1_FieldLaws.j0 k (Go.bits .and .i64 a0 255) (Go.bits .and .i64 a1 255) bt132.1 bt134.1 bt140.1 bt142.1 bt146.1 bt148.1 (t158 != 0))) else (ossuarylaw1_FieldLaws.j0 k (Go.bits .and .i64 a0 255) (Go.bits .and .i64 a1 255) bt132.1 bt134.1 bt140.1 bt142.1 bt146.1 bt148.1 true))) else (ossuarylaw1_FieldLaws.j0 k (Go.bits .and .i64 a0 255) (Go.bits .and .i64 a1 255) bt132.1 bt134.1 bt140.1 bt142.1 bt146.1 bt148.1 true))) else (ossuarylaw1_FieldLaws.j0 k (Go.bits .and .i64 a0 255) (Go.bits .and .i64 a1 255) bt132.1 bt134.1 bt140.1 bt142.1 bt146.1 bt148.1 true))) else (ossuarylaw1_FieldLaws.j0 k (Go.bits .and .i64 a0 255) (Go.bits .and .i64 a1 255) bt132.1 bt134.1 bt140.1 bt142.1 bt146.1 bt148.1 true))) else (ossuarylaw1_FieldLaws.j0 k (Go.bits .and .i64 a0 255) (Go.bits .and .i64 a1 255) bt132.1 bt134.1 bt140.1 bt142.1 bt146.1 bt148.1 true))) else (ossuarylaw1_FieldLaws.j0 k (Go.bits .and .i64 a0 255) (Go.bits .and .i64 a1 255) bt132.1 bt134.1 bt140.1 bt142.1 bt146.1 bt148.1 true))) else (ossuarylaw1_FieldLaws.j0 k (Go.bits .and .i64 a0 255) (Go.bits .and .i64 a1 255) bt132.1 bt134.1 bt140.1 bt142.1 bt146.1 bt148.1 true))) else (ossuarylaw1_FieldLaws.j0 k (Go.bits .and .i64 a0 255) (Go.bits .and .i64 a1 255) bt132.1 bt134.1 bt140.1 bt142.1 bt146.1 bt148.1 true)))))))))))) else (some false)) = some r := H
  have A4 := Aside0.mk A40
  clear A40
  by_cases c5 : t131 = true
  · subst c5
    have H1 : ((gf_Mul.f k (Go.bits .and .i64 a0 255) (Go.bits .and .i64 a1 255)).bind fun bt132 => ((gf_Mul.f k (Go.bits .and .i64 a1 255) (Go.bits .and .i64 a0 255)).bind fun bt134 => ((gf_Mul.f k (Go.bits .and .i64 a0 255) (Go.bits .and .i64 a2 255)).bind fun bt136 => ((gf_Mul.f k (Go.bits .and .i64 a1 255) (Go.bits .and .i64 a2 255)).bind fun bt138 => ((gf_Mul.f k bt132.1 (Go.bits .and .i64 a2 255)).bind fun bt140 => ((gf_Mul.f k (Go.bits .and .i64 a0 255) bt138.1).bind fun bt142 => ((gf_Add.f (Go.bits .and .i64 a1 255) (Go.bits .and .i64 a2 255)).bind fun bt144 => ((gf_Mul.f k (Go.bits .and .i64 a0 255) bt144.1).bind fun bt146 => ((gf_Add.f bt132.1 bt136.1).bind fun bt148 => ((ossuarylaw0_Num.f bt132.2).bind fun t150 => (if t150 = 0 then ((ossuarylaw0_Num.f bt134.2).bind fun t151 => (if t151 = 0 then ((ossuarylaw0_Num.f bt136.2).bind fun t152 => (if t152 = 0 then ((ossuarylaw0_Num.f bt138.2).bind fun t153 => (if t153 = 0 then ((ossuarylaw0_Num.f bt140.2).bind fun t154 => (if t154 = 0 then ((ossuarylaw0_Num.f bt142.2).bind fun t155 => (if t155 = 0 then ((ossuarylaw0_Num.f bt144.2).bind fun t156 => (if t156 = 0 then ((ossuarylaw0_Num.f bt146.2).bind fun t157 => (if t157 = 0 then ((ossuarylaw0_Num.f bt148.2).bind fun t158 => (ossuarylaw1_FieldLaws.j0 k (Go.bits .and .i64 a0 255) (Go.bits .and .i64 a1 255) bt132.1 bt134.1 bt140.1 bt142.1 bt146.1 bt148.1 (t158 != 0))) else (ossuarylaw1_FieldLaws.j0 k (Go.bits .and .i64 a0 255) (Go.bits .and .i64 a1 255) bt132.1 bt134.1 bt140.1 bt142.1 bt146.1 bt148.1 true))) else (ossuarylaw1_FieldLaws.j0 k (Go.bits .and .i64 a0 255) (Go.bits .and .i64 a1 255) bt132.1 bt134.1 bt140.1 bt142.1 bt146.1 bt148.1 true))) else (ossuarylaw1_FieldLaws.j0 k (Go.bits .and .i64 a0 255) (Go.bits .and .i64 a1 255) bt132.1 bt134.1 bt140.1 bt142.1 bt146.1 bt148.1 true))) else (ossuarylaw1_FieldLaws.j0 k (Go.bits .and .i64 a0 255) (Go.bits .and .i64 a1 255) bt132.1 bt134.1 bt140.1 bt142.1 bt146.1 bt148.1 true))) else (ossuarylaw1_FieldLaws.j0 k (Go.bits .and .i64 a0 255) (Go.bits .and .i64 a1 255) bt132.1 bt134.1 bt140.1 bt142.1 bt146.1 bt148.1 true))) else (ossuarylaw1_FieldLaws.j0 k (Go.bits .and .i64 a0 255) (Go.bits .and .i64 a1 255) bt132.1 bt134.1 bt140.1 bt142.1 bt146.1 bt148.1 true))) else (ossuarylaw1_FieldLaws.j0 k (Go.bits .and .i64 a0 255) (Go.bits .and .i64 a1 255) bt132.1 bt134.1 bt140.1 bt142.1 bt146.1 bt148.1 true))) else (ossuarylaw1_FieldLaws.j0 k (Go.bits .and .i64 a0 255) (Go.bits .and .i64 a1 255) bt132.1 bt134.1 bt140.1 bt142.1 bt146.1 bt148.1 true)))))))))))) = some r := by rw [if_pos rfl] at H; exact H
    clear H
    have H := H1
    clear H1
    replace H := Option.bind_eq_some_iff.mp H
    obtain ⟨⟨t132, t133⟩, A60, H⟩ := H
    replace H : ((gf_Mul.f k (Go.bits .and .i64 a1 255) (Go.bits .and .i64 a0 255)).bind fun bt134 => ((gf_Mul.f k (Go.bits .and .i64 a0 255) (Go.bits .and .i64 a2 255)).bind fun bt136 => ((gf_Mul.f k (Go.bits .and .i64 a1 255) (Go.bits .and .i64 a2 255)).bind fun bt138 => ((gf_Mul.f k t132 (Go.bits .and .i64 a2 255)).bind fun bt140 => ((gf_Mul.f k (Go.bits .and .i64 a0 255) bt138.1).bind fun bt142 => ((gf_Add.f (Go.bits .and .i64 a1 255) (Go.bits .and .i64 a2 255)).bind fun bt144 => ((gf_Mul.f k (Go.bits .and .i64 a0 255) bt144.1).bind fun bt146 => ((gf_Add.f t132 bt136.1).bind fun bt148 => ((ossuarylaw0_Num.f t133).bind fun t150 => (if t150 = 0 then ((ossuarylaw0_Num.f bt134.2).bind fun t151 => (if t151 = 0 then ((ossuarylaw0_Num.f bt136.2).bind fun t152 => (if t152 = 0 then ((ossuarylaw0_Num.f bt138.2).bind fun t153 => (if t153 = 0 then ((ossuarylaw0_Num.f bt140.2).bind fun t154 => (if t154 = 0 then ((ossuarylaw0_Num.f bt142.2).bind fun t155 => (if t155 = 0 then ((ossuarylaw0_Num.f bt144.2).bind fun t156 => (if t156 = 0 then ((ossuarylaw0_Num.f bt146.2).bind fun t157 => (if t157 = 0 then ((ossuarylaw0_Num.f bt148.2).bind fun t158 => (ossuarylaw1_FieldLaws.j0 k (Go.bits .and .i64 a0 255) (Go.bits .and .i64 a1 255) t132 bt134.1 bt140.1 bt142.1 bt146.1 bt148.1 (t158 != 0))) else (ossuarylaw1_FieldLaws.j0 k (Go.bits .and .i64 a0 255) (Go.bits .and .i64 a1 255) t132 bt134.1 bt140.1 bt142.1 bt146.1 bt148.1 true))) else (ossuarylaw1_FieldLaws.j0 k (Go.bits .and .i64 a0 255) (Go.bits .and .i64 a1 255) t132 bt134.1 bt140.1 bt142.1 bt146.1 bt148.1 true))) else (ossuarylaw1_FieldLaws.j0 k (Go.bits .and .i64 a0 255) (Go.bits .and .i64 a1 255) t132 bt134.1 bt140.1 bt142.1 bt146.1 bt148.1 true))) else (ossuarylaw1_FieldLaws.j0 k (Go.bits .and .i64 a0 255) (Go.bits .and .i64 a1 255) t132 bt134.1 bt140.1 bt142.1 bt146.1 bt148.1 true))) else (ossuarylaw1_FieldLaws.j0 k (Go.bits .and .i64 a0 255) (Go.bits .and .i64 a1 255) t132 bt134.1 bt140.1 bt142.1 bt146.1 bt148.1 true))) else (ossuarylaw1_FieldLaws.j0 k (Go.bits .and .i64 a0 255) (Go.bits .and .i64 a1 255) t132 bt134.1 bt140.1 bt142.1 bt146.1 bt148.1 true))) else (ossuarylaw1_FieldLaws.j0 k (Go.bits .and .i64 a0 255) (Go.bits .and .i64 a1 255) t132 bt134.1 bt140.1 bt142.1 bt146.1 bt148.1 true))) else (ossuarylaw1_FieldLaws.j0 k (Go.bits .and .i64 a0 255) (Go.bits .and .i64 a1 255) t132 bt134.1 bt140.1 bt142.1 bt146.1 bt148.1 true))))))))))) = some r := H
    have A6 := Aside0.mk A60
    clear A60
    replace H := Option.bind_eq_some_iff.mp H
    obtain ⟨⟨t134, t135⟩, A70, H⟩ := H
    replace H : ((gf_Mul.f k (Go.bits .and .i64 a0 255) (Go.bits .and .i64 a2 255)).bind fun bt136 => ((gf_Mul.f k (Go.bits .and .i64 a1 255) (Go.bits .and .i64 a2 255)).bind fun bt138 => ((gf_Mul.f k t132 (Go.bits .and .i64 a2 255)).bind fun bt140 => ((gf_Mul.f k (Go.bits .and .i64 a0 255) bt138.1).bind fun bt142 => ((gf_Add.f (Go.bits .and .i64 a1 255) (Go.bits .and .i64 a2 255)).bind fun bt144 => ((gf_Mul.f k (Go.bits .and .i64 a0 255) bt144.1).bind fun bt146 => ((gf_Add.f t132 bt136.1).bind fun bt148 => ((ossuarylaw0_Num.f t133).bind fun t150 => (if t150 = 0 then ((ossuarylaw0_Num.f t135).bind fun t151 => (if t151 = 0 then ((ossuarylaw0_Num.f bt136.2).bind fun t152 => (if t152 = 0 then ((ossuarylaw0_Num.f bt138.2).bind fun t153 => (if t153 = 0 then ((ossuarylaw0_Num.f bt140.2).bind fun t154 => (if t154 = 0 then ((ossuarylaw0_Num.f bt142.2).bind fun t155 => (if t155 = 0 then ((ossuarylaw0_Num.f bt144.2).bind fun t156 => (if t156 = 0 then ((ossuarylaw0_Num.f bt146.2).bind fun t157 => (if t157 = 0 then ((ossuarylaw0_Num.f bt148.2).bind fun t158 => (ossuarylaw1_FieldLaws.j0 k (Go.bits .and .i64 a0 255) (Go.bits .and .i64 a1 255) t132 t134 bt140.1 bt142.1 bt146.1 bt148.1 (t158 != 0))) else (ossuarylaw1_FieldLaws.j0 k (Go.bits .and .i64 a0 255) (Go.bits .and .i64 a1 255) t132 t134 bt140.1 bt142.1 bt146.1 bt148.1 true))) else (ossuarylaw1_FieldLaws.j0 k (Go.bits .and .i64 a0 255) (Go.bits .and .i64 a1 255) t132 t134 bt140.1 bt142.1 bt146.1 bt148.1 true))) else (ossuarylaw1_FieldLaws.j0 k (Go.bits .and .i64 a0 255) (Go.bits .and .i64 a1 255) t132 t134 bt140.1 bt142.1 bt146.1 bt148.1 true))) else (ossuarylaw1_FieldLaws.j0 k (Go.bits .and .i64 a0 255) (Go.bits .and .i64 a1 255) t132 t134 bt140.1 bt142.1 bt146.1 bt148.1 true))) else (ossuarylaw1_FieldLaws.j0 k (Go.bits .and .i64 a0 255) (Go.bits .and .i64 a1 255) t132 t134 bt140.1 bt142.1 bt146.1 bt148.1 true))) else (ossuarylaw1_FieldLaws.j0 k (Go.bits .and .i64 a0 255) (Go.bits .and .i64 a1 255) t132 t134 bt140.1 bt142.1 bt146.1 bt148.1 true))) else (ossuarylaw1_FieldLaws.j0 k (Go.bits .and .i64 a0 255) (Go.bits .and .i64 a1 255) t132 t134 bt140.1 bt142.1 bt146.1 bt148.1 true))) else (ossuarylaw1_FieldLaws.j0 k (Go.bits .and .i64 a0 255) (Go.bits .and .i64 a1 255) t132 t134 bt140.1 bt142.1 bt146.1 bt148.1 true)))))))))) = some r := H
    have A7 := Aside0.mk A70
    clear A70
    replace H := Option.bind_eq_some_iff.mp H
    obtain ⟨⟨t136, t137⟩, A80, H⟩ := H
    replace H : ((gf_Mul.f k (Go.bits .and .i64 a1 255) (Go.bits .and .i64 a2 255)).bind fun bt138 => ((gf_Mul.f k t132 (Go.bits .and .i64 a2 255)).bind fun bt140 => ((gf_Mul.f k (Go.bits .and .i64 a0 255) bt138.1).bind fun bt142 => ((gf_Add.f (Go.bits .and .i64 a1 255) (Go.bits .and .i64 a2 255)).bind fun bt144 => ((gf_Mul.f k (Go.bits .and .i64 a0 255) bt144.1).bind fun bt146 => ((gf_Add.f t132 t136).bind fun bt148 => ((ossuarylaw0_Num.f t133).bind fun t150 => (if t150 = 0 then ((ossuarylaw0_Num.f t135).bind fun t151 => (if t151 = 0 then ((ossuarylaw0_Num.f t137).bind fun t152 => (if t152 = 0 then ((ossuarylaw0_Num.f bt138.2).bind fun t153 => (if t153 = 0 then ((ossuarylaw0_Num.f bt140.2).bind fun t154 => (if t154 = 0 then ((ossuarylaw0_Num.f bt142.2).bind fun t155 => (if t155 = 0 then ((ossuarylaw0_Num.f bt144.2).bind fun t156 => (if t156 = 0 then ((ossuarylaw0_Num.f bt146.2).bind fun t157 => (if t157 = 0 then ((ossuarylaw0_Num.f bt148.2).bind fun t158 => (ossuarylaw1_FieldLaws.j0 k (Go.bits .and .i64 a0 255) (Go.bits .and .i64 a1 255) t132 t134 bt140.1 bt142.1 bt146.1 bt148.1 (t158 != 0))) else (ossuarylaw1_FieldLaws.j0 k (Go.bits .and .i64 a0 255) (Go.bits .and .i64 a1 255) t132 t134 bt140.1 bt142.1 bt146.1 bt148.1 true))) else (ossuarylaw1_FieldLaws.j0 k (Go.bits .and .i64 a0 255) (Go.bits .and .i64 a1 255) t132 t134 bt140.1 bt142.1 bt146.1 bt148.1 true))) else (ossuarylaw1_FieldLaws.j0 k (Go.bits .and .i64 a0 255) (Go.bits .and .i64 a1 255) t132 t134 bt140.1 bt142.1 bt146.1 bt148.1 true))) else (ossuarylaw1_FieldLaws.j0 k (Go.bits .and .i64 a0 255) (Go.bits .and .i64 a1 255) t132 t134 bt140.1 bt142.1 bt146.1 bt148.1 true))) else (ossuarylaw1_FieldLaws.j0 k (Go.bits .and .i64 a0 255) (Go.bits .and .i64 a1 255) t132 t134 bt140.1 bt142.1 bt146.1 bt148.1 true))) else (ossuarylaw1_FieldLaws.j0 k (Go.bits .and .i64 a0 255) (Go.bits .and .i64 a1 255) t132 t134 bt140.1 bt142.1 bt146.1 bt148.1 true))) else (ossuarylaw1_FieldLaws.j0 k (Go.bits .and .i64 a0 255) (Go.bits .and .i64 a1 255) t132 t134 bt140.1 bt142.1 bt146.1 bt148.1 true))) else (ossuarylaw1_FieldLaws.j0 k (Go.bits .and .i64 a0 255) (Go.bits .and .i64 a1 255) t132 t134 bt140.1 bt142.1 bt146.1 bt148.1 true))))))))) = some r := H
    have A8 := Aside0.mk A80
    clear A80
    replace H := Option.bind_eq_some_iff.mp H
    obtain ⟨⟨t138, t139⟩, A90, H⟩ := H
    replace H : ((gf_Mul.f k t132 (Go.bits .and .i64 a2 255)).bind fun bt140 => ((gf_Mul.f k (Go.bits .and .i64 a0 255) t138).bind fun bt142 => ((gf_Add.f (Go.bits .and .i64 a1 255) (Go.bits .and .i64 a2 255)).bind fun bt144 => ((gf_Mul.f k (Go.bits .and .i64 a0 255) bt144.1).bind fun bt146 => ((gf_Add.f t132 t136).bind fun bt148 => ((ossuarylaw0_Num.f t133).bind fun t150 => (if t150 = 0 then ((ossuarylaw0_Num.f t135).bind fun t151 => (if t151 = 0 then ((ossuarylaw0_Num.f t137).bind fun t152 => (if t152 = 0 then ((ossuarylaw0_Num.f t139).bind fun t153 => (if t153 = 0 then ((ossuarylaw0_Num.f bt140.2).bind fun t154 => (if t154 = 0 then ((ossuarylaw0_Num.f bt142.2).bind fun t155 => (if t155 = 0 then ((ossuarylaw0_Num.f bt144.2).bind fun t156 => (if t156 = 0 then ((ossuarylaw0_Num.f bt146.2).bind fun t157 => (if t157 = 0 then ((ossuarylaw0_Num.f bt148.2).bind fun t158 => (ossuarylaw1_FieldLaws.j0 k (Go.bits .and .i64 a0 255) (Go.bits .and .i64 a1 255) t132 t134 bt140.1 bt142.1 bt146.1 bt148.1 (t158 != 0))) else (ossuarylaw1_FieldLaws.j0 k (Go.bits .and .i64 a0 255) (Go.bits .and .i64 a1 255) t132 t134 bt140.1 bt142.1 bt146.1 bt148.1 true))) else (ossuarylaw1_FieldLaws.j0 k (Go.bits .and .i64 a0 255) (Go.bits .and .i64 a1 255) t132 t134 bt140.1 bt142.1 bt146.1 bt148.1 true))) else (ossuarylaw1_FieldLaws.j0 k (Go.bits .and .i64 a0 255) (Go.bits .and .i64 a1 255) t132 t134 bt140.1 bt142.1 bt146.1 bt148.1 true))) else (ossuarylaw1_FieldLaws.j0 k (Go.bits .and .i64 a0 255) (Go.bits .and .i64 a1 255) t132 t134 bt140.1 bt142.1 bt146.1 bt148.1 true))) else (ossuarylaw1_FieldLaws.j0 k (Go.bits .and .i64 a0 255) (Go.bits .and .i64 a1 255) t132 t134 bt140.1 bt142.1 bt146.1 bt148.1 true))) else (ossuarylaw1_FieldLaws.j0 k (Go.bits .and .i64 a0 255) (Go.bits .and .i64 a1 255) t132 t134 bt140.1 bt142.1 bt146.1 bt148.1 true))) else (ossuarylaw1_FieldLaws.j0 k (Go.bits .and .i64 a0 255) (Go.bits .and .i64 a1 255) t132 t134 bt140.1 bt142.1 bt146.1 bt148.1 true))) else (ossuarylaw1_FieldLaws.j0 k (Go.bits .and .i64 a0 255) (Go.bits .and .i64 a1 255) t132 t134 bt140.1 bt142.1 bt146.1 bt148.1 true)))))))) = some r := H
    have A9 := Aside0.mk A90
    clear A90
    replace H := Option.bind_eq_some_iff.mp H
    obtain ⟨⟨t140, t141⟩, A100, H⟩ := H
    replace H : ((gf_Mul.f k (Go.bits .and .i64 a0 255) t138).bind fun bt142 => ((gf_Add.f (Go.bits .and .i64 a1 255) (Go.bits .and .i64 a2 255)).bind fun bt144 => ((gf_Mul.f k (Go.bits .and .i64 a0 255) bt144.1).bind fun bt146 => ((gf_Add.f t132 t136).bind fun bt148 => ((ossuarylaw0_Num.f t133).bind fun t150 => (if t150 = 0 then ((ossuarylaw0_Num.f t135).bind fun t151 => (if t151 = 0 then ((ossuarylaw0_Num.f t137).bind fun t152 => (if t152 = 0 then ((ossuarylaw0_Num.f t139).bind fun t153 => (if t153 = 0 then ((ossuarylaw0_Num.f t141).bind fun t154 => (if t154 = 0 then ((ossuarylaw0_Num.f bt142.2).bind fun t155 => (if t155 = 0 then ((ossuarylaw0_Num.f bt144.2).bind fun t156 => (if t156 = 0 then ((ossuarylaw0_Num.f bt146.2).bind fun t157 => (if t157 = 0 then ((ossuarylaw0_Num.f bt148.2).bind fun t158 => (ossuarylaw1_FieldLaws.j0 k (Go.bits .and .i64 a0 255) (Go.bits .and .i64 a1 255) t132 t134 t140 bt142.1 bt146.1 bt148.1 (t158 != 0))) else (ossuarylaw1_FieldLaws.j0 k (Go.bits .and .i64 a0 255) (Go.bits .and .i64 a1 255) t132 t134 t140 bt142.1 bt146.1 bt148.1 true))) else (ossuarylaw1_FieldLaws.j0 k (Go.bits .and .i64 a0 255) (Go.bits .and .i64 a1 255) t132 t134 t140 bt142.1 bt146.1 bt148.1 true))) else (ossuarylaw1_FieldLaws.j0 k (Go.bits .and .i64 a0 255) (Go.bits .and .i64 a1 255) t132 t134 t140 bt142.1 bt146.1 bt148.1 true))) else (ossuarylaw1_FieldLaws.j0 k (Go.bits .and .i64 a0 255) (Go.bits .and .i64 a1 255) t132 t134 t140 bt142.1 bt146.1 bt148.1 true))) else (ossuarylaw1_FieldLaws.j0 k (Go.bits .and .i64 a0 255) (Go.bits .and .i64 a1 255) t132 t134 t140 bt142.1 bt146.1 bt148.1 true))) else (ossuarylaw1_FieldLaws.j0 k (Go.bits .and .i64 a0 255) (Go.bits .and .i64 a1 255) t132 t134 t140 bt142.1 bt146.1 bt148.1 true))) else (ossuarylaw1_FieldLaws.j0 k (Go.bits .and .i64 a0 255) (Go.bits .and .i64 a1 255) t132 t134 t140 bt142.1 bt146.1 bt148.1 true))) else (ossuarylaw1_FieldLaws.j0 k (Go.bits .and .i64 a0 255) (Go.bits .and .i64 a1 255) t132 t134 t140 bt142.1 bt146.1 bt148.1 true))))))) = some r := H
    have A10 := Aside0.mk A100
    clear A100
    replace H := Option.bind_eq_some_iff.mp H
    obtain ⟨⟨t142, t143⟩, A110, H⟩ := H
    replace H : ((gf_Add.f (Go.bits .and .i64 a1 255) (Go.bits .and .i64 a2 255)).bind fun bt144 => ((gf_Mul.f k (Go.bits .and .i64 a0 255) bt144.1).bind fun bt146 => ((gf_Add.f t132 t136).bind fun bt148 => ((ossuarylaw0_Num.f t133).bind fun t150 => (if t150 = 0 then ((ossuarylaw0_Num.f t135).bind fun t151 => (if t151 = 0 then ((ossuarylaw0_Num.f t137).bind fun t152 => (if t152 = 0 then ((ossuarylaw0_Num.f t139).bind fun t153 => (if t153 = 0 then ((ossuarylaw0_Num.f t141).bind fun t154 => (if t154 = 0 then ((ossuarylaw0_Num.f t143).bind fun t155 => (if t155 = 0 then ((ossuarylaw0_Num.f bt144.2).bind fun t156 => (if t156 = 0 then ((ossuarylaw0_Num.f bt146.2).bind fun t157 => (if t157 = 0 then ((ossuarylaw0_Num.f bt148.2).bind fun t158 => (ossuarylaw1_FieldLaws.j0 k (Go.bits .and .i64 a0 255) (Go.bits .and .i64 a1 255) t132 t134 t140 t142 bt146.1 bt148.1 (t158 != 0))) else (ossuarylaw1_FieldLaws.j0 k (Go.bits .and .i64 a0 255) (Go.bits .and .i64 a1 255) t132 t134 t140 t142 bt146.1 bt148.1 true))) else (ossuarylaw1_FieldLaws.j0 k (Go.bits .and .i64 a0 255) (Go.bits .and .i64 a1 255) t132 t134 t140 t142 bt146.1 bt148.1 true))) else (ossuarylaw1_FieldLaws.j0 k (Go.bits .and .i64 a0 255) (Go.bits .and .i64 a1 255) t132 t134 t140 t142 bt146.1 bt148.1 true))) else (ossuarylaw1_FieldLaws.j0 k (Go.bits .and .i64 a0 255) (Go.bits .and .i64 a1 255) t132 t134 t140 t142 bt146.1 bt148.1 true))) else (ossuarylaw1_FieldLaws.j0 k (Go.bits .and .i64 a0 255) (Go.bits .and .i64 a1 255) t132 t134 t140 t142 bt146.1 bt148.1 true))) else (ossuarylaw1_FieldLaws.j0 k (Go.bits .and .i64 a0 255) (Go.bits .and .i64 a1 255) t132 t134 t140 t142 bt146.1 bt148.1 true))) else (ossuarylaw1_FieldLaws.j0 k (Go.bits .and .i64 a0 255) (Go.bits .and .i64 a1 255) t132 t134 t140 t142 bt146.1 bt148.1 true))) else (ossuarylaw1_FieldLaws.j0 k (Go.bits .and .i64 a0 255) (Go.bits .and .i64 a1 255) t132 t134 t140 t142 bt146.1 bt148.1 true)))))) = some r := H
    have A11 := Aside0.mk A110
    clear A110
    replace H := Option.bind_eq_some_iff.mp H
    obtain ⟨⟨t144, t145⟩, A120, H⟩ := H
    replace H : ((gf_Mul.f k (Go.bits .and .i64 a0 255) t144).bind fun bt146 => ((gf_Add.f t132 t136).bind fun bt148 => ((ossuarylaw0_Num.f t133).bind fun t150 => (if t150 = 0 then ((ossuarylaw0_Num.f t135).bind fun t151 => (if t151 = 0 then ((ossuarylaw0_Num.f t137).bind fun t152 => (if t152 = 0 then ((ossuarylaw0_Num.f t139).bind fun t153 => (if t153 = 0 then ((ossuarylaw0_Num.f t141).bind fun t154 => (if t154 = 0 then ((ossuarylaw0_Num.f t143).bind fun t155 => (if t155 = 0 then ((ossuarylaw0_Num.f t145).bind fun t156 => (if t156 = 0 then ((ossuarylaw0_Num.f bt146.2).bind fun t157 => (if t157 = 0 then ((ossuarylaw0_Num.f bt148.2).bind fun t158 => (ossuarylaw1_FieldLaws.j0 k (Go.bits .and .i64 a0 255) (Go.bits .and .i64 a1 255) t132 t134 t140 t142 bt146.1 bt148.1 (t158 != 0))) else (ossuarylaw1_FieldLaws.j0 k (Go.bits .and .i64 a0 255) (Go.bits .and .i64 a1 255) t132 t134 t140 t142 bt146.1 bt148.1 true))) else (ossuarylaw1_FieldLaws.j0 k (Go.bits .and .i64 a0 255) (Go.bits .and .i64 a1 255) t132 t134 t140 t142 bt146.1 bt148.1 true))) else (ossuarylaw1_FieldLaws.j0 k (Go.bits .and .i64 a0 255) (Go.bits .and .i64 a1 255) t132 t134 t140 t142 bt146.1 bt148.1 true))) else (ossuarylaw1_FieldLaws.j0 k (Go.bits .and .i64 a0 255) (Go.bits .and .i64 a1 255) t132 t134 t140 t142 bt146.1 bt148.1 true))) else (ossuarylaw1_FieldLaws.j0 k (Go.bits .and .i64 a0 255) (Go.bits .and .i64 a1 255) t132 t134 t140 t142 bt146.1 bt148.1 true))) else (ossuarylaw1_FieldLaws.j0 k (Go.bits .and .i64 a0 255) (Go.bits .and .i64 a1 255) t132 t134 t140 t142 bt146.1 bt148.1 true))) else (ossuarylaw1_FieldLaws.j0 k (Go.bits .and .i64 a0 255) (Go.bits .and .i64 a1 255) t132 t134 t140 t142 bt146.1 bt148.1 true))) else (ossuarylaw1_FieldLaws.j0 k (Go.bits .and .i64 a0 255) (Go.bits .and .i64 a1 255) t132 t134 t140 t142 bt146.1 bt148.1 true))))) = some r := H
    have A12 := Aside0.mk A120
    clear A120
    replace H := Option.bind_eq_some_iff.mp H
    obtain ⟨⟨t146, t147⟩, A130, H⟩ := H
    replace H : ((gf_Add.f t132 t136).bind fun bt148 => ((ossuarylaw0_Num.f t133).bind fun t150 => (if t150 = 0 then ((ossuarylaw0_Num.f t135).bind fun t151 => (if t151 = 0 then ((ossuarylaw0_Num.f t137).bind fun t152 => (if t152 = 0 then ((ossuarylaw0_Num.f t139).bind fun t153 => (if t153 = 0 then ((ossuarylaw0_Num.f t141).bind fun t154 => (if t154 = 0 then ((ossuarylaw0_Num.f t143).bind fun t155 => (if t155 = 0 then ((ossuarylaw0_Num.f t145).bind fun t156 => (if t156 = 0 then ((ossuarylaw0_Num.f t147).bind fun t157 => (if t157 = 0 then ((ossuarylaw0_Num.f bt148.2).bind fun t158 => (ossuarylaw1_FieldLaws.j0 k (Go.bits .and .i64 a0 255) (Go.bits .and .i64 a1 255) t132 t134 t140 t142 t146 bt148.1 (t158 != 0))) else (ossuarylaw1_FieldLaws.j0 k (Go.bits .and .i64 a0 255) (Go.bits .and .i64 a1 255) t132 t134 t140 t142 t146 bt148.1 true))) else (ossuarylaw1_FieldLaws.j0 k (Go.bits .and .i64 a0 255) (Go.bits .and .i64 a1 255) t132 t134 t140 t142 t146 bt148.1 true))) else (ossuarylaw1_FieldLaws.j0 k (Go.bits .and .i64 a0 255) (Go.bits .and .i64 a1 255) t132 t134 t140 t142 t146 bt148.1 true))) else (ossuarylaw1_FieldLaws.j0 k (Go.bits .and .i64 a0 255) (Go.bits .and .i64 a1 255) t132 t134 t140 t142 t146 bt148.1 true))) else (ossuarylaw1_FieldLaws.j0 k (Go.bits .and .i64 a0 255) (Go.bits .and .i64 a1 255) t132 t134 t140 t142 t146 bt148.1 true))) else (ossuarylaw1_FieldLaws.j0 k (Go.bits .and .i64 a0 255) (Go.bits .and .i64 a1 255) t132 t134 t140 t142 t146 bt148.1 true))) else (ossuarylaw1_FieldLaws.j0 k (Go.bits .and .i64 a0 255) (Go.bits .and .i64 a1 255) t132 t134 t140 t142 t146 bt148.1 true))) else (ossuarylaw1_FieldLaws.j0 k (Go.bits .and .i64 a0 255) (Go.bits .and .i64 a1 255) t132 t134 t140 t142 t146 bt148.1 true)))) = some r := H
    have A13 := Aside0.mk A130
    clear A130
    replace H := Option.bind_eq_some_iff.mp H
    obtain ⟨⟨t148, t149⟩, A140, H⟩ := H
    replace H : ((ossuarylaw0_Num.f t133).bind fun t150 => (if t150 = 0 then ((ossuarylaw0_Num.f t135).bind fun t151 => (if t151 = 0 then ((ossuarylaw0_Num.f t137).bind fun t152 => (if t152 = 0 then ((ossuarylaw0_Num.f t139).bind fun t153 => (if t153 = 0 then ((ossuarylaw0_Num.f t141).bind fun t154 => (if t154 = 0 then ((ossuarylaw0_Num.f t143).bind fun t155 => (if t155 = 0 then ((ossuarylaw0_Num.f t145).bind fun t156 => (if t156 = 0 then ((ossuarylaw0_Num.f t147).bind fun t157 => (if t157 = 0 then ((ossuarylaw0_Num.f t149).bind fun t158 => (ossuarylaw1_FieldLaws.j0 k (Go.bits .and .i64 a0 255) (Go.bits .and .i64 a1 255) t132 t134 t140 t142 t146 t148 (t158 != 0))) else (ossuarylaw1_FieldLaws.j0 k (Go.bits .and .i64 a0 255) (Go.bits .and .i64 a1 255) t132 t134 t140 t142 t146 t148 true))) else (ossuarylaw1_FieldLaws.j0 k (Go.bits .and .i64 a0 255) (Go.bits .and .i64 a1 255) t132 t134 t140 t142 t146 t148 true))) else (ossuarylaw1_FieldLaws.j0 k (Go.bits .and .i64 a0 255) (Go.bits .and .i64 a1 255) t132 t134 t140 t142 t146 t148 true))) else (ossuarylaw1_FieldLaws.j0 k (Go.bits .and .i64 a0 255) (Go.bits .and .i64 a1 255) t132 t134 t140 t142 t146 t148 true))) else (ossuarylaw1_FieldLaws.j0 k (Go.bits .and .i64 a0 255) (Go.bits .and .i64 a1 255) t132 t134 t140 t142 t146 t148 true))) else (ossuarylaw1_FieldLaws.j0 k (Go.bits .and .i64 a0 255) (Go.bits .and .i64 a1 255) t132 t134 t140 t142 t146 t148 true))) else (ossuarylaw1_FieldLaws.j0 k (Go.bits .and .i64 a0 255) (Go.bits .and .i64 a1 255) t132 t134 t140 t142 t146 t148 true))) else (ossuarylaw1_FieldLaws.j0 k (Go.bits .and .i64 a0 255) (Go.bits .and .i64 a1 255) t132 t134 t140 t142 t146 t148 true))) = some r := H
    have A14 := Aside0.mk A140
    clear A140
    have HC15 := Aside0.mk H
    clear H
    go_enter Try.func13, Try.ntmps13
    go_upto_region 13 with (first | ((with_reducible refine gate_callee (f := 47) rfl ?_); refine goesL_ (some 32) rfl rfl Try.func47 (by kernel_rfl) rfl #[] rfl (by (try simp only [List.map_toArray, List.map_cons, List.map_nil]); first | done | rfl | (simp only [List.length_drop, List.length_take]; rfl)) ?_; (with_reducible refine (ossuarylaw1_awake.calls k  true _ A4.out).mono ?_); rintro e w' ⟨rfl, ⟨nd, rfl⟩⟩; refine ⟨_, rfl, ?_⟩) | ((with_reducible refine gate_callee (f := 41) rfl ?_); refine goesL_ (some 43) rfl rfl Try.func41 (by kernel_rfl) rfl #[.int .i64 (Go.bits .and .i64 a0 255), .int .i64 (Go.bits .and .i64 a1 255)] rfl (by (try simp only [List.map_toArray, List.map_cons, List.map_nil]); first | done | rfl | (simp only [List.length_drop, List.length_take]; rfl)) ?_; (with_reducible refine (gf_Mul.calls k (Go.bits .and .i64 a0 255) (Go.bits .and .i64 a1 255) t132 t133 _ A6.out).mono ?_); rintro e w' ⟨rfl, ⟨nd, rfl⟩⟩; refine ⟨_, rfl, ?_⟩) | ((with_reducible refine gate_callee (f := 41) rfl ?_); refine goesL_ (some 49) rfl rfl Try.func41 (by kernel_rfl) rfl #[.int .i64 (Go.bits .and .i64 a1 255), .int .i64 (Go.bits .and .i64 a0 255)] rfl (by (try simp only [List.map_toArray, List.map_cons, List.map_nil]); first | done | rfl | (simp only [List.length_drop, List.length_take]; rfl)) ?_; (with_reducible refine (gf_Mul.calls k (Go.bits .and .i64 a1 255) (Go.bits .and .i64 a0 255) t134 t135 _ A7.out).mono ?_); rintro e w' ⟨rfl, ⟨nd, rfl⟩⟩; refine ⟨_, rfl, ?_⟩) | ((with_reducible refine gate_callee (f := 41) rfl ?_); refine goesL_ (some 55) rfl rfl Try.func41 (by kernel_rfl) rfl #[.int .i64 (Go.bits .and .i64 a0 255), .int .i64 (Go.bits .and .i64 a2 255)] rfl (by (try simp only [List.map_toArray, List.map_cons, List.map_nil]); first | done | rfl | (simp only [List.length_drop, List.length_take]; rfl)) ?_; (with_reducible refine (gf_Mul.calls k (Go.bits .and .i64 a0 255) (Go.bits .and .i64 a2 255) t136 t137 _ A8.out).mono ?_); rintro e w' ⟨rfl, ⟨nd, rfl⟩⟩; refine ⟨_, rfl, ?_⟩) | ((with_reducible refine gate_callee (f := 41) rfl ?_); refine goesL_ (some 61) rfl rfl Try.func41 (by kernel_rfl) rfl #[.int .i64 (Go.bits .and .i64 a1 255), .int .i64 (Go.bits .and .i64 a2 255)] rfl (by (try simp only [List.map_toArray, List.map_cons, List.map_nil]); first | done | rfl | (simp only [List.length_drop, List.length_take]; rfl)) ?_; (with_reducible refine (gf_Mul.calls k (Go.bits .and .i64 a1 255) (Go.bits .and .i64 a2 255) t138 t139 _ A9.out).mono ?_); rintro e w' ⟨rfl, ⟨nd, rfl⟩⟩; refine ⟨_, rfl, ?_⟩) | ((with_reducible refine gate_callee (f := 41) rfl ?_); refine goesL_ (some 67) rfl rfl Try.func41 (by kernel_rfl) rfl #[.int .i64 t132, .int .i64 (Go.bits .and .i64 a2 255)] rfl (by (try simp only [List.map_toArray, List.map_cons, List.map_nil]); first | done | rfl | (simp only [List.length_drop, List.length_take]; rfl)) ?_; (with_reducible refine (gf_Mul.calls k t132 (Go.bits .and .i64 a2 255) t140 t141 _ A10.out).mono ?_); rintro e w' ⟨rfl, ⟨nd, rfl⟩⟩; refine ⟨_, rfl, ?_⟩) | ((with_reducible refine gate_callee (f := 41) rfl ?_); refine goesL_ (some 73) rfl rfl Try.func41 (by kernel_rfl) rfl #[.int .i64 (Go.bits .and .i64 a0 255), .int .i64 t138] rfl (by (try simp only [List.map_toArray, List.map_cons, List.map_nil]); first | done | rfl | (simp only [List.length_drop, List.length_take]; rfl)) ?_; (with_reducible refine (gf_Mul.calls k (Go.bits .and .i64 a0 255) t138 t142 t143 _ A11.out).mono ?_); rintro e w' ⟨rfl, ⟨nd, rfl⟩⟩; refine ⟨_, rfl, ?_⟩) | ((with_reducible refine gate_callee (f := 39) rfl ?_); refine goesL_ (some 79) rfl rfl Try.func39 (by kernel_rfl) rfl #[.int .i64 (Go.bits .and .i64 a1 255), .int .i64 (Go.bits .and .i64 a2 255)] rfl (by (try simp only [List.map_toArray, List.map_cons, List.map_nil]); first | done | rfl | (simp only [List.length_drop, List.length_take]; rfl)) ?_; (with_reducible refine (gf_Add.calls (Go.bits .and .i64 a1 255) (Go.bits .and .i64 a2 255) t144 t145 _ A12.out).mono ?_); rintro e w' ⟨rfl, ⟨nd, rfl⟩⟩; refine ⟨_, rfl, ?_⟩) | ((with_reducible refine gate_callee (f := 41) rfl ?_); refine goesL_ (some 85) rfl rfl Try.func41 (by kernel_rfl) rfl #[.int .i64 (Go.bits .and .i64 a0 255), .int .i64 t144] rfl (by (try simp only [List.map_toArray, List.map_cons, List.map_nil]); first | done | rfl | (simp only [List.length_drop, List.length_take]; rfl)) ?_; (with_reducible refine (gf_Mul.calls k (Go.bits .and .i64 a0 255) t144 t146 t147 _ A13.out).mono ?_); rintro e w' ⟨rfl, ⟨nd, rfl⟩⟩; refine ⟨_, rfl, ?_⟩) | ((with_reducible refine gate_callee (f := 39) rfl ?_); refine goesL_ (some 91) rfl rfl Try.func39 (by kernel_rfl) rfl #[.int .i64 t132, .int .i64 t136] rfl (by (try simp only [List.map_toArray, List.map_cons, List.map_nil]); first | done | rfl | (simp only [List.length_drop, List.length_take]; rfl)) ?_; (with_reducible refine (gf_Add.calls t132 t136 t148 t149 _ A14.out).mono ?_); rintro e w' ⟨rfl, ⟨nd, rfl⟩⟩; refine ⟨_, rfl, ?_⟩))
    (try simp only [Act.put, List.setIfInBounds_toArray, List.set_cons_zero, List.set_cons_succ])
    go_cut [136] (fun v136 wc => ∃ (kq : Nat) (x136_14 : Bool), v136 = .bool x136_14 ∧ Aside0 (ossuarylaw1_FieldLaws.j0 kq (Go.bits .and .i64 a0 255) (Go.bits .and .i64 a1 255) t132 t134 t140 t142 t146 t148 x136_14 = some r) ∧ Aside0 (kq ≤ k) ∧ Drawn0 w wc)
    case first =>
      have H := HC15.out
      clear HC15
      replace H := Option.bind_eq_some_iff.mp H
      obtain ⟨t150, A160, H⟩ := H
      replace H : (if t150 = 0 then ((ossuarylaw0_Num.f t135).bind fun t151 => (if t151 = 0 then ((ossuarylaw0_Num.f t137).bind fun t152 => (if t152 = 0 then ((ossuarylaw0_Num.f t139).bind fun t153 => (if t153 = 0 then ((ossuarylaw0_Num.f t141).bind fun t154 => (if t154 = 0 then ((ossuarylaw0_Num.f t143).bind fun t155 => (if t155 = 0 then ((ossuarylaw0_Num.f t145).bind fun t156 => (if t156 = 0 then ((ossuarylaw0_Num.f t147).bind fun t157 => (if t157 = 0 then ((ossuarylaw0_Num.f t149).bind fun t158 => (ossuarylaw1_FieldLaws.j0 k (Go.bits .and .i64 a0 255) (Go.bits .and .i64 a1 255) t132 t134 t140 t142 t146 t148 (t158 != 0))) else (ossuarylaw1_FieldLaws.j0 k (Go.bits .and .i64 a0 255) (Go.bits .and .i64 a1 255) t132 t134 t140 t142 t146 t148 true))) else (ossuarylaw1_FieldLaws.j0 k (Go.bits .and .i64 a0 255) (Go.bits .and .i64 a1 255) t132 t134 t140 t142 t146 t148 true))) else (ossuarylaw1_FieldLaws.j0 k (Go.bits .and .i64 a0 255) (Go.bits .and .i64 a1 255) t132 t134 t140 t142 t146 t148 true))) else (ossuarylaw1_FieldLaws.j0 k (Go.bits .and .i64 a0 255) (Go.bits .and .i64 a1 255) t132 t134 t140 t142 t146 t148 true))) else (ossuarylaw1_FieldLaws.j0 k (Go.bits .and .i64 a0 255) (Go.bits .and .i64 a1 255) t132 t134 t140 t142 t146 t148 true))) else (ossuarylaw1_FieldLaws.j0 k (Go.bits .and .i64 a0 255) (Go.bits .and .i64 a1 255) t132 t134 t140 t142 t146 t148 true))) else (ossuarylaw1_FieldLaws.j0 k (Go.bits .and .i64 a0 255) (Go.bits .and .i64 a1 255) t132 t134 t140 t142 t146 t148 true))) else (ossuarylaw1_FieldLaws.j0 k (Go.bits .and .i64 a0 255) (Go.bits .and .i64 a1 255) t132 t134 t140 t142 t146 t148 true)) = some r := H
      have A16 := Aside0.mk A160
      clear A160
      by_cases c17 : t150 = 0
      · rw [if_pos c17] at H
        have c17b0 : (t150 == 0) = true := beq_iff_eq.mpr c17
        have c17b1 : (t150 != 0) = false := bne_eq_false_iff_eq.mpr c17
        clear c17
        (first | rw [c17b0] | (simp only [i64_w, i32_w]; rw [c17b0]) | skip)
        replace H := Option.bind_eq_some_iff.mp H
        obtain ⟨t151, A180, H⟩ := H
        replace H : (if t151 = 0 then ((ossuarylaw0_Num.f t137).bind fun t152 => (if t152 = 0 then ((ossuarylaw0_Num.f t139).bind fun t153 => (if t153 = 0 then ((ossuarylaw0_Num.f t141).bind fun t154 => (if t154 = 0 then ((ossuarylaw0_Num.f t143).bind fun t155 => (if t155 = 0 then ((ossuarylaw0_Num.f t145).bind fun t156 => (if t156 = 0 then ((ossuarylaw0_Num.f t147).bind fun t157 => (if t157 = 0 then ((ossuarylaw0_Num.f t149).bind fun t158 => (ossuarylaw1_FieldLaws.j0 k (Go.bits .and .i64 a0 255) (Go.bits .and .i64 a1 255) t132 t134 t140 t142 t146 t148 (t158 != 0))) else (ossuarylaw1_FieldLaws.j0 k (Go.bits .and .i64 a0 255) (Go.bits .and .i64 a1 255) t132 t134 t140 t142 t146 t148 true))) else (ossuarylaw1_FieldLaws.j0 k (Go.bits .and .i64 a0 255) (Go.bits .and .i64 a1 255) t132 t134 t140 t142 t146 t148 true))) else (ossuarylaw1_FieldLaws.j0 k (Go.bits .and .i64 a0 255) (Go.bits .and .i64 a1 255) t132 t134 t140 t142 t146 t148 true))) else (ossuarylaw1_FieldLaws.j0 k (Go.bits .and .i64 a0 255) (Go.bits .and .i64 a1 255) t132 t134 t140 t142 t146 t148 true))) else (ossuarylaw1_FieldLaws.j0 k (Go.bits .and .i64 a0 255) (Go.bits .and .i64 a1 255) t132 t134 t140 t142 t146 t148 true))) else (ossuarylaw1_FieldLaws.j0 k (Go.bits .and .i64 a0 255) (Go.bits .and .i64 a1 255) t132 t134 t140 t142 t146 t148 true))) else (ossuarylaw1_FieldLaws.j0 k (Go.bits .and .i64 a0 255) (Go.bits .and .i64 a1 255) t132 t134 t140 t142 t146 t148 true)) = some r := H
        have A18 := Aside0.mk A180
        clear A180
        by_cases c19 : t151 = 0
        · rw [if_pos c19] at H
          have c19b0 : (t151 == 0) = true := beq_iff_eq.mpr c19
          have c19b1 : (t151 != 0) = false := bne_eq_false_iff_eq.mpr c19
          clear c19
          replace H := Option.bind_eq_some_iff.mp H
          obtain ⟨t152, A200, H⟩ := H
          replace H : (if t152 = 0 then ((ossuarylaw0_Num.f t139).bind fun t153 => (if t153 = 0 then ((ossuarylaw0_Num.f t141).bind fun t154 => (if t154 = 0 then ((ossuarylaw0_Num.f t143).bind fun t155 => (if t155 = 0 then ((ossuarylaw0_Num.f t145).bind fun t156 => (if t156 = 0 then ((ossuarylaw0_Num.f t147).bind fun t157 => (if t157 = 0 then ((ossuarylaw0_Num.f t149).bind fun t158 => (ossuarylaw1_FieldLaws.j0 k (Go.bits .and .i64 a0 255) (Go.bits .and .i64 a1 255) t132 t134 t140 t142 t146 t148 (t158 != 0))) else (ossuarylaw1_FieldLaws.j0 k (Go.bits .and .i64 a0 255) (Go.bits .and .i64 a1 255) t132 t134 t140 t142 t146 t148 true))) else (ossuarylaw1_FieldLaws.j0 k (Go.bits .and .i64 a0 255) (Go.bits .and .i64 a1 255) t132 t134 t140 t142 t146 t148 true))) else (ossuarylaw1_FieldLaws.j0 k (Go.bits .and .i64 a0 255) (Go.bits .and .i64 a1 255) t132 t134 t140 t142 t146 t148 true))) else (ossuarylaw1_FieldLaws.j0 k (Go.bits .and .i64 a0 255) (Go.bits .and .i64 a1 255) t132 t134 t140 t142 t146 t148 true))) else (ossuarylaw1_FieldLaws.j0 k (Go.bits .and .i64 a0 255) (Go.bits .and .i64 a1 255) t132 t134 t140 t142 t146 t148 true))) else (ossuarylaw1_FieldLaws.j0 k (Go.bits .and .i64 a0 255) (Go.bits .and .i64 a1 255) t132 t134 t140 t142 t146 t148 true)) = some r := H
          have A20 := Aside0.mk A200
          clear A200
          by_cases c21 : t152 = 0
          · rw [if_pos c21] at H
            have c21b0 : (t152 == 0) = true := beq_iff_eq.mpr c21
            have c21b1 : (t152 != 0) = false := bne_eq_false_iff_eq.mpr c21
            clear c21
            replace H := Option.bind_eq_some_iff.mp H
            obtain ⟨t153, A220, H⟩ := H
            replace H : (if t153 = 0 then ((ossuarylaw0_Num.f t141).bind fun t154 => (if t154 = 0 then ((ossuarylaw0_Num.f t143).bind fun t155 => (if t155 = 0 then ((ossuarylaw0_Num.f t145).bind fun t156 => (if t156 = 0 then ((ossuarylaw0_Num.f t147).bind fun t157 => (if t157 = 0 then ((ossuarylaw0_Num.f t149).bind fun t158 => (ossuarylaw1_FieldLaws.j0 k (Go.bits .and .i64 a0 255) (Go.bits .and .i64 a1 255) t132 t134 t140 t142 t146 t148 (t158 != 0))) else (ossuarylaw1_FieldLaws.j0 k (Go.bits .and .i64 a0 255) (Go.bits .and .i64 a1 255) t132 t134 t140 t142 t146 t148 true))) else (ossuarylaw1_FieldLaws.j0 k (Go.bits .and .i64 a0 255) (Go.bits .and .i64 a1 255) t132 t134 t140 t142 t146 t148 true))) else (ossuarylaw1_FieldLaws.j0 k (Go.bits .and .i64 a0 255) (Go.bits .and .i64 a1 255) t132 t134 t140 t142 t146 t148 true))) else (ossuarylaw1_FieldLaws.j0 k (Go.bits .and .i64 a0 255) (Go.bits .and .i64 a1 255) t132 t134 t140 t142 t146 t148 true))) else (ossuarylaw1_FieldLaws.j0 k (Go.bits .and .i64 a0 255) (Go.bits .and .i64 a1 255) t132 t134 t140 t142 t146 t148 true)) = some r := H
            have A22 := Aside0.mk A220
            clear A220
            by_cases c23 : t153 = 0
            · rw [if_pos c23] at H
              have c23b0 : (t153 == 0) = true := beq_iff_eq.mpr c23
              have c23b1 : (t153 != 0) = false := bne_eq_false_iff_eq.mpr c23
              clear c23
              replace H := Option.bind_eq_some_iff.mp H
              obtain ⟨t154, A240, H⟩ := H
              replace H : (if t154 = 0 then ((ossuarylaw0_Num.f t143).bind fun t155 => (if t155 = 0 then ((ossuarylaw0_Num.f t145).bind fun t156 => (if t156 = 0 then ((ossuarylaw0_Num.f t147).bind fun t157 => (if t157 = 0 then ((ossuarylaw0_Num.f t149).bind fun t158 => (ossuarylaw1_FieldLaws.j0 k (Go.bits .and .i64 a0 255) (Go.bits .and .i64 a1 255) t132 t134 t140 t142 t146 t148 (t158 != 0))) else (ossuarylaw1_FieldLaws.j0 k (Go.bits .and .i64 a0 255) (Go.bits .and .i64 a1 255) t132 t134 t140 t142 t146 t148 true))) else (ossuarylaw1_FieldLaws.j0 k (Go.bits .and .i64 a0 255) (Go.bits .and .i64 a1 255) t132 t134 t140 t142 t146 t148 true))) else (ossuarylaw1_FieldLaws.j0 k (Go.bits .and .i64 a0 255) (Go.bits .and .i64 a1 255) t132 t134 t140 t142 t146 t148 true))) else (ossuarylaw1_FieldLaws.j0 k (Go.bits .and .i64 a0 255) (Go.bits .and .i64 a1 255) t132 t134 t140 t142 t146 t148 true)) = some r := H
              have A24 := Aside0.mk A240
              clear A240
              by_cases c25 : t154 = 0
              · rw [if_pos c25] at H
                have c25b0 : (t154 == 0) = true := beq_iff_eq.mpr c25
                have c25b1 : (t154 != 0) = false := bne_eq_false_iff_eq.mpr c25
                clear c25
                replace H := Option.bind_eq_some_iff.mp H
                obtain ⟨t155, A260, H⟩ := H
                replace H : (if t155 = 0 then ((ossuarylaw0_Num.f t145).bind fun t156 => (if t156 = 0 then ((ossuarylaw0_Num.f t147).bind fun t157 => (if t157 = 0 then ((ossuarylaw0_Num.f t149).bind fun t158 => (ossuarylaw1_FieldLaws.j0 k (Go.bits .and .i64 a0 255) (Go.bits .and .i64 a1 255) t132 t134 t140 t142 t146 t148 (t158 != 0))) else (ossuarylaw1_FieldLaws.j0 k (Go.bits .and .i64 a0 255) (Go.bits .and .i64 a1 255) t132 t134 t140 t142 t146 t148 true))) else (ossuarylaw1_FieldLaws.j0 k (Go.bits .and .i64 a0 255) (Go.bits .and .i64 a1 255) t132 t134 t140 t142 t146 t148 true))) else (ossuarylaw1_FieldLaws.j0 k (Go.bits .and .i64 a0 255) (Go.bits .and .i64 a1 255) t132 t134 t140 t142 t146 t148 true)) = some r := H
                have A26 := Aside0.mk A260
                clear A260
                by_cases c27 : t155 = 0
                · rw [if_pos c27] at H
                  have c27b0 : (t155 == 0) = true := beq_iff_eq.mpr c27
                  have c27b1 : (t155 != 0) = false := bne_eq_false_iff_eq.mpr c27
                  clear c27
                  replace H := Option.bind_eq_some_iff.mp H
                  obtain ⟨t156, A280, H⟩ := H
                  replace H : (if t156 = 0 then ((ossuarylaw0_Num.f t147).bind fun t157 => (if t157 = 0 then ((ossuarylaw0_Num.f t149).bind fun t158 => (ossuarylaw1_FieldLaws.j0 k (Go.bits .and .i64 a0 255) (Go.bits .and .i64 a1 255) t132 t134 t140 t142 t146 t148 (t158 != 0))) else (ossuarylaw1_FieldLaws.j0 k (Go.bits .and .i64 a0 255) (Go.bits .and .i64 a1 255) t132 t134 t140 t142 t146 t148 true))) else (ossuarylaw1_FieldLaws.j0 k (Go.bits .and .i64 a0 255) (Go.bits .and .i64 a1 255) t132 t134 t140 t142 t146 t148 true)) = some r := H
                  have A28 := Aside0.mk A280
                  clear A280
                  by_cases c29 : t156 = 0
                  · rw [if_pos c29] at H
                    have c29b0 : (t156 == 0) = true := beq_iff_eq.mpr c29
                    have c29b1 : (t156 != 0) = false := bne_eq_false_iff_eq.mpr c29
                    clear c29
                    replace H := Option.bind_eq_some_iff.mp H
                    obtain ⟨t157, A300, H⟩ := H
                    replace H : (if t157 = 0 then ((ossuarylaw0_Num.f t149).bind fun t158 => (ossuarylaw1_FieldLaws.j0 k (Go.bits .and .i64 a0 255) (Go.bits .and .i64 a1 255) t132 t134 t140 t142 t146 t148 (t158 != 0))) else (ossuarylaw1_FieldLaws.j0 k (Go.bits .and .i64 a0 255) (Go.bits .and .i64 a1 255) t132 t134 t140 t142 t146 t148 true)) = some r := H
                    have A30 := Aside0.mk A300
                    clear A300
                    by_cases c31 : t157 = 0
                    · rw [if_pos c31] at H
                      have c31b0 : (t157 == 0) = true := beq_iff_eq.mpr c31
                      have c31b1 : (t157 != 0) = false := bne_eq_false_iff_eq.mpr c31
                      clear c31
                      replace H := Option.bind_eq_some_iff.mp H
                      obtain ⟨t158, A320, H⟩ := H
                      replace H : (ossuarylaw1_FieldLaws.j0 k (Go.bits .and .i64 a0 255) (Go.bits .and .i64 a1 255) t132 t134 t140 t142 t146 t148 (t158 != 0)) = some r := H
                      have A32 := Aside0.mk A320
                      clear A320
                      have H' := Aside0.mk H
                      clear H
                      go_wp2_with (first | ((with_reducible refine gate_callee (f := 31) rfl ?_); refine goesL_ (some 95) rfl rfl Try.func31 (by kernel_rfl) rfl #[.int .i64 t133] rfl (by (try simp only [List.map_toArray, List.map_cons, List.map_nil]); first | done | rfl | (simp only [List.length_drop, List.length_take]; rfl)) ?_; (with_reducible refine (ossuarylaw0_Num.calls t133 t150 _ A16.out).mono ?_); rintro e w' ⟨rfl, ⟨nd, rfl⟩⟩; refine ⟨_, rfl, ?_⟩) | (go_at_call 31; (with_reducible refine (ossuarylaw0_Num.calls t135 t151 _ A18.out).mono ?_); rintro e w' ⟨rfl, ⟨nd, rfl⟩⟩) | (go_at_call 31; (with_reducible refine (ossuarylaw0_Num.calls t137 t152 _ A20.out).mono ?_); rintro e w' ⟨rfl, ⟨nd, rfl⟩⟩) | (go_at_call 31; (with_reducible refine (ossuarylaw0_Num.calls t139 t153 _ A22.out).mono ?_); rintro e w' ⟨rfl, ⟨nd, rfl⟩⟩) | (go_at_call 31; (with_reducible refine (ossuarylaw0_Num.calls t141 t154 _ A24.out).mono ?_); rintro e w' ⟨rfl, ⟨nd, rfl⟩⟩) | (go_at_call 31; (with_reducible refine (ossuarylaw0_Num.calls t143 t155 _ A26.out).mono ?_); rintro e w' ⟨rfl, ⟨nd, rfl⟩⟩) | (go_at_call 31; (with_reducible refine (ossuarylaw0_Num.calls t145 t156 _ A28.out).mono ?_); rintro e w' ⟨rfl, ⟨nd, rfl⟩⟩) | (go_at_call 31; (with_reducible refine (ossuarylaw0_Num.calls t147 t157 _ A30.out).mono ?_); rintro e w' ⟨rfl, ⟨nd, rfl⟩⟩) | (go_at_call 31; (with_reducible refine (ossuarylaw0_Num.calls t149 t158 _ A32.out).mono ?_); rintro e w' ⟨rfl, ⟨nd, rfl⟩⟩))
                      go_meet
                      case rel => exact ⟨_, ((t158 != 0)), (by first | rfl | (simp; done) | (simp [*]; done)), H', ⟨by first | omega | exact Nat.le_refl _⟩, by repeat (first | exact Drawn0.refl _ | apply Drawn0.step)⟩
                    · rw [if_neg c31] at H
                      have c31b0 : (t157 == 0) = false := beq_eq_false_iff_ne.mpr c31
                      have c31b1 : (t157 != 0) = true := bne_iff_ne.mpr c31
                      have H' := Aside0.mk H
                      clear H
                      go_wp2_with (first | ((with_reducible refine gate_callee (f := 31) rfl ?_); refine goesL_ (some 95) rfl rfl Try.func31 (by kernel_rfl) rfl #[.int .i64 t133] rfl (by (try simp only [List.map_toArray, List.map_cons, List.map_nil]); first | done | rfl | (simp only [List.length_drop, List.length_take]; rfl)) ?_; (with_reducible refine (ossuarylaw0_Num.calls t133 t150 _ A16.out).mono ?_); rintro e w' ⟨rfl, ⟨nd, rfl⟩⟩; refine ⟨_, rfl, ?_⟩) | (go_at_call 31; (with_reducible refine (ossuarylaw0_Num.calls t135 t151 _ A18.out).mono ?_); rintro e w' ⟨rfl, ⟨nd, rfl⟩⟩) | (go_at_call 31; (with_reducible refine (ossuarylaw0_Num.calls t137 t152 _ A20.out).mono ?_); rintro e w' ⟨rfl, ⟨nd, rfl⟩⟩) | (go_at_call 31; (with_reducible refine (ossuarylaw0_Num.calls t139 t153 _ A22.out).mono ?_); rintro e w' ⟨rfl, ⟨nd, rfl⟩⟩) | (go_at_call 31; (with_reducible refine (ossuarylaw0_Num.calls t141 t154 _ A24.out).mono ?_); rintro e w' ⟨rfl, ⟨nd, rfl⟩⟩) | (go_at_call 31; (with_reducible refine (ossuarylaw0_Num.calls t143 t155 _ A26.out).mono ?_); rintro e w' ⟨rfl, ⟨nd, rfl⟩⟩) | (go_at_call 31; (with_reducible refine (ossuarylaw0_Num.calls t145 t156 _ A28.out).mono ?_); rintro e w' ⟨rfl, ⟨nd, rfl⟩⟩) | (go_at_call 31; (with_reducible refine (ossuarylaw0_Num.calls t147 t157 _ A30.out).mono ?_); rintro e w' ⟨rfl, ⟨nd, rfl⟩⟩))
                      go_meet
                      case rel => exact ⟨_, (true), (by first | rfl | (simp; done) | (simp [*]; done)), H', ⟨by first | omega | exact Nat.le_refl _⟩, by repeat (first | exact Drawn0.refl _ | apply Drawn0.step)⟩
                  · rw [if_neg c29] at H
                    have c29b0 : (t156 == 0) = false := beq_eq_false_iff_ne.mpr c29
                    have c29b1 : (t156 != 0) = true := bne_iff_ne.mpr c29
                    have H' := Aside0.mk H
                    clear H
                    go_wp2_with (first | ((with_reducible refine gate_callee (f := 31) rfl ?_); refine goesL_ (some 95) rfl rfl Try.func31 (by kernel_rfl) rfl #[.int .i64 t133] rfl (by (try simp only [List.map_toArray, List.map_cons, List.map_nil]); first | done | rfl | (simp only [List.length_drop, List.length_take]; rfl)) ?_; (with_reducible refine (ossuarylaw0_Num.calls t133 t150 _ A16.out).mono ?_); rintro e w' ⟨rfl, ⟨nd, rfl⟩⟩; refine ⟨_, rfl, ?_⟩) | (go_at_call 31; (with_reducible refine (ossuarylaw0_Num.calls t135 t151 _ A18.out).mono ?_); rintro e w' ⟨rfl, ⟨nd, rfl⟩⟩) | (go_at_call 31; (with_reducible refine (ossuarylaw0_Num.calls t137 t152 _ A20.out).mono ?_); rintro e w' ⟨rfl, ⟨nd, rfl⟩⟩) | (go_at_call 31; (with_reducible refine (ossuarylaw0_Num.calls t139 t153 _ A22.out).mono ?_); rintro e w' ⟨rfl, ⟨nd, rfl⟩⟩) | (go_at_call 31; (with_reducible refine (ossuarylaw0_Num.calls t141 t154 _ A24.out).mono ?_); rintro e w' ⟨rfl, ⟨nd, rfl⟩⟩) | (go_at_call 31; (with_reducible refine (ossuarylaw0_Num.calls t143 t155 _ A26.out).mono ?_); rintro e w' ⟨rfl, ⟨nd, rfl⟩⟩) | (go_at_call 31; (with_reducible refine (ossuarylaw0_Num.calls t145 t156 _ A28.out).mono ?_); rintro e w' ⟨rfl, ⟨nd, rfl⟩⟩))
                    go_meet
                    case rel => exact ⟨_, (true), (by first | rfl | (simp; done) | (simp [*]; done)), H', ⟨by first | omega | exact Nat.le_refl _⟩, by repeat (first | exact Drawn0.refl _ | apply Drawn0.step)⟩
                · rw [if_neg c27] at H
                  have c27b0 : (t155 == 0) = false := beq_eq_false_iff_ne.mpr c27
                  have c27b1 : (t155 != 0) = true := bne_iff_ne.mpr c27
                  have H' := Aside0.mk H
                  clear H
                  go_wp2_with (first | ((with_reducible refine gate_callee (f := 31) rfl ?_); refine goesL_ (some 95) rfl rfl Try.func31 (by kernel_rfl) rfl #[.int .i64 t133] rfl (by (try simp only [List.map_toArray, List.map_cons, List.map_nil]); first | done | rfl | (simp only [List.length_drop, List.length_take]; rfl)) ?_; (with_reducible refine (ossuarylaw0_Num.calls t133 t150 _ A16.out).mono ?_); rintro e w' ⟨rfl, ⟨nd, rfl⟩⟩; refine ⟨_, rfl, ?_⟩) | (go_at_call 31; (with_reducible refine (ossuarylaw0_Num.calls t135 t151 _ A18.out).mono ?_); rintro e w' ⟨rfl, ⟨nd, rfl⟩⟩) | (go_at_call 31; (with_reducible refine (ossuarylaw0_Num.calls t137 t152 _ A20.out).mono ?_); rintro e w' ⟨rfl, ⟨nd, rfl⟩⟩) | (go_at_call 31; (with_reducible refine (ossuarylaw0_Num.calls t139 t153 _ A22.out).mono ?_); rintro e w' ⟨rfl, ⟨nd, rfl⟩⟩) | (go_at_call 31; (with_reducible refine (ossuarylaw0_Num.calls t141 t154 _ A24.out).mono ?_); rintro e w' ⟨rfl, ⟨nd, rfl⟩⟩) | (go_at_call 31; (with_reducible refine (ossuarylaw0_Num.calls t143 t155 _ A26.out).mono ?_); rintro e w' ⟨rfl, ⟨nd, rfl⟩⟩))
                  go_meet
                  case rel => exact ⟨_, (true), (by first | rfl | (simp; done) | (simp [*]; done)), H', ⟨by first | omega | exact Nat.le_refl _⟩, by repeat (first | exact Drawn0.refl _ | apply Drawn0.step)⟩
              · rw [if_neg c25] at H
                have c25b0 : (t154 == 0) = false := beq_eq_false_iff_ne.mpr c25
                have c25b1 : (t154 != 0) = true := bne_iff_ne.mpr c25
                have H' := Aside0.mk H
                clear H
                go_wp2_with (first | ((with_reducible refine gate_callee (f := 31) rfl ?_); refine goesL_ (some 95) rfl rfl Try.func31 (by kernel_rfl) rfl #[.int .i64 t133] rfl (by (try simp only [List.map_toArray, List.map_cons, List.map_nil]); first | done | rfl | (simp only [List.length_drop, List.length_take]; rfl)) ?_; (with_reducible refine (ossuarylaw0_Num.calls t133 t150 _ A16.out).mono ?_); rintro e w' ⟨rfl, ⟨nd, rfl⟩⟩; refine ⟨_, rfl, ?_⟩) | (go_at_call 31; (with_reducible refine (ossuarylaw0_Num.calls t135 t151 _ A18.out).mono ?_); rintro e w' ⟨rfl, ⟨nd, rfl⟩⟩) | (go_at_call 31; (with_reducible refine (ossuarylaw0_Num.calls t137 t152 _ A20.out).mono ?_); rintro e w' ⟨rfl, ⟨nd, rfl⟩⟩) | (go_at_call 31; (with_reducible refine (ossuarylaw0_Num.calls t139 t153 _ A22.out).mono ?_); rintro e w' ⟨rfl, ⟨nd, rfl⟩⟩) | (go_at_call 31; (with_reducible refine (ossuarylaw0_Num.calls t141 t154 _ A24.out).mono ?_); rintro e w' ⟨rfl, ⟨nd, rfl⟩⟩))
                go_meet
                case rel => exact ⟨_, (true), (by first | rfl | (simp; done) | (simp [*]; done)), H', ⟨by first | omega | exact Nat.le_refl _⟩, by repeat (first | exact Drawn0.refl _ | apply Drawn0.step)⟩
            · rw [if_neg c23] at H
              have c23b0 : (t153 == 0) = false := beq_eq_false_iff_ne.mpr c23
              have c23b1 : (t153 != 0) = true := bne_iff_ne.mpr c23
              have H' := Aside0.mk H
              clear H
              go_wp2_with (first | ((with_reducible refine gate_callee (f := 31) rfl ?_); refine goesL_ (some 95) rfl rfl Try.func31 (by kernel_rfl) rfl #[.int .i64 t133] rfl (by (try simp only [List.map_toArray, List.map_cons, List.map_nil]); first | done | rfl | (simp only [List.length_drop, List.length_take]; rfl)) ?_; (with_reducible refine (ossuarylaw0_Num.calls t133 t150 _ A16.out).mono ?_); rintro e w' ⟨rfl, ⟨nd, rfl⟩⟩; refine ⟨_, rfl, ?_⟩) | (go_at_call 31; (with_reducible refine (ossuarylaw0_Num.calls t135 t151 _ A18.out).mono ?_); rintro e w' ⟨rfl, ⟨nd, rfl⟩⟩) | (go_at_call 31; (with_reducible refine (ossuarylaw0_Num.calls t137 t152 _ A20.out).mono ?_); rintro e w' ⟨rfl, ⟨nd, rfl⟩⟩) | (go_at_call 31; (with_reducible refine (ossuarylaw0_Num.calls t139 t153 _ A22.out).mono ?_); rintro e w' ⟨rfl, ⟨nd, rfl⟩⟩))
              go_meet
              case rel => exact ⟨_, (true), (by first | rfl | (simp; done) | (simp [*]; done)), H', ⟨by first | omega | exact Nat.le_refl _⟩, by repeat (first | exact Drawn0.refl _ | apply Drawn0.step)⟩
          · rw [if_neg c21] at H
            have c21b0 : (t152 == 0) = false := beq_eq_false_iff_ne.mpr c21
            have c21b1 : (t152 != 0) = true := bne_iff_ne.mpr c21
            have H' := Aside0.mk H
            clear H
            go_wp2_with (first | ((with_reducible refine gate_callee (f := 31) rfl ?_); refine goesL_ (some 95) rfl rfl Try.func31 (by kernel_rfl) rfl #[.int .i64 t133] rfl (by (try simp only [List.map_toArray, List.map_cons, List.map_nil]); first | done | rfl | (simp only [List.length_drop, List.length_take]; rfl)) ?_; (with_reducible refine (ossuarylaw0_Num.calls t133 t150 _ A16.out).mono ?_); rintro e w' ⟨rfl, ⟨nd, rfl⟩⟩; refine ⟨_, rfl, ?_⟩) | (go_at_call 31; (with_reducible refine (ossuarylaw0_Num.calls t135 t151 _ A18.out).mono ?_); rintro e w' ⟨rfl, ⟨nd, rfl⟩⟩) | (go_at_call 31; (with_reducible refine (ossuarylaw0_Num.calls t137 t152 _ A20.out).mono ?_); rintro e w' ⟨rfl, ⟨nd, rfl⟩⟩))
            go_meet
            case rel => exact ⟨_, (true), (by first | rfl | (simp; done) | (simp [*]; done)), H', ⟨by first | omega | exact Nat.le_refl _⟩, by repeat (first | exact Drawn0.refl _ | apply Drawn0.step)⟩
        · rw [if_neg c19] at H
          have c19b0 : (t151 == 0) = false := beq_eq_false_iff_ne.mpr c19
          have c19b1 : (t151 != 0) = true := bne_iff_ne.mpr c19
          have H' := Aside0.mk H
          clear H
          go_wp2_with (first | ((with_reducible refine gate_callee (f := 31) rfl ?_); refine goesL_ (some 95) rfl rfl Try.func31 (by kernel_rfl) rfl #[.int .i64 t133] rfl (by (try simp only [List.map_toArray, List.map_cons, List.map_nil]); first | done | rfl | (simp only [List.length_drop, List.length_take]; rfl)) ?_; (with_reducible refine (ossuarylaw0_Num.calls t133 t150 _ A16.out).mono ?_); rintro e w' ⟨rfl, ⟨nd, rfl⟩⟩; refine ⟨_, rfl, ?_⟩) | (go_at_call 31; (with_reducible refine (ossuarylaw0_Num.calls t135 t151 _ A18.out).mono ?_); rintro e w' ⟨rfl, ⟨nd, rfl⟩⟩))
          go_meet
          case rel => exact ⟨_, (true), (by first | rfl | (simp; done) | (simp [*]; done)), H', ⟨by first | omega | exact Nat.le_refl _⟩, by repeat (first | exact Drawn0.refl _ | apply Drawn0.step)⟩
      · rw [if_neg c17] at H
        have c17b0 : (t150 == 0) = false := beq_eq_false_iff_ne.mpr c17
        have c17b1 : (t150 != 0) = true := bne_iff_ne.mpr c17
        (first | rw [c17b0] | (simp only [i64_w, i32_w]; rw [c17b0]) | skip)
        have H' := Aside0.mk H
        clear H
        go_wp2_with (first | ((with_reducible refine gate_callee (f := 31) rfl ?_); refine goesL_ (some 95) rfl rfl Try.func31 (by kernel_rfl) rfl #[.int .i64 t133] rfl (by (try simp only [List.map_toArray, List.map_cons, List.map_nil]); first | done | rfl | (simp only [List.length_drop, List.length_take]; rfl)) ?_; (with_reducible refine (ossuarylaw0_Num.calls t133 t150 _ A16.out).mono ?_); rintro e w' ⟨rfl, ⟨nd, rfl⟩⟩; refine ⟨_, rfl, ?_⟩))
        go_meet
        case rel => exact ⟨_, (true), (by first | rfl | (simp; done) | (simp [*]; done)), H', ⟨by first | omega | exact Nat.le_refl _⟩, by repeat (first | exact Drawn0.refl _ | apply Drawn0.step)⟩
    case rest =>
      clear HC15
      try clear c1
      try clear c2
      try clear p2
      try clear c3
      try clear c4
      try clear c5
      try clear c13
      try clear c17
      try clear c17b0
      try clear c17b1
      try clear c19
      try clear c19b0
      try clear c19b1
      try clear c21
      try clear c21b0
      try clear c21b1
      try clear c23
      try clear c23b0
      try clear c23b1
      try clear c25
      try clear c25b0
      try clear c25b1
      try clear c27
      try clear c27b0
      try clear c27b1
      try clear c29
      try clear c29b0
      try clear c29b1
      try clear c31
      try clear c31b0
      try clear c31b1
      obtain ⟨kq, x136_14, rfl, HA, HJ14, ⟨mc14, rfl⟩⟩ := hcut
      cases kq with
      | zero => exact absurd HA.out (by simp [ossuarylaw1_FieldLaws.j0])
      | succ kj14 =>
        have H := HA.out
        clear HA
        simp only [ossuarylaw1_FieldLaws.j0] at H
        by_cases c33 : x136_14 = true
        · subst c33
          have H1 : (some false) = some r := by rw [if_pos rfl] at H; exact H
          clear H
          have H := H1
          clear H1
          obtain rfl := Option.some.inj H
          go_wp2
          go_ret
          exact ⟨by first | rfl | (simp; done) | (simp [*]; done), by repeat (first | exact Drawn0.refl _ | apply Drawn0.step)⟩
        · replace c33 := Bool.eq_false_iff.mpr c33
          subst c33
          have H1 : (if (Go.bits .and .i64 a0 255) > 0 then ((gf_Inv.f kj14 (Go.bits .and .i64 a0 255)).bind fun bt159 => ((gf_Mul.f kj14 bt159.1 t132).bind fun bt161 => ((ossuarylaw0_Num.f bt159.2).bind fun t163 => (if t163 = 0 then ((ossuarylaw0_Num.f bt161.2).bind fun t164 => (if t164 = 0 then (if bt161.1 = (Go.bits .and .i64 a1 255) then (if t132 = t134 then (if t140 = t142 then (if t146 = t148 then (if t132 ≥ 0 then (if t132 ≤ 255 then (if (Go.bits .and .i64 a0 255) = 0 then (some ((t132 == 0) == true)) else (some ((t132 == 0) == ((Go.bits .and .i64 a1 255) == 0)))) else (some false)) else (some false)) else (some false)) else (some false)) else (some false)) else (some false)) else (some false))) else (some false))))) else (if t132 = t134 then (if t140 = t142 then (if t146 = t148 then (if t132 ≥ 0 then (if t132 ≤ 255 then (if (Go.bits .and .i64 a0 255) = 0 then (some ((t132 == 0) == true)) else (some ((t132 == 0) == ((Go.bits .and .i64 a1 255) == 0)))) else (some false)) else (some false)) else (some false)) else (some false)) else (some false))) = some r := by rw [if_neg (show ¬ (false = true) by decide)] at H; exact H
          clear H
          have H := H1
          clear H1
          by_cases c34 : (Go.bits .and .i64 a0 255) > 0
          · rw [if_pos c34] at H
            have c34b0 : decide (0 < (Go.bits .and .i64 a0 255)) = true := decide_eq_true c34
            clear c34
            replace H := Option.bind_eq_some_iff.mp H
            obtain ⟨⟨t159, t160⟩, A350, H⟩ := H
            replace H : ((gf_Mul.f kj14 t159 t132).bind fun bt161 => ((ossuarylaw0_Num.f t160).bind fun t163 => (if t163 = 0 then ((ossuarylaw0_Num.f bt161.2).bind fun t164 => (if t164 = 0 then (if bt161.1 = (Go.bits .and .i64 a1 255) then (if t132 = t134 then (if t140 = t142 then (if t146 = t148 then (if t132 ≥ 0 then (if t132 ≤ 255 then (if (Go.bits .and .i64 a0 255) = 0 then (some ((t132 == 0) == true)) else (some ((t132 == 0) == ((Go.bits .and .i64 a1 255) == 0)))) else (some false)) else (some false)) else (some false)) else (some false)) else (some false)) else (some false)) else (some false))) else (some false)))) = some r := H
            have A35 := Aside0.mk A350
            clear A350
            replace H := Option.bind_eq_some_iff.mp H
            obtain ⟨⟨t161, t162⟩, A360, H⟩ := H
            replace H : ((ossuarylaw0_Num.f t160).bind fun t163 => (if t163 = 0 then ((ossuarylaw0_Num.f t162).bind fun t164 => (if t164 = 0 then (if t161 = (Go.bits .and .i64 a1 255) then (if t132 = t134 then (if t140 = t142 then (if t146 = t148 then (if t132 ≥ 0 then (if t132 ≤ 255 then (if (Go.bits .and .i64 a0 255) = 0 then (some ((t132 == 0) == true)) else (some ((t132 == 0) == ((Go.bits .and .i64 a1 255) == 0)))) else (some false)) else (some false)) else (some false)) else (some false)) else (some false)) else (some false)) else (some false))) else (some false))) = some r := H
            have A36 := Aside0.mk A360
            clear A360
            replace H := Option.bind_eq_some_iff.mp H
            obtain ⟨t163, A370, H⟩ := H
            replace H : (if t163 = 0 then ((ossuarylaw0_Num.f t162).bind fun t164 => (if t164 = 0 then (if t161 = (Go.bits .and .i64 a1 255) then (if t132 = t134 then (if t140 = t142 then (if t146 = t148 then (if t132 ≥ 0 then (if t132 ≤ 255 then (if (Go.bits .and .i64 a0 255) = 0 then (some ((t132 == 0) == true)) else (some ((t132 == 0) == ((Go.bits .and .i64 a1 255) == 0)))) else (some false)) else (some false)) else (some false)) else (some false)) else (some false)) else (some false)) else (some false))) else (some false)) = some r := H
            have A37 := Aside0.mk A370
            clear A370
            by_cases c38 : t163 = 0
            · rw [if_pos c38] at H
              have c38b0 : (t163 == 0) = true := beq_iff_eq.mpr c38
              have c38b1 : (t163 != 0) = false := bne_eq_false_iff_eq.mpr c38
              clear c38
              replace H := Option.bind_eq_some_iff.mp H
              obtain ⟨t164, A390, H⟩ := H
              replace H : (if t164 = 0 then (if t161 = (Go.bits .and .i64 a1 255) then (if t132 = t134 then (if t140 = t142 then (if t146 = t148 then (if t132 ≥ 0 then (if t132 ≤ 255 then (if (Go.bits .and .i64 a0 255) = 0 then (some ((t132 == 0) == true)) else (some ((t132 == 0) == ((Go.bits .and .i64 a1 255) == 0)))) else (some false)) else (some false)) else (some false)) else (some false)) else (some false)) else (some false)) else (some false)) = some r := H
              have A39 := Aside0.mk A390
              clear A390
              by_cases c40 : t164 = 0
              · rw [if_pos c40] at H
                have c40b0 : (t164 == 0) = true := beq_iff_eq.mpr c40
                have c40b1 : (t164 != 0) = false := bne_eq_false_iff_eq.mpr c40
                clear c40
                by_cases c41 : t161 = (Go.bits .and .i64 a1 255)
                · rw [if_pos c41] at H
                  have c41b0 : (t161 == (Go.bits .and .i64 a1 255)) = true := beq_iff_eq.mpr c41
                  have c41b1 : (t161 != (Go.bits .and .i64 a1 255)) = false := bne_eq_false_iff_eq.mpr c41
                  clear c41
                  by_cases c42 : t132 = t134
                  · rw [if_pos c42] at H
                    have c42b0 : (t132 == t134) = true := beq_iff_eq.mpr c42
                    have c42b1 : (t132 != t134) = false := bne_eq_false_iff_eq.mpr c42
                    clear c42
                    by_cases c43 : t140 = t142
                    · rw [if_pos c43] at H
                      have c43b0 : (t140 == t142) = true := beq_iff_eq.mpr c43
                      have c43b1 : (t140 != t142) = false := bne_eq_false_iff_eq.mpr c43
                      clear c43
                      by_cases c44 : t146 = t148
                      · rw [if_pos c44] at H
                        have c44b0 : (t146 == t148) = true := beq_iff_eq.mpr c44
                        have c44b1 : (t146 != t148) = false := bne_eq_false_iff_eq.mpr c44
                        clear c44
                        by_cases c45 : t132 ≥ 0
                        · rw [if_pos c45] at H
                          have c45b0 : decide (0 ≤ t132) = true := decide_eq_true c45
                          clear c45
                          by_cases c46 : t132 ≤ 255
                          · rw [if_pos c46] at H
                            have c46b0 : decide (t132 ≤ 255) = true := decide_eq_true c46
                            clear c46
                            by_cases c47 : (Go.bits .and .i64 a0 255) = 0
                            · rw [if_pos c47] at H
                              have c47b0 : ((Go.bits .and .i64 a0 255) == 0) = true := beq_iff_eq.mpr c47
                              have c47b1 : ((Go.bits .and .i64 a0 255) != 0) = false := bne_eq_false_iff_eq.mpr c47
                              clear c47
                              obtain rfl := Option.some.inj H
                              go_wp2_with (first | ((with_reducible refine gate_callee (f := 43) rfl ?_); refine goesL_ (some 141) rfl rfl Try.func43 (by kernel_rfl) rfl #[.int .i64 (Go.bits .and .i64 a0 255)] rfl (by (try simp only [List.map_toArray, List.map_cons, List.map_nil]); first | done | rfl | (simp only [List.length_drop, List.length_take]; rfl)) ?_; (with_reducible refine (gf_Inv.calls kj14 (Go.bits .and .i64 a0 255) t159 t160 _ A35.out).mono ?_); rintro e w' ⟨rfl, ⟨nd, rfl⟩⟩; refine ⟨_, rfl, ?_⟩) | ((with_reducible refine gate_callee (f := 41) rfl ?_); refine goesL_ (some 147) rfl rfl Try.func41 (by kernel_rfl) rfl #[.int .i64 t159, .int .i64 t132] rfl (by (try simp only [List.map_toArray, List.map_cons, List.map_nil]); first | done | rfl | (simp only [List.length_drop, List.length_take]; rfl)) ?_; (with_reducible refine (gf_Mul.calls kj14 t159 t132 t161 t162 _ A36.out).mono ?_); rintro e w' ⟨rfl, ⟨nd, rfl⟩⟩; refine ⟨_, rfl, ?_⟩) | ((with_reducible refine gate_callee (f := 31) rfl ?_); refine goesL_ (some 151) rfl rfl Try.func31 (by kernel_rfl) rfl #[.int .i64 t160] rfl (by (try simp only [List.map_toArray, List.map_cons, List.map_nil]); first | done | rfl | (simp only [List.length_drop, List.length_take]; rfl)) ?_; (with_reducible refine (ossuarylaw0_Num.calls t160 t163 _ A37.out).mono ?_); rintro e w' ⟨rfl, ⟨nd, rfl⟩⟩; refine ⟨_, rfl, ?_⟩) | (go_at_call 31; (with_reducible refine (ossuarylaw0_Num.calls t162 t164 _ A39.out).mono ?_); rintro e w' ⟨rfl, ⟨nd, rfl⟩⟩))
                              go_ret
                              exact ⟨by first | rfl | (simp; done) | (simp [*]; done), by repeat (first | exact Drawn0.refl _ | apply Drawn0.step)⟩
                            · rw [if_neg c47] at H
                              have c47b0 : ((Go.bits .and .i64 a0 255) == 0) = false := beq_eq_false_iff_ne.mpr c47
                              have c47b1 : ((Go.bits .and .i64 a0 255) != 0) = true := bne_iff_ne.mpr c47
                              obtain rfl := Option.some.inj H
                              go_wp2_with (first | ((with_reducible refine gate_callee (f := 43) rfl ?_); refine goesL_ (some 141) rfl rfl Try.func43 (by kernel_rfl) rfl #[.int .i64 (Go.bits .and .i64 a0 255)] rfl (by (try simp only [List.map_toArray, List.map_cons, List.map_nil]); first | done | rfl | (simp only [List.length_drop, List.length_take]; rfl)) ?_; (with_reducible refine (gf_Inv.calls kj14 (Go.bits .and .i64 a0 255) t159 t160 _ A35.out).mono ?_); rintro e w' ⟨rfl, ⟨nd, rfl⟩⟩; refine ⟨_, rfl, ?_⟩) | ((with_reducible refine gate_callee (f := 41) rfl ?_); refine goesL_ (some 147) rfl rfl Try.func41 (by kernel_rfl) rfl #[.int .i64 t159, .int .i64 t132] rfl (by (try simp only [List.map_toArray, List.map_cons, List.map_nil]); first | done | rfl | (simp only [List.length_drop, List.length_take]; rfl)) ?_; (with_reducible refine (gf_Mul.calls kj14 t159 t132 t161 t162 _ A36.out).mono ?_); rintro e w' ⟨rfl, ⟨nd, rfl⟩⟩; refine ⟨_, rfl, ?_⟩) | ((with_reducible refine gate_callee (f := 31) rfl ?_); refine goesL_ (some 151) rfl rfl Try.func31 (by kernel_rfl) rfl #[.int .i64 t160] rfl (by (try simp only [List.map_toArray, List.map_cons, List.map_nil]); first | done | rfl | (simp only [List.length_drop, List.length_take]; rfl)) ?_; (with_reducible refine (ossuarylaw0_Num.calls t160 t163 _ A37.out).mono ?_); rintro e w' ⟨rfl, ⟨nd, rfl⟩⟩; refine ⟨_, rfl, ?_⟩) | (go_at_call 31; (with_reducible refine (ossuarylaw0_Num.calls t162 t164 _ A39.out).mono ?_); rintro e w' ⟨rfl, ⟨nd, rfl⟩⟩))
                              go_ret
                              exact ⟨by first | rfl | (simp; done) | (simp [*]; done), by repeat (first | exact Drawn0.refl _ | apply Drawn0.step)⟩
                          · rw [if_neg c46] at H
                            have c46b0 : decide (t132 ≤ 255) = false := decide_eq_false c46
                            clear c46
                            obtain rfl := Option.some.inj H
                            go_wp2_with (first | ((with_reducible refine gate_callee (f := 43) rfl ?_); refine goesL_ (some 141) rfl rfl Try.func43 (by kernel_rfl) rfl #[.int .i64 (Go.bits .and .i64 a0 255)] rfl (by (try simp only [List.map_toArray, List.map_cons, List.map_nil]); first | done | rfl | (simp only [List.length_drop, List.length_take]; rfl)) ?_; (with_reducible refine (gf_Inv.calls kj14 (Go.bits .and .i64 a0 255) t159 t160 _ A35.out).mono ?_); rintro e w' ⟨rfl, ⟨nd, rfl⟩⟩; refine ⟨_, rfl, ?_⟩) | ((with_reducible refine gate_callee (f := 41) rfl ?_); refine goesL_ (some 147) rfl rfl Try.func41 (by kernel_rfl) rfl #[.int .i64 t159, .int .i64 t132] rfl (by (try simp only [List.map_toArray, List.map_cons, List.map_nil]); first | done | rfl | (simp only [List.length_drop, List.length_take]; rfl)) ?_; (with_reducible refine (gf_Mul.calls kj14 t159 t132 t161 t162 _ A36.out).mono ?_); rintro e w' ⟨rfl, ⟨nd, rfl⟩⟩; refine ⟨_, rfl, ?_⟩) | ((with_reducible refine gate_callee (f := 31) rfl ?_); refine goesL_ (some 151) rfl rfl Try.func31 (by kernel_rfl) rfl #[.int .i64 t160] rfl (by (try simp only [List.map_toArray, List.map_cons, List.map_nil]); first | done | rfl | (simp only [List.length_drop, List.length_take]; rfl)) ?_; (with_reducible refine (ossuarylaw0_Num.calls t160 t163 _ A37.out).mono ?_); rintro e w' ⟨rfl, ⟨nd, rfl⟩⟩; refine ⟨_, rfl, ?_⟩) | (go_at_call 31; (with_reducible refine (ossuarylaw0_Num.calls t162 t164 _ A39.out).mono ?_); rintro e w' ⟨rfl, ⟨nd, rfl⟩⟩))
                            go_ret
                            exact ⟨by first | rfl | (simp; done) | (simp [*]; done), by repeat (first | exact Drawn0.refl _ | apply Drawn0.step)⟩
                        · rw [if_neg c45] at H
                          have c45b0 : decide (0 ≤ t132) = false := decide_eq_false c45
                          clear c45
                          obtain rfl := Option.some.inj H
                          go_wp2_with (first | ((with_reducible refine gate_callee (f := 43) rfl ?_); refine goesL_ (some 141) rfl rfl Try.func43 (by kernel_rfl) rfl #[.int .i64 (Go.bits .and .i64 a0 255)] rfl (by (try simp only [List.map_toArray, List.map_cons, List.map_nil]); first | done | rfl | (simp only [List.length_drop, List.length_take]; rfl)) ?_; (with_reducible refine (gf_Inv.calls kj14 (Go.bits .and .i64 a0 255) t159 t160 _ A35.out).mono ?_); rintro e w' ⟨rfl, ⟨nd, rfl⟩⟩; refine ⟨_, rfl, ?_⟩) | ((with_reducible refine gate_callee (f := 41) rfl ?_); refine goesL_ (some 147) rfl rfl Try.func41 (by kernel_rfl) rfl #[.int .i64 t159, .int .i64 t132] rfl (by (try simp only [List.map_toArray, List.map_cons, List.map_nil]); first | done | rfl | (simp only [List.length_drop, List.length_take]; rfl)) ?_; (with_reducible refine (gf_Mul.calls kj14 t159 t132 t161 t162 _ A36.out).mono ?_); rintro e w' ⟨rfl, ⟨nd, rfl⟩⟩; refine ⟨_, rfl, ?_⟩) | ((with_reducible refine gate_callee (f := 31) rfl ?_); refine goesL_ (some 151) rfl rfl Try.func31 (by kernel_rfl) rfl #[.int .i64 t160] rfl (by (try simp only [List.map_toArray, List.map_cons, List.map_nil]); first | done | rfl | (simp only [List.length_drop, List.length_take]; rfl)) ?_; (with_reducible refine (ossuarylaw0_Num.calls t160 t163 _ A37.out).mono ?_); rintro e w' ⟨rfl, ⟨nd, rfl⟩⟩; refine ⟨_, rfl, ?_⟩) | (go_at_call 31; (with_reducible refine (ossuarylaw0_Num.calls t162 t164 _ A39.out).mono ?_); rintro e w' ⟨rfl, ⟨nd, rfl⟩⟩))
                          go_ret
                          exact ⟨by first | rfl | (simp; done) | (simp [*]; done), by repeat (first | exact Drawn0.refl _ | apply Drawn0.step)⟩
                      · rw [if_neg c44] at H
                        have c44b0 : (t146 == t148) = false := beq_eq_false_iff_ne.mpr c44
                        have c44b1 : (t146 != t148) = true := bne_iff_ne.mpr c44
                        obtain rfl := Option.some.inj H
                        go_wp2_with (first | ((with_reducible refine gate_callee (f := 43) rfl ?_); refine goesL_ (some 141) rfl rfl Try.func43 (by kernel_rfl) rfl #[.int .i64 (Go.bits .and .i64 a0 255)] rfl (by (try simp only [List.map_toArray, List.map_cons, List.map_nil]); first | done | rfl | (simp only [List.length_drop, List.length_take]; rfl)) ?_; (with_reducible refine (gf_Inv.calls kj14 (Go.bits .and .i64 a0 255) t159 t160 _ A35.out).mono ?_); rintro e w' ⟨rfl, ⟨nd, rfl⟩⟩; refine ⟨_, rfl, ?_⟩) | ((with_reducible refine gate_callee (f := 41) rfl ?_); refine goesL_ (some 147) rfl rfl Try.func41 (by kernel_rfl) rfl #[.int .i64 t159, .int .i64 t132] rfl (by (try simp only [List.map_toArray, List.map_cons, List.map_nil]); first | done | rfl | (simp only [List.length_drop, List.length_take]; rfl)) ?_; (with_reducible refine (gf_Mul.calls kj14 t159 t132 t161 t162 _ A36.out).mono ?_); rintro e w' ⟨rfl, ⟨nd, rfl⟩⟩; refine ⟨_, rfl, ?_⟩) | ((with_reducible refine gate_callee (f := 31) rfl ?_); refine goesL_ (some 151) rfl rfl Try.func31 (by kernel_rfl) rfl #[.int .i64 t160] rfl (by (try simp only [List.map_toArray, List.map_cons, List.map_nil]); first | done | rfl | (simp only [List.length_drop, List.length_take]; rfl)) ?_; (with_reducible refine (ossuarylaw0_Num.calls t160 t163 _ A37.out).mono ?_); rintro e w' ⟨rfl, ⟨nd, rfl⟩⟩; refine ⟨_, rfl, ?_⟩) | (go_at_call 31; (with_reducible refine (ossuarylaw0_Num.calls t162 t164 _ A39.out).mono ?_); rintro e w' ⟨rfl, ⟨nd, rfl⟩⟩))
                        go_ret
                        exact ⟨by first | rfl | (simp; done) | (simp [*]; done), by repeat (first | exact Drawn0.refl _ | apply Drawn0.step)⟩
                    · rw [if_neg c43] at H
                      have c43b0 : (t140 == t142) = false := beq_eq_false_iff_ne.mpr c43
                      have c43b1 : (t140 != t142) = true := bne_iff_ne.mpr c43
                      obtain rfl := Option.some.inj H
                      go_wp2_with (first | ((with_reducible refine gate_callee (f := 43) rfl ?_); refine goesL_ (some 141) rfl rfl Try.func43 (by kernel_rfl) rfl #[.int .i64 (Go.bits .and .i64 a0 255)] rfl (by (try simp only [List.map_toArray, List.map_cons, List.map_nil]); first | done | rfl | (simp only [List.length_drop, List.length_take]; rfl)) ?_; (with_reducible refine (gf_Inv.calls kj14 (Go.bits .and .i64 a0 255) t159 t160 _ A35.out).mono ?_); rintro e w' ⟨rfl, ⟨nd, rfl⟩⟩; refine ⟨_, rfl, ?_⟩) | ((with_reducible refine gate_callee (f := 41) rfl ?_); refine goesL_ (some 147) rfl rfl Try.func41 (by kernel_rfl) rfl #[.int .i64 t159, .int .i64 t132] rfl (by (try simp only [List.map_toArray, List.map_cons, List.map_nil]); first | done | rfl | (simp only [List.length_drop, List.length_take]; rfl)) ?_; (with_reducible refine (gf_Mul.calls kj14 t159 t132 t161 t162 _ A36.out).mono ?_); rintro e w' ⟨rfl, ⟨nd, rfl⟩⟩; refine ⟨_, rfl, ?_⟩) | ((with_reducible refine gate_callee (f := 31) rfl ?_); refine goesL_ (some 151) rfl rfl Try.func31 (by kernel_rfl) rfl #[.int .i64 t160] rfl (by (try simp only [List.map_toArray, List.map_cons, List.map_nil]); first | done | rfl | (simp only [List.length_drop, List.length_take]; rfl)) ?_; (with_reducible refine (ossuarylaw0_Num.calls t160 t163 _ A37.out).mono ?_); rintro e w' ⟨rfl, ⟨nd, rfl⟩⟩; refine ⟨_, rfl, ?_⟩) | (go_at_call 31; (with_reducible refine (ossuarylaw0_Num.calls t162 t164 _ A39.out).mono ?_); rintro e w' ⟨rfl, ⟨nd, rfl⟩⟩))
                      go_ret
                      exact ⟨by first | rfl | (simp; done) | (simp [*]; done), by repeat (first | exact Drawn0.refl _ | apply Drawn0.step)⟩
                  · rw [if_neg c42] at H
                    have c42b0 : (t132 == t134) = false := beq_eq_false_iff_ne.mpr c42
                    have c42b1 : (t132 != t134) = true := bne_iff_ne.mpr c42
                    obtain rfl := Option.some.inj H
                    go_wp2_with (first | ((with_reducible refine gate_callee (f := 43) rfl ?_); refine goesL_ (some 141) rfl rfl Try.func43 (by kernel_rfl) rfl #[.int .i64 (Go.bits .and .i64 a0 255)] rfl (by (try simp only [List.map_toArray, List.map_cons, List.map_nil]); first | done | rfl | (simp only [List.length_drop, List.length_take]; rfl)) ?_; (with_reducible refine (gf_Inv.calls kj14 (Go.bits .and .i64 a0 255) t159 t160 _ A35.out).mono ?_); rintro e w' ⟨rfl, ⟨nd, rfl⟩⟩; refine ⟨_, rfl, ?_⟩) | ((with_reducible refine gate_callee (f := 41) rfl ?_); refine goesL_ (some 147) rfl rfl Try.func41 (by kernel_rfl) rfl #[.int .i64 t159, .int .i64 t132] rfl (by (try simp only [List.map_toArray, List.map_cons, List.map_nil]); first | done | rfl | (simp only [List.length_drop, List.length_take]; rfl)) ?_; (with_reducible refine (gf_Mul.calls kj14 t159 t132 t161 t162 _ A36.out).mono ?_); rintro e w' ⟨rfl, ⟨nd, rfl⟩⟩; refine ⟨_, rfl, ?_⟩) | ((with_reducible refine gate_callee (f := 31) rfl ?_); refine goesL_ (some 151) rfl rfl Try.func31 (by kernel_rfl) rfl #[.int .i64 t160] rfl (by (try simp only [List.map_toArray, List.map_cons, List.map_nil]); first | done | rfl | (simp only [List.length_drop, List.length_take]; rfl)) ?_; (with_reducible refine (ossuarylaw0_Num.calls t160 t163 _ A37.out).mono ?_); rintro e w' ⟨rfl, ⟨nd, rfl⟩⟩; refine ⟨_, rfl, ?_⟩) | (go_at_call 31; (with_reducible refine (ossuarylaw0_Num.calls t162 t164 _ A39.out).mono ?_); rintro e w' ⟨rfl, ⟨nd, rfl⟩⟩))
                    go_ret
                    exact ⟨by first | rfl | (simp; done) | (simp [*]; done), by repeat (first | exact Drawn0.refl _ | apply Drawn0.step)⟩
                · rw [if_neg c41] at H
                  have c41b0 : (t161 == (Go.bits .and .i64 a1 255)) = false := beq_eq_false_iff_ne.mpr c41
                  have c41b1 : (t161 != (Go.bits .and .i64 a1 255)) = true := bne_iff_ne.mpr c41
                  obtain rfl := Option.some.inj H
                  go_wp2_with (first | ((with_reducible refine gate_callee (f := 43) rfl ?_); refine goesL_ (some 141) rfl rfl Try.func43 (by kernel_rfl) rfl #[.int .i64 (Go.bits .and .i64 a0 255)] rfl (by (try simp only [List.map_toArray, List.map_cons, List.map_nil]); first | done | rfl | (simp only [List.length_drop, List.length_take]; rfl)) ?_; (with_reducible refine (gf_Inv.calls kj14 (Go.bits .and .i64 a0 255) t159 t160 _ A35.out).mono ?_); rintro e w' ⟨rfl, ⟨nd, rfl⟩⟩; refine ⟨_, rfl, ?_⟩) | ((with_reducible refine gate_callee (f := 41) rfl ?_); refine goesL_ (some 147) rfl rfl Try.func41 (by kernel_rfl) rfl #[.int .i64 t159, .int .i64 t132] rfl (by (try simp only [List.map_toArray, List.map_cons, List.map_nil]); first | done | rfl | (simp only [List.length_drop, List.length_take]; rfl)) ?_; (with_reducible refine (gf_Mul.calls kj14 t159 t132 t161 t162 _ A36.out).mono ?_); rintro e w' ⟨rfl, ⟨nd, rfl⟩⟩; refine ⟨_, rfl, ?_⟩) | ((with_reducible refine gate_callee (f := 31) rfl ?_); refine goesL_ (some 151) rfl rfl Try.func31 (by kernel_rfl) rfl #[.int .i64 t160] rfl (by (try simp only [List.map_toArray, List.map_cons, List.map_nil]); first | done | rfl | (simp only [List.length_drop, List.length_take]; rfl)) ?_; (with_reducible refine (ossuarylaw0_Num.calls t160 t163 _ A37.out).mono ?_); rintro e w' ⟨rfl, ⟨nd, rfl⟩⟩; refine ⟨_, rfl, ?_⟩) | (go_at_call 31; (with_reducible refine (ossuarylaw0_Num.calls t162 t164 _ A39.out).mono ?_); rintro e w' ⟨rfl, ⟨nd, rfl⟩⟩))
                  go_ret
                  exact ⟨by first | rfl | (simp; done) | (simp [*]; done), by repeat (first | exact Drawn0.refl _ | apply Drawn0.step)⟩
              · rw [if_neg c40] at H
                have c40b0 : (t164 == 0) = false := beq_eq_false_iff_ne.mpr c40
                have c40b1 : (t164 != 0) = true := bne_iff_ne.mpr c40
                obtain rfl := Option.some.inj H
                go_wp2_with (first | ((with_reducible refine gate_callee (f := 43) rfl ?_); refine goesL_ (some 141) rfl rfl Try.func43 (by kernel_rfl) rfl #[.int .i64 (Go.bits .and .i64 a0 255)] rfl (by (try simp only [List.map_toArray, List.map_cons, List.map_nil]); first | done | rfl | (simp only [List.length_drop, List.length_take]; rfl)) ?_; (with_reducible refine (gf_Inv.calls kj14 (Go.bits .and .i64 a0 255) t159 t160 _ A35.out).mono ?_); rintro e w' ⟨rfl, ⟨nd, rfl⟩⟩; refine ⟨_, rfl, ?_⟩) | ((with_reducible refine gate_callee (f := 41) rfl ?_); refine goesL_ (some 147) rfl rfl Try.func41 (by kernel_rfl) rfl #[.int .i64 t159, .int .i64 t132] rfl (by (try simp only [List.map_toArray, List.map_cons, List.map_nil]); first | done | rfl | (simp only [List.length_drop, List.length_take]; rfl)) ?_; (with_reducible refine (gf_Mul.calls kj14 t159 t132 t161 t162 _ A36.out).mono ?_); rintro e w' ⟨rfl, ⟨nd, rfl⟩⟩; refine ⟨_, rfl, ?_⟩) | ((with_reducible refine gate_callee (f := 31) rfl ?_); refine goesL_ (some 151) rfl rfl Try.func31 (by kernel_rfl) rfl #[.int .i64 t160] rfl (by (try simp only [List.map_toArray, List.map_cons, List.map_nil]); first | done | rfl | (simp only [List.length_drop, List.length_take]; rfl)) ?_; (with_reducible refine (ossuarylaw0_Num.calls t160 t163 _ A37.out).mono ?_); rintro e w' ⟨rfl, ⟨nd, rfl⟩⟩; refine ⟨_, rfl, ?_⟩) | (go_at_call 31; (with_reducible refine (ossuarylaw0_Num.calls t162 t164 _ A39.out).mono ?_); rintro e w' ⟨rfl, ⟨nd, rfl⟩⟩))
                go_ret
                exact ⟨by first | rfl | (simp; done) | (simp [*]; done), by repeat (first | exact Drawn0.refl _ | apply Drawn0.step)⟩
            · rw [if_neg c38] at H
              have c38b0 : (t163 == 0) = false := beq_eq_false_iff_ne.mpr c38
              have c38b1 : (t163 != 0) = true := bne_iff_ne.mpr c38
              obtain rfl := Option.some.inj H
              go_wp2_with (first | ((with_reducible refine gate_callee (f := 43) rfl ?_); refine goesL_ (some 141) rfl rfl Try.func43 (by kernel_rfl) rfl #[.int .i64 (Go.bits .and .i64 a0 255)] rfl (by (try simp only [List.map_toArray, List.map_cons, List.map_nil]); first | done | rfl | (simp only [List.length_drop, List.length_take]; rfl)) ?_; (with_reducible refine (gf_Inv.calls kj14 (Go.bits .and .i64 a0 255) t159 t160 _ A35.out).mono ?_); rintro e w' ⟨rfl, ⟨nd, rfl⟩⟩; refine ⟨_, rfl, ?_⟩) | ((with_reducible refine gate_callee (f := 41) rfl ?_); refine goesL_ (some 147) rfl rfl Try.func41 (by kernel_rfl) rfl #[.int .i64 t159, .int .i64 t132] rfl (by (try simp only [List.map_toArray, List.map_cons, List.map_nil]); first | done | rfl | (simp only [List.length_drop, List.length_take]; rfl)) ?_; (with_reducible refine (gf_Mul.calls kj14 t159 t132 t161 t162 _ A36.out).mono ?_); rintro e w' ⟨rfl, ⟨nd, rfl⟩⟩; refine ⟨_, rfl, ?_⟩) | ((with_reducible refine gate_callee (f := 31) rfl ?_); refine goesL_ (some 151) rfl rfl Try.func31 (by kernel_rfl) rfl #[.int .i64 t160] rfl (by (try simp only [List.map_toArray, List.map_cons, List.map_nil]); first | done | rfl | (simp only [List.length_drop, List.length_take]; rfl)) ?_; (with_reducible refine (ossuarylaw0_Num.calls t160 t163 _ A37.out).mono ?_); rintro e w' ⟨rfl, ⟨nd, rfl⟩⟩; refine ⟨_, rfl, ?_⟩))
              go_ret
              exact ⟨by first | rfl | (simp; done) | (simp [*]; done), by repeat (first | exact Drawn0.refl _ | apply Drawn0.step)⟩
          · rw [if_neg c34] at H
            have c34b0 : decide (0 < (Go.bits .and .i64 a0 255)) = false := decide_eq_false c34
            clear c34
            by_cases c48 : t132 = t134
            · rw [if_pos c48] at H
              have c48b0 : (t132 == t134) = true := beq_iff_eq.mpr c48
              have c48b1 : (t132 != t134) = false := bne_eq_false_iff_eq.mpr c48
              clear c48
              by_cases c49 : t140 = t142
              · rw [if_pos c49] at H
                have c49b0 : (t140 == t142) = true := beq_iff_eq.mpr c49
                have c49b1 : (t140 != t142) = false := bne_eq_false_iff_eq.mpr c49
                clear c49
                by_cases c50 : t146 = t148
                · rw [if_pos c50] at H
                  have c50b0 : (t146 == t148) = true := beq_iff_eq.mpr c50
                  have c50b1 : (t146 != t148) = false := bne_eq_false_iff_eq.mpr c50
                  clear c50
                  by_cases c51 : t132 ≥ 0
                  · rw [if_pos c51] at H
                    have c51b0 : decide (0 ≤ t132) = true := decide_eq_true c51
                    clear c51
                    by_cases c52 : t132 ≤ 255
                    · rw [if_pos c52] at H
                      have c52b0 : decide (t132 ≤ 255) = true := decide_eq_true c52
                      clear c52
                      by_cases c53 : (Go.bits .and .i64 a0 255) = 0
                      · rw [if_pos c53] at H
                        have c53b0 : ((Go.bits .and .i64 a0 255) == 0) = true := beq_iff_eq.mpr c53
                        have c53b1 : ((Go.bits .and .i64 a0 255) != 0) = false := bne_eq_false_iff_eq.mpr c53
                        clear c53
                        obtain rfl := Option.some.inj H
                        go_wp2
                        go_ret
                        exact ⟨by first | rfl | (simp; done) | (simp [*]; done), by repeat (first | exact Drawn0.refl _ | apply Drawn0.step)⟩
                      · rw [if_neg c53] at H
                        have c53b0 : ((Go.bits .and .i64 a0 255) == 0) = false := beq_eq_false_iff_ne.mpr c53
                        have c53b1 : ((Go.bits .and .i64 a0 255) != 0) = true := bne_iff_ne.mpr c53
                        obtain rfl := Option.some.inj H
                        go_wp2
                        go_ret
                        exact ⟨by first | rfl | (simp; done) | (simp [*]; done), by repeat (first | exact Drawn0.refl _ | apply Drawn0.step)⟩
                    · rw [if_neg c52] at H
                      have c52b0 : decide (t132 ≤ 255) = false := decide_eq_false c52
                      clear c52
                      obtain rfl := Option.some.inj H
                      go_wp2
                      go_ret
                      exact ⟨by first | rfl | (simp; done) | (simp [*]; done), by repeat (first | exact Drawn0.refl _ | apply Drawn0.step)⟩
                  · rw [if_neg c51] at H
                    have c51b0 : decide (0 ≤ t132) = false := decide_eq_false c51
                    clear c51
                    obtain rfl := Option.some.inj H
                    go_wp2
                    go_ret
                    exact ⟨by first | rfl | (simp; done) | (simp [*]; done), by repeat (first | exact Drawn0.refl _ | apply Drawn0.step)⟩
                · rw [if_neg c50] at H
                  have c50b0 : (t146 == t148) = false := beq_eq_false_iff_ne.mpr c50
                  have c50b1 : (t146 != t148) = true := bne_iff_ne.mpr c50
                  obtain rfl := Option.some.inj H
                  go_wp2
                  go_ret
                  exact ⟨by first | rfl | (simp; done) | (simp [*]; done), by repeat (first | exact Drawn0.refl _ | apply Drawn0.step)⟩
              · rw [if_neg c49] at H
                have c49b0 : (t140 == t142) = false := beq_eq_false_iff_ne.mpr c49
                have c49b1 : (t140 != t142) = true := bne_iff_ne.mpr c49
                obtain rfl := Option.some.inj H
                go_wp2
                go_ret
                exact ⟨by first | rfl | (simp; done) | (simp [*]; done), by repeat (first | exact Drawn0.refl _ | apply Drawn0.step)⟩
            · rw [if_neg c48] at H
              have c48b0 : (t132 == t134) = false := beq_eq_false_iff_ne.mpr c48
              have c48b1 : (t132 != t134) = true := bne_iff_ne.mpr c48
              obtain rfl := Option.some.inj H
              go_wp2
              go_ret
              exact ⟨by first | rfl | (simp; done) | (simp [*]; done), by repeat (first | exact Drawn0.refl _ | apply Drawn0.step)⟩
  · replace c5 := Bool.eq_false_iff.mpr c5
    subst c5
    have H1 : (some false) = some r := by rw [if_neg (show ¬ (false = true) by decide)] at H; exact H
    clear H
    have H := H1
    clear H1
    obtain rfl := Option.some.inj H
    go_enter Try.func13, Try.ntmps13
    go_wp2_with (first | ((with_reducible refine gate_callee (f := 47) rfl ?_); refine goesL_ (some 32) rfl rfl Try.func47 (by kernel_rfl) rfl #[] rfl (by (try simp only [List.map_toArray, List.map_cons, List.map_nil]); first | done | rfl | (simp only [List.length_drop, List.length_take]; rfl)) ?_; (with_reducible refine (ossuarylaw1_awake.calls k  false _ A4.out).mono ?_); rintro e w' ⟨rfl, ⟨nd, rfl⟩⟩; refine ⟨_, rfl, ?_⟩))
    go_ret
    exact ⟨by first | rfl | (simp; done) | (simp [*]; done), by repeat (first | exact Drawn0.refl _ | apply Drawn0.step)⟩

/-- THE ONE PURE STATEMENT of ossuarylaw1_FieldLaws: yours. -/
def ossuarylaw1_FieldLaws.Pure : Prop := ∀ (a0 : Int) (a1 : Int) (a2 : Int), (Lit.int .i64 a0).wf = true → (Lit.int .i64 a1).wf = true → (Lit.int .i64 a2).wf = true → ∃ k, ossuarylaw1_FieldLaws.f k a0 a1 a2 = some true
theorem ossuarylaw1_FieldLaws.walk (P : ossuarylaw1_FieldLaws.Pure) (a0 : Int) (a1 : Int) (a2 : Int) (w : World) (w0 : (Lit.int .i64 a0).wf = true) (w1 : (Lit.int .i64 a1).wf = true) (w2 : (Lit.int .i64 a2).wf = true) :
    Calls Try.prog 13 #[.int .i64 a0, .int .i64 a1, .int .i64 a2] w fun e w' => e = .returned (.bool true) ∧ Below w.heap.size w w' := by
  obtain ⟨k, h⟩ := P a0 a1 a2 w0 w1 w2
  refine (ossuarylaw1_FieldLaws.calls k a0 a1 a2 true w h).mono ?_
  rintro e w' ⟨rfl, hd⟩
  exact ⟨rfl, hd.below⟩

end Go.Proofs.Ythglackkhajapaa.PFieldLaws
