/- The row of ossuarylaw4.InvertProduct: for every input the law returns true, and each argument reads behind the call as it read before. No condition. -/
import Derived.Test.YtaahnicjjpddjaaRows
import Derived.Test.YtaahnicjjpddjaaGInvertProduct2
import Derived.Test.YtaahnicjjpddjaaPureInvertProduct
import Derived.Test.YtaahnicjjpddjaaOpen
import Derived.Test.YtaahnicjjpddjaaHead
import Derived.WalkKit
import Derived.ProofKit
import Derived.OpenShut
import Derived.ShutString
import Derived.ChangeOld
import Derived.Below
import Derived.Carry
import Derived.SizedLaws
namespace Go.Proofs.Ytaahnicjjpddjaa.invertProduct
open Go.ChangeShapes Go.WideShapes Go.ChangeAt Go.RowKit Go.Joins Go.Proofs.Ytaahnicjjpddjaa.Opn
open Go.ChangeMaps (open_string shut_string)
open Go.Proofs.YtaahnicjjpddjaaW.PrintWords (Kd)
set_option linter.unusedVariables false
theorem own : ownKnob Try.prog.godebug = none := by kernel_rfl
theorem laidOut : laidOutB Try.prog = true := by kernel_rfl
set_option maxRecDepth 100000 in
theorem lifted (os : Os) (started : os.Started) (H : Type) (enc : TypeId × Value → H) :
    ReturnsInHanded {} Try.checked os 10 .any (Rows.invertProductSpec.pre6 enc Try.prog Try.f10 Rows.invertProductRow.domain false) (Rows.invertProductSpec.post enc Try.prog Try.f10 false true false false) := by
  refine returnsInHanded_of_change_sized (C := Try.checked) own started (by kernel_rfl) Try.func10
    (ChangeSpec.witness6 (enc := enc) (C := Try.checked) false ⟨#[], #[.agg #[.slice none 0 0], .agg #[.slice none 0 0]], []⟩ 8 (by kernel_rfl) (by kernel_rfl) (by kernel_rfl) (by kernel_rfl)) ?_
  intro W base args ds gs before hval0 hW hcnd hsz0 _
  have hsz : (DataW.weightsEach Try.prog (Try.f10.params.toList ++ Rows.invertProductSpec.plain.varTypes Try.prog) (ds ++ gs)).all (· ≤ reachBytes) = true := hsz0
  have hval : ∀ (j : Nat) t v, Try.f10.params[j]? = some t → args[j]? = some v → Value.okWide Try.prog W .any base t v := hval0
  have hW' := hW
  obtain ⟨p, q, hA0, hV, rfl, hfz, hnd⟩ := hW
  have hA : DataW.TrodAll enc Try.prog W 0 (fun _ => true) true Try.f10.params.toList args.toList ds p := hA0
  rw [Try.params10] at hA hval hsz
  obtain ⟨v0, vs0, d0, ds0, p0, q0, hargs, rfl, rfl, h0, r0⟩ := trodAll_cons hA
  obtain ⟨v1, vs1, d1, ds1, p1, q1, rfl, rfl, rfl, h1, r1⟩ := trodAll_cons r0
  obtain ⟨rfl, rfl, rfl⟩ := trodAll_nil r1
  obtain rfl : args = #[v0, v1] := by cases args; simp_all
  obtain ⟨rfl, rfl⟩ := trodVars_none hV
  have k0 := h0
  have lt0 : ∀ x ∈ p0, x.block < W.heap.size := by obtain ⟨m, hm⟩ := k0; exact DataW.trod_lt m _ _ _ hm
  obtain ⟨A0, c0, l0, rfl, hc0, hr0, g0, s0⟩ := param_box (B := 24) Try.underlying24 (by kernel_rfl) (by kernel_rfl) rfl Try.underlying22 (by kernel_rfl) (by kernel_rfl) rfl (opens_slice 8 Try.underlying25 (by kernel_rfl) (by kernel_rfl) rfl (opens_int Try.underlying3)) (hval 0 24 v0 rfl rfl) h0 hsz (j := 0) rfl rfl
  have k1 := h1
  have lt1 : ∀ x ∈ p1, x.block < W.heap.size := by obtain ⟨m, hm⟩ := k1; exact DataW.trod_lt m _ _ _ hm
  obtain ⟨A1, c1, l1, rfl, hc1, hr1, g1, s1⟩ := param_box (B := 24) Try.underlying24 (by kernel_rfl) (by kernel_rfl) rfl Try.underlying22 (by kernel_rfl) (by kernel_rfl) rfl (opens_slice 8 Try.underlying25 (by kernel_rfl) (by kernel_rfl) rfl (opens_int Try.underlying3)) (hval 1 24 v1 rfl rfl) h1 hsz (j := 1) rfl rfl
  clear hA0 hval0 hsz0 hsz
  obtain ⟨k, hk⟩ := Pure.InvertProduct l0 g0 s0 l1 g1 s1
  refine (GInvertProduct.ossuarylaw4_InvertProduct.calls k A0 c0 l0 A1 c1 l1 true W hr0 hc0 hr1 hc1 hk).mono fun e W' ⟨he, bel⟩ => ?_
  subst he
  exact ⟨_, rfl, _, _, _, [], _, [], hW', trodAll_mk1 (shut_bool Try.underlying4 _), (trodAll_cons_mk (Below.trod laidOut (by kernel_rfl) (of_decide_eq_true (by kernel_rfl)) k0 bel lt0) (trodAll_cons_mk (Below.trod laidOut (by kernel_rfl) (of_decide_eq_true (by kernel_rfl)) k1 bel lt1) trodAll_mk0)), rfl, bel.frame _, fun h => by cases h⟩
theorem closed : joinedFacts Try.prog 10 Try.f10 Rows.invertProductSpec Rows.invertProductRow = true := by
  unfold joinedFacts
  rw [Head.make, Head.mayEnter, Head.lifts]
  kernel_rfl
theorem over : Rows.invertProductRow.holds Try.pinned (OpenSpec.ofChange Rows.invertProductSpec) :=
  OpenClaim.holds_of_wide 10 Try.f10 rfl rfl rfl rfl rfl rfl rfl ⟨rfl, rfl, rfl, rfl, rfl⟩ rfl rfl rfl rfl rfl (by kernel_rfl) Try.func10 closed
    (of_decide_eq_true (by kernel_rfl)) (by unfold Func.isWrapper; first | (rw [if_pos (by decide +kernel)]; kernel_rfl) | (rw [if_neg (by decide +kernel)]; exact ⟨rfl, rfl⟩))
    (fun os started H enc _ => lifted os started H enc)
theorem proved : Rows.InvertProductSaid := over
#print axioms proved
end Go.Proofs.Ytaahnicjjpddjaa.invertProduct
namespace Go.Proofs.Ytaahnicjjpddjaa
/-- The row, under a short name, for the claim. -/
theorem invertProduct_holds : Rows.InvertProductSaid := invertProduct.proved
end Go.Proofs.Ytaahnicjjpddjaa
