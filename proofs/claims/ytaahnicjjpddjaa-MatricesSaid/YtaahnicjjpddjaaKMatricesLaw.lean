/- The row of ossuarylaw3.Matrices: for every input the law returns true, and each argument reads behind the call as it read before. No condition. -/
import Derived.Test.YtaahnicjjpddjaaKMatricesOpen
import Derived.Test.YtaahnicjjpddjaaKMatricesHead
namespace Go.Proofs.Ytaahnicjjpddjaa.matrices
open Go.ChangeShapes Go.WideShapes Go.ChangeAt Go.RowKit Go.Joins Go.Proofs.Ytaahnicjjpddjaa.Opn
open Go.ChangeMaps (open_string shut_string)
open Go.Proofs.YtaahnicjjpddjaaW.PrintWords (Kd)
set_option linter.unusedVariables false
theorem own : ownKnob Try.prog.godebug = none := by kernel_rfl
theorem laidOut : laidOutB Try.prog = true := by kernel_rfl
set_option maxRecDepth 100000 in
theorem lifted (os : Os) (started : os.Started) (H : Type) (enc : TypeId × Value → H) :
    ReturnsInHanded {} Try.checked os 3 .any (Rows.matricesSpec.pre6 enc Try.prog Try.f3 Rows.matricesRow.domain false) (Rows.matricesSpec.post enc Try.prog Try.f3 false true false false) := by
  refine returnsInHanded_of_change_sized (C := Try.checked) own started uP Try.func3
    (ChangeSpec.witness6 (enc := enc) (C := Try.checked) false ⟨#[], #[.agg #[.slice none 0 0], .agg #[.slice none 0 0], .slice none 0 0, .int .i64 0], []⟩ 8 uP uP uP uP) ?_
  intro W base args ds gs before hval0 hW hcnd hsz0 _
  have hsz : (DataW.weightsEach Try.prog (Try.f3.params.toList ++ Rows.matricesSpec.plain.varTypes Try.prog) (ds ++ gs)).all (· ≤ reachBytes) = true := hsz0
  have hval : ∀ (j : Nat) t v, Try.f3.params[j]? = some t → args[j]? = some v → Value.okWide Try.prog W .any base t v := hval0
  have hW' := hW
  obtain ⟨p, q, hA0, hV, rfl, hfz, hnd⟩ := hW
  have hA : DataW.TrodAll enc Try.prog W 0 (fun _ => true) true Try.f3.params.toList args.toList ds p := hA0
  rw [Try.params3] at hA hval hsz
  obtain ⟨v0, vs0, d0, ds0, p0, q0, hargs, rfl, rfl, h0, r0⟩ := trodAll_cons hA
  obtain ⟨v1, vs1, d1, ds1, p1, q1, rfl, rfl, rfl, h1, r1⟩ := trodAll_cons r0
  obtain ⟨v2, vs2, d2, ds2, p2, q2, rfl, rfl, rfl, h2, r2⟩ := trodAll_cons r1
  obtain ⟨v3, vs3, d3, ds3, p3, q3, rfl, rfl, rfl, h3, r3⟩ := trodAll_cons r2
  obtain ⟨rfl, rfl, rfl⟩ := trodAll_nil r3
  obtain rfl : args = #[v0, v1, v2, v3] := by cases args; simp_all
  obtain ⟨rfl, rfl⟩ := trodVars_none hV
  have k0 := h0
  have lt0 : ∀ x ∈ p0, x.block < W.heap.size := by obtain ⟨m, hm⟩ := k0; exact DataW.trod_lt m _ _ _ hm
  obtain ⟨A0, c0, l0, rfl, hc0, hr0, g0, s0⟩ := param_box (B := 24) Try.underlying24 uP uP rfl Try.underlying22 uP uP rfl (opens_slice 8 Try.underlying25 uP uP rfl (opens_int Try.underlying3)) (hval 0 24 v0 rfl rfl) h0 hsz (j := 0) rfl rfl
  have k1 := h1
  have lt1 : ∀ x ∈ p1, x.block < W.heap.size := by obtain ⟨m, hm⟩ := k1; exact DataW.trod_lt m _ _ _ hm
  obtain ⟨A1, c1, l1, rfl, hc1, hr1, g1, s1⟩ := param_box (B := 24) Try.underlying24 uP uP rfl Try.underlying22 uP uP rfl (opens_slice 8 Try.underlying25 uP uP rfl (opens_int Try.underlying3)) (hval 1 24 v1 rfl rfl) h1 hsz (j := 1) rfl rfl
  have k2 := h2
  have lt2 : ∀ x ∈ p2, x.block < W.heap.size := by obtain ⟨m, hm⟩ := k2; exact DataW.trod_lt m _ _ _ hm
  obtain ⟨A2, c2, l2, rfl, hc2, hr2, g2, s2⟩ := param_slice (B := 8) Try.underlying25 uP uP rfl (opens_int Try.underlying3) (hval 2 25 v2 rfl rfl) h2 hsz (j := 2) rfl rfl
  obtain ⟨a3, rfl, rfl, rfl, w3⟩ := open_int Try.underlying3 (hval 3 3 v3 rfl rfl) h3
  clear hA0 hval0 hsz0 hsz
  have hk := Pure.Matrices l0 g0 s0 l1 g1 s1 l2 g2 s2 a3 w3
  refine (MatR.calls A0 c0 l0 A1 c1 l1 A2 c2 l2 a3 true W hr0 hc0 hr1 hc1 hr2 hc2 hk).mono fun e W' ⟨he, bel⟩ => ?_
  subst he
  exact ⟨_, rfl, _, _, _, [], _, [], hW', trodAll_mk1 (shut_bool Try.underlying4 _), (trodAll_cons_mk (Below.trod laidOut uP (of_decide_eq_true uP) k0 bel lt0) (trodAll_cons_mk (Below.trod laidOut uP (of_decide_eq_true uP) k1 bel lt1) (trodAll_cons_mk (Below.trod laidOut uP (of_decide_eq_true uP) k2 bel lt2) (trodAll_cons_mk (shut_int Try.underlying3 w3) trodAll_mk0)))), rfl, bel.frame _, fun h => by cases h⟩
theorem closed : joinedFacts Try.prog 3 Try.f3 Rows.matricesSpec Rows.matricesRow = true := by
  unfold joinedFacts
  rw [Head.make, Head.mayEnter, Head.lifts]
  kernel_rfl
theorem over : Rows.matricesRow.holds Try.pinned (OpenSpec.ofChange Rows.matricesSpec) :=
  OpenClaim.holds_of_wide 3 Try.f3 rfl rfl rfl rfl rfl rfl rfl ⟨rfl, rfl, rfl, rfl, rfl⟩ rfl rfl rfl rfl rfl uP Try.func3 closed
    (of_decide_eq_true uP) (by unfold Func.isWrapper; first | (rw [if_pos (by decide +kernel)]; kernel_rfl) | (rw [if_neg (by decide +kernel)]; exact ⟨rfl, rfl⟩))
    (fun os started H enc _ => lifted os started H enc)
theorem proved : Rows.MatricesSaid := over
#print axioms proved
end Go.Proofs.Ytaahnicjjpddjaa.matrices
namespace Go.Proofs.Ytaahnicjjpddjaa
/-- The row, under a short name, for the claim. -/
theorem matrices_holds : Rows.MatricesSaid := matrices.proved
end Go.Proofs.Ytaahnicjjpddjaa
