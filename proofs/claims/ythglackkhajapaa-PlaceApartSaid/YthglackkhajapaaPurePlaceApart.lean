/- The law's walk, as the row asks it: the answer is true at every input. -/
import Derived.Test.YthglackkhajapaaApart
namespace Go.Proofs.Ythglackkhajapaa.Pure
theorem PlaceApart (a0 : Int) (_ : (Lit.int .i64 a0).wf = true) (a1 : Int) (_ : (Lit.int .i64 a1).wf = true) (a2 : Int) (_ : (Lit.int .i64 a2).wf = true) (a3 : Int) (_ : (Lit.int .i64 a3).wf = true) : (true : Bool) = true := rfl
end Go.Proofs.Ythglackkhajapaa.Pure
namespace Go.Proofs.Ythglackkhajapaa.Apart
open Go.RowKit Go.Proofs.YthglackkhajapaaW.PrintWords Go.Proofs.YthglackkhajapaaW.PrintLast
theorem calls (a0 a1 a2 a3 : Int) (r : Bool) (w : World) (h : r = true) : Calls Try.prog 5 #[.int .i64 a0, .int .i64 a1, .int .i64 a2, .int .i64 a3] w fun e w' => e = .returned (.bool r) ∧ Below w.heap.size w w' := by
  subst h
  exact walk a0 a1 a2 a3 w
end Go.Proofs.Ythglackkhajapaa.Apart
