/- Any matrix: the law's condition is what a matrix in memory fulfils. -/
import Derived.Test.YtaahnicjjpddjaaInvertsC
namespace Go.Proofs.Ytaahnicjjpddjaa.Pure
theorem Inverts {G : Int → Prop} (l : List (List Int)) (g : ∀ r ∈ l, (∀ x ∈ r, G x) ∧ r.length * 8 ≤ 140737488351232) (s : l.length * 24 ≤ 140737488351232) : true = true ∧ Pr.Small l :=
  ⟨rfl, s, fun r h => (g r h).2⟩
end Go.Proofs.Ytaahnicjjpddjaa.Pure
