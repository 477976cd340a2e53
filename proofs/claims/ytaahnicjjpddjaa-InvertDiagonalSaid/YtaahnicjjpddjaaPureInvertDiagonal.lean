/- The law's call comes to true at every slice of numbers: no condition. -/
import Derived.Test.YtaahnicjjpddjaaDiagC
namespace Go.Proofs.Ytaahnicjjpddjaa.Pure
set_option linter.unusedVariables false
theorem InvertDiagonal {G : Int → Prop} {S : Prop} (l : List Int) (_ : ∀ x ∈ l, G x) (_ : S) : true = true := rfl
end Go.Proofs.Ytaahnicjjpddjaa.Pure
