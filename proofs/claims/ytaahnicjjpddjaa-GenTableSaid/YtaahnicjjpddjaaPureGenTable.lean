/- The law's call comes to true at every number: no condition. -/
import Derived.Test.YtaahnicjjpddjaaGenTabC
namespace Go.Proofs.Ytaahnicjjpddjaa.Pure
set_option linter.unusedVariables false
theorem GenTable {G : Prop} (a0 : Int) (_ : G) : true = true := rfl
end Go.Proofs.Ytaahnicjjpddjaa.Pure
