/- Functions of the program as Lean functions, each with a proof that its call comes to what the function says; written by wip/gen.py of our own repo. No condition. -/
import Derived.Test.YtaahnicjjpddjaaGVec0
import Derived.Test.YtaahnicjjpddjaaGVec1
import Derived.Test.YtaahnicjjpddjaaGVec2
import Derived.Test.YtaahnicjjpddjaaGVec3
namespace Go.Proofs.Ytaahnicjjpddjaa.GVec
open Go.RowKit Go.Proofs.YtaahnicjjpddjaaW.PrintWords Go.Proofs.YtaahnicjjpddjaaW.PrintLast
set_option linter.unusedVariables false
set_option linter.unusedSimpArgs false

end Go.Proofs.Ytaahnicjjpddjaa.GVec
