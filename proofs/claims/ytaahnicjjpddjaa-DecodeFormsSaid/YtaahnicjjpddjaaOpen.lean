/- Arguments opened as the printed contracts want them: slices of numbers, bools, strings, and of slices, each with its reach. No condition. -/
import Derived.Test.YtaahnicjjpddjaaWWords
import Derived.SizedLaws
import Derived.Deep.Slices
import Derived.Lib.SmallJoins
import Derived.ProofKit
import Derived.OpenShut
namespace Go.Proofs.Ytaahnicjjpddjaa.Opn
open Go.RowKit Go.ChangeShapes Go.WideShapes Go.Joins Go.Deep Go.Proofs.YtaahnicjjpddjaaW.PrintWords

section
variable {H : Type}

variable {enc : TypeId × Value → H} {P : Program} {W : World}

end
end Go.Proofs.Ytaahnicjjpddjaa.Opn
