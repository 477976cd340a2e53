/- Arguments opened as the printed contracts want them: slices of numbers, bools, strings, and of slices, each with its reach. No condition. -/
import Derived.Test.YtaahnicjjpddjaaKDecodeSumsWWords
import Derived.SizedLaws
import Derived.Deep.Slices
import Derived.Lib.SmallJoins
import Derived.ProofKit
import Derived.OpenShut
namespace Go.Proofs.Ytaahnicjjpddjaa.Opn
end Go.Proofs.Ytaahnicjjpddjaa.Opn
