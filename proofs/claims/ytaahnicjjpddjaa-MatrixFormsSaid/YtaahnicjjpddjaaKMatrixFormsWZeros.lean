/- What the print's words say, as far as this claim uses it. No condition. -/
import Derived.Test.YtaahnicjjpddjaaKMatrixFormsWFoot
namespace Go.Proofs.YtaahnicjjpddjaaW.PrintWords
end Go.Proofs.YtaahnicjjpddjaaW.PrintWords
