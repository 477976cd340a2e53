/- What the print's words say, as far as this claim uses it. No condition. -/
import Derived.Test.YtaahnicjjpddjaaKMatrixFormsWN
section
namespace Go.Proofs.YtaahnicjjpddjaaW.PrintWords
end Go.Proofs.YtaahnicjjpddjaaW.PrintWords
end
section
namespace Go.Proofs.YtaahnicjjpddjaaW.PrintWords
end Go.Proofs.YtaahnicjjpddjaaW.PrintWords
end
section
namespace Go.Proofs.YtaahnicjjpddjaaW.PrintWords
end Go.Proofs.YtaahnicjjpddjaaW.PrintWords
end
