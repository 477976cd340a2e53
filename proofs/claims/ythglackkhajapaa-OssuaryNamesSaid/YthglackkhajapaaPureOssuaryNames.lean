/- Every error, limit and kind has the document's number: a closed sentence. -/
import Derived.Test.YthglackkhajapaaPOssuaryNamesx2
namespace Go.Proofs.Ythglackkhajapaa.Pure
open Go.RowKit Go.Proofs.Ythglackkhajapaa.POssuaryNames Go.Proofs.YthglackkhajapaaW.PrintWords Go.Proofs.YthglackkhajapaaW.PrintLast

theorem OssuaryNames : ossuarylaw0_OssuaryNames.Pure := by
  show ossuarylaw0_OssuaryNames.f = some true
  decide +kernel

end Go.Proofs.Ythglackkhajapaa.Pure
