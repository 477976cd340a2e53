-- PRINTED BY print.sh 35421559b90ae4d0a3588c463048766b98c2df88dd9212a6774a882060cdf62d: not written by this session
import Derived.Test.YthglackkhajapaaProg
import Derived.Below
import Derived.Deep.Draws
import Derived.Deep.AppendLies
import Derived.Maps.AppendAt
import Derived.OwnWalk
import Derived.Laws.BytesArg
import Derived.Laws.MakeOwn
import Derived.Laws.OwnMore
import Derived.Deep.OwnRows
import Derived.Tactics
import Derived.Lib.ConvBytes
import Derived.Laws.Slices
import Derived.WalkKit
import Derived.KernelRfl
import Derived.RowKit3
import Derived.Deep.LoopGhost
import Derived.Deep.QuietTactic
import Derived.BigQuiet
import Derived.WideLaws
import Derived.Deep.DeepCutAuto
import Derived.Deep.CutBlock
import Derived.Deep.RegionHeld3
import Derived.Laws.Rows
import Derived.Lib.AppendStr
import Derived.ArgAppend
import Derived.Laws.IdiomCopy
import Derived.OrdersHeld
import Derived.Laws.BitsLemmas
import Derived.RowKit
import Derived.Test.YthglackkhajapaaWWords
import Derived.Test.YthglackkhajapaaWLast
import Derived.Test.YthglackkhajapaaWTab
import Derived.Test.YthglackkhajapaaWFour
import Derived.Test.YthglackkhajapaaWQPut
import Derived.Test.YthglackkhajapaaWApart
import Derived.Test.YthglackkhajapaaWArr
import Derived.Test.YthglackkhajapaaWZeros
import Derived.Test.YthglackkhajapaaWFoot
import Derived.Test.YthglackkhajapaaWKept
import Derived.Test.YthglackkhajapaaWShare
import Derived.Test.YthglackkhajapaaWN
import Derived.Test.YthglackkhajapaaWFootNe
import Derived.Test.YthglackkhajapaaWAt
import Derived.Test.YthglackkhajapaaWEqStruct
import Derived.Test.YthglackkhajapaaWRepsOne
import Derived.Test.YthglackkhajapaaWInv
import Derived.Test.YthglackkhajapaaWInvWords
import Derived.Test.YthglackkhajapaaWGuard
import Derived.Test.YthglackkhajapaaWNEv
import Derived.Test.YthglackkhajapaaWMore
namespace Go.Proofs.Ythglackkhajapaa.PPlaceApart
open Go.RowKit Go.Proofs.YthglackkhajapaaW.PrintWords Go.Proofs.YthglackkhajapaaW.PrintLast Go.Proofs.YthglackkhajapaaW.PrintMore
attribute [local go_sem] max2_int min2_int max_two min_two max_three min_three max_four min_four   -- for this text's walks alone
set_option linter.unusedVariables false
set_option linter.unusedSimpArgs false



def errW : Option Int → Value
  | none => .nilIface
  | some c => .iface 0 (.int .i64 c)
theorem errW_none : errW none = .nilIface := rfl
theorem errW_some (c : Int) : errW (some c) = .iface 0 (.int .i64 c) := rfl

-- the values' own types

end Go.Proofs.Ythglackkhajapaa.PPlaceApart
