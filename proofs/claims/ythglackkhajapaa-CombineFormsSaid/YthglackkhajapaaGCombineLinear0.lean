/- Functions of the program as Lean functions, each with a proof that its call comes to what the function says; written by wip/gen.py of our own repo. No condition. -/
import Derived.Test.YthglackkhajapaaProg
import Derived.Below
import Derived.Deep.Draws
import Derived.Deep.AppendLies
import Derived.Maps.AppendAt
import Derived.OwnWalk
import Derived.Laws.BytesArg
import Derived.Laws.MakeOwn
import Derived.Laws.OwnMore
import Derived.Deep.OwnRows
import Derived.Tactics
import Derived.Lib.ConvBytes
import Derived.Laws.Slices
import Derived.WalkKit
import Derived.KernelRfl
import Derived.RowKit3
import Derived.Deep.LoopGhost
import Derived.Deep.QuietTactic
import Derived.BigQuiet
import Derived.WideLaws
import Derived.Deep.DeepCutAuto
import Derived.Deep.CutBlock
import Derived.Deep.RegionHeld3
import Derived.Laws.Rows
import Derived.Lib.AppendStr
import Derived.ArgAppend
import Derived.Laws.IdiomCopy
import Derived.OrdersHeld
import Derived.Laws.BitsLemmas
import Derived.RowKit
import Derived.Test.YthglackkhajapaaWWords
import Derived.Test.YthglackkhajapaaWLast
import Derived.Test.YthglackkhajapaaWTab
import Derived.Test.YthglackkhajapaaWFour
import Derived.Test.YthglackkhajapaaWQPut
import Derived.Test.YthglackkhajapaaWApart
import Derived.Test.YthglackkhajapaaWArr
import Derived.Test.YthglackkhajapaaWZeros
import Derived.Test.YthglackkhajapaaWFoot
import Derived.Test.YthglackkhajapaaWKept
import Derived.Test.YthglackkhajapaaWShare
import Derived.Test.YthglackkhajapaaWN
import Derived.Test.YthglackkhajapaaWFootNe
import Derived.Test.YthglackkhajapaaWAt
import Derived.Test.YthglackkhajapaaWEqStruct
import Derived.Test.YthglackkhajapaaWRepsOne
import Derived.Test.YthglackkhajapaaWInv
import Derived.Test.YthglackkhajapaaWInvWords
import Derived.Test.YthglackkhajapaaWGuard
import Derived.Test.YthglackkhajapaaWNEv
import Derived.Test.YthglackkhajapaaWMore
namespace Go.Proofs.Ythglackkhajapaa.GCombineLinear
open Go.RowKit Go.Proofs.YthglackkhajapaaW.PrintWords Go.Proofs.YthglackkhajapaaW.PrintLast Go.Proofs.YthglackkhajapaaW.PrintMore
attribute [local go_sem] max2_int min2_int max_two min_two max_three min_three max_four min_four   -- for this text's walks alone
set_option linter.unusedVariables false
set_option linter.unusedSimpArgs false



def errW : Option Int → Value
  | none => .nilIface
  | some c => .iface 0 (.int .i64 c)
theorem errW_none : errW none = .nilIface := rfl
theorem errW_some (c : Int) : errW (some c) = .iface 0 (.int .i64 c) := rfl

theorem info3 : (Try.prog.info? 3).map (fun i => (i.zero, i.size, i.bytes)) = some (some (.int .i64 0), 1, 8) := by kernel_rfl
theorem info5 : (Try.prog.info? 5).map (fun i => (i.zero, i.size, i.bytes)) = some (some (.int .u8 0), 1, 1) := by kernel_rfl
theorem info9 : (Try.prog.info? 9).map (fun i => (i.zero, i.size, i.bytes)) = some (some (.string ⟨#[]⟩), 1, 16) := by kernel_rfl
-- the values' own types

end Go.Proofs.Ythglackkhajapaa.GCombineLinear
