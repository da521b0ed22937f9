-- Written by this session's program gprint.py: functions of the program as plain functions, and that the machine does what they say. Not trusted: Lean checks it.
import Derived.Test.YtdhnlcbijefinaaProg
import Derived.Below
import Derived.Deep.Draws
import Derived.Deep.AppendLies
import Derived.Maps.AppendAt
import Derived.OwnWalk
import Derived.Laws.BytesArg
import Derived.Laws.MakeOwn
import Derived.Laws.OwnMore
import Derived.Deep.OwnRows
import Derived.Tactics
import Derived.Lib.ConvBytes
import Derived.Laws.Slices
import Derived.WalkKit
import Derived.KernelRfl
import Derived.RowKit3
import Derived.Deep.LoopGhost
import Derived.Deep.QuietTactic
import Derived.BigQuiet
import Derived.WideLaws
import Derived.Deep.DeepCutAuto
import Derived.Deep.CutBlock
import Derived.Deep.RegionHeld3
import Derived.Laws.Rows
import Derived.Lib.AppendStr
import Derived.ArgAppend
import Derived.Laws.IdiomCopy
import Derived.OrdersHeld
import Derived.Laws.BitsLemmas
import Derived.RowKit
import Derived.Deep.RegionHeld3
import Derived.Deep.WholeRow
import Derived.LoopIn
import Derived.Maps.AppendAt
import Derived.OwnWalkIn
import Derived.RangeFuncBox
import Derived.Scope
import Derived.Shelf.RegionOpen
import Derived.Sort.LoopGhostIn
import Derived.TacticsInMore
import Derived.Test.YtdhnlcbijefinaaBytes
import Derived.Test.YtdhnlcbijefinaaGRow
import Derived.Test.YtdhnlcbijefinaaOpen
import Derived.Test.YtdhnlcbijefinaaRF
import Derived.WalkMore
import Derived.Test.YtdhnlcbijefinaaWWords
import Derived.Test.YtdhnlcbijefinaaWLast
import Derived.Test.YtdhnlcbijefinaaWTab
import Derived.Test.YtdhnlcbijefinaaWFour
import Derived.Test.YtdhnlcbijefinaaWQPut
import Derived.Test.YtdhnlcbijefinaaWApart
import Derived.Test.YtdhnlcbijefinaaWArr
import Derived.Test.YtdhnlcbijefinaaWZeros
import Derived.Test.YtdhnlcbijefinaaWFoot
import Derived.Test.YtdhnlcbijefinaaWKept
import Derived.Test.YtdhnlcbijefinaaWShare
import Derived.Test.YtdhnlcbijefinaaWN
import Derived.Test.YtdhnlcbijefinaaWFootNe
import Derived.Test.YtdhnlcbijefinaaWAt
import Derived.Test.YtdhnlcbijefinaaWEqStruct
import Derived.Test.YtdhnlcbijefinaaWRepsOne
import Derived.Test.YtdhnlcbijefinaaWInv
import Derived.Test.YtdhnlcbijefinaaWInvWords
import Derived.Test.YtdhnlcbijefinaaWGuard
import Derived.Test.YtdhnlcbijefinaaWNEv
import Derived.Test.YtdhnlcbijefinaaWMore
namespace Go.Proofs.Ytdhnlcbijefinaa.P
open Go.RowKit Go.Proofs.YtdhnlcbijefinaaW.PrintWords Go.Proofs.YtdhnlcbijefinaaW.PrintLast Go.Proofs.YtdhnlcbijefinaaW.PrintMore
attribute [local go_sem] max2_int min2_int max_two min_two max_three min_three max_four min_four   -- for this text's walks alone
set_option linter.unusedVariables false
set_option linter.unusedSimpArgs false



def errW : Option Int → Value
  | none => .nilIface
  | some c => .iface 0 (.int .i64 c)
theorem errW_none : errW none = .nilIface := rfl
theorem errW_some (c : Int) : errW (some c) = .iface 0 (.int .i64 c) := rfl

theorem isEmpty_bne (l : List UInt8) : l.isEmpty = !(l != []) := by cases l <;> rfl
theorem info5 : (Try.prog.info? 5).map (fun i => (i.zero, i.size, i.bytes)) = some (some (.int .u8 0), 1, 1) := by kernel_rfl
theorem info9 : (Try.prog.info? 9).map (fun i => (i.zero, i.size, i.bytes)) = some (some (.string ⟨#[]⟩), 1, 16) := by kernel_rfl
-- the values' own types

end Go.Proofs.Ytdhnlcbijefinaa.P
