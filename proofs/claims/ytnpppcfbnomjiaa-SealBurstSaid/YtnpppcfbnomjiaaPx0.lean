-- Written by this session's program gprint.py: functions of the program as plain functions, and that the machine does what they say. Not trusted: Lean checks it.
import Derived.Test.YtnpppcfbnomjiaaProg
import Derived.Below
import Derived.Deep.Draws
import Derived.Deep.AppendLies
import Derived.Maps.AppendAt
import Derived.OwnWalk
import Derived.Laws.BytesArg
import Derived.Laws.MakeOwn
import Derived.Laws.OwnMore
import Derived.Deep.OwnRows
import Derived.Tactics
import Derived.Lib.ConvBytes
import Derived.Laws.Slices
import Derived.WalkKit
import Derived.KernelRfl
import Derived.RowKit3
import Derived.Deep.LoopGhost
import Derived.Deep.QuietTactic
import Derived.BigQuiet
import Derived.WideLaws
import Derived.Deep.DeepCutAuto
import Derived.Deep.CutBlock
import Derived.Deep.RegionHeld3
import Derived.Laws.Rows
import Derived.Lib.AppendStr
import Derived.ArgAppend
import Derived.Laws.IdiomCopy
import Derived.OrdersHeld
import Derived.Laws.BitsLemmas
import Derived.RowKit
import Derived.Deep.WholeRow
import Derived.RangeFuncBox
import Derived.Test.YtnpppcfbnomjiaaGRow
import Derived.Test.YtnpppcfbnomjiaaWWords
import Derived.Test.YtnpppcfbnomjiaaWLast
import Derived.Test.YtnpppcfbnomjiaaWTab
import Derived.Test.YtnpppcfbnomjiaaWFour
import Derived.Test.YtnpppcfbnomjiaaWQPut
import Derived.Test.YtnpppcfbnomjiaaWApart
import Derived.Test.YtnpppcfbnomjiaaWArr
import Derived.Test.YtnpppcfbnomjiaaWZeros
import Derived.Test.YtnpppcfbnomjiaaWFoot
import Derived.Test.YtnpppcfbnomjiaaWKept
import Derived.Test.YtnpppcfbnomjiaaWShare
import Derived.Test.YtnpppcfbnomjiaaWN
import Derived.Test.YtnpppcfbnomjiaaWFootNe
import Derived.Test.YtnpppcfbnomjiaaWAt
import Derived.Test.YtnpppcfbnomjiaaWEqStruct
import Derived.Test.YtnpppcfbnomjiaaWRepsOne
import Derived.Test.YtnpppcfbnomjiaaWInv
import Derived.Test.YtnpppcfbnomjiaaWInvWords
import Derived.Test.YtnpppcfbnomjiaaWGuard
import Derived.Test.YtnpppcfbnomjiaaWNEv
import Derived.Test.YtnpppcfbnomjiaaWMore
namespace Go.Proofs.Ytnpppcfbnomjiaa.P
open Go.RowKit Go.Proofs.YtnpppcfbnomjiaaW.PrintWords Go.Proofs.YtnpppcfbnomjiaaW.PrintLast Go.Proofs.YtnpppcfbnomjiaaW.PrintMore
attribute [local go_sem] max2_int min2_int max_two min_two max_three min_three max_four min_four   -- for this text's walks alone
set_option linter.unusedVariables false
set_option linter.unusedSimpArgs false



def errW : Option Int → Value
  | none => .nilIface
  | some c => .iface 0 (.int .i64 c)
theorem errW_none : errW none = .nilIface := rfl
theorem errW_some (c : Int) : errW (some c) = .iface 0 (.int .i64 c) := rfl

theorem isEmpty_bne (l : List UInt8) : l.isEmpty = !(l != []) := by cases l <;> rfl
theorem info5 : (Try.prog.info? 5).map (fun i => (i.zero, i.size, i.bytes)) = some (some (.int .u8 0), 1, 1) := by kernel_rfl
-- the values' own types

end Go.Proofs.Ytnpppcfbnomjiaa.P
