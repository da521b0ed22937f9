-- Written by this session's program gprint.py: functions of the program as plain functions, and that the machine does what they say. Not trusted: Lean checks it.
import Derived.Test.YtnbfnhddjekhlaaProg
import Derived.Below
import Derived.Deep.Draws
import Derived.Deep.AppendLies
import Derived.Maps.AppendAt
import Derived.OwnWalk
import Derived.Laws.BytesArg
import Derived.Laws.MakeOwn
import Derived.Laws.OwnMore
import Derived.Deep.OwnRows
import Derived.Tactics
import Derived.Lib.ConvBytes
import Derived.Laws.Slices
import Derived.WalkKit
import Derived.KernelRfl
import Derived.RowKit3
import Derived.Deep.LoopGhost
import Derived.Deep.QuietTactic
import Derived.BigQuiet
import Derived.WideLaws
import Derived.Deep.DeepCutAuto
import Derived.Deep.CutBlock
import Derived.Deep.RegionHeld3
import Derived.Laws.Rows
import Derived.Lib.AppendStr
import Derived.ArgAppend
import Derived.Laws.IdiomCopy
import Derived.OrdersHeld
import Derived.Laws.BitsLemmas
import Derived.RowKit
import Derived.Test.YtnbfnhddjekhlaaWWords
import Derived.Test.YtnbfnhddjekhlaaWLast
import Derived.Test.YtnbfnhddjekhlaaWTab
import Derived.Test.YtnbfnhddjekhlaaWFour
import Derived.Test.YtnbfnhddjekhlaaWQPut
import Derived.Test.YtnbfnhddjekhlaaWApart
import Derived.Test.YtnbfnhddjekhlaaWArr
import Derived.Test.YtnbfnhddjekhlaaWZeros
import Derived.Test.YtnbfnhddjekhlaaWFoot
import Derived.Test.YtnbfnhddjekhlaaWKept
import Derived.Test.YtnbfnhddjekhlaaWShare
import Derived.Test.YtnbfnhddjekhlaaWN
import Derived.Test.YtnbfnhddjekhlaaWFootNe
import Derived.Test.YtnbfnhddjekhlaaWAt
import Derived.Test.YtnbfnhddjekhlaaWEqStruct
import Derived.Test.YtnbfnhddjekhlaaWRepsOne
import Derived.Test.YtnbfnhddjekhlaaWInv
import Derived.Test.YtnbfnhddjekhlaaWInvWords
import Derived.Test.YtnbfnhddjekhlaaWGuard
import Derived.Test.YtnbfnhddjekhlaaWNEv
import Derived.Test.YtnbfnhddjekhlaaWMore
namespace Go.Proofs.Ytnbfnhddjekhlaa.P
open Go.RowKit Go.Proofs.YtnbfnhddjekhlaaW.PrintWords Go.Proofs.YtnbfnhddjekhlaaW.PrintLast Go.Proofs.YtnbfnhddjekhlaaW.PrintMore
attribute [local go_sem] max2_int min2_int max_two min_two max_three min_three max_four min_four   -- for this text's walks alone
set_option linter.unusedVariables false
set_option linter.unusedSimpArgs false



def errW : Option Int → Value
  | none => .nilIface
  | some c => .iface 0 (.int .i64 c)
theorem errW_none : errW none = .nilIface := rfl
theorem errW_some (c : Int) : errW (some c) = .iface 0 (.int .i64 c) := rfl

theorem info2 : (Try.prog.info? 2).map (fun i => (i.zero, i.size, i.bytes)) = some (some (.int .i64 0), 1, 8) := by kernel_rfl
-- the values' own types

end Go.Proofs.Ytnbfnhddjekhlaa.P
