-- Written by this session's program gprint.py: functions of the program as plain functions, and that the machine does what they say. Not trusted: Lean checks it.
import Derived.Test.YtnpppcfbnomjiaaPx0
import Derived.Test.YtnpppcfbnomjiaaPx1
import Derived.Test.YtnpppcfbnomjiaaPx2
import Derived.Test.YtnpppcfbnomjiaaPx3
import Derived.Test.YtnpppcfbnomjiaaPx4
namespace Go.Proofs.Ytnpppcfbnomjiaa.P
open Go.RowKit Go.Proofs.YtnpppcfbnomjiaaW.PrintWords Go.Proofs.YtnpppcfbnomjiaaW.PrintLast Go.Proofs.YtnpppcfbnomjiaaW.PrintMore
attribute [local go_sem] max2_int min2_int max_two min_two max_three min_three max_four min_four   -- for this text's walks alone
set_option linter.unusedVariables false
set_option linter.unusedSimpArgs false

end Go.Proofs.Ytnpppcfbnomjiaa.P
