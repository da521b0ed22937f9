-- Written by this session's program gprint.py: functions of the program as plain functions, and that the machine does what they say. Not trusted: Lean checks it.
import Derived.Test.YtikiopnebncfeaaPx0
import Derived.Test.YtikiopnebncfeaaPx1
import Derived.Test.YtikiopnebncfeaaPx2
import Derived.Test.YtikiopnebncfeaaPx3
namespace Go.Proofs.Ytikiopnebncfeaa.P
open Go.RowKit Go.Proofs.YtikiopnebncfeaaW.PrintWords Go.Proofs.YtikiopnebncfeaaW.PrintLast Go.Proofs.YtikiopnebncfeaaW.PrintMore
attribute [local go_sem] max2_int min2_int max_two min_two max_three min_three max_four min_four   -- for this text's walks alone
set_option linter.unusedVariables false
set_option linter.unusedSimpArgs false

end Go.Proofs.Ytikiopnebncfeaa.P
