-- Written by this session's program gprint.py: functions of the program as plain functions, and that the machine does what they say. Not trusted: Lean checks it.
import Derived.Test.YtjhpgfgpchgabaaPx0
import Derived.Test.YtjhpgfgpchgabaaPx1
import Derived.Test.YtjhpgfgpchgabaaPx2
import Derived.Test.YtjhpgfgpchgabaaPx3
import Derived.Test.YtjhpgfgpchgabaaPx4
import Derived.Test.YtjhpgfgpchgabaaPx5
import Derived.Test.YtjhpgfgpchgabaaPx6
import Derived.Test.YtjhpgfgpchgabaaPx7
import Derived.Test.YtjhpgfgpchgabaaPx8
import Derived.Test.YtjhpgfgpchgabaaPx9
namespace Go.Proofs.Ytjhpgfgpchgabaa.P
open Go.RowKit Go.Proofs.YtjhpgfgpchgabaaW.PrintWords Go.Proofs.YtjhpgfgpchgabaaW.PrintLast Go.Proofs.YtjhpgfgpchgabaaW.PrintMore
attribute [local go_sem] max2_int min2_int max_two min_two max_three min_three max_four min_four   -- for this text's walks alone
set_option linter.unusedVariables false
set_option linter.unusedSimpArgs false

end Go.Proofs.Ytjhpgfgpchgabaa.P
