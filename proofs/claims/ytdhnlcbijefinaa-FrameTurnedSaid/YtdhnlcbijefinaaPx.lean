-- Written by this session's program gprint.py: functions of the program as plain functions, and that the machine does what they say. Not trusted: Lean checks it.
import Derived.Test.YtdhnlcbijefinaaPx0
import Derived.Test.YtdhnlcbijefinaaPx1
import Derived.Test.YtdhnlcbijefinaaPx2
import Derived.Test.YtdhnlcbijefinaaPx3
import Derived.Test.YtdhnlcbijefinaaPx4
import Derived.Test.YtdhnlcbijefinaaPx5
import Derived.Test.YtdhnlcbijefinaaPx6
namespace Go.Proofs.Ytdhnlcbijefinaa.P
open Go.RowKit Go.Proofs.YtdhnlcbijefinaaW.PrintWords Go.Proofs.YtdhnlcbijefinaaW.PrintLast Go.Proofs.YtdhnlcbijefinaaW.PrintMore
attribute [local go_sem] max2_int min2_int max_two min_two max_three min_three max_four min_four   -- for this text's walks alone
set_option linter.unusedVariables false
set_option linter.unusedSimpArgs false

end Go.Proofs.Ytdhnlcbijefinaa.P
