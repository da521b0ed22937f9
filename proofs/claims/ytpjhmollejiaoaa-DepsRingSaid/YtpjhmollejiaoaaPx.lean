-- Written by this session's program gprint.py: functions of the program as plain functions, and that the machine does what they say. Not trusted: Lean checks it.
import Derived.Test.YtpjhmollejiaoaaPx0
import Derived.Test.YtpjhmollejiaoaaPx1
import Derived.Test.YtpjhmollejiaoaaPx2
import Derived.Test.YtpjhmollejiaoaaPx3
import Derived.Test.YtpjhmollejiaoaaPx4
import Derived.Test.YtpjhmollejiaoaaPx5
import Derived.Test.YtpjhmollejiaoaaPx6
import Derived.Test.YtpjhmollejiaoaaPx7
namespace Go.Proofs.Ytpjhmollejiaoaa.P
open Go.RowKit Go.Proofs.YtpjhmollejiaoaaW.PrintWords Go.Proofs.YtpjhmollejiaoaaW.PrintLast Go.Proofs.YtpjhmollejiaoaaW.PrintMore
attribute [local go_sem] max2_int min2_int max_two min_two max_three min_three max_four min_four   -- for this text's walks alone
set_option linter.unusedVariables false
set_option linter.unusedSimpArgs false

end Go.Proofs.Ytpjhmollejiaoaa.P
