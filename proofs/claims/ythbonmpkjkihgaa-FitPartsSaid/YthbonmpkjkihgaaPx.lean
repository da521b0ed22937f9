-- Written by this session's program gprint.py: functions of the program as plain functions, and that the machine does what they say. Not trusted: Lean checks it.
import Derived.Test.YthbonmpkjkihgaaPx0
import Derived.Test.YthbonmpkjkihgaaPx1
import Derived.Test.YthbonmpkjkihgaaPx2
import Derived.Test.YthbonmpkjkihgaaPx3
import Derived.Test.YthbonmpkjkihgaaPx4
import Derived.Test.YthbonmpkjkihgaaPx5
import Derived.Test.YthbonmpkjkihgaaPx6
import Derived.Test.YthbonmpkjkihgaaPx7
import Derived.Test.YthbonmpkjkihgaaPx8
import Derived.Test.YthbonmpkjkihgaaPx9
import Derived.Test.YthbonmpkjkihgaaPx10
import Derived.Test.YthbonmpkjkihgaaPx11
namespace Go.Proofs.Ythbonmpkjkihgaa.P
open Go.RowKit Go.Proofs.YthbonmpkjkihgaaW.PrintWords Go.Proofs.YthbonmpkjkihgaaW.PrintLast Go.Proofs.YthbonmpkjkihgaaW.PrintMore
attribute [local go_sem] max2_int min2_int max_two min_two max_three min_three max_four min_four   -- for this text's walks alone
set_option linter.unusedVariables false
set_option linter.unusedSimpArgs false

end Go.Proofs.Ythbonmpkjkihgaa.P
