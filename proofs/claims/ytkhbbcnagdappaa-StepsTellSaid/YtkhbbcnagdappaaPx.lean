-- Written by this session's program gprint.py: functions of the program as plain functions, and that the machine does what they say. Not trusted: Lean checks it.
import Derived.Test.YtkhbbcnagdappaaPx0
import Derived.Test.YtkhbbcnagdappaaPx1
import Derived.Test.YtkhbbcnagdappaaPx2
import Derived.Test.YtkhbbcnagdappaaPx3
import Derived.Test.YtkhbbcnagdappaaPx4
import Derived.Test.YtkhbbcnagdappaaPx5
import Derived.Test.YtkhbbcnagdappaaPx6
import Derived.Test.YtkhbbcnagdappaaPx7
import Derived.Test.YtkhbbcnagdappaaPx8
import Derived.Test.YtkhbbcnagdappaaPx9
import Derived.Test.YtkhbbcnagdappaaPx10
import Derived.Test.YtkhbbcnagdappaaPx11
import Derived.Test.YtkhbbcnagdappaaPx12
namespace Go.Proofs.Ytkhbbcnagdappaa.P
open Go.RowKit Go.Proofs.YtkhbbcnagdappaaW.PrintWords Go.Proofs.YtkhbbcnagdappaaW.PrintLast Go.Proofs.YtkhbbcnagdappaaW.PrintMore
attribute [local go_sem] max2_int min2_int max_two min_two max_three min_three max_four min_four   -- for this text's walks alone
set_option linter.unusedVariables false
set_option linter.unusedSimpArgs false

end Go.Proofs.Ytkhbbcnagdappaa.P
