-- Written by a program of this session.
import Derived.Test.YtoaijdlablanfaaQFnExactShaEndx0
import Derived.Test.YtoaijdlablanfaaQFnExactShaEndx1
import Derived.Test.YtoaijdlablanfaaQFnExactShaEndx2
import Derived.Test.YtoaijdlablanfaaQFnExactShaEndx3
import Derived.Test.YtoaijdlablanfaaQFnExactShaEndx4
import Derived.Test.YtoaijdlablanfaaQFnExactShaEndx5
import Derived.Test.YtoaijdlablanfaaQFnExactShaEndx6
import Derived.Test.YtoaijdlablanfaaQFnExactShaEndx7
import Derived.Test.YtoaijdlablanfaaQFnExactShaEndx8
import Derived.Test.YtoaijdlablanfaaQFnExactShaEndx9
import Derived.Test.YtoaijdlablanfaaQFnExactShaEndx10
namespace Go.Proofs.Ytoaijdlablanfaa.PFnExactShaEnd
open Go.RowKit Go.Proofs.YtoaijdlablanfaaW.PrintWords Go.Proofs.YtoaijdlablanfaaW.PrintLast Go.Proofs.YtoaijdlablanfaaW.PrintMore
attribute [local go_sem] max2_int min2_int max_two min_two max_three min_three max_four min_four   -- for this text's walks alone
set_option linter.unusedVariables false
set_option linter.unusedSimpArgs false

end Go.Proofs.Ytoaijdlablanfaa.PFnExactShaEnd
