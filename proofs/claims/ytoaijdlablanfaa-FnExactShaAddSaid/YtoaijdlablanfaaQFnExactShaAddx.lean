-- Written by a program of this session.
import Derived.Test.YtoaijdlablanfaaQFnExactShaAddx0
import Derived.Test.YtoaijdlablanfaaQFnExactShaAddx1
import Derived.Test.YtoaijdlablanfaaQFnExactShaAddx2
import Derived.Test.YtoaijdlablanfaaQFnExactShaAddx3
import Derived.Test.YtoaijdlablanfaaQFnExactShaAddx4
import Derived.Test.YtoaijdlablanfaaQFnExactShaAddx5
import Derived.Test.YtoaijdlablanfaaQFnExactShaAddx6
import Derived.Test.YtoaijdlablanfaaQFnExactShaAddx7
import Derived.Test.YtoaijdlablanfaaQFnExactShaAddx8
import Derived.Test.YtoaijdlablanfaaQFnExactShaAddx9
import Derived.Test.YtoaijdlablanfaaQFnExactShaAddx10
namespace Go.Proofs.Ytoaijdlablanfaa.PFnExactShaAdd
open Go.RowKit Go.Proofs.YtoaijdlablanfaaV.PrintWords Go.Proofs.YtoaijdlablanfaaV.PrintLast Go.Proofs.YtoaijdlablanfaaV.PrintMore
attribute [local go_sem] max2_int min2_int max_two min_two max_three min_three max_four min_four   -- for this text's walks alone
set_option linter.unusedVariables false
set_option linter.unusedSimpArgs false

end Go.Proofs.Ytoaijdlablanfaa.PFnExactShaAdd
