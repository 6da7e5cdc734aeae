-- Written by a program of this session.
import Derived.Test.YtmplhlimccgcdaaQFnExactLoosex0
import Derived.Test.YtmplhlimccgcdaaQFnExactLoosex1
import Derived.Test.YtmplhlimccgcdaaQFnExactLoosex2
import Derived.Test.YtmplhlimccgcdaaQFnExactLoosex3
import Derived.Test.YtmplhlimccgcdaaQFnExactLoosex4
namespace Go.Proofs.Ytmplhlimccgcdaa.PFnExactLoose
open Go.RowKit Go.Proofs.YtmplhlimccgcdaaW.PrintWords Go.Proofs.YtmplhlimccgcdaaW.PrintLast Go.Proofs.YtmplhlimccgcdaaW.PrintMore
attribute [local go_sem] max2_int min2_int max_two min_two max_three min_three max_four min_four   -- for this text's walks alone
set_option linter.unusedVariables false
set_option linter.unusedSimpArgs false

end Go.Proofs.Ytmplhlimccgcdaa.PFnExactLoose
