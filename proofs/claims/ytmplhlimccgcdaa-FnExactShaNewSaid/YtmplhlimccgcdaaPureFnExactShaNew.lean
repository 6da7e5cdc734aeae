/- The law FnExactShaNew answers true: both begin with the same five words, in memory of their own. No condition. -/
import Derived.Test.YtmplhlimccgcdaaPFnExactShaNewx1
import Derived.Test.YtmplhlimccgcdaaBase
namespace Go.Proofs.Ytmplhlimccgcdaa.Pure
open Go.RowKit Go.Proofs.Ytmplhlimccgcdaa.PFnExactShaNew Go.Proofs.YtmplhlimccgcdaaW.PrintWords Go.Proofs.YtmplhlimccgcdaaW.PrintLast Go.Proofs.YtmplhlimccgcdaaW.PrintMore Go.Proofs.Ytmplhlimccgcdaa.Base
set_option linter.unusedVariables false
set_option linter.unusedSimpArgs false

theorem FnExactShaNew : laws_FnExactShaNew.Pure := ⟨20, by kernel_rfl⟩

end Go.Proofs.Ytmplhlimccgcdaa.Pure
