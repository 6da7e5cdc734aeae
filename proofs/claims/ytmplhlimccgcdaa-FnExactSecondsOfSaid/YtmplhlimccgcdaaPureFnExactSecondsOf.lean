/- The law FnExactSecondsOf answers true for every civil time: both times are the same. No condition. -/
import Derived.Test.YtmplhlimccgcdaaQFnExactSecondsOfx1
import Derived.Test.YtmplhlimccgcdaaBase
namespace Go.Proofs.Ytmplhlimccgcdaa.Pure
open Go.RowKit Go.Proofs.Ytmplhlimccgcdaa.PFnExactSecondsOf Go.Proofs.YtmplhlimccgcdaaW.PrintWords Go.Proofs.YtmplhlimccgcdaaW.PrintLast Go.Proofs.YtmplhlimccgcdaaW.PrintMore Go.Proofs.Ytmplhlimccgcdaa.Base
set_option linter.unusedVariables false
set_option linter.unusedSimpArgs false

open Go.Proofs.Ytmplhlimccgcdaa.Foreign Go.Proofs.Ytmplhlimccgcdaa.Dates
theorem FnExactSecondsOf (y m d h mn s : Int) (w0 : (Lit.int .i64 y).wf = true) (w1 : (Lit.int .i64 m).wf = true) (w2 : (Lit.int .i64 d).wf = true) (w3 : (Lit.int .i64 h).wf = true) (w4 : (Lit.int .i64 mn).wf = true) (w5 : (Lit.int .i64 s).wf = true) : laws_FnExactSecondsOf.f y m d h mn s = some true := by
  have e1 : spec_SecondsOf.f y m d h mn s = some (secM y m d h mn s) := rfl
  have e2 : impl_SecondsOf.f y m d h mn s = some (secM y m d h mn s) := rfl
  unfold laws_FnExactSecondsOf.f laws_toCivil.f
  simp only [Option.bind_some, e1, e2, if_true]
  simp

end Go.Proofs.Ytmplhlimccgcdaa.Pure
