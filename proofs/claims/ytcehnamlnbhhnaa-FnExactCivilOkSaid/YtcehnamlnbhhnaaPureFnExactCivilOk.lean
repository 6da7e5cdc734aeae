/- The law FnExactCivilOk answers true for every civil time: both say the same. No condition. -/
import Derived.Test.YtcehnamlnbhhnaaQFnExactCivilOkx1
import Derived.Test.YtcehnamlnbhhnaaBase
namespace Go.Proofs.Ytcehnamlnbhhnaa.Pure
open Go.RowKit Go.Proofs.Ytcehnamlnbhhnaa.PFnExactCivilOk Go.Proofs.YtcehnamlnbhhnaaW.PrintWords Go.Proofs.YtcehnamlnbhhnaaW.PrintLast Go.Proofs.YtcehnamlnbhhnaaW.PrintMore Go.Proofs.Ytcehnamlnbhhnaa.Base
set_option linter.unusedVariables false
set_option linter.unusedSimpArgs false

open Go.Proofs.Ytcehnamlnbhhnaa.Foreign Go.Proofs.Ytcehnamlnbhhnaa.Dates
theorem FnExactCivilOk (y m d h mn s : Int) (w0 : (Lit.int .i64 y).wf = true) (w1 : (Lit.int .i64 m).wf = true) (w2 : (Lit.int .i64 d).wf = true) (w3 : (Lit.int .i64 h).wf = true) (w4 : (Lit.int .i64 mn).wf = true) (w5 : (Lit.int .i64 s).wf = true) : laws_FnExactCivilOk.f y m d h mn s = some true := by
  have e1 : spec_CivilOk.f y m d h mn s = some (decide (okC y m d h mn s)) := rfl
  have e2 : impl_CivilOk.f y m d h mn s = some (decide (okC y m d h mn s)) := rfl
  unfold laws_FnExactCivilOk.f laws_toCivil.f
  simp only [Option.bind_some, e1, e2]
  cases hq : decide (okC y m d h mn s) <;> simp [hq]

end Go.Proofs.Ytcehnamlnbhhnaa.Pure
