/- The law FnExactWeekday answers true for every whole number: both weekdays are the same. No condition. -/
import Derived.Test.YtcehnamlnbhhnaaPFnExactWeekdayx1
import Derived.Test.YtcehnamlnbhhnaaBase
namespace Go.Proofs.Ytcehnamlnbhhnaa.Pure
open Go.RowKit Go.Proofs.Ytcehnamlnbhhnaa.PFnExactWeekday Go.Proofs.YtcehnamlnbhhnaaW.PrintWords Go.Proofs.YtcehnamlnbhhnaaW.PrintLast Go.Proofs.YtcehnamlnbhhnaaW.PrintMore Go.Proofs.Ytcehnamlnbhhnaa.Base
set_option linter.unusedVariables false
set_option linter.unusedSimpArgs false

theorem FnExactWeekday : laws_FnExactWeekday.Pure := by
  intro a0 h
  unfold laws_FnExactWeekday.f spec_Weekday.f impl_Weekday.f impl_isTime.f impl_within.f spec_l2time.f
  by_cases h0 : 0 ≤ a0
  · by_cases h1 : a0 ≤ 253402300799 <;> simp [h0, h1]
  · simp [h0]

end Go.Proofs.Ytcehnamlnbhhnaa.Pure
