/- The law FnExactCurOk answers true for every cursor: both say the same. No condition. -/
import Derived.Test.YtcehnamlnbhhnaaPFnExactCurOkx
import Derived.Test.YtcehnamlnbhhnaaBase
namespace Go.Proofs.Ytcehnamlnbhhnaa.Pure
open Go.RowKit Go.Proofs.Ytcehnamlnbhhnaa.PFnExactCurOk Go.Proofs.YtcehnamlnbhhnaaW.PrintWords Go.Proofs.YtcehnamlnbhhnaaW.PrintLast Go.Proofs.YtcehnamlnbhhnaaW.PrintMore Go.Proofs.Ytcehnamlnbhhnaa.Base
set_option linter.unusedVariables false
set_option linter.unusedSimpArgs false

theorem FnExactCurOk (a0_0 : ByteArray) (a0_1 : Int) (w0_0 : a0_0.size ≤ maxLen) (w0_1 : (Lit.int .i64 a0_1).wf = true) : laws_FnExactCurOk.f a0_0 a0_1 = some true := by
  unfold maxLen at w0_0
  have hw : wrap64 (1048576 - (a0_0.size : Int)) = 1048576 - (a0_0.size : Int) := w64 (by omega) (by omega)
  unfold laws_FnExactCurOk.f laws_szCur.f laws_toCur.f spec_CurOk.f impl_CurOk.f impl_within.f
  rw [hw]
  by_cases h : 1048576 - (a0_0.size : Int) < 0
  · rw [if_pos h]; rfl
  · rw [if_neg h]
    by_cases h1 : 0 ≤ a0_1
    · simp [h, h1]
    · simp [h, h1]

end Go.Proofs.Ytcehnamlnbhhnaa.Pure
