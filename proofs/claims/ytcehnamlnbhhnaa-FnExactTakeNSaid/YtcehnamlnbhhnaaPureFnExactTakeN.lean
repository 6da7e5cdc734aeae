/- The law FnExactTakeN answers true for every cursor and number: both take the same. No condition. -/
import Derived.Test.YtcehnamlnbhhnaaPFnExactTakeNx
import Derived.Test.YtcehnamlnbhhnaaBase
namespace Go.Proofs.Ytcehnamlnbhhnaa.Pure
open Go.RowKit Go.Proofs.Ytcehnamlnbhhnaa.PFnExactTakeN Go.Proofs.YtcehnamlnbhhnaaW.PrintWords Go.Proofs.YtcehnamlnbhhnaaW.PrintLast Go.Proofs.YtcehnamlnbhhnaaW.PrintMore Go.Proofs.Ytcehnamlnbhhnaa.Base
set_option linter.unusedVariables false
set_option linter.unusedSimpArgs false

theorem take_same (s : ByteArray) (at_ n : Int) (hs : s.size ≤ 9223372036854775807) (hn : (Lit.int .i64 n).wf = true) : ∃ r, spec_TakeN.f s at_ n = some r ∧ impl_TakeN.f s at_ n = some r := by
  obtain ⟨n0, n1⟩ := wf64 hn
  unfold spec_TakeN.f impl_TakeN.f spec_CurOk.f impl_CurOk.f impl_within.f
  by_cases h1 : 0 ≤ at_
  · by_cases h2 : at_ ≤ (s.size : Int)
    · have hw : wrap64 ((s.size : Int) - at_) = (s.size : Int) - at_ := w64 (by omega) (by omega)
      rw [hw]
      by_cases h3 : 0 ≤ n
      · by_cases h4 : n ≤ (s.size : Int) - at_
        · have hw2 : wrap64 (at_ + n) = at_ + n := w64 (by omega) (by omega)
          rw [hw2]
          simp [h1, h2, h3, h4, show ¬ n < 0 by omega, show ¬ (n > (s.size : Int) - at_) by omega, show at_ ≤ at_ + n by omega, show at_ + n ≤ (s.size : Int) by omega]
        · simp [h1, h2, h3, h4, show ¬ n < 0 by omega, show (n > (s.size : Int) - at_) by omega]
      · simp [h1, h2, h3, show n < 0 by omega]
    · simp [h1, h2]
  · simp [h1]

theorem FnExactTakeN (a0_0 : ByteArray) (a0_1 : Int) (a1 : Int) (w0_0 : a0_0.size ≤ maxLen) (w0_1 : (Lit.int .i64 a0_1).wf = true) (w1 : (Lit.int .i64 a1).wf = true) : laws_FnExactTakeN.f a0_0 a0_1 a1 = some true := by
  unfold maxLen at w0_0
  have hw : wrap64 (1048576 - (a0_0.size : Int)) = 1048576 - (a0_0.size : Int) := w64 (by omega) (by omega)
  obtain ⟨r, h1, h2⟩ := take_same a0_0 a0_1 a1 w0_0 w1
  unfold laws_FnExactTakeN.f laws_szCur.f laws_toCur.f laws_eqCur.f
  rw [hw]
  by_cases h : 1048576 - (a0_0.size : Int) < 0
  · rw [if_pos h]; rfl
  · rw [if_neg h]
    simp [h, h1, h2]

end Go.Proofs.Ytcehnamlnbhhnaa.Pure
