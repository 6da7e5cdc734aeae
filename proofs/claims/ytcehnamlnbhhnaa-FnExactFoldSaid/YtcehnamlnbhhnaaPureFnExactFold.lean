/- The law FnExactFold answers true for every text: both put small letters for great ones. No condition. -/
import Derived.Test.YtcehnamlnbhhnaaQFnExactFoldx1
import Derived.Test.YtcehnamlnbhhnaaBase
namespace Go.Proofs.Ytcehnamlnbhhnaa.Pure
open Go.RowKit Go.Proofs.Ytcehnamlnbhhnaa.PFnExactFold Go.Proofs.YtcehnamlnbhhnaaW.PrintWords Go.Proofs.YtcehnamlnbhhnaaW.PrintLast Go.Proofs.YtcehnamlnbhhnaaW.PrintMore Go.Proofs.Ytcehnamlnbhhnaa.Base
set_option linter.unusedVariables false
set_option linter.unusedSimpArgs false

open Go.Proofs.Ytcehnamlnbhhnaa.Foreign
theorem FnExactFold : laws_FnExactFold.Pure := by
  intro s hs
  have h1 : impl_Fold.f s = some (foldM s) := if_pos hs
  have h2 : spec_Fold.f s = some (foldM s) := if_pos hs
  unfold laws_FnExactFold.f
  rw [h1, h2]
  by_cases h : (s.size : Int) > 1048576
  · exact if_pos h
  · simp [h]

end Go.Proofs.Ytcehnamlnbhhnaa.Pure
