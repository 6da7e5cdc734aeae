/- The law FnExactSameFold answers true for every two texts: both compare them in small letters. No condition. -/
import Derived.Test.YtcehnamlnbhhnaaQFnExactSameFoldx1
import Derived.Test.YtcehnamlnbhhnaaBase
namespace Go.Proofs.Ytcehnamlnbhhnaa.Pure
open Go.RowKit Go.Proofs.Ytcehnamlnbhhnaa.PFnExactSameFold Go.Proofs.YtcehnamlnbhhnaaW.PrintWords Go.Proofs.YtcehnamlnbhhnaaW.PrintLast Go.Proofs.YtcehnamlnbhhnaaW.PrintMore Go.Proofs.Ytcehnamlnbhhnaa.Base
set_option linter.unusedVariables false
set_option linter.unusedSimpArgs false

open Go.Proofs.Ytcehnamlnbhhnaa.Foreign
theorem FnExactSameFold : laws_FnExactSameFold.Pure := by
  intro s t hs ht
  have h1 : impl_Fold.f s = some (foldM s) := if_pos hs
  have h2 : spec_Fold.f s = some (foldM s) := if_pos hs
  have h3 : impl_Fold.f t = some (foldM t) := if_pos ht
  have h4 : spec_Fold.f t = some (foldM t) := if_pos ht
  have e1 : spec_SameFold.f s t = some ((foldM s).toList == (foldM t).toList) := by unfold spec_SameFold.f; rw [h2, h4]; rfl
  have e2 : impl_SameFold.f s t = some ((foldM s).toList == (foldM t).toList) := by unfold impl_SameFold.f; rw [h1, h3]; rfl
  unfold laws_FnExactSameFold.f
  rw [e1, e2]
  by_cases a : (s.size : Int) > 1048576
  · exact if_pos a
  · rw [if_neg a]
    by_cases b : (t.size : Int) > 1048576
    · exact if_pos b
    · rw [if_neg b, Option.bind_some, Option.bind_some]; simp

end Go.Proofs.Ytcehnamlnbhhnaa.Pure
