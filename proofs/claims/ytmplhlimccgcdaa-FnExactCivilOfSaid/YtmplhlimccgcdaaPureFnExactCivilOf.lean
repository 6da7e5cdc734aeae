/- The law FnExactCivilOf answers true for every whole number: both civil times are the same. No condition. -/
import Derived.Test.YtmplhlimccgcdaaQFnExactCivilOfx1
import Derived.Test.YtmplhlimccgcdaaBase
namespace Go.Proofs.Ytmplhlimccgcdaa.Pure
open Go.RowKit Go.Proofs.Ytmplhlimccgcdaa.PFnExactCivilOf Go.Proofs.YtmplhlimccgcdaaW.PrintWords Go.Proofs.YtmplhlimccgcdaaW.PrintLast Go.Proofs.YtmplhlimccgcdaaW.PrintMore Go.Proofs.Ytmplhlimccgcdaa.Base
set_option linter.unusedVariables false
set_option linter.unusedSimpArgs false

open Go.Proofs.Ytmplhlimccgcdaa.Foreign Go.Proofs.Ytmplhlimccgcdaa.Dates
theorem FnExactCivilOf : laws_FnExactCivilOf.Pure := by
  intro t ht
  have e1 : spec_CivilOf.f t = some (civM t) := rfl
  have e2 : impl_CivilOf.f t = some (civM t) := rfl
  have e3 : ∀ a b c d e f : Int, laws_eqCivil.f a b c d e f a b c d e f = some true := by
    intro a b c d e f
    unfold laws_eqCivil.f; simp
  unfold laws_FnExactCivilOf.f
  rw [e1, e2]
  simp only [Option.bind_some, e3, if_true]
  simp

end Go.Proofs.Ytmplhlimccgcdaa.Pure
