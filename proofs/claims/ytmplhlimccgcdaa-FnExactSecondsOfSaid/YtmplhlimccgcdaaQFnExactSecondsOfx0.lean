-- Written by a program of this session.
import Derived.Test.YtmplhlimccgcdaaProg
import Derived.Below
import Derived.Deep.Draws
import Derived.Deep.AppendLies
import Derived.Maps.AppendAt
import Derived.OwnWalk
import Derived.Laws.BytesArg
import Derived.Laws.MakeOwn
import Derived.Laws.OwnMore
import Derived.Deep.OwnRows
import Derived.Tactics
import Derived.Lib.ConvBytes
import Derived.Laws.Slices
import Derived.WalkKit
import Derived.KernelRfl
import Derived.RowKit3
import Derived.Deep.LoopGhost
import Derived.Deep.QuietTactic
import Derived.BigQuiet
import Derived.WideLaws
import Derived.Deep.DeepCutAuto
import Derived.Deep.CutBlock
import Derived.Deep.RegionHeld3
import Derived.Laws.Rows
import Derived.Lib.AppendStr
import Derived.ArgAppend
import Derived.Laws.IdiomCopy
import Derived.OrdersHeld
import Derived.Laws.BitsLemmas
import Derived.RowKit
import Derived.Test.YtmplhlimccgcdaaSecWalk
import Derived.Test.YtmplhlimccgcdaaWWords
import Derived.Test.YtmplhlimccgcdaaWLast
import Derived.Test.YtmplhlimccgcdaaWTab
import Derived.Test.YtmplhlimccgcdaaWFour
import Derived.Test.YtmplhlimccgcdaaWQPut
import Derived.Test.YtmplhlimccgcdaaWApart
import Derived.Test.YtmplhlimccgcdaaWArr
import Derived.Test.YtmplhlimccgcdaaWZeros
import Derived.Test.YtmplhlimccgcdaaWFoot
import Derived.Test.YtmplhlimccgcdaaWKept
import Derived.Test.YtmplhlimccgcdaaWShare
import Derived.Test.YtmplhlimccgcdaaWN
import Derived.Test.YtmplhlimccgcdaaWFootNe
import Derived.Test.YtmplhlimccgcdaaWAt
import Derived.Test.YtmplhlimccgcdaaWEqStruct
import Derived.Test.YtmplhlimccgcdaaWRepsOne
import Derived.Test.YtmplhlimccgcdaaWInv
import Derived.Test.YtmplhlimccgcdaaWInvWords
import Derived.Test.YtmplhlimccgcdaaWGuard
import Derived.Test.YtmplhlimccgcdaaWNEv
import Derived.Test.YtmplhlimccgcdaaWMore
namespace Go.Proofs.Ytmplhlimccgcdaa.PFnExactSecondsOf
open Go.Proofs.Ytmplhlimccgcdaa.Foreign
open Go.RowKit Go.Proofs.YtmplhlimccgcdaaW.PrintWords Go.Proofs.YtmplhlimccgcdaaW.PrintLast Go.Proofs.YtmplhlimccgcdaaW.PrintMore
attribute [local go_sem] max2_int min2_int max_two min_two max_three min_three max_four min_four   -- for this text's walks alone
set_option linter.unusedVariables false
set_option linter.unusedSimpArgs false



def errW : Option Int → Value
 | none => .nilIface
 | some c => .iface 0 (.int .i64 c)
theorem errW_none : errW none = .nilIface := rfl
theorem errW_some (c : Int) : errW (some c) = .iface 0 (.int .i64 c) := rfl

-- the values' own types

end Go.Proofs.Ytmplhlimccgcdaa.PFnExactSecondsOf
