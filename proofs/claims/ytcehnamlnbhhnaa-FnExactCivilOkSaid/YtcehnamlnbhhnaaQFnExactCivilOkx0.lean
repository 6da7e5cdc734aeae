-- Written by a program of this session.
import Derived.Test.YtcehnamlnbhhnaaProg
import Derived.Below
import Derived.Deep.Draws
import Derived.Deep.AppendLies
import Derived.Maps.AppendAt
import Derived.OwnWalk
import Derived.Laws.BytesArg
import Derived.Laws.MakeOwn
import Derived.Laws.OwnMore
import Derived.Deep.OwnRows
import Derived.Tactics
import Derived.Lib.ConvBytes
import Derived.Laws.Slices
import Derived.WalkKit
import Derived.KernelRfl
import Derived.RowKit3
import Derived.Deep.LoopGhost
import Derived.Deep.QuietTactic
import Derived.BigQuiet
import Derived.WideLaws
import Derived.Deep.DeepCutAuto
import Derived.Deep.CutBlock
import Derived.Deep.RegionHeld3
import Derived.Laws.Rows
import Derived.Lib.AppendStr
import Derived.ArgAppend
import Derived.Laws.IdiomCopy
import Derived.OrdersHeld
import Derived.Laws.BitsLemmas
import Derived.RowKit
import Derived.Test.YtcehnamlnbhhnaaOkAll
import Derived.Test.YtcehnamlnbhhnaaWWords
import Derived.Test.YtcehnamlnbhhnaaWLast
import Derived.Test.YtcehnamlnbhhnaaWTab
import Derived.Test.YtcehnamlnbhhnaaWFour
import Derived.Test.YtcehnamlnbhhnaaWQPut
import Derived.Test.YtcehnamlnbhhnaaWApart
import Derived.Test.YtcehnamlnbhhnaaWArr
import Derived.Test.YtcehnamlnbhhnaaWZeros
import Derived.Test.YtcehnamlnbhhnaaWFoot
import Derived.Test.YtcehnamlnbhhnaaWKept
import Derived.Test.YtcehnamlnbhhnaaWShare
import Derived.Test.YtcehnamlnbhhnaaWN
import Derived.Test.YtcehnamlnbhhnaaWFootNe
import Derived.Test.YtcehnamlnbhhnaaWAt
import Derived.Test.YtcehnamlnbhhnaaWEqStruct
import Derived.Test.YtcehnamlnbhhnaaWRepsOne
import Derived.Test.YtcehnamlnbhhnaaWInv
import Derived.Test.YtcehnamlnbhhnaaWInvWords
import Derived.Test.YtcehnamlnbhhnaaWGuard
import Derived.Test.YtcehnamlnbhhnaaWNEv
import Derived.Test.YtcehnamlnbhhnaaWMore
namespace Go.Proofs.Ytcehnamlnbhhnaa.PFnExactCivilOk
open Go.Proofs.Ytcehnamlnbhhnaa.Foreign
open Go.RowKit Go.Proofs.YtcehnamlnbhhnaaW.PrintWords Go.Proofs.YtcehnamlnbhhnaaW.PrintLast Go.Proofs.YtcehnamlnbhhnaaW.PrintMore
attribute [local go_sem] max2_int min2_int max_two min_two max_three min_three max_four min_four   -- for this text's walks alone
set_option linter.unusedVariables false
set_option linter.unusedSimpArgs false



def errW : Option Int → Value
 | none => .nilIface
 | some c => .iface 0 (.int .i64 c)
theorem errW_none : errW none = .nilIface := rfl
theorem errW_some (c : Int) : errW (some c) = .iface 0 (.int .i64 c) := rfl

-- the values' own types

end Go.Proofs.Ytcehnamlnbhhnaa.PFnExactCivilOk
