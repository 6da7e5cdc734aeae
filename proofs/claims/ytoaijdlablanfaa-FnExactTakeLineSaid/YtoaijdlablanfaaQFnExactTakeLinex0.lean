-- Written by a program of this session.
import Derived.Test.YtoaijdlablanfaaProg
import Derived.Below
import Derived.Deep.Draws
import Derived.Deep.AppendLies
import Derived.Maps.AppendAt
import Derived.OwnWalk
import Derived.Laws.BytesArg
import Derived.Laws.MakeOwn
import Derived.Laws.OwnMore
import Derived.Deep.OwnRows
import Derived.Tactics
import Derived.Lib.ConvBytes
import Derived.Laws.Slices
import Derived.WalkKit
import Derived.KernelRfl
import Derived.RowKit3
import Derived.Deep.LoopGhost
import Derived.Deep.QuietTactic
import Derived.BigQuiet
import Derived.WideLaws
import Derived.Deep.DeepCutAuto
import Derived.Deep.CutBlock
import Derived.Deep.RegionHeld3
import Derived.Laws.Rows
import Derived.Lib.AppendStr
import Derived.ArgAppend
import Derived.Laws.IdiomCopy
import Derived.OrdersHeld
import Derived.Laws.BitsLemmas
import Derived.RowKit
import Derived.Test.YtoaijdlablanfaaAnyWalk
import Derived.Test.YtoaijdlablanfaaWWords
import Derived.Test.YtoaijdlablanfaaWLast
import Derived.Test.YtoaijdlablanfaaWTab
import Derived.Test.YtoaijdlablanfaaWFour
import Derived.Test.YtoaijdlablanfaaWQPut
import Derived.Test.YtoaijdlablanfaaWApart
import Derived.Test.YtoaijdlablanfaaWArr
import Derived.Test.YtoaijdlablanfaaWZeros
import Derived.Test.YtoaijdlablanfaaWFoot
import Derived.Test.YtoaijdlablanfaaWKept
import Derived.Test.YtoaijdlablanfaaWShare
import Derived.Test.YtoaijdlablanfaaWN
import Derived.Test.YtoaijdlablanfaaWFootNe
import Derived.Test.YtoaijdlablanfaaWAt
import Derived.Test.YtoaijdlablanfaaWEqStruct
import Derived.Test.YtoaijdlablanfaaWRepsOne
import Derived.Test.YtoaijdlablanfaaWInv
import Derived.Test.YtoaijdlablanfaaWInvWords
import Derived.Test.YtoaijdlablanfaaWGuard
import Derived.Test.YtoaijdlablanfaaWNEv
import Derived.Test.YtoaijdlablanfaaWMore
namespace Go.Proofs.Ytoaijdlablanfaa.PFnExactTakeLine
open Go.Proofs.Ytoaijdlablanfaa.Foreign
open Go.RowKit Go.Proofs.YtoaijdlablanfaaW.PrintWords Go.Proofs.YtoaijdlablanfaaW.PrintLast Go.Proofs.YtoaijdlablanfaaW.PrintMore
attribute [local go_sem] max2_int min2_int max_two min_two max_three min_three max_four min_four   -- for this text's walks alone
set_option linter.unusedVariables false
set_option linter.unusedSimpArgs false



def errW : Option Int → Value
 | none => .nilIface
 | some c => .iface 0 (.int .i64 c)
theorem errW_none : errW none = .nilIface := rfl
theorem errW_some (c : Int) : errW (some c) = .iface 0 (.int .i64 c) := rfl

-- the values' own types

end Go.Proofs.Ytoaijdlablanfaa.PFnExactTakeLine
