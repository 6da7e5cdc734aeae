-- Written by a program of this session.
import Derived.Test.YtoaijdlablanfaaDoorProg
import Derived.Below
import Derived.Deep.Draws
import Derived.Deep.AppendLies
import Derived.Maps.AppendAt
import Derived.OwnWalk
import Derived.Laws.BytesArg
import Derived.Laws.MakeOwn
import Derived.Laws.OwnMore
import Derived.Deep.OwnRows
import Derived.Tactics
import Derived.Lib.ConvBytes
import Derived.Laws.Slices
import Derived.WalkKit
import Derived.KernelRfl
import Derived.RowKit3
import Derived.Deep.LoopGhost
import Derived.Deep.QuietTactic
import Derived.BigQuiet
import Derived.WideLaws
import Derived.Deep.DeepCutAuto
import Derived.Deep.CutBlock
import Derived.Deep.RegionHeld3
import Derived.Laws.Rows
import Derived.Lib.AppendStr
import Derived.ArgAppend
import Derived.Laws.IdiomCopy
import Derived.OrdersHeld
import Derived.Laws.BitsLemmas
import Derived.RowKit
import Derived.Test.YtoaijdlablanfaaDoorHexWalkB
import Derived.Test.YtoaijdlablanfaaDoorWWords
import Derived.Test.YtoaijdlablanfaaDoorWLast
import Derived.Test.YtoaijdlablanfaaDoorWTab
import Derived.Test.YtoaijdlablanfaaDoorWFour
import Derived.Test.YtoaijdlablanfaaDoorWQPut
import Derived.Test.YtoaijdlablanfaaDoorWApart
import Derived.Test.YtoaijdlablanfaaDoorWArr
import Derived.Test.YtoaijdlablanfaaDoorWZeros
import Derived.Test.YtoaijdlablanfaaDoorWFoot
import Derived.Test.YtoaijdlablanfaaDoorWKept
import Derived.Test.YtoaijdlablanfaaDoorWShare
import Derived.Test.YtoaijdlablanfaaDoorWN
import Derived.Test.YtoaijdlablanfaaDoorWFootNe
import Derived.Test.YtoaijdlablanfaaDoorWAt
import Derived.Test.YtoaijdlablanfaaDoorWEqStruct
import Derived.Test.YtoaijdlablanfaaDoorWRepsOne
import Derived.Test.YtoaijdlablanfaaDoorWInv
import Derived.Test.YtoaijdlablanfaaDoorWInvWords
import Derived.Test.YtoaijdlablanfaaDoorWGuard
import Derived.Test.YtoaijdlablanfaaDoorWNEv
import Derived.Test.YtoaijdlablanfaaDoorWMore
namespace Go.Proofs.YtoaijdlablanfaaDoor.PFnExactHexText
open Go.Proofs.YtoaijdlablanfaaDoor.Foreign
open Go.RowKit Go.Proofs.YtoaijdlablanfaaDoorW.PrintWords Go.Proofs.YtoaijdlablanfaaDoorW.PrintLast Go.Proofs.YtoaijdlablanfaaDoorW.PrintMore
attribute [local go_sem] max2_int min2_int max_two min_two max_three min_three max_four min_four   -- for this text's walks alone
set_option linter.unusedVariables false
set_option linter.unusedSimpArgs false



def errW : Option Int → Value
 | none => .nilIface
 | some c => .iface 0 (.int .i64 c)
theorem errW_none : errW none = .nilIface := rfl
theorem errW_some (c : Int) : errW (some c) = .iface 0 (.int .i64 c) := rfl

-- the values' own types

end Go.Proofs.YtoaijdlablanfaaDoor.PFnExactHexText
