-- Written by a program of this session.
import Derived.Test.YtgjbhdfncappdaaDoorProg
import Derived.Below
import Derived.Deep.Draws
import Derived.Deep.AppendLies
import Derived.Maps.AppendAt
import Derived.OwnWalk
import Derived.Laws.BytesArg
import Derived.Laws.MakeOwn
import Derived.Laws.OwnMore
import Derived.Deep.OwnRows
import Derived.Tactics
import Derived.Lib.ConvBytes
import Derived.Laws.Slices
import Derived.WalkKit
import Derived.KernelRfl
import Derived.RowKit3
import Derived.Deep.LoopGhost
import Derived.Deep.QuietTactic
import Derived.BigQuiet
import Derived.WideLaws
import Derived.Deep.DeepCutAuto
import Derived.Deep.CutBlock
import Derived.Deep.RegionHeld3
import Derived.Laws.Rows
import Derived.Lib.AppendStr
import Derived.ArgAppend
import Derived.Laws.IdiomCopy
import Derived.OrdersHeld
import Derived.Laws.BitsLemmas
import Derived.RowKit
import Derived.Test.YtgjbhdfncappdaaDoorStampWalk
import Derived.Test.YtgjbhdfncappdaaDoorGrow
import Derived.Test.YtgjbhdfncappdaaDoorReadWalk
import Derived.Test.YtgjbhdfncappdaaDoorWWords
import Derived.Test.YtgjbhdfncappdaaDoorWLast
import Derived.Test.YtgjbhdfncappdaaDoorWTab
import Derived.Test.YtgjbhdfncappdaaDoorWFour
import Derived.Test.YtgjbhdfncappdaaDoorWQPut
import Derived.Test.YtgjbhdfncappdaaDoorWApart
import Derived.Test.YtgjbhdfncappdaaDoorWArr
import Derived.Test.YtgjbhdfncappdaaDoorWZeros
import Derived.Test.YtgjbhdfncappdaaDoorWFoot
import Derived.Test.YtgjbhdfncappdaaDoorWKept
import Derived.Test.YtgjbhdfncappdaaDoorWShare
import Derived.Test.YtgjbhdfncappdaaDoorWN
import Derived.Test.YtgjbhdfncappdaaDoorWFootNe
import Derived.Test.YtgjbhdfncappdaaDoorWAt
import Derived.Test.YtgjbhdfncappdaaDoorWEqStruct
import Derived.Test.YtgjbhdfncappdaaDoorWRepsOne
import Derived.Test.YtgjbhdfncappdaaDoorWInv
import Derived.Test.YtgjbhdfncappdaaDoorWInvWords
import Derived.Test.YtgjbhdfncappdaaDoorWGuard
import Derived.Test.YtgjbhdfncappdaaDoorWNEv
import Derived.Test.YtgjbhdfncappdaaDoorWMore
namespace Go.Proofs.YtgjbhdfncappdaaDoor.PFnExactReadWarcDate
open Go.Proofs.YtgjbhdfncappdaaDoor.Foreign
open Go.RowKit Go.Proofs.YtgjbhdfncappdaaDoorW.PrintWords Go.Proofs.YtgjbhdfncappdaaDoorW.PrintLast Go.Proofs.YtgjbhdfncappdaaDoorW.PrintMore
attribute [local go_sem] max2_int min2_int max_two min_two max_three min_three max_four min_four   -- for this text's walks alone
set_option linter.unusedVariables false
set_option linter.unusedSimpArgs false



def errW : Option Int → Value
 | none => .nilIface
 | some c => .iface 0 (.int .i64 c)
theorem errW_none : errW none = .nilIface := rfl
theorem errW_some (c : Int) : errW (some c) = .iface 0 (.int .i64 c) := rfl

theorem info5 : (Tryd.prog.info? 5).map (fun i => (i.zero, i.size, i.bytes)) = some (some (.int .u8 0), 1, 1) := by kernel_rfl
-- the values' own types

end Go.Proofs.YtgjbhdfncappdaaDoor.PFnExactReadWarcDate
