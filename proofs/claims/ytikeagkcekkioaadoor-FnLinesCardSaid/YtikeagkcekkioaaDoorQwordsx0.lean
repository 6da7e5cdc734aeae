-- Written by a program of this session.
import Derived.Test.YtikeagkcekkioaaDoorProg
import Derived.Below
import Derived.Deep.Draws
import Derived.Deep.AppendLies
import Derived.Maps.AppendAt
import Derived.OwnWalk
import Derived.Laws.BytesArg
import Derived.Laws.MakeOwn
import Derived.Laws.OwnMore
import Derived.Deep.OwnRows
import Derived.Tactics
import Derived.Lib.ConvBytes
import Derived.Laws.Slices
import Derived.WalkKit
import Derived.KernelRfl
import Derived.RowKit3
import Derived.Deep.LoopGhost
import Derived.Deep.QuietTactic
import Derived.BigQuiet
import Derived.WideLaws
import Derived.Deep.DeepCutAuto
import Derived.Deep.CutBlock
import Derived.Deep.RegionHeld3
import Derived.Laws.Rows
import Derived.Lib.AppendStr
import Derived.ArgAppend
import Derived.Laws.IdiomCopy
import Derived.OrdersHeld
import Derived.Laws.BitsLemmas
import Derived.RowKit
import Derived.Test.YtikeagkcekkioaaDoorForDec
import Derived.Test.YtikeagkcekkioaaDoorFoldWalk
import Derived.Test.YtikeagkcekkioaaDoorTokWalk
import Derived.Test.YtikeagkcekkioaaDoorWWords
import Derived.Test.YtikeagkcekkioaaDoorWLast
import Derived.Test.YtikeagkcekkioaaDoorWTab
import Derived.Test.YtikeagkcekkioaaDoorWFour
import Derived.Test.YtikeagkcekkioaaDoorWQPut
import Derived.Test.YtikeagkcekkioaaDoorWApart
import Derived.Test.YtikeagkcekkioaaDoorWArr
import Derived.Test.YtikeagkcekkioaaDoorWZeros
import Derived.Test.YtikeagkcekkioaaDoorWFoot
import Derived.Test.YtikeagkcekkioaaDoorWKept
import Derived.Test.YtikeagkcekkioaaDoorWShare
import Derived.Test.YtikeagkcekkioaaDoorWN
import Derived.Test.YtikeagkcekkioaaDoorWFootNe
import Derived.Test.YtikeagkcekkioaaDoorWAt
import Derived.Test.YtikeagkcekkioaaDoorWEqStruct
import Derived.Test.YtikeagkcekkioaaDoorWRepsOne
import Derived.Test.YtikeagkcekkioaaDoorWInv
import Derived.Test.YtikeagkcekkioaaDoorWInvWords
import Derived.Test.YtikeagkcekkioaaDoorWGuard
import Derived.Test.YtikeagkcekkioaaDoorWNEv
import Derived.Test.YtikeagkcekkioaaDoorWMore
namespace Go.Proofs.YtikeagkcekkioaaDoor.Pwords
open Go.Proofs.YtikeagkcekkioaaDoor.Foreign
open Go.RowKit Go.Proofs.YtikeagkcekkioaaDoorW.PrintWords Go.Proofs.YtikeagkcekkioaaDoorW.PrintLast Go.Proofs.YtikeagkcekkioaaDoorW.PrintMore
attribute [local go_sem] max2_int min2_int max_two min_two max_three min_three max_four min_four   -- for this text's walks alone
set_option linter.unusedVariables false
set_option linter.unusedSimpArgs false



def errW : Option Int → Value
 | none => .nilIface
 | some c => .iface 0 (.int .i64 c)
theorem errW_none : errW none = .nilIface := rfl
theorem errW_some (c : Int) : errW (some c) = .iface 0 (.int .i64 c) := rfl

theorem info5 : (Tryd.prog.info? 5).map (fun i => (i.zero, i.size, i.bytes)) = some (some (.int .u8 0), 1, 1) := by kernel_rfl
-- the values' own types

end Go.Proofs.YtikeagkcekkioaaDoor.Pwords
