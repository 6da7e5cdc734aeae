import Derived.Test.YtoaijdlablanfaaVInv
import Derived.Test.YtoaijdlablanfaaVFootNe
namespace Go.Proofs.YtoaijdlablanfaaV.PrintWords
open Go.RowKit
end Go.Proofs.YtoaijdlablanfaaV.PrintWords
namespace Go.Proofs.YtoaijdlablanfaaV.PrintLast
section
variable {ops : Array Oper} {a : Act} {o og : Oper} {g : Nat} {t : Tmp} {u : Bool}
end
end Go.Proofs.YtoaijdlablanfaaV.PrintLast
