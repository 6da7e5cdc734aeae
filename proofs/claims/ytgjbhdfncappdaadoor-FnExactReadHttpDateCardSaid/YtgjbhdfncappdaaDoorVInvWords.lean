import Derived.Test.YtgjbhdfncappdaaDoorVInv
import Derived.Test.YtgjbhdfncappdaaDoorVFootNe
namespace Go.Proofs.YtgjbhdfncappdaaDoorV.PrintWords
open Go.RowKit
end Go.Proofs.YtgjbhdfncappdaaDoorV.PrintWords
namespace Go.Proofs.YtgjbhdfncappdaaDoorV.PrintLast
section
variable {ops : Array Oper} {a : Act} {o og : Oper} {g : Nat} {t : Tmp} {u : Bool}
end
end Go.Proofs.YtgjbhdfncappdaaDoorV.PrintLast
