/- The library's table of the places of a bit, as the row lists it. No condition. -/
import Derived.Test.YtoaijdlablanfaaDoorProg
import Derived.Test.YtoaijdlablanfaaDoorWMore
import Derived.Below
import Derived.Lib.AppendIntMem
namespace Go.Proofs.YtoaijdlablanfaaDoor.Foreign
open Go.RowKit Go.Proofs.YtoaijdlablanfaaDoorW.PrintWords Go.Proofs.YtoaijdlablanfaaDoorW.PrintLast Go.Proofs.YtoaijdlablanfaaDoorW.PrintMore
def bruTab : List Int := [0, 1, 56, 2, 57, 49, 28, 3, 61, 58, 42, 50, 38, 29, 17, 4, 62, 47, 59, 36, 45, 43, 51, 22, 53, 39, 33, 30, 24, 18, 12, 5, 63, 55, 48, 27, 60, 41, 37, 16, 46, 35, 44, 21, 52, 32, 23, 11, 54, 26, 40, 15, 34, 20, 31, 10, 25, 14, 19, 9, 13, 8, 7, 6]
structure Tab (w : World) : Prop where
  bru : Lib.TabIs Tryd.prog w "math/bits.deBruijn64tab" .u8 bruTab
theorem Tab.below {w w' : World} (h : Tab w) (b : Below w.heap.size w w') : Tab w' where
  bru := Lib.tabBelow_of_tabIs h.bru w' b
/-- What the row lists says that the table is there: it stands second on the list. -/
theorem Tab.of_laid {W : World} {a : String × DataW Unit} {rest : List (String × DataW Unit)} (h : laidMet Tryd.prog (a :: ("math/bits.deBruijn64tab", Lib.tabData .u8 bruTab) :: rest) W) : Tab W := by
  obtain ⟨ps, ⟨g1, t1, cs1, fuel1, p1, q1, _, _, _, _, h1, _⟩, _⟩ := h
  obtain ⟨g2, t2, cs2, fuel2, p2, q2, hg2, ht2, hvar2, hd2, h2, _⟩ := h1
  have hgb : Tryd.prog.globalNamed "math/bits.deBruijn64tab" = some 4 := by kernel_rfl
  obtain rfl := Option.some.inj (hgb.symm.trans hg2)
  have htb : (Tryd.prog.globals[4]?).map (·.type) = some 68 := by kernel_rfl
  obtain rfl := Option.some.inj (htb.symm.trans ht2)
  refine ⟨?_⟩
  unfold Lib.TabIs
  rw [hvar2, ← Lib.cells_of_tab Tryd.underlying68 Tryd.underlying5 (by kernel_rfl) (by kernel_rfl) hd2]
end Go.Proofs.YtoaijdlablanfaaDoor.Foreign
