/- What the library's Itoa tells, as a function that the printed walks may call; it wants the library's table of powers of ten. Condition: a whole number of 64 bits. -/
import Derived.Test.YtoaijdlablanfaaDoorProg
import Derived.Test.YtoaijdlablanfaaDoorShelf
import Derived.Test.YtoaijdlablanfaaDoorWMore
import Derived.Below
import Derived.Lib.AppendIntMem
namespace Go.Proofs.YtoaijdlablanfaaDoor.Foreign
open Go.RowKit Go.Proofs.YtoaijdlablanfaaDoorW.PrintWords Go.Proofs.YtoaijdlablanfaaDoorW.PrintLast Go.Proofs.YtoaijdlablanfaaDoorW.PrintMore
def Tab (w : World) : Prop := Lib.TabIs Tryd.prog w "internal/strconv.uint64pow10" .u64 Lib.pow10Tab
theorem Tab.below {w w' : World} (h : Tab w) (b : Below w.heap.size w w') : Tab w' := Lib.tabBelow_of_tabIs h w' b
def strconv_Itoa.f (n : Int) : Option ByteArray := if -9223372036854775808 ≤ n ∧ n ≤ 9223372036854775807 then some ⟨(Lib.itoa n).toArray⟩ else none
theorem strconv_Itoa.calls (n : Int) (r : ByteArray) (w : World) (ht : Tab w) (h : strconv_Itoa.f n = some r) :
    Calls Tryd.prog 14 #[.int .i64 n] w fun e w' => e = .returned (.string r) ∧ Below w.heap.size w w' := by
  unfold strconv_Itoa.f at h
  split at h
  · rename_i hn
    obtain rfl := Option.some.inj h
    refine (Tryd.strconv_Itoa n hn.1 hn.2 w ht).mono ?_
    rintro e w' ⟨rfl, k, os, rfl⟩
    exact ⟨rfl, Lib.below_grow _ w (Nat.le_refl _) k os⟩
  · cases h
/-- What the row lists says that the table is there: it stands third on the list. -/
theorem Tab.of_laid {W : World} {a b : String × DataW Unit} {rest : List (String × DataW Unit)} (h : laidMet Tryd.prog (a :: b :: ("internal/strconv.uint64pow10", Lib.tabData .u64 Lib.pow10Tab) :: rest) W) : Tab W := by
  obtain ⟨ps, ⟨g1, t1, cs1, fuel1, p1, q1, _, _, _, _, h1, _⟩, _⟩ := h
  obtain ⟨g2, t2, cs2, fuel2, p2, q2, _, _, _, _, h2, _⟩ := h1
  obtain ⟨g', t', cs, fuel, p, q, hg', ht', hvar, hd, _, _⟩ := h2
  have hg : Tryd.prog.globalNamed "internal/strconv.uint64pow10" = some 0 := by kernel_rfl
  obtain rfl := Option.some.inj (hg.symm.trans hg')
  have hty : (Tryd.prog.globals[0]?).map (·.type) = some 50 := by kernel_rfl
  obtain rfl := Option.some.inj (hty.symm.trans ht')
  unfold Tab Lib.TabIs
  rw [hvar, ← Lib.cells_of_tab Tryd.underlying50 Tryd.underlying37 (by kernel_rfl) (by kernel_rfl) hd]
end Go.Proofs.YtoaijdlablanfaaDoor.Foreign
