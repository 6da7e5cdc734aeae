/- What the library's IndexByte and Contains tell, as functions that the printed walks may call; Contains wants the variable MaxLen's cell to hold an int, whatever it is. Condition: texts shorter than 2^32 - 15. -/
import Derived.Test.YtgjbhdfncappdaaDoorProg
import Derived.Test.YtgjbhdfncappdaaDoorShelf
import Derived.Test.YtgjbhdfncappdaaDoorVMore
import Derived.Below
import Derived.Deep.Draws
namespace Go.Proofs.YtgjbhdfncappdaaDoor.Foreign
open Go.RowKit Go.Proofs.YtgjbhdfncappdaaDoorV.PrintWords Go.Proofs.YtgjbhdfncappdaaDoorV.PrintLast Go.Proofs.YtgjbhdfncappdaaDoorV.PrintMore
def Tab (w : World) : Prop := ∃ m, w.cell? ⟨2, 0, none⟩ = some (.int .i64 m)
theorem Tab.lt {w : World} (h : Tab w) : 2 < w.heap.size := by
  obtain ⟨m, h⟩ := h
  by_cases c : 2 < w.heap.size
  · exact c
  · rw [show w.cell? ⟨2, 0, none⟩ = none by unfold World.cell?; rw [Array.getElem?_eq_none (by show w.heap.size ≤ 2; omega)]] at h
    cases h
theorem Tab.below {w w' : World} (h : Tab w) (b : Below w.heap.size w w') : Tab w' := by
  have g := h.lt
  obtain ⟨m, h⟩ := h
  exact ⟨m, by rw [← h]; exact b.cell (p := ⟨2, 0, none⟩) g⟩
theorem Tab.of_shaped {w : World} (h : w.ShapedOpen Tryd.prog) : Tab w := Tryd.laysM144.s1_3 w h
def strings_IndexByte.f (a0 : ByteArray) (a1 : Int) : Option Int := some (Lib.indexByte a0.data.toList a1.toNat.toUInt8)
theorem strings_IndexByte.calls (a0 : ByteArray) (a1 : Int) (r : Int) (w : World) (h : strings_IndexByte.f a0 a1 = some r) :
    Calls Tryd.prog 67 #[.string a0, .int .u8 a1] w fun e w' => e = .returned (.int .i64 r) ∧ Drawn0 w w' := by
  obtain rfl := Option.some.inj h
  refine (Tryd.strings_IndexByte a0 a1 w).mono ?_
  rintro e w' ⟨rfl, rfl⟩
  exact ⟨rfl, Drawn0.refl _⟩
def strings_Contains.f (a0 a1 : ByteArray) : Option Bool := if a0.size < 4294967281 then some (Lib.contains a0.data.toList a1.data.toList) else none
theorem strings_Contains.calls (a0 a1 : ByteArray) (r : Bool) (w : World) (ht : Tab w) (h : strings_Contains.f a0 a1 = some r) :
    Calls Tryd.prog 78 #[.string a0, .string a1] w fun e w' => e = .returned (.bool r) ∧ Drawn0 w w' := by
  unfold strings_Contains.f at h
  split at h
  · rename_i hs
    obtain rfl := Option.some.inj h
    obtain ⟨m, ht⟩ := ht
    refine (Tryd.strings_Contains a0 a1 m w hs ht).mono ?_
    rintro e w' ⟨rfl, rfl⟩
    exact ⟨rfl, Drawn0.refl _⟩
  · cases h
end Go.Proofs.YtgjbhdfncappdaaDoor.Foreign
