/- A block of bytes of a call's own, and the text it holds. No condition. -/
import Derived.Test.YtikeagkcekkioaaDoorProg
import Derived.Test.YtikeagkcekkioaaDoorWMore
import Derived.Below
import Derived.Deep.Draws
import Derived.Deep.LoopGhost
import Derived.WalkKit
import Derived.KernelRfl
import Derived.Lib.ConvBytes
import Derived.Laws.IdiomStrings
import Derived.Lib.AtoiErrMem
namespace Go.Proofs.YtikeagkcekkioaaDoor.Foreign
set_option linter.unusedVariables false
set_option linter.unusedSimpArgs false
open Go.RowKit Go.Proofs.YtikeagkcekkioaaDoorW.PrintWords Go.Proofs.YtikeagkcekkioaaDoorW.PrintLast Go.Proofs.YtikeagkcekkioaaDoorW.PrintMore
/-- behind '[]byte(s)': a block of so many bytes of the call's own -/
structure BytesAt (w w1 : World) (l : List Int) : Prop where
  below : Below w.heap.size w w1
  cell : ∀ j, j < l.length → w1.cell? ⟨w.heap.size, j, none⟩ = some (.int .u8 (l.getD j 0))
  free : ∀ j, j < l.length → w1.frozen? ⟨w.heap.size, j, none⟩ = false
theorem addr_ne {b i j : Nat} (h : i ≠ j) : (⟨b, i, none⟩ : Addr) ≠ ⟨b, j, none⟩ := by intro e; injection e with _ e2 _; exact h e2
theorem BytesAt.set {w w1 : World} {l : List Int} (h : BytesAt w w1 l) (i : Nat) (hi : i < l.length) (v : Int) : BytesAt w (w1.setCell ⟨w.heap.size, i, none⟩ (.int .u8 v)) (l.set i v) where
  below := h.below.setCell (by simp) _
  cell := by
    intro j hj
    rw [List.length_set] at hj
    by_cases e : j = i
    · subst e
      rw [World.cell?_setCell_same _ _ _ (h.cell j hj)]
      congr 2
      simp [List.getD, List.getElem?_set, hi]
    · rw [World.cell?_setCell_other _ _ _ _ (addr_ne (fun x => e x.symm)), h.cell j hj]
      congr 2
      simp [List.getD, List.getElem?_set, Ne.symm e]
  free := by
    intro j hj
    rw [List.length_set] at hj
    rw [World.frozen?_setCell]; exact h.free j hj
theorem bytesOf_getD (s : ByteArray) (j : Nat) : (bytesOf s).getD j 0 = ((s.data.toList.getD j 0).toNat : Int) := by
  simp only [bytesOf, List.getD, List.getElem?_map]
  cases s.data.toList[j]? <;> simp
theorem BytesAt.start (w : World) (e : TypeId) (s : ByteArray) : BytesAt w (Lib.bytesWorld w e s) (bytesOf s) where
  below := Lib.bytesWorld_below w e s
  cell := by
    intro j hj
    rw [bytesOf_length] at hj
    rw [Lib.bytesWorld_cell w e s j hj, bytesOf_getD]
  free := by
    intro j hj
    rw [bytesOf_length] at hj
    have hz : s.size ≤ (Lib.bytesCells w e s).size := by
      have : s.size = s.data.size := rfl
      simp [Lib.bytesCells]
    simp [World.frozen?, Lib.bytesWorld_at_new]
    try omega
theorem conv_back {w w1 : World} {l : List Int} (h : BytesAt w w1 l) (hb : ∀ x ∈ l, 0 ≤ x ∧ x < 256) (cap : Nat) :
    (convert 22 9 (.slice (some ⟨w.heap.size, 0, none⟩) l.length cap)).run Tryd.prog w1 = .ok (.string (strOfNums l)) w1 := by
  have hl : (l.map fun x => UInt8.ofNat x.toNat).length = l.length := by simp
  have := run_convert_bytes_back (P := Tryd.prog) w1 22 9 5 ⟨w.heap.size, 0, none⟩ cap (l.map fun x => UInt8.ofNat x.toNat) Tryd.underlying22 Tryd.underlying5 Tryd.underlying9 (by
    intro j hj
    rw [hl] at hj
    have hc := h.cell j hj
    have e : (Addr.add ⟨w.heap.size, 0, none⟩ j : Addr) = ⟨w.heap.size, j, none⟩ := by simp [Addr.add]; try (intro e; exact e.symm)
    rw [e, hc]
    have hx := hb (l[j]) (List.getElem_mem hj)
    congr 2
    simp [List.getD, List.getElem?_eq_getElem hj, UInt8.toNat_ofNat']
    omega)
  rw [hl] at this
  rw [this]; rfl
theorem bytesOf_bd (s : ByteArray) : ∀ x ∈ bytesOf s, 0 ≤ x ∧ x < 256 := by
  intro x hx
  simp only [bytesOf, List.mem_map] at hx
  obtain ⟨b, _, rfl⟩ := hx
  have := b.toNat_lt
  omega
end Go.Proofs.YtikeagkcekkioaaDoor.Foreign
