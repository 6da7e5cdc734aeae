/- What the library's IndexAny tells of the two ends of a line, for texts of small bytes, as a function that the printed walks may call. Condition: a text of bytes below 128 that has room. -/
import Derived.Test.YtikeagkcekkioaaDoorProg
import Derived.Test.YtikeagkcekkioaaDoorShelf
import Derived.Test.YtikeagkcekkioaaDoorWMore
import Derived.Below
namespace Go.Proofs.YtikeagkcekkioaaDoor.Foreign
open Go.RowKit Go.Proofs.YtikeagkcekkioaaDoorW.PrintWords Go.Proofs.YtikeagkcekkioaaDoorW.PrintLast Go.Proofs.YtikeagkcekkioaaDoorW.PrintMore
def anyL : List Int → Int
  | [] => -1
  | x :: l => if x = 13 ∨ x = 10 then 0 else if anyL l = -1 then -1 else anyL l + 1
def crlf : ByteArray := ⟨#[13, 10]⟩
theorem indexAny_L : ∀ l : List UInt8, Lib.indexAny l crlf.data.toList = anyL (l.map fun b => (b.toNat : Int))
  | [] => rfl
  | b :: l => by
    have ih := indexAny_L l
    rw [List.map_cons, anyL, Lib.indexAny, ih]
    have e : crlf.data.toList.contains b = decide ((b.toNat : Int) = 13 ∨ (b.toNat : Int) = 10) := by
      show ([13, 10] : List UInt8).contains b = _
      by_cases h1 : b = 13
      · subst h1; rfl
      · by_cases h2 : b = 10
        · subst h2; rfl
        · have n1 : b.toNat ≠ 13 := fun h => h1 (UInt8.toNat_inj.1 h)
          have n2 : b.toNat ≠ 10 := fun h => h2 (UInt8.toNat_inj.1 h)
          rw [decide_eq_false (by omega)]
          simp [h1, h2]
    rw [e]
    by_cases c : (b.toNat : Int) = 13 ∨ (b.toNat : Int) = 10
    · rw [if_pos c, decide_eq_true c]; rfl
    · rw [if_neg c, decide_eq_false c]
      simp only [beq_iff_eq]
      rfl
def strings_IndexAny.f (s c : ByteArray) : Option Int := if c = crlf ∧ s.size ≤ 4000000000 ∧ (∀ x ∈ bytesOf s, x < 128) then some (anyL (bytesOf s)) else none
theorem strings_IndexAny.calls (s c : ByteArray) (r : Int) (w : World) (h : strings_IndexAny.f s c = some r) : Calls Tryd.prog 48 #[.string s, .string c] w fun e w' => e = .returned (.int .i64 r) ∧ Below w.heap.size w w' := by
  unfold strings_IndexAny.f at h
  split at h
  · rename_i hc
    obtain rfl := Option.some.inj h
    obtain ⟨rfl, hz, hb⟩ := hc
    have := Tryd.strings_IndexAny_laid s crlf w (by omega) (by decide) (by
      intro j b hj
      have hm : ((b.toNat : Nat) : Int) ∈ bytesOf s := by
        simp only [bytesOf, List.mem_map]
        exact ⟨b, List.mem_of_getElem? hj, rfl⟩
      have := hb _ hm
      omega) (by
      intro j b hj
      have hm := List.mem_of_getElem? hj
      have hm : b ∈ ([13, 10] : List UInt8) := hm
      simp only [List.mem_cons, List.not_mem_nil, or_false] at hm
      rcases hm with rfl | rfl <;> decide)
    rw [indexAny_L] at this
    exact this
  · cases h
end Go.Proofs.YtikeagkcekkioaaDoor.Foreign
