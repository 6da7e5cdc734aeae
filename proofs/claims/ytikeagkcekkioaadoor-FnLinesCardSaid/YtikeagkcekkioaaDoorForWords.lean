/- The law's question whether the small codecs are alive ('words') tells true, as a function that the printed walks may call; it wants the library's table of powers of ten and its two errors. No other condition. -/
import Derived.Test.YtikeagkcekkioaaDoorQwordsx2
import Derived.Test.YtikeagkcekkioaaDoorBase
namespace Go.Proofs.YtikeagkcekkioaaDoor.Foreign
set_option linter.unusedVariables false
set_option linter.unusedSimpArgs false
open Go.RowKit Go.Proofs.YtikeagkcekkioaaDoorW.PrintWords Go.Proofs.YtikeagkcekkioaaDoorW.PrintLast Go.Proofs.YtikeagkcekkioaaDoorW.PrintMore
theorem dec120 : Lib.decDigits 120 = [49, 50, 48] := by
  rw [Lib.decDigits, dif_neg (by decide), show 120 / 10 = 12 from rfl, Lib.decDigits, dif_neg (by decide), show 12 / 10 = 1 from rfl, Lib.decDigits, dif_pos (by decide)]
  rfl
theorem rd120 : impl_ReadDec.f (⟨#[49, 50, 48]⟩ : ByteArray) = some (120, true) := by
  unfold impl_ReadDec.f
  rw [if_pos (by decide)]
  have h : Lib.atoiAll (⟨#[49, 50, 48]⟩ : ByteArray).data.toList = .ok 120 := by kernel_rfl
  unfold readDec
  rw [h]
  show some (if (0 ≤ (120 : Int) ∧ (120 : Int) ≤ 999999999999999) ∧ decS (120 : Int).toNat = (⟨#[49, 50, 48]⟩ : ByteArray) then ((120 : Int), true) else (0, false)) = _
  rw [if_pos ⟨⟨by decide, by decide⟩, by unfold decS; rw [show (120 : Int).toNat = 120 from rfl, dec120]⟩]
theorem words_quote : Pwords.impl_Quote.f 9 (⟨#[97, 34, 98]⟩ : ByteArray) = some (⟨#[34, 97, 92, 34, 98, 34]⟩, true) := by kernel_rfl
theorem words_base : Pwords.impl_Base32.f 9 (⟨#[102]⟩ : ByteArray) = some (⟨#[77, 89]⟩ : ByteArray) := by kernel_rfl
theorem words_same : Pwords.impl_SameFold.f (⟨#[97, 66]⟩ : ByteArray) (⟨#[65, 98]⟩ : ByteArray) = some true := by kernel_rfl
theorem words_not : Pwords.impl_SameFold.f (⟨#[97]⟩ : ByteArray) (⟨#[98]⟩ : ByteArray) = some false := by kernel_rfl
theorem words_trim : Pwords.impl_Trim.f 9 (⟨#[32, 120, 9]⟩ : ByteArray) = some (⟨#[120]⟩ : ByteArray) := by kernel_rfl
theorem words_tok : impl_Token.f (⟨#[120, 45, 49]⟩ : ByteArray) = some true := by unfold impl_Token.f; exact if_pos rfl
theorem words_tok' : impl_Token.f (⟨#[120, 32, 121]⟩ : ByteArray) = some false := by unfold impl_Token.f; rw [if_neg (by decide)]; exact if_pos rfl
theorem words_true : Pwords.laws_words.f 9 = some true := by
  unfold Pwords.laws_words.f
  rw [words_quote, rd120, words_base, words_same, words_not, words_trim, words_tok, words_tok']
  kernel_rfl
def laws_words.f : Option Bool := some true
theorem laws_words.calls (r : Bool) (w : World) (ht : Tab w) (h : laws_words.f = some r) : Calls Tryd.prog 13 #[] w fun e w' => e = .returned (.bool r) ∧ Below w.heap.size w w' :=
  Pwords.laws_words.calls 9 r w ht (words_true.trans h)
end Go.Proofs.YtikeagkcekkioaaDoor.Foreign
