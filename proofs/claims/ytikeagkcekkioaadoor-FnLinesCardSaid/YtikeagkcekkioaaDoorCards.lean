/-
  DERIVED. GIVEN WITH THE SEED: THE CARDS: each row of YtikeagkcekkioaaDoorRows.lean that lists a variable, with what it lists TIED to the program's text (the seventh form; the later family's looks); each row that meets fmt, with fmt's text TOLD by the authors' own Lean function (tested against real Go, not proved from fmt's source: count such statements apart). THE CARD IS WHAT COUNTS. Prove the row's statement (the work); the ties are given (YtikeagkcekkioaaDoorTie.lean); close each card by the builder's one call (the guide's Derived/Test/ToyasCard.lean, 'card_holds'). Laid BY PROGRAM, IN A SANDBOX (cutbox-door.mjs). By AI agents, Wed Nov 11 2026. No macro, syntax, notation, axiom, sorry.
-/
import Derived.Test.YtikeagkcekkioaaDoorRows
import GoSem.ClaimSeven
namespace Go.Proofs.YtikeagkcekkioaaDoor
namespace Rows

/-- THE TIED CARD OF 'laws.FnQuotes'. -/
def fnQuotesCard : Claim7 := { stood := { row := fnQuotesRow, standIns := [], harness := (true, "3fae40702293fd1e0167e98bdd2e46d2c06e2ffe4ec197cc7d612dae0ae28ea1"), looks := true }, kinds := [], alts := [], laidByText := true, laidKinds := [.data, .data, .data, .sentinel, .sentinel], laidTests := true, laidLooks := .later }
def FnQuotesCardSaid : Prop := Claim7.holds Tryd.pinned (.plain (OpenSpec.ofChange fnQuotesSpec)) fnQuotesCard

/-- THE TIED CARD OF 'laws.FnLines'. -/
def fnLinesCard : Claim7 := { stood := { row := fnLinesRow, standIns := [], harness := (true, "3fae40702293fd1e0167e98bdd2e46d2c06e2ffe4ec197cc7d612dae0ae28ea1"), looks := true }, kinds := [], alts := [], laidByText := true, laidKinds := [.data, .data, .data, .sentinel, .sentinel], laidTests := true, laidLooks := .later }
def FnLinesCardSaid : Prop := Claim7.holds Tryd.pinned (.plain (OpenSpec.ofChange fnLinesSpec)) fnLinesCard

/-- THE TIED CARD OF 'laws.FnElements'. -/
def fnElementsCard : Claim7 := { stood := { row := fnElementsRow, standIns := [], harness := (true, "3fae40702293fd1e0167e98bdd2e46d2c06e2ffe4ec197cc7d612dae0ae28ea1"), looks := true }, kinds := [], alts := [], laidByText := true, laidKinds := [.data, .data, .data, .sentinel, .sentinel], laidTests := true, laidLooks := .later }
def FnElementsCardSaid : Prop := Claim7.holds Tryd.pinned (.plain (OpenSpec.ofChange fnElementsSpec)) fnElementsCard

/-- THE TIED CARD OF 'laws.FnDecs'. -/
def fnDecsCard : Claim7 := { stood := { row := fnDecsRow, standIns := [], harness := (true, "3fae40702293fd1e0167e98bdd2e46d2c06e2ffe4ec197cc7d612dae0ae28ea1"), looks := true }, kinds := [], alts := [], laidByText := true, laidKinds := [.data, .data, .data, .sentinel, .sentinel], laidTests := true, laidLooks := .later }
def FnDecsCardSaid : Prop := Claim7.holds Tryd.pinned (.plain (OpenSpec.ofChange fnDecsSpec)) fnDecsCard

/-- THE TIED CARD OF 'laws.FnHexes'. -/
def fnHexesCard : Claim7 := { stood := { row := fnHexesRow, standIns := [], harness := (true, "3fae40702293fd1e0167e98bdd2e46d2c06e2ffe4ec197cc7d612dae0ae28ea1"), looks := true }, kinds := [], alts := [], laidByText := true, laidKinds := [.data, .data, .data, .sentinel, .sentinel], laidTests := true, laidLooks := .later }
def FnHexesCardSaid : Prop := Claim7.holds Tryd.pinned (.plain (OpenSpec.ofChange fnHexesSpec)) fnHexesCard

/-- THE TIED CARD OF 'laws.FnFolds'. -/
def fnFoldsCard : Claim7 := { stood := { row := fnFoldsRow, standIns := [], harness := (true, "3fae40702293fd1e0167e98bdd2e46d2c06e2ffe4ec197cc7d612dae0ae28ea1"), looks := true }, kinds := [], alts := [], laidByText := true, laidKinds := [.data, .data, .data, .sentinel, .sentinel], laidTests := true, laidLooks := .later }
def FnFoldsCardSaid : Prop := Claim7.holds Tryd.pinned (.plain (OpenSpec.ofChange fnFoldsSpec)) fnFoldsCard

/-- THE TIED CARD OF 'laws.FnBase32s'. -/
def fnBase32sCard : Claim7 := { stood := { row := fnBase32sRow, standIns := [], harness := (true, "3fae40702293fd1e0167e98bdd2e46d2c06e2ffe4ec197cc7d612dae0ae28ea1"), looks := true }, kinds := [], alts := [], laidByText := true, laidKinds := [.data, .data, .data, .sentinel, .sentinel], laidTests := true, laidLooks := .later }
def FnBase32sCardSaid : Prop := Claim7.holds Tryd.pinned (.plain (OpenSpec.ofChange fnBase32sSpec)) fnBase32sCard

/-- THE SECOND FORM's CARD OF 'laws.FnQuotes'. -/
def fnQuotesUptoCard : Claim7 := { stood := { row := fnQuotesUptoRow, standIns := [], harness := (true, "3fae40702293fd1e0167e98bdd2e46d2c06e2ffe4ec197cc7d612dae0ae28ea1"), looks := true }, kinds := [], alts := [], laidByText := true, laidKinds := [.data, .data, .data, .sentinel, .sentinel], laidTests := true, laidLooks := .later }
def FnQuotesUptoCardSaid : Prop := Claim7.holds Tryd.pinned (.plain (OpenSpec.upto fnQuotesSpec)) fnQuotesUptoCard

/-- THE SECOND FORM's CARD OF 'laws.FnLines'. -/
def fnLinesUptoCard : Claim7 := { stood := { row := fnLinesUptoRow, standIns := [], harness := (true, "3fae40702293fd1e0167e98bdd2e46d2c06e2ffe4ec197cc7d612dae0ae28ea1"), looks := true }, kinds := [], alts := [], laidByText := true, laidKinds := [.data, .data, .data, .sentinel, .sentinel], laidTests := true, laidLooks := .later }
def FnLinesUptoCardSaid : Prop := Claim7.holds Tryd.pinned (.plain (OpenSpec.upto fnLinesSpec)) fnLinesUptoCard

/-- THE SECOND FORM's CARD OF 'laws.FnElements'. -/
def fnElementsUptoCard : Claim7 := { stood := { row := fnElementsUptoRow, standIns := [], harness := (true, "3fae40702293fd1e0167e98bdd2e46d2c06e2ffe4ec197cc7d612dae0ae28ea1"), looks := true }, kinds := [], alts := [], laidByText := true, laidKinds := [.data, .data, .data, .sentinel, .sentinel], laidTests := true, laidLooks := .later }
def FnElementsUptoCardSaid : Prop := Claim7.holds Tryd.pinned (.plain (OpenSpec.upto fnElementsSpec)) fnElementsUptoCard

/-- THE SECOND FORM's CARD OF 'laws.FnDecs'. -/
def fnDecsUptoCard : Claim7 := { stood := { row := fnDecsUptoRow, standIns := [], harness := (true, "3fae40702293fd1e0167e98bdd2e46d2c06e2ffe4ec197cc7d612dae0ae28ea1"), looks := true }, kinds := [], alts := [], laidByText := true, laidKinds := [.data, .data, .data, .sentinel, .sentinel], laidTests := true, laidLooks := .later }
def FnDecsUptoCardSaid : Prop := Claim7.holds Tryd.pinned (.plain (OpenSpec.upto fnDecsSpec)) fnDecsUptoCard

/-- THE SECOND FORM's CARD OF 'laws.FnHexes'. -/
def fnHexesUptoCard : Claim7 := { stood := { row := fnHexesUptoRow, standIns := [], harness := (true, "3fae40702293fd1e0167e98bdd2e46d2c06e2ffe4ec197cc7d612dae0ae28ea1"), looks := true }, kinds := [], alts := [], laidByText := true, laidKinds := [.data, .data, .data, .sentinel, .sentinel], laidTests := true, laidLooks := .later }
def FnHexesUptoCardSaid : Prop := Claim7.holds Tryd.pinned (.plain (OpenSpec.upto fnHexesSpec)) fnHexesUptoCard

/-- THE SECOND FORM's CARD OF 'laws.FnFolds'. -/
def fnFoldsUptoCard : Claim7 := { stood := { row := fnFoldsUptoRow, standIns := [], harness := (true, "3fae40702293fd1e0167e98bdd2e46d2c06e2ffe4ec197cc7d612dae0ae28ea1"), looks := true }, kinds := [], alts := [], laidByText := true, laidKinds := [.data, .data, .data, .sentinel, .sentinel], laidTests := true, laidLooks := .later }
def FnFoldsUptoCardSaid : Prop := Claim7.holds Tryd.pinned (.plain (OpenSpec.upto fnFoldsSpec)) fnFoldsUptoCard

/-- THE SECOND FORM's CARD OF 'laws.FnBase32s'. -/
def fnBase32sUptoCard : Claim7 := { stood := { row := fnBase32sUptoRow, standIns := [], harness := (true, "3fae40702293fd1e0167e98bdd2e46d2c06e2ffe4ec197cc7d612dae0ae28ea1"), looks := true }, kinds := [], alts := [], laidByText := true, laidKinds := [.data, .data, .data, .sentinel, .sentinel], laidTests := true, laidLooks := .later }
def FnBase32sUptoCardSaid : Prop := Claim7.holds Tryd.pinned (.plain (OpenSpec.upto fnBase32sSpec)) fnBase32sUptoCard
end Rows
end Go.Proofs.YtikeagkcekkioaaDoor
