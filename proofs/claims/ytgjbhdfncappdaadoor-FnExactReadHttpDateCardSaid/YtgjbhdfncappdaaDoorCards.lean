/-
  DERIVED. GIVEN WITH THE SEED: THE CARDS: each row of YtgjbhdfncappdaaDoorRows.lean that lists a variable, with what it lists TIED to the program's text (the seventh form; the later family's looks); each row that meets fmt, with fmt's text TOLD by the authors' own Lean function (tested against real Go, not proved from fmt's source: count such statements apart). THE CARD IS WHAT COUNTS. Prove the row's statement (the work); the ties are given (YtgjbhdfncappdaaDoorTie.lean); close each card by the builder's one call (the guide's Derived/Test/ToyasCard.lean, 'card_holds'). Laid BY PROGRAM, IN A SANDBOX (cutbox-door.mjs). By AI agents, Wed Nov 11 2026. No macro, syntax, notation, axiom, sorry.
-/
import Derived.Test.YtgjbhdfncappdaaDoorRows
import GoSem.ClaimSeven
namespace Go.Proofs.YtgjbhdfncappdaaDoor
namespace Rows

/-- THE TIED CARD OF 'laws.FnExactStamp'. -/
def fnExactStampCard : Claim7 := { stood := { row := fnExactStampRow, standIns := [], harness := (true, "2028f3346af1468e5d493f263f8c060832a66fea0b3fb7cd30543c930e7fa7e5"), looks := true }, kinds := [], alts := [], laidByText := true, laidKinds := [.data, .data, .data], laidTests := true, laidLooks := .later }
def FnExactStampCardSaid : Prop := Claim7.holds Tryd.pinned (.plain (OpenSpec.ofChange fnExactStampSpec)) fnExactStampCard

/-- THE TIED CARD OF 'laws.FnExactWarcDate'. -/
def fnExactWarcDateCard : Claim7 := { stood := { row := fnExactWarcDateRow, standIns := [], harness := (true, "2028f3346af1468e5d493f263f8c060832a66fea0b3fb7cd30543c930e7fa7e5"), looks := true }, kinds := [], alts := [], laidByText := true, laidKinds := [.data, .data, .data], laidTests := true, laidLooks := .later }
def FnExactWarcDateCardSaid : Prop := Claim7.holds Tryd.pinned (.plain (OpenSpec.ofChange fnExactWarcDateSpec)) fnExactWarcDateCard

/-- THE TIED CARD OF 'laws.FnStamps'. -/
def fnStampsCard : Claim7 := { stood := { row := fnStampsRow, standIns := [], harness := (true, "2028f3346af1468e5d493f263f8c060832a66fea0b3fb7cd30543c930e7fa7e5"), looks := true }, kinds := [], alts := [], laidByText := true, laidKinds := [.data, .data, .data], laidTests := true, laidLooks := .later }
def FnStampsCardSaid : Prop := Claim7.holds Tryd.pinned (.plain (OpenSpec.ofChange fnStampsSpec)) fnStampsCard

/-- THE TIED CARD OF 'laws.FnCivils'. -/
def fnCivilsCard : Claim7 := { stood := { row := fnCivilsRow, standIns := [], harness := (true, "2028f3346af1468e5d493f263f8c060832a66fea0b3fb7cd30543c930e7fa7e5"), looks := true }, kinds := [], alts := [], laidByText := true, laidKinds := [.data, .data, .data], laidTests := true, laidLooks := .later }
def FnCivilsCardSaid : Prop := Claim7.holds Tryd.pinned (.plain (OpenSpec.ofChange fnCivilsSpec)) fnCivilsCard

/-- THE TIED CARD OF 'laws.FnExactHttpDate'. -/
def fnExactHttpDateCard : Claim7 := { stood := { row := fnExactHttpDateRow, standIns := [], harness := (true, "2028f3346af1468e5d493f263f8c060832a66fea0b3fb7cd30543c930e7fa7e5"), looks := true }, kinds := [], alts := [], laidByText := true, laidKinds := [.data, .data, .data], laidTests := true, laidLooks := .later }
def FnExactHttpDateCardSaid : Prop := Claim7.holds Tryd.pinned (.plain (OpenSpec.ofChange fnExactHttpDateSpec)) fnExactHttpDateCard

/-- THE TIED CARD OF 'laws.FnExactLongDate'. -/
def fnExactLongDateCard : Claim7 := { stood := { row := fnExactLongDateRow, standIns := [], harness := (true, "2028f3346af1468e5d493f263f8c060832a66fea0b3fb7cd30543c930e7fa7e5"), looks := true }, kinds := [], alts := [], laidByText := true, laidKinds := [.data, .data, .data], laidTests := true, laidLooks := .later }
def FnExactLongDateCardSaid : Prop := Claim7.holds Tryd.pinned (.plain (OpenSpec.ofChange fnExactLongDateSpec)) fnExactLongDateCard

/-- THE TIED CARD OF 'laws.FnExactLineDate'. -/
def fnExactLineDateCard : Claim7 := { stood := { row := fnExactLineDateRow, standIns := [], harness := (true, "2028f3346af1468e5d493f263f8c060832a66fea0b3fb7cd30543c930e7fa7e5"), looks := true }, kinds := [], alts := [], laidByText := true, laidKinds := [.data, .data, .data], laidTests := true, laidLooks := .later }
def FnExactLineDateCardSaid : Prop := Claim7.holds Tryd.pinned (.plain (OpenSpec.ofChange fnExactLineDateSpec)) fnExactLineDateCard

/-- THE TIED CARD OF 'laws.FnExactReadStamp'. -/
def fnExactReadStampCard : Claim7 := { stood := { row := fnExactReadStampRow, standIns := [], harness := (true, "2028f3346af1468e5d493f263f8c060832a66fea0b3fb7cd30543c930e7fa7e5"), looks := true }, kinds := [], alts := [], laidByText := true, laidKinds := [.data, .data, .data, .sentinel, .sentinel], laidTests := true, laidLooks := .later }
def FnExactReadStampCardSaid : Prop := Claim7.holds Tryd.pinned (.plain (OpenSpec.ofChange fnExactReadStampSpec)) fnExactReadStampCard

/-- THE TIED CARD OF 'laws.FnExactReadHttpDate'. -/
def fnExactReadHttpDateCard : Claim7 := { stood := { row := fnExactReadHttpDateRow, standIns := [], harness := (true, "2028f3346af1468e5d493f263f8c060832a66fea0b3fb7cd30543c930e7fa7e5"), looks := true }, kinds := [], alts := [], laidByText := true, laidKinds := [.data, .data, .data], laidTests := true, laidLooks := .later }
def FnExactReadHttpDateCardSaid : Prop := Claim7.holds Tryd.pinned (.plain (OpenSpec.ofChange fnExactReadHttpDateSpec)) fnExactReadHttpDateCard

/-- THE TIED CARD OF 'laws.FnExactReadWarcDate'. -/
def fnExactReadWarcDateCard : Claim7 := { stood := { row := fnExactReadWarcDateRow, standIns := [], harness := (true, "2028f3346af1468e5d493f263f8c060832a66fea0b3fb7cd30543c930e7fa7e5"), looks := true }, kinds := [], alts := [], laidByText := true, laidKinds := [.data, .data, .data, .sentinel, .sentinel], laidTests := true, laidLooks := .later }
def FnExactReadWarcDateCardSaid : Prop := Claim7.holds Tryd.pinned (.plain (OpenSpec.ofChange fnExactReadWarcDateSpec)) fnExactReadWarcDateCard

/-- THE TIED CARD OF 'laws.FnDates'. -/
def fnDatesCard : Claim7 := { stood := { row := fnDatesRow, standIns := [], harness := (true, "2028f3346af1468e5d493f263f8c060832a66fea0b3fb7cd30543c930e7fa7e5"), looks := true }, kinds := [], alts := [], laidByText := true, laidKinds := [.data, .data, .data, .sentinel, .sentinel], laidTests := true, laidLooks := .later }
def FnDatesCardSaid : Prop := Claim7.holds Tryd.pinned (.plain (OpenSpec.ofChange fnDatesSpec)) fnDatesCard

/-- THE SECOND FORM's CARD OF 'laws.FnExactStamp'. -/
def fnExactStampUptoCard : Claim7 := { stood := { row := fnExactStampUptoRow, standIns := [], harness := (true, "2028f3346af1468e5d493f263f8c060832a66fea0b3fb7cd30543c930e7fa7e5"), looks := true }, kinds := [], alts := [], laidByText := true, laidKinds := [.data, .data, .data], laidTests := true, laidLooks := .later }
def FnExactStampUptoCardSaid : Prop := Claim7.holds Tryd.pinned (.plain (OpenSpec.upto fnExactStampSpec)) fnExactStampUptoCard

/-- THE SECOND FORM's CARD OF 'laws.FnExactWarcDate'. -/
def fnExactWarcDateUptoCard : Claim7 := { stood := { row := fnExactWarcDateUptoRow, standIns := [], harness := (true, "2028f3346af1468e5d493f263f8c060832a66fea0b3fb7cd30543c930e7fa7e5"), looks := true }, kinds := [], alts := [], laidByText := true, laidKinds := [.data, .data, .data], laidTests := true, laidLooks := .later }
def FnExactWarcDateUptoCardSaid : Prop := Claim7.holds Tryd.pinned (.plain (OpenSpec.upto fnExactWarcDateSpec)) fnExactWarcDateUptoCard

/-- THE SECOND FORM's CARD OF 'laws.FnStamps'. -/
def fnStampsUptoCard : Claim7 := { stood := { row := fnStampsUptoRow, standIns := [], harness := (true, "2028f3346af1468e5d493f263f8c060832a66fea0b3fb7cd30543c930e7fa7e5"), looks := true }, kinds := [], alts := [], laidByText := true, laidKinds := [.data, .data, .data], laidTests := true, laidLooks := .later }
def FnStampsUptoCardSaid : Prop := Claim7.holds Tryd.pinned (.plain (OpenSpec.upto fnStampsSpec)) fnStampsUptoCard

/-- THE SECOND FORM's CARD OF 'laws.FnCivils'. -/
def fnCivilsUptoCard : Claim7 := { stood := { row := fnCivilsUptoRow, standIns := [], harness := (true, "2028f3346af1468e5d493f263f8c060832a66fea0b3fb7cd30543c930e7fa7e5"), looks := true }, kinds := [], alts := [], laidByText := true, laidKinds := [.data, .data, .data], laidTests := true, laidLooks := .later }
def FnCivilsUptoCardSaid : Prop := Claim7.holds Tryd.pinned (.plain (OpenSpec.upto fnCivilsSpec)) fnCivilsUptoCard

/-- THE SECOND FORM's CARD OF 'laws.FnExactHttpDate'. -/
def fnExactHttpDateUptoCard : Claim7 := { stood := { row := fnExactHttpDateUptoRow, standIns := [], harness := (true, "2028f3346af1468e5d493f263f8c060832a66fea0b3fb7cd30543c930e7fa7e5"), looks := true }, kinds := [], alts := [], laidByText := true, laidKinds := [.data, .data, .data], laidTests := true, laidLooks := .later }
def FnExactHttpDateUptoCardSaid : Prop := Claim7.holds Tryd.pinned (.plain (OpenSpec.upto fnExactHttpDateSpec)) fnExactHttpDateUptoCard

/-- THE SECOND FORM's CARD OF 'laws.FnExactLongDate'. -/
def fnExactLongDateUptoCard : Claim7 := { stood := { row := fnExactLongDateUptoRow, standIns := [], harness := (true, "2028f3346af1468e5d493f263f8c060832a66fea0b3fb7cd30543c930e7fa7e5"), looks := true }, kinds := [], alts := [], laidByText := true, laidKinds := [.data, .data, .data], laidTests := true, laidLooks := .later }
def FnExactLongDateUptoCardSaid : Prop := Claim7.holds Tryd.pinned (.plain (OpenSpec.upto fnExactLongDateSpec)) fnExactLongDateUptoCard

/-- THE SECOND FORM's CARD OF 'laws.FnExactLineDate'. -/
def fnExactLineDateUptoCard : Claim7 := { stood := { row := fnExactLineDateUptoRow, standIns := [], harness := (true, "2028f3346af1468e5d493f263f8c060832a66fea0b3fb7cd30543c930e7fa7e5"), looks := true }, kinds := [], alts := [], laidByText := true, laidKinds := [.data, .data, .data], laidTests := true, laidLooks := .later }
def FnExactLineDateUptoCardSaid : Prop := Claim7.holds Tryd.pinned (.plain (OpenSpec.upto fnExactLineDateSpec)) fnExactLineDateUptoCard

/-- THE SECOND FORM's CARD OF 'laws.FnExactReadStamp'. -/
def fnExactReadStampUptoCard : Claim7 := { stood := { row := fnExactReadStampUptoRow, standIns := [], harness := (true, "2028f3346af1468e5d493f263f8c060832a66fea0b3fb7cd30543c930e7fa7e5"), looks := true }, kinds := [], alts := [], laidByText := true, laidKinds := [.data, .data, .data, .sentinel, .sentinel], laidTests := true, laidLooks := .later }
def FnExactReadStampUptoCardSaid : Prop := Claim7.holds Tryd.pinned (.plain (OpenSpec.upto fnExactReadStampSpec)) fnExactReadStampUptoCard

/-- THE SECOND FORM's CARD OF 'laws.FnExactReadHttpDate'. -/
def fnExactReadHttpDateUptoCard : Claim7 := { stood := { row := fnExactReadHttpDateUptoRow, standIns := [], harness := (true, "2028f3346af1468e5d493f263f8c060832a66fea0b3fb7cd30543c930e7fa7e5"), looks := true }, kinds := [], alts := [], laidByText := true, laidKinds := [.data, .data, .data], laidTests := true, laidLooks := .later }
def FnExactReadHttpDateUptoCardSaid : Prop := Claim7.holds Tryd.pinned (.plain (OpenSpec.upto fnExactReadHttpDateSpec)) fnExactReadHttpDateUptoCard

/-- THE SECOND FORM's CARD OF 'laws.FnExactReadWarcDate'. -/
def fnExactReadWarcDateUptoCard : Claim7 := { stood := { row := fnExactReadWarcDateUptoRow, standIns := [], harness := (true, "2028f3346af1468e5d493f263f8c060832a66fea0b3fb7cd30543c930e7fa7e5"), looks := true }, kinds := [], alts := [], laidByText := true, laidKinds := [.data, .data, .data, .sentinel, .sentinel], laidTests := true, laidLooks := .later }
def FnExactReadWarcDateUptoCardSaid : Prop := Claim7.holds Tryd.pinned (.plain (OpenSpec.upto fnExactReadWarcDateSpec)) fnExactReadWarcDateUptoCard

/-- THE SECOND FORM's CARD OF 'laws.FnDates'. -/
def fnDatesUptoCard : Claim7 := { stood := { row := fnDatesUptoRow, standIns := [], harness := (true, "2028f3346af1468e5d493f263f8c060832a66fea0b3fb7cd30543c930e7fa7e5"), looks := true }, kinds := [], alts := [], laidByText := true, laidKinds := [.data, .data, .data, .sentinel, .sentinel], laidTests := true, laidLooks := .later }
def FnDatesUptoCardSaid : Prop := Claim7.holds Tryd.pinned (.plain (OpenSpec.upto fnDatesSpec)) fnDatesUptoCard
end Rows
end Go.Proofs.YtgjbhdfncappdaaDoor
