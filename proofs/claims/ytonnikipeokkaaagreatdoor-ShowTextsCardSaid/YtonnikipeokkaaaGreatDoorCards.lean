/-
  DERIVED. GIVEN WITH THE SEED: THE CARDS: each row of YtonnikipeokkaaaGreatDoorRows.lean that lists a variable, with what it lists TIED to the program's text (the seventh form; the later family's looks); each row that meets fmt, with fmt's text TOLD by the authors' own Lean function (tested against real Go, not proved from fmt's source: count such statements apart). THE CARD IS WHAT COUNTS. Prove the row's statement (the work); the ties are given (YtonnikipeokkaaaGreatDoorTie.lean); close each card by the builder's one call (the guide's Derived/Test/ToyasCard.lean, 'card_holds'). Laid BY PROGRAM, IN A SANDBOX (cutbox-door.mjs). By AI agents, Wed Nov 11 2026. No macro, syntax, notation, axiom, sorry.
-/
import Derived.Test.YtonnikipeokkaaaGreatDoorRows
import GoSem.ClaimSeven
namespace Go.Proofs.YtonnikipeokkaaaGreatDoor
namespace Rows

/-- THE TIED CARD OF 'morainelaw04.LexNext'. -/
def lexNextCard : Claim7 := { stood := { row := lexNextRow, standIns := [], harness := (true, "4c8b37686fb9bbae2df84c37954b810e2e8826c73f3e0d8d2d17dc93a650e326"), looks := true }, kinds := [], alts := [], laidByText := true, laidKinds := [.data, .handle, .pinned], laidTests := true, laidLooks := .later }
def LexNextCardSaid : Prop := Claim7.holds Tryz.pinned (.plain (OpenSpec.ofChange lexNextSpec)) lexNextCard

/-- THE TIED CARD OF 'morainelaw04.LexAll'. -/
def lexAllCard : Claim7 := { stood := { row := lexAllRow, standIns := [], harness := (true, "4c8b37686fb9bbae2df84c37954b810e2e8826c73f3e0d8d2d17dc93a650e326"), looks := true }, kinds := [], alts := [], laidByText := true, laidKinds := [.data, .handle, .pinned], laidTests := true, laidLooks := .later }
def LexAllCardSaid : Prop := Claim7.holds Tryz.pinned (.plain (OpenSpec.ofChange lexAllSpec)) lexAllCard

/-- THE TIED CARD OF 'morainelaw05.ParseOne'. -/
def parseOneCard : Claim7 := { stood := { row := parseOneRow, standIns := [], harness := (true, "4c8b37686fb9bbae2df84c37954b810e2e8826c73f3e0d8d2d17dc93a650e326"), looks := true }, kinds := [], alts := [], laidByText := true, laidKinds := [.data, .handle, .pinned], laidTests := true, laidLooks := .later }
def ParseOneCardSaid : Prop := Claim7.holds Tryz.pinned (.plain (OpenSpec.ofChange parseOneSpec)) parseOneCard

/-- THE TIED CARD OF 'morainelaw05.ParseEither'. -/
def parseEitherCard : Claim7 := { stood := { row := parseEitherRow, standIns := [], harness := (true, "4c8b37686fb9bbae2df84c37954b810e2e8826c73f3e0d8d2d17dc93a650e326"), looks := true }, kinds := [], alts := [], laidByText := true, laidKinds := [.data, .handle, .pinned], laidTests := true, laidLooks := .later }
def ParseEitherCardSaid : Prop := Claim7.holds Tryz.pinned (.plain (OpenSpec.ofChange parseEitherSpec)) parseEitherCard

/-- THE TIED CARD OF 'morainelaw05.ParseAll'. -/
def parseAllCard : Claim7 := { stood := { row := parseAllRow, standIns := [], harness := (true, "4c8b37686fb9bbae2df84c37954b810e2e8826c73f3e0d8d2d17dc93a650e326"), looks := true }, kinds := [], alts := [], laidByText := true, laidKinds := [.data, .handle, .pinned], laidTests := true, laidLooks := .later }
def ParseAllCardSaid : Prop := Claim7.holds Tryz.pinned (.plain (OpenSpec.ofChange parseAllSpec)) parseAllCard

/-- THE TIED CARD OF 'morainelaw05.ParseParts'. -/
def parsePartsCard : Claim7 := { stood := { row := parsePartsRow, standIns := [], harness := (true, "4c8b37686fb9bbae2df84c37954b810e2e8826c73f3e0d8d2d17dc93a650e326"), looks := true }, kinds := [], alts := [], laidByText := true, laidKinds := [.data, .handle, .pinned], laidTests := true, laidLooks := .later }
def ParsePartsCardSaid : Prop := Claim7.holds Tryz.pinned (.plain (OpenSpec.ofChange parsePartsSpec)) parsePartsCard

/-- THE TIED CARD OF 'morainelaw05.ParseMarks'. -/
def parseMarksCard : Claim7 := { stood := { row := parseMarksRow, standIns := [], harness := (true, "4c8b37686fb9bbae2df84c37954b810e2e8826c73f3e0d8d2d17dc93a650e326"), looks := true }, kinds := [], alts := [], laidByText := true, laidKinds := [.data, .handle, .pinned], laidTests := true, laidLooks := .later }
def ParseMarksCardSaid : Prop := Claim7.holds Tryz.pinned (.plain (OpenSpec.ofChange parseMarksSpec)) parseMarksCard

/-- THE TIED CARD OF 'morainelaw06.ShowTexts'. -/
def showTextsCard : Claim7 := { stood := { row := showTextsRow, standIns := [], harness := (true, "4c8b37686fb9bbae2df84c37954b810e2e8826c73f3e0d8d2d17dc93a650e326"), looks := true }, kinds := [], alts := [], laidByText := true, laidKinds := [.data, .data, .data, .data, .handle, .pinned], laidTests := true, laidLooks := .later }
def ShowTextsCardSaid : Prop := Claim7.holds Tryz.pinned (.plain (OpenSpec.ofChange showTextsSpec)) showTextsCard

/-- THE TIED CARD OF 'morainelaw06.ShowUnlike'. -/
def showUnlikeCard : Claim7 := { stood := { row := showUnlikeRow, standIns := [], harness := (true, "4c8b37686fb9bbae2df84c37954b810e2e8826c73f3e0d8d2d17dc93a650e326"), looks := true }, kinds := [], alts := [], laidByText := true, laidKinds := [.data, .data, .data, .data, .handle, .pinned], laidTests := true, laidLooks := .later }
def ShowUnlikeCardSaid : Prop := Claim7.holds Tryz.pinned (.plain (OpenSpec.ofChange showUnlikeSpec)) showUnlikeCard

/-- THE TIED CARD OF 'morainelaw06.ShowParts'. -/
def showPartsCard : Claim7 := { stood := { row := showPartsRow, standIns := [], harness := (true, "4c8b37686fb9bbae2df84c37954b810e2e8826c73f3e0d8d2d17dc93a650e326"), looks := true }, kinds := [], alts := [], laidByText := true, laidKinds := [.data, .data, .data, .data, .handle, .pinned], laidTests := true, laidLooks := .later }
def ShowPartsCardSaid : Prop := Claim7.holds Tryz.pinned (.plain (OpenSpec.ofChange showPartsSpec)) showPartsCard

/-- THE SECOND FORM's CARD OF 'morainelaw04.LexNext'. -/
def lexNextUptoCard : Claim7 := { stood := { row := lexNextUptoRow, standIns := [], harness := (true, "4c8b37686fb9bbae2df84c37954b810e2e8826c73f3e0d8d2d17dc93a650e326"), looks := true }, kinds := [], alts := [], laidByText := true, laidKinds := [.data, .handle, .pinned], laidTests := true, laidLooks := .later }
def LexNextUptoCardSaid : Prop := Claim7.holds Tryz.pinned (.plain (OpenSpec.upto lexNextSpec)) lexNextUptoCard

/-- THE SECOND FORM's CARD OF 'morainelaw04.LexAll'. -/
def lexAllUptoCard : Claim7 := { stood := { row := lexAllUptoRow, standIns := [], harness := (true, "4c8b37686fb9bbae2df84c37954b810e2e8826c73f3e0d8d2d17dc93a650e326"), looks := true }, kinds := [], alts := [], laidByText := true, laidKinds := [.data, .handle, .pinned], laidTests := true, laidLooks := .later }
def LexAllUptoCardSaid : Prop := Claim7.holds Tryz.pinned (.plain (OpenSpec.upto lexAllSpec)) lexAllUptoCard

/-- THE SECOND FORM's CARD OF 'morainelaw05.ParseOne'. -/
def parseOneUptoCard : Claim7 := { stood := { row := parseOneUptoRow, standIns := [], harness := (true, "4c8b37686fb9bbae2df84c37954b810e2e8826c73f3e0d8d2d17dc93a650e326"), looks := true }, kinds := [], alts := [], laidByText := true, laidKinds := [.data, .handle, .pinned], laidTests := true, laidLooks := .later }
def ParseOneUptoCardSaid : Prop := Claim7.holds Tryz.pinned (.plain (OpenSpec.upto parseOneSpec)) parseOneUptoCard

/-- THE SECOND FORM's CARD OF 'morainelaw05.ParseEither'. -/
def parseEitherUptoCard : Claim7 := { stood := { row := parseEitherUptoRow, standIns := [], harness := (true, "4c8b37686fb9bbae2df84c37954b810e2e8826c73f3e0d8d2d17dc93a650e326"), looks := true }, kinds := [], alts := [], laidByText := true, laidKinds := [.data, .handle, .pinned], laidTests := true, laidLooks := .later }
def ParseEitherUptoCardSaid : Prop := Claim7.holds Tryz.pinned (.plain (OpenSpec.upto parseEitherSpec)) parseEitherUptoCard

/-- THE SECOND FORM's CARD OF 'morainelaw05.ParseAll'. -/
def parseAllUptoCard : Claim7 := { stood := { row := parseAllUptoRow, standIns := [], harness := (true, "4c8b37686fb9bbae2df84c37954b810e2e8826c73f3e0d8d2d17dc93a650e326"), looks := true }, kinds := [], alts := [], laidByText := true, laidKinds := [.data, .handle, .pinned], laidTests := true, laidLooks := .later }
def ParseAllUptoCardSaid : Prop := Claim7.holds Tryz.pinned (.plain (OpenSpec.upto parseAllSpec)) parseAllUptoCard

/-- THE SECOND FORM's CARD OF 'morainelaw05.ParseParts'. -/
def parsePartsUptoCard : Claim7 := { stood := { row := parsePartsUptoRow, standIns := [], harness := (true, "4c8b37686fb9bbae2df84c37954b810e2e8826c73f3e0d8d2d17dc93a650e326"), looks := true }, kinds := [], alts := [], laidByText := true, laidKinds := [.data, .handle, .pinned], laidTests := true, laidLooks := .later }
def ParsePartsUptoCardSaid : Prop := Claim7.holds Tryz.pinned (.plain (OpenSpec.upto parsePartsSpec)) parsePartsUptoCard

/-- THE SECOND FORM's CARD OF 'morainelaw05.ParseMarks'. -/
def parseMarksUptoCard : Claim7 := { stood := { row := parseMarksUptoRow, standIns := [], harness := (true, "4c8b37686fb9bbae2df84c37954b810e2e8826c73f3e0d8d2d17dc93a650e326"), looks := true }, kinds := [], alts := [], laidByText := true, laidKinds := [.data, .handle, .pinned], laidTests := true, laidLooks := .later }
def ParseMarksUptoCardSaid : Prop := Claim7.holds Tryz.pinned (.plain (OpenSpec.upto parseMarksSpec)) parseMarksUptoCard

/-- THE SECOND FORM's CARD OF 'morainelaw06.ShowTexts'. -/
def showTextsUptoCard : Claim7 := { stood := { row := showTextsUptoRow, standIns := [], harness := (true, "4c8b37686fb9bbae2df84c37954b810e2e8826c73f3e0d8d2d17dc93a650e326"), looks := true }, kinds := [], alts := [], laidByText := true, laidKinds := [.data, .data, .data, .data, .handle, .pinned], laidTests := true, laidLooks := .later }
def ShowTextsUptoCardSaid : Prop := Claim7.holds Tryz.pinned (.plain (OpenSpec.upto showTextsSpec)) showTextsUptoCard

/-- THE SECOND FORM's CARD OF 'morainelaw06.ShowUnlike'. -/
def showUnlikeUptoCard : Claim7 := { stood := { row := showUnlikeUptoRow, standIns := [], harness := (true, "4c8b37686fb9bbae2df84c37954b810e2e8826c73f3e0d8d2d17dc93a650e326"), looks := true }, kinds := [], alts := [], laidByText := true, laidKinds := [.data, .data, .data, .data, .handle, .pinned], laidTests := true, laidLooks := .later }
def ShowUnlikeUptoCardSaid : Prop := Claim7.holds Tryz.pinned (.plain (OpenSpec.upto showUnlikeSpec)) showUnlikeUptoCard

/-- THE SECOND FORM's CARD OF 'morainelaw06.ShowParts'. -/
def showPartsUptoCard : Claim7 := { stood := { row := showPartsUptoRow, standIns := [], harness := (true, "4c8b37686fb9bbae2df84c37954b810e2e8826c73f3e0d8d2d17dc93a650e326"), looks := true }, kinds := [], alts := [], laidByText := true, laidKinds := [.data, .data, .data, .data, .handle, .pinned], laidTests := true, laidLooks := .later }
def ShowPartsUptoCardSaid : Prop := Claim7.holds Tryz.pinned (.plain (OpenSpec.upto showPartsSpec)) showPartsUptoCard
end Rows
end Go.Proofs.YtonnikipeokkaaaGreatDoor
