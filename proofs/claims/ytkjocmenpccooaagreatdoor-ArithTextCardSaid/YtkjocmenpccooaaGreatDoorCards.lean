/-
  DERIVED. GIVEN WITH THE SEED: THE CARDS: each row of YtkjocmenpccooaaGreatDoorRows.lean that lists a variable, with what it lists TIED to the program's text (the seventh form; the later family's looks); each row that meets fmt, with fmt's text TOLD by the authors' own Lean function (tested against real Go, not proved from fmt's source: count such statements apart). THE CARD IS WHAT COUNTS. Prove the row's statement (the work); the ties are given (YtkjocmenpccooaaGreatDoorTie.lean); close each card by the builder's one call (the guide's Derived/Test/ToyasCard.lean, 'card_holds'). Laid BY PROGRAM, IN A SANDBOX (cutbox-door.mjs). By AI agents, Wed Nov 11 2026. No macro, syntax, notation, axiom, sorry.
-/
import Derived.Test.YtkjocmenpccooaaGreatDoorRows
import GoSem.ClaimSeven
namespace Go.Proofs.YtkjocmenpccooaaGreatDoor
namespace Rows

/-- THE TIED CARD OF 'morainelaw21.ArithRing'. -/
def arithRingCard : Claim7 := { stood := { row := arithRingRow, standIns := [], harness := (true, "e2d3c2be26c1a2409d052089f67a21780df1db8fb922a0c4d03114f8a83f75c7"), looks := false }, kinds := [], alts := [], laidByText := true, laidKinds := [.data, .data, .data, .data, .pinned], laidTests := true, laidLooks := .later }
def ArithRingCardSaid : Prop := Claim7.holds Tryz.pinned (.plain (OpenSpec.ofChange arithRingSpec)) arithRingCard

/-- THE TIED CARD OF 'morainelaw21.ArithOrder'. -/
def arithOrderCard : Claim7 := { stood := { row := arithOrderRow, standIns := [], harness := (true, "e2d3c2be26c1a2409d052089f67a21780df1db8fb922a0c4d03114f8a83f75c7"), looks := false }, kinds := [], alts := [], laidByText := true, laidKinds := [.data, .data, .data, .data, .pinned], laidTests := true, laidLooks := .later }
def ArithOrderCardSaid : Prop := Claim7.holds Tryz.pinned (.plain (OpenSpec.ofChange arithOrderSpec)) arithOrderCard

/-- THE TIED CARD OF 'morainelaw21.ArithText'. -/
def arithTextCard : Claim7 := { stood := { row := arithTextRow, standIns := [], harness := (true, "e2d3c2be26c1a2409d052089f67a21780df1db8fb922a0c4d03114f8a83f75c7"), looks := false }, kinds := [], alts := [], laidByText := true, laidKinds := [.data, .data, .data, .data, .pinned], laidTests := true, laidLooks := .later }
def ArithTextCardSaid : Prop := Claim7.holds Tryz.pinned (.plain (OpenSpec.ofChange arithTextSpec)) arithTextCard

/-- THE TIED CARD OF 'morainelaw21.ArithParts'. -/
def arithPartsCard : Claim7 := { stood := { row := arithPartsRow, standIns := [], harness := (true, "e2d3c2be26c1a2409d052089f67a21780df1db8fb922a0c4d03114f8a83f75c7"), looks := false }, kinds := [], alts := [], laidByText := true, laidKinds := [.data, .data, .data, .data, .pinned], laidTests := true, laidLooks := .later }
def ArithPartsCardSaid : Prop := Claim7.holds Tryz.pinned (.plain (OpenSpec.ofChange arithPartsSpec)) arithPartsCard

/-- THE SECOND FORM's CARD OF 'morainelaw21.ArithRing'. -/
def arithRingUptoCard : Claim7 := { stood := { row := arithRingUptoRow, standIns := [], harness := (true, "e2d3c2be26c1a2409d052089f67a21780df1db8fb922a0c4d03114f8a83f75c7"), looks := false }, kinds := [], alts := [], laidByText := true, laidKinds := [.data, .data, .data, .data, .pinned], laidTests := true, laidLooks := .later }
def ArithRingUptoCardSaid : Prop := Claim7.holds Tryz.pinned (.plain (OpenSpec.upto arithRingSpec)) arithRingUptoCard

/-- THE SECOND FORM's CARD OF 'morainelaw21.ArithOrder'. -/
def arithOrderUptoCard : Claim7 := { stood := { row := arithOrderUptoRow, standIns := [], harness := (true, "e2d3c2be26c1a2409d052089f67a21780df1db8fb922a0c4d03114f8a83f75c7"), looks := false }, kinds := [], alts := [], laidByText := true, laidKinds := [.data, .data, .data, .data, .pinned], laidTests := true, laidLooks := .later }
def ArithOrderUptoCardSaid : Prop := Claim7.holds Tryz.pinned (.plain (OpenSpec.upto arithOrderSpec)) arithOrderUptoCard

/-- THE SECOND FORM's CARD OF 'morainelaw21.ArithText'. -/
def arithTextUptoCard : Claim7 := { stood := { row := arithTextUptoRow, standIns := [], harness := (true, "e2d3c2be26c1a2409d052089f67a21780df1db8fb922a0c4d03114f8a83f75c7"), looks := false }, kinds := [], alts := [], laidByText := true, laidKinds := [.data, .data, .data, .data, .pinned], laidTests := true, laidLooks := .later }
def ArithTextUptoCardSaid : Prop := Claim7.holds Tryz.pinned (.plain (OpenSpec.upto arithTextSpec)) arithTextUptoCard

/-- THE SECOND FORM's CARD OF 'morainelaw21.ArithParts'. -/
def arithPartsUptoCard : Claim7 := { stood := { row := arithPartsUptoRow, standIns := [], harness := (true, "e2d3c2be26c1a2409d052089f67a21780df1db8fb922a0c4d03114f8a83f75c7"), looks := false }, kinds := [], alts := [], laidByText := true, laidKinds := [.data, .data, .data, .data, .pinned], laidTests := true, laidLooks := .later }
def ArithPartsUptoCardSaid : Prop := Claim7.holds Tryz.pinned (.plain (OpenSpec.upto arithPartsSpec)) arithPartsUptoCard
end Rows
end Go.Proofs.YtkjocmenpccooaaGreatDoor
