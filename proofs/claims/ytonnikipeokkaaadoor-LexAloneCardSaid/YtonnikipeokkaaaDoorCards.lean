/-
  DERIVED. GIVEN WITH THE SEED: THE CARDS: each row of YtonnikipeokkaaaDoorRows.lean that lists a variable, with what it lists TIED to the program's text (the seventh form; the later family's looks); each row that meets fmt, with fmt's text TOLD by the authors' own Lean function (tested against real Go, not proved from fmt's source: count such statements apart). THE CARD IS WHAT COUNTS. Prove the row's statement (the work); the ties are given (YtonnikipeokkaaaDoorTie.lean); close each card by the builder's one call (the guide's Derived/Test/ToyasCard.lean, 'card_holds'). Laid BY PROGRAM, IN A SANDBOX (cutbox-door.mjs). By AI agents, Wed Nov 11 2026. No macro, syntax, notation, axiom, sorry.
-/
import Derived.Test.YtonnikipeokkaaaDoorRows
import GoSem.ClaimSeven
namespace Go.Proofs.YtonnikipeokkaaaDoor
namespace Rows

/-- THE TIED CARD OF 'morainelaw04.LexRises'. -/
def lexRisesCard : Claim7 := { stood := { row := lexRisesRow, standIns := [], harness := (true, "1478ac64adab58a6363d6b1d3e3e3397a64294d4a90fef206fab28bd089aceb9"), looks := true }, kinds := [], alts := [], laidByText := true, laidKinds := [.data, .handle, .pinned], laidTests := true, laidLooks := .later }
def LexRisesCardSaid : Prop := Claim7.holds Tryd.pinned (.plain (OpenSpec.ofChange lexRisesSpec)) lexRisesCard

/-- THE TIED CARD OF 'morainelaw04.LexParts'. -/
def lexPartsCard : Claim7 := { stood := { row := lexPartsRow, standIns := [], harness := (true, "1478ac64adab58a6363d6b1d3e3e3397a64294d4a90fef206fab28bd089aceb9"), looks := true }, kinds := [], alts := [], laidByText := true, laidKinds := [.data, .handle, .pinned], laidTests := true, laidLooks := .later }
def LexPartsCardSaid : Prop := Claim7.holds Tryd.pinned (.plain (OpenSpec.ofChange lexPartsSpec)) lexPartsCard

/-- THE TIED CARD OF 'morainelaw04.LexAlone'. -/
def lexAloneCard : Claim7 := { stood := { row := lexAloneRow, standIns := [], harness := (true, "1478ac64adab58a6363d6b1d3e3e3397a64294d4a90fef206fab28bd089aceb9"), looks := true }, kinds := [], alts := [], laidByText := true, laidKinds := [.data, .handle, .pinned], laidTests := true, laidLooks := .later }
def LexAloneCardSaid : Prop := Claim7.holds Tryd.pinned (.plain (OpenSpec.ofChange lexAloneSpec)) lexAloneCard

/-- THE SECOND FORM's CARD OF 'morainelaw04.LexRises'. -/
def lexRisesUptoCard : Claim7 := { stood := { row := lexRisesUptoRow, standIns := [], harness := (true, "1478ac64adab58a6363d6b1d3e3e3397a64294d4a90fef206fab28bd089aceb9"), looks := true }, kinds := [], alts := [], laidByText := true, laidKinds := [.data, .handle, .pinned], laidTests := true, laidLooks := .later }
def LexRisesUptoCardSaid : Prop := Claim7.holds Tryd.pinned (.plain (OpenSpec.upto lexRisesSpec)) lexRisesUptoCard

/-- THE SECOND FORM's CARD OF 'morainelaw04.LexParts'. -/
def lexPartsUptoCard : Claim7 := { stood := { row := lexPartsUptoRow, standIns := [], harness := (true, "1478ac64adab58a6363d6b1d3e3e3397a64294d4a90fef206fab28bd089aceb9"), looks := true }, kinds := [], alts := [], laidByText := true, laidKinds := [.data, .handle, .pinned], laidTests := true, laidLooks := .later }
def LexPartsUptoCardSaid : Prop := Claim7.holds Tryd.pinned (.plain (OpenSpec.upto lexPartsSpec)) lexPartsUptoCard

/-- THE SECOND FORM's CARD OF 'morainelaw04.LexAlone'. -/
def lexAloneUptoCard : Claim7 := { stood := { row := lexAloneUptoRow, standIns := [], harness := (true, "1478ac64adab58a6363d6b1d3e3e3397a64294d4a90fef206fab28bd089aceb9"), looks := true }, kinds := [], alts := [], laidByText := true, laidKinds := [.data, .handle, .pinned], laidTests := true, laidLooks := .later }
def LexAloneUptoCardSaid : Prop := Claim7.holds Tryd.pinned (.plain (OpenSpec.upto lexAloneSpec)) lexAloneUptoCard
end Rows
end Go.Proofs.YtonnikipeokkaaaDoor
