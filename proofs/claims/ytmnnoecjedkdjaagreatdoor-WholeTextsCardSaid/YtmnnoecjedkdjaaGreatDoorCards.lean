/-
  DERIVED. GIVEN WITH THE SEED: THE CARDS: each row of YtmnnoecjedkdjaaGreatDoorRows.lean that lists a variable, with what it lists TIED to the program's text (the seventh form; the later family's looks); each row that meets fmt, with fmt's text TOLD by the authors' own Lean function (tested against real Go, not proved from fmt's source: count such statements apart). THE CARD IS WHAT COUNTS. Prove the row's statement (the work); the ties are given (YtmnnoecjedkdjaaGreatDoorTie.lean); close each card by the builder's one call (the guide's Derived/Test/ToyasCard.lean, 'card_holds'). Laid BY PROGRAM, IN A SANDBOX (cutbox-door.mjs). By AI agents, Wed Nov 11 2026. No macro, syntax, notation, axiom, sorry.
-/
import Derived.Test.YtmnnoecjedkdjaaGreatDoorRows
import GoSem.ClaimSeven
namespace Go.Proofs.YtmnnoecjedkdjaaGreatDoor
namespace Rows

/-- THE TIED CARD OF 'viaducttop.WholeLines'. -/
def wholeLinesCard : Claim7 := { stood := { row := wholeLinesRow, standIns := [], harness := (true, "d99502cc3e22aa727d9009d066cf84ea6c74fa86f153bb459c75813d7b8da50a"), looks := true }, kinds := [], alts := [], laidByText := true, laidKinds := [.data, .data, .data, .data, .sentinel, .sentinel, .pinned], laidTests := true, laidLooks := .later }
def WholeLinesCardSaid : Prop := Claim7.holds Tryz.pinned (.plain (OpenSpec.ofChange wholeLinesSpec)) wholeLinesCard

/-- THE TIED CARD OF 'viaducttop.WholeTexts'. -/
def wholeTextsCard : Claim7 := { stood := { row := wholeTextsRow, standIns := [], harness := (true, "d99502cc3e22aa727d9009d066cf84ea6c74fa86f153bb459c75813d7b8da50a"), looks := true }, kinds := [], alts := [], laidByText := true, laidKinds := [.data, .data, .data, .data, .handle, .sentinel, .sentinel, .pinned], laidTests := true, laidLooks := .later }
def WholeTextsCardSaid : Prop := Claim7.holds Tryz.pinned (.plain (OpenSpec.ofChange wholeTextsSpec)) wholeTextsCard

/-- THE SECOND FORM's CARD OF 'viaducttop.WholeLines'. -/
def wholeLinesUptoCard : Claim7 := { stood := { row := wholeLinesUptoRow, standIns := [], harness := (true, "d99502cc3e22aa727d9009d066cf84ea6c74fa86f153bb459c75813d7b8da50a"), looks := true }, kinds := [], alts := [], laidByText := true, laidKinds := [.data, .data, .data, .data, .sentinel, .sentinel, .pinned], laidTests := true, laidLooks := .later }
def WholeLinesUptoCardSaid : Prop := Claim7.holds Tryz.pinned (.plain (OpenSpec.upto wholeLinesSpec)) wholeLinesUptoCard

/-- THE SECOND FORM's CARD OF 'viaducttop.WholeTexts'. -/
def wholeTextsUptoCard : Claim7 := { stood := { row := wholeTextsUptoRow, standIns := [], harness := (true, "d99502cc3e22aa727d9009d066cf84ea6c74fa86f153bb459c75813d7b8da50a"), looks := true }, kinds := [], alts := [], laidByText := true, laidKinds := [.data, .data, .data, .data, .handle, .sentinel, .sentinel, .pinned], laidTests := true, laidLooks := .later }
def WholeTextsUptoCardSaid : Prop := Claim7.holds Tryz.pinned (.plain (OpenSpec.upto wholeTextsSpec)) wholeTextsUptoCard
end Rows
end Go.Proofs.YtmnnoecjedkdjaaGreatDoor
