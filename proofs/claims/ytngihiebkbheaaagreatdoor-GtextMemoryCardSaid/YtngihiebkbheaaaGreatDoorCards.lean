/-
  DERIVED. GIVEN WITH THE SEED: THE CARDS: each row of YtngihiebkbheaaaGreatDoorRows.lean that lists a variable, with what it lists TIED to the program's text (the seventh form; the later family's looks); each row that meets fmt, with fmt's text TOLD by the authors' own Lean function (tested against real Go, not proved from fmt's source: count such statements apart). THE CARD IS WHAT COUNTS. Prove the row's statement (the work); the ties are given (YtngihiebkbheaaaGreatDoorTie.lean); close each card by the builder's one call (the guide's Derived/Test/ToyasCard.lean, 'card_holds'). Laid BY PROGRAM, IN A SANDBOX (cutbox-door.mjs). By AI agents, Wed Nov 11 2026. No macro, syntax, notation, axiom, sorry.
-/
import Derived.Test.YtngihiebkbheaaaGreatDoorRows
import GoSem.ClaimSeven
namespace Go.Proofs.YtngihiebkbheaaaGreatDoor
namespace Rows

/-- THE TIED CARD OF 'viaductlaw03.GtextChecks'. -/
def gtextChecksCard : Claim7 := { stood := { row := gtextChecksRow, standIns := [], harness := (true, "2219797716d9f2a9a84280f4277adb003321d1fc7d01559957f116d722f42ea2"), looks := true }, kinds := [], alts := [], laidByText := true, laidKinds := [.data, .data, .data, .data, .handle, .sentinel, .sentinel, .pinned], laidTests := true, laidLooks := .later }
def GtextChecksCardSaid : Prop := Claim7.holds Tryz.pinned (.plain (OpenSpec.ofChange gtextChecksSpec)) gtextChecksCard

/-- THE TIED CARD OF 'viaductlaw03.GtextParses'. -/
def gtextParsesCard : Claim7 := { stood := { row := gtextParsesRow, standIns := [], harness := (true, "2219797716d9f2a9a84280f4277adb003321d1fc7d01559957f116d722f42ea2"), looks := true }, kinds := [], alts := [], laidByText := true, laidKinds := [.data, .data, .data, .data, .handle, .sentinel, .sentinel, .pinned], laidTests := true, laidLooks := .later }
def GtextParsesCardSaid : Prop := Claim7.holds Tryz.pinned (.plain (OpenSpec.ofChange gtextParsesSpec)) gtextParsesCard

/-- THE TIED CARD OF 'viaductlaw03.GtextThere'. -/
def gtextThereCard : Claim7 := { stood := { row := gtextThereRow, standIns := [], harness := (true, "2219797716d9f2a9a84280f4277adb003321d1fc7d01559957f116d722f42ea2"), looks := true }, kinds := [], alts := [], laidByText := true, laidKinds := [.data, .data, .data, .data, .handle, .sentinel, .sentinel, .pinned], laidTests := true, laidLooks := .later }
def GtextThereCardSaid : Prop := Claim7.holds Tryz.pinned (.plain (OpenSpec.ofChange gtextThereSpec)) gtextThereCard

/-- THE TIED CARD OF 'viaductlaw03.GtextBack'. -/
def gtextBackCard : Claim7 := { stood := { row := gtextBackRow, standIns := [], harness := (true, "2219797716d9f2a9a84280f4277adb003321d1fc7d01559957f116d722f42ea2"), looks := true }, kinds := [], alts := [], laidByText := true, laidKinds := [.data, .data, .data, .data, .handle, .sentinel, .sentinel, .pinned], laidTests := true, laidLooks := .later }
def GtextBackCardSaid : Prop := Claim7.holds Tryz.pinned (.plain (OpenSpec.ofChange gtextBackSpec)) gtextBackCard

/-- THE TIED CARD OF 'viaductlaw03.GtextTurned'. -/
def gtextTurnedCard : Claim7 := { stood := { row := gtextTurnedRow, standIns := [], harness := (true, "2219797716d9f2a9a84280f4277adb003321d1fc7d01559957f116d722f42ea2"), looks := true }, kinds := [], alts := [], laidByText := true, laidKinds := [.data, .data, .data, .data, .handle, .sentinel, .sentinel, .pinned], laidTests := true, laidLooks := .later }
def GtextTurnedCardSaid : Prop := Claim7.holds Tryz.pinned (.plain (OpenSpec.ofChange gtextTurnedSpec)) gtextTurnedCard

/-- THE TIED CARD OF 'viaductlaw03.GtextFixed'. -/
def gtextFixedCard : Claim7 := { stood := { row := gtextFixedRow, standIns := [], harness := (true, "2219797716d9f2a9a84280f4277adb003321d1fc7d01559957f116d722f42ea2"), looks := true }, kinds := [], alts := [], laidByText := true, laidKinds := [.data, .data, .data, .data, .handle, .sentinel, .sentinel, .pinned], laidTests := true, laidLooks := .later }
def GtextFixedCardSaid : Prop := Claim7.holds Tryz.pinned (.plain (OpenSpec.ofChange gtextFixedSpec)) gtextFixedCard

/-- THE TIED CARD OF 'viaductlaw03.GtextMemory'. -/
def gtextMemoryCard : Claim7 := { stood := { row := gtextMemoryRow, standIns := [], harness := (true, "2219797716d9f2a9a84280f4277adb003321d1fc7d01559957f116d722f42ea2"), looks := true }, kinds := [], alts := [], laidByText := true, laidKinds := [.data, .data, .data, .data, .handle, .sentinel, .sentinel, .pinned], laidTests := true, laidLooks := .later }
def GtextMemoryCardSaid : Prop := Claim7.holds Tryz.pinned (.plain (OpenSpec.ofChange gtextMemorySpec)) gtextMemoryCard

/-- THE SECOND FORM's CARD OF 'viaductlaw03.GtextChecks'. -/
def gtextChecksUptoCard : Claim7 := { stood := { row := gtextChecksUptoRow, standIns := [], harness := (true, "2219797716d9f2a9a84280f4277adb003321d1fc7d01559957f116d722f42ea2"), looks := true }, kinds := [], alts := [], laidByText := true, laidKinds := [.data, .data, .data, .data, .handle, .sentinel, .sentinel, .pinned], laidTests := true, laidLooks := .later }
def GtextChecksUptoCardSaid : Prop := Claim7.holds Tryz.pinned (.plain (OpenSpec.upto gtextChecksSpec)) gtextChecksUptoCard

/-- THE SECOND FORM's CARD OF 'viaductlaw03.GtextParses'. -/
def gtextParsesUptoCard : Claim7 := { stood := { row := gtextParsesUptoRow, standIns := [], harness := (true, "2219797716d9f2a9a84280f4277adb003321d1fc7d01559957f116d722f42ea2"), looks := true }, kinds := [], alts := [], laidByText := true, laidKinds := [.data, .data, .data, .data, .handle, .sentinel, .sentinel, .pinned], laidTests := true, laidLooks := .later }
def GtextParsesUptoCardSaid : Prop := Claim7.holds Tryz.pinned (.plain (OpenSpec.upto gtextParsesSpec)) gtextParsesUptoCard

/-- THE SECOND FORM's CARD OF 'viaductlaw03.GtextThere'. -/
def gtextThereUptoCard : Claim7 := { stood := { row := gtextThereUptoRow, standIns := [], harness := (true, "2219797716d9f2a9a84280f4277adb003321d1fc7d01559957f116d722f42ea2"), looks := true }, kinds := [], alts := [], laidByText := true, laidKinds := [.data, .data, .data, .data, .handle, .sentinel, .sentinel, .pinned], laidTests := true, laidLooks := .later }
def GtextThereUptoCardSaid : Prop := Claim7.holds Tryz.pinned (.plain (OpenSpec.upto gtextThereSpec)) gtextThereUptoCard

/-- THE SECOND FORM's CARD OF 'viaductlaw03.GtextBack'. -/
def gtextBackUptoCard : Claim7 := { stood := { row := gtextBackUptoRow, standIns := [], harness := (true, "2219797716d9f2a9a84280f4277adb003321d1fc7d01559957f116d722f42ea2"), looks := true }, kinds := [], alts := [], laidByText := true, laidKinds := [.data, .data, .data, .data, .handle, .sentinel, .sentinel, .pinned], laidTests := true, laidLooks := .later }
def GtextBackUptoCardSaid : Prop := Claim7.holds Tryz.pinned (.plain (OpenSpec.upto gtextBackSpec)) gtextBackUptoCard

/-- THE SECOND FORM's CARD OF 'viaductlaw03.GtextTurned'. -/
def gtextTurnedUptoCard : Claim7 := { stood := { row := gtextTurnedUptoRow, standIns := [], harness := (true, "2219797716d9f2a9a84280f4277adb003321d1fc7d01559957f116d722f42ea2"), looks := true }, kinds := [], alts := [], laidByText := true, laidKinds := [.data, .data, .data, .data, .handle, .sentinel, .sentinel, .pinned], laidTests := true, laidLooks := .later }
def GtextTurnedUptoCardSaid : Prop := Claim7.holds Tryz.pinned (.plain (OpenSpec.upto gtextTurnedSpec)) gtextTurnedUptoCard

/-- THE SECOND FORM's CARD OF 'viaductlaw03.GtextFixed'. -/
def gtextFixedUptoCard : Claim7 := { stood := { row := gtextFixedUptoRow, standIns := [], harness := (true, "2219797716d9f2a9a84280f4277adb003321d1fc7d01559957f116d722f42ea2"), looks := true }, kinds := [], alts := [], laidByText := true, laidKinds := [.data, .data, .data, .data, .handle, .sentinel, .sentinel, .pinned], laidTests := true, laidLooks := .later }
def GtextFixedUptoCardSaid : Prop := Claim7.holds Tryz.pinned (.plain (OpenSpec.upto gtextFixedSpec)) gtextFixedUptoCard

/-- THE SECOND FORM's CARD OF 'viaductlaw03.GtextMemory'. -/
def gtextMemoryUptoCard : Claim7 := { stood := { row := gtextMemoryUptoRow, standIns := [], harness := (true, "2219797716d9f2a9a84280f4277adb003321d1fc7d01559957f116d722f42ea2"), looks := true }, kinds := [], alts := [], laidByText := true, laidKinds := [.data, .data, .data, .data, .handle, .sentinel, .sentinel, .pinned], laidTests := true, laidLooks := .later }
def GtextMemoryUptoCardSaid : Prop := Claim7.holds Tryz.pinned (.plain (OpenSpec.upto gtextMemorySpec)) gtextMemoryUptoCard
end Rows
end Go.Proofs.YtngihiebkbheaaaGreatDoor
