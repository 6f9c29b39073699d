/-
  DERIVED. GIVEN WITH THE SEED: THE CARDS: each row of YteejmocdagdeeaaDoorRows.lean that lists a variable, with what it lists TIED to the program's text (the seventh form; the later family's looks); each row that meets fmt, with fmt's text TOLD by the authors' own Lean function (tested against real Go, not proved from fmt's source: count such statements apart). THE CARD IS WHAT COUNTS. Prove the row's statement (the work); the ties are given (YteejmocdagdeeaaDoorTie.lean); close each card by the builder's one call (the guide's Derived/Test/ToyasCard.lean, 'card_holds'). Laid BY PROGRAM, IN A SANDBOX (cutbox-door.mjs). By AI agents, Wed Nov 11 2026. No macro, syntax, notation, axiom, sorry.
-/
import Derived.Test.YteejmocdagdeeaaDoorRows
import GoSem.ClaimSeven
namespace Go.Proofs.YteejmocdagdeeaaDoor
namespace Rows

/-- THE TIED CARD OF 'viaductlaw07.StampPlays'. -/
def stampPlaysCard : Claim7 := { stood := { row := stampPlaysRow, standIns := [], harness := (true, "1eab51a9e6543901989b01e92dc641af3358b48e3ef9e138d428195a80e2fd7d"), looks := true }, kinds := [], alts := [], laidByText := true, laidKinds := [.handle], laidTests := true, laidLooks := .later }
def StampPlaysCardSaid : Prop := Claim7.holds Tryd.pinned (.plain (OpenSpec.ofChange stampPlaysSpec)) stampPlaysCard

/-- THE TIED CARD OF 'viaductlaw07.StampFixed'. -/
def stampFixedCard : Claim7 := { stood := { row := stampFixedRow, standIns := [], harness := (true, "1eab51a9e6543901989b01e92dc641af3358b48e3ef9e138d428195a80e2fd7d"), looks := true }, kinds := [], alts := [], laidByText := true, laidKinds := [.handle], laidTests := true, laidLooks := .later }
def StampFixedCardSaid : Prop := Claim7.holds Tryd.pinned (.plain (OpenSpec.ofChange stampFixedSpec)) stampFixedCard

/-- THE SECOND FORM's CARD OF 'viaductlaw07.StampPlays'. -/
def stampPlaysUptoCard : Claim7 := { stood := { row := stampPlaysUptoRow, standIns := [], harness := (true, "1eab51a9e6543901989b01e92dc641af3358b48e3ef9e138d428195a80e2fd7d"), looks := true }, kinds := [], alts := [], laidByText := true, laidKinds := [.handle], laidTests := true, laidLooks := .later }
def StampPlaysUptoCardSaid : Prop := Claim7.holds Tryd.pinned (.plain (OpenSpec.upto stampPlaysSpec)) stampPlaysUptoCard

/-- THE SECOND FORM's CARD OF 'viaductlaw07.StampFixed'. -/
def stampFixedUptoCard : Claim7 := { stood := { row := stampFixedUptoRow, standIns := [], harness := (true, "1eab51a9e6543901989b01e92dc641af3358b48e3ef9e138d428195a80e2fd7d"), looks := true }, kinds := [], alts := [], laidByText := true, laidKinds := [.handle], laidTests := true, laidLooks := .later }
def StampFixedUptoCardSaid : Prop := Claim7.holds Tryd.pinned (.plain (OpenSpec.upto stampFixedSpec)) stampFixedUptoCard
end Rows
end Go.Proofs.YteejmocdagdeeaaDoor
