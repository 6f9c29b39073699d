/-
  DERIVED. GIVEN WITH THE SEED: THE CARDS: each row of YthomeejkddgckaaDoorRows.lean that lists a variable, with what it lists TIED to the program's text (the seventh form; the later family's looks); each row that meets fmt, with fmt's text TOLD by the authors' own Lean function (tested against real Go, not proved from fmt's source: count such statements apart). THE CARD IS WHAT COUNTS. Prove the row's statement (the work); the ties are given (YthomeejkddgckaaDoorTie.lean); close each card by the builder's one call (the guide's Derived/Test/ToyasCard.lean, 'card_holds'). Laid BY PROGRAM, IN A SANDBOX (cutbox-door.mjs). By AI agents, Wed Nov 11 2026. No macro, syntax, notation, axiom, sorry.
-/
import Derived.Test.YthomeejkddgckaaDoorRows
import GoSem.ClaimSeven
namespace Go.Proofs.YthomeejkddgckaaDoor
namespace Rows

/-- THE TIED CARD OF 'viaductlaw06.HeapPlays'. -/
def heapPlaysCard : Claim7 := { stood := { row := heapPlaysRow, standIns := [], harness := (true, "48f205d1ecc2fc44bd382b817b81ad91eace39e6b66031a97f0fd4c6a4111de2"), looks := true }, kinds := [], alts := [], laidByText := true, laidKinds := [.handle], laidTests := true, laidLooks := .later }
def HeapPlaysCardSaid : Prop := Claim7.holds Tryd.pinned (.plain (OpenSpec.ofChange heapPlaysSpec)) heapPlaysCard

/-- THE TIED CARD OF 'viaductlaw06.HeapTwo'. -/
def heapTwoCard : Claim7 := { stood := { row := heapTwoRow, standIns := [], harness := (true, "48f205d1ecc2fc44bd382b817b81ad91eace39e6b66031a97f0fd4c6a4111de2"), looks := true }, kinds := [], alts := [], laidByText := true, laidKinds := [.handle], laidTests := true, laidLooks := .later }
def HeapTwoCardSaid : Prop := Claim7.holds Tryd.pinned (.plain (OpenSpec.ofChange heapTwoSpec)) heapTwoCard

/-- THE TIED CARD OF 'viaductlaw06.HeapFixed'. -/
def heapFixedCard : Claim7 := { stood := { row := heapFixedRow, standIns := [], harness := (true, "48f205d1ecc2fc44bd382b817b81ad91eace39e6b66031a97f0fd4c6a4111de2"), looks := true }, kinds := [], alts := [], laidByText := true, laidKinds := [.handle], laidTests := true, laidLooks := .later }
def HeapFixedCardSaid : Prop := Claim7.holds Tryd.pinned (.plain (OpenSpec.ofChange heapFixedSpec)) heapFixedCard

/-- THE SECOND FORM's CARD OF 'viaductlaw06.HeapPlays'. -/
def heapPlaysUptoCard : Claim7 := { stood := { row := heapPlaysUptoRow, standIns := [], harness := (true, "48f205d1ecc2fc44bd382b817b81ad91eace39e6b66031a97f0fd4c6a4111de2"), looks := true }, kinds := [], alts := [], laidByText := true, laidKinds := [.handle], laidTests := true, laidLooks := .later }
def HeapPlaysUptoCardSaid : Prop := Claim7.holds Tryd.pinned (.plain (OpenSpec.upto heapPlaysSpec)) heapPlaysUptoCard

/-- THE SECOND FORM's CARD OF 'viaductlaw06.HeapTwo'. -/
def heapTwoUptoCard : Claim7 := { stood := { row := heapTwoUptoRow, standIns := [], harness := (true, "48f205d1ecc2fc44bd382b817b81ad91eace39e6b66031a97f0fd4c6a4111de2"), looks := true }, kinds := [], alts := [], laidByText := true, laidKinds := [.handle], laidTests := true, laidLooks := .later }
def HeapTwoUptoCardSaid : Prop := Claim7.holds Tryd.pinned (.plain (OpenSpec.upto heapTwoSpec)) heapTwoUptoCard

/-- THE SECOND FORM's CARD OF 'viaductlaw06.HeapFixed'. -/
def heapFixedUptoCard : Claim7 := { stood := { row := heapFixedUptoRow, standIns := [], harness := (true, "48f205d1ecc2fc44bd382b817b81ad91eace39e6b66031a97f0fd4c6a4111de2"), looks := true }, kinds := [], alts := [], laidByText := true, laidKinds := [.handle], laidTests := true, laidLooks := .later }
def HeapFixedUptoCardSaid : Prop := Claim7.holds Tryd.pinned (.plain (OpenSpec.upto heapFixedSpec)) heapFixedUptoCard
end Rows
end Go.Proofs.YthomeejkddgckaaDoor
