/-
  DERIVED. GIVEN WITH THE SEED: THE CARDS: each row of YtkncgpnnilcicaaDoorRows.lean that lists a variable, with what it lists TIED to the program's text (the seventh form; the later family's looks); each row that meets fmt, with fmt's text TOLD by the authors' own Lean function (tested against real Go, not proved from fmt's source: count such statements apart). THE CARD IS WHAT COUNTS. Prove the row's statement (the work); the ties are given (YtkncgpnnilcicaaDoorTie.lean); close each card by the builder's one call (the guide's Derived/Test/ToyasCard.lean, 'card_holds'). Laid BY PROGRAM, IN A SANDBOX (cutbox-door.mjs). By AI agents, Wed Nov 11 2026. No macro, syntax, notation, axiom, sorry.
-/
import Derived.Test.YtkncgpnnilcicaaDoorRows
import GoSem.ClaimSeven
namespace Go.Proofs.YtkncgpnnilcicaaDoor
namespace Rows

/-- THE TIED CARD OF 'viaductlaw01.FaultAts'. -/
def faultAtsCard : Claim7 := { stood := { row := faultAtsRow, standIns := [], harness := (true, "03ed006ed63ff2f031d873b887f5303c3c092e97bc3c0f526b03af67e4491d0a"), looks := true }, kinds := [], alts := [], laidByText := true, laidKinds := [.data, .data, .data, .handle], laidTests := true, laidLooks := .later }
def FaultAtsCardSaid : Prop := Claim7.holds Tryd.pinned (.plain (OpenSpec.ofChange faultAtsSpec)) faultAtsCard

/-- THE TIED CARD OF 'viaductlaw01.FaultNests'. -/
def faultNestsCard : Claim7 := { stood := { row := faultNestsRow, standIns := [], harness := (true, "03ed006ed63ff2f031d873b887f5303c3c092e97bc3c0f526b03af67e4491d0a"), looks := true }, kinds := [], alts := [], laidByText := true, laidKinds := [.data, .data, .data, .handle], laidTests := true, laidLooks := .later }
def FaultNestsCardSaid : Prop := Claim7.holds Tryd.pinned (.plain (OpenSpec.ofChange faultNestsSpec)) faultNestsCard

/-- THE TIED CARD OF 'viaductlaw01.FaultMemory'. -/
def faultMemoryCard : Claim7 := { stood := { row := faultMemoryRow, standIns := [], harness := (true, "03ed006ed63ff2f031d873b887f5303c3c092e97bc3c0f526b03af67e4491d0a"), looks := true }, kinds := [], alts := [], laidByText := true, laidKinds := [.data, .data, .data, .handle], laidTests := true, laidLooks := .later }
def FaultMemoryCardSaid : Prop := Claim7.holds Tryd.pinned (.plain (OpenSpec.ofChange faultMemorySpec)) faultMemoryCard

/-- THE TIED CARD OF 'viaductlaw01.FaultFirsts'. -/
def faultFirstsCard : Claim7 := { stood := { row := faultFirstsRow, standIns := [], harness := (true, "03ed006ed63ff2f031d873b887f5303c3c092e97bc3c0f526b03af67e4491d0a"), looks := true }, kinds := [], alts := [], laidByText := true, laidKinds := [.data, .data, .data, .handle], laidTests := true, laidLooks := .later }
def FaultFirstsCardSaid : Prop := Claim7.holds Tryd.pinned (.plain (OpenSpec.ofChange faultFirstsSpec)) faultFirstsCard

/-- THE TIED CARD OF 'viaductlaw01.FaultShifts'. -/
def faultShiftsCard : Claim7 := { stood := { row := faultShiftsRow, standIns := [], harness := (true, "03ed006ed63ff2f031d873b887f5303c3c092e97bc3c0f526b03af67e4491d0a"), looks := true }, kinds := [], alts := [], laidByText := true, laidKinds := [.data, .data, .data, .handle], laidTests := true, laidLooks := .later }
def FaultShiftsCardSaid : Prop := Claim7.holds Tryd.pinned (.plain (OpenSpec.ofChange faultShiftsSpec)) faultShiftsCard

/-- THE TIED CARD OF 'viaductlaw01.FaultAsks'. -/
def faultAsksCard : Claim7 := { stood := { row := faultAsksRow, standIns := [], harness := (true, "03ed006ed63ff2f031d873b887f5303c3c092e97bc3c0f526b03af67e4491d0a"), looks := true }, kinds := [], alts := [], laidByText := true, laidKinds := [.data, .data, .data, .handle], laidTests := true, laidLooks := .later }
def FaultAsksCardSaid : Prop := Claim7.holds Tryd.pinned (.plain (OpenSpec.ofChange faultAsksSpec)) faultAsksCard

/-- THE TIED CARD OF 'viaductlaw01.FaultSames'. -/
def faultSamesCard : Claim7 := { stood := { row := faultSamesRow, standIns := [], harness := (true, "03ed006ed63ff2f031d873b887f5303c3c092e97bc3c0f526b03af67e4491d0a"), looks := true }, kinds := [], alts := [], laidByText := true, laidKinds := [.data, .data, .data, .handle], laidTests := true, laidLooks := .later }
def FaultSamesCardSaid : Prop := Claim7.holds Tryd.pinned (.plain (OpenSpec.ofChange faultSamesSpec)) faultSamesCard

/-- THE TIED CARD OF 'viaductlaw01.FaultFixed'. -/
def faultFixedCard : Claim7 := { stood := { row := faultFixedRow, standIns := [], harness := (true, "03ed006ed63ff2f031d873b887f5303c3c092e97bc3c0f526b03af67e4491d0a"), looks := true }, kinds := [], alts := [], laidByText := true, laidKinds := [.data, .data, .data, .handle], laidTests := true, laidLooks := .later }
def FaultFixedCardSaid : Prop := Claim7.holds Tryd.pinned (.plain (OpenSpec.ofChange faultFixedSpec)) faultFixedCard

/-- THE SECOND FORM's CARD OF 'viaductlaw01.FaultAts'. -/
def faultAtsUptoCard : Claim7 := { stood := { row := faultAtsUptoRow, standIns := [], harness := (true, "03ed006ed63ff2f031d873b887f5303c3c092e97bc3c0f526b03af67e4491d0a"), looks := true }, kinds := [], alts := [], laidByText := true, laidKinds := [.data, .data, .data, .handle], laidTests := true, laidLooks := .later }
def FaultAtsUptoCardSaid : Prop := Claim7.holds Tryd.pinned (.plain (OpenSpec.upto faultAtsSpec)) faultAtsUptoCard

/-- THE SECOND FORM's CARD OF 'viaductlaw01.FaultNests'. -/
def faultNestsUptoCard : Claim7 := { stood := { row := faultNestsUptoRow, standIns := [], harness := (true, "03ed006ed63ff2f031d873b887f5303c3c092e97bc3c0f526b03af67e4491d0a"), looks := true }, kinds := [], alts := [], laidByText := true, laidKinds := [.data, .data, .data, .handle], laidTests := true, laidLooks := .later }
def FaultNestsUptoCardSaid : Prop := Claim7.holds Tryd.pinned (.plain (OpenSpec.upto faultNestsSpec)) faultNestsUptoCard

/-- THE SECOND FORM's CARD OF 'viaductlaw01.FaultMemory'. -/
def faultMemoryUptoCard : Claim7 := { stood := { row := faultMemoryUptoRow, standIns := [], harness := (true, "03ed006ed63ff2f031d873b887f5303c3c092e97bc3c0f526b03af67e4491d0a"), looks := true }, kinds := [], alts := [], laidByText := true, laidKinds := [.data, .data, .data, .handle], laidTests := true, laidLooks := .later }
def FaultMemoryUptoCardSaid : Prop := Claim7.holds Tryd.pinned (.plain (OpenSpec.upto faultMemorySpec)) faultMemoryUptoCard

/-- THE SECOND FORM's CARD OF 'viaductlaw01.FaultFirsts'. -/
def faultFirstsUptoCard : Claim7 := { stood := { row := faultFirstsUptoRow, standIns := [], harness := (true, "03ed006ed63ff2f031d873b887f5303c3c092e97bc3c0f526b03af67e4491d0a"), looks := true }, kinds := [], alts := [], laidByText := true, laidKinds := [.data, .data, .data, .handle], laidTests := true, laidLooks := .later }
def FaultFirstsUptoCardSaid : Prop := Claim7.holds Tryd.pinned (.plain (OpenSpec.upto faultFirstsSpec)) faultFirstsUptoCard

/-- THE SECOND FORM's CARD OF 'viaductlaw01.FaultShifts'. -/
def faultShiftsUptoCard : Claim7 := { stood := { row := faultShiftsUptoRow, standIns := [], harness := (true, "03ed006ed63ff2f031d873b887f5303c3c092e97bc3c0f526b03af67e4491d0a"), looks := true }, kinds := [], alts := [], laidByText := true, laidKinds := [.data, .data, .data, .handle], laidTests := true, laidLooks := .later }
def FaultShiftsUptoCardSaid : Prop := Claim7.holds Tryd.pinned (.plain (OpenSpec.upto faultShiftsSpec)) faultShiftsUptoCard

/-- THE SECOND FORM's CARD OF 'viaductlaw01.FaultAsks'. -/
def faultAsksUptoCard : Claim7 := { stood := { row := faultAsksUptoRow, standIns := [], harness := (true, "03ed006ed63ff2f031d873b887f5303c3c092e97bc3c0f526b03af67e4491d0a"), looks := true }, kinds := [], alts := [], laidByText := true, laidKinds := [.data, .data, .data, .handle], laidTests := true, laidLooks := .later }
def FaultAsksUptoCardSaid : Prop := Claim7.holds Tryd.pinned (.plain (OpenSpec.upto faultAsksSpec)) faultAsksUptoCard

/-- THE SECOND FORM's CARD OF 'viaductlaw01.FaultSames'. -/
def faultSamesUptoCard : Claim7 := { stood := { row := faultSamesUptoRow, standIns := [], harness := (true, "03ed006ed63ff2f031d873b887f5303c3c092e97bc3c0f526b03af67e4491d0a"), looks := true }, kinds := [], alts := [], laidByText := true, laidKinds := [.data, .data, .data, .handle], laidTests := true, laidLooks := .later }
def FaultSamesUptoCardSaid : Prop := Claim7.holds Tryd.pinned (.plain (OpenSpec.upto faultSamesSpec)) faultSamesUptoCard

/-- THE SECOND FORM's CARD OF 'viaductlaw01.FaultFixed'. -/
def faultFixedUptoCard : Claim7 := { stood := { row := faultFixedUptoRow, standIns := [], harness := (true, "03ed006ed63ff2f031d873b887f5303c3c092e97bc3c0f526b03af67e4491d0a"), looks := true }, kinds := [], alts := [], laidByText := true, laidKinds := [.data, .data, .data, .handle], laidTests := true, laidLooks := .later }
def FaultFixedUptoCardSaid : Prop := Claim7.holds Tryd.pinned (.plain (OpenSpec.upto faultFixedSpec)) faultFixedUptoCard
end Rows
end Go.Proofs.YtkncgpnnilcicaaDoor
