/-
  DERIVED. GIVEN WITH THE SEED: THE CARDS: each row of YtkcnnamghpdplaaDoorRows.lean that lists a variable, with what it lists TIED to the program's text (the seventh form; the later family's looks); each row that meets fmt, with fmt's text TOLD by the authors' own Lean function (tested against real Go, not proved from fmt's source: count such statements apart). THE CARD IS WHAT COUNTS. Prove the row's statement (the work); the ties are given (YtkcnnamghpdplaaDoorTie.lean); close each card by the builder's one call (the guide's Derived/Test/ToyasCard.lean, 'card_holds'). Laid BY PROGRAM, IN A SANDBOX (cutbox-door.mjs). By AI agents, Wed Nov 11 2026. No macro, syntax, notation, axiom, sorry.
-/
import Derived.Test.YtkcnnamghpdplaaDoorRows
import GoSem.ClaimSeven
namespace Go.Proofs.YtkcnnamghpdplaaDoor
namespace Rows

/-- THE TIED CARD OF 'viaductlaw20.ClimbSearches'. -/
def climbSearchesCard : Claim7 := { stood := { row := climbSearchesRow, standIns := [], harness := (true, "ff4cfe14c3e38251a0b00a1af80f95b67e07fbbeeb972e0d15d3291e26e42800"), looks := true }, kinds := [], alts := [], laidByText := true, laidKinds := [.handle], laidTests := true, laidLooks := .later }
def ClimbSearchesCardSaid : Prop := Claim7.holds Tryd.pinned (.plain (OpenSpec.ofChange climbSearchesSpec)) climbSearchesCard

/-- THE TIED CARD OF 'viaductlaw20.ClimbSteps'. -/
def climbStepsCard : Claim7 := { stood := { row := climbStepsRow, standIns := [], harness := (true, "ff4cfe14c3e38251a0b00a1af80f95b67e07fbbeeb972e0d15d3291e26e42800"), looks := true }, kinds := [], alts := [], laidByText := true, laidKinds := [.handle], laidTests := true, laidLooks := .later }
def ClimbStepsCardSaid : Prop := Claim7.holds Tryd.pinned (.plain (OpenSpec.ofChange climbStepsSpec)) climbStepsCard

/-- THE TIED CARD OF 'viaductlaw20.ClimbFixed'. -/
def climbFixedCard : Claim7 := { stood := { row := climbFixedRow, standIns := [], harness := (true, "ff4cfe14c3e38251a0b00a1af80f95b67e07fbbeeb972e0d15d3291e26e42800"), looks := true }, kinds := [], alts := [], laidByText := true, laidKinds := [.handle], laidTests := true, laidLooks := .later }
def ClimbFixedCardSaid : Prop := Claim7.holds Tryd.pinned (.plain (OpenSpec.ofChange climbFixedSpec)) climbFixedCard

/-- THE TIED CARD OF 'viaductlaw20.ClimbTight'. -/
def climbTightCard : Claim7 := { stood := { row := climbTightRow, standIns := [], harness := (true, "ff4cfe14c3e38251a0b00a1af80f95b67e07fbbeeb972e0d15d3291e26e42800"), looks := true }, kinds := [], alts := [], laidByText := true, laidKinds := [.handle], laidTests := true, laidLooks := .later }
def ClimbTightCardSaid : Prop := Claim7.holds Tryd.pinned (.plain (OpenSpec.ofChange climbTightSpec)) climbTightCard

/-- THE SECOND FORM's CARD OF 'viaductlaw20.ClimbSearches'. -/
def climbSearchesUptoCard : Claim7 := { stood := { row := climbSearchesUptoRow, standIns := [], harness := (true, "ff4cfe14c3e38251a0b00a1af80f95b67e07fbbeeb972e0d15d3291e26e42800"), looks := true }, kinds := [], alts := [], laidByText := true, laidKinds := [.handle], laidTests := true, laidLooks := .later }
def ClimbSearchesUptoCardSaid : Prop := Claim7.holds Tryd.pinned (.plain (OpenSpec.upto climbSearchesSpec)) climbSearchesUptoCard

/-- THE SECOND FORM's CARD OF 'viaductlaw20.ClimbSteps'. -/
def climbStepsUptoCard : Claim7 := { stood := { row := climbStepsUptoRow, standIns := [], harness := (true, "ff4cfe14c3e38251a0b00a1af80f95b67e07fbbeeb972e0d15d3291e26e42800"), looks := true }, kinds := [], alts := [], laidByText := true, laidKinds := [.handle], laidTests := true, laidLooks := .later }
def ClimbStepsUptoCardSaid : Prop := Claim7.holds Tryd.pinned (.plain (OpenSpec.upto climbStepsSpec)) climbStepsUptoCard

/-- THE SECOND FORM's CARD OF 'viaductlaw20.ClimbFixed'. -/
def climbFixedUptoCard : Claim7 := { stood := { row := climbFixedUptoRow, standIns := [], harness := (true, "ff4cfe14c3e38251a0b00a1af80f95b67e07fbbeeb972e0d15d3291e26e42800"), looks := true }, kinds := [], alts := [], laidByText := true, laidKinds := [.handle], laidTests := true, laidLooks := .later }
def ClimbFixedUptoCardSaid : Prop := Claim7.holds Tryd.pinned (.plain (OpenSpec.upto climbFixedSpec)) climbFixedUptoCard

/-- THE SECOND FORM's CARD OF 'viaductlaw20.ClimbTight'. -/
def climbTightUptoCard : Claim7 := { stood := { row := climbTightUptoRow, standIns := [], harness := (true, "ff4cfe14c3e38251a0b00a1af80f95b67e07fbbeeb972e0d15d3291e26e42800"), looks := true }, kinds := [], alts := [], laidByText := true, laidKinds := [.handle], laidTests := true, laidLooks := .later }
def ClimbTightUptoCardSaid : Prop := Claim7.holds Tryd.pinned (.plain (OpenSpec.upto climbTightSpec)) climbTightUptoCard
end Rows
end Go.Proofs.YtkcnnamghpdplaaDoor
