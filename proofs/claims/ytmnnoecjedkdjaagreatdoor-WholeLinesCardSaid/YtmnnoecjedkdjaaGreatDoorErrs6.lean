/- An error of no places: a number, as the program tells it and as the document does. -/
import Derived.Test.YtmnnoecjedkdjaaGreatDoorErrs5
import Derived.Handy
set_option linter.unusedSimpArgs false
set_option linter.unusedVariables false
namespace Go.Proofs.YtmnnoecjedkdjaaGreatDoor
open Go.RowKit

/-- an error's number as the document tells it: 0 is none -/
def toldV (c : Int) : Value := .agg #[.int .i64 c, .slice none 0 0]
/-- .. and as the program does -/
def errVE (c : Int) : Value := if c = 0 then .nilIface else .iface 27 (.int .i64 c)
theorem Bad_told (c : Int) (w : World) :
    Calls Tryz.prog 61 #[toldV c] w fun e w' => e = .returned (.bool (decide (c ≠ 0))) ∧ Below w.heap.size w w' :=
  (BadE_any c none 0 0 w (by simp [maxLen])).mono fun e w' h => by simpa using h

theorem EE_any (c : Int) (w : World) : Calls Tryz.prog 85 #[.int .i64 c] w fun e w' => e = .returned (toldV c) ∧ Below w.heap.size w w' := by
  go_enter Tryz.func85, Tryz.ntmps85
  go_wp2_with fail
  go_returns
  exact ⟨rfl, (Below.refl _ w).alloc (Nat.le_refl _) _⟩
end Go.Proofs.YtmnnoecjedkdjaaGreatDoor
