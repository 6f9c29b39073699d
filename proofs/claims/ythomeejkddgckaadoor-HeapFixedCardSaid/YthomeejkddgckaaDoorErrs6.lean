/- An error of no places: a number, as the program tells it and as the document does. -/
import Derived.Test.YthomeejkddgckaaDoorErrs5
import Derived.Handy
set_option linter.unusedSimpArgs false
set_option linter.unusedVariables false
namespace Go.Proofs.YthomeejkddgckaaDoor
open Go.RowKit

/-- an error's number as the document tells it: 0 is none -/
def toldV (c : Int) : Value := .agg #[.int .i64 c, .slice none 0 0]
/-- .. and as the program does -/
def errV (c : Int) : Value := if c = 0 then .nilIface else .iface 55 (.int .i64 c)
theorem Same_told (c : Int) (w : World) (hg : ErrT w) :
    Calls Tryd.prog 9 #[errV c, toldV c] w fun e w' => e = .returned (.bool true) ∧ Below w.heap.size w w' := by
  by_cases hc : c = 0
  · subst hc
    exact Same_none none 0 w
  · unfold errV toldV
    rw [if_neg hc]
    exact Same_true _ [] c none 0 0 w (.num c hc) hc ⟨rfl, fun h => absurd h (by omega)⟩ hg (by simp [maxLen])
theorem Bad_told (c : Int) (w : World) :
    Calls Tryd.prog 10 #[toldV c] w fun e w' => e = .returned (.bool (decide (c ≠ 0))) ∧ Below w.heap.size w w' :=
  (Bad_any c none 0 0 w (by simp [maxLen])).mono fun e w' h => by simpa using h

theorem E_any (c : Int) (w : World) : Calls Tryd.prog 18 #[.int .i64 c] w fun e w' => e = .returned (toldV c) ∧ Below w.heap.size w w' := by
  go_enter Tryd.func18, Tryd.ntmps18
  go_wp2_with fail
  go_returns
  exact ⟨rfl, (Below.refl _ w).alloc (Nat.le_refl _) _⟩
end Go.Proofs.YthomeejkddgckaaDoor
