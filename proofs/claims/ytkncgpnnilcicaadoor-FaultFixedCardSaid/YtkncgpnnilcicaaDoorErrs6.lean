/- An error of no places: a number, as the program tells it and as the document does. -/
import Derived.Test.YtkncgpnnilcicaaDoorErrs5
import Derived.Handy
set_option linter.unusedSimpArgs false
set_option linter.unusedVariables false
namespace Go.Proofs.YtkncgpnnilcicaaDoor
open Go.RowKit

/-- an error's number as the document tells it: 0 is none -/
def toldV (c : Int) : Value := .agg #[.int .i64 c, .slice none 0 0]
/-- .. and as the program does -/
def errV (c : Int) : Value := if c = 0 then .nilIface else .iface 24 (.int .i64 c)
theorem Bad_told (c : Int) (w : World) :
    Calls Tryd.prog 25 #[toldV c] w fun e w' => e = .returned (.bool (decide (c ≠ 0))) ∧ Below w.heap.size w w' :=
  (Bad_any c none 0 0 w (by simp [maxLen])).mono fun e w' h => by simpa using h

end Go.Proofs.YtkncgpnnilcicaaDoor
