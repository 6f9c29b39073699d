/- The document's: the error of a row by its form. -/
import Derived.Test.YtmnnoecjedkdjaaGreatDoorGt15
import Derived.BigRegion
import Derived.RegionTactic
set_option linter.unusedSimpArgs false
set_option linter.unusedVariables false
namespace Go.Proofs.YtmnnoecjedkdjaaGreatDoor
open Go.RowKit Txt

/-- an error of the document's, and new blocks at most -/
def ErrAt (b : Bug) (W : World) (e : Ending) (w' : World) : Prop := Below W.heap.size W w' ∧ ∃ x, e = .returned (errV x) ∧ DocX b W.heap.size x w'
end Go.Proofs.YtmnnoecjedkdjaaGreatDoor
