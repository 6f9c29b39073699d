/- The document's: a row that isn't there. -/
import Derived.Test.YtmnnoecjedkdjaaGreatDoorGt17
set_option linter.unusedSimpArgs false
set_option linter.unusedVariables false
namespace Go.Proofs.YtmnnoecjedkdjaaGreatDoor
open Go.RowKit Txt

end Go.Proofs.YtmnnoecjedkdjaaGreatDoor
