/- The document's digits and numbers. -/
import Derived.Test.YtmnnoecjedkdjaaGreatDoorGt7
set_option linter.unusedSimpArgs false
set_option linter.unusedVariables false
namespace Go.Proofs.YtmnnoecjedkdjaaGreatDoor
open Go.RowKit Txt

end Go.Proofs.YtmnnoecjedkdjaaGreatDoor
