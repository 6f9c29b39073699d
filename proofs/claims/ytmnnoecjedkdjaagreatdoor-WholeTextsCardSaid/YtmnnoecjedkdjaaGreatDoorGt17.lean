/- The document's: the number of a word of a row. -/
import Derived.Test.YtmnnoecjedkdjaaGreatDoorGt16
set_option linter.unusedSimpArgs false
set_option linter.unusedVariables false
namespace Go.Proofs.YtmnnoecjedkdjaaGreatDoor
open Go.RowKit Txt

end Go.Proofs.YtmnnoecjedkdjaaGreatDoor
