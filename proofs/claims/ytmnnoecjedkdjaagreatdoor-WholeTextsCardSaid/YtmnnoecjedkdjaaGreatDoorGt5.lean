/- The words of a line, the rows of a text: the document's. -/
import Derived.Test.YtmnnoecjedkdjaaGreatDoorGt4
set_option linter.unusedSimpArgs false
set_option linter.unusedVariables false
namespace Go.Proofs.YtmnnoecjedkdjaaGreatDoor
open Go.RowKit Txt

theorem empty_tt {x : ByteArray} (h : x.data.toList = []) : x.toList.isEmpty = true := by rw [Lib.toList_data, h]; rfl
theorem empty_ff {x : ByteArray} (h : x.data.toList ≠ []) : x.toList.isEmpty = false := by
  rw [Lib.toList_data]
  cases hx : x.data.toList with
  | nil => exact absurd hx h
  | cons _ _ => rfl
end Go.Proofs.YtmnnoecjedkdjaaGreatDoor
