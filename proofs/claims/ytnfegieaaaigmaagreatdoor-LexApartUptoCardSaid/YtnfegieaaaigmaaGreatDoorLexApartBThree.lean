/-
  Slices with three bounds, of what stays. Over any program.
-/
import Derived.Test.YtnfegieaaaigmaaGreatDoorLexApartBFloat
import Derived.Test.YtnfegieaaaigmaaGreatDoorLexApartBQue
import Derived.Test.YtnfegieaaaigmaaGreatDoorLexApartBLibSort
import Derived.Laws.BytesString
import Derived.Laws.Cells
set_option linter.unusedVariables false
namespace Go.Proofs.YtnfegieaaaigmaaGreatDoor
open Go Go.RowKit

def bstr (xs : List Int) : ByteArray := xs.foldl (fun r n => r.push (UInt8.ofNat n.toNat)) ByteArray.empty
end Go.Proofs.YtnfegieaaaigmaaGreatDoor
