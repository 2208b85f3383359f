/-
  What the bound on an argument's bulk gives of its reading. Over any program.
-/
import Derived.Test.YtnfegieaaaigmaaGreatDoorRows
import Derived.Test.YtnfegieaaaigmaaGreatDoorLexEachBOpen
namespace Go.Proofs.YtnfegieaaaigmaaGreatDoor
open Go Go.RowKit

def bkT : ByteArray → Nat := fun s => s.size + 1
end Go.Proofs.YtnfegieaaaigmaaGreatDoor
