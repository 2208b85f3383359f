/-
  A row of one's own whose front has been dropped (a queue): read, dropped again, appended to. Over any program.
-/
import Derived.Test.YtnfegieaaaigmaaGreatDoorLexApartBMore
namespace Go.Proofs.YtnfegieaaaigmaaGreatDoor
open Go Go.RowKit

end Go.Proofs.YtnfegieaaaigmaaGreatDoor
