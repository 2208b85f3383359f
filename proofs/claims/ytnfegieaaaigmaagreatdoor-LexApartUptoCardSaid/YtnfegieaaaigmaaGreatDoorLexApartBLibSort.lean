/-
  The library's sort of a row of integers: its contract in the words of the printed proofs. Over any program.
-/
import Derived.Test.YtnfegieaaaigmaaGreatDoorLexApartBMore
import Derived.Sort.OwnSortedInts
namespace Go.Proofs.YtnfegieaaaigmaaGreatDoor
open Go Go.RowKit Go.Sort

end Go.Proofs.YtnfegieaaaigmaaGreatDoor
