/-
  The library's sort of a row of integers: its contract in the words of the printed proofs. Over any program.
-/
import Derived.Test.YtnfegieaaaigmaaQueryTextBMore
import Derived.Sort.OwnSortedInts
namespace Go.Proofs.Ytnfegieaaaigmaa
open Go Go.RowKit Go.Sort

end Go.Proofs.Ytnfegieaaaigmaa
