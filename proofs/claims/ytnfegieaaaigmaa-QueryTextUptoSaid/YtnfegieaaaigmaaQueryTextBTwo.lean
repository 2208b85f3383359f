/-
  Two rows of rows, of which each shares its rows with the other: while they are made ('zrow': rows that stay, their blocks told), and what is known of both then. Over any program.
-/
import Derived.Test.YtnfegieaaaigmaaQueryTextBCell
namespace Go.Proofs.Ytnfegieaaaigmaa
open Go Go.RowKit

section
variable {α : Type} {r : Rep α} {e e' : TypeId} {c i : Nat} {col col' : Col} {w w' : World} {a a' : Option Addr} {cap cap' b : Nat} {xs : List α} {bs : List Nat}

end


/-! ### elements of which nothing is known, or a row that stays -/

/-! ### a function is none -/

/-! ### what a round may turn -/
end Go.Proofs.Ytnfegieaaaigmaa
