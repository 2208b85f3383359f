/-
  A region that draws its order and turns the world, in which some reads look past what turns: its operations in one order that stands for all. Over any program.
-/
import Derived.Test.YtnfegieaaaigmaaGreatDoorLexApartBThree
namespace Go.Proofs.YtnfegieaaaigmaaGreatDoor
open Go Go.RowKit

/-! reads that look past what turns -/
end Go.Proofs.YtnfegieaaaigmaaGreatDoor
