/-
  Data that came in: how an argument, as the statement's form reads it, is read by 'Rep'. Over any program.
-/
import Derived.Test.YtnfegieaaaigmaaGreatDoorLexEachBRange
import Derived.ProofKit
import Derived.OpenShut
namespace Go.Proofs.YtnfegieaaaigmaaGreatDoor
open Go Go.RowKit

end Go.Proofs.YtnfegieaaaigmaaGreatDoor
