/-
  Data that came in: how an argument, as the statement's form reads it, is read by 'Rep'. Over any program.
-/
import Derived.Test.YtdpdogdkolblnaaGreatDoorQueryNamesBRange
import Derived.ProofKit
import Derived.OpenShut
namespace Go.Proofs.YtdpdogdkolblnaaGreatDoor
open Go Go.RowKit
open Go.IntKind (i8 i16 i32 i64 u8 u16 u32 u64)

end Go.Proofs.YtdpdogdkolblnaaGreatDoor
