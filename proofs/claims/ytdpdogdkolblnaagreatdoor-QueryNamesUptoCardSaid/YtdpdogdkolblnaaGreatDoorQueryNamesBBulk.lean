/-
  What the bound on an argument's bulk gives of its reading. Over any program.
-/
import Derived.Test.YtdpdogdkolblnaaGreatDoorRows
import Derived.Test.YtdpdogdkolblnaaGreatDoorQueryNamesBOpen
namespace Go.Proofs.YtdpdogdkolblnaaGreatDoor
open Go Go.RowKit
open Go.IntKind (i8 i16 i32 i64 u8 u16 u32 u64)

end Go.Proofs.YtdpdogdkolblnaaGreatDoor
