/-
  What the bound on an argument's bulk gives of its reading. Over any program.
-/
import Derived.Test.YtdpdogdkolblnaaGreatDoorRows
import Derived.Test.YtdpdogdkolblnaaGreatDoorQueryAgainBOpen
namespace Go.Proofs.YtdpdogdkolblnaaGreatDoor
open Go Go.RowKit
open Go.IntKind (i8 i16 i32 i64 u8 u16 u32 u64)

def Zih:ByteArray→Nat:=fun s=>s.size+1
end Go.Proofs.YtdpdogdkolblnaaGreatDoor
