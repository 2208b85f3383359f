/-
  A row of one's own whose front has been dropped (a queue): read, dropped again, appended to. Over any program.
-/
import Derived.Test.YtdpdogdkolblnaaGreatDoorQueryAskBMore
namespace Go.Proofs.YtdpdogdkolblnaaGreatDoor
open Go Go.RowKit
open Go.IntKind (i8 i16 i32 i64 u8 u16 u32 u64)

end Go.Proofs.YtdpdogdkolblnaaGreatDoor
