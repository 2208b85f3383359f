/-
  The library's sort of a row of integers: its contract in the words of the printed proofs. Over any program.
-/
import Derived.Test.YtdpdogdkolblnaaGreatDoorQueryAskBMore
import Derived.Sort.OwnSortedInts
namespace Go.Proofs.YtdpdogdkolblnaaGreatDoor
open Go Go.RowKit Go.Sort
open Go.IntKind (i8 i16 i32 i64 u8 u16 u32 u64)

end Go.Proofs.YtdpdogdkolblnaaGreatDoor
