/-
  Slices whose lists go on behind their ends, within rows: what is told is how much is shown, and the whole list. Over any program.
-/
import Derived.Test.YtdpdogdkolblnaaGreatDoorQueryAskBFloat
namespace Go.Proofs.YtdpdogdkolblnaaGreatDoor
open Go Go.RowKit
open Go.IntKind (i8 i16 i32 i64 u8 u16 u32 u64)

section
variable {α β γ δ:Type} {r:Za α} {s:Za β} {col:Zd} {w:World} {a:Option Addr} {cap n c:Nat} {xs:List α} {cs:List Value}

end
end Go.Proofs.YtdpdogdkolblnaaGreatDoor
