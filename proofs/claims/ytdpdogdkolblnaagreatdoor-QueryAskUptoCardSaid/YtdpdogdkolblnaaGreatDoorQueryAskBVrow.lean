/-
  Rows of one's own whose lists go on behind what is shown, within rows; rows of whose elements nothing is told; readings of one's own made weaker. Over any program.
-/
import Derived.Test.YtdpdogdkolblnaaGreatDoorQueryAskBView
namespace Go.Proofs.YtdpdogdkolblnaaGreatDoor
open Go Go.RowKit
open Go.IntKind (i8 i16 i32 i64 u8 u16 u32 u64)

section
variable {α β γ δ:Type} {r:Za α} {s:Za β} {col:Zd} {w:World} {a:Option Addr} {cap n c e:Nat} {xs:List α} {cs:List Value}

end
end Go.Proofs.YtdpdogdkolblnaaGreatDoor
