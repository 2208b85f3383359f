/-
  Two rows of rows, of which each shares its rows with the other: while they are made ('zrow': rows that stay, their blocks told), and what is known of both then. Over any program.
-/
import Derived.Test.YtlchacnggnhhbaaGreatCodeBackBCell
namespace Go.Proofs.YtlchacnggnhhbaaGreat
open Go Go.RowKit
open Go.IntKind (i8 i16 i32 i64 u8 u16 u32 u64)

section
variable {α:Type} {r:Za α} {e e':TypeId} {c i:Nat} {col col':Ze} {w w':World} {a a':Option Addr} {cap cap' b:Nat} {xs:List α} {bs:List Nat}

end

section
variable {α β:Type} {r:Za α} {s:Za β} {e e':TypeId} {c i:Nat} {col col':Ze} {w w':World} {a a':Option Addr} {cap cap':Nat} {xs:List α} {ys:List β}
end

/-! ### elements of which nothing is known,or a row that stays -/
section
variable {α:Type} {r:Za α} {col:Ze} {w:World} {cs:List Value} {xs:List α} {bs:List Nat} {v:Value}
end

/-! ### a function is none -/
section
variable {P:Program} {f:Fr} {w:World} {col:Ze} {dst:Option Tmp} {t:Nat} {p:String} {af:Array Edge} {x:Operand} {T:TypeId} {Y:Type} {v:Value} {arr:Y→Ze→World→List Value→Prop} {ys:List Y} {q:Nat→Bool} {yt:TypeId}
end

/-! ### what a round may turn -/
end Go.Proofs.YtlchacnggnhhbaaGreat
