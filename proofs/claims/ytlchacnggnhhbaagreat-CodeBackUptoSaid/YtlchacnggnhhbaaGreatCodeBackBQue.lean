/-
  A row of one's own whose front has been dropped (a queue): read, dropped again, appended to. Over any program.
-/
import Derived.Test.YtlchacnggnhhbaaGreatCodeBackBMore
namespace Go.Proofs.YtlchacnggnhhbaaGreat
open Go Go.RowKit
open Go.IntKind (i8 i16 i32 i64 u8 u16 u32 u64)

section
variable {α:Type} {r:Za α} {e c d i:Nat} {col col':Ze} {w w':World} {a:Option Addr} {cap:Nat} {xs ys:List α} {j:Int} {x0:α}
end
section
variable {i:IntKind} {e c:Nat} {col:Ze} {w:World} {a:Option Addr} {cap:Nat} {j:Int}
end
section
variable {α:Type} {P:Program} {r:Za α} {e m d:Nat} {rd:Option Nat} {f:Fr} {ops:Array Oper} {K:Fr→World→Prop} {rest:List Oper} {t:Nat} {p:String} {af:Array Edge} {x y:Operand} {col:Ze} {w:World} {xs ys:List α}
end
end Go.Proofs.YtlchacnggnhhbaaGreat
