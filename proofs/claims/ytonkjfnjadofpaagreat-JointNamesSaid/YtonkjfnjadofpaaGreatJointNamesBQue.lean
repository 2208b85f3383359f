/-
  A row of one's own whose front has been dropped (a queue): read, dropped again, appended to. Over any program.
-/
import Derived.Test.YtonkjfnjadofpaaGreatJointNamesBMore
namespace Go.Proofs.YtonkjfnjadofpaaGreat
open Go Go.RowKit

section
variable {α : Type} {r : Rep α} {e c d i : Nat} {col col' : Col} {w w' : World} {a : Option Addr} {cap : Nat} {xs ys : List α} {j : Int} {x0 : α}
end
section
variable {i : IntKind} {e c : Nat} {col : Col} {w : World} {a : Option Addr} {cap : Nat} {j : Int}
end
section
variable {α : Type} {P : Program} {r : Rep α} {e m d : Nat} {rd : Option Nat} {f : Fr} {ops : Array Oper} {K : Fr → World → Prop} {rest : List Oper} {t : Nat} {p : String} {af : Array Edge} {x y : Operand} {col : Col} {w : World} {xs ys : List α}
end
end Go.Proofs.YtonkjfnjadofpaaGreat
