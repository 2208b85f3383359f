/-
  Two rows of rows, of which each shares its rows with the other: while they are made ('zrow': rows that stay, their blocks told), and what is known of both then. Over any program.
-/
import Derived.Test.YthclpfhncgpnmaaGreatJointTableBCell
namespace Go.Proofs.YthclpfhncgpnmaaGreat
open Go Go.RowKit
open Go.IntKind (i8 i16 i32 i64 u8 u16 u32 u64)

section
variable {α:Type} {r:Za α} {e e':TypeId} {c i:Nat} {col col':Zd} {w w':World} {a a':Option Addr} {cap cap' b:Nat} {xs:List α} {bs:List Nat}

end


/-! ### elements of which nothing is known,or a row that stays -/

/-! ### a function is none -/

/-! ### what a round may turn -/
theorem Zl7 {q:Nat→Bool} {c d:Nat} (h:(q c&&q d)=true):∀ x,q x=false→p2 c d x=false:=fun x g=>by
 rw [Bool.and_eq_true] at h
 exact Z8h (fun e=>by rw [e,h.1] at g;cases g) (fun e=>by rw [e,h.2] at g;cases g)
end Go.Proofs.YthclpfhncgpnmaaGreat
