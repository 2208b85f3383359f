/-
  Two rows of rows, of which each shares its rows with the other: while they are made ('zrow': rows that stay, their blocks told), and what is known of both then. Over any program.
-/
import Derived.Test.YtdpdogdkolblnaaGreatDoorQueryAskBCell
namespace Go.Proofs.YtdpdogdkolblnaaGreatDoor
open Go Go.RowKit
open Go.IntKind (i8 i16 i32 i64 u8 u16 u32 u64)

section
variable {α:Type} {r:Za α} {e e':TypeId} {c i:Nat} {col col':Zd} {w w':World} {a a':Option Addr} {cap cap' b:Nat} {xs:List α} {bs:List Nat}

end


/-! ### elements of which nothing is known,or a row that stays -/

/-! ### a function is none -/

/-! ### what a round may turn -/
theorem Zs6 {q:Nat→Bool} {c d:Nat} (h:(q c&&q d)=true):∀ x,q x=false→p2 c d x=false:=fun x hx=>by
 rw [Bool.and_eq_true] at h
 exact Zs5 (fun e=>by rw [e,h.1] at hx;cases hx) (fun e=>by rw [e,h.2] at hx;cases hx)
theorem Zs7 {q:Nat→Bool} {l:List Nat} (h:l.all q=true):∀ x,q x=false→pS l x=false:=fun x hx=>by
 rw [pS,List.any_eq_false]
 intro y hy he
 have:=List.all_eq_true.1 h y hy
 rw [← Nat.eq_of_beq_eq_true he,hx] at this
 cases this
end Go.Proofs.YtdpdogdkolblnaaGreatDoor
