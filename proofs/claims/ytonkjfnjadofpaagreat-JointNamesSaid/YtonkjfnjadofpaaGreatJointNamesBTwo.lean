/-
  Two rows of rows, of which each shares its rows with the other: while they are made ('zrow': rows that stay, their blocks told), and what is known of both then. Over any program.
-/
import Derived.Test.YtonkjfnjadofpaaGreatJointNamesBCell
namespace Go.Proofs.YtonkjfnjadofpaaGreat
open Go Go.RowKit

section
variable {α : Type} {r : Rep α} {e e' : TypeId} {c i : Nat} {col col' : Col} {w w' : World} {a a' : Option Addr} {cap cap' b : Nat} {xs : List α} {bs : List Nat}

end

section
variable {α β : Type} {r : Rep α} {s : Rep β} {e e' : TypeId} {c i : Nat} {col col' : Col} {w w' : World} {a a' : Option Addr} {cap cap' : Nat} {xs : List α} {ys : List β}
end

/-! ### elements of which nothing is known, or a row that stays -/
section
variable {α : Type} {r : Rep α} {col : Col} {w : World} {cs : List Value} {xs : List α} {bs : List Nat} {v : Value}
end

/-! ### a function is none -/
section
variable {P : Program} {f : Fr} {w : World} {col : Col} {dst : Option Tmp} {t : Nat} {p : String} {af : Array Edge} {x : Operand} {T : TypeId} {Y : Type} {v : Value} {arr : Y → Col → World → List Value → Prop} {ys : List Y} {q : Nat → Bool} {yt : TypeId}
end

/-! ### what a round may turn -/
theorem pCo_p2 {q : Nat → Bool} {c d : Nat} (h : (q c && q d) = true) : ∀ x, q x = false → p2 c d x = false := fun x hx => by
  rw [Bool.and_eq_true] at h
  exact p2_ne (fun e => by rw [e, h.1] at hx; cases hx) (fun e => by rw [e, h.2] at hx; cases hx)
end Go.Proofs.YtonkjfnjadofpaaGreat
