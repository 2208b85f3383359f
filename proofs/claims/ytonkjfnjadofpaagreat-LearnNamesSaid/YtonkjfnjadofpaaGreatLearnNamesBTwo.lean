/-
  Two rows of rows, of which each shares its rows with the other: while they are made ('zrow': rows that stay, their blocks told), and what is known of both then. Over any program.
-/
import Derived.Test.YtonkjfnjadofpaaGreatLearnNamesBCell
namespace Go.Proofs.YtonkjfnjadofpaaGreat
open Go Go.RowKit

section
variable {α : Type} {r : Rep α} {e e' : TypeId} {c i : Nat} {col col' : Col} {w w' : World} {a a' : Option Addr} {cap cap' b : Nat} {xs : List α} {bs : List Nat}

end

section
variable {α β : Type} {r : Rep α} {s : Rep β} {e e' : TypeId} {c i : Nat} {col col' : Col} {w w' : World} {a a' : Option Addr} {cap cap' : Nat} {xs : List α} {ys : List β}
end

/-! ### elements of which nothing is known, or a row that stays -/
section
variable {α : Type} {r : Rep α} {col : Col} {w : World} {cs : List Value} {xs : List α} {bs : List Nat} {v : Value}
end

/-! ### a function is none -/
section
variable {P : Program} {f : Fr} {w : World} {col : Col} {dst : Option Tmp} {t : Nat} {p : String} {af : Array Edge} {x : Operand} {T : TypeId} {Y : Type} {v : Value} {arr : Y → Col → World → List Value → Prop} {ys : List Y} {q : Nat → Bool} {yt : TypeId}
end

/-! ### what a round may turn -/
theorem pCo_pS {l : List Nat} (h : l.all pCo = true) : ∀ x, pCo x = false → pS l x = false := fun x hx => by
  rw [pS, List.any_eq_false]
  intro y hy he
  have := List.all_eq_true.1 h y hy
  rw [← Nat.eq_of_beq_eq_true he, hx] at this
  cases this
end Go.Proofs.YtonkjfnjadofpaaGreat
