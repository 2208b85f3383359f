/-
  Two rows of rows, of which each shares its rows with the other: while they are made ('zrow': rows that stay, their blocks told), and what is known of both then. Over any program.
-/
import Derived.Test.YtonkjfnjadofpaaGreatCodeNamesBCell
namespace Go.Proofs.YtonkjfnjadofpaaGreat
open Go Go.RowKit

section
variable {α : Type} {r : Rep α} {e e' : TypeId} {c i : Nat} {col col' : Col} {w w' : World} {a a' : Option Addr} {cap cap' b : Nat} {xs : List α} {bs : List Nat}

end

structure Two {α β : Type} (r : Rep α) (e : TypeId) (s : Rep β) (e' : TypeId) (c : Nat) (col : Col) (w : World) (a : Option Addr) (cap : Nat) (xs : List α) (a' : Option Addr) (cap' : Nat) (ys : List β) : Prop where
  old : Own r e c col w a cap xs
  new : Own s e' c col w a' cap' ys
section
variable {α β : Type} {r : Rep α} {s : Rep β} {e e' : TypeId} {c i : Nat} {col col' : Col} {w w' : World} {a a' : Option Addr} {cap cap' : Nat} {xs : List α} {ys : List β}
theorem Two.loc : Loc i (fun col w => Two r e s e' i col w a cap xs a' cap' ys) := fun ⟨h1, h2⟩ hs hk hh => ⟨Own.loc h1 hs hk hh, Own.loc h2 hs hk hh⟩
theorem Two.kp (h : Two r e s e' i col w a cap xs a' cap' ys) (hk : Keep c col w col' w') (hc : c ≠ 0 := by decide) (hi : i ≠ c := by decide) : Two r e s e' i col' w' a cap xs a' cap' ys := Two.loc.kp h hk hc hi
theorem Two.gr (h : Two r e s e' i col w a cap xs a' cap' ys) (hg : Grow col w col' w') : Two r e s e' i col' w' a cap xs a' cap' ys := Two.loc.gr h hg
theorem Two.kpp {p : Nat → Bool} (h : Two r e s e' i col w a cap xs a' cap' ys) (hk : KeepP p col w col' w') (h0 : p 0 = false := by rfl) (hi : p i = false := by rfl) : Two r e s e' i col' w' a cap xs a' cap' ys := Two.loc.kpp h hk h0 hi
theorem Two.froz (c : Nat) (h : Two r e s e' i col w a cap xs a' cap' ys) (hi : i ≠ c) : Two r e s e' i (frC c col) w a cap xs a' cap' ys := Two.loc.froz c h hi
theorem Two.recol (c d : Nat) (hc : i ≠ c ∧ c ≠ 0) (h : Two r e s e' i col w a cap xs a' cap' ys) : Two r e s e' i (rcC c d col) w a cap xs a' cap' ys := Two.loc.recol c d hc h
theorem Two.recolSelf (d : Nat) (hc : c ≠ 0) (h : Two r e s e' c col w a cap xs a' cap' ys) : Two r e s e' d (rcC c d col) w a cap xs a' cap' ys := ⟨h.1.recolSelf d hc, h.2.recolSelf d hc⟩
end

/-! ### elements of which nothing is known, or a row that stays -/
section
variable {α : Type} {r : Rep α} {col : Col} {w : World} {cs : List Value} {xs : List α} {bs : List Nat} {v : Value}
end

/-! ### a function is none -/
section
variable {P : Program} {f : Fr} {w : World} {col : Col} {dst : Option Tmp} {t : Nat} {p : String} {af : Array Edge} {x : Operand} {T : TypeId} {Y : Type} {v : Value} {arr : Y → Col → World → List Value → Prop} {ys : List Y} {q : Nat → Bool} {yt : TypeId}
end

/-! ### what a round may turn -/
end Go.Proofs.YtonkjfnjadofpaaGreat
