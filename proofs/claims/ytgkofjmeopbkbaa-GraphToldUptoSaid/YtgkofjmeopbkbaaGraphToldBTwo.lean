/-
  Two rows of rows, of which each shares its rows with the other: while they are made ('zrow': rows that stay, their blocks told), and what is known of both then. Over any program.
-/
import Derived.Test.YtgkofjmeopbkbaaGraphToldBCell
namespace Go.Proofs.Ytgkofjmeopbkbaa
open Go Go.RowKit

section
variable {α : Type} {r : Rep α} {e e' : TypeId} {c i : Nat} {col col' : Col} {w w' : World} {a a' : Option Addr} {cap cap' b : Nat} {xs : List α} {bs : List Nat}

end

/-- What is known of two owned rows, which may share. -/
structure Two {α β : Type} (r : Rep α) (e : TypeId) (s : Rep β) (e' : TypeId) (c : Nat) (col : Col) (w : World) (a : Option Addr) (cap : Nat) (xs : List α) (a' : Option Addr) (cap' : Nat) (ys : List β) : Prop where
  old : Own r e c col w a cap xs
  new : Own s e' c col w a' cap' ys
section
variable {α β : Type} {r : Rep α} {s : Rep β} {e e' : TypeId} {c i : Nat} {col col' : Col} {w w' : World} {a a' : Option Addr} {cap cap' : Nat} {xs : List α} {ys : List β}
theorem Two.loc : Loc i (fun col w => Two r e s e' i col w a cap xs a' cap' ys) := fun ⟨h1, h2⟩ hs hk hh => ⟨Own.loc h1 hs hk hh, Own.loc h2 hs hk hh⟩
theorem Two.kp (h : Two r e s e' i col w a cap xs a' cap' ys) (hk : Keep c col w col' w') (hc : c ≠ 0) (hi : i ≠ c) : Two r e s e' i col' w' a cap xs a' cap' ys := Two.loc.kp h hk hc hi
theorem Two.gr (h : Two r e s e' i col w a cap xs a' cap' ys) (hg : Grow col w col' w') : Two r e s e' i col' w' a cap xs a' cap' ys := Two.loc.gr h hg
theorem Two.kpp {p : Nat → Bool} (h : Two r e s e' i col w a cap xs a' cap' ys) (hk : KeepP p col w col' w') (h0 : p 0 = false) (hi : p i = false) : Two r e s e' i col' w' a cap xs a' cap' ys := Two.loc.kpp h hk h0 hi
theorem Two.froz (c : Nat) (h : Two r e s e' i col w a cap xs a' cap' ys) (hi : i ≠ c) : Two r e s e' i (frC c col) w a cap xs a' cap' ys := Two.loc.froz c h hi
theorem Two.recol (c d : Nat) (hc : i ≠ c ∧ c ≠ 0) (h : Two r e s e' i col w a cap xs a' cap' ys) : Two r e s e' i (rcC c d col) w a cap xs a' cap' ys := Two.loc.recol c d hc h
theorem Two.recolSelf (d : Nat) (hc : c ≠ 0) (h : Two r e s e' c col w a cap xs a' cap' ys) : Two r e s e' d (rcC c d col) w a cap xs a' cap' ys := ⟨h.1.recolSelf d hc, h.2.recolSelf d hc⟩
end

/-! ### elements of which nothing is known, or a row that stays -/
section
variable {α : Type} {r : Rep α} {col : Col} {w : World} {cs : List Value} {xs : List α} {bs : List Nat} {v : Value}
end

/-! ### a function is none -/
section
variable {P : Program} {f : Fr} {w : World} {col : Col} {dst : Option Tmp} {t : Nat} {p : String} {af : Array Edge} {x : Operand} {T : TypeId} {Y : Type} {v : Value} {arr : Y → Col → World → List Value → Prop} {ys : List Y} {q : Nat → Bool} {yt : TypeId}
theorem r_eqlNilF (h : It P v arr ys q col w) (hT : ∃ a b c, P.underlying T = some (.func a b c)) (hx : ev f x = v) : (execOp (ev f) ⟨dst, .binOp .eql T x (.const .nilFunc) yt, t, p, af, none⟩).run P w = .ok (.value (.bool false)) w := by
  obtain ⟨gf, lb, rfl, _⟩ := h
  obtain ⟨a, b, c, hT⟩ := hT
  have he : ev f (.const .nilFunc) = .nilFunc := rfl
  have h1 : ∀ w, (Op.equal T (.func (.func gf) #[] lb.toArray) .nilFunc).run P w = .ok false w := by
    intro w
    unfold Op.equal
    rw [show Op.maxDepth = 9999 + 1 from rfl]
    unfold Op.equalIn
    simp [run_underlying hT]
  simp [execOp, he, hx, eqGuard, binOp, h1]
end

/-! ### what a round may turn -/
theorem pCo_p2 {c d : Nat} (h : (pCo c && pCo d) = true) : ∀ x, pCo x = false → p2 c d x = false := fun x hx => by
  rw [Bool.and_eq_true] at h
  exact p2_ne (fun e => by rw [e, h.1] at hx; cases hx) (fun e => by rw [e, h.2] at hx; cases hx)
theorem pCo_p1 {c : Nat} (h : pCo c = true) : ∀ x, pCo x = false → p1 c x = false := fun x hx => p1_ne fun e => by rw [e, h] at hx; cases hx
theorem pCo_pS {l : List Nat} (h : l.all pCo = true) : ∀ x, pCo x = false → pS l x = false := fun x hx => by
  rw [pS, List.any_eq_false]
  intro y hy he
  have := List.all_eq_true.1 h y hy
  rw [← Nat.eq_of_beq_eq_true he, hx] at this
  cases this
end Go.Proofs.Ytgkofjmeopbkbaa
