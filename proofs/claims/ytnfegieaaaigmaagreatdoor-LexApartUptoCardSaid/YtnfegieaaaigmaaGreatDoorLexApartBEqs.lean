/-
  Structs and arrays of two parts, compared; the length of a map. Over any program.
-/
import Derived.Test.YtnfegieaaaigmaaGreatDoorLexApartBFloat
namespace Go.Proofs.YtnfegieaaaigmaaGreatDoor
open Go Go.RowKit

variable {P : Program} {f : Fr} {T t : Nat} {dst : Option Nat} {p : String} {af : Array Edge} {w : World} {x y : Operand} {xs ys : Array Value}

def PEq (P : Program) (T : TypeId) (x y : Value) (b : Bool) : Prop := ∀ d w, (Op.equalIn (d + 1) T x y).run P w = .ok b w
theorem beq_dec (a b : ByteArray) : (a == b) = decide (a = b) := by
 have e : (a == b) = (a.data == b.data) := rfl
 rw [e, Bool.eq_iff_iff, beq_iff_eq, decide_eq_true_eq]
 exact ⟨fun h => by cases a; cases b; simpa using h, fun h => by rw [h]⟩
theorem peq_str {T : TypeId} (a b : ByteArray) (hT : P.underlying T = some .string) : PEq P T (.string a) (.string b) (decide (a = b)) := fun d w => by
 unfold Op.equalIn
 simp [run_underlying hT, beq_dec]
theorem peq_int {T : TypeId} {k j : IntKind} (a b : Int) (hT : P.underlying T = some (.int k)) : PEq P T (.int j a) (.int j b) (decide (a = b)) := fun d w => by
 unfold Op.equalIn
 simp [run_underlying hT]
 by_cases h : a = b <;> simp [h]
theorem r_eqlA {yt : TypeId} {b : Bool} (hx : ev f x = .agg xs) (hy : ev f y = .agg ys) (hg : P.eqGuardType P.depth T = false) (he : ∀ w, (Op.equal T (.agg xs) (.agg ys)).run P w = .ok b w) : (execOp (ev f) ⟨dst, .binOp .eql T x y yt, t, p, af, none⟩).run P w = .ok (.value (.bool b)) w := by
 simp [execOp, hx, hy, eqGuard, binOp, he, run_program, hg]
end Go.Proofs.YtnfegieaaaigmaaGreatDoor
