/-
  None, or something: what is known of it. Over any program.
-/
import Derived.Test.YtnfegieaaaigmaaGreatDoorLexApartBTwo
namespace Go.Proofs.YtnfegieaaaigmaaGreatDoor
open Go Go.RowKit

def optP {α : Type} (v : Value) (x : Option α) (F : α → Prop) : Prop := match x with | none => v = .pointer none | some d => F d
def optC {α β : Type} (x : Option α) (a : Option β) (f : α → Option β) : Option β := match x with | none => a | some y => f y
theorem optC_none {α β : Type} {a : Option β} {f : α → Option β} {r : Option β} (h : optC none a f = r) : a = r := h
theorem optC_some {α β : Type} {y : α} {a : Option β} {f : α → Option β} {r : Option β} (h : optC (some y) a f = r) : f y = r := h
end Go.Proofs.YtnfegieaaaigmaaGreatDoor
