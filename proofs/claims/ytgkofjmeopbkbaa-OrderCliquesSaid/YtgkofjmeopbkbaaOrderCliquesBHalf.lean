/-
  A row of rows of which some have stayed from some time on: data are a row's list, and whether it stays.
-/
import Derived.Test.YtgkofjmeopbkbaaOrderCliquesBGraph
set_option linter.unusedVariables false
namespace Go.Proofs.Ytgkofjmeopbkbaa
open Go Go.RowKit

section
variable {α : Type} {r : Rep α} {e e' : TypeId} {c d : Nat} {col : Col} {w : World} {cs : List Value} {a : Option Addr} {cap : Nat} {xs : List α}
def Rep.half (e : TypeId) (r : Rep α) : Rep (List α × Bool) :=
  ⟨1, by decide, fun col w cs x bs => (x.2 = true → (Rep.slice r).rd col w cs x.1 bs) ∧ (x.2 = false → (Rep.row e r).rd col w cs x.1 bs),
    fun {_ _ _ x _} h => by cases hx : x.2; exact (Rep.row e r).len (h.2 hx); exact (Rep.slice r).len (h.1 hx),
    fun {_ _ _ x _} h => by cases hx : x.2; exact (Rep.row e r).one (h.2 hx); exact (Rep.slice r).one (h.1 hx),
    fun {_ _ _ x _} h => by cases hx : x.2; exact (Rep.row e r).lt (h.2 hx); exact (Rep.slice r).lt (h.1 hx),
    fun h hk hh => ⟨fun hx => (Rep.slice r).keep (h.1 hx) hk hh, fun hx => (Rep.row e r).keep (h.2 hx) hk hh⟩⟩
theorem Has.halfO {x : List α × Bool} (h : Has (Rep.half e r) c col w cs x) (hx : x.2 = false) : ∃ a cap, cs = [.slice a x.1.length cap] ∧ Own r e c col w a cap x.1 := by
  obtain ⟨bs, h1, h2⟩ := h
  obtain ⟨a, cap, h3, h4⟩ := h1.2 hx
  exact ⟨a, cap, h3, bs, h4, h2⟩
theorem Has.halfF {x : List α × Bool} (h : Has (Rep.half e r) c col w cs x) (hx : x.2 = true) : ∃ a cap, cs = [.slice a x.1.length cap] ∧ Sl r col w a cap x.1 := by
  obtain ⟨bs, h1, h2⟩ := h
  exact (h1.1 hx).1
theorem Own.hasHalf (h : Own r e c col w a cap xs) : Has (Rep.half e r) c col w [.slice a xs.length cap] (xs, false) := by
  obtain ⟨bs, h1, h2⟩ := h
  exact ⟨bs, ⟨fun hx => (by cases hx), fun _ => ⟨a, cap, rfl, h1⟩⟩, h2⟩
theorem Sl.rdHalf (h : Sl r col w a cap xs) : (Rep.half e r).rd col w [.slice a xs.length cap] (xs, true) [] := ⟨fun _ => ⟨⟨a, cap, rfl, h⟩, rfl⟩, fun hx => (by cases hx)⟩
theorem Rows.half : ∀ {xs : List (List α)} {fl : List Value} {bs : List Nat}, Rows (Rep.row e r) col w fl xs bs → Rows (Rep.half e r) col w fl (xs.map fun x => (x, false)) bs
  | [], _, _, h => h
  | _ :: _, _, _, ⟨cs, fl', b1, b2, h, hb, h1, h2⟩ => ⟨cs, fl', b1, b2, h, hb, ⟨fun hx => (by cases hx), fun _ => h1⟩, h2.half⟩
theorem Own.half {xs : List (List α)} (h : Own (Rep.row e r) e' c col w a cap xs) : Own (Rep.half e r) e' c col w a cap (xs.map fun x => (x, false)) := by
  obtain ⟨bs, ⟨fl, b2, h1, h2, h3⟩, h4⟩ := h
  exact ⟨bs, ⟨fl, b2, by rw [List.length_map]; exact h1, h2.half, by rw [List.length_map]; exact h3⟩, h4⟩
end
end Go.Proofs.Ytgkofjmeopbkbaa
