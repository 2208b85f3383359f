/-
  Rows of one's own whose lists go on behind what is shown, within rows; rows of whose elements nothing is told; readings of one's own made weaker. Over any program.
-/
import Derived.Test.YtnfegieaaaigmaaQueryTextBView
namespace Go.Proofs.Ytnfegieaaaigmaa
open Go Go.RowKit

section
variable {α β γ δ : Type} {r : Rep α} {s : Rep β} {col : Col} {w : World} {a : Option Addr} {cap n c e : Nat} {xs : List α} {cs : List Value}

def Rep.vrow (e : TypeId) (r : Rep α) : Rep (Nat × List α) :=
 ⟨1, by decide, fun col w cs x bs => ∃ a cap, cs = [.slice a (x.2.take x.1).length cap] ∧ RowB r e col w a cap x.2 bs, fun ⟨_, _, h, _⟩ => by rw [h]; rfl, fun ⟨_, _, h, _⟩ => by rw [h]; simp [Value.oneCell'], fun ⟨_, _, _, h⟩ => h.lt,
  fun ⟨a, cap, h, hs⟩ hk hh => ⟨a, cap, h, hs.keep hk hh⟩⟩
theorem Froz.vrow {s : Rep α} (hf : Froz r s) : Froz (Rep.vrow e r) (Rep.view s) := ⟨rfl, fun ⟨a, cap, h1, h2⟩ h0 => ⟨⟨a, cap, h1, h2.sl hf h0⟩, rfl⟩⟩
theorem Has.vrow {x : Nat × List α} (h : Has (Rep.vrow e r) c col w cs x) : ∃ a cap, cs = [.slice a (x.2.take x.1).length cap] ∧ Own r e c col w a cap x.2 := by
 obtain ⟨bs, ⟨a, cap, h1, h2⟩, h3⟩ := h
 exact ⟨a, cap, h1, bs, h2, h3⟩
theorem Own.hasV (n : Nat) (h : Own r e c col w a cap xs) : Has (Rep.vrow e r) c col w [.slice a (xs.take n).length cap] (n, xs) := by
 obtain ⟨bs, h1, h2⟩ := h
 exact ⟨bs, ⟨a, cap, rfl, h1⟩, h2⟩
theorem Own.hasN (h : Own r e c col w a cap xs) : Has (Rep.vrow e r) c col w [.slice a xs.length cap] (xs.length, xs) := by have := h.hasV xs.length; rwa [List.take_length] at this
theorem rd_nilvrow : (Rep.vrow e r).rd col w [.slice none 0 0] (0, []) [] := ⟨none, 0, rfl, RowB.nil⟩

end
end Go.Proofs.Ytnfegieaaaigmaa
