/-
  Slices whose lists go on behind their ends, within rows: what is told is how much is shown, and the whole list. Over any program.
-/
import Derived.Test.YtnfegieaaaigmaaQueryTextBFloat
namespace Go.Proofs.Ytnfegieaaaigmaa
open Go Go.RowKit

section
variable {α β γ δ : Type} {r : Rep α} {s : Rep β} {col : Col} {w : World} {a : Option Addr} {cap n c : Nat} {xs : List α} {cs : List Value}

def Rep.view (r : Rep α) : Rep (Nat × List α) :=
 ⟨1, by decide, fun col w cs x bs => (∃ a cap, cs = [.slice a (x.2.take x.1).length cap] ∧ Sl r col w a cap x.2) ∧ bs = [], fun ⟨⟨_, _, h, _⟩, _⟩ => by rw [h]; rfl, fun ⟨⟨_, _, h, _⟩, _⟩ => by rw [h]; simp [Value.oneCell'], fun ⟨_, h⟩ => by rw [h]; simp,
  fun ⟨⟨a, cap, h, hs⟩, hb⟩ hk _ => ⟨⟨a, cap, h, hs.keep hk⟩, hb⟩⟩
def vw0 (x : Nat × List α) : List α := x.2.take x.1
def vwm (f : α → β) (x : Nat × List α) : List β := (x.2.take x.1).map f
def Weak (r : Rep α) (s : Rep β) (f : α → β) : Prop := s.sz = r.sz ∧ ∀ {col w cs x}, r.rd col w cs x [] → s.rd col w cs (f x) []
theorem Weak.rfl : Weak r r id := ⟨Eq.refl _, fun h => h⟩
theorem Weak.pair {r' : Rep γ} {s' : Rep δ} {f : α → β} {g : γ → δ} (h : Weak r s f) (k : Weak r' s' g) : Weak (Rep.pair r r') (Rep.pair s s') (Prod.map f g) :=
 ⟨by show s.sz + s'.sz = r.sz + r'.sz; rw [h.1, k.1], fun ⟨c1, c2, b1, b2, h1, hb, h2, h3⟩ => by
  have e := List.append_eq_nil_iff.1 hb.symm
  rw [e.1] at h2; rw [e.2] at h3
  exact ⟨c1, c2, [], [], h1, Eq.refl _, h.2 h2, k.2 h3⟩⟩
theorem Rows.weak {f : α → β} (hf : Weak r s f) : ∀ {xs : List α} {fl : List Value}, Rows r col w fl xs [] → Rows s col w fl (xs.map f) []
 | [], _, h => ⟨h.1, Eq.refl _⟩
 | _ :: _, _, ⟨cs, fl', b1, b2, h, hb, h1, h2⟩ => by
  have e := List.append_eq_nil_iff.1 hb.symm
  rw [e.1] at h1; rw [e.2] at h2
  exact ⟨cs, fl', [], [], h, Eq.refl _, hf.2 h1, Rows.weak hf h2⟩
theorem Sl.weak {f : α → β} (h : Sl r col w a cap xs) (hf : Weak r s f) : Sl s col w a cap (xs.map f) := by
 refine ⟨by rw [List.length_map]; exact h.1, ?_⟩
 rcases h.2 with h | ⟨b, off, fl, ha, hb, hr, hx⟩
 ·exact .inl (by rw [h]; exact Eq.refl _)
 ·exact .inr ⟨b, off, fl, ha, hb, hr.weak hf, hx⟩
theorem Weak.view {f : α → β} (hf : Weak r s f) : Weak (Rep.view r) (Rep.slice s) (vwm f) :=
 ⟨Eq.refl _, fun ⟨⟨a, cap, h, hs⟩, hb⟩ => ⟨⟨a, cap, by rw [h, vwm, List.length_map], (hs.take _).weak hf⟩, hb⟩⟩
theorem Weak.view0 : Weak (Rep.view r) (Rep.slice r) vw0 :=
 ⟨Eq.refl _, fun ⟨⟨a, cap, h, hs⟩, hb⟩ => ⟨⟨a, cap, h, hs.take _⟩, hb⟩⟩
end
end Go.Proofs.Ytnfegieaaaigmaa
