/-
  Data that came in: how an argument, as the statement's form reads it, is read by 'Rep'. Over any program.
-/
import Derived.Test.YtnfegieaaaigmaaGreatDoorLexApartBRange
import Derived.ProofKit
import Derived.OpenShut
namespace Go.Proofs.YtnfegieaaaigmaaGreatDoor
open Go Go.RowKit

def Opn (P : Program) (t : TypeId) {α : Type} (r : Rep α) (R : ∀ {H : Type}, α → DataW H → Prop) : Prop :=
 ∀ {H : Type} {enc : TypeId × Value → H} {W : World} {base : Nat} {spare : Nat → Bool} {held : Bool} {fuel : Nat} {cs : List Value} {x : DataW H × List MemPlace},
  DataW.trod enc P W base spare held fuel t cs = some x → ∃ y, r.rd (fun _ => 0) W cs y [] ∧ R y x.1

def RL {α : Type} (R : ∀ {H : Type}, α → DataW H → Prop) {H : Type} (ys : List α) (d : DataW H) : Prop :=
 (ys = [] ∧ d = .nil) ∨ ∃ ds sp, d = .slice ds sp ∧ ds.length = ys.length ∧ ∀ (i : Nat) (y : α) (e : DataW H), ys[i]? = some y → ds[i]? = some e → R y e

section
variable {P : Program} {t e : TypeId}
theorem Opn.int {k : IntKind} (ht : P.underlying t = some (.int k)) : Opn P t (Rep.int k) (fun y d => d = .lit (.int k y) ∧ (Lit.int k y).wf = true) := by
 intro H enc W base spare held fuel cs x h
 obtain ⟨n, rfl, rfl, hw⟩ := DataW.trod_int ht h
 exact ⟨n, ⟨rfl, rfl⟩, rfl, hw⟩
theorem rows_of {α : Type} {r : Rep α} {col : Col} {w : World} {a : Addr} (n : Nat) (f : Nat → List Value → α → Prop)
  (h : ∀ i, i < n → ∃ cs y, r.rd col w cs y [] ∧ f i cs y ∧ ∀ q v, cs[q]? = some v → w.cell? (a.add (i * r.sz + q)) = some v) :
  ∃ fl ys, ys.length = n ∧ Rows r col w fl ys [] ∧ (∀ q v, fl[q]? = some v → w.cell? (a.add q) = some v) ∧ ∀ i y, ys[i]? = some y → ∃ cs, f i cs y := by
 induction n with
 | zero => exact ⟨[], [], rfl, ⟨rfl, rfl⟩, by simp, by simp⟩
 | succ n ih =>
  obtain ⟨fl, ys, h1, h2, h3, h4⟩ := ih fun i hi => h i (by omega)
  obtain ⟨cs, y, k1, k2, k3⟩ := h n (by omega)
  have hfl := h2.length
  refine ⟨fl ++ cs, ys ++ [y], by simp [h1], by have h5 : Rows r col w cs [y] [] := ⟨cs, [], [], [], by simp, rfl, k1, ⟨rfl, rfl⟩⟩; exact h2.append h5, fun q v hq => ?_, fun i y' hi => ?_⟩
  ·by_cases hlt : q < fl.length
   ·rw [List.getElem?_append_left hlt] at hq; exact h3 q v hq
   ·rw [List.getElem?_append_right (by omega)] at hq
    have := k3 _ v hq
    rw [hfl, h1] at this
    rwa [show n * r.sz + (q - n * r.sz) = q by rw [hfl, h1] at hlt; omega] at this
  ·by_cases hlt : i < ys.length
   ·rw [List.getElem?_append_left hlt] at hi; exact h4 i y' hi
   ·rw [List.getElem?_append_right (by omega)] at hi
    have : i = n := by
     rcases Nat.lt_or_ge (i - ys.length) 1 with h5 | h5
     ·omega
     ·rw [List.getElem?_eq_none (by simpa using h5)] at hi; cases hi
    subst this
    rw [h1] at hi
    simp at hi; subst hi
    exact ⟨cs, k2⟩

theorem Opn.slice {α : Type} {r : Rep α} {R : ∀ {H : Type}, α → DataW H → Prop} (ht : P.underlying t = some (.slice e)) (hc : P.cellsOf e = r.sz) (he : Opn P e r R) : Opn P t r.slice (RL R) := by
 intro H enc W base spare held fuel cs x h
 rcases DataW.trod_slice ht h with ⟨rfl, rfl⟩ | ⟨a, len, cap, elems, rest, n, rfl, rfl, rfl, hb, hl, hm, hlen, hel, _, _⟩
 ·exact ⟨[], ⟨⟨none, 0, rfl, .nil⟩, rfl⟩, .inl ⟨rfl, rfl⟩⟩
 ·rw [hc] at hel
  obtain ⟨fl, ys, h1, h2, h3, h4⟩ := rows_of (r := r) (col := fun _ => 0) (w := W) (a := a) len (fun i cs y => ∃ el, elems[i]? = some el ∧ R y el.1) (fun i hi => by
   have := hel i hi
   have hlt : i < elems.length := by omega
   rw [List.getElem?_eq_getElem hlt] at this
   obtain ⟨cs, k1, k2⟩ := Option.bind_eq_some_iff.1 this
   obtain ⟨y, k3, k4⟩ := he k2
   refine ⟨cs, y, k3, ⟨_, List.getElem?_eq_getElem hlt, k4⟩, fun q v hq => ?_⟩
   have hsz := r.len k3
   obtain ⟨_, k5, k6⟩ := World.cells?_some k1
   have hq' : q < r.sz := by rw [← hsz]; exact (List.getElem?_eq_some_iff.1 hq).1
   have k7 := k6 q hq'
   rw [hq] at k7
   rw [Addr.add_add] at k7
   exact k7)
  refine ⟨ys, ⟨⟨some a, cap, by rw [h1], ?_⟩, rfl⟩, .inr ⟨_, _, rfl, by simp [hlen, h1], fun i y d hi hd => ?_⟩⟩
  ·refine ⟨⟨by omega, by omega⟩, ?_⟩
   by_cases hz : ys = []
   ·exact .inl hz
   ·obtain ⟨b, off, spot⟩ := a
    have hpos : 0 < fl.length := by
     have := h2.length; have h5 := List.length_pos_iff.2 hz; have := Nat.mul_pos h5 r.pos; omega
    have hc0 := h3 0 fl[0] (List.getElem?_eq_getElem hpos)
    have hspot : spot = none := by simpa [Addr.add] using World.cell?_spot hc0
    subst hspot
    exact .inr ⟨b, off, fl, rfl, rfl, h2, fun q v hq => by have := h3 q v hq; rwa [add_mk] at this⟩
  ·obtain ⟨cs, el, k1, k2⟩ := h4 i y hi
   rw [List.getElem?_map, k1] at hd
   simp at hd; subst hd; exact k2

end
end Go.Proofs.YtnfegieaaaigmaaGreatDoor
