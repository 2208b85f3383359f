/-
  What stays true while the world turns: facts that hang on what stays and on blocks of one colour. Over any program.
-/
import Derived.Test.YtnfegieaaaigmaaGreatDoorLexApartBMem
namespace Go.Proofs.YtnfegieaaaigmaaGreatDoor
open Go Go.RowKit

structure KeepP (p : Nat → Bool) (col : Col) (w : World) (col' : Col) (w' : World) : Prop where
 size : w.heap.size ≤ w'.heap.size
 tint : ∀ k, k < w.heap.size → p (col k) = false → col' k = col k
 block : ∀ k, k < w.heap.size → p (col k) = false → w'.heap[k]? = w.heap[k]?
 still : Still w w'

def rcC (c d : Nat) (col : Col) : Col := fun k => if col k = c then d else col k
def frC (c : Nat) (col : Col) : Col := fun k => if col k = c then 0 else col k
def p2 (c d : Nat) : Nat → Bool := fun k => Nat.beq k c || Nat.beq k d

section
variable {p q : Nat → Bool} {c d i : Nat} {col col' col'' : Col} {w w' w'' : World}

theorem recol_self {k : Nat} (h : col k = c) : rcC c d col k = d := by unfold rcC; rw [if_pos h]
theorem recol_ne {k : Nat} (h : col k ≠ c) : rcC c d col k = col k := by unfold rcC; rw [if_neg h]
theorem froz_ne {k : Nat} (h : col k ≠ c) : frC c col k = col k := by unfold frC; rw [if_neg h]
theorem beqF (h : i ≠ c) : Nat.beq i c = false := by
 cases hb : Nat.beq i c
 ·rfl
 ·exact absurd (Nat.eq_of_beq_eq_true hb) h
theorem p2_ne (h : i ≠ c) (h' : i ≠ d) : p2 c d i = false := by simp only [p2, Bool.or_eq_false_iff]; exact ⟨beqF h, beqF h'⟩

theorem KeepP.refl (p : Nat → Bool) (col : Col) (w : World) : KeepP p col w col w := ⟨Nat.le_refl _, fun _ _ _ => rfl, fun _ _ _ => rfl, ⟨rfl, rfl, rfl⟩⟩
theorem KeepP.trans (h : KeepP p col w col' w') (k : KeepP p col' w' col'' w'') : KeepP p col w col'' w'' :=
 ⟨Nat.le_trans h.size k.size, fun i hi hp => by
  have h1 := h.tint i hi hp
  rw [k.tint i (Nat.lt_of_lt_of_le hi h.size) (by rw [h1]; exact hp), h1], fun i hi hp => by
  have h1 := h.tint i hi hp
  rw [k.block i (Nat.lt_of_lt_of_le hi h.size) (by rw [h1]; exact hp), h.block i hi hp],
  ⟨k.still.1.trans h.still.1, k.still.2.1.trans h.still.2.1, k.still.2.2.trans h.still.2.2⟩⟩
theorem KeepP.mono (h : KeepP p col w col' w') (hpq : ∀ c, q c = false → p c = false) : KeepP q col w col' w' :=
 ⟨h.size, fun k hk hq => h.tint k hk (hpq _ hq), fun k hk hq => h.block k hk (hpq _ hq), h.still⟩
theorem Keep.toP (h : Keep c col w col' w') (hs : Still w w') (hp : p c = true) : KeepP p col w col' w' :=
 ⟨h.size, fun k hk _ => h.tint k hk, fun k hk hq => h.block k hk (by intro he; rw [he, hp] at hq; cases hq), hs⟩
theorem Grow.toP (h : Grow col w col' w') : KeepP p col w col' w' :=
 ⟨h.below.size, fun k hk _ => h.tint k hk, fun k hk _ => h.below.block k hk, ⟨h.below.os, h.below.tape, h.below.output⟩⟩
theorem KeepP.gr (h : KeepP p col w col' w') (hg : Grow col' w' col'' w'') : KeepP p col w col'' w'' := h.trans hg.toP
theorem KeepP.kp (h : KeepP p col w col' w') (hk : Keep c col' w' col'' w'') (hs : Still w' w'') (hp : p c = true) : KeepP p col w col'' w'' := h.trans (hk.toP hs hp)
theorem KeepP.stay (h : KeepP p col w col' w') (h0 : p 0 = false) : Stay col w col' w' :=
 fun k hk hc => ⟨(h.tint k hk (by rw [hc]; exact h0)).trans hc, h.block k hk (by rw [hc]; exact h0)⟩
theorem St.kpp {w0 : World} {c0 : Col} (h : St w0 c0 col w) (hk : KeepP p col w col' w') (h0 : p 0 = false := by rfl) (h9 : p 999 = false := by rfl) : St w0 c0 col' w' := by
 refine ⟨h.still.trans hk.still, Nat.le_trans h.size hk.size, fun k hlt hm => ?_, h.foreign⟩
 obtain ⟨h1, h2⟩ := h.old k hlt hm
 have h3 := h.foreign k hlt
 have hp : p (col k) = false := by
  rw [h1]; rcases h3 with h3 | h3 | h3
  ·rw [h3]; exact h0
  ·rw [h3]; exact h9
  ·rw [hm] at h3; cases h3
 have hlt' := Nat.lt_of_lt_of_le hlt h.size
 exact ⟨(hk.tint k hlt' hp).trans h1, (hk.block k hlt' hp).trans h2⟩
def Loc (i : Nat) (F : Col → World → Prop) : Prop := ∀ {col w col' w'}, F col w → w.heap.size ≤ w'.heap.size → Stay col w col' w' → (∀ k, k < w.heap.size → col k = i → col' k = i ∧ w'.heap[k]? = w.heap[k]?) → F col' w'

variable {F : Col → World → Prop}
theorem Loc.kp (hl : Loc i F) (h : F col w) (hk : Keep c col w col' w') (hc : c ≠ 0) (hi : i ≠ c) : F col' w' :=
 hl h hk.size (hk.stay hc) fun k hlt hki => ⟨(hk.tint k hlt).trans hki, hk.block k hlt (by rw [hki]; exact hi)⟩
theorem Loc.kpp (hl : Loc i F) (h : F col w) (hk : KeepP p col w col' w') (h0 : p 0 = false) (hi : p i = false) : F col' w' :=
 hl h hk.size (hk.stay h0) fun k hlt hki => ⟨(hk.tint k hlt (by rw [hki]; exact hi)).trans hki, hk.block k hlt (by rw [hki]; exact hi)⟩
theorem Loc.froz (hl : Loc i F) (c : Nat) (h : F col w) (hi : i ≠ c := by decide) : F (frC c col) w :=
 hl h (Nat.le_refl _) (fun k _ h0 => ⟨by unfold frC; split <;> simp_all, rfl⟩) fun k _ hk => ⟨by rw [froz_ne (by rw [hk]; exact hi), hk], rfl⟩
end

section
variable {α : Type} {r : Rep α} {e c d i : Nat} {col col' : Col} {w w' : World} {xs : List α} {a : Option Addr} {cap : Nat} {p : Nat → Bool} {bs : List Nat} {cs : List Value} {x : α}

theorem Mine.loc (hlt : ∀ b ∈ bs, b < w.heap.size) (h : Mine i col bs) (hk : ∀ k, k < w.heap.size → col k = i → col' k = i ∧ w'.heap[k]? = w.heap[k]?) : Mine i col' bs := ⟨h.1, fun b hb => (hk b (hlt b hb) (h.2 b hb)).1⟩
theorem Own.loc : Loc i (fun col w => Own r e i col w a cap xs) := fun ⟨bs, h1, h2⟩ _ hs hk => ⟨bs, h1.keep hs fun b hb => (hk b (h1.lt b hb) (h2.2 b hb)).2, h2.loc h1.lt hk⟩
theorem Own.kpp (h : Own r e i col w a cap xs) (hk : KeepP p col w col' w') (h0 : p 0 = false := by rfl) (hi : p i = false := by rfl) : Own r e i col' w' a cap xs := Own.loc.kpp h hk h0 hi
theorem Box.kpp {g : Nat} {cs : Array Value} (h : Box e i col w g cs) (hk : KeepP p col w col' w') (hi : p i = false := by rfl) : Box e i col' w' g cs := by
 have hlt := (Array.getElem?_eq_some_iff.1 h.2).1
 exact ⟨(hk.tint g hlt (by rw [h.1]; exact hi)).trans h.1, by rw [hk.block g hlt (by rw [h.1]; exact hi)]; exact h.2⟩
theorem Stay.froz (c : Nat) : Stay col w (frC c col) w := fun k _ h => ⟨by unfold frC; split <;> simp_all, rfl⟩
theorem Stay.recol (c d : Nat) (hc : c ≠ 0) : Stay col w (rcC c d col) w := fun k _ h => ⟨by rw [recol_ne (by rw [h]; exact Ne.symm hc), h], rfl⟩
theorem Sl.froz (c : Nat) (h : Sl r col w a cap xs) : Sl r (frC c col) w a cap xs := h.keep (Stay.froz c)
theorem Own.froz (c : Nat) (h : Own r e i col w a cap xs) (hi : i ≠ c := by decide) : Own r e i (frC c col) w a cap xs := Own.loc.froz c h hi
theorem Own.toSlF {s : Rep α} (hf : Froz r s) (h : Own r e c col w a cap xs) : Sl s (frC c col) w a cap xs := h.slF hf fun k hk => by unfold frC; split <;> simp_all
end
end Go.Proofs.YtnfegieaaaigmaaGreatDoor
