/-
  What hangs together with a point: gone through in any order, and in one.
-/
import Derived.Test.YtgkofjmeopbkbaaOrderCliquesBGraph
import Derived.Test.YtgkofjmeopbkbaaOrderCliquesBKeys
import Derived.Maps.RangeRun
namespace Go.Proofs.Ytgkofjmeopbkbaa
open Go Go.RowKit

def EdgeT (t : List (List Bool)) (x b : Int) : Prop := ∃ row, at? t x = some row ∧ gat row b = true
/-- From a, by edges to points that are not in S. -/
inductive Hangs (t : List (List Bool)) (S : List Bool) (a : Int) : Int → Prop
  | here : Hangs t S a a
  | on {x b : Int} : Hangs t S a x → EdgeT t x b → gat S b = false → Hangs t S a b

structure BInv (t : List (List Bool)) (S : List Bool) (a : Int) (seen : List Bool) (piece : List Int) (i : Nat) : Prop where
  len : seen.length = S.length
  marks : ∀ x, gat seen x = true ↔ gat S x = true ∨ x ∈ piece
  nd : piece.Nodup
  hangs : ∀ x ∈ piece, Hangs t S a x
  self : a ∈ piece
  upto : ∀ (j : Nat) (x : Int), j < i → piece[j]? = some x → ∀ b, EdgeT t x b → gat seen b = true
  range : ∀ x ∈ piece, 0 ≤ x ∧ x < (t.length : Int)
structure JInv (t : List (List Bool)) (S : List Bool) (a : Int) (seen : List Bool) (piece : List Int) (i : Nat) (x : Int) (done : List Int) : Prop where
  inv : BInv t S a seen piece i
  here : piece[i]? = some x
  done : ∀ b ∈ done, gat seen b = true

theorem gat_range {row : List Bool} {k : Int} (hk : gat row k = true) : 0 ≤ k ∧ k.toNat < row.length := by
  unfold gat at hk; split at hk
  · rename_i h0
    refine ⟨h0, ?_⟩
    by_cases h : k.toNat < row.length
    · exact h
    · rw [List.getElem?_eq_none (by omega)] at hk; cases hk
  · cases hk
theorem gat_set {row : List Bool} {k k' : Int} (h0 : 0 ≤ k) (h1 : k.toNat < row.length) : gat (row.set k.toNat true) k' = if k' = k then true else gat row k' := by
  have := gat_rset (row := row) (k := k) (k' := k') (v := true)
  unfold rset at this
  rw [if_pos h0] at this
  rw [this]; simp [h0, h1]
theorem gat_ext {r s : List Bool} (hl : r.length = s.length) (h : ∀ k, gat r k = gat s k) : r = s := by
  refine List.ext_getElem hl fun n h1 h2 => ?_
  have := h (n : Int)
  unfold gat at this
  rw [if_pos (by omega), if_pos (by omega), Int.toNat_natCast, List.getElem?_eq_getElem h1, List.getElem?_eq_getElem h2] at this
  simpa using this
theorem nodup_le_ {α : Type} [DecidableEq α] : ∀ {l r : List α}, l.Nodup → (∀ x ∈ l, x ∈ r) → l.length ≤ r.length
  | [], _, _, _ => Nat.zero_le _
  | x :: l, r, hn, hs => by
    have hx : x ∈ r := hs x (by simp)
    have h1 : l.length ≤ (r.erase x).length := nodup_le_ (List.nodup_cons.1 hn).2 fun y hy => by
      have hne : y ≠ x := fun e => (List.nodup_cons.1 hn).1 (e ▸ hy)
      exact (List.mem_erase_of_ne hne).2 (hs y (by simp [hy]))
    rw [List.length_erase_of_mem hx] at h1
    have := List.length_pos_of_mem hx
    simp only [List.length_cons]; omega

variable {t : List (List Bool)} {S seen : List Bool} {a x b : Int} {piece done : List Int} {i : Nat}
theorem BInv.start (h1 : gat S a = true) (h2 : 0 ≤ a ∧ a < (t.length : Int)) : BInv t S a S [a] 0 :=
  ⟨rfl, fun x => ⟨.inl, fun h => h.elim id fun h => by simp only [List.mem_singleton] at h; subst h; exact h1⟩, by simp, fun x hx => by simp only [List.mem_singleton] at hx; subst hx; exact .here, by simp, fun j x hj => absurd hj (Nat.not_lt_zero _),
    fun x hx => by simp only [List.mem_singleton] at hx; subst hx; exact h2⟩
theorem BInv.le (h : BInv t S a seen piece i) : piece.length ≤ t.length := by
  have := nodup_le_ (r := (List.range t.length).map Int.ofNat) h.nd fun x hx => by
    have := h.range x hx
    exact List.mem_map.2 ⟨x.toNat, List.mem_range.2 (by omega), by simp; omega⟩
  simpa using this
theorem BInv.go (h : BInv t S a seen piece i) (hx : piece[i]? = some x) : JInv t S a seen piece i x [] := ⟨h, hx, fun b hb => by simp at hb⟩
theorem JInv.old (h : JInv t S a seen piece i x done) (hb : gat seen b = true) : JInv t S a seen piece i x (b :: done) :=
  ⟨h.inv, h.here, fun y hy => by rcases List.mem_cons.1 hy with rfl | hy; exact hb; exact h.done y hy⟩
theorem JInv.new (hsq : ∀ r ∈ t, r.length = t.length) (hS : S.length = t.length) (h : JInv t S a seen piece i x done) (he : EdgeT t x b) (hb : gat seen b = false) :
    JInv t S a (seen.set b.toNat true) (piece ++ [b]) i x (b :: done) := by
  obtain ⟨row, hr, hg⟩ := he
  have hrl : row.length = t.length := hsq row (List.mem_of_getElem? (at?_some hr).2.2)
  obtain ⟨b0, b1⟩ := gat_range hg
  have hbl : b.toNat < seen.length := by rw [h.inv.len, hS]; omega
  have hi := (List.getElem?_eq_some_iff.1 h.here).1
  have hup : ∀ y, gat seen y = true → gat (seen.set b.toNat true) y = true := fun y hy => by rw [gat_set b0 hbl]; split <;> simp [hy]
  refine ⟨⟨by rw [List.length_set]; exact h.inv.len, fun y => ?_, ?_, fun y hy => ?_, by simp [h.inv.self], fun j y hj hy c hc => ?_, fun y hy => ?_⟩, ?_, fun y hy => ?_⟩
  · rw [gat_set b0 hbl, List.mem_append, List.mem_singleton]
    by_cases hyb : y = b
    · simp [hyb]
    · rw [if_neg hyb, h.inv.marks y]; simp [hyb]
  · rw [List.nodup_append]
    refine ⟨h.inv.nd, by simp, fun y hy z hz e => ?_⟩
    simp only [List.mem_singleton] at hz
    subst hz; subst e
    rw [(h.inv.marks y).2 (.inr hy)] at hb; cases hb
  · rcases List.mem_append.1 hy with hy | hy
    · exact h.inv.hangs y hy
    · simp only [List.mem_singleton] at hy; subst hy
      refine .on (h.inv.hangs x (List.mem_of_getElem? h.here)) ⟨row, hr, hg⟩ ?_
      cases hS2 : gat S y
      · rfl
      · rw [(h.inv.marks y).2 (.inl hS2)] at hb; cases hb
  · rw [List.getElem?_append_left (by omega)] at hy
    exact hup c (h.inv.upto j y hj hy c hc)
  · rcases List.mem_append.1 hy with hy | hy
    · exact h.inv.range y hy
    · simp only [List.mem_singleton] at hy; subst hy; omega
  · rw [List.getElem?_append_left hi]; exact h.here
  · rcases List.mem_cons.1 hy with rfl | hy
    · rw [gat_set b0 hbl, if_pos rfl]
    · exact hup y (h.done y hy)
theorem JInv.close {row : List Bool} (h : JInv t S a seen piece i x done) (hr : at? t x = some row) (hd : ∀ b, gat row b = true → b ∈ done) : BInv t S a seen piece (i + 1) :=
  ⟨h.inv.len, h.inv.marks, h.inv.nd, h.inv.hangs, h.inv.self, fun j y hj hy b ⟨row', hr', hb⟩ => by
    by_cases hji : j = i
    · subst hji
      rw [h.here] at hy; cases hy
      rw [hr] at hr'; cases hr'
      exact h.done b (hd b hb)
    · exact h.inv.upto j y (by omega) hy b ⟨row', hr', hb⟩, h.inv.range⟩
theorem BInv.row {t : List (List Bool)} {S seen : List Bool} {a x : Int} {piece : List Int} {i k : Nat} (h : BInv t S a seen piece i) (hx : piece[k]? = some x) : ∃ row, at? t x = some row := by
  have := h.range x (List.mem_of_getElem? hx)
  exact ⟨t[x.toNat]'(by omega), by unfold at?; rw [if_pos this.1, List.getElem?_eq_getElem]⟩

/-! ### a map that is gone over -/
def ItM (c : Nat) (col : Col) (w : World) (g b since : Nat) (seen : Array Nat) (last : Nat) : Prop := col g = c ∧ w.heap[g]? = some (.mapIter (some b) since seen last)
def MapE (c : Nat) (col : Col) (w : World) (b : Nat) (es : List (Int × Nat)) (clock : Nat) : Prop := col b = c ∧ w.heap[b]? = some (.map (es.map mkE).toArray clock)
section
variable {c d i g b since last clock : Nat} {col col' : Col} {w w' : World} {seenA : Array Nat} {es : List (Int × Nat)} {q : Nat → Bool}
theorem ItM.loc : Loc i (fun col w => ItM i col w g b since seenA last) := fun h _ _ hk => by
  obtain ⟨h1, h2⟩ := hk _ (Array.getElem?_eq_some_iff.1 h.2).1 h.1
  exact ⟨h1, h2.trans h.2⟩
theorem MapE.loc : Loc i (fun col w => MapE i col w b es clock) := fun h _ _ hk => by
  obtain ⟨h1, h2⟩ := hk _ (Array.getElem?_eq_some_iff.1 h.2).1 h.1
  exact ⟨h1, h2.trans h.2⟩
theorem ItM.gr (h : ItM i col w g b since seenA last) (hg : Grow col w col' w') : ItM i col' w' g b since seenA last := Loc.gr ItM.loc h hg
theorem ItM.kp (h : ItM i col w g b since seenA last) (hk : Keep c col w col' w') (hc : c ≠ 0) (hi : i ≠ c) : ItM i col' w' g b since seenA last := Loc.kp ItM.loc h hk hc hi
theorem ItM.kpp (h : ItM i col w g b since seenA last) (hk : KeepP q col w col' w') (h0 : q 0 = false) (hi : q i = false) : ItM i col' w' g b since seenA last := Loc.kpp ItM.loc h hk h0 hi
theorem ItM.recol (c d : Nat) (h : ItM i col w g b since seenA last) (hc : i ≠ c ∧ c ≠ 0) : ItM i (rcC c d col) w g b since seenA last := Loc.recol ItM.loc c d hc h
theorem ItM.froz (c : Nat) (h : ItM i col w g b since seenA last) (hc : i ≠ c) : ItM i (frC c col) w g b since seenA last := Loc.froz ItM.loc c h hc
theorem MapE.gr (h : MapE i col w b es clock) (hg : Grow col w col' w') : MapE i col' w' b es clock := Loc.gr MapE.loc h hg
theorem MapE.kp (h : MapE i col w b es clock) (hk : Keep c col w col' w') (hc : c ≠ 0) (hi : i ≠ c) : MapE i col' w' b es clock := Loc.kp MapE.loc h hk hc hi
theorem MapE.kpp (h : MapE i col w b es clock) (hk : KeepP q col w col' w') (h0 : q 0 = false) (hi : q i = false) : MapE i col' w' b es clock := Loc.kpp MapE.loc h hk h0 hi
theorem MapE.recol (c d : Nat) (h : MapE i col w b es clock) (hc : i ≠ c ∧ c ≠ 0) : MapE i (rcC c d col) w b es clock := Loc.recol MapE.loc c d hc h
theorem MapE.froz (c : Nat) (h : MapE i col w b es clock) (hc : i ≠ c) : MapE i (frC c col) w b es clock := Loc.froz MapE.loc c h hc

variable {P : Program} {m : Nat} {rd : Option Nat} {f : Fr} {ops : Array Oper} {Kk : Fr → World → Prop} {rest : List Oper} {tt dd ce : Nat} {ps : String} {af : Array Edge} {x : Operand} {T kt et : TypeId} {p : Int × Nat}
end
end Go.Proofs.Ytgkofjmeopbkbaa
