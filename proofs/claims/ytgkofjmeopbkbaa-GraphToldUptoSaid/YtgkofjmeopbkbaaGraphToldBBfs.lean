/-
  What hangs together with a point: gone through in any order, and in one.
-/
import Derived.Test.YtgkofjmeopbkbaaGraphToldBGraph
import Derived.Test.YtgkofjmeopbkbaaGraphToldBKeys
import Derived.Maps.RangeRun
namespace Go.Proofs.Ytgkofjmeopbkbaa
open Go Go.RowKit

def EdgeT (t : List (List Bool)) (x b : Int) : Prop := ∃ row, at? t x = some row ∧ gat row b = true
/-- From a, by edges to points that are not in S. -/
inductive Hangs (t : List (List Bool)) (S : List Bool) (a : Int) : Int → Prop
  | here : Hangs t S a a
  | on {x b : Int} : Hangs t S a x → EdgeT t x b → gat S b = false → Hangs t S a b

structure BInv (t : List (List Bool)) (S : List Bool) (a : Int) (seen : List Bool) (piece : List Int) (i : Nat) : Prop where
  len : seen.length = S.length
  marks : ∀ x, gat seen x = true ↔ gat S x = true ∨ x ∈ piece
  nd : piece.Nodup
  hangs : ∀ x ∈ piece, Hangs t S a x
  self : a ∈ piece
  upto : ∀ (j : Nat) (x : Int), j < i → piece[j]? = some x → ∀ b, EdgeT t x b → gat seen b = true
  range : ∀ x ∈ piece, 0 ≤ x ∧ x < (t.length : Int)
structure JInv (t : List (List Bool)) (S : List Bool) (a : Int) (seen : List Bool) (piece : List Int) (i : Nat) (x : Int) (done : List Int) : Prop where
  inv : BInv t S a seen piece i
  here : piece[i]? = some x
  done : ∀ b ∈ done, gat seen b = true

theorem gat_range {row : List Bool} {k : Int} (hk : gat row k = true) : 0 ≤ k ∧ k.toNat < row.length := by
  unfold gat at hk; split at hk
  · rename_i h0
    refine ⟨h0, ?_⟩
    by_cases h : k.toNat < row.length
    · exact h
    · rw [List.getElem?_eq_none (by omega)] at hk; cases hk
  · cases hk
theorem gat_set {row : List Bool} {k k' : Int} (h0 : 0 ≤ k) (h1 : k.toNat < row.length) : gat (row.set k.toNat true) k' = if k' = k then true else gat row k' := by
  have := gat_rset (row := row) (k := k) (k' := k') (v := true)
  unfold rset at this
  rw [if_pos h0] at this
  rw [this]; simp [h0, h1]
theorem gat_ext {r s : List Bool} (hl : r.length = s.length) (h : ∀ k, gat r k = gat s k) : r = s := by
  refine List.ext_getElem hl fun n h1 h2 => ?_
  have := h (n : Int)
  unfold gat at this
  rw [if_pos (by omega), if_pos (by omega), Int.toNat_natCast, List.getElem?_eq_getElem h1, List.getElem?_eq_getElem h2] at this
  simpa using this
theorem nodup_le_ {α : Type} [DecidableEq α] : ∀ {l r : List α}, l.Nodup → (∀ x ∈ l, x ∈ r) → l.length ≤ r.length
  | [], _, _, _ => Nat.zero_le _
  | x :: l, r, hn, hs => by
    have hx : x ∈ r := hs x (by simp)
    have h1 : l.length ≤ (r.erase x).length := nodup_le_ (List.nodup_cons.1 hn).2 fun y hy => by
      have hne : y ≠ x := fun e => (List.nodup_cons.1 hn).1 (e ▸ hy)
      exact (List.mem_erase_of_ne hne).2 (hs y (by simp [hy]))
    rw [List.length_erase_of_mem hx] at h1
    have := List.length_pos_of_mem hx
    simp only [List.length_cons]; omega

variable {t : List (List Bool)} {S seen : List Bool} {a x b : Int} {piece done : List Int} {i : Nat}
theorem BInv.start (h1 : gat S a = true) (h2 : 0 ≤ a ∧ a < (t.length : Int)) : BInv t S a S [a] 0 :=
  ⟨rfl, fun x => ⟨.inl, fun h => h.elim id fun h => by simp only [List.mem_singleton] at h; subst h; exact h1⟩, by simp, fun x hx => by simp only [List.mem_singleton] at hx; subst hx; exact .here, by simp, fun j x hj => absurd hj (Nat.not_lt_zero _),
    fun x hx => by simp only [List.mem_singleton] at hx; subst hx; exact h2⟩
theorem BInv.le (h : BInv t S a seen piece i) : piece.length ≤ t.length := by
  have := nodup_le_ (r := (List.range t.length).map Int.ofNat) h.nd fun x hx => by
    have := h.range x hx
    exact List.mem_map.2 ⟨x.toNat, List.mem_range.2 (by omega), by simp; omega⟩
  simpa using this
theorem BInv.go (h : BInv t S a seen piece i) (hx : piece[i]? = some x) : JInv t S a seen piece i x [] := ⟨h, hx, fun b hb => by simp at hb⟩
theorem JInv.old (h : JInv t S a seen piece i x done) (hb : gat seen b = true) : JInv t S a seen piece i x (b :: done) :=
  ⟨h.inv, h.here, fun y hy => by rcases List.mem_cons.1 hy with rfl | hy; exact hb; exact h.done y hy⟩
theorem JInv.new (hsq : ∀ r ∈ t, r.length = t.length) (hS : S.length = t.length) (h : JInv t S a seen piece i x done) (he : EdgeT t x b) (hb : gat seen b = false) :
    JInv t S a (seen.set b.toNat true) (piece ++ [b]) i x (b :: done) := by
  obtain ⟨row, hr, hg⟩ := he
  have hrl : row.length = t.length := hsq row (List.mem_of_getElem? (at?_some hr).2.2)
  obtain ⟨b0, b1⟩ := gat_range hg
  have hbl : b.toNat < seen.length := by rw [h.inv.len, hS]; omega
  have hi := (List.getElem?_eq_some_iff.1 h.here).1
  have hup : ∀ y, gat seen y = true → gat (seen.set b.toNat true) y = true := fun y hy => by rw [gat_set b0 hbl]; split <;> simp [hy]
  refine ⟨⟨by rw [List.length_set]; exact h.inv.len, fun y => ?_, ?_, fun y hy => ?_, by simp [h.inv.self], fun j y hj hy c hc => ?_, fun y hy => ?_⟩, ?_, fun y hy => ?_⟩
  · rw [gat_set b0 hbl, List.mem_append, List.mem_singleton]
    by_cases hyb : y = b
    · simp [hyb]
    · rw [if_neg hyb, h.inv.marks y]; simp [hyb]
  · rw [List.nodup_append]
    refine ⟨h.inv.nd, by simp, fun y hy z hz e => ?_⟩
    simp only [List.mem_singleton] at hz
    subst hz; subst e
    rw [(h.inv.marks y).2 (.inr hy)] at hb; cases hb
  · rcases List.mem_append.1 hy with hy | hy
    · exact h.inv.hangs y hy
    · simp only [List.mem_singleton] at hy; subst hy
      refine .on (h.inv.hangs x (List.mem_of_getElem? h.here)) ⟨row, hr, hg⟩ ?_
      cases hS2 : gat S y
      · rfl
      · rw [(h.inv.marks y).2 (.inl hS2)] at hb; cases hb
  · rw [List.getElem?_append_left (by omega)] at hy
    exact hup c (h.inv.upto j y hj hy c hc)
  · rcases List.mem_append.1 hy with hy | hy
    · exact h.inv.range y hy
    · simp only [List.mem_singleton] at hy; subst hy; omega
  · rw [List.getElem?_append_left hi]; exact h.here
  · rcases List.mem_cons.1 hy with rfl | hy
    · rw [gat_set b0 hbl, if_pos rfl]
    · exact hup y (h.done y hy)
theorem JInv.close {row : List Bool} (h : JInv t S a seen piece i x done) (hr : at? t x = some row) (hd : ∀ b, gat row b = true → b ∈ done) : BInv t S a seen piece (i + 1) :=
  ⟨h.inv.len, h.inv.marks, h.inv.nd, h.inv.hangs, h.inv.self, fun j y hj hy b ⟨row', hr', hb⟩ => by
    by_cases hji : j = i
    · subst hji
      rw [h.here] at hy; cases hy
      rw [hr] at hr'; cases hr'
      exact h.done b (hd b hb)
    · exact h.inv.upto j y (by omega) hy b ⟨row', hr', hb⟩, h.inv.range⟩
theorem BInv.mem (h : BInv t S a seen piece piece.length) (x : Int) : x ∈ piece ↔ Hangs t S a x := by
  refine ⟨h.hangs x, fun hx => ?_⟩
  induction hx with
  | here => exact h.self
  | on hx he hn ih =>
    obtain ⟨j, hj⟩ := List.getElem?_of_mem ih
    have := h.upto j _ (List.getElem?_eq_some_iff.1 hj).1 hj _ he
    rcases (h.marks _).1 this with h1 | h1
    · rw [h1] at hn; cases hn
    · exact h1
theorem BInv.unique {s1 s2 : List Bool} {p1 p2 : List Int} (h1 : BInv t S a s1 p1 p1.length) (h2 : BInv t S a s2 p2 p2.length) : s1 = s2 ∧ p1.Perm p2 := by
  have hm : ∀ x, x ∈ p1 ↔ x ∈ p2 := fun x => by rw [h1.mem, h2.mem]
  refine ⟨gat_ext (h1.len.trans h2.len.symm) fun k => ?_, (List.perm_ext_iff_of_nodup h1.nd h2.nd).2 hm⟩
  have : gat s1 k = true ↔ gat s2 k = true := by rw [h1.marks, h2.marks, hm]
  cases e1 : gat s1 k <;> cases e2 : gat s2 k <;> simp_all

def addAll : List Int → List Bool → List Int → List Bool × List Int
  | [], s, p => (s, p)
  | b :: l, s, p => if gat s b = true then addAll l s p else addAll l (s.set b.toNat true) (p ++ [b])
def bfs (t : List (List Bool)) : Nat → List Bool → List Int → Nat → Option (List Bool × List Int)
  | 0, _, _, _ => none
  | f + 1, s, p, i => match p[i]? with
    | none => some (s, p)
    | some x => (at? t x).bind fun row => bfs t f (addAll (gkeys row) s p).1 (addAll (gkeys row) s p).2 (i + 1)
theorem addAll_inv (hsq : ∀ r ∈ t, r.length = t.length) (hS : S.length = t.length) {row : List Bool} (hr : at? t x = some row) : ∀ (l : List Int) (s : List Bool) (p done : List Int), JInv t S a s p i x done → (∀ b ∈ l, gat row b = true) →
    ∃ d, JInv t S a (addAll l s p).1 (addAll l s p).2 i x d ∧ (∀ b ∈ l, b ∈ d) ∧ ∀ b ∈ done, b ∈ d
  | [], s, p, done, h, _ => ⟨done, h, by simp, fun _ h => h⟩
  | b :: l, s, p, done, h, hl => by
    unfold addAll
    by_cases hb : gat s b = true
    · rw [if_pos hb]
      obtain ⟨d, h1, h2, h3⟩ := addAll_inv hsq hS hr l s p (b :: done) (h.old hb) fun y hy => hl y (by simp [hy])
      exact ⟨d, h1, fun y hy => by rcases List.mem_cons.1 hy with rfl | hy; exact h3 _ (by simp); exact h2 y hy, fun y hy => h3 y (by simp [hy])⟩
    · rw [if_neg hb]
      obtain ⟨d, h1, h2, h3⟩ := addAll_inv hsq hS hr l (s.set b.toNat true) (p ++ [b]) (b :: done) (h.new hsq hS ⟨row, hr, hl b (by simp)⟩ (by simpa using hb)) fun y hy => hl y (by simp [hy])
      exact ⟨d, h1, fun y hy => by rcases List.mem_cons.1 hy with rfl | hy; exact h3 _ (by simp); exact h2 y hy, fun y hy => h3 y (by simp [hy])⟩
theorem bfs_inv (hsq : ∀ r ∈ t, r.length = t.length) (hS : S.length = t.length) : ∀ (f : Nat) (s : List Bool) (p : List Int) (i : Nat) (q : List Bool × List Int), BInv t S a s p i → i ≤ p.length → bfs t f s p i = some q → BInv t S a q.1 q.2 q.2.length
  | 0, _, _, _, _, _, _, h => by cases h
  | f + 1, s, p, i, q, h, hi, he => by
    unfold bfs at he
    cases hx : p[i]? with
    | none =>
      rw [hx] at he
      simp only [Option.some.injEq] at he
      subst he
      have : i = p.length := by have := List.getElem?_eq_none_iff.1 hx; omega
      rw [← this]; exact h
    | some x =>
      rw [hx] at he
      simp only [Option.bind_eq_some_iff] at he
      obtain ⟨row, hr, he⟩ := he
      obtain ⟨d, h1, h2, _⟩ := addAll_inv hsq hS hr (gkeys row) s p [] (h.go hx) fun b hb => gkeys_mem.1 hb
      exact bfs_inv hsq hS f _ _ (i + 1) q (h1.close hr fun b hb => h2 b (gkeys_mem.2 hb)) (by have := (List.getElem?_eq_some_iff.1 h1.here).1; omega) he
theorem lib_sort_perm {p q : List Int} (h : p.Perm q) : lib_sort p = lib_sort q := by
  unfold lib_sort
  rw [h.length_eq, isort_eq ((isort_perm q).trans h.symm) (isort_rises q)]
theorem BInv.row {t : List (List Bool)} {S seen : List Bool} {a x : Int} {piece : List Int} {i k : Nat} (h : BInv t S a seen piece i) (hx : piece[k]? = some x) : ∃ row, at? t x = some row := by
  have := h.range x (List.mem_of_getElem? hx)
  exact ⟨t[x.toNat]'(by omega), by unfold at?; rw [if_pos this.1, List.getElem?_eq_getElem]⟩

/-! ### a map that is gone over -/
def ItM (c : Nat) (col : Col) (w : World) (g b since : Nat) (seen : Array Nat) (last : Nat) : Prop := col g = c ∧ w.heap[g]? = some (.mapIter (some b) since seen last)
def MapE (c : Nat) (col : Col) (w : World) (b : Nat) (es : List (Int × Nat)) (clock : Nat) : Prop := col b = c ∧ w.heap[b]? = some (.map (es.map mkE).toArray clock)
section
variable {c d i g b since last clock : Nat} {col col' : Col} {w w' : World} {seenA : Array Nat} {es : List (Int × Nat)} {q : Nat → Bool}
theorem ItM.loc : Loc i (fun col w => ItM i col w g b since seenA last) := fun h _ _ hk => by
  obtain ⟨h1, h2⟩ := hk _ (Array.getElem?_eq_some_iff.1 h.2).1 h.1
  exact ⟨h1, h2.trans h.2⟩
theorem MapE.loc : Loc i (fun col w => MapE i col w b es clock) := fun h _ _ hk => by
  obtain ⟨h1, h2⟩ := hk _ (Array.getElem?_eq_some_iff.1 h.2).1 h.1
  exact ⟨h1, h2.trans h.2⟩
theorem ItM.gr (h : ItM i col w g b since seenA last) (hg : Grow col w col' w') : ItM i col' w' g b since seenA last := Loc.gr ItM.loc h hg
theorem ItM.kp (h : ItM i col w g b since seenA last) (hk : Keep c col w col' w') (hc : c ≠ 0) (hi : i ≠ c) : ItM i col' w' g b since seenA last := Loc.kp ItM.loc h hk hc hi
theorem ItM.kpp (h : ItM i col w g b since seenA last) (hk : KeepP q col w col' w') (h0 : q 0 = false) (hi : q i = false) : ItM i col' w' g b since seenA last := Loc.kpp ItM.loc h hk h0 hi
theorem ItM.recol (c d : Nat) (h : ItM i col w g b since seenA last) (hc : i ≠ c ∧ c ≠ 0) : ItM i (rcC c d col) w g b since seenA last := Loc.recol ItM.loc c d hc h
theorem ItM.froz (c : Nat) (h : ItM i col w g b since seenA last) (hc : i ≠ c) : ItM i (frC c col) w g b since seenA last := Loc.froz ItM.loc c h hc
theorem MapE.gr (h : MapE i col w b es clock) (hg : Grow col w col' w') : MapE i col' w' b es clock := Loc.gr MapE.loc h hg
theorem MapE.kp (h : MapE i col w b es clock) (hk : Keep c col w col' w') (hc : c ≠ 0) (hi : i ≠ c) : MapE i col' w' b es clock := Loc.kp MapE.loc h hk hc hi
theorem MapE.kpp (h : MapE i col w b es clock) (hk : KeepP q col w col' w') (h0 : q 0 = false) (hi : q i = false) : MapE i col' w' b es clock := Loc.kpp MapE.loc h hk h0 hi
theorem MapE.recol (c d : Nat) (h : MapE i col w b es clock) (hc : i ≠ c ∧ c ≠ 0) : MapE i (rcC c d col) w b es clock := Loc.recol MapE.loc c d hc h
theorem MapE.froz (c : Nat) (h : MapE i col w b es clock) (hc : i ≠ c) : MapE i (frC c col) w b es clock := Loc.froz MapE.loc c h hc

variable {P : Program} {m : Nat} {rd : Option Nat} {f : Fr} {ops : Array Oper} {Kk : Fr → World → Prop} {rest : List Oper} {tt dd ce : Nat} {ps : String} {af : Array Edge} {x : Operand} {T kt et : TypeId} {p : Int × Nat}
theorem l_grange (c : Nat) (hE : MapE ce col w b es clock) (hd : Nat.blt dd m = true) (hT : P.underlying T = some (.map kt et)) (hx : ev f x = .map (some b))
    (kk : ∀ g w' col', Grow col w col' w' → ItM c col' w' g b clock #[] clock → WpL P m rd ops Kk rest (upd f dd (.pointer (some ⟨g, 0, none⟩))) w') :
    WpL P m rd ops Kk (⟨some dd, .range T x, tt, ps, af, none⟩ :: rest) f w :=
  lv hd rfl (by simp [execOp, hx, Instr.range, run_underlying hT, Go.MapKept.run_getObj_map hE.2, newObj, Sem.run, World.alloc_eq])
    (kk w.heap.size (w.alloc (.mapIter (some b) clock #[] clock)) (paint col w c) (Grow.new (below_alloc w _) c) ⟨by simp [paint], World.alloc_heap_new w _⟩)
theorem l_gnext (hI : ItM c col w g b since seenA last) (hE : MapE ce col w b es clock) (hold : ∀ p ∈ es, p.2 < since) (hsc : since ≤ last) (hd : Nat.blt dd m = true) (hx : ev f x = .pointer (some ⟨g, 0, none⟩))
    (k1 : (∀ p ∈ es, p.2 ∈ seenA.toList) → WpL P m rd ops Kk rest (upd f dd (.tuple #[.bool false])) w)
    (k2 : ∀ (p : Int × Nat) w', p ∈ es → p.2 ∉ seenA.toList → Keep c col w col w' → Still w w' → ItM c col w' g b since (seenA.push p.2) clock → WpL P m rd ops Kk rest (upd f dd (.tuple #[.bool true, .int .i64 p.1, .bool true])) w') :
    WpL P m rd ops Kk (⟨some dd, .next x false, tt, ps, af, none⟩ :: rest) f w := by
  have hmem : ∀ e ∈ (es.map mkE).toArray.toList, ∃ p ∈ es, mkE p = e := fun e he => by
    have he' : e ∈ es.map mkE := he
    exact List.mem_map.1 he'
  rcases run_next_at (P := P) w tt g b since last seenA _ clock hI.2 hE.2 (fun e he => by obtain ⟨p, hp, rfl⟩ := hmem e he; exact hold p hp) hsc with ⟨h1, h2⟩ | ⟨e, he, w1, hw1, h2⟩
  · refine lv hd rfl (by simp [execOp, hx, h2]) (k1 fun p hp => ?_)
    have hz : (leftOf (es.map mkE).toArray seenA).toList = [] := List.length_eq_zero_iff.1 (by rw [Array.length_toList]; exact h1)
    by_cases hc : p.2 ∈ seenA.toList
    · exact hc
    · have : mkE p ∈ (leftOf (es.map mkE).toArray seenA).toList := by
        unfold leftOf
        rw [Array.toList_filter]
        refine List.mem_filter.2 ⟨List.mem_map.2 ⟨p, hp, rfl⟩, ?_⟩
        simpa [mkE] using hc
      rw [hz] at this; cases this
  · unfold leftOf at he
    rw [Array.toList_filter] at he
    obtain ⟨he1, he2⟩ := List.mem_filter.1 he
    obtain ⟨p, hp, rfl⟩ := hmem e he1
    have hlt := (Array.getElem?_eq_some_iff.1 hI.2).1
    have hlt1 : g < w1.heap.size := by rcases hw1 with rfl | rfl <;> exact hlt
    refine lv (w' := ChangeMaps.setBlock w1 g (.mapIter (some b) since (seenA.push p.2) clock)) hd rfl (by simp [execOp, hx, h2]; exact ⟨⟨rfl, rfl⟩, rfl⟩) (k2 p _ hp (by simpa [mkE] using he2) ⟨?_, fun _ _ => rfl, fun k hk hne => ?_⟩ ?_ ⟨hI.1, ?_⟩)
    · rcases hw1 with rfl | rfl <;> simp [ChangeMaps.setBlock]
    · have : k ≠ g := fun e => hne (by rw [e]; exact hI.1)
      rcases hw1 with rfl | rfl
      · simp [ChangeMaps.setBlock, this.symm]
      · show (w.heap.setIfInBounds g _)[k]? = w.heap[k]?
        simp [this.symm]
    · rcases hw1 with rfl | rfl <;> exact ⟨rfl, rfl, rfl⟩
    · rcases hw1 with rfl | rfl
      · simp [ChangeMaps.setBlock, hlt]
      · show (w.heap.setIfInBounds g _)[g]? = _
        simp [hlt]
theorem r_gentry (hI : ItM c col w g b since (seenA.push p.2) clock) (hE : MapE ce col w b es clock) (hp : p ∈ es) (hn : (es.map (·.2)).Nodup) (hx : ev f x = .pointer (some ⟨g, 0, none⟩)) :
    (execOp (ev f) ⟨some dd, .entry x, tt, ps, af, none⟩).run P w = .ok (.value (.tuple #[.int .i64 p.1, .bool true])) w := by
  have h := run_entry_at (P := P) w g b since seenA _ clock (mkE p) hI.2 hE.2 (List.mem_map.2 ⟨p, hp, rfl⟩) (by
    have : (es.map mkE).map (·.born) = es.map (·.2) := by rw [List.map_map]; rfl
    show ((es.map mkE).map (·.born)).Nodup
    rw [this]; exact hn)
  simp only [execOp, hx, Sem.run_bind, h, Result.andThen]
  rfl
end
end Go.Proofs.Ytgkofjmeopbkbaa
