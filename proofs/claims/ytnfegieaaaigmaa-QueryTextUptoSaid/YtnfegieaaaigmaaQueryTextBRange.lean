/-
  Ranges over functions: what a function that is gone over hands on ('It'), the rule for the statement ('wrange'), a call's end where such loops were in it. Also: a region that draws its order and whose last operation alone turns the world. Over any program.
-/
import Derived.Test.YtnfegieaaaigmaaQueryTextBLOps
namespace Go.Proofs.Ytnfegieaaaigmaa
open Go Go.RowKit

section
variable {α : Type} {r : Rep α} {p q : Nat → Bool} {e c i : Nat} {col col' col'' : Col} {w w' w'' : World} {xs : List α}

/-! the book-keeping of a loop over a function -/
def q1 : Nat → Bool := fun c => Nat.beq c 450 || Nat.beq c 451
end

/-! ### the statement -/
section
variable {P : Program} {m : Nat} {N R : Fr → World → Prop} {E : Nat → Fr → World → Prop} {f : Fr} {w : World} {col : Col}

theorem Keep.put {c : Nat} {l : Nat} {o : Obj} (hl : col l = c) : Keep c col w col (w.putObj l o) :=
 ⟨by simp, fun _ _ => rfl, fun k _ hk => World.putObj_heap_other (fun e => hk (by rw [e]; exact hl))⟩
theorem Still.put {l : Nat} {o : Obj} : Still w (w.putObj l o) := ⟨rfl, rfl, rfl⟩


/-! ### a row that was read as what stays, for a call: taken back -/
def Rep.flat {α : Type} (r : Rep α) : Prop := ∀ {col w col' w' cs x bs}, r.rd col w cs x bs → (∀ b ∈ bs, w'.heap[b]? = w.heap[b]?) → r.rd col' w' cs x bs
theorem flat_str : Rep.str.flat := fun h _ => h
theorem flat_pair {α β : Type} {r : Rep α} {s : Rep β} (h : r.flat) (k : s.flat) : (Rep.pair r s).flat := fun ⟨c1, c2, b1, b2, h1, h2, h3, h4⟩ hh => ⟨c1, c2, b1, b2, h1, h2, h h3 fun b hb => hh b (by rw [h2]; simp [hb]), k h4 fun b hb => hh b (by rw [h2]; simp [hb])⟩
section
variable {α : Type} {r : Rep α} {e i c : Nat} {col colz col' : Col} {w w' : World} {xs : List α} {a : Option Addr} {cap : Nat} {x : α} {cs : List Value}
theorem Rows.flat (hf : r.flat) {colA colB : Col} {wA wB : World} : ∀ {xs : List α} {fl : List Value} {bs : List Nat}, Rows r colA wA fl xs bs → (∀ b ∈ bs, wB.heap[b]? = wA.heap[b]?) → Rows r colB wB fl xs bs
 | [], _, _, h, _ => h
 | _ :: _, _, _, ⟨cs, fl', b1, b2, h, hb, h1, h2⟩, hh => ⟨cs, fl', b1, b2, h, hb, hf h1 fun b hm => hh b (by rw [hb]; simp [hm]), Rows.flat hf h2 fun b hm => hh b (by rw [hb]; simp [hm])⟩
theorem RowB.flat (hf : r.flat) {bs : List Nat} (h : RowB r e col w a cap xs bs) (hh : ∀ b ∈ bs, w'.heap[b]? = w.heap[b]?) : RowB r e col' w' a cap xs bs := by
 obtain ⟨fl, b2, h1, h2, rfl⟩ := h
 refine ⟨fl, b2, ⟨h1.1, ?_⟩, h2.flat hf fun b hb => hh b (by simp [hb]), rfl⟩
 rcases h1.2 with h | ⟨g, cp, cur, hv, hb, hhg, rest⟩
 ·exact .inl h
 ·exact .inr ⟨g, cp, cur, hv, hb, by rw [hh g (by rw [hv]; simp [Value.ownBlock])]; exact hhg, rest⟩
def Fz (colz col : Col) : Prop := ∀ k, colz k ≠ 0 → colz k = col k
theorem Fz.refl : Fz col col := fun _ _ => rfl
theorem Fz.froz (c : Nat) (h : Fz colz col) : Fz (frC c colz) col := fun k hk => by
 unfold frC at hk ⊢
 split at hk
 ·exact absurd rfl hk
 ·rename_i hc; rw [if_neg hc]; exact h k hk
theorem Grow.thawR (h : Grow colz w col' w') : Grow col w (colR w.heap.size col col') w' := ⟨h.below, fun k hk => by simp [colR, hk]⟩
theorem Mine.thaw {bs : List Nat} (h : Mine i col' bs) (hg : Grow colz w col' w') (hz : Fz colz col) (hi : i ≠ 0 := by decide) : Mine i (colR w.heap.size col col') bs := ⟨h.1, fun g hg' => by
 unfold colR; split
 ·rename_i hlt
  have h4 := h.2 g hg'
  have h5 := hg.tint g hlt
  rw [← hz g (by rw [← h5, h4]; exact hi), ← h5, h4]
 ·exact h.2 g hg'⟩
theorem Own.thaw (hf : r.flat) (h : Own r e i col' w' a cap xs) (hg : Grow colz w col' w') (hz : Fz colz col) (hi : i ≠ 0 := by decide) : Own r e i (colR w.heap.size col col') w' a cap xs := by
 obtain ⟨bs, h1, h2⟩ := h
 exact ⟨bs, h1.flat hf fun _ _ => rfl, h2.thaw hg hz hi⟩
end

/-! ### integers that came in -/

/-! ### a call's end: the marks are taken -/
end

/-! ### a region that draws its order, whose last operation alone turns the world -/
section
variable {P : Program} {m : Nat} {rd : Option Nat} {f : Fr} {col : Col} {w : World}

end
end Go.Proofs.Ytnfegieaaaigmaa
