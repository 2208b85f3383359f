/-
  Memory: readings of data ('Rep'), rows that are owned ('Own'), variables in boxes ('Box'), which blocks stay ('Keep'). A colouring says of each block whose it is: 0: it stays as it is. Over any program.
-/
import Derived.Test.YtgfaoflipkmpcaaOps
import Derived.Below
namespace Go.Proofs.Ytgfaoflipkmpcaa
open Go Go.RowKit

abbrev Col := Nat → Nat

/-- Blocks of another colour than c stay; none goes; no block's colour turns. -/
structure Keep (c : Nat) (col : Col) (w : World) (col' : Col) (w' : World) : Prop where
  size : w.heap.size ≤ w'.heap.size
  tint : ∀ k, k < w.heap.size → col' k = col k
  block : ∀ k, k < w.heap.size → col k ≠ c → w'.heap[k]? = w.heap[k]?

theorem Keep.trans {c : Nat} {col col' col'' : Col} {w w' w'' : World} (h : Keep c col w col' w') (k : Keep c col' w' col'' w'') : Keep c col w col'' w'' :=
  ⟨Nat.le_trans h.size k.size, fun i hi => (k.tint i (Nat.lt_of_lt_of_le hi h.size)).trans (h.tint i hi),
    fun i hi hc => (k.block i (Nat.lt_of_lt_of_le hi h.size) (by rw [h.tint i hi]; exact hc)).trans (h.block i hi hc)⟩

/-- Blocks that are nobody's own stay. -/
def Stay (col : Col) (w : World) (col' : Col) (w' : World) : Prop := ∀ k, k < w.heap.size → col k = 0 → col' k = 0 ∧ w'.heap[k]? = w.heap[k]?
theorem Keep.stay {c : Nat} {col : Col} {w : World} {col' : Col} {w' : World} (h : Keep c col w col' w') (hc : c ≠ 0) : Stay col w col' w' :=
  fun k hk h0 => ⟨(h.tint k hk).trans h0, h.block k hk (by rw [h0]; exact fun h => hc h.symm)⟩

/-- How a type's data read. -/
structure Rep (α : Type) where
  sz : Nat
  pos : 0 < sz
  rd : Col → World → List Value → α → Prop
  len : ∀ {col w cs x}, rd col w cs x → cs.length = sz
  one : ∀ {col w cs x}, rd col w cs x → ∀ v ∈ cs, v.oneCell' = true
  keep : ∀ {col w col' w' cs x}, rd col w cs x → Stay col w col' w' → rd col' w' cs x

def Rep.int (k : IntKind) : Rep Int := ⟨1, by decide, fun _ _ cs x => cs = [.int k x], fun h => by rw [h]; rfl, fun h => by rw [h]; simp [Value.oneCell'], fun h _ => h⟩
def Rep.bool : Rep Bool := ⟨1, by decide, fun _ _ cs x => cs = [.bool x], fun h => by rw [h]; rfl, fun h => by rw [h]; simp [Value.oneCell'], fun h _ => h⟩
def Rep.str : Rep ByteArray := ⟨1, by decide, fun _ _ cs x => cs = [.string x], fun h => by rw [h]; rfl, fun h => by rw [h]; simp [Value.oneCell'], fun h _ => h⟩
def Rep.pair {α β : Type} (r : Rep α) (s : Rep β) : Rep (α × β) :=
  ⟨r.sz + s.sz, by have := r.pos; omega, fun col w cs x => ∃ c1 c2, cs = c1 ++ c2 ∧ r.rd col w c1 x.1 ∧ s.rd col w c2 x.2,
    fun ⟨c1, c2, h, h1, h2⟩ => by rw [h, List.length_append, r.len h1, s.len h2],
    fun ⟨c1, c2, h, h1, h2⟩ v hv => by rw [h, List.mem_append] at hv; exact hv.elim (r.one h1 v) (s.one h2 v),
    fun ⟨c1, c2, h, h1, h2⟩ hk => ⟨c1, c2, h, r.keep h1 hk, s.keep h2 hk⟩⟩
def Rep.iso {α β : Type} (r : Rep α) (g : β → α) : Rep β := ⟨r.sz, r.pos, fun col w cs x => r.rd col w cs (g x), r.len, r.one, r.keep⟩

section
variable {α : Type} {r : Rep α} {col : Col} {w : World} {col' : Col} {w' : World} {xs ys : List α} {fl : List Value} {e c i : Nat}

/-- Cells that read as a list's elements, one behind the other. -/
def Rows (r : Rep α) (col : Col) (w : World) : List Value → List α → Prop
  | fl, [] => fl = []
  | fl, x :: xs => ∃ cs fl', fl = cs ++ fl' ∧ r.rd col w cs x ∧ Rows r col w fl' xs

theorem Rows.length : ∀ {xs : List α} {fl : List Value}, Rows r col w fl xs → fl.length = xs.length * r.sz
  | [], _, h => by have h : _ = _ := h; simp [h]
  | x :: xs, _, ⟨cs, fl', h, h1, h2⟩ => by rw [h, List.length_append, r.len h1, Rows.length h2, List.length_cons, Nat.add_mul]; omega

theorem Rows.one : ∀ {xs : List α} {fl : List Value}, Rows r col w fl xs → ∀ v ∈ fl, v.oneCell' = true
  | [], _, h => by have h : _ = _ := h; simp [h]
  | x :: xs, _, ⟨cs, fl', h, h1, h2⟩ => by intro v hv; rw [h, List.mem_append] at hv; exact hv.elim (r.one h1 v) (Rows.one h2 v)

theorem Rows.keep (hk : Stay col w col' w') : ∀ {xs : List α} {fl : List Value}, Rows r col w fl xs → Rows r col' w' fl xs
  | [], _, h => h
  | _ :: _, _, ⟨cs, fl', h, h1, h2⟩ => ⟨cs, fl', h, r.keep h1 hk, Rows.keep hk h2⟩

theorem Rows.append : ∀ {xs : List α} {fl fl' : List Value} {ys : List α}, Rows r col w fl xs → Rows r col w fl' ys → Rows r col w (fl ++ fl') (xs ++ ys)
  | [], _, _, _, h, h' => by have h : _ = _ := h; subst h; exact h'
  | x :: xs, _, _, _, ⟨cs, g, h, h1, h2⟩, h' => ⟨cs, _, by rw [h, List.append_assoc], h1, Rows.append h2 h'⟩

theorem Rows.get : ∀ {xs : List α} {fl : List Value}, Rows r col w fl xs → ∀ {j : Nat} {x : α}, xs[j]? = some x → ∃ cs, r.rd col w cs x ∧ ∀ q v, cs[q]? = some v → fl[j * r.sz + q]? = some v
  | [], _, _, j, x, hj => by simp at hj
  | y :: xs, _, ⟨cs, g, h, h1, h2⟩, 0, x, hj => by
    simp at hj; subst hj
    refine ⟨cs, h1, fun q v hq => ?_⟩
    rw [h, Nat.zero_mul, Nat.zero_add, List.getElem?_append_left (List.getElem?_eq_some_iff.1 hq).1]; exact hq
  | y :: xs, _, ⟨cs, g, h, h1, h2⟩, j + 1, x, hj => by
    obtain ⟨cs', h3, h4⟩ := Rows.get h2 (j := j) (x := x) (by simpa using hj)
    refine ⟨cs', h3, fun q v hq => ?_⟩
    have := h4 q v hq
    rw [h, List.getElem?_append_right (by rw [r.len h1, Nat.add_mul]; omega), r.len h1, Nat.add_mul, show j * r.sz + 1 * r.sz + q - r.sz = j * r.sz + q by omega]
    exact this

theorem Rows.set : ∀ {xs : List α} {fl : List Value}, Rows r col w fl xs → ∀ {j : Nat} {x : α} {cs : List Value}, j < xs.length → r.rd col w cs x →
    Rows r col w (fl.take (j * r.sz) ++ cs ++ fl.drop (j * r.sz + r.sz)) (xs.set j x)
  | [], _, _, j, x, cs, hj, _ => by simp at hj
  | y :: xs, _, ⟨ds, g, h, h1, h2⟩, 0, x, cs, _, hc => by
    refine ⟨cs, g, ?_, hc, h2⟩
    rw [h, Nat.zero_mul, Nat.zero_add, List.take_zero, List.nil_append, List.drop_append, r.len h1]
    simp [List.drop_eq_nil_of_le (Nat.le_of_eq (r.len h1))]
  | y :: xs, _, ⟨ds, g, h, h1, h2⟩, j + 1, x, cs, hj, hc => by
    have ih := Rows.set h2 (j := j) (x := x) (cs := cs) (by simpa using hj) hc
    refine ⟨ds, _, ?_, h1, ih⟩
    have hl := r.len h1
    rw [h, Nat.add_mul, Nat.one_mul, List.take_append, List.drop_append, List.take_of_length_le (by omega), List.drop_eq_nil_of_le (by omega), hl]
    rw [show j * r.sz + r.sz - r.sz = j * r.sz by omega, show j * r.sz + r.sz + r.sz - r.sz = j * r.sz + r.sz by omega]
    simp

theorem Rows.drop : ∀ {xs : List α} {fl : List Value}, Rows r col w fl xs → ∀ k, Rows r col w (fl.drop (k * r.sz)) (xs.drop k)
  | [], _, h, k => by have h : _ = _ := h; subst h; simp [Rows]
  | y :: xs, fl, h, 0 => by simpa using h
  | y :: xs, _, ⟨cs, g, h, h1, h2⟩, k + 1 => by
    have := Rows.drop h2 k
    rw [h, Nat.add_mul, Nat.one_mul, List.drop_append, r.len h1, List.drop_eq_nil_of_le (by rw [r.len h1]; omega), show k * r.sz + r.sz - r.sz = k * r.sz by omega]
    simpa using this

theorem Rows.take : ∀ {xs : List α} {fl : List Value}, Rows r col w fl xs → ∀ k, Rows r col w (fl.take (k * r.sz)) (xs.take k)
  | [], _, h, k => by have h : _ = _ := h; subst h; simp [Rows]
  | y :: xs, fl, h, 0 => by simp [Rows]
  | y :: xs, _, ⟨cs, g, h, h1, h2⟩, k + 1 => by
    refine ⟨cs, g.take (k * r.sz), ?_, h1, Rows.take h2 k⟩
    rw [h, Nat.add_mul, Nat.one_mul, List.take_append, r.len h1, List.take_of_length_le (by rw [r.len h1]; omega), show k * r.sz + r.sz - r.sz = k * r.sz by omega]

/-- The element at a place, if there is one. -/
def at? (xs : List α) (j : Int) : Option α := if 0 ≤ j then xs[j.toNat]? else none
theorem at?_nat (xs : List α) (j : Nat) : at? xs (j : Int) = xs[j]? := by simp [at?]
theorem at?_some {xs : List α} {j : Int} {x : α} (h : at? xs j = some x) : 0 ≤ j ∧ j < xs.length ∧ xs[j.toNat]? = some x := by
  unfold at? at h
  split at h
  · rename_i h0
    have := (List.getElem?_eq_some_iff.1 h).1
    exact ⟨h0, by omega, h⟩
  · cases h

theorem add_mk (b off n : Nat) : (⟨b, off, none⟩ : Addr).add n = ⟨b, off + n, none⟩ := by unfold Addr.add; split <;> simp_all

/-- A list behind an address, in blocks that stay. -/
def Sl (r : Rep α) (col : Col) (w : World) (a : Option Addr) (cap : Nat) (xs : List α) : Prop :=
  (xs.length ≤ maxLen ∧ xs.length ≤ cap) ∧ (xs = [] ∨ ∃ b off fl, a = some ⟨b, off, none⟩ ∧ col b = 0 ∧ Rows r col w fl xs ∧ ∀ q v, fl[q]? = some v → w.cell? ⟨b, off + q, none⟩ = some v)

theorem Sl.nil {a : Option Addr} {cap : Nat} : Sl r col w a cap [] := ⟨by simp [maxLen], .inl rfl⟩

theorem Sl.keep {a : Option Addr} {cap : Nat} (h : Sl r col w a cap xs) (hk : Stay col w col' w') : Sl r col' w' a cap xs := by
  refine ⟨h.1, ?_⟩
  rcases h.2 with h | ⟨b, off, fl, ha, hb, hr, hx⟩
  · exact .inl h
  · by_cases he : xs = []
    · exact .inl he
    · have hlt : b < w.heap.size := by
        have hl := hr.length
        have : 0 < xs.length := List.length_pos_iff.2 he
        have hp := Nat.mul_pos this r.pos
        obtain ⟨v, l', rfl⟩ := List.exists_cons_of_ne_nil (l := fl) (by intro h; subst h; simp at hl; omega)
        exact World.block_lt_of_cell? w _ (hx 0 v rfl)
      refine .inr ⟨b, off, fl, ha, (hk b hlt hb).1, hr.keep hk, fun q v hq => ?_⟩
      rw [← hx q v hq]
      exact World.cell?_of_block (hk b hlt hb).2

theorem Sl.kp {a : Option Addr} {cap : Nat} (h : Sl r col w a cap xs) (hk : Keep c col w col' w') (hc : c ≠ 0) : Sl r col' w' a cap xs := h.keep (hk.stay hc)

/-- A slice as a value. -/
def Rep.slice (r : Rep α) : Rep (List α) :=
  ⟨1, by decide, fun col w cs xs => ∃ a cap, cs = [.slice a xs.length cap] ∧ Sl r col w a cap xs, fun ⟨_, _, h, _⟩ => by rw [h]; rfl, fun ⟨_, _, h, _⟩ => by rw [h]; simp [Value.oneCell'], fun ⟨a, cap, h, hs⟩ hk => ⟨a, cap, h, hs.keep hk⟩⟩

/-- A row that is owned: of colour c; xs at its head. -/
def Own (r : Rep α) (e : TypeId) (c : Nat) (col : Col) (w : World) (a : Option Addr) (cap : Nat) (xs : List α) : Prop :=
  ∃ fl, w.ownsRow 0 e r.sz (.slice a xs.length cap) xs.length fl ∧ Rows r col w fl xs ∧ ∀ g, (Value.slice a xs.length cap).ownBlock = some g → col g = c

theorem Own.nil : Own r e c col w none 0 [] := ⟨[], World.ownsRow_nil _ _ _ _, rfl, by simp [Value.ownBlock]⟩

theorem Own.kp {a : Option Addr} {cap : Nat} (h : Own r e i col w a cap xs) (hk : Keep c col w col' w') (hc : c ≠ 0) (hi : i ≠ c) : Own r e i col' w' a cap xs := by
  obtain ⟨fl, h1, h2, h3⟩ := h
  refine ⟨fl, ⟨h1.1, ?_⟩, h2.keep (hk.stay hc), fun g hg => ?_⟩
  · rcases h1.2 with h | ⟨g, cp, cur, hv, hb, hh, rest⟩
    · exact .inl h
    · have hlt := (Array.getElem?_eq_some_iff.1 hh).1
      have hcol := h3 g (by rw [hv]; rfl)
      exact .inr ⟨g, cp, cur, hv, hb, by rw [hk.block g hlt (by rw [hcol]; exact hi)]; exact hh, rest⟩
  · have hlt := (h1.lt g hg).2
    rw [hk.tint g hlt]; exact h3 g hg

/-- An owned row, read as a list: of another colouring, in which its block stays. -/
theorem Own.sl {a : Option Addr} {cap : Nat} (h : Own r e i col w a cap xs) (h0 : ∀ k, col k = 0 ∨ col k = i → col' k = 0) : Sl r col' w a cap xs := by
  obtain ⟨fl, h1, h2, h3⟩ := h
  have hs : Stay col w col' w := fun k _ hk => ⟨h0 k (.inl hk), rfl⟩
  rcases h1.2 with ⟨h, hn⟩ | ⟨g, cp, cur, hv, hb, hh, hle, hm, hsz, ht⟩
  · obtain rfl := List.length_eq_zero_iff.1 hn
    exact .nil
  · simp only [Value.slice.injEq] at hv
    obtain ⟨rfl, _, rfl⟩ := hv
    refine ⟨⟨by omega, hle⟩, .inr ⟨g, 0, fl, rfl, h0 g (.inr (h3 g rfl)), h2.keep hs, fun q v hq => ?_⟩⟩
    have := h1.cells (g := g) rfl q v hq
    rw [add_mk] at this
    simpa using this

/-- A variable in a box of its own: of colour c, its cells. -/
def Box (e : TypeId) (c : Nat) (col : Col) (w : World) (g : Nat) (cs : Array Value) : Prop := col g = c ∧ w.heap[g]? = some (.cells cs e (0, 0))

theorem Box.kp {g : Nat} {cs : Array Value} (h : Box e i col w g cs) (hk : Keep c col w col' w') (hi : i ≠ c) : Box e i col' w' g cs := by
  have hlt := (Array.getElem?_eq_some_iff.1 h.2).1
  exact ⟨(hk.tint g hlt).trans h.1, by rw [hk.block g hlt (by rw [h.1]; exact hi)]; exact h.2⟩

/-- What a call has done so far: nothing that was there has turned; old blocks bear the colours with which it began, and are nobody's own. -/
structure St (w0 : World) (c0 : Col) (col : Col) (w : World) : Prop where
  below : Below w0.heap.size w0 w
  old : ∀ k, k < w0.heap.size → col k = c0 k
  foreign : ∀ k, k < w0.heap.size → c0 k = 0 ∨ c0 k = 999

/-- Everything stays; new blocks may have come. -/
structure Grow (col : Col) (w : World) (col' : Col) (w' : World) : Prop where
  below : Below w.heap.size w w'
  tint : ∀ k, k < w.heap.size → col' k = col k

theorem Grow.keep (h : Grow col w col' w') (c : Nat) : Keep c col w col' w' := ⟨h.below.size, h.tint, fun k hk _ => h.below.block k hk⟩
theorem Grow.refl (col : Col) (w : World) : Grow col w col w := ⟨Below.refl _ _, fun _ _ => rfl⟩
theorem Grow.of_below (h : Below w.heap.size w w') : Grow col w col w' := ⟨h, fun _ _ => rfl⟩
theorem Grow.trans {col'' : Col} {w'' : World} (h : Grow col w col' w') (k : Grow col' w' col'' w'') : Grow col w col'' w'' :=
  ⟨h.below.trans (k.below.mono h.below.size), fun i hi => (k.tint i (Nat.lt_of_lt_of_le hi h.below.size)).trans (h.tint i hi)⟩
theorem Grow.drew (h : Grow col w col' w') : Grow col w col' w'.drew := ⟨h.below.drew, h.tint⟩
theorem St.grow {w0 : World} {c0 : Col} (h : St w0 c0 col w) (hg : Grow col w col' w') : St w0 c0 col' w' :=
  ⟨h.below.trans (hg.below.mono h.below.size), fun k hk => by rw [hg.tint k (Nat.lt_of_lt_of_le hk h.below.size)]; exact h.old k hk, h.foreign⟩

theorem Own.gr {a : Option Addr} {cap : Nat} (h : Own r e i col w a cap xs) (hg : Grow col w col' w') : Own r e i col' w' a cap xs := h.kp (hg.keep (i + 1)) (by omega) (by omega)
theorem Sl.gr {a : Option Addr} {cap : Nat} (h : Sl r col w a cap xs) (hg : Grow col w col' w') : Sl r col' w' a cap xs := h.kp (hg.keep 1) (by omega)
theorem Box.gr {g : Nat} {cs : Array Value} (h : Box e i col w g cs) (hg : Grow col w col' w') : Box e i col' w' g cs := h.kp (hg.keep (i + 1)) (by omega)
theorem Rep.gr {cs : List Value} {x : α} (h : r.rd col w cs x) (hg : Grow col w col' w') : r.rd col' w' cs x := r.keep h ((hg.keep 1).stay (by omega))

/-- The colouring that a call begins with: what is another's own is foreign to it. -/
def col0 (col : Col) : Col := fun k => if col k = 0 then 0 else 999
/-- The colouring that a call hands back: of old blocks the caller's, of new ones its own. -/
def colR (B : Nat) (col col' : Col) : Col := fun k => if k < B then col k else col' k

theorem St.start (col : Col) (w : World) : St w (col0 col) (col0 col) w := ⟨Below.refl _ _, fun _ _ => rfl, fun k _ => by unfold col0; split <;> simp⟩
theorem Stay.start (col : Col) (w : World) : Stay col w (col0 col) w := fun k _ h => ⟨by simp [col0, h], rfl⟩

/-- At a call's end: what it has made, under the caller's colouring. -/
theorem St.finish {w0 : World} (h : St w0 (col0 col) col' w') : Grow col w0 (colR w0.heap.size col col') w' := ⟨h.below, fun k hk => by simp [colR, hk]⟩
theorem St.stay {w0 : World} (h : St w0 (col0 col) col' w') : Stay col' w' (colR w0.heap.size col col') w' := fun k _ h0 => ⟨by
  unfold colR; split
  · rename_i hk; have := h.old k hk; rw [h0] at this; unfold col0 at this; split at this
    · assumption
    · cases this
  · exact h0, rfl⟩
/-- What is owned at the end is the caller's. -/
theorem St.own {w0 : World} {a : Option Addr} {cap : Nat} (h : St w0 (col0 col) col' w') (ho : Own r e i col' w' a cap xs) (h0 : i ≠ 0) (h9 : i ≠ 999) : Own r e i (colR w0.heap.size col col') w' a cap xs := by
  obtain ⟨fl, h1, h2, h3⟩ := ho
  refine ⟨fl, h1, h2.keep h.stay, fun g hg => ?_⟩
  unfold colR; split
  · rename_i hk; have h4 := h.old g hk; have h5 := h.foreign g hk; rw [h3 g hg] at h4; omega
  · exact h3 g hg
end
end Go.Proofs.Ytgfaoflipkmpcaa
