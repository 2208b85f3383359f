/-
  Memory: readings of data ('Rep'), rows that are owned ('Own'), variables in boxes ('Box'), which blocks stay ('Keep'). A colouring says of each block whose it is: 0: it stays as it is. Over any program.
-/
import Derived.Test.YtnfegieaaaigmaaGreatDoorLexApartBOps
import Derived.Below
namespace Go.Proofs.YtnfegieaaaigmaaGreatDoor
open Go Go.RowKit

abbrev Col := Nat → Nat

structure Keep (c : Nat) (col : Col) (w : World) (col' : Col) (w' : World) : Prop where
 size : w.heap.size ≤ w'.heap.size
 tint : ∀ k, k < w.heap.size → col' k = col k
 block : ∀ k, k < w.heap.size → col k ≠ c → w'.heap[k]? = w.heap[k]?

theorem Keep.trans {c : Nat} {col col' col'' : Col} {w w' w'' : World} (h : Keep c col w col' w') (k : Keep c col' w' col'' w'') : Keep c col w col'' w'' :=
 ⟨Nat.le_trans h.size k.size, fun i hi => (k.tint i (Nat.lt_of_lt_of_le hi h.size)).trans (h.tint i hi),
  fun i hi hc => (k.block i (Nat.lt_of_lt_of_le hi h.size) (by rw [h.tint i hi]; exact hc)).trans (h.block i hi hc)⟩

def Stay (col : Col) (w : World) (col' : Col) (w' : World) : Prop := ∀ k, k < w.heap.size → col k = 0 → col' k = 0 ∧ w'.heap[k]? = w.heap[k]?
theorem Keep.stay {c : Nat} {col : Col} {w : World} {col' : Col} {w' : World} (h : Keep c col w col' w') (hc : c ≠ 0) : Stay col w col' w' :=
 fun k hk h0 => ⟨(h.tint k hk).trans h0, h.block k hk (by rw [h0]; exact fun h => hc h.symm)⟩

structure Rep (α : Type) where
 sz : Nat
 pos : 0 < sz
 rd : Col → World → List Value → α → List Nat → Prop
 len : ∀ {col w cs x bs}, rd col w cs x bs → cs.length = sz
 one : ∀ {col w cs x bs}, rd col w cs x bs → ∀ v ∈ cs, v.oneCell' = true
 lt : ∀ {col w cs x bs}, rd col w cs x bs → ∀ b ∈ bs, b < w.heap.size
 keep : ∀ {col w col' w' cs x bs}, rd col w cs x bs → Stay col w col' w' → (∀ b ∈ bs, w'.heap[b]? = w.heap[b]?) → rd col' w' cs x bs

def Rep.int (k : IntKind) : Rep Int := ⟨1, by decide, fun _ _ cs x bs => cs = [.int k x] ∧ bs = [], fun h => by rw [h.1]; rfl, fun h => by rw [h.1]; simp [Value.oneCell'], fun h => by rw [h.2]; simp, fun h _ _ => h⟩
def Rep.str : Rep ByteArray := ⟨1, by decide, fun _ _ cs x bs => cs = [.string x] ∧ bs = [], fun h => by rw [h.1]; rfl, fun h => by rw [h.1]; simp [Value.oneCell'], fun h => by rw [h.2]; simp, fun h _ _ => h⟩
def Rep.pair {α β : Type} (r : Rep α) (s : Rep β) : Rep (α × β) :=
 ⟨r.sz + s.sz, by have := r.pos; omega, fun col w cs x bs => ∃ c1 c2 b1 b2, cs = c1 ++ c2 ∧ bs = b1 ++ b2 ∧ r.rd col w c1 x.1 b1 ∧ s.rd col w c2 x.2 b2,
  fun ⟨c1, c2, b1, b2, h, _, h1, h2⟩ => by rw [h, List.length_append, r.len h1, s.len h2],
  fun ⟨c1, c2, b1, b2, h, _, h1, h2⟩ v hv => by rw [h, List.mem_append] at hv; exact hv.elim (r.one h1 v) (s.one h2 v),
  fun ⟨c1, c2, b1, b2, h, hb, h1, h2⟩ b hv => by rw [hb, List.mem_append] at hv; exact hv.elim (r.lt h1 b) (s.lt h2 b),
  fun ⟨c1, c2, b1, b2, h, hb, h1, h2⟩ hk hh => ⟨c1, c2, b1, b2, h, hb, r.keep h1 hk fun b hm => hh b (by rw [hb]; simp [hm]), s.keep h2 hk fun b hm => hh b (by rw [hb]; simp [hm])⟩⟩
section
variable {α : Type} {r : Rep α} {col : Col} {w : World} {col' : Col} {w' : World} {xs ys : List α} {fl : List Value} {e c i : Nat} {bs : List Nat}

def Rows (r : Rep α) (col : Col) (w : World) : List Value → List α → List Nat → Prop
 | fl, [], bs => fl = [] ∧ bs = []
 | fl, x :: xs, bs => ∃ cs fl' b1 b2, fl = cs ++ fl' ∧ bs = b1 ++ b2 ∧ r.rd col w cs x b1 ∧ Rows r col w fl' xs b2

theorem Rows.length : ∀ {xs : List α} {fl : List Value} {bs : List Nat}, Rows r col w fl xs bs → fl.length = xs.length * r.sz
 | [], _, _, h => by have h : _ ∧ _ := h; simp [h.1]
 | x :: xs, _, _, ⟨cs, fl', b1, b2, h, _, h1, h2⟩ => by rw [h, List.length_append, r.len h1, Rows.length h2, List.length_cons, Nat.add_mul]; omega

theorem Rows.one : ∀ {xs : List α} {fl : List Value} {bs : List Nat}, Rows r col w fl xs bs → ∀ v ∈ fl, v.oneCell' = true
 | [], _, _, h => by have h : _ ∧ _ := h; simp [h.1]
 | x :: xs, _, _, ⟨cs, fl', b1, b2, h, _, h1, h2⟩ => by intro v hv; rw [h, List.mem_append] at hv; exact hv.elim (r.one h1 v) (Rows.one h2 v)

theorem Rows.lt : ∀ {xs : List α} {fl : List Value} {bs : List Nat}, Rows r col w fl xs bs → ∀ b ∈ bs, b < w.heap.size
 | [], _, _, h => by have h : _ ∧ _ := h; simp [h.2]
 | x :: xs, _, _, ⟨cs, fl', b1, b2, _, h, h1, h2⟩ => by intro v hv; rw [h, List.mem_append] at hv; exact hv.elim (r.lt h1 v) (Rows.lt h2 v)

theorem Rows.keep (hk : Stay col w col' w') : ∀ {xs : List α} {fl : List Value} {bs : List Nat}, Rows r col w fl xs bs → (∀ b ∈ bs, w'.heap[b]? = w.heap[b]?) → Rows r col' w' fl xs bs
 | [], _, _, h, _ => h
 | _ :: _, _, _, ⟨cs, fl', b1, b2, h, hb, h1, h2⟩, hh => ⟨cs, fl', b1, b2, h, hb, r.keep h1 hk fun b hm => hh b (by rw [hb]; simp [hm]), Rows.keep hk h2 fun b hm => hh b (by rw [hb]; simp [hm])⟩

theorem Rows.append : ∀ {xs : List α} {fl fl' : List Value} {ys : List α} {bs bs' : List Nat}, Rows r col w fl xs bs → Rows r col w fl' ys bs' → Rows r col w (fl ++ fl') (xs ++ ys) (bs ++ bs')
 | [], _, _, _, _, _, h, h' => by have h : _ ∧ _ := h; obtain ⟨rfl, rfl⟩ := h; exact h'
 | x :: xs, _, _, _, _, _, ⟨cs, g, b1, b2, h, hb, h1, h2⟩, h' => ⟨cs, _, b1, _, by rw [h, List.append_assoc], by rw [hb, List.append_assoc], h1, Rows.append h2 h'⟩

theorem Rows.get : ∀ {xs : List α} {fl : List Value} {bs : List Nat}, Rows r col w fl xs bs → ∀ {j : Nat} {x : α}, xs[j]? = some x → ∃ cs b1 b2 b3, bs = b1 ++ b2 ++ b3 ∧ r.rd col w cs x b2 ∧ (∀ q v, cs[q]? = some v → fl[j * r.sz + q]? = some v) ∧
  ∀ col' w' x' cs' b', Stay col w col' w' → (∀ b ∈ b1 ++ b3, w'.heap[b]? = w.heap[b]?) → r.rd col' w' cs' x' b' → Rows r col' w' (fl.take (j * r.sz) ++ cs' ++ fl.drop (j * r.sz + r.sz)) (xs.set j x') (b1 ++ b' ++ b3)
 | [], _, _, _, j, x, hj => by simp at hj
 | y :: xs, _, _, ⟨cs, g, b1, b2, h, hb, h1, h2⟩, 0, x, hj => by
  simp at hj; subst hj
  refine ⟨cs, [], b1, b2, by simp [hb], h1, fun q v hq => ?_, fun col' w' x' cs' b' hk hh hc => ?_⟩
  ·rw [h, Nat.zero_mul, Nat.zero_add, List.getElem?_append_left (List.getElem?_eq_some_iff.1 hq).1]; exact hq
  ·refine ⟨cs', g, b', b2, ?_, by simp, hc, Rows.keep hk h2 fun b hm => hh b (by simp [hm])⟩
   rw [h, Nat.zero_mul, Nat.zero_add, List.take_zero, List.nil_append, List.drop_append, r.len h1]
   simp [List.drop_eq_nil_of_le (Nat.le_of_eq (r.len h1))]
 | y :: xs, _, _, ⟨cs, g, b1, b2, h, hb, h1, h2⟩, j + 1, x, hj => by
  obtain ⟨cs', c1, c2, c3, h3, h4, h5, h6⟩ := Rows.get h2 (j := j) (x := x) (by simpa using hj)
  have hl := r.len h1
  refine ⟨cs', b1 ++ c1, c2, c3, by rw [hb, h3]; simp, h4, fun q v hq => ?_, fun col' w' x' ds b' hk hh hc => ?_⟩
  ·have := h5 q v hq
   rw [h, List.getElem?_append_right (by rw [r.len h1, Nat.add_mul]; omega), r.len h1, Nat.add_mul, show j * r.sz + 1 * r.sz + q - r.sz = j * r.sz + q by omega]
   exact this
  ·refine ⟨cs, _, b1, _, ?_, by simp, r.keep h1 hk fun b hm => hh b (by simp [hm]), h6 col' w' x' ds b' hk (fun b hm => hh b (by simp only [List.mem_append] at hm ⊢; exact hm.elim (fun h => .inl (.inr h)) .inr)) hc⟩
   rw [h, Nat.add_mul, Nat.one_mul, List.take_append, List.drop_append, List.take_of_length_le (by omega), List.drop_eq_nil_of_le (by omega), hl]
   rw [show j * r.sz + r.sz - r.sz = j * r.sz by omega, show j * r.sz + r.sz + r.sz - r.sz = j * r.sz + r.sz by omega]
   simp

theorem Rows.split : ∀ (k : Nat) {xs : List α} {fl : List Value} {bs : List Nat}, Rows r col w fl xs bs → ∃ b1 b2, bs = b1 ++ b2 ∧ Rows r col w (fl.take (k * r.sz)) (xs.take k) b1 ∧ Rows r col w (fl.drop (k * r.sz)) (xs.drop k) b2
 | k, [], _, _, h => by have h : _ ∧ _ := h; obtain ⟨rfl, rfl⟩ := h; exact ⟨[], [], by simp, by simp [Rows], by simp [Rows]⟩
 | 0, y :: xs, fl, bs, h => ⟨[], bs, by simp, by simp [Rows], by simpa using h⟩
 | k + 1, y :: xs, _, _, ⟨cs, g, b1, b2, h, hb, h1, h2⟩ => by
  obtain ⟨c1, c2, h3, h4, h5⟩ := Rows.split k h2
  have hl := r.len h1
  refine ⟨b1 ++ c1, c2, by rw [hb, h3]; simp, ⟨cs, g.take (k * r.sz), b1, c1, ?_, rfl, h1, h4⟩, ?_⟩
  ·rw [h, Nat.add_mul, Nat.one_mul, List.take_append, hl, List.take_of_length_le (by omega), show k * r.sz + r.sz - r.sz = k * r.sz by omega]
  ·rw [h, Nat.add_mul, Nat.one_mul, List.drop_append, hl, List.drop_eq_nil_of_le (by omega), show k * r.sz + r.sz - r.sz = k * r.sz by omega]
   simpa using h5
def at? (xs : List α) (j : Int) : Option α := if 0 ≤ j then xs[j.toNat]? else none
theorem at?_nat (xs : List α) (j : Nat) : at? xs (j : Int) = xs[j]? := by simp [at?]
theorem at?_some {xs : List α} {j : Int} {x : α} (h : at? xs j = some x) : 0 ≤ j ∧ j < xs.length ∧ xs[j.toNat]? = some x := by
 unfold at? at h
 split at h
 ·rename_i h0
  have := (List.getElem?_eq_some_iff.1 h).1
  exact ⟨h0, by omega, h⟩
 ·cases h

theorem add_mk (b off n : Nat) : (⟨b, off, none⟩ : Addr).add n = ⟨b, off + n, none⟩ := by unfold Addr.add; split <;> simp_all

def Sl (r : Rep α) (col : Col) (w : World) (a : Option Addr) (cap : Nat) (xs : List α) : Prop :=
 (xs.length ≤ maxLen ∧ xs.length ≤ cap) ∧ (xs = [] ∨ ∃ b off fl, a = some ⟨b, off, none⟩ ∧ col b = 0 ∧ Rows r col w fl xs [] ∧ ∀ q v, fl[q]? = some v → w.cell? ⟨b, off + q, none⟩ = some v)

theorem Sl.nil {a : Option Addr} {cap : Nat} : Sl r col w a cap [] := ⟨by simp [maxLen], .inl rfl⟩

theorem Sl.keep {a : Option Addr} {cap : Nat} (h : Sl r col w a cap xs) (hk : Stay col w col' w') : Sl r col' w' a cap xs := by
 refine ⟨h.1, ?_⟩
 rcases h.2 with h | ⟨b, off, fl, ha, hb, hr, hx⟩
 ·exact .inl h
 ·by_cases he : xs = []
  ·exact .inl he
  ·have hlt : b < w.heap.size := by
    have hl := hr.length
    have : 0 < xs.length := List.length_pos_iff.2 he
    have hp := Nat.mul_pos this r.pos
    obtain ⟨v, l', rfl⟩ := List.exists_cons_of_ne_nil (l := fl) (by intro h; subst h; simp at hl; omega)
    exact World.block_lt_of_cell? w _ (hx 0 v rfl)
   refine .inr ⟨b, off, fl, ha, (hk b hlt hb).1, hr.keep hk (by simp), fun q v hq => ?_⟩
   rw [← hx q v hq]
   exact World.cell?_of_block (hk b hlt hb).2

theorem Sl.kp {a : Option Addr} {cap : Nat} (h : Sl r col w a cap xs) (hk : Keep c col w col' w') (hc : c ≠ 0 := by decide) : Sl r col' w' a cap xs := h.keep (hk.stay hc)

def Rep.slice (r : Rep α) : Rep (List α) :=
 ⟨1, by decide, fun col w cs xs bs => (∃ a cap, cs = [.slice a xs.length cap] ∧ Sl r col w a cap xs) ∧ bs = [], fun ⟨⟨_, _, h, _⟩, _⟩ => by rw [h]; rfl, fun ⟨⟨_, _, h, _⟩, _⟩ => by rw [h]; simp [Value.oneCell'], fun ⟨_, h⟩ => by rw [h]; simp,
  fun ⟨⟨a, cap, h, hs⟩, hb⟩ hk _ => ⟨⟨a, cap, h, hs.keep hk⟩, hb⟩⟩

def RowB (r : Rep α) (e : TypeId) (col : Col) (w : World) (a : Option Addr) (cap : Nat) (xs : List α) (bs : List Nat) : Prop :=
 ∃ fl b2, w.ownsRow 0 e r.sz (.slice a xs.length cap) xs.length fl ∧ Rows r col w fl xs b2 ∧ bs = (Value.slice a xs.length cap).ownBlock.toList ++ b2

theorem RowB.lt {a : Option Addr} {cap : Nat} (h : RowB r e col w a cap xs bs) : ∀ b ∈ bs, b < w.heap.size := by
 obtain ⟨fl, b2, h1, h2, rfl⟩ := h
 intro b hb
 rw [List.mem_append] at hb
 rcases hb with hb | hb
 ·rw [Option.mem_toList] at hb; exact (h1.lt b hb).2
 ·exact h2.lt b hb
theorem RowB.keep {a : Option Addr} {cap : Nat} (h : RowB r e col w a cap xs bs) (hk : Stay col w col' w') (hh : ∀ b ∈ bs, w'.heap[b]? = w.heap[b]?) : RowB r e col' w' a cap xs bs := by
 obtain ⟨fl, b2, h1, h2, rfl⟩ := h
 refine ⟨fl, b2, ⟨h1.1, ?_⟩, h2.keep hk fun b hb => hh b (by simp [hb]), rfl⟩
 rcases h1.2 with h | ⟨g, cp, cur, hv, hb, hhg, rest⟩
 ·exact .inl h
 ·exact .inr ⟨g, cp, cur, hv, hb, by rw [hh g (by rw [hv]; simp [Value.ownBlock])]; exact hhg, rest⟩
theorem RowB.nil : RowB r e col w none 0 [] [] := ⟨[], [], World.ownsRow_nil _ _ _ _, ⟨rfl, rfl⟩, by simp [Value.ownBlock]⟩

def Mine (c : Nat) (col : Col) (bs : List Nat) : Prop := bs.Nodup ∧ ∀ b ∈ bs, col b = c
theorem Mine.nil : Mine c col [] := ⟨List.nodup_nil, by simp⟩
theorem Mine.kp (h : Mine i col bs) (hlt : ∀ b ∈ bs, b < w.heap.size) (hk : Keep c col w col' w') : Mine i col' bs := ⟨h.1, fun b hb => by rw [hk.tint b (hlt b hb)]; exact h.2 b hb⟩

def Has (r : Rep α) (c : Nat) (col : Col) (w : World) (cs : List Value) (x : α) : Prop := ∃ bs, r.rd col w cs x bs ∧ Mine c col bs

def Own (r : Rep α) (e : TypeId) (c : Nat) (col : Col) (w : World) (a : Option Addr) (cap : Nat) (xs : List α) : Prop := ∃ bs, RowB r e col w a cap xs bs ∧ Mine c col bs

theorem Own.nil : Own r e c col w none 0 [] := ⟨[], .nil, .nil⟩
theorem Has.kp {x : α} {cs : List Value} (h : Has r i col w cs x) (hk : Keep c col w col' w') (hc : c ≠ 0 := by decide) (hi : i ≠ c := by decide) : Has r i col' w' cs x := by
 obtain ⟨bs, h1, h2⟩ := h
 exact ⟨bs, r.keep h1 (hk.stay hc) fun b hb => hk.block b (r.lt h1 b hb) (by rw [h2.2 b hb]; exact hi), h2.kp (r.lt h1) hk⟩
theorem Own.kp {a : Option Addr} {cap : Nat} (h : Own r e i col w a cap xs) (hk : Keep c col w col' w') (hc : c ≠ 0 := by decide) (hi : i ≠ c := by decide) : Own r e i col' w' a cap xs := by
 obtain ⟨bs, h1, h2⟩ := h
 exact ⟨bs, h1.keep (hk.stay hc) fun b hb => hk.block b (h1.lt b hb) (by rw [h2.2 b hb]; exact hi), h2.kp h1.lt hk⟩

def Froz (r s : Rep α) : Prop := s.sz = r.sz ∧ ∀ {col w cs x bs}, r.rd col w cs x bs → (∀ b ∈ bs, col b = 0) → s.rd col w cs x []
theorem Froz.int (k : IntKind) : Froz (Rep.int k) (Rep.int k) := ⟨rfl, fun h _ => ⟨h.1, rfl⟩⟩
theorem Froz.str : Froz Rep.str Rep.str := ⟨rfl, fun h _ => ⟨h.1, rfl⟩⟩
theorem Froz.pair {β : Type} {r s : Rep α} {r' s' : Rep β} (h : Froz r s) (k : Froz r' s') : Froz (Rep.pair r r') (Rep.pair s s') :=
 ⟨by show s.sz + s'.sz = r.sz + r'.sz; rw [h.1, k.1], fun ⟨c1, c2, b1, b2, h1, hb, h2, h3⟩ h0 => ⟨c1, c2, [], [], h1, rfl, h.2 h2 fun b hm => h0 b (by rw [hb]; simp [hm]), k.2 h3 fun b hm => h0 b (by rw [hb]; simp [hm])⟩⟩
theorem Rows.froz {s : Rep α} (hf : Froz r s) : ∀ {xs : List α} {fl : List Value} {bs : List Nat}, Rows r col w fl xs bs → (∀ b ∈ bs, col b = 0) → Rows s col w fl xs []
 | [], _, _, h, _ => ⟨h.1, rfl⟩
 | _ :: _, _, _, ⟨cs, fl', b1, b2, h, hb, h1, h2⟩, h0 => ⟨cs, fl', [], [], h, rfl, hf.2 h1 fun b hm => h0 b (by rw [hb]; simp [hm]), Rows.froz hf h2 fun b hm => h0 b (by rw [hb]; simp [hm])⟩
theorem RowB.sl {s : Rep α} (hf : Froz r s) {a : Option Addr} {cap : Nat} (h : RowB r e col w a cap xs bs) (h0 : ∀ b ∈ bs, col b = 0) : Sl s col w a cap xs := by
 obtain ⟨fl, b2, h1, h2, rfl⟩ := h
 rcases h1.2 with ⟨h, hn⟩ | ⟨g, cp, cur, hv, hb, hh, hle, hm, hsz, ht⟩
 ·obtain rfl := List.length_eq_zero_iff.1 hn
  exact .nil
 ·simp only [Value.slice.injEq] at hv
  obtain ⟨rfl, _, rfl⟩ := hv
  refine ⟨⟨by omega, hle⟩, .inr ⟨g, 0, fl, rfl, h0 g (by simp [Value.ownBlock]), h2.froz hf fun b hb => h0 b (by simp [hb]), fun q v hq => ?_⟩⟩
  have := h1.cells (g := g) rfl q v hq
  rw [add_mk] at this
  simpa using this
theorem Own.slF {s : Rep α} (hf : Froz r s) {a : Option Addr} {cap : Nat} (h : Own r e i col w a cap xs) (h0 : ∀ k, col k = 0 ∨ col k = i → col' k = 0) : Sl s col' w a cap xs := by
 obtain ⟨bs, h1, h2⟩ := h
 have hs : Stay col w col' w := fun k _ hk => ⟨h0 k (.inl hk), rfl⟩
 exact (h1.keep hs fun _ _ => rfl).sl hf fun b hb => h0 b (.inr (h2.2 b hb))

def Box (e : TypeId) (c : Nat) (col : Col) (w : World) (g : Nat) (cs : Array Value) : Prop := col g = c ∧ w.heap[g]? = some (.cells cs e (0, 0))

theorem Box.kp {g : Nat} {cs : Array Value} (h : Box e i col w g cs) (hk : Keep c col w col' w') (hi : i ≠ c := by decide) : Box e i col' w' g cs := by
 have hlt := (Array.getElem?_eq_some_iff.1 h.2).1
 exact ⟨(hk.tint g hlt).trans h.1, by rw [hk.block g hlt (by rw [h.1]; exact hi)]; exact h.2⟩

def Still (w w' : World) : Prop := w'.os = w.os ∧ w'.tape = w.tape ∧ w'.output = w.output
theorem Still.refl (w : World) : Still w w := ⟨rfl, rfl, rfl⟩
theorem Still.trans {w'' : World} (h : Still w w') (k : Still w' w'') : Still w w'' := ⟨k.1.trans h.1, k.2.1.trans h.2.1, k.2.2.trans h.2.2⟩

def pM : Nat → Bool := fun c => Nat.ble 440 c && Nat.blt c 450

structure St (w0 : World) (c0 : Col) (col : Col) (w : World) : Prop where
 still : Still w0 w
 size : w0.heap.size ≤ w.heap.size
 old : ∀ k, k < w0.heap.size → pM (c0 k) = false → col k = c0 k ∧ w.heap[k]? = w0.heap[k]?
 foreign : ∀ k, k < w0.heap.size → c0 k = 0 ∨ c0 k = 999 ∨ pM (c0 k) = true

structure Grow (col : Col) (w : World) (col' : Col) (w' : World) : Prop where
 below : Below w.heap.size w w'
 tint : ∀ k, k < w.heap.size → col' k = col k

theorem Grow.still (h : Grow col w col' w') : Still w w' := ⟨h.below.os, h.below.tape, h.below.output⟩
theorem Grow.keep (h : Grow col w col' w') (c : Nat) : Keep c col w col' w' := ⟨h.below.size, h.tint, fun k hk _ => h.below.block k hk⟩
theorem Grow.refl (col : Col) (w : World) : Grow col w col w := ⟨Below.refl _ _, fun _ _ => rfl⟩
theorem Grow.of_below (h : Below w.heap.size w w') : Grow col w col w' := ⟨h, fun _ _ => rfl⟩
theorem Grow.trans {col'' : Col} {w'' : World} (h : Grow col w col' w') (k : Grow col' w' col'' w'') : Grow col w col'' w'' :=
 ⟨h.below.trans (k.below.mono h.below.size), fun i hi => (k.tint i (Nat.lt_of_lt_of_le hi h.below.size)).trans (h.tint i hi)⟩
theorem Grow.drew (h : Grow col w col' w') : Grow col w col' w'.drew := ⟨h.below.drew, h.tint⟩
theorem St.kp {w0 : World} {c0 : Col} (h : St w0 c0 col w) (hk : Keep c col w col' w') (hs : Still w w') (h0 : c ≠ 0 := by decide) (h9 : c ≠ 999 := by decide) : St w0 c0 col' w' :=
 ⟨h.still.trans hs, Nat.le_trans h.size hk.size, (by
  intro k hlt hm
  obtain ⟨h1, h2⟩ := h.old k hlt hm
  have hlt' := Nat.lt_of_lt_of_le hlt h.size
  have h3 := h.foreign k hlt
  refine ⟨(hk.tint k hlt').trans h1, (hk.block k hlt' ?_).trans h2⟩
  rw [h1]; rcases h3 with h3 | h3 | h3
  ·rw [h3]; exact Ne.symm h0
  ·rw [h3]; exact Ne.symm h9
  ·rw [hm] at h3; exact absurd h3 (by decide)), h.foreign⟩
theorem St.grow {w0 : World} {c0 : Col} (h : St w0 c0 col w) (hg : Grow col w col' w') : St w0 c0 col' w' := h.kp (hg.keep 1) hg.still (by decide) (by decide)

theorem Has.gr {x : α} {cs : List Value} (h : Has r i col w cs x) (hg : Grow col w col' w') : Has r i col' w' cs x := h.kp (hg.keep (i + 1)) (by omega) (by omega)
theorem Own.gr {a : Option Addr} {cap : Nat} (h : Own r e i col w a cap xs) (hg : Grow col w col' w') : Own r e i col' w' a cap xs := h.kp (hg.keep (i + 1)) (by omega) (by omega)
theorem Sl.gr {a : Option Addr} {cap : Nat} (h : Sl r col w a cap xs) (hg : Grow col w col' w') : Sl r col' w' a cap xs := h.kp (hg.keep 1) (by omega)
theorem Box.gr {g : Nat} {cs : Array Value} (h : Box e i col w g cs) (hg : Grow col w col' w') : Box e i col' w' g cs := h.kp (hg.keep (i + 1)) (by omega)

def col0 (col : Col) : Col := fun k => if col k = 0 then 0 else 999
theorem St.start (col : Col) (w : World) : St w (col0 col) (col0 col) w := ⟨Still.refl w, Nat.le_refl _, fun _ _ _ => ⟨rfl, rfl⟩, fun k _ => by unfold col0; split <;> simp⟩
theorem Stay.start (col : Col) (w : World) : Stay col w (col0 col) w := fun k _ h => ⟨by simp [col0, h], rfl⟩
theorem St.st {w0 : World} {c0 : Col} (h : St w0 c0 col w) : Stay c0 w0 col w := fun k hk h0 => by
 have h1 := h.old k hk (by rw [h0]; rfl)
 exact ⟨h1.1.trans h0, h1.2⟩
theorem Sl.ks {w0 : World} {c0 : Col} {a : Option Addr} {cap : Nat} (h : Sl r c0 w0 a cap xs) (hs : St w0 c0 col w) : Sl r col w a cap xs := h.keep hs.st
theorem pM_col0 (col : Col) (k : Nat) : pM (col0 col k) = false := by unfold col0; split <;> rfl
theorem St.below {w0 : World} (h : St w0 (col0 col) col' w') : Below w0.heap.size w0 w' := ⟨h.still.1, h.still.2.1, h.still.2.2, h.size, fun k hk => (h.old k hk (pM_col0 _ _)).2⟩
theorem St.oldc {w0 : World} (h : St w0 (col0 col) col' w') : ∀ k, k < w0.heap.size → col' k = col0 col k := fun k hk => (h.old k hk (pM_col0 _ _)).1
end
end Go.Proofs.YtnfegieaaaigmaaGreatDoor
