/-
  Operations that turn the world, as steps of a list of operations: what follows is asked of every world that they may leave. Over any program.
-/
import Derived.Test.YtnfegieaaaigmaaGreatDoorLexApartBLent
namespace Go.Proofs.YtnfegieaaaigmaaGreatDoor
open Go Go.RowKit

section
variable {α : Type} {r : Rep α} {e : TypeId} {col : Col} {w : World} {xs ys : List α}
variable {P : Program} {m : Nat} {rd : Option Nat} {f : Fr} {ops : Array Oper} {K : Fr → World → Prop} {rest : List Oper} {d t : Nat} {p : String} {af : Array Edge} {x y : Operand}

theorem l_box {v : Value} (c : Nat) (hd : Nat.blt d m = true) (hx : ev f x = v)
  (k : ∀ g w' col', Grow col w col' w' → Box e c col' w' g v.cells → WpL P m rd ops K rest (upd f d (.pointer (some ⟨g, 0, none⟩))) w') :
  WpL P m rd ops K (⟨some d, .box e x, t, p, af, none⟩ :: rest) f w := by
 obtain ⟨w', hr, hg, hb⟩ := r_box (P := P) (e := e) (col := col) (w := w) (t := t) (dst := some d) (p := p) (af := af) c hx
 exact lv hd rfl hr (k _ _ _ hg hb)
theorem l_alloc {v : Value} (c : Nat) (hd : Nat.blt d m = true) (hz : ∀ w, (zeroValue e).run P w = .ok v w)
  (k : ∀ g w' col', Grow col w col' w' → Box e c col' w' g v.cells → WpL P m rd ops K rest (upd f d (.pointer (some ⟨g, 0, none⟩))) w') :
  WpL P m rd ops K (⟨some d, .alloc e, t, p, af, none⟩ :: rest) f w := by
 obtain ⟨w', hr, hg, hb⟩ := r_alloc (P := P) (e := e) (col := col) (w := w) (f := f) (t := t) (dst := some d) (p := p) (af := af) c hz
 exact lv hd rfl hr (k _ _ _ hg hb)
theorem l_bstore {T g n c : Nat} {v : Value} {cs : Array Value} (h : Box e c col w g cs)
  (hs : ∀ w, (sizeOf T).run P w = .ok n w) (hn : cs.size = n) (hv : v.cells.size = n) (h1 : ∀ u ∈ v.cells.toList, u.oneCell' = true) (hx : ev f x = .pointer (some ⟨g, 0, none⟩)) (hy : ev f y = v)
  (k : ∀ w', Keep c col w col w' → Still w w' → Box e c col w' g v.cells → WpL P m rd ops K rest f w') :
  WpL P m rd ops K (⟨none, .store T x y, t, p, af, none⟩ :: rest) f w := by
 obtain ⟨w', hr, h1, h2, h3⟩ := Box.store (t := t) (p := p) (af := af) h hs hn hv h1 hx hy
 exact lu rfl hr (k _ h1 h2 h3)
theorem l_appendM {T c c2 cap cap2 sz bytes : Nat} {a a2 : Option Addr} (h : Own r e c col w a cap xs) (h2 : SrcC r c c2 col w a2 ys) (hd : Nat.blt d m = true) (hT : P.underlying T = some (.slice e)) (he : ElemOk P e sz bytes) (hsz : r.sz = sz)
  (hx : ev f x = .slice a xs.length cap) (hy : ev f y = .slice a2 ys.length cap2) (hb : (xs.length + ys.length) * bytes ≤ 140737488355328) (hl : xs.length + ys.length ≤ maxLen) (hc : c ≠ 0)
  (k : ∀ a' cap' w' col', KeepP (p2 c c2) col w col' w' → Own r e c col' w' a' cap' (xs ++ ys) → WpL P m rd ops K rest (upd f d (.slice a' (xs ++ ys).length cap')) w') :
  WpL P m rd ops K (⟨some d, .call { callee := .builtin .append, args := #[x, y], argTypes := #[T, T] }, t, p, af, none⟩ :: rest) f w := by
 obtain ⟨a', cap', w', col', hr, h1, h3⟩ := Own.appendM (t := t) (dst := some d) (p := p) (af := af) h hc h2 hT he hsz hx hy hb hl
 exact lv hd rfl hr (k _ _ _ _ h1 h3)
theorem l_ext {T c c2 cap cap' cap2 sz bytes : Nat} {a a' a2 : Option Addr} {zs : List α} (h : Ex r e c col w a cap xs a' cap' zs) (h2 : SrcC r c c2 col w a2 ys) (hd : Nat.blt d m = true) (hT : P.underlying T = some (.slice e)) (he : ElemOk P e sz bytes) (hsz : r.sz = sz)
  (hx : ev f x = .slice a' zs.length cap') (hy : ev f y = .slice a2 ys.length cap2) (hb : (zs.length + ys.length) * bytes ≤ 140737488355328) (hl : zs.length + ys.length ≤ maxLen) (hc : c ≠ 0)
  (k : ∀ a1 cap1 w' col', KeepP (p2 c c2) col w col' w' → Ex r e c col' w' a cap xs a1 cap1 (zs ++ ys) → WpL P m rd ops K rest (upd f d (.slice a1 (zs ++ ys).length cap1)) w') :
  WpL P m rd ops K (⟨some d, .call { callee := .builtin .append, args := #[x, y], argTypes := #[T, T] }, t, p, af, none⟩ :: rest) f w := by
 obtain ⟨a1, cap1, w', col', hr, h1, h3⟩ := Ex.append (t := t) (dst := some d) (p := p) (af := af) h hc h2 hT he hsz hx hy hb hl
 exact lv hd rfl hr (k _ _ _ _ h1 h3)
theorem foldl_set (cs : List Value) : ∀ (j off : Nat) (cells : Array Value), off + j + cs.length ≤ cells.size →
  (cs.zipIdx j).foldl (fun acc (q : Value × Nat) => acc.setIfInBounds (off + q.2) q.1) cells = (cells.toList.take (off + j) ++ cs ++ cells.toList.drop (off + j + cs.length)).toArray := by
 induction cs with
 | nil => intro j off cells _; simp
 | cons c cs ih =>
  intro j off cells h
  simp only [List.length_cons] at h
  rw [List.zipIdx_cons, List.foldl_cons, ih (j + 1) off _ (by simp; omega)]
  have hlt : off + j < cells.toList.length := by simp; omega
  congr 1
  simp only [Array.toList_setIfInBounds]
  rw [show off + (j + 1) = (off + j) + 1 by omega, List.take_add_one, List.take_set_of_le (by omega), List.drop_set_of_lt (by omega)]
  simp only [List.length_cons, List.getElem?_set_self hlt, Option.toList_some]
  rw [show off + j + (cs.length + 1) = off + j + 1 + cs.length by omega]
  simp

theorem fill_full (sz : Nat) : ∀ (vs : List Value) (k : Nat) (cells : Array Value), cells.size = (k + vs.length) * sz → (∀ v ∈ vs, v.cells.size = sz) →
  Instr.fill (fun i => some (i * sz, sz)) cells ((List.range' k vs.length).zip vs) = some (cells.toList.take (k * sz) ++ (vs.map (·.cells.toList)).flatten).toArray := by
 intro vs
 induction vs with
 | nil => intro k cells h _; simp only [List.length_nil, Nat.add_zero] at h; show some cells = _; simp only [← h, List.map_nil, List.flatten_nil, List.append_nil]; rw [List.take_of_length_le (by simp)]
 | cons v vs ih =>
  intro k cells h hv
  have hv0 := hv v (by simp)
  simp only [List.length_cons] at h
  have hmul : (k + (vs.length + 1)) * sz = k * sz + sz + vs.length * sz := by rw [Nat.add_mul, Nat.add_mul]; omega
  have hmul2 : (k + 1 + vs.length) * sz = k * sz + sz + vs.length * sz := by rw [Nat.add_mul, Nat.add_mul]; omega
  have hlen : v.cells.toList.length = sz := by simpa using hv0
  have hf := foldl_set v.cells.toList 0 (k * sz) cells (by rw [hlen, h]; omega)
  simp only [List.length_cons, List.range'_succ, List.zip_cons_cons, Instr.fill]
  rw [if_neg (by simp only [hv0, h]; simp; omega)]
  have e1 : (v.cells.zipIdx.foldl (fun cs (q : Value × Nat) => cs.setIfInBounds (k * sz + q.2) q.1) cells) = (cells.toList.take (k * sz) ++ v.cells.toList ++ cells.toList.drop (k * sz + sz)).toArray := by
   rw [← Array.foldl_toList, Array.toList_zipIdx, hf, hlen]; rfl
  have e2 : (v.cells.zipIdx.foldl (fun cs x => match x with | (c, j) => cs.setIfInBounds (k * sz + j) c) cells) = (cells.toList.take (k * sz) ++ v.cells.toList ++ cells.toList.drop (k * sz + sz)).toArray := e1
  rw [e2, ih (k + 1) _ (by simp only [List.size_toArray, List.length_append, List.length_take, List.length_drop, hlen, Array.length_toList]; omega) (fun u hu => hv u (by simp [hu]))]
  congr 2
  have hl : (cells.toList.take (k * sz) ++ v.cells.toList).length = (k + 1) * sz := by
   rw [List.length_append, List.length_take, hlen, Array.length_toList, Nat.add_mul]; omega
  rw [List.map_cons, List.flatten_cons, ← List.append_assoc, ← hl, List.take_left]

theorem l_lit {T n sz bytes : Nat} {parts : Array (Nat × Operand)} (vs : List Value) (c : Nat) (hd : Nat.blt d m = true) (hT : P.underlying T = some (.slice e)) (he : ElemOk P e sz bytes) (hsz : r.sz = sz)
  (hn : xs.length = n) (hvn : vs.length = n) (h24 : Nat.ble (n * sz) 16777216 = true) (h0 : Nat.blt 0 n = true) (hp : (List.map (fun x => (x.fst, ev f x.snd)) parts.toList) = (List.range' 0 vs.length).zip vs) (hvs : ∀ v ∈ vs, v.cells.size = sz)
  (hr : RowsH r c col w (vs.map (·.cells.toList)).flatten xs)
  (k : ∀ a' w' col', Grow col w col' w' → Own r e c col' w' a' xs.length xs → WpL P m rd ops K rest (upd f d (.slice a' xs.length xs.length)) w') :
  WpL P m rd ops K (⟨some d, .buildSlice T n parts, t, p, af, none⟩ :: rest) f w := by
 obtain ⟨w', hr, h1, h2⟩ := r_lit (P := P) (f := f) (w := w) (col := col) (t := t) (dst := some d) (p := p) (af := af) (parts := parts) (xs := xs) (r := r) ((vs.map (·.cells.toList)).flatten).toArray c hT he hsz hn h24 h0
  (fun z hz => by
   rw [hp, fill_full sz vs 0 _ (by simp [hvn]) hvs]; simp)
  (by obtain ⟨_, hr, _⟩ := hr; have := hr.length; simp only [List.size_toArray]; rw [this, hn, hsz]) hr
 exact lv hd rfl hr (k _ _ _ h1 h2)

end
end Go.Proofs.YtnfegieaaaigmaaGreatDoor
