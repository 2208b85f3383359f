/-
  Rows that are made or written out, variables in boxes. Over any program.
-/
import Derived.Test.YtnfegieaaaigmaaGreatDoorLexApartBDeep
namespace Go.Proofs.YtnfegieaaaigmaaGreatDoor
open Go Go.RowKit

section
variable {α : Type} {r : Rep α} {e c : Nat} {col : Col} {w : World} {xs : List α}

def RowsH (r : Rep α) (c : Nat) (col : Col) (w : World) (fl : List Value) (xs : List α) : Prop := ∃ bs, Rows r col w fl xs bs ∧ Mine c col bs
theorem Own.fresh (cs : Array Value) (cap : Nat) (hcap : xs.length ≤ cap) (hm : cap ≤ maxLen) (hsz : cs.size = cap * r.sz) (fl : List Value) (hfl : cs.toList.take (xs.length * r.sz) = fl) (hr : RowsH r c col w fl xs) :
  Grow col w (paint col w c) (w.alloc (.cells cs e)) ∧ Own r e c (paint col w c) (w.alloc (.cells cs e)) (some ⟨w.heap.size, 0, none⟩) cap xs := by
 have hg : Grow col w (paint col w c) (w.alloc (.cells cs e)) := Grow.new (below_alloc w _) c
 obtain ⟨bs, h1, h2⟩ := hr
 have hlt := h1.lt
 refine ⟨hg, w.heap.size :: bs, ⟨fl, bs, ⟨h1.length, .inr ⟨w.heap.size, cap, cs, rfl, Nat.zero_le _, heap_alloc_new w _, hcap, hm, hsz, hfl⟩⟩, h1.keep (Stay.gr hg) fun b hb => hg.below.block b (hlt b hb), by simp [Value.ownBlock]⟩,
  (mine_app (b1 := [w.heap.size])).2 ⟨⟨by simp, fun b hb => by simp only [List.mem_singleton] at hb; subst hb; simp [paint]⟩, ⟨h2.1, fun b hb => by simp only [paint, hlt b hb, if_true]; exact h2.2 b hb⟩, fun b hb hb' => by simp only [List.mem_singleton] at hb; subst hb; exact Nat.lt_irrefl _ (hlt _ hb')⟩⟩

theorem r_lit {P : Program} {f : Fr} {T t n : Nat} {dst : Option Nat} {p : String} {af : Array Edge} {parts : Array (Nat × Operand)} {sz bytes : Nat} (cs : Array Value) (c : Nat) (hT : P.underlying T = some (.slice e)) (he : ElemOk P e sz bytes) (hsz : r.sz = sz)
  (hn : xs.length = n) (h24 : Nat.ble (n * sz) 16777216 = true) (h0 : Nat.blt 0 n = true) (hfill : ∀ z : Array Value, z.size = sz → Instr.fill (fun i => some (i * sz, sz)) ((Array.range (n * sz)).map (z[· % z.size]!)) (List.map (fun x => (x.fst, ev f x.snd)) parts.toList) = some cs)
  (hcs : cs.size = n * sz) (hr : RowsH r c col w cs.toList xs) :
  ∃ w', (execOp (ev f) ⟨dst, .buildSlice T n parts, t, p, af, none⟩).run P w = .ok (.value (.slice (some ⟨w.heap.size, 0, none⟩) xs.length xs.length)) w' ∧
   Grow col w (paint col w c) w' ∧ Own r e c (paint col w c) w' (some ⟨w.heap.size, 0, none⟩) xs.length xs := by
 obtain ⟨i, z, hi, hz, hs, hby, hzs⟩ := he
 have h24 := Nat.le_of_ble_eq_true h24
 have hpos : 0 < n := by simpa using h0
 have hp := r.pos
 have hne : ¬ n * sz = 0 := by rw [Nat.mul_eq_zero]; omega
 have hnl : n * 1 ≤ n * sz := Nat.mul_le_mul_left n (by omega)
 refine ⟨_, ?_, Own.fresh (c := c) cs xs.length (Nat.le_refl _) (by simp only [maxLen]; omega) (by rw [hcs, hn, hsz]) cs.toList (by rw [List.take_of_length_le]; simp [hcs, hn, hsz]) hr⟩
 have hfill' := hfill z.cells hzs
 have h24' : ¬ 16777216 < n * sz := by omega
 simp [execOp, Instr.buildSlice, run_underlying hT, sizeOf, typeInfo, hi, hs, h24', hne, zeroValue, hz, newRow, hn, hfill']

theorem Box.fresh (cs : Array Value) (c : Nat) : Grow col w (paint col w c) (w.alloc (.cells cs e)) ∧ Box e c (paint col w c) (w.alloc (.cells cs e)) w.heap.size cs :=
 ⟨Grow.new (below_alloc w _) c, by simp [paint], heap_alloc_new w _⟩
theorem r_box {P : Program} {f : Fr} {t : Nat} {dst : Option Nat} {p : String} {af : Array Edge} {x : Operand} {v : Value} (c : Nat) (hx : ev f x = v) :
  ∃ w', (execOp (ev f) ⟨dst, .box e x, t, p, af, none⟩).run P w = .ok (.value (.pointer (some ⟨w.heap.size, 0, none⟩))) w' ∧ Grow col w (paint col w c) w' ∧ Box e c (paint col w c) w' w.heap.size v.cells :=
 ⟨_, by simp [execOp, hx, Instr.box, newVar, newRow], Box.fresh v.cells c⟩
theorem r_alloc {P : Program} {f : Fr} {t : Nat} {dst : Option Nat} {p : String} {af : Array Edge} {v : Value} (c : Nat) (hz : ∀ w, (zeroValue e).run P w = .ok v w) :
  ∃ w', (execOp (ev f) ⟨dst, .alloc e, t, p, af, none⟩).run P w = .ok (.value (.pointer (some ⟨w.heap.size, 0, none⟩))) w' ∧ Grow col w (paint col w c) w' ∧ Box e c (paint col w c) w' w.heap.size v.cells :=
 ⟨_, by simp [execOp, hz, Instr.alloc, newVar, newRow], Box.fresh v.cells c⟩
theorem Box.atN {g : Nat} {cs : Array Value} (h : Box e c col w g cs) : AtN w (.pointer (some ⟨g, 0, none⟩)) cs.toList :=
 ⟨g, 0, rfl, fun q v hq => by rw [Nat.zero_add, cell_of_row w g q cs e (0, 0) h.2]; simpa using hq⟩
theorem Box.at1 {g : Nat} {v : Value} (h : Box e c col w g #[v]) : At1 w (.pointer (some ⟨g, 0, none⟩)) v := h.atN.one

theorem Box.store {P : Program} {f : Fr} {T t g n : Nat} {p : String} {af : Array Edge} {px y : Operand} {v : Value} {cs : Array Value} (h : Box e c col w g cs)
  (hs : ∀ w, (sizeOf T).run P w = .ok n w) (hn : cs.size = n) (hv : v.cells.size = n) (h1 : ∀ u ∈ v.cells.toList, u.oneCell' = true) (hx : ev f px = .pointer (some ⟨g, 0, none⟩)) (hy : ev f y = v) :
  ∃ w', (execOp (ev f) ⟨none, .store T px y, t, p, af, none⟩).run P w = .ok .skip w' ∧ Keep c col w col w' ∧ Still w w' ∧ Box e c col w' g v.cells := by
 have hrun := run_storeCells_at P g 0 e v.cells.toList 0 cs w h.2 (by simp [hv, hn]) h1
 have hrow : (cs.toList.take (0 + 0) ++ v.cells.toList ++ cs.toList.drop (0 + 0 + v.cells.toList.length)).toArray = v.cells := by
  have : cs.toList.length ≤ v.cells.toList.length := by simp [hn, hv]
  simp only [Nat.add_zero, Nat.zero_add, List.take_zero, List.nil_append]
  rw [List.drop_eq_nil_of_le this]; simp
 rw [hrow] at hrun
 refine ⟨w.setRow g v.cells, ?_, ⟨by simp [World.setRow], fun _ _ => rfl, fun k _ hk => setRow_other w g k _ (fun e => hk (by rw [e, h.1]))⟩, ⟨rfl, rfl, rfl⟩, h.1, setRow_heap w g cs _ e _ h.2⟩
 simp only [execOp, hx, hy, Instr.storeAt, Instr.sureAddr, storeVar]
 simp [hs, hv, hrun]

/-! a call's end -/
def colF (B : Nat) (col col' : Col) (g : Nat → Nat) : Col := fun k => if k < B then col k else g (col' k)
theorem St.fin {w0 w' : World} {col' : Col} (h : St w0 (col0 col) col' w') (g : Nat → Nat) : Grow col w0 (colF w0.heap.size col col' g) w' := ⟨h.below, fun k hk => by simp [colF, hk]⟩
theorem St.finStay {w0 w' : World} {col' : Col} (h : St w0 (col0 col) col' w') {g : Nat → Nat} (hg : g 0 = 0) : Stay col' w' (colF w0.heap.size col col' g) w' := fun k _ h0 => ⟨by
 unfold colF; split
 ·rename_i hk; have := h.oldc k hk; rw [h0] at this; unfold col0 at this; split at this
  ·assumption
  ·cases this
 ·rw [h0, hg], rfl⟩
theorem St.finMine {w0 w' : World} {col' : Col} {i : Nat} {bs : List Nat} (h : St w0 (col0 col) col' w') {g : Nat → Nat} (hm : Mine i col' bs) (h0 : i ≠ 0) (h9 : i ≠ 999) (hc : g i = c) : Mine c (colF w0.heap.size col col' g) bs := ⟨hm.1, fun k hk => by
 unfold colF; split
 ·rename_i hlt; have h4 := h.oldc k hlt; rw [hm.2 k hk] at h4; unfold col0 at h4; split at h4
  ·exact absurd h4 h0
  ·exact absurd h4 h9
 ·rw [hm.2 k hk, hc]⟩
theorem St.finOwn {w0 w' : World} {col' : Col} {a : Option Addr} {i cap : Nat} (h : St w0 (col0 col) col' w') {g : Nat → Nat} (hg : g 0 = 0) (ho : Own r e i col' w' a cap xs) (h0 : i ≠ 0) (h9 : i ≠ 999) (hc : g i = c) : Own r e c (colF w0.heap.size col col' g) w' a cap xs := by
 obtain ⟨bs, h1, h2⟩ := ho
 exact ⟨bs, h1.keep (h.finStay hg) fun _ _ => rfl, h.finMine h2 h0 h9 hc⟩
theorem St.finRd {w0 w' : World} {col' : Col} {x : α} {cs : List Value} (h : St w0 (col0 col) col' w') {g : Nat → Nat} (hg : g 0 = 0) (ho : r.rd col' w' cs x []) : r.rd (colF w0.heap.size col col' g) w' cs x [] := r.keep ho (h.finStay hg) fun _ _ => rfl

/-! what a model says -/
def chk {β : Type} (c : Prop) [Decidable c] (x : Option β) : Option β := if c then x else none
theorem chk_some {β : Type} {c : Prop} [Decidable c] {x : Option β} {y : β} (h : chk c x = some y) : c ∧ x = some y := by
 unfold chk at h; split at h
 ·exact ⟨by assumption, h⟩
 ·cases h
theorem bZ {β γ : Type} {o : Option β} {g : β → Option γ} {y : γ} (h : o.bind g = some y) : ∃ x, o = some x ∧ g x = some y := by
 cases o with
 | none => cases h
 | some x => exact ⟨x, rfl, h⟩
theorem drop_get {l : List α} {x : α} {k : Nat} (h : xs.drop k = x :: l) : at? xs (k : Int) = some x ∧ xs.drop (k + 1) = l ∧ k < xs.length := by
 have h1 : xs[k]? = some x := by have := congrArg (·[0]?) h; simpa using this
 refine ⟨by rw [at?_nat]; exact h1, ?_, (List.getElem?_eq_some_iff.1 h1).1⟩
 have := congrArg List.tail h; simpa using this
theorem wrap_succ {k : Nat} (h : k < maxLen) : IntKind.i64.wrap ((k : Int) + 1) = ((k + 1 : Nat) : Int) := by
 simp only [maxLen] at h
 rw [IntKind.wrap_i64] <;> omega
theorem inB_hit {i : Nat} {N : Fr → World → Prop} {E : Nat → Fr → World → Prop} {f : Fr} (h : N f w) : inB i N E i f w := by simp only [inB, Nat.beq_refl, cond_true]; exact h
section
variable {P : Program} {f : Fr} {t : Nat} {dst : Option Nat} {p : String} {af : Array Edge} {ts : Array TypeId} {g : FuncId} {x1 x2 x3 x4 x5 x6 : Operand} {v1 v2 v3 v4 v5 v6 : Value}
theorem r_call0 (hc : ∀ args w, (callFunc g args).run P w = .ok (.enter g args) w) :
  (execOp (ev f) ⟨dst, .call { callee := .value (.func g), args := #[], argTypes := ts }, t, p, af, none⟩).run P w = .ok (.enter g #[]) w := by
 simp [execOp, resolve, ev, Deferred.ofValue, invoke, hc]
theorem r_call1 (hc : ∀ args w, (callFunc g args).run P w = .ok (.enter g args) w) (h1 : ev f x1 = v1) :
  (execOp (ev f) ⟨dst, .call { callee := .value (.func g), args := #[x1], argTypes := ts }, t, p, af, none⟩).run P w = .ok (.enter g #[v1]) w := by
 subst h1; simp [execOp, resolve, ev, Deferred.ofValue, invoke, hc]
theorem r_call2 (hc : ∀ args w, (callFunc g args).run P w = .ok (.enter g args) w) (h1 : ev f x1 = v1) (h2 : ev f x2 = v2) :
  (execOp (ev f) ⟨dst, .call { callee := .value (.func g), args := #[x1, x2], argTypes := ts }, t, p, af, none⟩).run P w = .ok (.enter g #[v1, v2]) w := by
 subst h1 h2; simp [execOp, resolve, ev, Deferred.ofValue, invoke, hc]
theorem r_call3 (hc : ∀ args w, (callFunc g args).run P w = .ok (.enter g args) w) (h1 : ev f x1 = v1) (h2 : ev f x2 = v2) (h3 : ev f x3 = v3) :
  (execOp (ev f) ⟨dst, .call { callee := .value (.func g), args := #[x1, x2, x3], argTypes := ts }, t, p, af, none⟩).run P w = .ok (.enter g #[v1, v2, v3]) w := by
 subst h1 h2 h3; simp [execOp, resolve, ev, Deferred.ofValue, invoke, hc]
end

/-! slices of slices -/
end
end Go.Proofs.YtnfegieaaaigmaaGreatDoor
