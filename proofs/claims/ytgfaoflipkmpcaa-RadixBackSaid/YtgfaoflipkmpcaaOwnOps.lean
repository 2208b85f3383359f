/-
  Operations on what a call owns: rows that are made, grown and written, variables in boxes. Over any program.
-/
import Derived.Test.YtgfaoflipkmpcaaMemOps
namespace Go.Proofs.Ytgfaoflipkmpcaa
open Go Go.RowKit

/-- What the append's and the make's laws ask of an element's type. -/
def ElemOk (P : Program) (e : TypeId) (sz bytes : Nat) : Prop := ∃ i z, P.info? e = some i ∧ i.zero = some z ∧ i.size = sz ∧ i.bytes = bytes ∧ z.cells.size = sz

section
variable {α : Type} {r : Rep α} {e c : Nat} {col : Col} {w : World} {a : Option Addr} {cap : Nat} {xs ys : List α}

/-- The colouring with a new block. -/
def paint (col : Col) (w : World) (c : Nat) : Col := fun k => if k < w.heap.size then col k else c

theorem Grow.new {w' : World} (h : Below w.heap.size w w') (c : Nat) : Grow col w (paint col w c) w' := ⟨h, fun k hk => by simp [paint, hk]⟩
theorem below_alloc (w : World) (o : Obj) : Below w.heap.size w (w.alloc o) := (Below.refl _ _).alloc (Nat.le_refl _) o
theorem Stay.gr {col' : Col} {w' : World} (h : Grow col w col' w') : Stay col w col' w' := (h.keep 1).stay (by decide)

theorem St.kp {w0 : World} {c0 col' : Col} {w' : World} (h : St w0 c0 col w) (hk : Keep c col w col' w') (hs : w'.os = w.os ∧ w'.tape = w.tape ∧ w'.output = w.output) (h0 : c ≠ 0) (h9 : c ≠ 999) : St w0 c0 col' w' := by
  refine ⟨h.below.trans ⟨hs.1, hs.2.1, hs.2.2, hk.size, fun k hlt => hk.block k (Nat.lt_of_lt_of_le hlt h.below.size) ?_⟩, fun k hlt => ?_, h.foreign⟩
  · have h1 := h.old k hlt; have h2 := h.foreign k hlt; rw [h1]; omega
  · rw [hk.tint k (Nat.lt_of_lt_of_le hlt h.below.size)]; exact h.old k hlt

/-- The streams are as they were. -/
def Still (w w' : World) : Prop := w'.os = w.os ∧ w'.tape = w.tape ∧ w'.output = w.output

theorem Own.store {P : Program} {f : Fr} {T t : Nat} {p : String} {af : Array Edge} {px y : Operand} {j : Int} {x0 x : α} {v : Value} {sz : Nat} (h : Own r e c col w a cap xs) (hj : at? xs j = some x0)
    (hsz : r.sz = sz) (hs : ∀ w, (sizeOf T).run P w = .ok sz w) (hv : r.rd col w v.cells.toList x) (hx : ev f px = sptr a (j.toNat * sz)) (hy : ev f y = v) :
    ∃ w', (execOp (ev f) ⟨none, .store T px y, t, p, af, none⟩).run P w = .ok .skip w' ∧ Keep c col w col w' ∧ Still w w' ∧ (c ≠ 0 → Own r e c col w' a cap (xs.set j.toNat x)) := by
  subst hsz
  obtain ⟨h0, h1, h2⟩ := at?_some hj
  obtain ⟨fl, h3, h4, h5⟩ := h
  rcases h3.2 with ⟨_, hn⟩ | ⟨g, cp, cur, hv', hb, hh, hle, hm, hcs, ht⟩
  · omega
  · simp only [Value.slice.injEq] at hv'
    obtain ⟨rfl, _, rfl⟩ := hv'
    have hgc := h5 g rfl
    have hlv := r.len hv
    have hmul : j.toNat * r.sz + r.sz ≤ xs.length * r.sz := by
      have h7 : j.toNat + 1 ≤ xs.length := by omega
      have := Nat.mul_le_mul_right r.sz h7
      rw [Nat.add_mul] at this; omega
    have hmul2 : xs.length * r.sz ≤ cap * r.sz := Nat.mul_le_mul_right _ hle
    have hrun := run_storeCells_at P g (j.toNat * r.sz) e v.cells.toList 0 cur w hh (by rw [hlv]; omega) (r.one hv)
    simp only [Nat.add_zero, hlv] at hrun
    refine ⟨w.setRow g (cur.toList.take (j.toNat * r.sz) ++ v.cells.toList ++ cur.toList.drop (j.toNat * r.sz + r.sz)).toArray, ?_, ⟨by simp [World.setRow], fun _ _ => rfl, fun k _ hk => setRow_other w g k _ (fun e => hk (by rw [e, hgc]))⟩, ⟨rfl, rfl, rfl⟩, fun hc => ?_⟩
    · have hlv' : v.cells.size = r.sz := by rw [← hlv]; simp
      simp only [execOp, hx, hy, sptr, Option.map_some, add_mk, Nat.zero_add, Instr.storeAt, Instr.sureAddr, storeVar]
      simp [hs, hlv', hrun]
    · have hk : Stay col w col (w.setRow g (cur.toList.take (j.toNat * r.sz) ++ v.cells.toList ++ cur.toList.drop (j.toNat * r.sz + r.sz)).toArray) := fun k _ hk => ⟨hk, setRow_other w g k _ (fun e => hc (by rw [← hgc, ← e, hk]))⟩
      have hset := (h4.set (j := j.toNat) (x := x) (cs := v.cells.toList) (by omega) hv).keep hk
      refine ⟨_, ⟨by rw [hset.length, List.length_set], .inr ⟨g, cap, _, by rw [List.length_set], Nat.zero_le _, setRow_heap w g cur _ e _ hh, by rw [List.length_set]; exact hle, hm, ?_, ?_⟩⟩, hset, fun g' hg' => ?_⟩
      · have hlen : cur.toList.length = cap * r.sz := by simp [hcs]
        simp only [List.size_toArray, List.length_append, List.length_take, List.length_drop, hlen, hlv]; omega
      · rw [List.length_set, ← ht]
        have hlen : cur.toList.length = cap * r.sz := by simp [hcs]
        simp only [List.take_append, List.length_append, List.length_take, hlen, hlv, List.take_take, List.drop_take]
        rw [Nat.min_eq_left (by omega : j.toNat * r.sz ≤ xs.length * r.sz), Nat.min_eq_right (by omega : j.toNat * r.sz ≤ xs.length * r.sz), Nat.min_eq_left (by omega : j.toNat * r.sz ≤ cap * r.sz)]
        rw [List.take_of_length_le (l := v.cells.toList) (by rw [hlv]; omega)]
      · have : g' = g := by simpa [Value.ownBlock] using hg'.symm
        subst this; exact hgc

theorem Rows.cells {fl : List Value} (h : Rows r col w fl xs) : fl.length = xs.length * r.sz := h.length

/-- Append: a list behind an owned row. -/
theorem Own.append {P : Program} {f : Fr} {T t : Nat} {dst : Option Nat} {p : String} {af : Array Edge} {x y : Operand} {a2 : Option Addr} {cap2 sz bytes : Nat}
    (h : Own r e c col w a cap xs) (h2 : Sl r col w a2 cap2 ys) (hT : P.underlying T = some (.slice e)) (he : ElemOk P e sz bytes) (hsz : r.sz = sz) (hx : ev f x = .slice a xs.length cap) (hy : ev f y = .slice a2 ys.length cap2)
    (hb : (xs.length + ys.length) * bytes ≤ 140737488355328) (hl : xs.length + ys.length ≤ maxLen) :
    ∃ a' cap' w' col', (execOp (ev f) ⟨dst, .call { callee := .builtin .append, args := #[x, y], argTypes := #[T, T] }, t, p, af, none⟩).run P w = .ok (.value (.slice a' (xs ++ ys).length cap')) w' ∧
      Keep c col w col' w' ∧ Still w w' ∧ (c ≠ 0 → Own r e c col' w' a' cap' (xs ++ ys)) := by
  obtain ⟨i, z, hi, hz, hs, hby, hzs⟩ := he
  obtain ⟨fl, h3, h4, h5⟩ := h
  subst hsz
  have hexec : ∀ v w', (Builtin.append_ #[T, T] t #[.slice a xs.length cap, .slice a2 ys.length cap2]).run P w = .ok v w' →
      (execOp (ev f) ⟨dst, .call { callee := .builtin .append, args := #[x, y], argTypes := #[T, T] }, t, p, af, none⟩).run P w = .ok (.value v) w' := by
    intro v w' hr
    simp [execOp, resolve, invoke, builtin, hx, hy, hr]
  by_cases hys : ys = []
  · subst hys
    refine ⟨a, cap, w, col, hexec _ _ ?_, ⟨Nat.le_refl _, fun _ _ => rfl, fun _ _ _ => rfl⟩, ⟨rfl, rfl, rfl⟩, fun _ => ⟨fl, by simpa using h3, by simpa using h4, by simpa using h5⟩⟩
    have hle : xs.length ≤ cap := by
      rcases h3.2 with ⟨hv, hn⟩ | ⟨g, cp, cur, hv, hb, hh, hle, _⟩
      · simp only [Value.slice.injEq] at hv; omega
      · simp only [Value.slice.injEq] at hv; omega
    have f0 : (Builtin.firstCells i.size 0 (.slice a2 0 cap2)).run P w = .ok #[] w := by cases a2 <;> simp [Builtin.firstCells, loadCells, loadCellsFrom]
    simp only [List.length_nil, List.append_nil]
    cases a with
    | none => simp [Builtin.append_, run_underlying hT, sizeOf, typeInfo, hi, Builtin.lenOf, hle, f0]
    | some b => simp [Builtin.append_, run_underlying hT, sizeOf, typeInfo, hi, Builtin.lenOf, hle, f0, storeCells]
  · rcases h2.2 with h | ⟨b2, o2, fl2, rfl, hcol2, hr2, hx2⟩
    · exact absurd h hys
    have hpos : 0 < ys.length := List.length_pos_iff.2 hys
    have hl2 := hr2.length
    have hnews : ∀ j v, fl2[j]? = some v → w.cell? ((⟨b2, o2, none⟩ : Addr).add j) = some v := fun j v hj => by rw [add_mk]; exact hx2 j v hj
    have hall := h4.append hr2
    have hgrow : ∀ (cs : Array Value) (cp : Nat), cs.toList.take ((xs ++ ys).length * r.sz) = fl ++ fl2 → cs.size = cp * r.sz → xs.length + ys.length ≤ cp → cp ≤ maxLen →
        Keep c col w (paint col w c) (w.drew.alloc (.cells cs e)) ∧ Still w (w.drew.alloc (.cells cs e)) ∧ (c ≠ 0 → Own r e c (paint col w c) (w.drew.alloc (.cells cs e)) (some ⟨w.heap.size, 0, none⟩) cp (xs ++ ys)) := by
      intro cs cp htk hsize hcp hm
      have hg : Grow col w (paint col w c) (w.drew.alloc (.cells cs e)) := Grow.new (((Below.refl w.heap.size w).drew).alloc (Nat.le_refl _) _) c
      refine ⟨hg.keep c, ⟨rfl, rfl, rfl⟩, fun _ => ⟨fl ++ fl2, ⟨?_, .inr ⟨w.heap.size, cp, cs, rfl, Nat.zero_le _, heap_alloc_new w.drew _, by simpa using hcp, hm, hsize, htk⟩⟩, hall.keep (Stay.gr hg), fun g hg' => ?_⟩⟩
      · rw [hall.length]
      · have : g = w.heap.size := by simpa [Value.ownBlock] using hg'.symm
        subst this; simp [paint]
    rcases h3.2 with ⟨hv, hn⟩ | ⟨g, cp, cur, hv, hbase, hh, hle, hm, hcs, ht⟩
    · simp only [Value.slice.injEq] at hv
      obtain ⟨rfl, _, rfl⟩ := hv
      obtain rfl := List.length_eq_zero_iff.1 hn
      have hfl : fl = [] := h4
      subst hfl
      have hrun := run_append_nil (P := P) w T t e i z hT hi hz ⟨b2, o2, none⟩ ys.length cap2 fl2 (by rw [hl2, hs]) hnews hpos (by simp only [maxLen, List.length_nil] at hl; omega) (by rw [hby]; simp only [List.length_nil, Nat.zero_add] at hb; omega)
      obtain ⟨q1, q2, q3⟩ := hgrow (fl2.toArray ++ Builtin.zeroCells z.cells (grownCap w ys.length 0 e - ys.length)) (grownCap w ys.length 0 e) (by
          simp only [List.nil_append, Array.toList_append, List.take_append, ← hl2]; simp) (by
          have := grownCap_ge w ys.length 0 e
          simp only [Array.size_append, List.size_toArray, size_zeroCells, hl2, hzs]; rw [← Nat.add_mul]; congr 1; omega)
        (by simpa using grownCap_ge w ys.length 0 e) (grownCap_le_maxLen w _ _ _ (by simpa using hl))
      exact ⟨_, _, _, _, hexec _ _ hrun, q1, q2, q3⟩
    · simp only [Value.slice.injEq] at hv
      obtain ⟨rfl, _, rfl⟩ := hv
      have hgc := h5 g rfl
      by_cases hroom : xs.length + ys.length ≤ cap
      · have hmul : (xs.length + ys.length) * r.sz ≤ cap * r.sz := Nat.mul_le_mul_right _ hroom
        rw [Nat.add_mul] at hmul
        have hrun := run_append_room (P := P) w T t e i hT hi g xs.length cap cur hh ⟨b2, o2, none⟩ ys.length cap2 fl2 (by rw [hl2, hs]) hnews hr2.one hroom (by rw [hs, hl2, hcs]; exact hmul)
        refine ⟨some ⟨g, 0, none⟩, cap, _, col, hexec _ _ (by rw [List.length_append]; exact hrun), ⟨by simp [World.setRow], fun _ _ => rfl, fun k _ hk => setRow_other w g k _ (fun e => hk (by rw [e, hgc]))⟩, ⟨rfl, rfl, rfl⟩, fun hc => ?_⟩
        have hk : Stay col w col (w.setRow g (cur.toList.take (xs.length * i.size) ++ fl2 ++ cur.toList.drop (xs.length * i.size + fl2.length)).toArray) := fun k _ hk => ⟨hk, setRow_other w g k _ (fun e => hc (by rw [← hgc, ← e, hk]))⟩
        refine ⟨fl ++ fl2, ⟨by rw [hall.length], .inr ⟨g, cap, _, rfl, Nat.zero_le _, setRow_heap w g cur _ e _ hh, by simpa using hroom, hm, ?_, ?_⟩⟩, hall.keep hk, fun g' hg' => ?_⟩
        · have hlen : cur.toList.length = cap * r.sz := by simp [hcs]
          simp only [List.size_toArray, List.length_append, List.length_take, List.length_drop, hlen, hl2, hs]; omega
        · rw [hs, ht, ← hall.length, List.take_left]
        · have : g' = g := by simpa [Value.ownBlock] using hg'.symm
          subst this; exact hgc
      · have hlf := h4.length
        have hrun := run_append_grow (P := P) w T t e i z hT hi hz ⟨g, 0, none⟩ xs.length cap fl (by rw [hlf, hs]) (h3.cells rfl) ⟨b2, o2, none⟩ ys.length cap2 fl2 (by rw [hl2, hs]) hnews (by omega) (by simp only [maxLen] at hl; omega)
          (by rw [hby]; exact growslice_fits (by omega) hb)
        obtain ⟨q1, q2, q3⟩ := hgrow (fl.toArray ++ fl2.toArray ++ Builtin.zeroCells z.cells (grownCap w (xs.length + ys.length) cap e - (xs.length + ys.length))) (grownCap w (xs.length + ys.length) cap e) (by
            have := hall.length
            simp only [Array.toList_append]
            rw [← this, List.take_left' (by simp)]) (by
            have := grownCap_ge w (xs.length + ys.length) cap e
            simp only [Array.size_append, List.size_toArray, size_zeroCells, hl2, hlf, hzs]; rw [← Nat.add_mul, ← Nat.add_mul]; congr 1; omega)
          (grownCap_ge w _ _ _) (grownCap_le_maxLen w _ _ _ hl)
        exact ⟨_, _, _, _, hexec _ _ (by rw [List.length_append]; exact hrun), q1, q2, q3⟩
end
end Go.Proofs.Ytgfaoflipkmpcaa
