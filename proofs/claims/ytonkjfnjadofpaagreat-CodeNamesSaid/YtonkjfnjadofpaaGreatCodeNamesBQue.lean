/-
  A row of one's own whose front has been dropped (a queue): read, dropped again, appended to. Over any program.
-/
import Derived.Test.YtonkjfnjadofpaaGreatCodeNamesBMore
namespace Go.Proofs.YtonkjfnjadofpaaGreat
open Go Go.RowKit

section
variable {α : Type} {r : Rep α} {e c d i : Nat} {col col' : Col} {w w' : World} {a : Option Addr} {cap : Nat} {xs ys : List α} {j : Int} {x0 : α}
def Que (r : Rep α) (e c : Nat) (col : Col) (w : World) (a : Option Addr) (cap : Nat) (xs : List α) : Prop :=
  xs.length ≤ cap ∧ cap ≤ maxLen ∧ ((a = none ∧ cap = 0) ∨ ∃ A fl, a = some A ∧ Rows r col w fl xs [] ∧
    (cap = 0 ∨ ∃ g off cur, A = ⟨g, off, none⟩ ∧ w.heap[g]? = some (.cells cur e (0, 0)) ∧ col g = c ∧ off + cap * r.sz ≤ cur.size ∧ (cur.toList.drop off).take (xs.length * r.sz) = fl))

theorem Que.loc : Loc i (fun col w => Que r e i col w a cap xs) := by
  rintro col w col' w' ⟨h1, h2, h3⟩ hs hk hh
  refine ⟨h1, h2, ?_⟩
  rcases h3 with h3 | ⟨A, fl, ha, hr, h4⟩
  · exact .inl h3
  · refine .inr ⟨A, fl, ha, hr.keep hk (by simp), ?_⟩
    rcases h4 with h4 | ⟨g, off, cur, hA, hb, hc, h5, h6⟩
    · exact .inl h4
    · obtain ⟨k1, k2⟩ := hh g (Array.getElem?_eq_some_iff.1 hb).1 hc
      exact .inr ⟨g, off, cur, hA, k2.trans hb, k1, h5, h6⟩
theorem Que.kp (h : Que r e i col w a cap xs) (hk : Keep c col w col' w') (hc : c ≠ 0 := by decide) (hi : i ≠ c := by decide) : Que r e i col' w' a cap xs := Que.loc.kp h hk hc hi
theorem Que.gr (h : Que r e i col w a cap xs) (hg : Grow col w col' w') : Que r e i col' w' a cap xs := Que.loc.gr h hg
theorem Que.kpp {p : Nat → Bool} (h : Que r e i col w a cap xs) (hk : KeepP p col w col' w') (h0 : p 0 = false := by rfl) (hi : p i = false := by rfl) : Que r e i col' w' a cap xs := Que.loc.kpp h hk h0 hi
theorem Que.froz (c : Nat) (h : Que r e i col w a cap xs) (hi : i ≠ c) : Que r e i (frC c col) w a cap xs := Que.loc.froz c h hi
theorem Que.recol (c d : Nat) (hc : i ≠ c ∧ c ≠ 0) (h : Que r e i col w a cap xs) : Que r e i (rcC c d col) w a cap xs := Que.loc.recol c d hc h
theorem Que.recolSelf (d : Nat) (hc : c ≠ 0) (h : Que r e c col w a cap xs) : Que r e d (rcC c d col) w a cap xs := by
  obtain ⟨h1, h2, h3⟩ := h
  refine ⟨h1, h2, ?_⟩
  rcases h3 with h3 | ⟨A, fl, ha, hr, h4⟩
  · exact .inl h3
  · refine .inr ⟨A, fl, ha, hr.keep (fun k _ h0 => ⟨by unfold rcC; simp only [h0]; split <;> rename_i hh <;> first | rfl | exact absurd (Nat.eq_of_beq_eq_true hh) (Ne.symm hc) | exact absurd hh.symm hc, rfl⟩) (by simp), ?_⟩
    rcases h4 with h4 | ⟨g, off, cur, hA, hb, hc', h5, h6⟩
    · exact .inl h4
    · exact .inr ⟨g, off, cur, hA, hb, recol_self hc', h5, h6⟩

theorem Que.lecap (h : Que r e c col w a cap xs) : xs.length ≤ cap ∧ cap ≤ maxLen := ⟨h.1, h.2.1⟩
theorem Que.len (h : Que r e c col w a cap xs) : xs.length ≤ maxLen := Nat.le_trans h.1 h.2.1
theorem Que.drop {sz : Nat} (h : Que r e c col w a cap xs) (hs : r.sz = sz) (k : Nat) : Que r e c col w (if cap = k then a else a.map (·.add (k * sz))) (cap - k) (xs.drop k) := by
  subst hs
  obtain ⟨h1, h2, h3⟩ := h
  refine ⟨by simp; omega, by omega, ?_⟩
  rcases h3 with ⟨ha, hc⟩ | ⟨A, fl, ha, hr, h4⟩
  · left; subst ha; refine ⟨by split <;> rfl, by omega⟩
  · subst ha
    right
    by_cases hk : cap = k
    · rw [if_pos hk]
      refine ⟨A, [], rfl, ?_, .inl (by omega)⟩
      rw [List.drop_eq_nil_of_le (by omega)]; exact ⟨rfl, rfl⟩
    · rw [if_neg hk]
      refine ⟨A.add (k * r.sz), fl.drop (k * r.sz), rfl, ?_, ?_⟩
      · obtain ⟨c1, c2, hc12, _, h5⟩ := hr.split k
        have : c1 = [] ∧ c2 = [] := by simpa using hc12.symm
        rw [this.2] at h5; exact h5
      · rcases h4 with h4 | ⟨g, off, cur, rfl, hb, hc, h5, h6⟩
        · exact .inl (by omega)
        · by_cases hkc : k < cap
          · refine .inr ⟨g, off + k * r.sz, cur, by rw [add_mk], hb, hc, ?_, ?_⟩
            · have : cap * r.sz = k * r.sz + (cap - k) * r.sz := by rw [← Nat.add_mul]; congr 1; omega
              omega
            · rw [← h6, List.length_drop, List.drop_take, List.drop_drop]
              congr 1
              rw [← Nat.sub_mul]
          · exact .inl (by omega)
theorem Que.cell {g off : Nat} {cur : Array Value} {fl : List Value} {n q : Nat} {v : Value} (hb : w.heap[g]? = some (.cells cur e (0, 0))) (h6 : (cur.toList.drop off).take n = fl) (hq : fl[q]? = some v) : w.cell? ⟨g, off + q, none⟩ = some v := by
  rw [← h6, List.getElem?_take] at hq
  split at hq
  · rw [List.getElem?_drop, Array.getElem?_toList] at hq
    simp [World.cell?, hb, hq]
  · cases hq
theorem Que.atN (h : Que r e c col w a cap xs) (hj : at? xs j = some x0) : ∃ cs, Has r c col w cs x0 ∧ AtN w (sptr a (j.toNat * r.sz)) cs := by
  obtain ⟨h0, h1, h2⟩ := at?_some hj
  obtain ⟨k1, k2, h3⟩ := h
  rcases h3 with ⟨_, hc⟩ | ⟨A, fl, rfl, hr, h4⟩
  · omega
  · rcases h4 with h4 | ⟨g, off, cur, rfl, hb, hc, h5, h6⟩
    · omega
    · obtain ⟨cs, b1, b2, b3, hbs, h7, h8, _⟩ := hr.get h2
      have hb2 : b2 = [] := by have := congrArg List.length hbs; simp only [List.length_nil, List.length_append] at this; exact List.length_eq_zero_iff.1 (by omega)
      subst hb2
      refine ⟨cs, ⟨[], h7, .nil⟩, g, off + j.toNat * r.sz, by simp [sptr, add_mk], fun q v hq => ?_⟩
      rw [Nat.add_assoc]; exact Que.cell hb h6 (h8 q v hq)
theorem Que.addr (h : Que r e c col w a cap xs) (hj : at? xs j = some x0) : ∃ b o, a = some ⟨b, o, none⟩ := by
  obtain ⟨h0, h1, h2⟩ := at?_some hj
  obtain ⟨k1, k2, h3⟩ := h
  rcases h3 with ⟨_, hc⟩ | ⟨A, fl, rfl, hr, h4 | ⟨g, off, cur, rfl, _⟩⟩
  · omega
  · omega
  · exact ⟨g, off, rfl⟩

theorem run_append_roomO {P : Program} (w : World) (t ty e : TypeId) (i : TypeInfo) (ht : P.underlying t = some (.slice e)) (hi : P.info? e = some i)
    (g off sLen sCap : Nat) (cur : Array Value) (hg : w.heap[g]? = some (.cells cur e (0, 0)))
    (a : Addr) (m c : Nat) (news : List Value) (hl : news.length = m * i.size) (hnews : ∀ j u, news[j]? = some u → w.cell? (a.add j) = some u) (h1 : ∀ u ∈ news, u.oneCell' = true)
    (hroom : sLen + m ≤ sCap) (hfit : off + sLen * i.size + news.length ≤ cur.size) :
    (Builtin.append_ #[t, t] ty #[.slice (some ⟨g, off, none⟩) sLen sCap, .slice (some a) m c]).run P w =
      .ok (.slice (some ⟨g, off, none⟩) (sLen + m) sCap) (w.setRow g (cur.toList.take (off + sLen * i.size) ++ news ++ cur.toList.drop (off + sLen * i.size + news.length)).toArray) := by
  have hf := run_firstCells_some (P := P) w i.size m a m c news hl hnews
  have hst := run_storeCells_at P g (off + sLen * i.size) e news 0 cur w hg (by simpa using hfit) h1
  simp only [Nat.add_zero] at hst
  simp [Builtin.append_, run_underlying ht, sizeOf, typeInfo, hi, Builtin.lenOf, hroom, hf, Addr.add_lit, hst]

theorem Que.append {P : Program} {f : Fr} {T t : Nat} {dst : Option Nat} {p : String} {af : Array Edge} {x y : Operand} {a2 : Option Addr} {c2 cap2 sz bytes : Nat}
    (h : Que r e c col w a cap xs) (hn : NB r) (hc : c ≠ 0) (h2 : SrcC r c c2 col w a2 ys) (hT : P.underlying T = some (.slice e)) (he : ElemOk P e sz bytes) (hsz : r.sz = sz) (hx : ev f x = .slice a xs.length cap) (hy : ev f y = .slice a2 ys.length cap2)
    (hb : (xs.length + ys.length) * bytes ≤ 140737488355328) (hl : xs.length + ys.length ≤ maxLen) :
    ∃ a1 cap1 w' col', (execOp (ev f) ⟨dst, .call { callee := .builtin .append, args := #[x, y], argTypes := #[T, T] }, t, p, af, none⟩).run P w = .ok (.value (.slice a1 (xs ++ ys).length cap1)) w' ∧
      KeepP (p2 c c2) col w col' w' ∧ Que r e c col' w' a1 cap1 (xs ++ ys) := by
  obtain ⟨i, z, hi, hz, hs, hby, hzs⟩ := he
  subst hsz
  have hexec : ∀ v w', (Builtin.append_ #[T, T] t #[.slice a xs.length cap, .slice a2 ys.length cap2]).run P w = .ok v w' →
      (execOp (ev f) ⟨dst, .call { callee := .builtin .append, args := #[x, y], argTypes := #[T, T] }, t, p, af, none⟩).run P w = .ok (.value v) w' := by
    intro v w' hr
    simp [execOp, resolve, invoke, builtin, hx, hy, hr]
  obtain ⟨by2, h2, _, _⟩ := h2
  by_cases hys : ys = []
  · subst hys
    refine ⟨a, cap, w, col, hexec _ _ ?_, KeepP.refl _ _ _, by simpa using h⟩
    have hle := h.1
    have f0 : (Builtin.firstCells i.size 0 (.slice a2 0 cap2)).run P w = .ok #[] w := by cases a2 <;> simp [Builtin.firstCells, loadCells, loadCellsFrom]
    simp only [List.length_nil, List.append_nil]
    cases a with
    | none => simp [Builtin.append_, run_underlying hT, sizeOf, typeInfo, hi, Builtin.lenOf, hle, f0]
    | some b => simp [Builtin.append_, run_underlying hT, sizeOf, typeInfo, hi, Builtin.lenOf, hle, f0, storeCells]
  · rcases h2 with h2 | ⟨bb2, o2, fl2, rfl, hr2, hx2⟩
    · exact absurd h2.1 hys
    have hpos : 0 < ys.length := List.length_pos_iff.2 hys
    have hl2 := hr2.length
    have hb0 := hr2.nb hn
    subst hb0
    have hnews : ∀ j v, fl2[j]? = some v → w.cell? ((⟨bb2, o2, none⟩ : Addr).add j) = some v := fun j v hj => by rw [add_mk]; exact hx2 j v hj
    have hgrow : ∀ (fl : List Value) (cs : Array Value) (cp : Nat), Rows r col w fl xs [] → cs.toList.take ((xs ++ ys).length * r.sz) = fl ++ fl2 → cs.size = cp * r.sz → xs.length + ys.length ≤ cp → cp ≤ maxLen →
        KeepP (p2 c c2) col w (paint col w c) (w.drew.alloc (.cells cs e)) ∧ Que r e c (paint col w c) (w.drew.alloc (.cells cs e)) (some ⟨w.heap.size, 0, none⟩) cp (xs ++ ys) := by
      intro fl cs cp hr htk hsize hcp hm
      have hg : Below w.heap.size w (w.drew.alloc (.cells cs e)) := ((Below.refl w.heap.size w).drew).alloc (Nat.le_refl _) _
      have hG : Grow col w (paint col w c) (w.drew.alloc (.cells cs e)) := ⟨hg, fun k hk => by simp [paint, hk]⟩
      have hst : Stay col w (paint col w c) (w.drew.alloc (.cells cs e)) := fun k hk h0 => ⟨(hG.tint k hk).trans h0, hg.block k hk⟩
      refine ⟨hG.toP, by simpa using hcp, hm, .inr ⟨_, fl ++ fl2, rfl, (hr.append hr2).keep hst (by simp), .inr ⟨w.heap.size, 0, cs, rfl, heap_alloc_new w.drew _, by simp [paint], by omega, by simpa using htk⟩⟩⟩
    obtain ⟨k1, k2, h3⟩ := h
    by_cases hroom : xs.length + ys.length ≤ cap
    · rcases h3 with ⟨_, hc0⟩ | ⟨A, fl, rfl, hr, h4 | ⟨g, off, cur, rfl, hh, hcg, h5, h6⟩⟩
      · omega
      · omega
      have hmul : (xs.length + ys.length) * r.sz ≤ cap * r.sz := Nat.mul_le_mul_right _ hroom
      rw [Nat.add_mul] at hmul
      have hlf := hr.length
      have hrun := run_append_roomO (P := P) w T t e i hT hi g off xs.length cap cur hh ⟨bb2, o2, none⟩ ys.length cap2 fl2 (by rw [hl2, hs]) hnews hr2.one hroom (by rw [hs, hl2]; omega)
      have hlen : cur.toList.length = cur.size := by simp
      have hk : Stay col w col (w.setRow g (cur.toList.take (off + xs.length * i.size) ++ fl2 ++ cur.toList.drop (off + xs.length * i.size + fl2.length)).toArray) := fun k _ hk => ⟨hk, setRow_other w g k _ (fun e => hc (by rw [← hcg, ← e, hk]))⟩
      refine ⟨_, _, _, col, hexec _ _ (by rw [List.length_append]; exact hrun), ⟨by simp [World.setRow], fun _ _ _ => rfl, fun k _ hp => setRow_other w g k _ (fun e => ?_), ⟨rfl, rfl, rfl⟩⟩, by simpa using hroom, k2, .inr ⟨_, fl ++ fl2, rfl, (hr.append hr2).keep hk (by simp), .inr ⟨g, off, _, rfl, setRow_heap w g cur _ e _ hh, hcg, ?_, ?_⟩⟩⟩
      · rw [e, hcg] at hp; simp [p2] at hp
      · simp only [List.size_toArray, List.length_append, List.length_take, List.length_drop, hlen, hl2, hs]; omega
      · rw [hs]
        apply List.ext_getElem?
        intro q
        have hq : ∀ m : Nat, ((cur.toList.drop off).take (xs.length * r.sz))[m]? = fl[m]? := fun m => by rw [h6]
        rw [List.getElem?_take]
        by_cases hq1 : q < (xs ++ ys).length * r.sz
        · rw [if_pos hq1, List.getElem?_drop]
          rw [List.length_append, Nat.add_mul] at hq1
          by_cases hq2 : q < xs.length * r.sz
          · rw [List.getElem?_append_left (l₁ := fl) (by omega)]
            have := hq q
            rw [List.getElem?_take, if_pos hq2, List.getElem?_drop] at this
            rw [← this, List.append_assoc, List.getElem?_append_left (by simp; omega), List.getElem?_take, if_pos (by omega)]
          · rw [List.getElem?_append_right (l₁ := fl) (by omega), hlf, List.append_assoc, List.getElem?_append_right (by simp; omega)]
            rw [List.length_take, hlen, Nat.min_eq_left (by omega), List.getElem?_append_left (by omega)]
            congr 1; omega
        · rw [if_neg hq1]
          rw [List.length_append, Nat.add_mul] at hq1
          rw [List.getElem?_eq_none (by simp; omega)]
    · rcases h3 with ⟨rfl, rfl⟩ | ⟨A, fl, rfl, hr, h4⟩
      · have hx0 : xs = [] := List.length_eq_zero_iff.1 (by omega)
        subst hx0
        have hrun := run_append_nil (P := P) w T t e i z hT hi hz ⟨bb2, o2, none⟩ ys.length cap2 fl2 (by rw [hl2, hs]) hnews hpos (by simp only [maxLen, List.length_nil] at hl; omega) (by rw [hby]; simp only [List.length_nil, Nat.zero_add] at hb; omega)
        obtain ⟨q1, q2⟩ := hgrow [] (fl2.toArray ++ Builtin.zeroCells z.cells (grownCap w ys.length 0 e - ys.length)) (grownCap w ys.length 0 e) ⟨rfl, rfl⟩ (by
            simp only [List.nil_append, Array.toList_append, List.take_append, ← hl2]; simp) (by
            have := grownCap_ge w ys.length 0 e
            simp only [Array.size_append, List.size_toArray, size_zeroCells, hl2, hzs]; rw [← Nat.add_mul]; congr 1; omega)
          (by simpa using grownCap_ge w ys.length 0 e) (grownCap_le_maxLen w _ _ _ (by simpa using hl))
        exact ⟨_, _, _, _, hexec _ _ hrun, q1, q2⟩
      · have hlf := hr.length
        have hcells : ∀ j v, fl[j]? = some v → w.cell? (A.add j) = some v := by
          rcases h4 with h4 | ⟨g, off, cur, rfl, hh, hcg, h5, h6⟩
          · have hx0 : xs = [] := List.length_eq_zero_iff.1 (by omega)
            subst hx0
            have hf0 : fl = [] := hr.1
            subst hf0; simp
          · intro j v hj; rw [add_mk]; exact Que.cell hh h6 hj
        have hrun := run_append_grow (P := P) w T t e i z hT hi hz A xs.length cap fl (by rw [hlf, hs]) hcells ⟨bb2, o2, none⟩ ys.length cap2 fl2 (by rw [hl2, hs]) hnews (by omega) (by simp only [maxLen] at hl; omega)
          (by rw [hby]; exact growslice_fits (by omega) hb)
        obtain ⟨q1, q2⟩ := hgrow fl (fl.toArray ++ fl2.toArray ++ Builtin.zeroCells z.cells (grownCap w (xs.length + ys.length) cap e - (xs.length + ys.length))) (grownCap w (xs.length + ys.length) cap e) hr (by
            have := (hr.append hr2).length
            simp only [Array.toList_append]
            rw [← this, List.take_left' (by simp)]) (by
            have := grownCap_ge w (xs.length + ys.length) cap e
            simp only [Array.size_append, List.size_toArray, size_zeroCells, hl2, hlf, hzs]; rw [← Nat.add_mul, ← Nat.add_mul]; congr 1; omega)
          (grownCap_ge w _ _ _) (grownCap_le_maxLen w _ _ _ hl)
        exact ⟨_, _, _, _, hexec _ _ (by rw [List.length_append]; exact hrun), q1, q2⟩
end
section
variable {i : IntKind} {e c : Nat} {col : Col} {w : World} {a : Option Addr} {cap : Nat} {j : Int}
theorem Que.atInt {xs : List Int} {x0 : Int} (h : Que (Rep.int i) e c col w a cap xs) (hj : at? xs j = some x0) : At1 w (sptr a (j.toNat * 1)) (.int i x0) := by
  obtain ⟨cs, ⟨_, ⟨rfl, _⟩, _⟩, h2⟩ := h.atN hj
  exact h2.one
theorem Que.atStr {xs : List ByteArray} {x0 : ByteArray} (h : Que Rep.str e c col w a cap xs) (hj : at? xs j = some x0) : At1 w (sptr a (j.toNat * 1)) (.string x0) := by
  obtain ⟨cs, ⟨_, ⟨rfl, _⟩, _⟩, h2⟩ := h.atN hj
  exact h2.one
end
section
variable {α : Type} {P : Program} {r : Rep α} {e m d : Nat} {rd : Option Nat} {f : Fr} {ops : Array Oper} {K : Fr → World → Prop} {rest : List Oper} {t : Nat} {p : String} {af : Array Edge} {x y : Operand} {col : Col} {w : World} {xs ys : List α}
end
end Go.Proofs.YtonkjfnjadofpaaGreat
