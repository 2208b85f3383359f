/-
  Points with edges: a variable that holds a list of maps, one a point, of whom each says with which points it has an edge. What is known of it is a table of yes and no. Over any program.
-/
import Derived.Test.YtgkofjmeopbkbaaGraphToldBTwo
namespace Go.Proofs.Ytgkofjmeopbkbaa
open Go Go.RowKit Go.MapKept

/-- A map's place, as a cell. -/
def Rep.mref : Rep (Option Nat) := ⟨1, by decide, fun _ _ cs x bs => cs = [.map x] ∧ bs = [], fun h => by rw [h.1]; rfl, fun h => by rw [h.1]; simp [Value.oneCell'], fun h => by rw [h.2]; simp, fun h _ _ => h⟩

/-- Where a graph lies: its variable, its list, its maps. -/
structure GObj where
  g : Nat
  a : Option Addr
  cap : Nat
  bl : List Nat

/-- A row of yes and no, at any number. -/
def gat (row : List Bool) (k : Int) : Bool := if 0 ≤ k then (row[k.toNat]?).getD false else false
/-- The keys of a row, rising. -/
def gkeys (row : List Bool) : List Int := ((List.range row.length).filter fun k => (row[k]?).getD false).map Int.ofNat

/-- A map's entry: its key, its stamp. -/
def mkE (p : Int × Nat) : MapEntry := ⟨.int .i64 p.1, .bool true, p.2⟩
theorem mkE_key (p : Int × Nat) : (mkE p).key = .int .i64 p.1 := rfl
theorem mkE_born (p : Int × Nat) : (mkE p).born = p.2 := rfl
/-- A map's entries say what a row says; no stamp comes twice. -/
structure EsOk (es : List (Int × Nat)) (clock : Nat) (row : List Bool) : Prop where
  keys : (es.map (·.1)).Nodup
  born : (es.map (·.2)).Nodup
  lt : ∀ p ∈ es, p.2 < clock
  iff : ∀ k : Int, k ∈ es.map (·.1) ↔ gat row k = true
/-- A map of colour c that says what a row says. -/
def MapB (c : Nat) (col : Col) (w : World) (b : Nat) (row : List Bool) : Prop := col b = c ∧ ∃ es clock, w.heap[b]? = some (.map (es.map mkE).toArray clock) ∧ EsOk es clock row

section
variable {c d i p b : Nat} {col col' : Col} {w w' : World} {row : List Bool} {l : List Nat}
theorem MapB.loc : Loc i (fun col w => MapB i col w b row) := by
  rintro col w col' w' ⟨h1, es, clock, h2, h3⟩ _ _ hk
  obtain ⟨k1, k2⟩ := hk b (Array.getElem?_eq_some_iff.1 h2).1 h1
  exact ⟨k1, es, clock, k2.trans h2, h3⟩
theorem MapB.gr (h : MapB i col w b row) (hg : Grow col w col' w') : MapB i col' w' b row := Loc.gr MapB.loc h hg
theorem MapB.kp (h : MapB i col w b row) (hk : Keep c col w col' w') (hc : c ≠ 0) (hi : i ≠ c) : MapB i col' w' b row := Loc.kp MapB.loc h hk hc hi
theorem MapB.recol (c d : Nat) (h : MapB i col w b row) (hc : i ≠ c ∧ c ≠ 0) : MapB i (rcC c d col) w b row := Loc.recol MapB.loc c d hc h
theorem MapB.recolSelf (d : Nat) (h : MapB c col w b row) : MapB d (rcC c d col) w b row := ⟨recol_self h.1, h.2⟩
theorem MapB.start0 (h : MapB p col w b row) (hp : p ≠ 0) : MapB 999 (col0 col) w b row := ⟨by unfold col0; rw [h.1, if_neg hp], h.2⟩
theorem MapB.startL (h : MapB p col w b row) (hp : p ≠ 0) (hi : pS l p = true ∧ 440 + l.findIdx (Nat.beq p) = i) : MapB i (colL l col) w b row :=
  ⟨(Mine.startL (bs := [b]) ⟨by simp, fun x hx => by simp only [List.mem_singleton] at hx; subst hx; exact h.1⟩ hp hi).2 b (by simp), h.2⟩
theorem St.finMapB {w0 : World} {G : Nat → Nat} (h : St w0 (col0 col) col' w') (ho : MapB i col' w' b row) (h0 : i ≠ 0) (h9 : i ≠ 999) (hc : G i = c) : MapB c (colF w0.heap.size col col' G) w' b row :=
  ⟨(h.finMine (bs := [b]) ⟨by simp, fun x hx => by simp only [List.mem_singleton] at hx; subst hx; exact ho.1⟩ h0 h9 hc).2 b (by simp), ho.2⟩
theorem St.finMapBL {w0 : World} {G : Nat → Nat} (h : St w0 (colL l col) col' w') (ho : MapB i col' w' b row) (h0 : i ≠ 0) (h9 : i ≠ 999) (hc : G i = c) : MapB c (colFL w0.heap.size l col col' G) w' b row :=
  ⟨(h.finMineL (bs := [b]) ⟨by simp, fun x hx => by simp only [List.mem_singleton] at hx; subst hx; exact ho.1⟩ h0 h9 hc).2 b (by simp), ho.2⟩
end

/-- A graph of one's own: the whole of it of colour c; its table t. -/
structure GO (S M : TypeId) (c : Nat) (col : Col) (w : World) (o : GObj) (t : List (List Bool)) : Prop where
  box : Box S c col w o.g #[.slice o.a t.length o.cap]
  row : Own Rep.mref M c col w o.a o.cap (o.bl.map some)
  len : o.bl.length = t.length
  nd : o.bl.Nodup
  sq : ∀ r ∈ t, r.length = t.length
  maps : ∀ (i b : Nat) (r : List Bool), o.bl[i]? = some b → t[i]? = some r → MapB c col w b r

section
variable {S M c d i p : Nat} {col col' : Col} {w w' : World} {o : GObj} {t : List (List Bool)} {l : List Nat} {q : Nat → Bool}
theorem GO.loc : Loc i (fun col w => GO S M i col w o t) := fun h h1 h2 h3 =>
  ⟨Box.loc h.box h1 h2 h3, Own.loc h.row h1 h2 h3, h.len, h.nd, h.sq, fun j b r k1 k2 => MapB.loc (h.maps j b r k1 k2) h1 h2 h3⟩
theorem GO.kp (h : GO S M i col w o t) (hk : Keep c col w col' w') (hc : c ≠ 0) (hi : i ≠ c) : GO S M i col' w' o t := GO.loc.kp h hk hc hi
theorem GO.gr (h : GO S M i col w o t) (hg : Grow col w col' w') : GO S M i col' w' o t := GO.loc.gr h hg
theorem GO.kpp (h : GO S M i col w o t) (hk : KeepP q col w col' w') (h0 : q 0 = false) (hi : q i = false) : GO S M i col' w' o t := GO.loc.kpp h hk h0 hi
theorem GO.froz (c : Nat) (h : GO S M i col w o t) (hi : i ≠ c) : GO S M i (frC c col) w o t := GO.loc.froz c h hi
theorem GO.recol (c d : Nat) (h : GO S M i col w o t) (hc : i ≠ c ∧ c ≠ 0) : GO S M i (rcC c d col) w o t := GO.loc.recol c d hc h
theorem GO.recolSelf (d : Nat) (h : GO S M c col w o t) (hc : c ≠ 0) : GO S M d (rcC c d col) w o t :=
  ⟨h.box.recolSelf d, h.row.recolSelf d hc, h.len, h.nd, h.sq, fun j b r k1 k2 => (h.maps j b r k1 k2).recolSelf d⟩
theorem GO.start0 (h : GO S M p col w o t) (hp : p ≠ 0) : GO S M 999 (col0 col) w o t :=
  ⟨h.box.start0 hp, h.row.start0 hp, h.len, h.nd, h.sq, fun j b r k1 k2 => (h.maps j b r k1 k2).start0 hp⟩
theorem GO.startL (h : GO S M p col w o t) (hp : p ≠ 0) (hi : pS l p = true ∧ 440 + l.findIdx (Nat.beq p) = i) : GO S M i (colL l col) w o t :=
  ⟨h.box.startL hp hi, h.row.startL hp hi, h.len, h.nd, h.sq, fun j b r k1 k2 => (h.maps j b r k1 k2).startL hp hi⟩
theorem St.finGO {w0 : World} {G : Nat → Nat} (h : St w0 (col0 col) col' w') (hg : G 0 = 0) (ho : GO S M i col' w' o t) (h0 : i ≠ 0) (h9 : i ≠ 999) (hc : G i = c) : GO S M c (colF w0.heap.size col col' G) w' o t :=
  ⟨h.finBox ho.box h0 h9 hc, h.finOwn hg ho.row h0 h9 hc, ho.len, ho.nd, ho.sq, fun j b r k1 k2 => h.finMapB (ho.maps j b r k1 k2) h0 h9 hc⟩
theorem St.finGOL {w0 : World} {G : Nat → Nat} (h : St w0 (colL l col) col' w') (hg : G 0 = 0) (ho : GO S M i col' w' o t) (h0 : i ≠ 0) (h9 : i ≠ 999) (hc : G i = c) : GO S M c (colFL w0.heap.size l col col' G) w' o t :=
  ⟨h.finBoxL ho.box h0 h9 hc, h.finOwnL hg ho.row h0 h9 hc, ho.len, ho.nd, ho.sq, fun j b r k1 k2 => h.finMapBL (ho.maps j b r k1 k2) h0 h9 hc⟩

/-! ### looking -/
theorem GO.blk {j : Int} {r : List Bool} (h : GO S M c col w o t) (hj : at? t j = some r) : ∃ b, at? (o.bl.map some) j = some (some b) ∧ MapB c col w b r ∧ o.bl[j.toNat]? = some b := by
  obtain ⟨h0, h1, h2⟩ := at?_some hj
  have hlt : j.toNat < o.bl.length := by rw [h.len]; omega
  refine ⟨o.bl[j.toNat], ?_, h.maps _ _ _ (List.getElem?_eq_getElem hlt) h2, List.getElem?_eq_getElem hlt⟩
  unfold at?; rw [if_pos h0, List.getElem?_map, List.getElem?_eq_getElem hlt]; rfl
theorem GO.at1 {j : Int} {x : Option Nat} (h : GO S M c col w o t) (hj : at? (o.bl.map some) j = some x) : At1 w (sptr o.a (j.toNat * 1)) (.map x) := by
  obtain ⟨cs, ⟨bs, ⟨h1, _⟩, _⟩, h2⟩ := h.row.atN hj
  subst h1
  exact h2.one
theorem GO.addr {j : Int} {x : Option Nat} (h : GO S M c col w o t) (hj : at? (o.bl.map some) j = some x) : ∃ b o', o.a = some ⟨b, o', none⟩ := h.row.addr hj

theorem MapB.find {P : Program} {kt : TypeId} {k : Int} {es : List (Int × Nat)} {clock : Nat} {row : List Bool} (he : EsOk es clock row) (hk : P.underlying kt = some (.int .i64)) (w : World) :
    (gat row k = false ∧ (Instr.findKey kt (.int .i64 k) (es.map mkE)).run P w = .ok none w ∧ k ∉ es.map (·.1)) ∨
    ∃ j s, gat row k = true ∧ es[j]? = some (k, s) ∧ (Instr.findKey kt (.int .i64 k) (es.map mkE)).run P w = .ok (some (j, .bool true)) w := by
  have hks : ∀ x ∈ es.map mkE, IsKey (.int .i64) x.key := fun x hx => by
    obtain ⟨q, _, rfl⟩ := List.mem_map.1 hx
    exact rfl
  rcases findNow_spec (d := .int .i64) (k := .int .i64 k) rfl (es.map mkE) 0 hks with ⟨h1, h2⟩ | ⟨j, e0, h1, h2, h5⟩
  · have hn : k ∉ es.map (·.1) := fun hm => by
      obtain ⟨q, hq, rfl⟩ := List.mem_map.1 hm
      exact h2 (mkE q) (List.mem_map.2 ⟨q, hq, rfl⟩) rfl
    refine .inl ⟨?_, run_findKey hk h1, hn⟩
    cases hg : gat row k
    · rfl
    · exact absurd ((he.iff k).2 hg) hn
  · right
    rw [List.getElem?_map] at h2
    cases hq : es[j]? with
    | none => rw [hq] at h2; cases h2
    | some q =>
      rw [hq] at h2
      simp only [Option.map_some, Option.some.injEq] at h2
      subst h2
      obtain ⟨qk, qs⟩ := q
      simp only [mkE, Value.int.injEq, true_and] at h5
      subst h5
      refine ⟨j, qs, (he.iff _).1 (List.mem_map.2 ⟨_, List.mem_of_getElem? hq, rfl⟩), hq, ?_⟩
      have := run_findKey (P := P) (w := w) hk h1
      simpa [mkE] using this

section
variable {P : Program} {f : Fr} {dst : Option Tmp} {ps : String} {af : Array Edge} {x y z : Operand} {T kt et tt b : Nat} {k : Int} {row : List Bool}
theorem r_glookup_g {gd : Option (Nat × Bool)} (h : MapB c col w b row) (hT : P.underlying T = some (.map kt et)) (hk : P.underlying kt = some (.int .i64)) (hz : ∀ w, (zeroValue et).run P w = .ok (.bool false) w) (hx : ev f x = .map (some b)) (hy : ev f y = .int .i64 k) :
    (execOp (ev f) ⟨dst, .lookup T x y false, tt, ps, af, gd⟩).run P w = .ok (.value (.bool (gat row k))) w := by
  obtain ⟨_, es, clock, h2, h3⟩ := h
  have hc : ∀ em, (Instr.checkKey em 10000 kt (.int .i64 k)).run P w = .ok () w := fun em => run_checkKey hk (k := .int .i64 k) (d := .int .i64) rfl em 9999
  rcases MapB.find (P := P) (k := k) h3 hk w with ⟨h5, h6, _⟩ | ⟨j, s, h5, _, h6⟩
  · simp [execOp, hx, hy, Instr.lookup, run_underlying hT, Go.MapKept.run_getObj_map h2, hc, h6, hz, h5]
  · simp [execOp, hx, hy, Instr.lookup, run_underlying hT, Go.MapKept.run_getObj_map h2, hc, h6, h5]
end

/-! ### one map turns -/
theorem MapB.other {b b' : Nat} {ob : Obj} {r : List Bool} (h : MapB c col w b r) (hne : b ≠ b') : MapB c col (w.putObj b' ob) b r := by
  obtain ⟨h1, es, clock, h2, h3⟩ := h
  exact ⟨h1, es, clock, by rw [World.putObj_heap_other hne]; exact h2, h3⟩
/-- The map of point j says another row. -/
theorem GO.put {j b : Nat} {r r' : List Bool} {es : List (Int × Nat)} {clock : Nat} (h : GO S M c col w o t) (hc : c ≠ 0) (hb : o.bl[j]? = some b) (hr : t[j]? = some r) (hl : r'.length = r.length) (he : EsOk es clock r') :
    GO S M c col (w.putObj b (.map (es.map mkE).toArray clock)) o (t.set j r') := by
  obtain ⟨hcb, es0, clock0, h0, _⟩ := h.maps j b r hb hr
  have hlt := (Array.getElem?_eq_some_iff.1 h0).1
  have hst : Stay col w col (w.putObj b (.map (es.map mkE).toArray clock)) := fun k _ hk => ⟨hk, World.putObj_heap_other fun e => hc (by rw [← hcb, ← e]; exact hk)⟩
  refine ⟨?_, ?_, by rw [List.length_set]; exact h.len, h.nd, ?_, ?_⟩
  · rw [List.length_set]
    refine ⟨h.box.1, ?_⟩
    rw [World.putObj_heap_other]
    · exact h.box.2
    · intro e
      have := h.box.2
      rw [e, h0] at this; cases this
  · obtain ⟨bs, h1, h2⟩ := h.row
    refine ⟨bs, h1.keep hst fun k hk => World.putObj_heap_other fun e => ?_, h2⟩
    subst e
    obtain ⟨fl, b2, k1, k2, rfl⟩ := h1
    have hb2 : b2 = [] := Rows.nb (r := Rep.mref) (fun h => And.right h) k2
    subst hb2
    rcases k1.2 with ⟨h, h0⟩ | ⟨g, cp, cur, hv, hb, hh, _⟩
    · have : (o.bl.map some).length = 0 := h0
      rw [List.length_map] at this
      have := (List.getElem?_eq_some_iff.1 ‹o.bl[j]? = some k›).1
      omega
    · rw [hv] at hk
      simp only [Value.ownBlock, Option.toList_some, List.append_nil, List.mem_singleton] at hk
      subst hk
      rw [h0] at hh; cases hh
  · intro r1 hr1
    rw [List.length_set]
    rcases List.mem_or_eq_of_mem_set hr1 with h1 | rfl
    · exact h.sq _ h1
    · rw [hl]; exact h.sq _ (List.mem_of_getElem? hr)
  · intro i2 b2 r2 h1 h2
    by_cases hij : i2 = j
    · subst hij
      rw [hb] at h1; cases h1
      rw [List.getElem?_set_self (List.getElem?_eq_some_iff.1 hr).1] at h2; cases h2
      exact ⟨hcb, es, clock, World.putObj_heap_same hlt, he⟩
    · rw [List.getElem?_set_ne (Ne.symm hij)] at h2
      refine (h.maps i2 b2 r2 h1 h2).other fun e => hij ?_
      subst e
      exact (List.getElem?_inj (List.getElem?_eq_some_iff.1 h1).1 h.nd).1 (h1.trans hb.symm)
end

/-! ### an edge goes, all of a point's go -/
def rset (row : List Bool) (k : Int) (v : Bool) : List Bool := if 0 ≤ k then row.set k.toNat v else row
theorem rset_length {row : List Bool} {k : Int} {v : Bool} : (rset row k v).length = row.length := by unfold rset; split <;> simp
theorem gat_rset {row : List Bool} {k k' : Int} {v : Bool} : gat (rset row k v) k' = if k' = k then (v && decide (0 ≤ k ∧ k.toNat < row.length)) else gat row k' := by
  unfold gat rset
  by_cases h0 : 0 ≤ k
  · rw [if_pos h0]
    by_cases h1 : 0 ≤ k'
    · rw [if_pos h1, if_pos h1]
      by_cases he : k' = k
      · subst he
        rw [if_pos rfl]
        by_cases hl : k'.toNat < row.length
        · rw [List.getElem?_set_self hl]; simp [h0, hl]
        · rw [List.getElem?_eq_none (by rw [List.length_set]; omega)]; simp [hl]
      · rw [if_neg he, List.getElem?_set_ne (by omega)]
    · rw [if_neg h1, if_neg h1]
      by_cases he : k' = k
      · omega
      · rw [if_neg he]
  · rw [if_neg h0]
    by_cases he : k' = k
    · subst he
      rw [if_neg h0, if_pos rfl]; simp [h0]
    · rw [if_neg he]
theorem gat_replicate {n : Nat} {k : Int} : gat (List.replicate n false) k = false := by
  unfold gat; split
  · rw [List.getElem?_replicate]; split <;> rfl
  · rfl

theorem modify_end {α : Type} (g : α → α) (a : α) : ∀ l : List α, (l ++ [a]).modify l.length g = l ++ [g a]
  | [] => rfl
  | x :: l => by
    rw [List.cons_append, List.length_cons, List.modify_succ_cons, modify_end g a l, List.cons_append]
theorem map_erase {α β : Type} (g : α → β) : ∀ (l : List α) (j : Nat), (l.map g).eraseIdx j = (l.eraseIdx j).map g
  | [], _ => rfl
  | _ :: _, 0 => rfl
  | x :: l, j + 1 => by rw [List.map_cons, List.eraseIdx_cons_succ, List.eraseIdx_cons_succ, List.map_cons, map_erase g l j]
theorem EsOk.erase {es : List (Int × Nat)} {clock j s : Nat} {k : Int} {row : List Bool} (h : EsOk es clock row) (hj : es[j]? = some (k, s)) : EsOk (es.eraseIdx j) clock (rset row k false) := by
  have hsub : (es.eraseIdx j).Sublist es := List.eraseIdx_sublist _ _
  refine ⟨h.keys.sublist (hsub.map _), h.born.sublist (hsub.map _), fun p hp => h.lt p (hsub.subset hp), fun k' => ?_⟩
  rw [gat_rset, ← map_erase, List.mem_eraseIdx_iff_getElem?]
  have hk : (es.map (·.1))[j]? = some k := by rw [List.getElem?_map, hj]; rfl
  constructor
  · rintro ⟨i, hi, h1⟩
    rw [if_neg]
    · exact (h.iff k').1 (List.mem_of_getElem? h1)
    · intro e; subst e
      exact hi ((List.getElem?_inj (List.getElem?_eq_some_iff.1 h1).1 h.keys).1 (h1.trans hk.symm))
  · intro h1
    by_cases he : k' = k
    · rw [if_pos he] at h1; simp at h1
    · rw [if_neg he] at h1
      obtain ⟨i, hi⟩ := List.getElem?_of_mem ((h.iff k').2 h1)
      refine ⟨i, fun e => ?_, hi⟩
      subst e; rw [hk] at hi; cases hi; exact he rfl
theorem EsOk.same {es : List (Int × Nat)} {clock : Nat} {k : Int} {row : List Bool} (h : EsOk es clock row) (hk : gat row k = false) : EsOk es clock (rset row k false) :=
  ⟨h.keys, h.born, h.lt, fun k' => by
    rw [h.iff k', gat_rset]
    by_cases he : k' = k
    · subst he; rw [if_pos rfl, hk]; simp
    · rw [if_neg he]⟩
theorem EsOk.none {clock n : Nat} : EsOk [] clock (List.replicate n false) := ⟨by simp, by simp, by simp, fun k => by rw [gat_replicate]; simp⟩

section
variable {S M c d i p : Nat} {col col' : Col} {w w' : World} {o : GObj} {t : List (List Bool)} {l : List Nat} {q : Nat → Bool}
section
variable {P : Program} {m : Nat} {rd : Option Nat} {f : Fr} {ops : Array Oper} {Kk : Fr → World → Prop} {rest : List Oper} {tt dd : Nat} {ps : String} {af : Array Edge} {x y z : Operand} {T kt et kt' : TypeId} {k : Int} {i b : Nat} {r : List Bool}
theorem l_gdel (h : GO S M c col w o t) (hc : c ≠ 0) (hb : o.bl[i]? = some b) (hr : t[i]? = some r) (hT : P.underlying T = some (.map kt et)) (hk : P.underlying kt = some (.int .i64)) (hx : ev f x = .map (some b)) (hy : ev f y = .int .i64 k)
    (kk : ∀ w', Keep c col w col w' → Still w w' → GO S M c col w' o (t.set i (rset r k false)) → WpL P m rd ops Kk rest f w') :
    WpL P m rd ops Kk (⟨none, .call { callee := .builtin .delete, args := #[x, y], argTypes := #[T, kt'] }, tt, ps, af, none⟩ :: rest) f w := by
  obtain ⟨hcb, es, clock, h2, h3⟩ := h.maps i b r hb hr
  have hck : ∀ em, (Instr.checkKey em 10000 kt (.int .i64 k)).run P w = .ok () w := fun em => run_checkKey hk (k := .int .i64 k) (d := .int .i64) rfl em 9999
  rcases MapB.find (P := P) (k := k) h3 hk w with ⟨h5, h6, _⟩ | ⟨j, s, h5, h7, h6⟩
  · refine lval (w' := w.putObj b (.map (es.map mkE).toArray clock)) (v := .tuple #[]) rfl rfl rfl ?_ (kk _ (Keep.put hcb) Still.put (h.put hc hb hr rset_length (h3.same h5)))
    simp [execOp, resolve, invoke, builtin, hx, hy, Builtin.delete_, run_underlying hT, Go.MapKept.run_getObj_map h2, hck, h6, Go.MapKept.run_setObj_map _ h2, World.putObj]
  · refine lval (w' := w.putObj b (.map ((es.eraseIdx j).map mkE).toArray clock)) (v := .tuple #[]) rfl rfl rfl ?_ (kk _ (Keep.put hcb) Still.put (h.put hc hb hr rset_length (h3.erase h7)))
    have hlt := (List.getElem?_eq_some_iff.1 h7).1
    simp [execOp, resolve, invoke, builtin, hx, hy, Builtin.delete_, run_underlying hT, Go.MapKept.run_getObj_map h2, hck, h6, hlt, map_erase, Go.MapKept.run_setObj_map _ h2, World.putObj]
theorem l_gclear (h : GO S M c col w o t) (hc : c ≠ 0) (hb : o.bl[i]? = some b) (hr : t[i]? = some r) (hT : P.underlying T = some (.map kt et)) (hx : ev f x = .map (some b))
    (kk : ∀ w', Keep c col w col w' → Still w w' → GO S M c col w' o (t.set i (List.replicate r.length false)) → WpL P m rd ops Kk rest f w') :
    WpL P m rd ops Kk (⟨none, .call { callee := .builtin .clear, args := #[x], argTypes := #[T] }, tt, ps, af, none⟩ :: rest) f w := by
  obtain ⟨hcb, es, clock, h2, h3⟩ := h.maps i b r hb hr
  refine lval (w' := w.putObj b (.map #[] clock)) (v := .tuple #[]) rfl rfl rfl ?_ (kk _ (Keep.put hcb) Still.put (h.put (es := []) hc hb hr (by simp) EsOk.none))
  simp [execOp, resolve, invoke, builtin, hx, Builtin.clear_, run_underlying hT, Go.MapKept.run_getObj_map h2, Go.MapKept.run_setObj_map _ h2, World.putObj]
end

/-! ### a map without keys -/
section
variable {c : Nat} {col : Col} {w : World} {P : Program} {m : Nat} {rd : Option Nat} {f : Fr} {ops : Array Oper} {Kk : Fr → World → Prop} {rest : List Oper} {tt dd : Nat} {ps : String} {af : Array Edge} {T : TypeId}
theorem l_gmake (c n : Nat) (hd : Nat.blt dd m = true) (kk : ∀ g w' col', Grow col w col' w' → MapB c col' w' g (List.replicate n false) → WpL P m rd ops Kk rest (upd f dd (.map (some g))) w') :
    WpL P m rd ops Kk (⟨some dd, .makeMap T none, tt, ps, af, none⟩ :: rest) f w := by
  exact lv hd rfl (by simp [execOp, Instr.makeMap, newObj, Sem.run, World.alloc_eq]) (kk w.heap.size (w.alloc (.map #[] 0)) (paint col w c) (Grow.new (below_alloc w _) c) ⟨by simp [paint], [], 0, World.alloc_heap_new w _, EsOk.none⟩)
end

/-! ### an edge comes: its entry is made, then written -/
/-- A map one of whose entries (of stamp s) is not written yet. -/
def MapM (c : Nat) (col : Col) (w : World) (b s : Nat) (row : List Bool) : Prop :=
  col b = c ∧ ∃ (es : List (Int × Nat)) (clock j : Nat) (k : Int) (v : Value), w.heap[b]? = some (.map ((es.map mkE).toArray.modify j fun e => { e with val := v }) clock) ∧ es[j]? = some (k, s) ∧ EsOk es clock row
structure GOe (S M : TypeId) (c : Nat) (col : Col) (w : World) (o : GObj) (t : List (List Bool)) (b s : Nat) : Prop where
  box : Box S c col w o.g #[.slice o.a t.length o.cap]
  row : Own Rep.mref M c col w o.a o.cap (o.bl.map some)
  len : o.bl.length = t.length
  nd : o.bl.Nodup
  sq : ∀ r ∈ t, r.length = t.length
  maps : ∀ (i b' : Nat) (r : List Bool), o.bl[i]? = some b' → t[i]? = some r → (b' ≠ b → MapB c col w b' r) ∧ (b' = b → MapM c col w b' s r)
theorem MapM.loc {b s : Nat} {row : List Bool} : Loc i (fun col w => MapM i col w b s row) := by
  rintro col w col' w' ⟨h1, es, clock, j, k, v, h2, h3⟩ _ _ hk
  obtain ⟨k1, k2⟩ := hk b (Array.getElem?_eq_some_iff.1 h2).1 h1
  exact ⟨k1, es, clock, j, k, v, k2.trans h2, h3⟩
theorem GOe.loc {b s : Nat} : Loc i (fun col w => GOe S M i col w o t b s) := fun h h1 h2 h3 =>
  ⟨Box.loc h.box h1 h2 h3, Own.loc h.row h1 h2 h3, h.len, h.nd, h.sq, fun j b r k1 k2 => ⟨fun h4 => MapB.loc ((h.maps j b r k1 k2).1 h4) h1 h2 h3, fun h4 => MapM.loc ((h.maps j b r k1 k2).2 h4) h1 h2 h3⟩⟩
theorem GOe.kp {b s : Nat} (h : GOe S M i col w o t b s) (hk : Keep c col w col' w') (hc : c ≠ 0) (hi : i ≠ c) : GOe S M i col' w' o t b s := GOe.loc.kp h hk hc hi
theorem GOe.gr {b s : Nat} (h : GOe S M i col w o t b s) (hg : Grow col w col' w') : GOe S M i col' w' o t b s := GOe.loc.gr h hg
theorem GOe.kpp {b s : Nat} (h : GOe S M i col w o t b s) (hk : KeepP q col w col' w') (h0 : q 0 = false) (hi : q i = false) : GOe S M i col' w' o t b s := GOe.loc.kpp h hk h0 hi

theorem EsOk.old {es : List (Int × Nat)} {clock : Nat} {k : Int} {row : List Bool} (h : EsOk es clock row) (hk : gat row k = true) : EsOk es clock (rset row k true) :=
  ⟨h.keys, h.born, h.lt, fun k' => by
    rw [h.iff k', gat_rset]
    by_cases he : k' = k
    · subst he; rw [if_pos rfl, hk]
      have : 0 ≤ k' ∧ k'.toNat < row.length := by
        unfold gat at hk; split at hk
        · rename_i h0
          refine ⟨h0, ?_⟩
          by_cases hl : k'.toNat < row.length
          · exact hl
          · rw [List.getElem?_eq_none (by omega)] at hk; cases hk
        · cases hk
      simp [this]
    · rw [if_neg he]⟩
theorem EsOk.new {es : List (Int × Nat)} {clock : Nat} {k : Int} {row : List Bool} (h : EsOk es clock row) (hn : k ∉ es.map (·.1)) (h0 : 0 ≤ k) (hl : k.toNat < row.length) : EsOk (es ++ [(k, clock)]) (clock + 1) (rset row k true) := by
  refine ⟨?_, ?_, ?_, fun k' => ?_⟩
  · rw [List.map_append, List.nodup_append]
    refine ⟨h.keys, by simp, fun a ha b hb e => ?_⟩
    simp only [List.map_cons, List.map_nil, List.mem_singleton] at hb
    subst hb; subst e; exact hn ha
  · rw [List.map_append, List.nodup_append]
    refine ⟨h.born, by simp, fun a ha b hb e => ?_⟩
    simp only [List.map_cons, List.map_nil, List.mem_singleton] at hb
    subst hb; subst e
    obtain ⟨q, hq, hqe⟩ := List.mem_map.1 ha
    have := h.lt q hq; omega
  · intro p hp
    rcases List.mem_append.1 hp with h1 | h1
    · have := h.lt p h1; omega
    · simp only [List.mem_singleton] at h1; subst h1; simp
  · rw [List.map_append, List.mem_append, h.iff k', gat_rset]
    simp only [List.map_cons, List.map_nil, List.mem_singleton]
    by_cases he : k' = k
    · rw [if_pos he]; simp [he, h0, hl]
    · rw [if_neg he]; simp [he]

/-- The map of point j has its entry; it is not written yet. -/
theorem GO.putM {j b s : Nat} {r r' : List Bool} {ob : Obj} (h : GO S M c col w o t) (hc : c ≠ 0) (hb : o.bl[j]? = some b) (hr : t[j]? = some r) (hl : r'.length = r.length) (hm : ∀ w' : World, w'.heap[b]? = some ob → MapM c col w' b s r') :
    GOe S M c col (w.putObj b ob) o (t.set j r') b s := by
  obtain ⟨hcb, es0, clock0, h0, h3⟩ := h.maps j b r hb hr
  have hlt := (Array.getElem?_eq_some_iff.1 h0).1
  have hst : Stay col w col (w.putObj b ob) := fun k _ hk => ⟨hk, World.putObj_heap_other fun e => hc (by rw [← hcb, ← e]; exact hk)⟩
  refine ⟨?_, ?_, by rw [List.length_set]; exact h.len, h.nd, ?_, ?_⟩
  · rw [List.length_set]
    refine ⟨h.box.1, ?_⟩
    rw [World.putObj_heap_other]
    · exact h.box.2
    · intro e
      have := h.box.2
      rw [e, h0] at this; cases this
  · obtain ⟨bs, h1, h2⟩ := h.row
    refine ⟨bs, h1.keep hst fun k hk => World.putObj_heap_other fun e => ?_, h2⟩
    subst e
    obtain ⟨fl, b2, k1, k2, rfl⟩ := h1
    have hb2 : b2 = [] := Rows.nb (r := Rep.mref) (fun h => And.right h) k2
    subst hb2
    rcases k1.2 with ⟨h, h0⟩ | ⟨g, cp, cur, hv, hb, hh, _⟩
    · have : (o.bl.map some).length = 0 := h0
      rw [List.length_map] at this
      have := (List.getElem?_eq_some_iff.1 ‹o.bl[j]? = some k›).1
      omega
    · rw [hv] at hk
      simp only [Value.ownBlock, Option.toList_some, List.append_nil, List.mem_singleton] at hk
      subst hk
      rw [h0] at hh; cases hh
  · intro r1 hr1
    rw [List.length_set]
    rcases List.mem_or_eq_of_mem_set hr1 with h1 | rfl
    · exact h.sq _ h1
    · rw [hl]; exact h.sq _ (List.mem_of_getElem? hr)
  · intro i2 b2 r2 h1 h2
    by_cases hij : i2 = j
    · subst hij
      rw [hb] at h1; cases h1
      rw [List.getElem?_set_self (List.getElem?_eq_some_iff.1 hr).1] at h2; cases h2
      exact ⟨fun h => absurd rfl h, fun _ => hm _ (World.putObj_heap_same hlt)⟩
    · rw [List.getElem?_set_ne (Ne.symm hij)] at h2
      have hne : b2 ≠ b := fun e => hij (by
        subst e
        exact (List.getElem?_inj (List.getElem?_eq_some_iff.1 h1).1 h.nd).1 (h1.trans hb.symm))
      exact ⟨fun _ => (h.maps i2 b2 r2 h1 h2).other hne, fun e => absurd e hne⟩

section
variable {P : Program} {m : Nat} {rd : Option Nat} {f : Fr} {ops : Array Oper} {Kk : Fr → World → Prop} {rest : List Oper} {tt dd : Nat} {ps : String} {af : Array Edge} {x y z : Operand} {T kt et kt' : TypeId} {k : Int} {i b : Nat} {r : List Bool}
theorem l_gentry (h : GO S M c col w o t) (hc : c ≠ 0) (hb : o.bl[i]? = some b) (hr : t[i]? = some r) (h0 : 0 ≤ k) (hl : k.toNat < r.length) (hd : Nat.blt dd m = true) (hT : P.underlying T = some (.map kt et)) (hk : P.underlying kt = some (.int .i64)) (hz : ∀ w, (zeroValue et).run P w = .ok (.bool false) w) (hx : ev f x = .map (some b)) (hy : ev f y = .int .i64 k)
    (kk : ∀ w' v s, Keep c col w col w' → Still w w' → GOe S M c col w' o (t.set i (rset r k true)) b s → WpL P m rd ops Kk rest (upd f dd (.tuple #[v, .int .i64 (s : Nat)])) w') :
    WpL P m rd ops Kk (⟨some dd, .mapEntry T x y, tt, ps, af, none⟩ :: rest) f w := by
  obtain ⟨hcb, es, clock, h2, h3⟩ := h.maps i b r hb hr
  have hck : ∀ em, (Instr.checkKey em 10000 kt (.int .i64 k)).run P w = .ok () w := fun em => run_checkKey hk (k := .int .i64 k) (d := .int .i64) rfl em 9999
  rcases MapB.find (P := P) (k := k) h3 hk w with ⟨h5, h6, h7⟩ | ⟨j, s, h5, h7, h6⟩
  · refine lv (w' := w.putObj b (.map ((es.map mkE).toArray.push { key := .int .i64 k, val := .bool false, born := clock }) (clock + 1))) (v := .tuple #[.bool false, .int .i64 (clock : Nat)]) hd rfl ?_ (kk _ _ _ (Keep.put hcb) Still.put (h.putM (s := clock) hc hb hr rset_length fun w' hw => ?_))
    · simp [execOp, hx, hy, Instr.mapEntry, run_underlying hT, Go.MapKept.run_getObj_map h2, hck, h6, hz, Go.MapKept.run_setObj_map _ h2, World.putObj, goInt]
    · refine ⟨hcb, es ++ [(k, clock)], clock + 1, es.length, k, .bool false, ?_, by simp, h3.new h7 h0 hl⟩
      rw [hw]
      congr 2
      apply Array.ext'
      simp only [List.map_append, List.map_cons, List.map_nil, Array.toList_push, Array.toList_modify]
      rw [show es.length = (es.map mkE).length by simp, modify_end]
      rfl
  · refine lv (w' := w.putObj b (.map (es.map mkE).toArray clock)) (v := .tuple #[.bool true, .int .i64 (s : Nat)]) hd rfl ?_ (kk _ _ _ (Keep.put hcb) Still.put (h.putM (s := s) hc hb hr rset_length fun w' hw => ?_))
    · have hst := run_keyThatStays (P := P) (w := w) (k := .int .i64 k) (d := .int .i64) rfl
      have hlt := (List.getElem?_eq_some_iff.1 h7)
      have hmod : ((es.map mkE).modify j fun e => { key := .int .i64 k, val := e.val, born := e.born }) = es.map mkE := by
        apply List.ext_getElem?
        intro n
        rw [List.getElem?_modify]
        by_cases hjn : j = n
        · subst hjn; simp [h7, mkE]
        · simp [hjn]
      have hge : (es.map mkE)[j]? = some (mkE (k, s)) := by rw [List.getElem?_map, h7]; rfl
      simp [execOp, hx, hy, Instr.mapEntry, run_underlying hT, Go.MapKept.run_getObj_map h2, hck, h6, h7, hst, hmod, mkE_key, mkE_born, Go.MapKept.run_setObj_map _ h2, World.putObj, goInt]
    · refine ⟨hcb, es, clock, j, k, .bool true, ?_, h7, h3.old h5⟩
      rw [hw]
      congr 2
      apply Array.ext'
      rw [Array.toList_modify]
      apply List.ext_getElem?
      intro n
      rw [List.getElem?_modify]
      by_cases hjn : j = n
      · subst hjn; simp [h7, mkE]
      · simp [hjn]
theorem l_gestore {s : Nat} (h : GOe S M c col w o t b s) (hc : c ≠ 0) (hb : o.bl[i]? = some b) (hx : ev f x = .map (some b)) (hy : ev f y = .int .i64 (s : Nat)) (hz : ev f z = .bool true)
    (kk : ∀ w', Keep c col w col w' → Still w w' → GO S M c col w' o t → WpL P m rd ops Kk rest f w') :
    WpL P m rd ops Kk (⟨none, .entryStore T x y z, tt, ps, af, none⟩ :: rest) f w := by
  obtain ⟨r, hr⟩ : ∃ r, t[i]? = some r := ⟨_, List.getElem?_eq_getElem (by rw [← h.len]; exact (List.getElem?_eq_some_iff.1 hb).1)⟩
  obtain ⟨hcb, es, clock, j, k, v, h2, h3, h4⟩ := (h.maps i b r hb hr).2 rfl
  have hlt := (Array.getElem?_eq_some_iff.1 h2).1
  have hge : (es.map mkE)[j]? = some (mkE (k, s)) := by rw [List.getElem?_map, h3]; rfl
  have hfi : ((es.map mkE).modify j fun e => { key := e.key, val := v, born := e.born }).findIdx? (fun e => (e.born : Int) == (s : Int)) = some j := by
    have hj := (List.getElem?_eq_some_iff.1 h3).1
    rw [List.findIdx?_eq_some_iff_getElem]
    have hb' : ∀ n (hn : n < ((es.map mkE).modify j fun e => { key := e.key, val := v, born := e.born }).length), (((es.map mkE).modify j fun e => { key := e.key, val := v, born := e.born })[n]'hn).born = (es[n]'(by simpa using hn)).2 := by
      intro n hn
      rw [List.getElem_modify]
      split <;> simp [mkE]
    refine ⟨by simpa using hj, ?_, fun n hn hs => ?_⟩
    · rw [hb']; have := List.getElem?_eq_some_iff.1 h3; obtain ⟨h5, h6⟩ := this; rw [h6]; simp
    · rw [hb'] at hs
      simp only [beq_iff_eq, Int.ofNat_inj] at hs
      have hn' : n < es.length := Nat.lt_trans hn hj
      have : n = j := (List.getElem?_inj (l := es.map (·.2)) (by rw [List.length_map]; exact hn') h4.born).1 (by
        rw [List.getElem?_map, List.getElem?_map, h3, List.getElem?_eq_getElem hn']; simp [hs])
      omega
  have hmod : (((es.map mkE).modify j fun e => { key := e.key, val := v, born := e.born }).modify j fun e => { key := e.key, val := .bool true, born := e.born }) = es.map mkE := by
    apply List.ext_getElem?
    intro n
    rw [List.getElem?_modify, List.getElem?_modify]
    by_cases hjn : j = n
    · subst hjn; simp [h3, mkE]
    · simp [hjn]
  have hst : Stay col w col (w.putObj b (.map (es.map mkE).toArray clock)) := fun k _ hk => ⟨hk, World.putObj_heap_other fun e => hc (by rw [← hcb, ← e]; exact hk)⟩
  have hput : GO S M c col (w.putObj b (.map (es.map mkE).toArray clock)) o t := by
    refine ⟨⟨h.box.1, ?_⟩, ?_, h.len, h.nd, h.sq, fun i2 b2 r2 k1 k2 => ?_⟩
    · rw [World.putObj_heap_other]
      · exact h.box.2
      · intro e
        have := h.box.2
        rw [e, h2] at this; cases this
    · obtain ⟨bs, h1, h5⟩ := h.row
      refine ⟨bs, h1.keep hst fun k hk => World.putObj_heap_other fun e => ?_, h5⟩
      subst e
      obtain ⟨fl, b2, k1, k2, rfl⟩ := h1
      have hb2 : b2 = [] := Rows.nb (r := Rep.mref) (fun h => And.right h) k2
      subst hb2
      rcases k1.2 with ⟨h, h0⟩ | ⟨g, cp, cur, hv, hb, hh, _⟩
      · have : (o.bl.map some).length = 0 := h0
        rw [List.length_map] at this
        have := (List.getElem?_eq_some_iff.1 ‹o.bl[i]? = some k›).1
        omega
      · rw [hv] at hk
        simp only [Value.ownBlock, Option.toList_some, List.append_nil, List.mem_singleton] at hk
        subst hk
        rw [h2] at hh; cases hh
    · by_cases he : b2 = b
      · subst he
        have hij : i2 = i := (List.getElem?_inj (List.getElem?_eq_some_iff.1 k1).1 h.nd).1 (k1.trans hb.symm)
        subst hij
        rw [hr] at k2; cases k2
        exact ⟨hcb, es, clock, World.putObj_heap_same hlt, h4⟩
      · exact ((h.maps i2 b2 r2 k1 k2).1 he).other he
  refine lu (w' := w.putObj b (.map (es.map mkE).toArray clock)) rfl ?_ (kk _ (Keep.put hcb) Still.put hput)
  simp [execOp, hx, hy, hz, Instr.entryStore, Go.MapKept.run_getObj_map h2, asInt, asIntOf, hfi, hmod, Go.MapKept.run_setObj_map _ h2, World.putObj]
end
end

/-- None, or what has something. -/
def optP {α : Type} (v : Value) (x : Option α) (F : α → Prop) : Prop := match x with | none => v = .pointer none | some d => F d
theorem optP_none {α : Type} {v : Value} {F : α → Prop} (h : optP v none F) : v = .pointer none := h
theorem optP_some {α : Type} {v : Value} {d : α} {F : α → Prop} (h : optP v (some d) F) : F d := h
theorem optP_of {α : Type} {v : Value} {d : α} {F : α → Prop} (h : F d) : optP v (some d) F := h
theorem optP_no {α : Type} {F : α → Prop} : optP (.pointer none) none F := rfl
section
variable {P : Program} {f : Fr} {w : World} {dst : Option Tmp} {t : Nat} {ps : String} {af : Array Edge} {x y : Operand} {T T' : TypeId}
theorem equal_ptr {a : Option Addr} (hT : ∃ e, P.underlying T = some (.pointer e)) (w : World) : (Op.equal T (.pointer a) (.pointer none)).run P w = .ok a.isNone w := by
  obtain ⟨e, hT⟩ := hT
  unfold Op.equal
  rw [show Op.maxDepth = 9999 + 1 from rfl]
  unfold Op.equalIn
  cases a <;> simp [run_underlying hT]
theorem r_eqlP0 (hT : ∃ e, P.underlying T = some (.pointer e)) (hx : ev f x = .pointer none) (hy : ev f y = .pointer none) : (execOp (ev f) ⟨dst, .binOp .eql T x y T', t, ps, af, none⟩).run P w = .ok (.value (.bool true)) w := by
  simp [execOp, hx, hy, eqGuard, binOp, equal_ptr hT]
theorem r_eqlP1 {a : Addr} (hT : ∃ e, P.underlying T = some (.pointer e)) (hx : ev f x = .pointer (some a)) (hy : ev f y = .pointer none) : (execOp (ev f) ⟨dst, .binOp .eql T x y T', t, ps, af, none⟩).run P w = .ok (.value (.bool false)) w := by
  simp [execOp, hx, hy, eqGuard, binOp, equal_ptr hT]
end
/-- What there is of something, or nothing. -/
def optC {α β : Type} (x : Option α) (a : Option β) (f : α → Option β) : Option β := match x with | none => a | some y => f y
theorem optC_none {α β : Type} {a : Option β} {f : α → Option β} {r : Option β} (h : optC none a f = r) : a = r := h
theorem optC_some {α β : Type} {y : α} {a : Option β} {f : α → Option β} {r : Option β} (h : optC (some y) a f = r) : f y = r := h
section
variable {e : TypeId} {col : Col} {w : World} {P : Program} {m : Nat} {rd : Option Nat} {f : Fr} {ops : Array Oper} {K : Fr → World → Prop} {rest : List Oper} {t : Nat} {p : String} {af : Array Edge} {x y : Operand}
end
end Go.Proofs.Ytgkofjmeopbkbaa
