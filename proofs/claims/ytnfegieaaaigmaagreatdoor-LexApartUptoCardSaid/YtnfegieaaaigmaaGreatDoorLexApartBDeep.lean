/-
  Rows within rows: an element is taken out and put back; what is owned goes over into a row; a row and what was appended behind it. Over any program.
-/
import Derived.Test.YtnfegieaaaigmaaGreatDoorLexApartBOwnOps
namespace Go.Proofs.YtnfegieaaaigmaaGreatDoor
open Go Go.RowKit

section
variable {α : Type} {r : Rep α} {e c d c2 i : Nat} {col col' : Col} {w w' : World} {a a' : Option Addr} {cap cap' n : Nat} {xs ys zs : List α} {bs b1 b2 b3 : List Nat} {cs : List Value} {x : α}

theorem mine_app : Mine c col (b1 ++ b2) ↔ Mine c col b1 ∧ Mine c col b2 ∧ ∀ b ∈ b1, b ∉ b2 := by
 unfold Mine
 rw [List.nodup_append]
 constructor
 ·rintro ⟨⟨h1, h2, h3⟩, h4⟩
  exact ⟨⟨h1, fun b hb => h4 b (by simp [hb])⟩, ⟨h2, fun b hb => h4 b (by simp [hb])⟩, fun b hb hb' => h3 b hb b hb' rfl⟩
 ·rintro ⟨⟨h1, h4⟩, ⟨h2, h5⟩, h3⟩
  exact ⟨⟨h1, h2, fun b hb b' hb' e => h3 b hb (by rw [e]; exact hb')⟩, fun b hb => (List.mem_append.1 hb).elim (h4 b) (h5 b)⟩
theorem mine_ne (h1 : Mine c col b1) (h2 : Mine d col b2) (hne : c ≠ d) : ∀ b ∈ b1, b ∉ b2 := fun b hb hb' => hne (by rw [← h1.2 b hb, h2.2 b hb'])
section
variable {β : Type} {s : Rep β} {c1 cs2 : List Value} {y : β}
theorem Has.parts (h : Has (Rep.pair r s) c col w cs (x, y)) : ∃ c1 cs2, cs = c1 ++ cs2 ∧ Has r c col w c1 x ∧ Has s c col w cs2 y := by
 obtain ⟨bs, ⟨c1, cs2, b1, b2, rfl, rfl, h1, h2⟩, h3⟩ := h
 obtain ⟨m1, m2, _⟩ := mine_app.1 h3
 exact ⟨c1, cs2, rfl, ⟨b1, h1, m1⟩, ⟨b2, h2, m2⟩⟩
end
theorem Has.int {k : IntKind} {x : Int} (h : Has (Rep.int k) c col w cs x) : cs = [.int k x] := by obtain ⟨_, h, _⟩ := h; exact h.1
theorem Has.str {x : ByteArray} (h : Has Rep.str c col w cs x) : cs = [.string x] := by obtain ⟨_, h, _⟩ := h; exact h.1
def SrcC (r : Rep α) (c c2 : Nat) (col : Col) (w : World) (a : Option Addr) (ys : List α) : Prop := ∃ bs, Src r col w a ys bs ∧ Mine c2 col bs ∧ ((bs = [] ∧ c = c2) ∨ c ≠ c2 ∧ c2 ≠ 0)
def Ext (r : Rep α) (e c : Nat) (col : Col) (w : World) (a : Option Addr) (n cap : Nat) (a' : Option Addr) (cap' : Nat) (ys : List α) : Prop :=
 n ≤ ys.length ∧ ((a' = a ∧ cap' = cap ∧ Own r e c col w a cap ys) ∨ ∃ bs bs', RowB r e col w a cap (ys.take n) bs ∧ RowB r e col w a' cap' ys bs' ∧ Mine c col bs ∧ Mine c col bs' ∧ ∀ g ∈ (Value.slice a' ys.length cap').ownBlock.toList, g ∉ bs)

theorem Ext.loc : Loc i (fun col w => Ext r e i col w a n cap a' cap' ys) := by
 rintro col w col' w' ⟨hn, h⟩ hsz hs hk
 refine ⟨hn, ?_⟩
 rcases h with ⟨h1, h2, h3⟩ | ⟨bs, bs', h1, h2, h3, h4, h5⟩
 ·exact .inl ⟨h1, h2, Own.loc h3 hsz hs hk⟩
 ·exact .inr ⟨bs, bs', h1.keep hs fun b hb => (hk b (h1.lt b hb) (h3.2 b hb)).2, h2.keep hs fun b hb => (hk b (h2.lt b hb) (h4.2 b hb)).2, h3.loc h1.lt hk, h4.loc h2.lt hk, h5⟩
theorem Own.ext (h : Own r e c col w a cap xs) : Ext r e c col w a xs.length cap a cap xs := ⟨Nat.le_refl _, .inl ⟨rfl, rfl, h⟩⟩
theorem Ext.new (h : Ext r e c col w a n cap a' cap' ys) : Own r e c col w a' cap' ys := by
 rcases h.2 with ⟨rfl, rfl, h3⟩ | ⟨bs, bs', _, h2, _, h4, _⟩
 ·exact h3
 ·exact ⟨bs', h2, h4⟩

theorem Ext.append {P : Program} {f : Fr} {T t : Nat} {dst : Option Nat} {p : String} {af : Array Edge} {x y : Operand} {a2 : Option Addr} {cap2 sz bytes : Nat}
  (h : Ext r e c col w a n cap a' cap' ys) (hc : c ≠ 0) (h2 : SrcC r c c2 col w a2 zs) (hT : P.underlying T = some (.slice e)) (he : ElemOk P e sz bytes) (hsz : r.sz = sz) (hx : ev f x = .slice a' ys.length cap') (hy : ev f y = .slice a2 zs.length cap2)
  (hb : (ys.length + zs.length) * bytes ≤ 140737488355328) (hl : ys.length + zs.length ≤ maxLen) :
  ∃ a1 cap1 w' col', (execOp (ev f) ⟨dst, .call { callee := .builtin .append, args := #[x, y], argTypes := #[T, T] }, t, p, af, none⟩).run P w = .ok (.value (.slice a1 (ys ++ zs).length cap1)) w' ∧
   KeepP (p2 c c2) col w col' w' ∧ Ext r e c col' w' a n cap a1 cap1 (ys ++ zs) := by
 obtain ⟨hn, h⟩ := h
 obtain ⟨bz, hz1, hz2, hz3⟩ := h2
 -- what was appended: a row (its blocks bs'); the old one, beside it
 obtain ⟨bs', h1, hm, hold⟩ : ∃ bs', RowB r e col w a' cap' ys bs' ∧ Mine c col bs' ∧ ((a' = a ∧ cap' = cap) ∨ ∃ bs, RowB r e col w a cap (ys.take n) bs ∧ Mine c col bs ∧ ∀ g ∈ (Value.slice a' ys.length cap').ownBlock.toList, g ∉ bs) := by
  rcases h with ⟨q1, q2, bs', q3, q4⟩ | ⟨bs, bs', q1, q2, q3, q4, q5⟩
  ·exact ⟨bs', by rw [q1, q2]; exact q3, q4, .inl ⟨q1, q2⟩⟩
  ·exact ⟨bs', q2, q4, .inr ⟨bs, q1, q3, q5⟩⟩
 have hdis : ∀ b ∈ bs', b ∉ bz := fun b hb => by
  rcases hz3 with ⟨rfl, _⟩ | hz3
  ·simp
  ·exact mine_ne hm hz2 hz3.1 b hb
 have hc2 : c2 ≠ 0 := by
  rcases hz3 with ⟨_, rfl⟩ | hz3
  ·exact hc
  ·exact hz3.2
 obtain ⟨a1, cap1, w', gs, b2, k1, rfl, hgs, k3, k4, k5, k6, k7⟩ := h1.append (P := P) (t := t) (dst := dst) (p := p) (af := af) hm.1 (fun b hb => by rw [hm.2 b hb]; exact hc) hdis hz1 hT he hsz hx hy hb hl
 obtain ⟨mg, m2, mg2⟩ := mine_app.1 hm
 have hlen : (ys ++ zs).take n = ys.take n := List.take_append_of_le_length hn
 have hlen' : n ≤ (ys ++ zs).length := by rw [List.length_append]; omega
 have hlt : ∀ b ∈ b2 ++ bz, b < w.heap.size := fun b hb => by
  rcases List.mem_append.1 hb with hb | hb
  ·exact h1.lt b (by simp [hb])
  ·rcases hz1 with ⟨_, rfl⟩ | ⟨_, _, _, _, hr, _⟩
   ·simp at hb
   ·exact hr.lt b hb
 have hself : ∀ (col : Col) k, col k = c → rcC c2 c col k = c := fun col k hk => by
  by_cases hcc : c = c2
  ·subst hcc; exact recol_self hk
  ·rw [recol_ne (by rw [hk]; exact hcc)]; exact hk
 have hzc : ∀ col1 : Col, (∀ k, k < w.heap.size → col1 k = col k) → Mine c (rcC c2 c col1) (b2 ++ bz) := fun col1 hcol => by
  rw [mine_app]
  refine ⟨⟨m2.1, fun b hb => hself _ _ ?_⟩, ⟨hz2.1, fun b hb => recol_self ?_⟩, fun b hb => hdis b (by simp [hb])⟩
  ·rw [hcol b (hlt b (by simp [hb]))]; exact m2.2 b hb
  ·rw [hcol b (hlt b (by simp [hb]))]; exact hz2.2 b hb
 have hkeep : ∀ col1 : Col, (∀ k, k < w.heap.size → col1 k = col k) → KeepP (p2 c c2) col w (rcC c2 c col1) w' := fun col1 hcol =>
  ⟨k3, fun k hk hp => by
   simp only [p2, Bool.or_eq_false_iff] at hp
   have h8 : col k ≠ c2 := by intro he; rw [he] at hp; simp at hp
   rw [recol_ne (by rw [hcol k hk]; exact h8), hcol k hk],
  fun k hk hp => k4 k hk fun hg => by
   rw [mg.2 k hg] at hp; simp [p2] at hp, k5⟩
 have hold' : ∀ col1 : Col, (∀ k, k < w.heap.size → col1 k = col k) → ∀ bs, RowB r e col w a cap (ys.take n) bs → Mine c col bs → (∀ g ∈ gs, g ∉ bs) → RowB r e (rcC c2 c col1) w' a cap (ys.take n) bs ∧ Mine c (rcC c2 c col1) bs := fun col1 hcol bs q1 q2 q3 => by
  refine ⟨RowB.keep (col' := rcC c2 c col1) (q1.keep (col' := col1) (w' := w') (fun k hk h0 => ⟨(hcol k hk).trans h0, k4 k hk fun hg => ?_⟩) fun b hb => k4 b (q1.lt b hb) fun hg => q3 b hg hb) (Stay.recol c2 c hc2) fun _ _ => rfl, q2.1, fun b hb => hself _ _ (by rw [hcol b (q1.lt b hb)]; exact q2.2 b hb)⟩
  exact hc (by rw [← mg.2 k hg, h0])
 rcases k7 with ⟨rfl, rfl, k8⟩ | ⟨k8, k9, k10⟩
 ·-- in place
  refine ⟨_, _, w', rcC c2 c col, k1, hkeep col fun _ _ => rfl, hlen', ?_⟩
  have hnew : RowB r e (rcC c2 c col) w' a1 cap1 (ys ++ zs) (gs ++ (b2 ++ bz)) := k8.keep (Stay.recol c2 c hc2) fun _ _ => rfl
  have hmn : Mine c (rcC c2 c col) (gs ++ (b2 ++ bz)) := mine_app.2 ⟨⟨mg.1, fun b hb => hself _ _ (mg.2 b hb)⟩, hzc col fun _ _ => rfl, fun b hb hb' => by
   rcases List.mem_append.1 hb' with hb' | hb'
   ·exact mg2 b hb hb'
   ·exact hdis b (by simp [hb]) hb'⟩
  rcases hold with ⟨rfl, rfl⟩ | ⟨bs, q1, q2, q3⟩
  ·exact .inl ⟨rfl, rfl, _, hnew, hmn⟩
  ·obtain ⟨q4, q5⟩ := hold' col (fun _ _ => rfl) bs q1 q2 (by rw [hgs]; exact q3)
   refine .inr ⟨bs, _, by rw [hlen]; exact q4, hnew, q5, hmn, fun g hg => q3 g ?_⟩
   rcases a1 with _ | _
   ·simp [Value.ownBlock] at hg
   ·simpa [Value.ownBlock] using hg
 ·-- in a new block
  have hp : ∀ k, k < w.heap.size → paint col w c k = col k := fun k hk => by simp [paint, hk]
  refine ⟨_, _, w', rcC c2 c (paint col w c), k1, hkeep _ hp, hlen', .inr ?_⟩
  have hnew : RowB r e (rcC c2 c (paint col w c)) w' a1 cap1 (ys ++ zs) (w.heap.size :: (b2 ++ bz)) := (k10 _ hp).keep (Stay.recol c2 c hc2) fun _ _ => rfl
  have hmn : Mine c (rcC c2 c (paint col w c)) (w.heap.size :: (b2 ++ bz)) := by
   refine (mine_app (b1 := [w.heap.size])).2 ⟨⟨by simp, fun b hb => hself _ _ ?_⟩, hzc _ hp, fun b hb hb' => ?_⟩
   ·simp only [List.mem_singleton] at hb; subst hb; simp [paint]
   ·simp only [List.mem_singleton] at hb; subst hb; exact Nat.lt_irrefl _ (hlt _ hb')
  have hblk : ∀ g ∈ (Value.slice a1 (ys ++ zs).length cap1).ownBlock.toList, g = w.heap.size := by
   obtain ⟨_, _, _, _, h9⟩ := hnew
   intro g hg
   cases hq : (Value.slice a1 (ys ++ zs).length cap1).ownBlock with
   | none => rw [hq] at hg; simp at hg
   | some g' =>
    rw [hq] at hg h9
    simp only [Option.toList_some, List.cons_append, List.nil_append, List.cons.injEq] at h9
    simp only [Option.toList_some, List.mem_singleton] at hg
    rw [hg, h9.1]
  rcases hold with ⟨rfl, rfl⟩ | ⟨bs, q1, q2, q3⟩
  ·obtain ⟨bs, s1, _, s2⟩ := h1.take n
   have s3 := hm.sub s1
   refine ⟨bs, _, ?_, hnew, ⟨s3.1, fun b hb => hself _ _ (by rw [hp b (s2.lt b hb)]; exact s3.2 b hb)⟩, hmn, fun g hg hb => ?_⟩
   ·rw [hlen]
    exact RowB.keep (col' := rcC c2 c (paint col w c)) (s2.keep (col' := paint col w c) (w' := w') (fun k hk h0 => ⟨(hp k hk).trans h0, k9 k hk⟩) fun b hb => k9 b (s2.lt b hb)) (Stay.recol c2 c hc2) fun _ _ => rfl
   ·rw [hblk g hg] at hb; exact Nat.lt_irrefl _ (s2.lt _ hb)
  ·obtain ⟨q4, q5⟩ := hold' (paint col w c) hp bs q1 q2 (by rw [hgs]; exact q3)
   refine ⟨bs, _, by rw [hlen]; exact q4, hnew, q5, hmn, fun g hg hb => ?_⟩
   rw [hblk g hg] at hb; exact Nat.lt_irrefl _ (q1.lt _ hb)

theorem Own.appendM {P : Program} {f : Fr} {T t : Nat} {dst : Option Nat} {p : String} {af : Array Edge} {x y : Operand} {a2 : Option Addr} {cap2 sz bytes : Nat}
  (h : Own r e c col w a cap xs) (hc : c ≠ 0) (h2 : SrcC r c c2 col w a2 zs) (hT : P.underlying T = some (.slice e)) (he : ElemOk P e sz bytes) (hsz : r.sz = sz) (hx : ev f x = .slice a xs.length cap) (hy : ev f y = .slice a2 zs.length cap2)
  (hb : (xs.length + zs.length) * bytes ≤ 140737488355328) (hl : xs.length + zs.length ≤ maxLen) :
  ∃ a1 cap1 w' col', (execOp (ev f) ⟨dst, .call { callee := .builtin .append, args := #[x, y], argTypes := #[T, T] }, t, p, af, none⟩).run P w = .ok (.value (.slice a1 (xs ++ zs).length cap1)) w' ∧
   KeepP (p2 c c2) col w col' w' ∧ Own r e c col' w' a1 cap1 (xs ++ zs) := by
 obtain ⟨a1, cap1, w', col', h1, h3, h4⟩ := h.ext.append (t := t) (dst := dst) (p := p) (af := af) hc h2 hT he hsz hx hy hb hl
 exact ⟨a1, cap1, w', col', h1, h3, h4.new⟩

def Ex (r : Rep α) (e c : Nat) (col : Col) (w : World) (a : Option Addr) (cap : Nat) (xs : List α) (a' : Option Addr) (cap' : Nat) (ys : List α) : Prop := ys.take xs.length = xs ∧ Ext r e c col w a xs.length cap a' cap' ys
theorem Ex.loc : Loc i (fun col w => Ex r e i col w a cap xs a' cap' ys) := fun ⟨h1, h2⟩ hs hk hh => ⟨h1, Ext.loc h2 hs hk hh⟩
theorem Ex.kp (h : Ex r e i col w a cap xs a' cap' ys) (hk : Keep c col w col' w') (hc : c ≠ 0 := by decide) (hi : i ≠ c := by decide) : Ex r e i col' w' a cap xs a' cap' ys := Ex.loc.kp h hk hc hi
theorem Own.ex (h : Own r e c col w a cap xs) : Ex r e c col w a cap xs a cap xs := ⟨by simp, h.ext⟩
theorem Ex.new (h : Ex r e c col w a cap xs a' cap' ys) : Own r e c col w a' cap' ys := h.2.new
theorem Ex.append {P : Program} {f : Fr} {T t : Nat} {dst : Option Nat} {p : String} {af : Array Edge} {x y : Operand} {a2 : Option Addr} {cap2 sz bytes : Nat}
  (h : Ex r e c col w a cap xs a' cap' ys) (hc : c ≠ 0) (h2 : SrcC r c c2 col w a2 zs) (hT : P.underlying T = some (.slice e)) (he : ElemOk P e sz bytes) (hsz : r.sz = sz) (hx : ev f x = .slice a' ys.length cap') (hy : ev f y = .slice a2 zs.length cap2)
  (hb : (ys.length + zs.length) * bytes ≤ 140737488355328) (hl : ys.length + zs.length ≤ maxLen) :
  ∃ a1 cap1 w' col', (execOp (ev f) ⟨dst, .call { callee := .builtin .append, args := #[x, y], argTypes := #[T, T] }, t, p, af, none⟩).run P w = .ok (.value (.slice a1 (ys ++ zs).length cap1)) w' ∧
   KeepP (p2 c c2) col w col' w' ∧ Ex r e c col' w' a cap xs a1 cap1 (ys ++ zs) := by
 obtain ⟨a1, cap1, w', col', h1, h3, h4⟩ := h.2.append (t := t) (dst := dst) (p := p) (af := af) hc h2 hT he hsz hx hy hb hl
 exact ⟨a1, cap1, w', col', h1, h3, by rw [List.take_append_of_le_length h.2.1]; exact h.1, h4⟩

/-! readings of what stays, part by part -/
theorem rd_pair {β : Type} {s : Rep β} {x : α} {y : β} (h : (Rep.pair r s).rd col w cs (x, y) []) : ∃ c1 c2, cs = c1 ++ c2 ∧ r.rd col w c1 x [] ∧ s.rd col w c2 y [] := by
 obtain ⟨c1, c2, b1, b2, h1, h2, h3, h4⟩ := h
 have := congrArg List.length h2
 simp only [List.length_nil, List.length_append] at this
 obtain rfl : b1 = [] := List.eq_nil_of_length_eq_zero (by omega)
 obtain rfl : b2 = [] := List.eq_nil_of_length_eq_zero (by omega)
 exact ⟨c1, c2, h1, h3, h4⟩
theorem rd_pairI {β : Type} {s : Rep β} {c1 d1 : List Value} {x : α} {y : β} (h : r.rd col w c1 x []) (k : s.rd col w d1 y []) : (Rep.pair r s).rd col w (c1 ++ d1) (x, y) [] := ⟨c1, d1, [], [], rfl, rfl, h, k⟩
end
end Go.Proofs.YtnfegieaaaigmaaGreatDoor
