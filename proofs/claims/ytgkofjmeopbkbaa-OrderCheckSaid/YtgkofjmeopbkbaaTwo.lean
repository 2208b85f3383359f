/-
  Two rows of rows, of which each shares its rows with the other: while they are made ('zrow': rows that stay, their blocks told), and what is known of both then. Over any program.
-/
import Derived.Test.YtgkofjmeopbkbaaCell
namespace Go.Proofs.Ytgkofjmeopbkbaa
open Go Go.RowKit

section
variable {α : Type} {r : Rep α} {e e' : TypeId} {c i : Nat} {col col' : Col} {w w' : World} {a a' : Option Addr} {cap cap' b : Nat} {xs : List α} {bs : List Nat}

/-- A row that stays, its block told: data are its list and its block. -/
def Rep.zrow (e : TypeId) (r : Rep α) : Rep (List α × Nat) :=
  ⟨1, by decide, fun col w cs x bs => bs = [] ∧ col x.2 = 0 ∧ ∃ cap, cs = [.slice (some ⟨x.2, 0, none⟩) x.1.length cap] ∧ RowB r e col w (some ⟨x.2, 0, none⟩) cap x.1 [x.2],
    fun ⟨_, _, _, h, _⟩ => by rw [h]; rfl, fun ⟨_, _, _, h, _⟩ => by rw [h]; simp [Value.oneCell'], fun ⟨h, _⟩ => by rw [h]; simp,
    fun ⟨h1, h2, cap, h3, h4⟩ hk _ => by
      have hlt := h4.lt _ (List.mem_singleton.2 rfl)
      exact ⟨h1, (hk _ hlt h2).1, cap, h3, h4.keep hk fun b hb => by rw [List.mem_singleton] at hb; subst hb; exact (hk _ hlt h2).2⟩⟩
theorem NB.zrow : NB (Rep.zrow e r) := fun h => h.1
theorem Rows.flatC (hf : r.flat) : ∀ {xs : List α} {fl : List Value} {bs : List Nat}, Rows r col w fl xs bs → Rows r col' w fl xs bs
  | [], _, _, h => h
  | _ :: _, _, _, ⟨cs, fl', b1, b2, h, hb, h1, h2⟩ => ⟨cs, fl', b1, b2, h, hb, hf h1 fun _ _ => rfl, Rows.flatC hf h2⟩
theorem RowB.flatC (hf : r.flat) (h : RowB r e col w a cap xs bs) : RowB r e col' w a cap xs bs := by
  obtain ⟨fl, b2, h1, h2, h3⟩ := h
  exact ⟨fl, b2, h1, h2.flatC hf, h3⟩
theorem RowB.oneB (hn : NB r) (h : RowB r e col w (some ⟨b, 0, none⟩) cap xs bs) : bs = [b] := by
  obtain ⟨fl, b2, h1, h2, rfl⟩ := h
  rw [Rows.nb hn h2]; rfl
/-- An owned row that has something: where it lies. -/
theorem Own.zb (h : Own r e c col w a cap xs) (hn : xs ≠ []) (hnb : NB r) : ∃ b, a = some ⟨b, 0, none⟩ ∧ col b = c ∧ RowB r e col w (some ⟨b, 0, none⟩) cap xs [b] := by
  obtain ⟨bs, h1, h2⟩ := h
  obtain ⟨fl, b2, k1, k2, k3⟩ := id h1
  rcases k1.2 with ⟨h, h0⟩ | ⟨g, cp, cur, hv, hb, hh, _⟩
  · exact absurd (List.length_eq_zero_iff.1 h0) hn
  · simp only [Value.slice.injEq] at hv
    obtain ⟨rfl, _, _⟩ := hv
    obtain rfl := h1.oneB hnb
    exact ⟨g, rfl, h2.2 g (by simp), h1⟩
theorem zrd (h : RowB r e col w (some ⟨b, 0, none⟩) cap xs [b]) (hc : col b = 0) : (Rep.zrow e r).rd col w [.slice (some ⟨b, 0, none⟩) xs.length cap] (xs, b) [] := ⟨rfl, hc, cap, rfl, h⟩
theorem zrdTake (hnb : NB r) (h : (Rep.zrow e r).rd col w [.slice (some ⟨b, 0, none⟩) xs.length cap] (xs, b) []) (k : Nat) : (Rep.zrow e r).rd col w [.slice (some ⟨b, 0, none⟩) (xs.take k).length cap] (xs.take k, b) [] := by
  obtain ⟨_, h2, cp, h3, h4⟩ := h
  simp only [List.cons.injEq, Value.slice.injEq, and_true] at h3
  obtain ⟨_, _, rfl⟩ := h3
  obtain ⟨b', _, _, h5⟩ := h4.take k
  obtain rfl := h5.oneB hnb
  exact ⟨rfl, h2, cap, rfl, h5⟩
theorem Rows.zcol : ∀ {Z : List (List α × Nat)} {fl : List Value} {bs : List Nat}, Rows (Rep.zrow e r) col w fl Z bs → ∀ x ∈ Z.map (·.2), col x = 0
  | [], _, _, _, x, hx => by simp at hx
  | z :: Z, _, _, ⟨_, _, _, _, _, _, h1, h2⟩, x, hx => by
    rw [List.map_cons, List.mem_cons] at hx
    rcases hx with rfl | hx
    · exact h1.2.1
    · exact Rows.zcol h2 x hx
theorem Rows.ofZ (hf : r.flat) : ∀ {Z : List (List α × Nat)} {fl : List Value} {bs : List Nat}, Rows (Rep.zrow e r) col w fl Z bs → Rows (Rep.row e r) col' w fl (Z.map (·.1)) (Z.map (·.2))
  | [], _, _, h => ⟨h.1, rfl⟩
  | z :: Z, _, _, ⟨cs, fl', _, _, h, _, ⟨_, _, cap, h3, h4⟩, h2⟩ => ⟨cs, fl', [z.2], Z.map (·.2), h, rfl, ⟨some ⟨z.2, 0, none⟩, cap, h3, h4.flatC hf⟩, Rows.ofZ hf h2⟩
theorem Own.zcol {cA : Nat} {Z : List (List α × Nat)} (h : Own (Rep.zrow e r) e' cA col w a cap Z) : ∀ x ∈ Z.map (·.2), col x = 0 := by
  obtain ⟨bs, ⟨fl, b2, h1, h2, _⟩, _⟩ := h
  exact h2.zcol
/-- Rows that stayed, each block once: owned from now on. -/
theorem Own.ofZ {cA : Nat} {Z : List (List α × Nat)} (hf : r.flat) (h : Own (Rep.zrow e r) e' cA col w a cap Z) (hA : cA ≠ 0) (hnd : (Z.map (·.2)).Nodup) (hB : ∀ x ∈ Z.map (·.2), col' x = c) (hO : ∀ k, col k = cA → col' k = c) :
    Own (Rep.row e r) e' c col' w a cap (Z.map (·.1)) := by
  obtain ⟨bs, ⟨fl, b2, h1, h2, rfl⟩, hm⟩ := h
  obtain rfl := Rows.nb NB.zrow h2
  rw [List.append_nil] at hm
  have hz := h2.zcol
  refine ⟨(Value.slice a (Z.map (·.1)).length cap).ownBlock.toList ++ Z.map (·.2), ⟨fl, Z.map (·.2), by rw [List.length_map]; exact h1, h2.ofZ hf, rfl⟩, ?_, ?_⟩
  · rw [List.length_map, List.nodup_append]
    refine ⟨hm.1, hnd, fun x hx y hy he => ?_⟩
    subst he
    exact hA ((hm.2 x hx).symm.trans (hz x hy))
  · intro x hx
    rw [List.length_map] at hx
    rcases List.mem_append.1 hx with hx | hx
    · exact hO x (hm.2 x hx)
    · exact hB x hx
end

/-- What is known of two owned rows, which may share. -/
structure Two {α β : Type} (r : Rep α) (e : TypeId) (s : Rep β) (e' : TypeId) (c : Nat) (col : Col) (w : World) (a : Option Addr) (cap : Nat) (xs : List α) (a' : Option Addr) (cap' : Nat) (ys : List β) : Prop where
  old : Own r e c col w a cap xs
  new : Own s e' c col w a' cap' ys
section
variable {α β : Type} {r : Rep α} {s : Rep β} {e e' : TypeId} {c i : Nat} {col col' : Col} {w w' : World} {a a' : Option Addr} {cap cap' : Nat} {xs : List α} {ys : List β}
theorem Two.loc : Loc i (fun col w => Two r e s e' i col w a cap xs a' cap' ys) := fun ⟨h1, h2⟩ hs hk hh => ⟨Own.loc h1 hs hk hh, Own.loc h2 hs hk hh⟩
theorem Two.kp (h : Two r e s e' i col w a cap xs a' cap' ys) (hk : Keep c col w col' w') (hc : c ≠ 0) (hi : i ≠ c) : Two r e s e' i col' w' a cap xs a' cap' ys := Two.loc.kp h hk hc hi
theorem Two.gr (h : Two r e s e' i col w a cap xs a' cap' ys) (hg : Grow col w col' w') : Two r e s e' i col' w' a cap xs a' cap' ys := Two.loc.gr h hg
theorem Two.kpp {p : Nat → Bool} (h : Two r e s e' i col w a cap xs a' cap' ys) (hk : KeepP p col w col' w') (h0 : p 0 = false) (hi : p i = false) : Two r e s e' i col' w' a cap xs a' cap' ys := Two.loc.kpp h hk h0 hi
theorem Two.froz (c : Nat) (h : Two r e s e' i col w a cap xs a' cap' ys) (hi : i ≠ c) : Two r e s e' i (frC c col) w a cap xs a' cap' ys := Two.loc.froz c h hi
theorem Two.recol (c d : Nat) (hc : i ≠ c ∧ c ≠ 0) (h : Two r e s e' i col w a cap xs a' cap' ys) : Two r e s e' i (rcC c d col) w a cap xs a' cap' ys := Two.loc.recol c d hc h
theorem Two.recolSelf (d : Nat) (hc : c ≠ 0) (h : Two r e s e' c col w a cap xs a' cap' ys) : Two r e s e' d (rcC c d col) w a cap xs a' cap' ys := ⟨h.1.recolSelf d hc, h.2.recolSelf d hc⟩
end

/-! ### elements of which nothing is known, or a row that stays -/
section
variable {α : Type} {r : Rep α} {col : Col} {w : World} {cs : List Value} {xs : List α} {bs : List Nat} {v : Value}
def Rep.opt (r : Rep α) : Rep (Option (List α)) :=
  ⟨1, by decide, fun col w cs x bs => bs = [] ∧ ∃ v, cs = [v] ∧ v.oneCell' = true ∧ ∀ xs, x = some xs → ∃ a cap, v = .slice a xs.length cap ∧ Sl r col w a cap xs,
    fun ⟨_, _, h, _⟩ => by rw [h]; rfl, fun ⟨_, _, h, h1, _⟩ => by rw [h]; simpa using h1, fun ⟨h, _⟩ => by rw [h]; simp,
    fun ⟨h0, v, h1, h2, h3⟩ hk _ => ⟨h0, v, h1, h2, fun xs hx => by
      obtain ⟨a, cap, h4, h5⟩ := h3 xs hx
      exact ⟨a, cap, h4, h5.keep hk⟩⟩⟩
theorem rd_none (h : v.oneCell' = true) : (Rep.opt r).rd col w [v] none [] := ⟨rfl, v, rfl, h, fun _ h => by cases h⟩
theorem rd_some (h : (Rep.slice r).rd col w cs xs []) : (Rep.opt r).rd col w cs (some xs) [] := by
  obtain ⟨⟨a, cap, h1, h2⟩, _⟩ := h
  exact ⟨rfl, _, h1, rfl, fun ys hy => by cases hy; exact ⟨a, cap, rfl, h2⟩⟩
theorem rd_opt (h : (Rep.opt r).rd col w cs (some xs) bs) : ∃ a cap, cs = [.slice a xs.length cap] ∧ Sl r col w a cap xs := by
  obtain ⟨_, v, h1, _, h2⟩ := h
  obtain ⟨a, cap, h3, h4⟩ := h2 xs rfl
  exact ⟨a, cap, by rw [h1, h3], h4⟩
theorem Froz.opt : Froz (Rep.opt r) (Rep.opt r) := ⟨rfl, fun ⟨_, h⟩ _ => ⟨rfl, h⟩⟩
theorem NB.opt : NB (Rep.opt r) := fun h => h.1
end

/-! ### a function is none -/
section
variable {P : Program} {f : Fr} {w : World} {col : Col} {dst : Option Tmp} {t : Nat} {p : String} {af : Array Edge} {x : Operand} {T : TypeId} {Y : Type} {v : Value} {arr : Y → Col → World → List Value → Prop} {ys : List Y} {q : Nat → Bool} {yt : TypeId}
theorem r_eqlNilF (h : It P v arr ys q col w) (hT : ∃ a b c, P.underlying T = some (.func a b c)) (hx : ev f x = v) : (execOp (ev f) ⟨dst, .binOp .eql T x (.const .nilFunc) yt, t, p, af, none⟩).run P w = .ok (.value (.bool false)) w := by
  obtain ⟨gf, lb, rfl, _⟩ := h
  obtain ⟨a, b, c, hT⟩ := hT
  have he : ev f (.const .nilFunc) = .nilFunc := rfl
  have h1 : ∀ w, (Op.equal T (.func (.func gf) #[] lb.toArray) .nilFunc).run P w = .ok false w := by
    intro w
    unfold Op.equal
    rw [show Op.maxDepth = 9999 + 1 from rfl]
    unfold Op.equalIn
    simp [run_underlying hT]
  simp [execOp, he, hx, eqGuard, binOp, h1]
end

/-! ### what a round may turn -/
theorem pCo_p2 {c d : Nat} (h : (pCo c && pCo d) = true) : ∀ x, pCo x = false → p2 c d x = false := fun x hx => by
  rw [Bool.and_eq_true] at h
  exact p2_ne (fun e => by rw [e, h.1] at hx; cases hx) (fun e => by rw [e, h.2] at hx; cases hx)
theorem pCo_p1 {c : Nat} (h : pCo c = true) : ∀ x, pCo x = false → p1 c x = false := fun x hx => p1_ne fun e => by rw [e, h] at hx; cases hx
theorem pCo_pS {l : List Nat} (h : l.all pCo = true) : ∀ x, pCo x = false → pS l x = false := fun x hx => by
  rw [pS, List.any_eq_false]
  intro y hy he
  have := List.all_eq_true.1 h y hy
  rw [← Nat.eq_of_beq_eq_true he, hx] at this
  cases this
end Go.Proofs.Ytgkofjmeopbkbaa
