/-
  The builtin copy, of one's own row of yes and no from another one.
-/
import Derived.Test.YtgkofjmeopbkbaaOrderCliquesBGraph
import Derived.Laws.CopyRow
set_option linter.unusedVariables false
namespace Go.Proofs.Ytgkofjmeopbkbaa
open Go Go.RowKit

section
variable {e e2 : TypeId} {c c2 : Nat} {col : Col} {w : World} {a a2 : Option Addr} {cap cap2 : Nat} {xs ys : List Bool}
theorem rows_bool : ∀ {xs : List Bool} {fl : List Value} {bs : List Nat}, Rows Rep.bool col w fl xs bs → fl = xs.map Value.bool ∧ bs = []
  | [], _, _, h => h
  | x :: xs, _, _, ⟨cs, fl', b1, b2, h, hb, h1, h2⟩ => by
    obtain ⟨rfl, rfl⟩ := rows_bool h2
    obtain ⟨rfl, rfl⟩ := h1
    exact ⟨h, hb⟩
theorem rows_of_bool : ∀ xs : List Bool, Rows Rep.bool col w (xs.map Value.bool) xs []
  | [] => ⟨rfl, rfl⟩
  | x :: xs => ⟨[.bool x], xs.map Value.bool, [], [], rfl, rfl, ⟨rfl, rfl⟩, rows_of_bool xs⟩
theorem ownB_of {g : Nat} {cur : Array Value} (hg : col g = c) (hh : w.heap[g]? = some (.cells cur e (0, 0))) (h1 : xs.length ≤ cap) (h2 : cap ≤ maxLen) (h3 : cur.size = cap) (h4 : cur.toList.take xs.length = xs.map Value.bool) :
    Own Rep.bool e c col w (some ⟨g, 0, none⟩) cap xs := by
  refine ⟨_, ⟨_, [], ⟨?_, .inr ⟨g, cap, cur, rfl, Nat.zero_le _, hh, h1, h2, ?_, ?_⟩⟩, rows_of_bool xs, rfl⟩, ?_⟩
  · rw [List.length_map, show Rep.bool.sz = 1 from rfl, Nat.mul_one]
  · rw [h3, show Rep.bool.sz = 1 from rfl, Nat.mul_one]
  · rw [show Rep.bool.sz = 1 from rfl, Nat.mul_one]; exact h4
  · refine ⟨by simp [Value.ownBlock], fun x hx => ?_⟩
    simp only [Value.ownBlock, Option.toList_some, List.append_nil, List.mem_singleton] at hx
    subst hx; exact hg
theorem ownB_cells (h : Own Rep.bool e c col w a cap xs) :
    (a = none ∧ cap = 0 ∧ xs = []) ∨ ∃ g cur, a = some ⟨g, 0, none⟩ ∧ col g = c ∧ w.heap[g]? = some (.cells cur e (0, 0)) ∧ xs.length ≤ cap ∧ cap ≤ maxLen ∧ cur.size = cap ∧ cur.toList.take xs.length = xs.map Value.bool := by
  obtain ⟨bs, ⟨fl, b2, h1, h2, rfl⟩, h3⟩ := h
  obtain ⟨rfl, rfl⟩ := rows_bool h2
  rcases h1.2 with ⟨hv, hl⟩ | ⟨g, cp, cur, hv, hg, hbk, hc1, hc2, hc3, ht⟩
  · simp only [Value.slice.injEq] at hv
    exact .inl ⟨hv.1, hv.2.2, List.length_eq_zero_iff.1 hl⟩
  · simp only [Value.slice.injEq] at hv
    obtain ⟨rfl, _, rfl⟩ := hv
    refine .inr ⟨g, cur, rfl, h3.2 g (by simp [Value.ownBlock]), hbk, hc1, hc2, ?_, ?_⟩
    · rw [hc3, show Rep.bool.sz = 1 from rfl, Nat.mul_one]
    · rw [show Rep.bool.sz = 1 from rfl, Nat.mul_one] at ht; exact ht
end

section
variable {P : Program} {m : Nat} {rd : Option Nat} {f : Fr} {ops : Array Oper} {K : Fr → World → Prop} {rest : List Oper} {d t : Nat} {p : String} {af : Array Edge} {x y : Operand} {w : World} {col : Col}
theorem l_copyB {T e e2 c c2 cap cap2 : Nat} {a a2 : Option Addr} {xs ys : List Bool} (h : Own Rep.bool e c col w a cap xs) (h2 : Own Rep.bool e2 c2 col w a2 cap2 ys) (hd : Nat.blt d m = true) (hT : P.underlying T = some (.slice e)) (hs : (P.info? e).map (·.size) = some 1)
    (hx : ev f x = .slice a xs.length cap) (hy : ev f y = .slice a2 ys.length cap2)
    (k : ∀ w', Keep c col w col w' → Still w w' → Own Rep.bool e c col w' a cap (ys.take xs.length ++ xs.drop ys.length) → WpL P m rd ops K rest (upd f d (.int .i64 ((Nat.min ys.length xs.length : Nat) : Int))) w') :
    WpL P m rd ops K (⟨some d, .call { callee := .builtin .copy, args := #[x, y], argTypes := #[T, T] }, t, p, af, none⟩ :: rest) f w := by
  have key : ∃ w', (Builtin.copy_ #[T, T] t #[.slice a xs.length cap, .slice a2 ys.length cap2]).run P w = .ok (goInt ((Nat.min ys.length xs.length : Nat) : Int)) w' ∧ Keep c col w col w' ∧ Still w w' ∧ Own Rep.bool e c col w' a cap (ys.take xs.length ++ xs.drop ys.length) := by
    have none_ : Nat.min ys.length xs.length = 0 → ys.take xs.length ++ xs.drop ys.length = xs → ∃ w', (Builtin.copy_ #[T, T] t #[.slice a xs.length cap, .slice a2 ys.length cap2]).run P w = .ok (goInt ((Nat.min ys.length xs.length : Nat) : Int)) w' ∧ Keep c col w col w' ∧ Still w w' ∧ Own Rep.bool e c col w' a cap (ys.take xs.length ++ xs.drop ys.length) := fun h0 he => by
      rw [he, h0]
      exact ⟨w, Go.run_copy_none w T T t e a a2 xs.length cap ys.length cap2 hT hs h0, ⟨Nat.le_refl _, fun _ _ => rfl, fun _ _ _ => rfl⟩, ⟨rfl, rfl, rfl⟩, h⟩
    rcases ownB_cells h with ⟨rfl, rfl, rfl⟩ | ⟨g, cur, rfl, hg, hh, r1, r2, r3, r4⟩
    · exact none_ (Nat.min_zero _) (by simp)
    rcases ownB_cells h2 with ⟨rfl, rfl, rfl⟩ | ⟨g2, cur2, rfl, hg2, hh2, s1, s2, s3, s4⟩
    · exact none_ (Nat.zero_min _) (by simp)
    have hct := Array.length_toList (xs := cur)
    have hlen : ((ys.take xs.length).map Value.bool).length = Nat.min ys.length xs.length := by rw [List.length_map, List.length_take]; exact Nat.min_comm _ _
    have hrun := run_copy_row (P := P) w T T t e g 0 xs.length cap ⟨g2, 0, none⟩ ys.length cap2 cur e ((ys.take xs.length).map Value.bool) hT hs hh hlen (fun j v hj => by
      rw [List.map_take, List.getElem?_take] at hj
      split at hj
      · rw [← s4, List.getElem?_take] at hj
        split at hj
        · rw [add_mk, Nat.zero_add]
          simp only [World.cell?, hh2]
          simpa using hj
        · cases hj
      · cases hj) (by rw [hlen]; have := Nat.min_le_right ys.length xs.length; show 0 + min ys.length xs.length ≤ _; omega) (fun v hv => by
      obtain ⟨_, _, rfl⟩ := List.mem_map.1 hv; rfl)
    rw [hlen] at hrun
    refine ⟨_, hrun, ⟨by simp [World.setRow], fun _ _ => rfl, fun k _ hk => setRow_other w g k _ (fun e => hk (by rw [e, hg]))⟩, ⟨rfl, rfl, rfl⟩, ?_⟩
    have hl2 : (ys.take xs.length ++ xs.drop ys.length).length = xs.length := by rw [List.length_append, List.length_take, List.length_drop]; omega
    refine ownB_of hg (setRow_heap w g cur _ e _ hh) (by rw [hl2]; exact r1) r2 ?_ ?_
    · rw [List.size_toArray]
      simp only [List.length_append, List.length_take, List.length_drop, List.length_map]
      show _ = cap
      have : (Nat.min ys.length xs.length) = min ys.length xs.length := rfl
      omega
    · rw [List.toList_toArray, hl2, List.take_zero, List.nil_append, Nat.zero_add, List.map_append]
      have e1 : (cur.toList.drop (Nat.min ys.length xs.length)).take (xs.length - Nat.min ys.length xs.length) = (xs.drop ys.length).map Value.bool := by
        rw [← List.drop_take, r4, List.map_drop]
        show List.drop (min ys.length xs.length) _ = _
        by_cases hle : ys.length ≤ xs.length
        · rw [Nat.min_eq_left hle]
        · rw [Nat.min_eq_right (by omega), List.drop_eq_nil_of_le (by rw [List.length_map]; exact Nat.le_refl _), List.drop_eq_nil_of_le (by rw [List.length_map]; omega)]
      rw [List.take_append, List.take_of_length_le (by rw [hlen]; exact Nat.min_le_right _ _), hlen, e1]
  obtain ⟨w', k1, k2, k3, k4⟩ := key
  have hr : (execOp (ev f) ⟨some d, .call { callee := .builtin .copy, args := #[x, y], argTypes := #[T, T] }, t, p, af, none⟩).run P w = .ok (.value (.int .i64 ((Nat.min ys.length xs.length : Nat) : Int))) w' := by
    simp [execOp, resolve, invoke, builtin, hx, hy, k1, goInt]
  exact lv hd rfl hr (k _ k2 k3 k4)
end
end Go.Proofs.Ytgkofjmeopbkbaa
