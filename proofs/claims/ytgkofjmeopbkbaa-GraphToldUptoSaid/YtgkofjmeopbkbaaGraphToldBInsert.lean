/-
  slices.Insert of one number: the library's contracts in the words of the printed proofs.
-/
import Derived.Test.YtgkofjmeopbkbaaGraphToldBGraph
import Derived.Test.YtgkofjmeopbkbaaGraphToldBLibSort
import Derived.Test.YtgkofjmeopbkbaaShelf
import Derived.Test.YtgkofjmeopbkbaaProg
import Derived.Lib.EndianMore
import Derived.Deep.Upon
import Derived.Shelf.Spec.SlicesInsertGrow
set_option linter.unusedVariables false
namespace Go.Proofs.Ytgkofjmeopbkbaa
open Go Go.RowKit

theorem heap_setCells (b : Nat) : ∀ (vs : List Value) (o : Nat) (w : World) (cur : Array Value) (t : TypeId), w.heap[b]? = some (.cells cur t (0, 0)) → o + vs.length ≤ cur.size →
    (w.setCells b o vs).heap[b]? = some (.cells (cur.toList.take o ++ vs ++ cur.toList.drop (o + vs.length)).toArray t (0, 0))
  | [], o, w, cur, t, h, _ => by
    rw [World.setCells, h, List.append_nil, List.length_nil, Nat.add_zero, List.take_append_drop]
  | v :: r, o, w, cur, t, h, hl => by
    rw [World.setCells, setCell_eq_setRow w b o cur t (0, 0) v h]
    rw [heap_setCells b r (o + 1) _ (cur.setIfInBounds o v) t (setRow_heap w b cur _ t _ h) (by simp only [List.length_cons] at hl; simp only [Array.size_setIfInBounds]; omega)]
    have e := list_seg_step cur.toList o v r (by simp only [List.length_cons] at hl; rw [Array.length_toList]; omega)
    rw [Array.toList_setIfInBounds, e, List.length_cons]
theorem below0_setCells (b : Nat) (vs : List Value) (o : Nat) (w : World) : Below 0 w (w.setCells b o vs) := Go.Lib.below_setCells_w (Nat.zero_le _) vs o w
/-- A row of numbers, by its cells. -/
theorem own_of_cells {c : Nat} {col : Col} {w : World} {g cap : Nat} {cur : Array Value} {xs : List Int} (hg : col g = c) (hh : w.heap[g]? = some (.cells cur 3 (0, 0))) (h1 : xs.length ≤ cap) (h2 : cap ≤ maxLen) (h3 : cur.size = cap) (h4 : cur.toList.take xs.length = xs.map (Value.int .i64)) :
    Own (Rep.int .i64) 3 c col w (some ⟨g, 0, none⟩) cap xs := by
  refine ⟨_, ⟨_, [], ⟨?_, .inr ⟨g, cap, cur, rfl, Nat.zero_le _, hh, h1, h2, ?_, ?_⟩⟩, rows_of_int xs, rfl⟩, ?_⟩
  · rw [List.length_map, show (Rep.int .i64).sz = 1 from rfl, Nat.mul_one]
  · rw [h3, show (Rep.int .i64).sz = 1 from rfl, Nat.mul_one]
  · rw [show (Rep.int .i64).sz = 1 from rfl, Nat.mul_one]; exact h4
  · refine ⟨by simp [Value.ownBlock], fun x hx => ?_⟩
    simp only [Value.ownBlock, Option.toList_some, List.append_nil, List.mem_singleton] at hx
    subst hx; exact hg
theorem own_cells {c : Nat} {col : Col} {w : World} {a : Option Addr} {cap : Nat} {xs : List Int} (h : Own (Rep.int .i64) 3 c col w a cap xs) :
    (a = none ∧ cap = 0 ∧ xs = []) ∨ ∃ g cur, a = some ⟨g, 0, none⟩ ∧ col g = c ∧ w.heap[g]? = some (.cells cur 3 (0, 0)) ∧ xs.length ≤ cap ∧ cap ≤ maxLen ∧ cur.size = cap ∧ cur.toList.take xs.length = xs.map (Value.int .i64) := by
  obtain ⟨bs, ⟨fl, b2, h1, h2, rfl⟩, h3⟩ := h
  obtain ⟨rfl, rfl⟩ := rows_int h2
  rcases h1.2 with ⟨hv, hl⟩ | ⟨g, cp, cur, hv, hg, hbk, hc1, hc2, hc3, ht⟩
  · simp only [Value.slice.injEq] at hv
    exact .inl ⟨hv.1, hv.2.2, List.length_eq_zero_iff.1 hl⟩
  · simp only [Value.slice.injEq] at hv
    obtain ⟨rfl, _, rfl⟩ := hv
    refine .inr ⟨g, cur, rfl, h3.2 g (by simp [Value.ownBlock]), hbk, hc1, hc2, ?_, ?_⟩
    · rw [hc3, show (Rep.int .i64).sz = 1 from rfl, Nat.mul_one]
    · rw [show (Rep.int .i64).sz = 1 from rfl, Nat.mul_one] at ht; exact ht
theorem cells_at {w : World} {g : Nat} {cur : Array Value} {t : TypeId} {cs : List Value} {n : Nat} (hh : w.heap[g]? = some (.cells cur t (0, 0))) (h4 : cur.toList.take n = cs) (j : Nat) (v : Value) (hj : cs[j]? = some v) : w.cell? ⟨g, j, none⟩ = some v := by
  rw [← h4, List.getElem?_take] at hj
  split at hj
  · simp only [World.cell?, hh]
    simpa using hj
  · cases hj

theorem shift_list {α : Type} (C A V : List α) (n i : Nat) (hA : C.take n = A) (hi : i < n) (hn : n + 1 ≤ C.length) (hV : V.length = 1) :
    ((C.take (i + 1) ++ A.drop i ++ C.drop (i + 1 + (A.drop i).length)).take i ++ V ++ (C.take (i + 1) ++ A.drop i ++ C.drop (i + 1 + (A.drop i).length)).drop (i + V.length)).take (n + 1) = A.take i ++ V ++ A.drop i := by
  have hAl : A.length = n := by rw [← hA, List.length_take]; omega
  have e1 : (C.take (i + 1) ++ A.drop i ++ C.drop (i + 1 + (A.drop i).length)).take i = A.take i := by
    rw [List.append_assoc, List.take_append_of_le_length (by rw [List.length_take]; omega), List.take_take, Nat.min_eq_left (by omega), ← hA, List.take_take, Nat.min_eq_left (by omega)]
  have e2 : (C.take (i + 1) ++ A.drop i ++ C.drop (i + 1 + (A.drop i).length)).drop (i + V.length) = A.drop i ++ C.drop (i + 1 + (A.drop i).length) := by
    rw [hV, List.append_assoc, List.drop_left' (by rw [List.length_take]; omega)]
  rw [e1, e2, ← List.append_assoc, List.take_left' (by simp only [List.length_append, List.length_take, List.length_drop, hV, hAl]; omega)]
theorem grow_list {α : Type} (A V Z : List α) (n i : Nat) (hA : A.length = n) (hi : i < n) (hn : n + 1 ≤ i + Z.length) (hV : V.length = 1) :
    ((((A.take i ++ Z).take i ++ V ++ (A.take i ++ Z).drop (i + V.length)).take (i + 1) ++ A.drop i ++ ((A.take i ++ Z).take i ++ V ++ (A.take i ++ Z).drop (i + V.length)).drop (i + 1 + (A.drop i).length))).take (n + 1) = A.take i ++ V ++ A.drop i := by
  have hl : (A.take i).length = i := by rw [List.length_take]; omega
  have e1 : (A.take i ++ Z).take i = A.take i := List.take_left' hl
  have e2 : (A.take i ++ V ++ (A.take i ++ Z).drop (i + V.length)).take (i + 1) = A.take i ++ V := List.take_left' (by rw [List.length_append, hl, hV])
  rw [e1, e2, List.take_left' (by rw [List.length_append, List.length_append, List.length_drop, hl, hV, hA]; omega)]

def lib_insert (xs : List Int) (i : Int) (v : List Int) : Option (List Int) := chk (0 ≤ i ∧ i ≤ (xs.length : Int) ∧ v.length = 1 ∧ xs.length < 1048576) (some (xs.take i.toNat ++ v ++ xs.drop i.toNat))

set_option maxRecDepth 100000 in
set_option maxHeartbeats 1000000 in
theorem c_insert (c c2 : Nat) (hc : c ≠ 0) (hc2 : c2 ≠ c) (col : Col) (w0 : World) (a0 : Option Addr) (cap0 : Nat) (xs : List Int) (i : Int) (a2 : Option Addr) (cap2 : Nat) (vs : List Int) (h0 : Own (Rep.int .i64) 3 c col w0 a0 cap0 xs) (h2 : Own (Rep.int .i64) 3 c2 col w0 a2 cap2 vs) (r : List Int) (hm : lib_insert xs i vs = some r) :
    Calls Try.prog 58 #[.slice a0 xs.length cap0, .int .i64 i, .slice a2 vs.length cap2] w0 fun e w' => ∃ (col' : Col) (a : Option Addr) (cap : Nat), e = .returned (.slice a r.length cap) ∧ KeepP (p1 c) col w0 col' w' ∧ Own (Rep.int .i64) 3 c col' w' a cap r := by
  obtain ⟨hb, hm⟩ := chk_some hm
  obtain ⟨b1, b2, b3, b4⟩ := hb
  cases hm
  obtain ⟨i, rfl⟩ : ∃ k : Nat, i = (k : Int) := ⟨i.toNat, by omega⟩
  rw [Int.toNat_natCast]
  have hin : i ≤ xs.length := by omega
  have one1 : ∀ ys : List Int, ∀ v ∈ ys.map (Value.int .i64), v.oneCell' = true := fun ys v hv => by
    obtain ⟨_, _, rfl⟩ := List.mem_map.1 hv; rfl
  rcases own_cells h2 with ⟨_, _, hn⟩ | ⟨gv, curv, rfl, hgv, hhv, v1, v2, v3, v4⟩
  · rw [hn] at b3; cases b3
  have hvs := cells_at hhv v4
  have hlen : (xs.take i ++ vs ++ xs.drop i).length = xs.length + 1 := by
    simp only [List.length_append, List.length_take, List.length_drop, b3]; omega
  rw [b3, hlen]
  -- at the end, no room
  have grown : ∀ (base : Option Addr) (cap : Nat), xs.length ≤ cap → cap < xs.length + 1 → (base = none → xs.length = 0) → (∀ a, base = some a → ∀ j v, (xs.map (Value.int .i64))[j]? = some v → w0.cell? (a.add j) = some v) →
      Calls Try.prog 58 #[.slice base xs.length cap, .int .i64 (xs.length : Int), .slice (some ⟨gv, 0, none⟩) 1 cap2] w0 fun e w' => ∃ (col' : Col) (a : Option Addr) (cap : Nat), e = .returned (.slice a (xs.length + 1) cap) ∧ KeepP (p1 c) col w0 col' w' ∧ Own (Rep.int .i64) 3 c col' w' a cap (xs ++ vs) := by
    intro base cap hnc hroom hnil hcs
    have h := Any2.slices_Insert_int_end_grow Try.insA base xs.length cap gv 0 1 cap2 (xs.map (Value.int .i64)) (vs.map (Value.int .i64)) w0 (by omega) hnc hroom (by omega) (by rw [List.length_map]) (by rw [List.length_map]; exact b3) hnil hcs (fun j v hj => by rw [Nat.zero_add]; exact hvs j v hj) (one1 vs)
    change Calls Try.prog 58 _ _ (fun e w' => e = .returned (.slice (some ⟨w0.heap.size, 0, none⟩) (xs.length + 1) (grownCap w0 (xs.length + 1) cap 3)) ∧ w' = w0.drew.alloc (.cells ((xs.map (Value.int .i64) ++ vs.map (Value.int .i64)).toArray ++ Builtin.zeroCells (Value.int .i64 0).cells (grownCap w0 (xs.length + 1) cap 3 - (xs.length + 1))) 3)) at h
    refine h.mono ?_
    rintro e w' ⟨rfl, rfl⟩
    have hg3 := grownCap_ge w0 (xs.length + 1) cap 3
    have hbel := ((Below.refl w0.heap.size w0).drew).alloc (Nat.le_refl _) (.cells ((xs.map (Value.int .i64) ++ vs.map (Value.int .i64)).toArray ++ Builtin.zeroCells (Value.int .i64 0).cells (grownCap w0 (xs.length + 1) cap 3 - (xs.length + 1))) 3)
    have hgr : Grow col w0 (paint col w0 c) _ := Grow.new hbel c
    have hl2 : (xs ++ vs).length = xs.length + 1 := by rw [List.length_append, b3]
    refine ⟨_, _, _, rfl, hgr.toP, own_of_cells (by simp [paint]) (heap_alloc_new w0.drew _) (by rw [hl2]; exact hg3) (grownCap_le_maxLen w0 _ _ _ (by simp only [maxLen]; omega)) ?_ ?_⟩
    · simp [Builtin.zeroCells, Value.cells, b3]; omega
    · rw [hl2]
      have : (xs.map (Value.int .i64) ++ vs.map (Value.int .i64)).length = xs.length + 1 := by simp [b3]
      rw [Array.toList_append, List.toList_toArray, ← this, List.take_append_of_le_length (Nat.le_refl _), List.take_length, List.map_append]
  have hend : i = xs.length → xs.take i ++ vs ++ xs.drop i = xs ++ vs := fun h => by rw [h, List.take_length, List.drop_length, List.append_nil]
  rcases own_cells h0 with ⟨rfl, rfl, rfl⟩ | ⟨g, cur, rfl, hg, hh, r1, r2, r3, r4⟩
  · -- nothing was there
    obtain rfl : i = 0 := by simpa using hin
    rw [hend rfl]
    exact grown none 0 (Nat.le_refl _) (by simp) (fun _ => rfl) (by intro a ha; cases ha)
  have hcs := cells_at hh r4
  have hgv2 : gv ≠ g := fun e => hc2 (by rw [← hgv, e, hg])
  have still : ∀ w' : World, Below 0 w0 w' → Still w0 w' := fun w' h => ⟨h.os, h.tape, h.output⟩
  by_cases hi : i = xs.length
  · rw [hend hi]
    subst hi
    by_cases hroom : xs.length + 1 ≤ cap0
    · have h := Any2.slices_Insert_int_end_room Try.insA g 0 xs.length cap0 gv 0 1 cap2 (vs.map (Value.int .i64)) w0 (by omega) hroom (by simp only [maxLen] at r2; omega) (by rw [List.length_map]; exact b3)
        (fun j hj => by simp only [World.cell?, hh]; rw [Array.getElem?_eq_getElem (by omega)]; rfl) (fun j hj => by simp [World.frozen?, hh]) (fun j v hj => by rw [Nat.zero_add]; exact hvs j v hj) (one1 vs)
      change Calls Try.prog 58 _ _ (fun e w' => e = .returned (.slice (some ⟨g, 0, none⟩) (xs.length + 1) cap0) ∧ w' = w0.setCells g (0 + xs.length) (vs.map (Value.int .i64))) at h
      refine h.mono ?_
      rintro e w' ⟨rfl, rfl⟩
      rw [Nat.zero_add]
      have hbel := below0_setCells g (vs.map (Value.int .i64)) xs.length w0
      have hl2 : (xs ++ vs).length = xs.length + 1 := by rw [List.length_append, b3]
      refine ⟨col, _, cap0, rfl, ⟨hbel.size, fun _ _ _ => rfl, fun k hk hp => World.heap_setCells_other w0 g _ _ hk fun e => ?_, still _ hbel⟩, own_of_cells hg (heap_setCells g _ _ w0 cur 3 hh (by rw [List.length_map, b3]; omega)) (by rw [hl2]; exact hroom) r2 ?_ ?_⟩
      · rw [e, hg, p1_self] at hp; cases hp
      · simp [b3]; omega
      · rw [hl2, List.toList_toArray, r4]
        have : (xs.map (Value.int .i64) ++ vs.map (Value.int .i64)).length = xs.length + 1 := by simp [b3]
        rw [← this, List.take_append_of_le_length (Nat.le_refl _), List.take_length, List.map_append]
    · exact grown _ cap0 r1 (by omega) (by intro h; cases h) (by
        intro a ha j v hj
        cases ha
        rw [add_mk, Nat.zero_add]; exact hcs j v hj)
  · have hi : i < xs.length := by omega
    have hdl : ((xs.map (Value.int .i64)).drop i).length = xs.length - i := by rw [List.length_drop, List.length_map]
    have hres : (xs.take i ++ vs ++ xs.drop i).map (Value.int .i64) = (xs.map (Value.int .i64)).take i ++ vs.map (Value.int .i64) ++ (xs.map (Value.int .i64)).drop i := by
      rw [List.map_append, List.map_append, List.map_take, List.map_drop]
    have hvl : (vs.map (Value.int .i64)).length = 1 := by rw [List.length_map]; exact b3
    by_cases hroom : xs.length + 1 ≤ cap0
    · have h := Any2.slices_Insert_int_shift Try.insA g 0 xs.length cap0 i gv 0 1 cap2 (xs.map (Value.int .i64)) (vs.map (Value.int .i64)) w0 hi (by omega) hroom (by simp only [maxLen] at r2; omega) hgv2 (by rw [List.length_map]) hvl
        (fun j v hj => by rw [Nat.zero_add]; exact hcs j v hj) (fun j hj => by simp only [World.cell?, hh]; rw [Array.getElem?_eq_getElem (by omega)]; rfl) (fun j hj => by simp [World.frozen?, hh]) (fun j v hj => by rw [Nat.zero_add]; exact hvs j v hj) (one1 xs) (one1 vs)
        3 3 curv.size cur.size (by simp [World.shape?, hhv]) (by simp [World.shape?, hh]) (by omega) (by simp [World.frozen?, hhv]) (by simp [World.frozen?, hhv])
      change Calls Try.prog 58 _ _ (fun e w' => e = .returned (.slice (some ⟨g, 0, none⟩) (xs.length + 1) cap0) ∧ w' = (w0.drew.setCells g (0 + (i + 1)) ((xs.map (Value.int .i64)).drop i)).setCells g (0 + i) (vs.map (Value.int .i64))) at h
      refine h.mono ?_
      rintro e w' ⟨rfl, rfl⟩
      rw [Nat.zero_add, Nat.zero_add]
      have e1 := heap_setCells g ((xs.map (Value.int .i64)).drop i) (i + 1) w0.drew cur 3 hh (by rw [hdl]; omega)
      have e2 := heap_setCells g (vs.map (Value.int .i64)) i _ _ 3 e1 (by
        rw [hvl, List.size_toArray]
        simp only [List.length_append, List.length_take, List.length_drop, Array.length_toList, hdl]; omega)
      have hb1 := below0_setCells g ((xs.map (Value.int .i64)).drop i) (i + 1) w0.drew
      have hb2 := below0_setCells g (vs.map (Value.int .i64)) i (w0.drew.setCells g (i + 1) ((xs.map (Value.int .i64)).drop i))
      have hbel : Below 0 w0 _ := ((Below.refl 0 w0).drew.trans hb1).trans hb2
      refine ⟨col, _, cap0, rfl, ⟨hbel.size, fun _ _ _ => rfl, fun k hk hp => ?_, still _ hbel⟩, own_of_cells hg e2 (by rw [hlen]; exact hroom) r2 ?_ ?_⟩
      · have hne : k ≠ g := fun e => by rw [e, hg, p1_self] at hp; cases hp
        rw [World.heap_setCells_other _ g _ _ (Nat.lt_of_lt_of_le hk hb1.size) hne, World.heap_setCells_other w0.drew g _ _ hk hne]; rfl
      · rw [List.size_toArray]
        have hct := Array.length_toList (xs := cur)
        simp only [List.length_append, List.length_take, List.length_drop, List.length_map, hvl]; omega
      · rw [hlen, List.toList_toArray, List.toList_toArray, hres]
        exact shift_list _ _ _ _ _ r4 hi (by have := Array.length_toList (xs := cur); omega) hvl
    · have h := Any2.slices_Insert_int_grow Try.insA g 0 xs.length cap0 i gv 0 1 cap2 (xs.map (Value.int .i64)) (vs.map (Value.int .i64)) w0 hi (by omega) r1 (by omega) (by omega) (by rw [List.length_map]) hvl
        (fun j v hj => by rw [Nat.zero_add]; exact hcs j v hj) (fun j v hj => by rw [Nat.zero_add]; exact hvs j v hj) (one1 xs) (one1 vs)
      change Calls Try.prog 58 _ _ (fun e w' => e = .returned (.slice (some ⟨w0.heap.size, 0, none⟩) (xs.length + 1) (grownCap w0 (xs.length + 1) cap0 3)) ∧ w' = (((w0.alloc (.cells (((xs.map (Value.int .i64)).take i).toArray ++ Builtin.zeroCells (Value.int .i64 0).cells (xs.length + 1 - i) ++ Builtin.zeroCells (Value.int .i64 0).cells (grownCap w0 (xs.length + 1) cap0 3 - (xs.length + 1))) 3)).drew.setCells w0.heap.size i (vs.map (Value.int .i64))).drew).setCells w0.heap.size (i + 1) ((xs.map (Value.int .i64)).drop i)) at h
      refine h.mono ?_
      rintro e w' ⟨rfl, rfl⟩
      have hg3 := grownCap_ge w0 (xs.length + 1) cap0 3
      generalize hG : grownCap w0 (xs.length + 1) cap0 3 = G at *
      generalize hZ : Builtin.zeroCells (Value.int .i64 0).cells (xs.length + 1 - i) ++ Builtin.zeroCells (Value.int .i64 0).cells (G - (xs.length + 1)) = Z
      have hZs : Z.size = G - i := by rw [← hZ]; simp [Builtin.zeroCells, Value.cells]; omega
      rw [Array.append_assoc, hZ]
      have e0 := heap_alloc_new w0 (.cells (((xs.map (Value.int .i64)).take i).toArray ++ Z) 3)
      have hsz : (((xs.map (Value.int .i64)).take i).toArray ++ Z).size = G := by
        rw [Array.size_append, hZs, List.size_toArray, List.length_take, List.length_map]; omega
      have e1 := heap_setCells w0.heap.size (vs.map (Value.int .i64)) i (w0.alloc (.cells (((xs.map (Value.int .i64)).take i).toArray ++ Z) 3)).drew _ 3 e0 (by rw [hsz, hvl]; omega)
      have e2 := heap_setCells w0.heap.size ((xs.map (Value.int .i64)).drop i) (i + 1) ((w0.alloc (.cells (((xs.map (Value.int .i64)).take i).toArray ++ Z) 3)).drew.setCells w0.heap.size i (vs.map (Value.int .i64))).drew _ 3 e1 (by
        rw [hdl, List.size_toArray]
        simp only [List.length_append, List.length_take, List.length_drop, Array.length_toList (xs := ((xs.map (Value.int .i64)).take i).toArray ++ Z), hsz, hvl]; omega)
      have ha := below_alloc w0 (.cells (((xs.map (Value.int .i64)).take i).toArray ++ Z) 3)
      have hbel : Below w0.heap.size w0 (((w0.alloc (.cells (((xs.map (Value.int .i64)).take i).toArray ++ Z) 3)).drew.setCells w0.heap.size i (vs.map (Value.int .i64))).drew.setCells w0.heap.size (i + 1) ((xs.map (Value.int .i64)).drop i)) :=
        ((ha.drew.trans (Go.Lib.below_setCells_w (Nat.le_refl _) _ _ _)).drew).trans (Go.Lib.below_setCells_w (Nat.le_refl _) _ _ _)
      have hgr : Grow col w0 (paint col w0 c) _ := Grow.new hbel c
      refine ⟨_, _, _, rfl, hgr.toP, own_of_cells (by simp [paint]) e2 (by rw [hlen]; exact hg3) (by rw [← hG]; exact grownCap_le_maxLen w0 _ _ _ (by simp only [maxLen]; omega)) ?_ ?_⟩
      · rw [List.size_toArray]
        simp only [List.length_append, List.length_take, List.length_drop, List.length_map, Array.length_toList (xs := ((xs.map (Value.int .i64)).take i).toArray ++ Z), hsz, hvl]; omega
      · rw [hlen, List.toList_toArray, List.toList_toArray, hres, Array.toList_append, List.toList_toArray]
        exact grow_list _ _ _ _ _ (by rw [List.length_map]) hi (by have := Array.length_toList (xs := Z); rw [this, hZs]; omega) hvl
end Go.Proofs.Ytgkofjmeopbkbaa
