/-
  slices.Delete of numbers: the library's contract in the words of the printed proofs.
-/
import Derived.Test.YtgkofjmeopbkbaaOrderCliquesBInsert
set_option linter.unusedVariables false
namespace Go.Proofs.Ytgkofjmeopbkbaa
open Go Go.RowKit

/-- A row whose cells were written over. -/
theorem own_rowset (c : Nat) (col : Col) (w0 : World) (g cap0 : Nat) (cur : Array Value) (q : Nat) (ys r : List Int) (hg : col g = c) (hh : w0.heap[g]? = some (.cells cur 3 (0, 0))) (r1 : ys.length ≤ cap0) (r2 : cap0 ≤ maxLen) (r3 : cur.size = cap0) (k : Nat) (hr : ys.take k = r) :
    KeepP (p1 c) col w0 col ((w0.drewN q).setCells g 0 (ys.map (Value.int .i64))) ∧ Own (Rep.int .i64) 3 c col ((w0.drewN q).setCells g 0 (ys.map (Value.int .i64))) (some ⟨g, 0, none⟩) cap0 r := by
  have e1 := heap_setCells g (ys.map (Value.int .i64)) 0 (w0.drewN q) cur 3 hh (by rw [List.length_map]; omega)
  have hb1 := below0_setCells g (ys.map (Value.int .i64)) 0 (w0.drewN q)
  have hl : r.length ≤ ys.length := by rw [← hr, List.length_take]; omega
  refine ⟨⟨hb1.size, fun _ _ _ => rfl, fun k hk hp => ?_, ⟨hb1.os, hb1.tape, hb1.output⟩⟩, own_of_cells hg e1 (by omega) r2 ?_ ?_⟩
  · have hne : k ≠ g := fun e => by rw [e, hg, p1_self] at hp; cases hp
    rw [World.heap_setCells_other (w0.drewN q) g _ _ hk hne]; rfl
  · rw [List.size_toArray]
    have hct := Array.length_toList (xs := cur)
    simp only [List.length_append, List.length_take, List.length_drop, List.length_map]; omega
  · rw [List.toList_toArray, List.take_zero, List.nil_append, List.take_append_of_le_length (by rw [List.length_map]; omega), ← hr, List.length_take, ← List.map_take]
    congr 1
    by_cases hk : k ≤ ys.length
    · rw [Nat.min_eq_left hk]
    · rw [Nat.min_eq_right (by omega), List.take_length, List.take_of_length_le (by omega)]
theorem cells_getD {w : World} {g : Nat} {cur : Array Value} {xs : List Int} (hh : w.heap[g]? = some (.cells cur 3 (0, 0))) (h4 : cur.toList.take xs.length = xs.map (Value.int .i64)) (j : Nat) (hj : j < xs.length) : w.cell? ⟨g, 0 + j, none⟩ = some (.int .i64 (xs.getD j 0)) := by
  rw [Nat.zero_add]
  exact cells_at hh h4 j _ (by rw [List.getElem?_map, List.getElem?_eq_getElem hj, List.getD_eq_getElem?_getD, List.getElem?_eq_getElem hj]; rfl)

def lib_delete (xs : List Int) (i j : Int) : Option (List Int) := chk (0 ≤ i ∧ i ≤ j ∧ j ≤ (xs.length : Int) ∧ xs.length < 1048576) (some (xs.take i.toNat ++ xs.drop j.toNat))
theorem c_delete (c : Nat) (hc : c ≠ 0) (col : Col) (w0 : World) (a0 : Option Addr) (cap0 : Nat) (xs : List Int) (i j : Int) (h0 : Own (Rep.int .i64) 3 c col w0 a0 cap0 xs) (r : List Int) (hm : lib_delete xs i j = some r) :
    Calls Try.prog 104 #[.slice a0 xs.length cap0, .int .i64 i, .int .i64 j] w0 fun e w' => ∃ (col' : Col) (a : Option Addr) (cap : Nat), e = .returned (.slice a r.length cap) ∧ KeepP (p1 c) col w0 col' w' ∧ Own (Rep.int .i64) 3 c col' w' a cap r := by
  obtain ⟨⟨b1, b2, b3, b4⟩, hm⟩ := chk_some hm
  cases hm
  obtain ⟨i, rfl⟩ : ∃ k : Nat, i = (k : Int) := ⟨i.toNat, by omega⟩
  obtain ⟨j, rfl⟩ : ∃ k : Nat, j = (k : Int) := ⟨j.toNat, by omega⟩
  rw [Int.toNat_natCast, Int.toNat_natCast]
  rcases own_cells h0 with ⟨rfl, rfl, rfl⟩ | ⟨g, cur, rfl, hg, hh, r1, r2, r3, r4⟩
  · obtain rfl : j = 0 := by simpa using b3
    obtain rfl : i = 0 := by omega
    have h := Try.slices_Delete_int_empty none 0 w0
    refine h.mono ?_
    rintro e w' ⟨rfl, rfl⟩
    exact ⟨col, none, 0, rfl, KeepP.refl _ _ _, Own.nil⟩
  · have h := Try.slices_Delete_int_cells g 0 xs.length cap0 i j xs w0 (Nat.le_refl _) r1 (by simp only [maxLen] at r2; omega) (by omega) (by omega) (fun k hk => cells_getD hh r4 k hk) (fun k hk => by simp [World.frozen?, hh])
    refine h.mono ?_
    rintro e w' ⟨rfl, q, rfl⟩
    rw [List.take_length]
    have hl : (xs.take i ++ xs.drop j).length = xs.length - (j - i) := by rw [List.length_append, List.length_take, List.length_drop]; omega
    have h2 := own_rowset c col w0 g cap0 cur q (xs.take i ++ xs.drop j ++ List.replicate (j - i) 0) (xs.take i ++ xs.drop j) hg hh (by rw [List.length_append, hl, List.length_replicate]; omega) r2 r3 (xs.take i ++ xs.drop j).length (by rw [List.take_left])
    exact ⟨col, _, cap0, by rw [hl], h2.1, h2.2⟩
end Go.Proofs.Ytgkofjmeopbkbaa
