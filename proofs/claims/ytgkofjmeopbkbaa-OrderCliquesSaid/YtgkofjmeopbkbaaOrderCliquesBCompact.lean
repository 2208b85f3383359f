/-
  slices.Compact of numbers: the library's contract in the words of the printed proofs.
-/
import Derived.Test.YtgkofjmeopbkbaaOrderCliquesBDelete
set_option linter.unusedVariables false
namespace Go.Proofs.Ytgkofjmeopbkbaa
open Go Go.RowKit

theorem compact_len (xs : List Int) : (Go.Lib.compact xs).length ≤ xs.length := by
  unfold Go.Lib.compact Go.Lib.compactUpTo
  rw [List.length_map]
  exact Nat.le_trans (List.length_filter_le _ _) (by simp)
def lib_compact (xs : List Int) : Option (List Int) := chk (xs.length < 4611686018427387904) (some (Go.Lib.compact xs))
theorem c_compact (c : Nat) (hc : c ≠ 0) (col : Col) (w0 : World) (a0 : Option Addr) (cap0 : Nat) (xs : List Int) (h0 : Own (Rep.int .i64) 3 c col w0 a0 cap0 xs) (r : List Int) (hm : lib_compact xs = some r) :
    Calls Try.prog 82 #[.slice a0 xs.length cap0] w0 fun e w' => ∃ (col' : Col) (a : Option Addr) (cap : Nat), e = .returned (.slice a r.length cap) ∧ KeepP (p1 c) col w0 col' w' ∧ Own (Rep.int .i64) 3 c col' w' a cap r := by
  obtain ⟨b4, hm⟩ := chk_some hm
  cases hm
  rcases own_cells h0 with ⟨rfl, rfl, rfl⟩ | ⟨g, cur, rfl, hg, hh, r1, r2, r3, r4⟩
  · have h := Try.slices_Compact_int_empty none 0 w0
    refine h.mono ?_
    rintro e w' ⟨rfl, rfl⟩
    exact ⟨col, none, 0, rfl, KeepP.refl _ _ _, Own.nil⟩
  · have h := Try.slices_Compact_int_cells g 0 xs.length cap0 xs w0 (Nat.le_refl _) (by omega) r1 (fun k hk => cells_getD hh r4 k hk) (fun k hk => by simp [World.frozen?, hh])
    refine h.mono ?_
    rintro e w' ⟨rfl, q, rfl⟩
    rw [List.take_length]
    have hl := compact_len xs
    have h2 := own_rowset c col w0 g cap0 cur q (Go.Lib.compact xs ++ List.replicate (xs.length - (Go.Lib.compact xs).length) 0) (Go.Lib.compact xs) hg hh (by rw [List.length_append, List.length_replicate]; omega) r2 r3 (Go.Lib.compact xs).length (by rw [List.take_left])
    exact ⟨col, _, cap0, rfl, h2.1, h2.2⟩
end Go.Proofs.Ytgkofjmeopbkbaa
