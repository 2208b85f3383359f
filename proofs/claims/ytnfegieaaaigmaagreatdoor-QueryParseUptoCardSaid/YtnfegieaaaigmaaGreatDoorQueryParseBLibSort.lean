/-
  The library's sort of a row of integers: its contract in the words of the printed proofs. Over any program.
-/
import Derived.Test.YtnfegieaaaigmaaGreatDoorQueryParseBMore
import Derived.Sort.OwnSortedInts
namespace Go.Proofs.YtnfegieaaaigmaaGreatDoor
open Go Go.RowKit Go.Sort

theorem rows_int {k : IntKind} {col : Col} {w : World} : ∀ {xs : List Int} {fl : List Value} {bs : List Nat}, Rows (Rep.int k) col w fl xs bs → fl = xs.map (Value.int k) ∧ bs = []
 | [], _, _, h => h
 | x :: xs, _, _, ⟨cs, fl', b1, b2, h, hb, h1, h2⟩ => by
  have h1 : cs = [.int k x] ∧ b1 = [] := h1
  obtain ⟨h3, h4⟩ := rows_int h2
  rw [h, hb, h1.1, h1.2, h3, h4]; exact ⟨rfl, rfl⟩
end Go.Proofs.YtnfegieaaaigmaaGreatDoor
