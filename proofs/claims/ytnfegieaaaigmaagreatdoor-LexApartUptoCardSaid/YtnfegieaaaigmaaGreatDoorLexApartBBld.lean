/-
  Text that is written bit by bit: a row of bytes behind which a string's bytes are put; what the library's Builder checks. Over any program.
-/
import Derived.Test.YtnfegieaaaigmaaGreatDoorLexApartBMore
import Derived.Test.YtnfegieaaaigmaaGreatDoorLexApartBBrief
import Derived.Lib.AppendStr
import Derived.Lib.Builder
import Derived.Lib.UnsafeStr
set_option linter.unusedVariables false
namespace Go.Proofs.YtnfegieaaaigmaaGreatDoor
open Go Go.RowKit

def sints (s : ByteArray) : List Int := s.data.toList.map fun b => (b.toNat : Int)
theorem sints_len (s : ByteArray) : (sints s).length = s.size := by rw [sints, List.length_map, Array.length_toList]; rfl
theorem rows_ints {k : IntKind} {col : Col} {w : World} : ∀ (xs : List Int), Rows (Rep.int k) col w (xs.map (Value.int k)) xs []
 | [] => ⟨rfl, rfl⟩
 | x :: xs => ⟨[.int k x], _, [], [], rfl, rfl, ⟨rfl, rfl⟩, rows_ints xs⟩
theorem rows_ints_of {k : IntKind} {col : Col} {w : World} : ∀ {xs : List Int} {fl : List Value} {bs : List Nat}, Rows (Rep.int k) col w fl xs bs → fl = xs.map (Value.int k) ∧ bs = []
 | [], _, _, h => h
 | x :: xs, _, _, ⟨cs, fl', b1, b2, h, hb, h1, h2⟩ => by
  have h1 : cs = [.int k x] ∧ b1 = [] := h1
  obtain ⟨h3, h4⟩ := rows_ints_of h2
  rw [h, hb, h1.1, h1.2, h3, h4]; exact ⟨rfl, rfl⟩
end Go.Proofs.YtnfegieaaaigmaaGreatDoor
