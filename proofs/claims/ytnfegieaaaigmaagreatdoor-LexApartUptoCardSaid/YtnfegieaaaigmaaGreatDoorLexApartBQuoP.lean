/-
  A text in quotes, as the library writes it.
-/
import Derived.Test.YtnfegieaaaigmaaGreatDoorLexApartBBrpP
import Derived.Shelf.Strings.Search1
set_option linter.unusedVariables false
set_option maxRecDepth 100000
set_option maxHeartbeats 3200000
namespace Go.Proofs.YtnfegieaaaigmaaGreatDoor
open Go Go.RowKit
def m_quote (s : ByteArray) : Option ByteArray := chk (s.size ≤ 1073741824) (some (if 10 ∈ sints s then ⟨#[]⟩ else bstr (34 :: (escL (sints s) ++ [34]))))
theorem ibl (l : List UInt8) : 0 ≤ Lib.indexByte l 10 ↔ (10 : Int) ∈ l.map (fun b => (b.toNat : Int)) := by
 have hmem : (10 : Int) ∈ l.map (fun b => (b.toNat : Int)) ↔ (10 : UInt8) ∈ l := by
  rw [List.mem_map]
  constructor
  ·rintro ⟨b, hb, he⟩
   have : b = 10 := UInt8.toNat_inj.1 (by simpa using Int.ofNat_inj.1 he)
   exact this ▸ hb
  ·intro h; exact ⟨10, h, rfl⟩
 rw [hmem]
 have hge := Lib.indexByte_ge l 10
 constructor
 ·intro h
  obtain ⟨o, ho⟩ := Int.eq_ofNat_of_zero_le h
  exact List.mem_of_getElem? (Lib.indexByte_some ho).1
 ·intro h
  rcases Int.lt_or_le (Lib.indexByte l 10) 0 with h0 | h0
  ·have h1 : Lib.indexByte l 10 = -1 := by omega
   obtain ⟨k, hk⟩ := List.getElem?_of_mem h
   exact absurd hk (Lib.indexByte_none h1 k)
  ·exact h0
theorem bstr_size (xs : List Int) : (bstr xs).size = xs.length := by
 rw [bstr_u]
 show (ubytes xs).toArray.size = _
 simp [ubytes]
theorem bstr_wrap (xs : List Int) : (⟨#[34]⟩ : ByteArray) ++ bstr xs ++ ⟨#[34]⟩ = bstr (34 :: (xs ++ [34])) := by
 rw [bstr_u, bstr_u]
 apply ByteArray.ext
 simp [ubytes]
theorem quote_c (col : Col) (w0 : World) (s : ByteArray) (r : ByteArray) (hm : m_quote s = some r) :
  Calls Tryz.prog 20 #[(.string s)] w0 (fun e w' => e = .returned ((.string r)) ∧ Below w0.heap.size w0 w') := by
 unfold m_quote at hm
 obtain ⟨hs, hm⟩ := chk_some hm
 have hz : (bstr (escL (sints s))).size ≤ 2147483648 := by
  have h1 := ex_le (sints s)
  rw [bstr_size, escL_len]
  rw [sints_len] at h1 ⊢
  omega
 go_enter Tryz.func20, Tryz.ntmps20
 go_wp2_with (first
  | (go_at_call 39; refine (Tryz.strings_IndexByte s 10 _).mono ?_; rintro e w' ⟨rfl, rfl⟩)
  | (go_at_call 40; refine (new_c _ _ ?_ ?_ ?_ ?_).mono ?_; (· simp [go_sem]); (· simp [go_sem]); (· simp [go_sem]); (· simp [go_sem]); rintro e w1 ⟨b, rfl, hF, hB1⟩)
  | (go_at_call 41; refine (replace_c b _ _ s (bstr (escL (sints s))) hF (fun W B' g hR hBW => brep_c W B' g hR hBW s hs)).mono ?_; rintro e w2 ⟨rfl, hB2⟩))
 ·go_returns
  have hi' : 0 ≤ Lib.indexByte s.data.toList 10 := by assumption
  rw [if_pos (show (10 : Int) ∈ sints s from (ibl _).1 hi')] at hm
  cases hm
  exact ⟨rfl, Below.refl _ _⟩
 all_goals (first | (exfalso; omega) | skip)
 ·go_returns
  have hi' : ¬ (0 ≤ Lib.indexByte s.data.toList 10) := by omega
  rw [if_neg (show ¬ (10 : Int) ∈ sints s from fun h => hi' ((ibl _).2 h))] at hm
  cases hm
  refine ⟨?_, ?_⟩
  ·exact congrArg (fun x => Ending.returned (Value.string x)) (bstr_wrap _)
  ·have hA : Below w'.heap.size w' (w'.alloc (.cells #[.string ⟨#[92]⟩, .string ⟨#[92, 92]⟩, .string ⟨#[34]⟩, .string ⟨#[92, 34]⟩] 9)) := (Below.refl _ _).alloc (Nat.le_refl _) _
   have hs1 : w'.heap.size ≤ (w'.alloc (.cells #[.string ⟨#[92]⟩, .string ⟨#[92, 92]⟩, .string ⟨#[34]⟩, .string ⟨#[92, 34]⟩] 9)).heap.size := hA.size
   exact (hA.trans (hB1.mono hs1)).trans (hB2.mono hs1)
end Go.Proofs.YtnfegieaaaigmaaGreatDoor
