/-
  The library's byte replacer: what it answers.
-/
import Derived.Test.YtnfegieaaaigmaaGreatDoorLexApartBRplP
import Derived.Test.YtnfegieaaaigmaaGreatDoorShelf
import Derived.Test.YtnfegieaaaigmaaGreatDoorLexApartBLexP
import Derived.Laws.CopyOwn
import Derived.Laws.BytesArg
set_option linter.unusedVariables false
set_option maxRecDepth 100000
set_option maxHeartbeats 3200000
namespace Go.Proofs.YtnfegieaaaigmaaGreatDoor
open Go Go.RowKit
def escL : List Int → List Int
 | [] => []
 | c :: r => if c = 92 then 92 :: 92 :: escL r else if c = 34 then 92 :: 34 :: escL r else c :: escL r
def ex : List Int → Nat
 | [] => 0
 | c :: r => (if c = 92 then 1 else if c = 34 then 1 else 0) + ex r
def isE (c : Nat) : Bool := c == 34 || c == 92
def rowA (p q c : Nat) : Option Addr := if c = 34 then some ⟨p, 0, none⟩ else if c = 92 then some ⟨q, 0, none⟩ else none
def rowN (c : Nat) : Nat := if c = 34 then 2 else if c = 92 then 2 else 0
def rowC (cp cq c : Nat) : Nat := if c = 34 then cp else if c = 92 then cq else 0
theorem rowA_none (p q c : Nat) : (rowA p q c).isNone = !isE c := by
 unfold rowA isE
 by_cases h1 : c = 34
 ·simp [h1]
 ·by_cases h2 : c = 92
  ·simp [h2]
  ·simp [h1, h2]
theorem rowN_e (c : Nat) (h : isE c = true) : rowN c = 2 := by
 unfold rowN
 simp [isE] at h
 rcases h with h | h <;> simp [h]
theorem ex_take (s : ByteArray) (k : Nat) (h : k < s.size) : ex ((sints s).take (k + 1)) = ex ((sints s).take k) + (if isE (s[k]).toNat then 1 else 0) := by
 have hl : k < (sints s).length := by simpa [sints] using h
 have hg : (sints s)[k] = ((s[k]).toNat : Int) := by simp [sints]; rfl
 rw [List.take_succ_eq_append_getElem hl, hg]
 have happ : ∀ (xs : List Int) (c : Int), ex (xs ++ [c]) = ex xs + ex [c] := by
  intro xs c
  induction xs with
  | nil => simp [ex]
  | cons a r ih => simp only [List.cons_append, ex, ih]; omega
 rw [happ]
 congr 1
 unfold isE ex
 by_cases e1 : (s[k]).toNat = 34
 ·simp [e1, ex]
 ·by_cases e2 : (s[k]).toNat = 92
  ·simp [e2, ex]
  ·have e3 : ((s[k]).toNat : Int) ≠ 34 := by omega
   have e4 : ((s[k]).toNat : Int) ≠ 92 := by omega
   simp [e1, e2, e3, e4, ex]
theorem ex_le : ∀ xs : List Int, ex xs ≤ xs.length
 | [] => Nat.le_refl _
 | c :: r => by
  have := ex_le r
  unfold ex
  by_cases h1 : c = 92
  ·simp [h1]; omega
  ·by_cases h2 : c = 34
   ·simp [h2]; omega
   ·simp [h1, h2]; omega
theorem ex_tk (s : ByteArray) (k : Nat) : ex ((sints s).take k) ≤ k := Nat.le_trans (ex_le _) (by simp; omega)
theorem escL_id : ∀ xs : List Int, ex xs = 0 → escL xs = xs
 | [], _ => rfl
 | c :: r, h => by
  unfold ex at h
  unfold escL
  by_cases h1 : c = 92
  ·simp [h1] at h
  ·by_cases h2 : c = 34
   ·simp [h2] at h
   ·simp only [h1, h2, if_false] at h ⊢
    rw [escL_id r (by omega)]
theorem escL_len : ∀ xs : List Int, (escL xs).length = xs.length + ex xs
 | [] => rfl
 | c :: r => by
  have := escL_len r
  unfold ex escL
  by_cases h1 : c = 92
  ·simp [h1]; omega
  ·by_cases h2 : c = 34
   ·simp [h2]; omega
   ·simp [h1, h2]; omega
theorem bstr_of_sints (s : ByteArray) : bstr (sints s) = s := by
 rw [bstr_u]
 have h : ubytes (sints s) = s.data.toList := by
  rw [ubytes, sints, List.map_map]
  conv => rhs; rw [← List.map_id s.data.toList]
  refine List.map_congr_left fun b _ => ?_
  simp
 rw [h]
theorem mkb (w : World) (x : Nat) (hx : x ≤ 4294967296) : (Instr.makeSlice 144 (.int .i64 (x : Int)) (.int .i64 (x : Int))).run Tryz.prog w = .ok (.slice (some ⟨w.heap.size, 0, none⟩) x x) (w.alloc (.cells (madeCells #[.int .u8 0] x) 5)) := by
 have h := run_make (P := Tryz.prog) w 144 5 Tryz.t5 (.int .u8 0) Tryz.underlying144 rfl rfl .i64 .i64 x x (by omega) (by omega) (by show ((1 : Nat) : Int) * _ ≤ _; omega) (by omega)
 simp only [Int.toNat_natCast] at h
 have e : x * Tryz.t5.size = x := Nat.mul_one x
 rw [e] at h
 exact h
theorem ex_mono (xs : List Int) (k : Nat) : ex (xs.take k) ≤ ex xs := by
 induction xs generalizing k with
 | nil => simp
 | cons c r ih =>
  cases k with
  | zero => simp [ex]
  | succ k => have := ih k; simp only [List.take_succ_cons, ex]; omega
theorem escL_app : ∀ xs ys : List Int, escL (xs ++ ys) = escL xs ++ escL ys
 | [], ys => rfl
 | c :: r, ys => by
  have := escL_app r ys
  simp only [List.cons_append, escL, this]
  by_cases h1 : c = 92
  ·simp [h1]
  ·by_cases h2 : c = 34
   ·simp [h2]
   ·simp [h1, h2]
theorem escL_take (s : ByteArray) (k : Nat) (h : k < s.size) : escL ((sints s).take (k + 1)) = escL ((sints s).take k) ++ escL [((s[k]).toNat : Int)] := by
 have hl : k < (sints s).length := by simpa [sints] using h
 have hg : (sints s)[k] = ((s[k]).toNat : Int) := by simp [sints]; rfl
 rw [List.take_succ_eq_append_getElem hl, hg, escL_app]
theorem copy2 (w : World) (g o d dc x cx : Nat) (A : Array Value) (c1 c2 : Int) (hg : w.heap[g]? = some (.cells A 5 (0, 0))) (hd : 2 ≤ d) (hfit : o + 2 ≤ A.size)
  (h1 : w.cell? ⟨x, 0, none⟩ = some (.int .u8 c1)) (h2 : w.cell? ⟨x, 1, none⟩ = some (.int .u8 c2)) :
  (Builtin.copy_ #[144, 144] 3 #[.slice (some ⟨g, o, none⟩) d dc, .slice (some ⟨x, 0, none⟩) 2 cx]).run Tryz.prog w = .ok (.int .i64 2) (w.setRow g (A.toList.take o ++ [Value.int .u8 c1, Value.int .u8 c2] ++ A.toList.drop (o + 2)).toArray) := by
 have h := run_copy_row (P := Tryz.prog) w 144 144 3 5 g o d dc ⟨x, 0, none⟩ 2 cx A 5 [Value.int .u8 c1, Value.int .u8 c2] Tryz.underlying144 (by kernel_rfl) hg (by show 2 = Nat.min 2 d; exact (Nat.min_eq_left hd).symm) (by
  intro j v hj
  match j, hj with
  | 0, hj => simp at hj; subst hj; simpa [Addr.add] using h1
  | 1, hj => simp at hj; subst hj; simpa [Addr.add] using h2
  | j + 2, hj => simp at hj) (by simpa using hfit) (by
  intro v hv
  simp at hv
  rcases hv with rfl | rfl <;> rfl)
 exact h
def cntE (s : ByteArray) (k : Nat) : Nat := if k = 0 then 0 else if k = 1 then Lib.countByte s.data.toList 34 else Lib.countByte s.data.toList 34 + Lib.countByte s.data.toList 92
theorem cnt_ex (s : ByteArray) : cntE s 2 = ex (sints s) := by
 unfold cntE sints Lib.countByte
 simp only [if_neg (by decide : ¬ (2 : Nat) = 0), if_neg (by decide : ¬ (2 : Nat) = 1)]
 induction s.data.toList with
 | nil => rfl
 | cons b r ih =>
  simp only [List.count_cons, List.map_cons, ex]
  have h1 : ((b.toNat : Int) = 92) ↔ b = 92 := ⟨fun h => UInt8.toNat_inj.1 (by simpa using Int.ofNat_inj.1 h), fun h => by subst h; rfl⟩
  have h2 : ((b.toNat : Int) = 34) ↔ b = 34 := ⟨fun h => UInt8.toNat_inj.1 (by simpa using Int.ofNat_inj.1 h), fun h => by subst h; rfl⟩
  simp only [h1, h2]
  by_cases e1 : b = 92
  ·subst e1; simp; omega
  ·by_cases e2 : b = 34
   ·subst e2; simp; omega
   ·simp [e1, e2]; omega
theorem brep_short (W : World) (B g : Nat) (hR : RepAt W B g) (hBW : B ≤ W.heap.size) (s : ByteArray) (hs : s.size ≤ 1073741824) (h16 : s.size < 16) :
  Calls Tryz.prog 196 #[.pointer (some ⟨g, 0, none⟩), .string s] W fun e w' => e = .returned (.string (bstr (escL (sints s)))) ∧ Below W.heap.size W w' := by
 obtain ⟨r, p, cp, q, cq, ⟨b1, b2, b3, b4⟩, h1, h2, h3, h4, h5, h6, h7, h8, h9, hz⟩ := hR
 have hrow : ∀ (k : Nat) (h : k < s.size), W.cell? ⟨g, (s[k]).toNat, none⟩ = some (.slice (rowA p q (s[k]).toNat) (rowN (s[k]).toNat) (rowC cp cq (s[k]).toNat)) := by
  intro k h
  have hlt : (s[k]).toNat < 256 := UInt8.toNat_lt _
  unfold rowA rowN rowC
  by_cases e1 : (s[k]).toNat = 34
  ·simp only [e1, if_true]; exact h4
  ·by_cases e2 : (s[k]).toNat = 92
   ·simp only [e2]; exact h7
   ·simp only [e1, e2, if_false]; exact hz _ hlt e1 e2
 have qN : ∀ (w : World) (c n r : Nat), (binOp .neq 144 (.slice (rowA p q c) n r) (.slice none 0 0)).run Tryz.prog w = .ok (.bool (isE c)) w := fun w c n r => by
  rw [run_neq_slice_nil_any w _ _ (rowA p q c) n r 0 0 Tryz.underlying144, rowA_none, Bool.not_not]
 have hmk : ∀ (w : World) (k : Nat), (Instr.makeSlice 144 (.int .i64 ((s.size : Int) + (ex ((sints s).take k) : Nat))) (.int .i64 ((s.size : Int) + (ex ((sints s).take k) : Nat)))).run Tryz.prog w = .ok (.slice (some ⟨w.heap.size, 0, none⟩) (s.size + ex ((sints s).take k)) (s.size + ex ((sints s).take k))) (w.alloc (.cells (madeCells #[.int .u8 0] (s.size + ex ((sints s).take k))) 5)) := by
  intro w k
  have h1 : ex ((sints s).take k) ≤ s.size := Nat.le_trans (ex_le _) (by rw [List.length_take, sints_len]; omega)
  have h := mkb w (s.size + ex ((sints s).take k)) (by omega)
  rw [Int.natCast_add] at h
  exact h
 have hd16 : decide ((16 : Int) ≤ (s.size : Int)) = false := by simp; omega
 go_enter Tryz.func196, Tryz.ntmps196
 go_wp2
 ·go_loop [5, 6, 10] (fun n a i => ∃ k : Nat, k ≤ s.size ∧ n = .int .i64 ((s.size + ex ((sints s).take k) : Nat) : Int) ∧ a = .bool (decide (0 < ex ((sints s).take k))) ∧ i = .int .i64 k) (fun _ _ i => s.size - (intOf i).toNat)
  case atStart => exact ⟨0, Nat.zero_le _, by simp [ex], by simp [ex], rfl⟩
  case round =>
   obtain ⟨k, hk, rfl, rfl, rfl⟩ := hrel
   go_wp2
   ·rename_i hlt hE
    have hx := ex_take s k (by omega)
    have hb := ex_tk s k
    have hr := rowN_e _ hE
    simp only [hE, if_true] at hx
    refine ⟨⟨k + 1, by omega, ?_, ?_, ?_⟩, ?_⟩
    ·rw [hx, hr]; go_arith
    ·rw [hx]; simp
    ·simp
    ·simp [intOf]; omega
   ·rename_i hlt hE
    have hx := ex_take s k (by omega)
    simp only [hE] at hx
    refine ⟨⟨k + 1, by omega, ?_, ?_, ?_⟩, ?_⟩
    ·rw [hx]; simp
    ·rw [hx]; simp
    ·simp
    ·simp [intOf]; omega
   ·rename_i hge
    have := UInt8.toNat_lt (s[k])
    omega
   ·rename_i hge hA
    have hk' : k = s.size := by omega
    subst hk'
    have htk : (sints s).take s.size = sints s := List.take_of_length_le (by rw [sints_len]; omega)
    have h0 : ex (sints s) = 0 := by
     have hB : (!decide (0 < ex ((sints s).take s.size))) = true := by assumption
     rw [htk] at hB
     simpa using hB
    go_returns
    rw [escL_id _ h0, bstr_of_sints]
    exact ⟨rfl, Below.refl _ _⟩
   ·rename_i hge hA
    have hk' : k = s.size := by omega
    subst hk'
    have htk : (sints s).take s.size = sints s := List.take_of_length_le (by rw [sints_len]; omega)
    have hmk' := fun w => hmk w s.size
    simp only [htk] at hA hmk' ⊢
    go_wp2
    go_loopw [13, 14] (fun j i wr => ∃ (k : Nat) (A : Array Value), k ≤ s.size ∧ i = .int .i64 k ∧ j = .int .i64 ((k + ex ((sints s).take k) : Nat) : Int) ∧ wr.heap[W.heap.size]? = some (.cells A 5 (0, 0)) ∧ A.size = s.size + ex (sints s) ∧ A.toList.take (k + ex ((sints s).take k)) = (escL ((sints s).take k)).map (.int .u8) ∧ Below W.heap.size W wr) (fun _ i _ => s.size - (intOf i).toNat)
    case atStart => exact ⟨0, _, Nat.zero_le _, rfl, by simp [ex], (by show (W.heap.push _)[W.heap.size]? = _; rw [Array.getElem?_push_size]), size_madeCells _ _, by simp [ex, escL], (Below.refl _ _).alloc (Nat.le_refl _) _⟩
    case round =>
     obtain ⟨k, A, hk, rfl, rfl, hA1, hA2, hA3, hB⟩ := hrel
     have lg : g < W.heap.size := World.block_lt_of_cell? W _ h1
     have hrow' : ∀ (k : Nat) (h : k < s.size), wr.cell? ⟨g, (s[k]).toNat, none⟩ = some (.slice (rowA p q (s[k]).toNat) (rowN (s[k]).toNat) (rowC cp cq (s[k]).toNat)) := fun k h => (hB.cell (p := ⟨g, _, none⟩) lg).trans (hrow k h)
     clear hrow h1 h2 h3 h4 h7 hz hmk hmk'
     have hfr : ∀ j, wr.frozen? ⟨W.heap.size, j, none⟩ = false := fun j => by simp [World.frozen?, hA1]
     rcases Nat.lt_or_ge k s.size with hlt | hge
     ·have hmo := ex_mono (sints s) k
      have hjl : k + ex ((sints s).take k) < A.size := by omega
      have hcj : wr.cell? ⟨W.heap.size, k + ex ((sints s).take k), none⟩ = some A[k + ex ((sints s).take k)] := by simp [World.cell?, hA1, hjl]
      have hx := ex_take s k hlt
      have h256 : (s[k]).toNat < 256 := UInt8.toNat_lt _
      have hdec : (∃ (x cx : Nat) (c1 c2 : Int), wr.cell? ⟨g, (s[k]).toNat, none⟩ = some (.slice (some ⟨x, 0, none⟩) 2 cx) ∧ wr.cell? ⟨x, 0, none⟩ = some (.int .u8 c1) ∧ wr.cell? ⟨x, 1, none⟩ = some (.int .u8 c2) ∧ escL [((s[k]).toNat : Int)] = [c1, c2] ∧ isE (s[k]).toNat = true) ∨
        (wr.cell? ⟨g, (s[k]).toNat, none⟩ = some (.slice none 0 0) ∧ escL [((s[k]).toNat : Int)] = [((s[k]).toNat : Int)] ∧ isE (s[k]).toNat = false) := by
       have lp : p < W.heap.size := World.block_lt_of_cell? W _ h5
       have lq : q < W.heap.size := World.block_lt_of_cell? W _ h8
       have hr := hrow' k hlt
       by_cases e1 : (s[k]).toNat = 34
       ·left
        refine ⟨p, cp, 92, 34, ?_, (hB.cell (p := ⟨p, 0, none⟩) lp).trans h5, (hB.cell (p := ⟨p, 1, none⟩) lp).trans h6, ?_, ?_⟩
        ·rw [hr]; simp [rowA, rowN, rowC, e1]
        ·simp [escL, e1]
        ·simp [isE, e1]
       ·by_cases e2 : (s[k]).toNat = 92
        ·left
         refine ⟨q, cq, 92, 92, ?_, (hB.cell (p := ⟨q, 0, none⟩) lq).trans h8, (hB.cell (p := ⟨q, 1, none⟩) lq).trans h9, ?_, ?_⟩
         ·rw [hr]; simp [rowA, rowN, rowC, e2]
         ·simp [escL, e2]
         ·simp [isE, e2]
        ·right
         have e3 : ((s[k]).toNat : Int) ≠ 34 := by omega
         have e4 : ((s[k]).toNat : Int) ≠ 92 := by omega
         refine ⟨?_, ?_, ?_⟩
         ·rw [hr]; simp [rowA, rowN, rowC, e1, e2]
         ·simp [escL, e3, e4]
         ·simp [isE, e1, e2]
      rcases hdec with ⟨x, cx, c1, c2, d1, d2, d3, d4, d5⟩ | ⟨d1, d2, d3⟩
      ·clear hrow'
       simp only [d5, if_true] at hx
       have hfit : k + ex ((sints s).take k) + 2 ≤ A.size := by have := ex_mono (sints s) (k + 1); omega
       have hcp := copy2 wr.drew W.heap.size (k + ex ((sints s).take k)) (s.size + ex (sints s) - (k + ex ((sints s).take k))) (s.size + ex (sints s) - (k + ex ((sints s).take k))) x cx A c1 c2 (show wr.drew.heap[W.heap.size]? = _ from hA1) (by omega) hfit (show wr.drew.cell? _ = _ from d2) (show wr.drew.cell? _ = _ from d3)
       go_wp2
       go_region
       go_wp2
       have hb := ex_tk s k
       have hL : ((escL ((sints s).take k)).map (Value.int .u8)).length = k + ex ((sints s).take k) := by rw [List.length_map, escL_len, List.length_take, sints_len]; omega
       refine ⟨⟨k + 1, _, by omega, by simp, ?_, setRow_heap wr.drew W.heap.size A _ 5 _ hA1, ?_, ?_, below_setRow hB.drew (Nat.le_refl _) _⟩, by simp [intOf]; omega⟩
       ·rw [hx]; go_arith
       ·simp only [List.size_toArray, List.length_append, List.length_cons, List.length_drop, Array.length_toList, hL]; omega
       ·rw [hx, escL_take s k hlt, d4, List.map_append]
        have e : (List.map (Value.int .u8) (escL ((sints s).take k)) ++ Value.int .u8 c1 :: Value.int .u8 c2 :: A.toList.drop (k + ex ((sints s).take k) + 2)) = (List.map (Value.int .u8) (escL ((sints s).take k)) ++ [Value.int .u8 c1, Value.int .u8 c2]) ++ A.toList.drop (k + ex ((sints s).take k) + 2) := by simp
        rw [e]
        exact List.take_left' (by simp only [List.length_append, hL, List.length_cons, List.length_nil]; omega)
      ·clear hrow'
       simp only [d3] at hx
       go_wp2
       have hb := ex_tk s k
       have hL : ((escL ((sints s).take k)).map (Value.int .u8)).length = k + ex ((sints s).take k) := by rw [List.length_map, escL_len, List.length_take, sints_len]; omega
       rw [setCell_eq_setRow wr W.heap.size (k + ex ((sints s).take k)) A 5 (0, 0) _ hA1]
       refine ⟨⟨k + 1, _, by omega, by simp, ?_, setRow_heap wr W.heap.size A _ 5 _ hA1, ?_, ?_, below_setRow hB (Nat.le_refl _) _⟩, by simp [intOf]; omega⟩
       ·rw [hx]; go_arith
       ·rw [Array.size_setIfInBounds]; exact hA2
       ·rw [hx, escL_take s k hlt, d2, List.map_append, ← hA3, Array.toList_setIfInBounds]
        have e : k + 1 + (ex ((sints s).take k) + if false = true then 1 else 0) = k + ex ((sints s).take k) + 1 := by simp; omega
        rw [e, List.take_succ_eq_append_getElem (by simpa using hjl)]
        simp
        first | rw [List.take_set_of_le (Nat.le_refl _)] | (rw [List.take_set, List.set_eq_of_length_le (by simp; omega)])
     ·have hk' : k = s.size := by omega
      subst hk'
      rw [htk] at hA3
      have hxl : (escL (sints s)).length = s.size + ex (sints s) := by rw [escL_len, sints_len]
      have hAl : A.toList = (escL (sints s)).map (Value.int .u8) := by
       rw [← hA3, List.take_of_length_le (by rw [Array.length_toList]; omega)]
      have hcv := run_convert_bytes_arg (P := Tryz.prog) wr 144 5 Tryz.underlying144 Tryz.underlying5 W.heap.size 0 (s.size + ex (sints s)) (s.size + ex (sints s)) (escL (sints s)) hxl (by
       intro i hi
       have hi' : i < A.size := by omega
       have h1 : wr.cell? ⟨W.heap.size, i, none⟩ = A[i]? := by simp [World.cell?, hA1]
       rw [Nat.zero_add, h1, ← Array.getElem?_toList, hAl, List.getElem?_map, List.getElem?_eq_getElem (by omega), List.getD_eq_getElem?_getD, List.getElem?_eq_getElem (by omega)]
       rfl) 9 Tryz.underlying9
      have hst : strOfNums (escL (sints s)) = bstr (escL (sints s)) := by rw [bstr_u]; rfl
      rw [hst] at hcv
      go_wp2
      go_returns
      exact ⟨rfl, hB⟩
theorem brep_long (W : World) (B g : Nat) (hR : RepAt W B g) (hBW : B ≤ W.heap.size) (s : ByteArray) (hs : s.size ≤ 1073741824) (h16 : 16 ≤ s.size) :
  Calls Tryz.prog 196 #[.pointer (some ⟨g, 0, none⟩), .string s] W fun e w' => e = .returned (.string (bstr (escL (sints s)))) ∧ Below W.heap.size W w' := by
 obtain ⟨r, p, cp, q, cq, ⟨b1, b2, b3, b4⟩, h1, h2, h3, h4, h5, h6, h7, h8, h9, hz⟩ := hR
 have hrow : ∀ (k : Nat) (h : k < s.size), W.cell? ⟨g, (s[k]).toNat, none⟩ = some (.slice (rowA p q (s[k]).toNat) (rowN (s[k]).toNat) (rowC cp cq (s[k]).toNat)) := by
  intro k h
  have hlt : (s[k]).toNat < 256 := UInt8.toNat_lt _
  unfold rowA rowN rowC
  by_cases e1 : (s[k]).toNat = 34
  ·simp only [e1, if_true]; exact h4
  ·by_cases e2 : (s[k]).toNat = 92
   ·simp only [e2]; exact h7
   ·simp only [e1, e2, if_false]; exact hz _ hlt e1 e2
 have qN : ∀ (w : World) (c n r : Nat), (binOp .neq 144 (.slice (rowA p q c) n r) (.slice none 0 0)).run Tryz.prog w = .ok (.bool (isE c)) w := fun w c n r => by
  rw [run_neq_slice_nil_any w _ _ (rowA p q c) n r 0 0 Tryz.underlying144, rowA_none, Bool.not_not]
 have hmk : ∀ (w : World) (k : Nat), (Instr.makeSlice 144 (.int .i64 ((s.size : Int) + (ex ((sints s).take k) : Nat))) (.int .i64 ((s.size : Int) + (ex ((sints s).take k) : Nat)))).run Tryz.prog w = .ok (.slice (some ⟨w.heap.size, 0, none⟩) (s.size + ex ((sints s).take k)) (s.size + ex ((sints s).take k))) (w.alloc (.cells (madeCells #[.int .u8 0] (s.size + ex ((sints s).take k))) 5)) := by
  intro w k
  have h1 : ex ((sints s).take k) ≤ s.size := Nat.le_trans (ex_le _) (by rw [List.length_take, sints_len]; omega)
  have h := mkb w (s.size + ex ((sints s).take k)) (by omega)
  rw [Int.natCast_add] at h
  exact h
 have hd16 : decide ((16 : Int) ≤ (s.size : Int)) = true := by simp; omega
 go_enter Tryz.func196, Tryz.ntmps196
 go_wp2
 have lg : g < W.heap.size := World.block_lt_of_cell? W _ h1
 have lr : r < W.heap.size := World.block_lt_of_cell? W _ h2
 go_loopw [5, 6, 32] (fun n a i wr => ∃ k : Nat, k ≤ 2 ∧ i = .int .i64 k ∧ n = .int .i64 ((s.size + cntE s k : Nat) : Int) ∧ a = .bool (decide (0 < cntE s k)) ∧ Below W.heap.size W wr) (fun _ _ i _ => 2 - (intOf i).toNat)
 case atStart => exact ⟨0, by omega, rfl, by simp [cntE], by simp [cntE], Below.refl _ _⟩
 case round =>
  obtain ⟨k, hk, rfl, rfl, rfl, hB⟩ := hrel
  have g0 : wr.cell? ⟨r, 0, none⟩ = some (.string ⟨#[34]⟩) := (hB.cell (p := ⟨r, 0, none⟩) lr).trans h2
  have g1 : wr.cell? ⟨r, 1, none⟩ = some (.string ⟨#[92]⟩) := (hB.cell (p := ⟨r, 1, none⟩) lr).trans h3
  have g34 : wr.cell? ⟨g, 34, none⟩ = some (.slice (some ⟨p, 0, none⟩) 2 cp) := (hB.cell (p := ⟨g, 34, none⟩) lg).trans h4
  have g92 : wr.cell? ⟨g, 92, none⟩ = some (.slice (some ⟨q, 0, none⟩) 2 cq) := (hB.cell (p := ⟨g, 92, none⟩) lg).trans h7
  have q34 : ∀ h, ((⟨#[34]⟩ : ByteArray)[0]'h).toNat = 34 := fun _ => rfl
  have q92 : ∀ h, ((⟨#[92]⟩ : ByteArray)[0]'h).toNat = 92 := fun _ => rfl
  have hc34 : Lib.countByte s.data.toList 34 ≤ s.size := by unfold Lib.countByte; exact Nat.le_trans List.count_le_length (by rw [Array.length_toList]; exact Nat.le_refl _)
  have hc92 : Lib.countByte s.data.toList 92 ≤ s.size := by unfold Lib.countByte; exact Nat.le_trans List.count_le_length (by rw [Array.length_toList]; exact Nat.le_refl _)
  clear hz
  have hc2 : cntE s 2 = ex (sints s) := cnt_ex s
  match k, hk with
  | 0, _ =>
   go_wp2_with (go_at_call 198; refine (Tryz.strings_Count_one s 34 _).mono ?_; rintro e w' ⟨rfl, rfl⟩)
   ·go_region
    go_wp2
    have hn : 0 < Lib.countByte s.data.toList 34 := by rename_i hn; simp at hn; omega
    exact ⟨⟨1, by omega, rfl, (by simp only [cntE, if_true, if_neg (by decide : ¬ (1 : Nat) = 0)]; go_arith), by simp [cntE, hn], hB.drew⟩, by simp [intOf]⟩
   ·rename_i hn
    have h0 : Lib.countByte s.data.toList 34 = 0 := by simp at hn; omega
    exact ⟨⟨1, by omega, rfl, by simp [cntE, h0], by simp [cntE, h0], hB⟩, by simp [intOf]⟩
  | 1, _ =>
   go_wp2_with (go_at_call 198; refine (Tryz.strings_Count_one s 92 _).mono ?_; rintro e w' ⟨rfl, rfl⟩)
   ·go_region
    go_wp2
    have hn : 0 < Lib.countByte s.data.toList 92 := by rename_i hn; simp at hn; omega
    exact ⟨⟨2, by omega, rfl, (by simp only [cntE, if_true, if_neg (by decide : ¬ (1 : Nat) = 0), if_neg (by decide : ¬ (2 : Nat) = 0), if_neg (by decide : ¬ (2 : Nat) = 1)]; go_arith), by simp [cntE]; omega, hB.drew⟩, by simp [intOf]⟩
   ·rename_i hn
    have h0 : Lib.countByte s.data.toList 92 = 0 := by simp at hn; omega
    exact ⟨⟨2, by omega, rfl, by simp [cntE, h0], by simp [cntE, h0], hB⟩, by simp [intOf]⟩
  | 2, _ =>
   simp only [hc2]
   go_wp2
   ·have hA : (!decide (0 < ex (sints s))) = true := by assumption
    have h0 : ex (sints s) = 0 := by simpa using hA
    go_returns
    rw [escL_id _ h0, bstr_of_sints]
    exact ⟨rfl, hB⟩
   ·have hp := World.block_lt_of_cell? W _ h5
    have hq := World.block_lt_of_cell? W _ h8
    have hrowV : ∀ (k : Nat) (h : k < s.size), wr.cell? ⟨g, (s[k]).toNat, none⟩ = some (.slice (rowA p q (s[k]).toNat) (rowN (s[k]).toNat) (rowC cp cq (s[k]).toNat)) := fun k h => (hB.cell (p := ⟨g, _, none⟩) lg).trans (hrow k h)
    replace h1 := (hB.cell (p := ⟨g, 256, none⟩) lg).trans h1
    replace h5 := (hB.cell (p := ⟨p, 0, none⟩) hp).trans h5
    replace h6 := (hB.cell (p := ⟨p, 1, none⟩) hp).trans h6
    replace h8 := (hB.cell (p := ⟨q, 0, none⟩) hq).trans h8
    replace h9 := (hB.cell (p := ⟨q, 1, none⟩) hq).trans h9
    clear h2 h3 h4 h7 g0 g1 g34 g92
    obtain ⟨V, rfl⟩ : ∃ V, V = wr := ⟨_, rfl⟩
    have hB0 := hB
    clear hB
    have htk : (sints s).take s.size = sints s := List.take_of_length_le (by rw [sints_len]; omega)
    have hmk' := fun w => hmk w s.size
    simp only [htk] at hmk'
    go_wp2
    go_loopw [13, 14] (fun j i wr => ∃ (k : Nat) (A : Array Value), k ≤ s.size ∧ i = .int .i64 k ∧ j = .int .i64 ((k + ex ((sints s).take k) : Nat) : Int) ∧ wr.heap[V.heap.size]? = some (.cells A 5 (0, 0)) ∧ A.size = s.size + ex (sints s) ∧ A.toList.take (k + ex ((sints s).take k)) = (escL ((sints s).take k)).map (.int .u8) ∧ Below V.heap.size V wr) (fun _ i _ => s.size - (intOf i).toNat)
    case atStart => exact ⟨0, _, Nat.zero_le _, rfl, by simp [ex], (by show (V.heap.push _)[V.heap.size]? = _; rw [Array.getElem?_push_size]), size_madeCells _ _, by simp [ex, escL], (Below.refl _ _).alloc (Nat.le_refl _) _⟩
    case round =>
     obtain ⟨k, A, hk, rfl, rfl, hA1, hA2, hA3, hB⟩ := hrel
     have lg : g < V.heap.size := World.block_lt_of_cell? V _ h1
     have hrow' : ∀ (k : Nat) (h : k < s.size), wr.cell? ⟨g, (s[k]).toNat, none⟩ = some (.slice (rowA p q (s[k]).toNat) (rowN (s[k]).toNat) (rowC cp cq (s[k]).toNat)) := fun k h => (hB.cell (p := ⟨g, _, none⟩) lg).trans (hrowV k h)
     clear hrow hrowV hmk hmk'
     have hfr : ∀ j, wr.frozen? ⟨V.heap.size, j, none⟩ = false := fun j => by simp [World.frozen?, hA1]
     rcases Nat.lt_or_ge k s.size with hlt | hge
     ·have hmo := ex_mono (sints s) k
      have hjl : k + ex ((sints s).take k) < A.size := by omega
      have hcj : wr.cell? ⟨V.heap.size, k + ex ((sints s).take k), none⟩ = some A[k + ex ((sints s).take k)] := by simp [World.cell?, hA1, hjl]
      have hx := ex_take s k hlt
      have h256 : (s[k]).toNat < 256 := UInt8.toNat_lt _
      have hdec : (∃ (x cx : Nat) (c1 c2 : Int), wr.cell? ⟨g, (s[k]).toNat, none⟩ = some (.slice (some ⟨x, 0, none⟩) 2 cx) ∧ wr.cell? ⟨x, 0, none⟩ = some (.int .u8 c1) ∧ wr.cell? ⟨x, 1, none⟩ = some (.int .u8 c2) ∧ escL [((s[k]).toNat : Int)] = [c1, c2] ∧ isE (s[k]).toNat = true) ∨
        (wr.cell? ⟨g, (s[k]).toNat, none⟩ = some (.slice none 0 0) ∧ escL [((s[k]).toNat : Int)] = [((s[k]).toNat : Int)] ∧ isE (s[k]).toNat = false) := by
       have lp : p < V.heap.size := World.block_lt_of_cell? V _ h5
       have lq : q < V.heap.size := World.block_lt_of_cell? V _ h8
       have hr := hrow' k hlt
       by_cases e1 : (s[k]).toNat = 34
       ·left
        refine ⟨p, cp, 92, 34, ?_, (hB.cell (p := ⟨p, 0, none⟩) lp).trans h5, (hB.cell (p := ⟨p, 1, none⟩) lp).trans h6, ?_, ?_⟩
        ·rw [hr]; simp [rowA, rowN, rowC, e1]
        ·simp [escL, e1]
        ·simp [isE, e1]
       ·by_cases e2 : (s[k]).toNat = 92
        ·left
         refine ⟨q, cq, 92, 92, ?_, (hB.cell (p := ⟨q, 0, none⟩) lq).trans h8, (hB.cell (p := ⟨q, 1, none⟩) lq).trans h9, ?_, ?_⟩
         ·rw [hr]; simp [rowA, rowN, rowC, e2]
         ·simp [escL, e2]
         ·simp [isE, e2]
        ·right
         have e3 : ((s[k]).toNat : Int) ≠ 34 := by omega
         have e4 : ((s[k]).toNat : Int) ≠ 92 := by omega
         refine ⟨?_, ?_, ?_⟩
         ·rw [hr]; simp [rowA, rowN, rowC, e1, e2]
         ·simp [escL, e3, e4]
         ·simp [isE, e1, e2]
      rcases hdec with ⟨x, cx, c1, c2, d1, d2, d3, d4, d5⟩ | ⟨d1, d2, d3⟩
      ·clear hrow'
       simp only [d5, if_true] at hx
       have hfit : k + ex ((sints s).take k) + 2 ≤ A.size := by have := ex_mono (sints s) (k + 1); omega
       have hcp := copy2 wr.drew V.heap.size (k + ex ((sints s).take k)) (s.size + ex (sints s) - (k + ex ((sints s).take k))) (s.size + ex (sints s) - (k + ex ((sints s).take k))) x cx A c1 c2 (show wr.drew.heap[V.heap.size]? = _ from hA1) (by omega) hfit (show wr.drew.cell? _ = _ from d2) (show wr.drew.cell? _ = _ from d3)
       go_wp2
       go_region
       go_wp2
       have hb := ex_tk s k
       have hL : ((escL ((sints s).take k)).map (Value.int .u8)).length = k + ex ((sints s).take k) := by rw [List.length_map, escL_len, List.length_take, sints_len]; omega
       refine ⟨⟨k + 1, _, by omega, by simp, ?_, setRow_heap wr.drew V.heap.size A _ 5 _ hA1, ?_, ?_, below_setRow hB.drew (Nat.le_refl _) _⟩, by simp [intOf]; omega⟩
       ·rw [hx]; go_arith
       ·simp only [List.size_toArray, List.length_append, List.length_cons, List.length_drop, Array.length_toList, hL]; omega
       ·rw [hx, escL_take s k hlt, d4, List.map_append]
        have e : (List.map (Value.int .u8) (escL ((sints s).take k)) ++ Value.int .u8 c1 :: Value.int .u8 c2 :: A.toList.drop (k + ex ((sints s).take k) + 2)) = (List.map (Value.int .u8) (escL ((sints s).take k)) ++ [Value.int .u8 c1, Value.int .u8 c2]) ++ A.toList.drop (k + ex ((sints s).take k) + 2) := by simp
        rw [e]
        exact List.take_left' (by simp only [List.length_append, hL, List.length_cons, List.length_nil]; omega)
      ·clear hrow'
       simp only [d3] at hx
       go_wp2
       have hb := ex_tk s k
       have hL : ((escL ((sints s).take k)).map (Value.int .u8)).length = k + ex ((sints s).take k) := by rw [List.length_map, escL_len, List.length_take, sints_len]; omega
       rw [setCell_eq_setRow wr V.heap.size (k + ex ((sints s).take k)) A 5 (0, 0) _ hA1]
       refine ⟨⟨k + 1, _, by omega, by simp, ?_, setRow_heap wr V.heap.size A _ 5 _ hA1, ?_, ?_, below_setRow hB (Nat.le_refl _) _⟩, by simp [intOf]; omega⟩
       ·rw [hx]; go_arith
       ·rw [Array.size_setIfInBounds]; exact hA2
       ·rw [hx, escL_take s k hlt, d2, List.map_append, ← hA3, Array.toList_setIfInBounds]
        have e : k + 1 + (ex ((sints s).take k) + if false = true then 1 else 0) = k + ex ((sints s).take k) + 1 := by simp; omega
        rw [e, List.take_succ_eq_append_getElem (by simpa using hjl)]
        simp
        first | rw [List.take_set_of_le (Nat.le_refl _)] | (rw [List.take_set, List.set_eq_of_length_le (by simp; omega)])
     ·have hk' : k = s.size := by omega
      subst hk'
      rw [htk] at hA3
      have hxl : (escL (sints s)).length = s.size + ex (sints s) := by rw [escL_len, sints_len]
      have hAl : A.toList = (escL (sints s)).map (Value.int .u8) := by
       rw [← hA3, List.take_of_length_le (by rw [Array.length_toList]; omega)]
      have hcv := run_convert_bytes_arg (P := Tryz.prog) wr 144 5 Tryz.underlying144 Tryz.underlying5 V.heap.size 0 (s.size + ex (sints s)) (s.size + ex (sints s)) (escL (sints s)) hxl (by
       intro i hi
       have hi' : i < A.size := by omega
       have h1 : wr.cell? ⟨V.heap.size, i, none⟩ = A[i]? := by simp [World.cell?, hA1]
       rw [Nat.zero_add, h1, ← Array.getElem?_toList, hAl, List.getElem?_map, List.getElem?_eq_getElem (by omega), List.getD_eq_getElem?_getD, List.getElem?_eq_getElem (by omega)]
       rfl) 9 Tryz.underlying9
      have hst : strOfNums (escL (sints s)) = bstr (escL (sints s)) := by rw [bstr_u]; rfl
      rw [hst] at hcv
      go_wp2
      go_returns
      exact ⟨rfl, hB0.trans (hB.mono hB0.size)⟩
theorem brep_c (W : World) (B g : Nat) (hR : RepAt W B g) (hBW : B ≤ W.heap.size) (s : ByteArray) (hs : s.size ≤ 1073741824) :
  Calls Tryz.prog 196 #[.pointer (some ⟨g, 0, none⟩), .string s] W fun e w' => e = .returned (.string (bstr (escL (sints s)))) ∧ Below W.heap.size W w' := by
 rcases Nat.lt_or_ge s.size 16 with h | h
 ·exact brep_short W B g hR hBW s hs h
 ·exact brep_long W B g hR hBW s hs h
end Go.Proofs.YtnfegieaaaigmaaGreatDoor
