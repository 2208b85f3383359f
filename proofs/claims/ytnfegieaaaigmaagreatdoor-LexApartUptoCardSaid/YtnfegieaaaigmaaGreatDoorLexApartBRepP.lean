/-
  The library's replacer of bytes by texts: how it is built.
-/
import Derived.Test.YtnfegieaaaigmaaGreatDoorLexApartBOncP
import Derived.Handy
import Derived.Lib.SliceRun
import Derived.WalkSpells
set_option linter.unusedVariables false
set_option maxRecDepth 100000
set_option maxHeartbeats 3200000
namespace Go.Proofs.YtnfegieaaaigmaaGreatDoor
open Go Go.RowKit
theorem mk2 (w : World) : (Instr.makeSlice 47 (.int .i64 0) (.int .i64 2)).run Tryz.prog w = .ok (.slice (some ⟨w.heap.size, 0, none⟩) 0 2) (w.alloc (.cells #[.string ⟨#[]⟩, .string ⟨#[]⟩] 9)) := by kernel_rfl
noncomputable def repC (v : Value) : Array Value := (Tryz.zeroCells190.toList.set 256 v).toArray
theorem repC_size (v : Value) : (repC v).size = 257 := by unfold repC; simp only [List.size_toArray, List.length_set]; rfl
theorem repC_last (v : Value) : (repC v)[256]? = some v := by
 unfold repC
 simp only [List.getElem?_toArray]
 rw [List.getElem?_set_self]
 show 256 < List.length _
 decide +kernel
theorem repC_zero : ∀ k : Fin 256, Tryz.zeroCells190.toList[k.1]? = some (.slice none 0 0) := by
 have : (List.finRange 256).all (fun k => match Tryz.zeroCells190.toList[k.1]? with | some (.slice none 0 0) => true | _ => false) = true := by kernel_rfl
 intro k
 have h := List.all_eq_true.1 this k (List.mem_finRange k)
 revert h
 split
 ·rename_i e; intro _; exact e
 ·intro h; cases h
theorem repC_get (v : Value) (k : Nat) (hk : k < 256) : (repC v)[k]? = some (.slice none 0 0) := by
 unfold repC
 rw [List.getElem?_toArray, List.getElem?_set_ne (by omega)]
 exact repC_zero ⟨k, hk⟩
theorem setRow_alloc (w : World) (A C : Array Value) (t : TypeId) : (w.alloc (.cells A t)).setRow w.heap.size C = w.alloc (.cells C t) := by
 unfold World.setRow World.alloc
 congr 1
 apply Array.ext
 ·simp
 ·intro k h1 h2
  simp only [Array.getElem_modify, Array.getElem_push]
  simp only [Array.size_push] at h2
  by_cases hk : w.heap.size = k
  ·subst hk; simp
  ·simp [hk, show k < w.heap.size by omega]
theorem rep_stores (Z : Array Value) (t : TypeId) (i : Nat) (w : World) (v : Value) (hz : Z.toList.all (fun x => x.oneCell') = true) (hv : v.oneCell' = true) :
  (storeCells ⟨w.heap.size, 0, none⟩ (Z.toList.set i v)).run Tryz.prog (w.alloc (.cells Z t)) = .ok () (w.alloc (.cells (Z.toList.set i v).toArray t)) := by
 have h := run_storeCells_from (P := Tryz.prog) w.heap.size t (Z.toList.set i v) 0 Z (w.alloc (.cells Z t)) (by show (w.heap.push _)[w.heap.size]? = _; rw [Array.getElem?_push_size]) (by rw [Nat.zero_add, List.length_set, Array.length_toList]) (by
  intro x hx
  rcases List.mem_or_eq_of_mem_set hx with h | h
  ·exact List.all_eq_true.1 hz x h
  ·subst h; exact hv)
 rw [setRow_alloc] at h
 exact h
theorem rep_all : Tryz.zeroCells190.toList.all (fun x => x.oneCell') = true := by kernel_rfl
theorem rep_store (w : World) (v : Value) (hv : v.oneCell' = true) (g : Nat) (hg : g = w.heap.size) :
  (storeCells ⟨g, 0, none⟩ (Tryz.zeroCells190.toList.set 256 v)).run Tryz.prog (w.alloc (.cells Tryz.zeroCells190 190)) = .ok () (w.alloc (.cells (repC v) 190)) := by
 subst hg
 exact rep_stores _ _ _ w v rep_all hv
theorem str1 (w : World) (n : Nat) (s : ByteArray) (hs : strOfNums [(n : Int)] = s) (g : Nat) (hg : w.cell? ⟨g, 0, none⟩ = some (.int .u8 n)) :
  (convert 144 9 (.slice (some ⟨g, 0, none⟩) 1 1)).run Tryz.prog w = .ok (.string s) w := by
 subst hs
 refine run_convert_bytes_arg _ 144 5 Tryz.underlying144 Tryz.underlying5 g 0 1 1 [(n : Int)] rfl ?_ 9 Tryz.underlying9
 intro i hi
 have : i = 0 := by omega
 subst this
 simpa using hg
theorem brow (x y : UInt8) (n : Nat) : (bytesRow ⟨#[x, y]⟩ n)[0]? = some (.int .u8 x.toNat) ∧ (bytesRow ⟨#[x, y]⟩ n)[1]? = some (.int .u8 y.toNat) := by
 unfold bytesRow
 constructor
 ·rw [Array.getElem?_append_left (by simp)]; simp
 ·rw [Array.getElem?_append_left (by simp)]; simp
theorem cell_mark (w : World) (C : Array Value) (t : TypeId) (fr : Nat × Nat) (j n : Nat) (hn : n = w.heap.size) : (w.alloc (.cells C t fr)).cell? ⟨n, j, none⟩ = C[j]? := by
 subst hn
 exact World.cell?_alloc_mark w C t fr j
def RepAt (W : World) (B g : Nat) : Prop :=
 ∃ r p cp q cq : Nat, (B ≤ g ∧ B ≤ r ∧ B ≤ p ∧ B ≤ q) ∧ W.cell? ⟨g, 256, none⟩ = some (.slice (some ⟨r, 0, none⟩) 2 2) ∧ W.cell? ⟨r, 0, none⟩ = some (.string ⟨#[34]⟩) ∧ W.cell? ⟨r, 1, none⟩ = some (.string ⟨#[92]⟩) ∧
  W.cell? ⟨g, 34, none⟩ = some (.slice (some ⟨p, 0, none⟩) 2 cp) ∧ W.cell? ⟨p, 0, none⟩ = some (.int .u8 92) ∧ W.cell? ⟨p, 1, none⟩ = some (.int .u8 34) ∧
  W.cell? ⟨g, 92, none⟩ = some (.slice (some ⟨q, 0, none⟩) 2 cq) ∧ W.cell? ⟨q, 0, none⟩ = some (.int .u8 92) ∧ W.cell? ⟨q, 1, none⟩ = some (.int .u8 92) ∧
  ∀ k, k < 256 → k ≠ 34 → k ≠ 92 → W.cell? ⟨g, k, none⟩ = some (.slice none 0 0)
theorem RepAt.keep {W W' : World} {B g : Nat} (h : RepAt W B g) (hk : ∀ (n i : Nat) (v : Value), B ≤ n → W.cell? ⟨n, i, none⟩ = some v → W'.cell? ⟨n, i, none⟩ = some v) : RepAt W' B g := by
 obtain ⟨r, p, cp, q, cq, ⟨b1, b2, b3, b4⟩, h1, h2, h3, h4, h5, h6, h7, h8, h9, hz⟩ := h
 exact ⟨r, p, cp, q, cq, ⟨b1, b2, b3, b4⟩, hk _ _ _ b1 h1, hk _ _ _ b2 h2, hk _ _ _ b2 h3, hk _ _ _ b1 h4, hk _ _ _ b3 h5, hk _ _ _ b3 h6, hk _ _ _ b1 h7, hk _ _ _ b4 h8, hk _ _ _ b4 h9, fun k k1 k2 k3 => hk _ _ _ b1 (hz k k1 k2 k3)⟩
theorem build_c (b ab cap : Nat) (w : World) (h4 : w.cell? ⟨b, 4, none⟩ = some (.slice (some ⟨ab, 0, none⟩) 4 cap))
  (k0 : w.cell? ⟨ab, 0, none⟩ = some (.string ⟨#[92]⟩)) (k1 : w.cell? ⟨ab, 1, none⟩ = some (.string ⟨#[92, 92]⟩)) (k2 : w.cell? ⟨ab, 2, none⟩ = some (.string ⟨#[34]⟩)) (k3 : w.cell? ⟨ab, 3, none⟩ = some (.string ⟨#[92, 34]⟩)) :
  Calls Tryz.prog 100 #[.pointer (some ⟨b, 0, none⟩)] w fun e w' => ∃ g, e = .returned (.iface 191 (.pointer (some ⟨g, 0, none⟩))) ∧ RepAt w' w.heap.size g ∧ Below w.heap.size w w' := by
 have qT : ∀ (w : World) (a : Option Addr) (n c n' c' : Nat), (binOp .eql 144 (.slice a n c) (.slice none n' c')).run Tryz.prog w = .ok (.bool a.isNone) w := fun w a n c n' c' => Lib.run_eql_slice_nil w _ _ a n c n' c' Tryz.underlying144
 have hmk := mk2
 have s34 := fun w g hg => str1 w 34 ⟨#[34]⟩ rfl g hg
 have s92 := fun w g hg => str1 w 92 ⟨#[92]⟩ rfl g hg
 simp only [Int.cast_ofNat_Int] at s34 s92
 have sb := fun (w : World) (s : ByteArray) => run_bytes_of_string (P := Tryz.prog) w 9 144 5 s Tryz.underlying9 Tryz.underlying144 Tryz.underlying5
 have q34 : ∀ h, ((⟨#[34]⟩ : ByteArray)[0]'h).toNat = 34 := fun _ => rfl
 have q92 : ∀ h, ((⟨#[92]⟩ : ByteArray)[0]'h).toNat = 92 := fun _ => rfl
 go_enter Tryz.func100, Tryz.ntmps100
 go_wp2
 go_rounds 3
 have hrs : ∀ (w1 : World) (a : Addr) (n c : Nat) (g : Nat), g = w1.heap.size → (storeCells ⟨g, 0, none⟩ (Tryz.zeroCells190.toList.set 256 (.slice (some a) n c))).run Tryz.prog (w1.alloc (.cells Tryz.zeroCells190 190)) = .ok () (w1.alloc (.cells (repC (.slice (some a) n c)) 190)) := fun w1 a n c g hg => rep_store w1 _ rfl g hg
 rw [hrs _ _ _ _ _ (by simp [go_sem])]
 have lab : ab < w.heap.size := World.block_lt_of_cell? w _ k0
 have lab1 : ab < w.heap.size + 1 := by omega
 have nab1 : ab ≠ w.heap.size + 1 := by omega
 have lab2 : ab < w.heap.size + 1 + 1 := by omega
 have nab2 : ab ≠ w.heap.size + 1 + 1 := by omega
 have lab3 : ab < w.heap.size + 1 + 1 + 1 := by omega
 have nab3 : ab ≠ w.heap.size + 1 + 1 + 1 := by omega
 have lab4 : ab < w.heap.size + 1 + 1 + 1 + 1 := by omega
 have nab4 : ab ≠ w.heap.size + 1 + 1 + 1 + 1 := by omega
 have lab5 : ab < w.heap.size + 1 + 1 + 1 + 1 + 1 := by omega
 have nab5 : ab ≠ w.heap.size + 1 + 1 + 1 + 1 + 1 := by omega
 have lab6 : ab < w.heap.size + 1 + 1 + 1 + 1 + 1 + 1 := by omega
 have nab6 : ab ≠ w.heap.size + 1 + 1 + 1 + 1 + 1 + 1 := by omega
 have lab7 : ab < w.heap.size + 1 + 1 + 1 + 1 + 1 + 1 + 1 := by omega
 have nab7 : ab ≠ w.heap.size + 1 + 1 + 1 + 1 + 1 + 1 + 1 := by omega
 have lab8 : ab < w.heap.size + 1 + 1 + 1 + 1 + 1 + 1 + 1 + 1 := by omega
 have nab8 : ab ≠ w.heap.size + 1 + 1 + 1 + 1 + 1 + 1 + 1 + 1 := by omega
 have lab9 : ab < w.heap.size + 1 + 1 + 1 + 1 + 1 + 1 + 1 + 1 + 1 := by omega
 have nab9 : ab ≠ w.heap.size + 1 + 1 + 1 + 1 + 1 + 1 + 1 + 1 + 1 := by omega
 have lab10 : ab < w.heap.size + 1 + 1 + 1 + 1 + 1 + 1 + 1 + 1 + 1 + 1 := by omega
 have nab10 : ab ≠ w.heap.size + 1 + 1 + 1 + 1 + 1 + 1 + 1 + 1 + 1 + 1 := by omega
 have nab : ab ≠ w.heap.size := by omega
 have hC34 := repC_get (.slice (some ⟨w.heap.size, 0, none⟩) 0 2) 34 (by omega)
 have hC92 := repC_get (.slice (some ⟨w.heap.size, 0, none⟩) 0 2) 92 (by omega)
 have hL := repC_last (.slice (some ⟨w.heap.size, 0, none⟩) 0 2)
 have hz := repC_size (.slice (some ⟨w.heap.size, 0, none⟩) 0 2)
 have hCk := repC_get (.slice (some ⟨w.heap.size, 0, none⟩) 0 2)
 generalize repC (.slice (some ⟨w.heap.size, 0, none⟩) 0 2) = C at *
 have gC34 : ∀ h, C[34]'h = .slice none 0 0 := fun h => by have := Array.getElem?_eq_getElem h; rw [hC34] at this; exact (Option.some.inj this).symm
 have gC92 : ∀ h, C[92]'h = .slice none 0 0 := fun h => by have := Array.getElem?_eq_getElem h; rw [hC92] at this; exact (Option.some.inj this).symm
 have gL : ∀ h, C[256]'h = .slice (some ⟨w.heap.size, 0, none⟩) 0 2 := fun h => by have := Array.getElem?_eq_getElem h; rw [hL] at this; exact (Option.some.inj this).symm
 go_wp2
 go_rounds 3
 go_returns
 refine ⟨w.heap.size + 1, rfl, ?_, by go_grown⟩
 refine ⟨w.heap.size, w.heap.size + 1 + 1 + 1 + 1, ?_, w.heap.size + 1 + 1 + 1 + 1 + 1 + 1 + 1, ?_, ?_⟩
 rotate_left 2
 refine ⟨by omega, ?_, ?_, ?_, ?_, ?_, ?_, ?_, ?_, ?_, ?_⟩
 ·simp [go_sem, hz]
 ·simp [go_sem, hz]
 ·simp [go_sem, hz]
 ·simp [go_sem, hz]; rfl
 ·simp [go_sem]; exact (cell_mark _ _ _ _ _ _ (by simp [go_sem])).trans (brow 92 34 _).1
 ·simp [go_sem]; exact (cell_mark _ _ _ _ _ _ (by simp [go_sem])).trans (brow 92 34 _).2
 ·simp [go_sem, hz]; rfl
 ·simp [go_sem]; exact (cell_mark _ _ _ _ _ _ (by simp [go_sem])).trans (brow 92 92 _).1
 ·simp [go_sem]; exact (cell_mark _ _ _ _ _ _ (by simp [go_sem])).trans (brow 92 92 _).2
 ·intro k hk h34 h92
  have n1 : (34 : Nat) ≠ k := Ne.symm h34
  have n2 : (92 : Nat) ≠ k := Ne.symm h92
  have n3 : (256 : Nat) ≠ k := by omega
  simp [go_sem, Array.getElem?_setIfInBounds, n1, n2, n3, hCk k hk]
theorem buildOnce_c (b ab cap : Nat) (w : World) (y : Value) (h3 : w.cell? ⟨b, 3, none⟩ = some y) (h4 : w.cell? ⟨b, 4, none⟩ = some (.slice (some ⟨ab, 0, none⟩) 4 cap)) (f3 : w.frozen? ⟨b, 3, none⟩ = false) (f4 : w.frozen? ⟨b, 4, none⟩ = false)
  (k0 : w.cell? ⟨ab, 0, none⟩ = some (.string ⟨#[92]⟩)) (k1 : w.cell? ⟨ab, 1, none⟩ = some (.string ⟨#[92, 92]⟩)) (k2 : w.cell? ⟨ab, 2, none⟩ = some (.string ⟨#[34]⟩)) (k3 : w.cell? ⟨ab, 3, none⟩ = some (.string ⟨#[92, 34]⟩)) :
  Calls Tryz.prog 80 #[.pointer (some ⟨b, 0, none⟩)] w fun e w' => e = .returned (.tuple #[]) ∧ ∃ g w1, RepAt w1 w.heap.size g ∧ Below w.heap.size w w1 ∧
   w' = (w1.setCell ⟨b, 3, none⟩ (.iface 191 (.pointer (some ⟨g, 0, none⟩)))).setCell ⟨b, 4, none⟩ (.slice none 0 0) := by
 have lb : b < w.heap.size := World.block_lt_of_cell? w _ h3
 go_enter Tryz.func80, Tryz.ntmps80
 go_wp2_with (go_at_call 100; refine (build_c b ab cap w h4 k0 k1 k2 k3).mono ?_; rintro e w' ⟨g, rfl, hR, hB⟩; have e3 : w'.cell? ⟨b, 3, none⟩ = some y := (hB.cell (p := ⟨b, 3, none⟩) lb).trans h3; have e4 : w'.cell? ⟨b, 4, none⟩ = some (.slice (some ⟨ab, 0, none⟩) 4 cap) := (hB.cell (p := ⟨b, 4, none⟩) lb).trans h4; have z3 : w'.frozen? ⟨b, 3, none⟩ = false := (hB.frozen (p := ⟨b, 3, none⟩) lb).trans f3; have z4 : w'.frozen? ⟨b, 4, none⟩ = false := (hB.frozen (p := ⟨b, 4, none⟩) lb).trans f4)
 go_wp2

 go_returns
 exact ⟨rfl, g, w', hR, hB, rfl⟩
end Go.Proofs.YtnfegieaaaigmaaGreatDoor
