/-
  The library's replacer of bytes by texts: how it is made and how it replaces.
-/
import Derived.Test.YtnfegieaaaigmaaGreatDoorLexApartBRepP
set_option linter.unusedVariables false
set_option maxRecDepth 100000
set_option maxHeartbeats 3200000
namespace Go.Proofs.YtnfegieaaaigmaaGreatDoor
open Go Go.RowKit
def FreshAt (W : World) (B b : Nat) : Prop :=
 ∃ ab cap : Nat, B ≤ b ∧ B ≤ ab ∧ ab ≠ b ∧ W.cell? ⟨b, 0, none⟩ = some (.int .u32 0) ∧ W.cell? ⟨b, 1, none⟩ = some (.int .i32 0) ∧ W.cell? ⟨b, 3, none⟩ = some .nilIface ∧ W.cell? ⟨b, 4, none⟩ = some (.slice (some ⟨ab, 0, none⟩) 4 cap) ∧
  (∀ k, W.frozen? ⟨b, k, none⟩ = false) ∧
  W.cell? ⟨ab, 0, none⟩ = some (.string ⟨#[92]⟩) ∧ W.cell? ⟨ab, 1, none⟩ = some (.string ⟨#[92, 92]⟩) ∧ W.cell? ⟨ab, 2, none⟩ = some (.string ⟨#[34]⟩) ∧ W.cell? ⟨ab, 3, none⟩ = some (.string ⟨#[92, 34]⟩)
theorem new_c (a : Nat) (w : World)
  (k0 : w.cell? ⟨a, 0, none⟩ = some (.string ⟨#[92]⟩)) (k1 : w.cell? ⟨a, 1, none⟩ = some (.string ⟨#[92, 92]⟩)) (k2 : w.cell? ⟨a, 2, none⟩ = some (.string ⟨#[34]⟩)) (k3 : w.cell? ⟨a, 3, none⟩ = some (.string ⟨#[92, 34]⟩)) :
  Calls Tryz.prog 40 #[.slice (some ⟨a, 0, none⟩) 4 4] w fun e w' => ∃ b, e = .returned (.pointer (some ⟨b, 0, none⟩)) ∧ FreshAt w' w.heap.size b ∧ Below w.heap.size w w' := by
 go_enter Tryz.func40, Tryz.ntmps40
 go_wp2
 go_returns
 refine ⟨w.heap.size + 1, rfl, ?_, by go_grown⟩
 refine ⟨w.heap.size, _, by omega, by omega, by omega, by simp [go_sem], by simp [go_sem], by simp [go_sem], (by simp [go_sem]; rfl), ?_, ?_, ?_, ?_, ?_⟩
 ·intro k; simp [go_sem]
 all_goals (simp [go_sem]; rw [Array.getElem?_append_left (by simp)]; rfl)
theorem after_c (b g B : Nat) (w w1 : World) (y0 y1 y3 y4 : Value) (x3 : Value) (lb : b < w.heap.size) (hb : B ≤ b) (hR : RepAt w1 w.heap.size g) (hB : Below w.heap.size (w.setCell ⟨b, 1, none⟩ y1) w1) (h3 : w.cell? ⟨b, 3, none⟩ = some x3) (y4' y0' y1' : Value) :
  let W := (((((w1.setCell ⟨b, 3, none⟩ y3).setCell ⟨b, 4, none⟩ y4).drew).setCell ⟨b, 0, none⟩ y0).setCell ⟨b, 1, none⟩ y1')
  W.cell? ⟨b, 3, none⟩ = some y3 ∧ RepAt W w.heap.size g ∧ w.heap.size ≤ W.heap.size ∧ Below B w W := by
 have e3 : w1.cell? ⟨b, 3, none⟩ = some x3 := (hB.cell (p := ⟨b, 3, none⟩) (by simpa using lb)).trans (by simpa [go_sem] using h3)
 intro W
 refine ⟨?_, ?_, ?_, ?_⟩
 ·simp [W, go_sem, e3]
 ·refine hR.keep fun n i v hn hv => ?_
  have hne : n ≠ b := by omega
  simp only [W]
  rw [World.cell?_setCell_other _ _ _ _ (by simp [hne]), World.cell?_setCell_other _ _ _ _ (by simp [hne]), World.cell?_drew, World.cell?_setCell_other _ _ _ _ (by simp [hne]), World.cell?_setCell_other _ _ _ _ (by simp [hne])]
  exact hv
 ·have := hB.size
  simpa [W] using this
 ·have h1 : Below B w (w.setCell ⟨b, 1, none⟩ y1) := (Below.refl B w).setCell (p := ⟨b, 1, none⟩) hb y1
  have h2 : Below B w w1 := h1.trans (hB.mono (by omega))
  exact ((((h2.setCell (p := ⟨b, 3, none⟩) hb _).setCell (p := ⟨b, 4, none⟩) hb _).drew).setCell (p := ⟨b, 0, none⟩) hb _).setCell (p := ⟨b, 1, none⟩) hb _
theorem replace_c (b B : Nat) (w : World) (s r : ByteArray) (hF : FreshAt w B b)
  (hrep : ∀ (W : World) (B' g : Nat), RepAt W B' g → B' ≤ W.heap.size → Calls Tryz.prog 196 #[.pointer (some ⟨g, 0, none⟩), .string s] W fun e w' => e = .returned (.string r) ∧ Below W.heap.size W w') :
  Calls Tryz.prog 41 #[.pointer (some ⟨b, 0, none⟩), .string s] w fun e w' => e = .returned (.string r) ∧ Below B w w' := by
 obtain ⟨ab, cap, hb, hab, hne, c0, c1, c3, c4, fz, k0, k1, k2, k3⟩ := hF
 have lb : b < w.heap.size := World.block_lt_of_cell? w _ c0
 have lab : ab < w.heap.size := World.block_lt_of_cell? w _ k0
 go_enter Tryz.func41, Tryz.ntmps41
 have hbo := buildOnce_c b ab cap (w.setCell ⟨b, 1, none⟩ (.int .i32 1)) .nilIface (by simpa [go_sem] using c3) (by simpa [go_sem] using c4) (by simpa [go_sem] using fz 3) (by simpa [go_sem] using fz 4)
  ((World.cell?_setCell_other _ ⟨b, 1, none⟩ ⟨ab, 0, none⟩ _ (by simp [hne])).trans k0) ((World.cell?_setCell_other _ ⟨b, 1, none⟩ ⟨ab, 1, none⟩ _ (by simp [hne])).trans k1) ((World.cell?_setCell_other _ ⟨b, 1, none⟩ ⟨ab, 2, none⟩ _ (by simp [hne])).trans k2) ((World.cell?_setCell_other _ ⟨b, 1, none⟩ ⟨ab, 3, none⟩ _ (by simp [hne])).trans k3)
 simp only [World.size_setCell] at hbo
 have hdo := o_do b ⟨b, 0, none⟩ w (fun w' => ∃ g w1, RepAt w1 w.heap.size g ∧ Below w.heap.size (w.setCell ⟨b, 1, none⟩ (.int .i32 1)) w1 ∧
   w' = (w1.setCell ⟨b, 3, none⟩ (.iface 191 (.pointer (some ⟨g, 0, none⟩)))).setCell ⟨b, 4, none⟩ (.slice none 0 0)) c0 c1 (fz 0) (fz 1) (hbo.mono (by
  rintro e w' ⟨rfl, g, w1, hR, hB, rfl⟩
  have e0 := hB.cell (p := ⟨b, 0, none⟩) (by simpa using lb)
  have e1 := hB.cell (p := ⟨b, 1, none⟩) (by simpa using lb)
  have f0 := hB.frozen (p := ⟨b, 0, none⟩) (by simpa using lb)
  have f1 := hB.frozen (p := ⟨b, 1, none⟩) (by simpa using lb)
  refine ⟨rfl, ⟨g, w1, hR, hB, rfl⟩, ?_, ?_, ?_, ?_⟩
  ·simp [go_sem, e0, c0]
  ·simp [go_sem, e1, c1]
  ·simp [go_sem, f0, fz]
  ·simp [go_sem, f1, fz]))
 go_wp2_with (go_at_call 79; refine hdo.mono ?_; rintro e w' ⟨rfl, w2, ⟨g, w1, hR, hB, rfl⟩, rfl⟩; obtain ⟨d3, dR, dS, dB⟩ := after_c b g B w w1 (.int .u32 1) (.int .i32 1) (.iface 191 (.pointer (some ⟨g, 0, none⟩))) (.slice none 0 0) .nilIface lb hb hR hB c3 .nilIface .nilIface (.int .i32 0); revert d3 dR dS dB; generalize ((((w1.setCell _ _).setCell _ _).drew.setCell _ _).setCell _ _) = W; intro d3 dR dS dB)
 go_wp2_with (go_at_call 196; refine (hrep W w.heap.size g dR dS).mono ?_; rintro e w' ⟨rfl, hB'⟩)
 all_goals (first | (go_returns; exact ⟨rfl, dB.trans (hB'.mono (by omega))⟩) | trace_state)
end Go.Proofs.YtnfegieaaaigmaaGreatDoor
