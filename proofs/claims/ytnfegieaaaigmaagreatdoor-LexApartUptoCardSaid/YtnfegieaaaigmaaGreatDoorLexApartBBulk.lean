/-
  What the bound on an argument's bulk gives of its reading. Over any program.
-/
import Derived.Test.YtnfegieaaaigmaaGreatDoorRows
import Derived.Test.YtnfegieaaaigmaaGreatDoorLexApartBOpen
namespace Go.Proofs.YtnfegieaaaigmaaGreatDoor
open Go Go.RowKit

def BQ {α : Type} (R : ∀ {H : Type}, α → DataW H → Prop) (b : α → Nat) (Q : α → Prop) : Prop := ∀ {H : Type} (y : α) (d : DataW H), R y d → b y ≤ Rows.uptoBulk d ∧ Q y

abbrev RelI (k : IntKind) {H : Type} (y : Int) (d : DataW H) : Prop := d = .lit (.int k y) ∧ (Lit.int k y).wf = true
def bk1 {α : Type} : α → Nat := fun _ => 1
def bkS {α : Type} (b : α → Nat) : List α → Nat := fun ys => (ys.map b).sum + 1
def bkT : ByteArray → Nat := fun s => s.size + 1
def all' {α : Type} (Q : α → Prop) : List α → Prop := fun ys => ∀ y ∈ ys, Q y
def wfI (k : IntKind) : Int → Prop := fun y => (Lit.int k y).wf = true

theorem BQ.int {k : IntKind} : BQ (fun {H} (y : Int) (d : DataW H) => d = .lit (.int k y) ∧ (Lit.int k y).wf = true) bk1 (wfI k) := by
 rintro H y d ⟨rfl, h⟩
 exact ⟨by simp [bk1, Rows.uptoBulk], h⟩
theorem bulk_list {α : Type} {R : ∀ {H : Type}, α → DataW H → Prop} {b : α → Nat} {Q : α → Prop} (h : BQ R b Q) {H : Type} : ∀ (ys : List α) (ds : List (DataW H)), ds.length = ys.length → (∀ (i : Nat) (y : α) (e : DataW H), ys[i]? = some y → ds[i]? = some e → R y e) → (ys.map b).sum ≤ Rows.uptoBulkAll ds ∧ ∀ y ∈ ys, Q y
 | [], ds, _, _ => ⟨by simp, by simp⟩
 | y :: ys, [], hl, _ => by simp at hl
 | y :: ys, d :: ds, hl, hr => by
  obtain ⟨h1, h2⟩ := h y d (hr 0 y d rfl rfl)
  obtain ⟨h3, h4⟩ := bulk_list h ys ds (by simpa using hl) fun i y e hy he => hr (i + 1) y e (by simpa using hy) (by simpa using he)
  refine ⟨?_, fun z hz => ?_⟩
  ·simp only [List.map_cons, List.sum_cons, Rows.uptoBulkAll]; omega
  ·rcases List.mem_cons.1 hz with rfl | hz
   ·exact h2
   ·exact h4 z hz
theorem BQ.slice {α : Type} {R : ∀ {H : Type}, α → DataW H → Prop} {b : α → Nat} {Q : α → Prop} (h : BQ R b Q) : BQ (RL R) (bkS b) (all' Q) := by
 rintro H ys d (⟨rfl, rfl⟩ | ⟨ds, sp, rfl, h1, h2⟩)
 ·exact ⟨by simp [bkS, Rows.uptoBulk], by simp [all']⟩
 ·obtain ⟨h3, h4⟩ := bulk_list h ys ds h1 h2
  refine ⟨?_, h4⟩
  simp only [bkS, Rows.uptoBulk]
  omega

/-! Structs -/
end Go.Proofs.YtnfegieaaaigmaaGreatDoor
