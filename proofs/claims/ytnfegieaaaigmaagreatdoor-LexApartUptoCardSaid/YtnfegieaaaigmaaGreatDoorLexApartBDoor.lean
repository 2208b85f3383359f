/-
  The variables that the rows list: what they give a walk (the type error's handle; some greatest length); a world in which they lie so.
-/
import Derived.Test.YtnfegieaaaigmaaGreatDoorCards
import Derived.Test.YtnfegieaaaigmaaGreatDoorTie
import Derived.Test.YtnfegieaaaigmaaGreatDoorLexApartBErr
import Derived.Test.YtnfegieaaaigmaaGreatDoorShelf
import Derived.Stop.Joined
import Derived.LaidHandle
import Derived.LaidSub
import Derived.Lay
import Derived.Deep.DeepHandedRow
import Derived.JoinedCond
set_option linter.unusedVariables false
set_option maxRecDepth 100000
namespace Go.Proofs.YtnfegieaaaigmaaGreatDoor
open Go Go.RowKit

def lst : List (String × DataW Unit) := [("unicode/utf8.acceptRanges", Rows.laid_unicode_utf8_acceptRanges), ("errors.errorType", Rows.laid_errors_errorType), ("unicode/utf8.first", Rows.laid_unicode_utf8_first)]
def lst2 : List (String × DataW Unit) := [("unicode/utf8.acceptRanges", Rows.laid_unicode_utf8_acceptRanges), ("unicode/utf8.first", Rows.laid_unicode_utf8_first)]
theorem d_et : Tryz.prog.globalNamed "errors.errorType" = some 0 := by kernel_rfl
theorem d_rt : (Tryz.prog.cutTypes.find? (·.1 == "internal/reflectlite.rtype")).map (·.2) = some 146 := by kernel_rfl
theorem d_size : Tryz.prog.types.size = 274 := by kernel_rfl
theorem d_row : ((List.range 274).filter fun t => Tryz.prog.rowNamed t [101, 114, 114, 111, 114]) = [30] := by kernel_rfl
theorem d_isSome : (lst.filter fun x => x.2.handleName?.isSome) = [("errors.errorType", Rows.laid_errors_errorType)] := by kernel_rfl
theorem d_isNone : (lst.filter fun x => x.2.handleName?.isNone) = lst2 := by kernel_rfl
theorem handle_of_laid {W : World} (h : laidMetH Tryz.prog lst W) : W.cell? ⟨0, 0, none⟩ = some (.iface 146 (.agg #[.pointer (some ⟨4, 30, none⟩)])) := by
 obtain ⟨_, h2⟩ := laidMetH_iff.1 h
 rw [d_isSome] at h2
 obtain ⟨name, u, ty, e1, e2, e3, e4, e5⟩ := h2 _ (List.mem_singleton.2 rfl)
 have en : name = [101, 114, 114, 111, 114] := (Option.some.inj e1).symm
 subst en
 obtain rfl := Option.some.inj (d_rt.symm.trans e2)
 have hm : ty ∈ (List.range 274).filter fun t => Tryz.prog.rowNamed t [101, 114, 114, 111, 114] := List.mem_filter.2 ⟨List.mem_range.2 (by rw [← d_size]; exact e3), e4⟩
 rw [d_row] at hm
 obtain rfl := List.mem_singleton.1 hm
 have hh : typeHandle Tryz.prog 30 = .pointer (some ⟨4, 30, none⟩) := by kernel_rfl
 rw [hh] at e5
 simpa using World.var?_cell d_et e5 0
theorem gl_of {W : World} (h : laidMetH Tryz.prog lst W) (hs : W.ShapedOpen Tryz.prog) : Gl (.iface 146 (.agg #[.pointer (some ⟨4, 30, none⟩)])) (fun _ => 0) W :=
 ⟨rfl, rfl, handle_of_laid h, Tryz.laysM143.s1_3 W hs⟩

noncomputable def door0 (os : Os) : World :=
 { World.holding Tryz.prog os ⟨#[], #[], []⟩ with heap := (World.holding Tryz.prog os ⟨#[], #[], []⟩).heap.modify 0 fun
   | .cells _ t frozen => .cells #[.iface 146 (.agg #[.pointer (some ⟨4, 30, none⟩)])] t frozen
   | o => o }
noncomputable def door (os : Os) : World := (door0 os).layVars Tryz.prog lst2
theorem door_os (os : Os) : (door os).os = os := World.layVars_os _ _ _
theorem d_great : (lst2.filter fun x => (lst2.map (·.1)).contains x.1) = lst2 := List.filter_eq_self.2 fun x hx => List.contains_iff_mem.2 (List.mem_map.2 ⟨x, hx, rfl⟩)
theorem d_small : (lst2.filter fun x => !(lst2.map (·.1)).contains x.1) = [] := List.filter_eq_nil_iff.2 fun x hx => by rw [List.contains_iff_mem.2 (List.mem_map.2 ⟨x, hx, rfl⟩)]; simp
theorem d_fits (os : Os) : (door0 os).layFits Tryz.prog lst2 [] = true := by kernel_rfl
theorem d_ifaces (os : Os) : (door0 os).layIfaces Tryz.prog lst2 (door os) = true := by kernel_rfl
theorem d_data (os : Os) : laidMet Tryz.prog lst2 (door os) :=
 laidMet_layVars (w0 := door0 os) (lst2.map (·.1)) [] (by rw [d_great]; rfl) (by rw [d_great]; exact d_fits os) (by rw [d_great]; exact d_ifaces os) (by rw [d_small]; exact LaidIn.none)
theorem laid_met (os : Os) (args : Array Value) : laidMetH Tryz.prog lst ((door os).forCall (fun _ _ => 0) ⟨#[], args, []⟩).memory :=
 laidMetH_of_parts (by rw [d_isNone]; exact (d_data os).of_heap (by simp [World.memory, World.forCall, Input.heap])) (by kernel_rfl)
end Go.Proofs.YtnfegieaaaigmaaGreatDoor
