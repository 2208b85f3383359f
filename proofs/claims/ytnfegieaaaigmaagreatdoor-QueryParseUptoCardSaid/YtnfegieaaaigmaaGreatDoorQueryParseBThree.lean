/-
  Slices with three bounds, of what stays. Over any program.
-/
import Derived.Test.YtnfegieaaaigmaaGreatDoorQueryParseBFloat
import Derived.Test.YtnfegieaaaigmaaGreatDoorQueryParseBQue
import Derived.Test.YtnfegieaaaigmaaGreatDoorQueryParseBLibSort
import Derived.Laws.BytesString
import Derived.Laws.Cells
set_option linter.unusedVariables false
namespace Go.Proofs.YtnfegieaaaigmaaGreatDoor
open Go Go.RowKit

section
variable {P : Program} {b : Frame} {a : Act} {k : List Item} {cs : List Frame} {w : World}
theorem stepR_scope {c : Code} : step P (lone (b.atR a (.code (.scope c) :: k)) cs w) = .next (lone (b.atR a (.code c :: .inScope c :: k)) cs w) :=
 step_lone_go (by simp [stepG, stepG.exec, Frame.atR])
theorem stepR_inScope {c : Code} : step P (lone (b.atR a (.inScope c :: k)) cs w) = .next (lone (b.atR a k) cs w) :=
 step_lone_go (by simp [stepG, stepG.exec, Frame.atR])
end
section
variable {P : Program} {m : Nat} {rd : Option Nat} {N R : Fr → World → Prop} {E : Nat → Fr → World → Prop} {f : Fr} {w : World}
theorem wscope {c : Code} (h : Wp P m rd c N R E f w) : Wp P m rd (.scope c) N R E f w := by
 intro a ha b k cs hro hb hr
 obtain ⟨e, a₁, w₁, hq, harr⟩ := h a ha b (.inScope c :: k) cs hro hb hr
 cases e with
 | normal => exact ⟨.normal, a₁, w₁, hq, .head (fenced_calm hb hr rfl) stepR_scope (StepsIn.trans harr (.one (fenced_calm hb hr rfl) stepR_inScope))⟩
 | exit id =>
  have hx : exitTo id (.inScope c :: k) = exitTo id k := by simp [exitTo]
  exact ⟨.exit id, a₁, w₁, hq, fun k' hk => .head (fenced_calm hb hr rfl) stepR_scope (harr.1 k' (by rw [hx]; exact hk)),
   fun hr' hk => let ⟨k₁, h1, h2⟩ := harr.2 hr' (by rw [hx]; exact hk); ⟨k₁, h1, .head (fenced_calm hb hr rfl) stepR_scope h2⟩⟩
 | ret => exact ⟨.ret, a₁, w₁, hq, .of_steps (.one (fenced_calm hb hr rfl) stepR_scope) harr⟩
 | goto l => exact hq.elim
 | panic ch => exact hq.elim
 | outgrown => exact hq.elim
theorem wlabel {l : Nat} (h : N f w) : Wp P m rd (.label l) N R E f w := fun _ ha => wpIn_label ⟨f, ha, h⟩
end
def bstr (xs : List Int) : ByteArray := xs.foldl (fun r n => r.push (UInt8.ofNat n.toNat)) ByteArray.empty
section
variable {P : Program} {f : Fr} {w : World} {t : Nat} {dst : Option Nat} {p : String} {af : Array Edge} {S D e c c2 cap : Nat} {col : Col} {a : Option Addr} {x : Operand} {xs : List Int}
theorem r_bytesStr (h : SrcC (Rep.int .u8) c c2 col w a xs) (hS : P.underlying S = some (.slice e)) (he : P.underlying e = some (.int .u8)) (hD : P.underlying D = some .string) (hx : ev f x = .slice a xs.length cap) :
  (execOp (ev f) ⟨dst, .convert S D x, t, p, af, none⟩).run P w = .ok (.value (.string (bstr xs))) w := by
 obtain ⟨by2, h, _, _⟩ := h
 have hc : (convert S D (.slice a xs.length cap)).run P w = .ok (.string (bstr xs)) w := by
  rw [run_convert_bytes_string w S D e a xs.length cap hS he hD]
  rcases h with ⟨rfl, _⟩ | ⟨b, o, fl, rfl, hr, hx2⟩
  ·cases a with
   | none => simp [Conv.bytesToString, bstr, Sem.run_pure]
   | some A =>
    have := run_bytesToString (P := P) w A 0 cap [] (by simp [loadCells, loadCellsFrom])
    simpa [bstr] using this
  ·obtain ⟨rfl, rfl⟩ := rows_int hr
   have := run_loadCells_list (P := P) (w := w) ⟨b, o, none⟩ (xs.map (Value.int .u8)) (fun j v hj => by rw [add_mk]; exact hx2 j v hj)
   rw [List.length_map] at this
   exact run_bytesToString w ⟨b, o, none⟩ xs.length cap xs this
 simp [execOp, hx, hc]
end
end Go.Proofs.YtnfegieaaaigmaaGreatDoor
