/-
  Elements of arrays that lie in boxes; a loop that is gone through round by round. Over any program.
-/
import Derived.Test.YtnfegieaaaigmaaGreatDoorQueryParseBFloat
namespace Go.Proofs.YtnfegieaaaigmaaGreatDoor
open Go Go.RowKit

section
variable {P : Program} {f : Fr} {w : World} {t : Nat} {dst : Option Nat} {p : String} {af : Array Edge} {gd : Option (Nat × Bool)} {x y : Operand}
theorem r_idxA {xt e : TypeId} {len : Nat} {i : IntKind} {j : Int} {a : Option Addr} {sz : Nat} (ht : P.underlying xt = some (.array len e)) (hs : ∀ w, (sizeOf e).run P w = .ok sz w) (hx : ev f x = .pointer a) (hy : ev f y = .int i j)
  (h0 : 0 ≤ j) (hn : j < (len : Int)) (ha : ∃ b o, a = some ⟨b, o, none⟩) : (execOp (ev f) ⟨dst, .indexAddr xt x y, t, p, af, gd⟩).run P w = .ok (.value (.pointer (a.map (·.add (j.toNat * sz))))) w := by
 obtain ⟨b, o, rfl⟩ := ha
 simp [execOp, hx, hy, Instr.indexAt, asIntOf, run_underlying ht, h0, hn, hs, Instr.sureAddr]
end
end Go.Proofs.YtnfegieaaaigmaaGreatDoor
