/-
  One rule for each operation that touches no memory, over function frames. Over any program.
-/
import Derived.Test.YtnfegieaaaigmaaGreatDoorLexApartBWp
import Derived.WalkLawsBesides
namespace Go.Proofs.YtnfegieaaaigmaaGreatDoor
open Go

section
variable {P : Program} {f : Fr} {w : World} {dst : Option Tmp} {t : Nat} {p : String} {af : Array Edge} {g : Option (Nat × Bool)} {x y c : Operand}

theorem r_move {v : Value} (hv : ev f x = v) :
  (execOp (ev f) ⟨dst, .move x, t, p, af, g⟩).run P w = .ok (.value (v)) w := by simp [execOp, hv, pure]
theorem r_assign {v : Value} (hv : ev f x = v) :
  (execOp (ev f) ⟨dst, .assign x, t, p, af, g⟩).run P w = .ok (.value (v)) w := by simp [execOp, hv, pure]
theorem r_pickT {v : Value} (hc : ev f c = .bool true) (hv : ev f x = v) :
  (execOp (ev f) ⟨dst, .pick c x y, t, p, af, g⟩).run P w = .ok (.value (v)) w := by simp [execOp, hv, hc, asBool]
theorem r_pickF {v : Value} (hc : ev f c = .bool false) (hv : ev f y = v) :
  (execOp (ev f) ⟨dst, .pick c x y, t, p, af, g⟩).run P w = .ok (.value (v)) w := by simp [execOp, hv, hc, asBool]

/-! integers -/
section
variable {xt yt : TypeId} {i : IntKind} (a b : Int)
theorem r_add (hx : ev f x = .int i a) (hy : ev f y = .int i b) :
  (execOp (ev f) ⟨dst, .binOp .add xt x y yt, t, p, af, g⟩).run P w = .ok (.value ((.int i (i.wrap (a + b))))) w := by simp [execOp, hx, hy, eqGuard, binOp, Op.intArith]
theorem r_sub (hx : ev f x = .int i a) (hy : ev f y = .int i b) :
  (execOp (ev f) ⟨dst, .binOp .sub xt x y yt, t, p, af, g⟩).run P w = .ok (.value ((.int i (i.wrap (a - b))))) w := by simp [execOp, hx, hy, eqGuard, binOp, Op.intArith]
theorem r_rem (hx : ev f x = .int i a) (hy : ev f y = .int i b) (h0 : b ≠ 0) :
  (execOp (ev f) ⟨dst, .binOp .rem xt x y yt, t, p, af, g⟩).run P w = .ok (.value ((.int i (a.tmod b)))) w := by simp [execOp, hx, hy, eqGuard, binOp, Op.intDiv, h0]

theorem r_lss (hx : ev f x = .int i a) (hy : ev f y = .int i b) :
  (execOp (ev f) ⟨dst, .binOp .lss xt x y yt, t, p, af, g⟩).run P w = .ok (.value ((.bool (decide (a < b))))) w := by simp [execOp, hx, hy, eqGuard, binOp, Op.intCmp]
theorem r_leq (hx : ev f x = .int i a) (hy : ev f y = .int i b) :
  (execOp (ev f) ⟨dst, .binOp .leq xt x y yt, t, p, af, g⟩).run P w = .ok (.value ((.bool (decide (a ≤ b))))) w := by simp [execOp, hx, hy, eqGuard, binOp, Op.intCmp]
theorem r_gtr (hx : ev f x = .int i a) (hy : ev f y = .int i b) :
  (execOp (ev f) ⟨dst, .binOp .gtr xt x y yt, t, p, af, g⟩).run P w = .ok (.value ((.bool (decide (b < a))))) w := by simp [execOp, hx, hy, eqGuard, binOp, Op.intCmp]
theorem r_geq (hx : ev f x = .int i a) (hy : ev f y = .int i b) :
  (execOp (ev f) ⟨dst, .binOp .geq xt x y yt, t, p, af, g⟩).run P w = .ok (.value ((.bool (decide (b ≤ a))))) w := by simp [execOp, hx, hy, eqGuard, binOp, Op.intCmp]
theorem r_eql (hx : ev f x = .int i a) (hy : ev f y = .int i b) :
  (execOp (ev f) ⟨dst, .binOp .eql xt x y yt, t, p, af, g⟩).run P w = .ok (.value ((.bool (decide (a = b))))) w := by simp [execOp, hx, hy, eqGuard, binOp, Op.intCmp]; rfl
theorem r_neq (hx : ev f x = .int i a) (hy : ev f y = .int i b) :
  (execOp (ev f) ⟨dst, .binOp .neq xt x y yt, t, p, af, g⟩).run P w = .ok (.value ((.bool (!decide (a = b))))) w := by simp [execOp, hx, hy, eqGuard, binOp, Op.intCmp]; rfl
end

theorem r_not {xt : TypeId} (b : Bool) (hx : ev f x = .bool b) :
  (execOp (ev f) ⟨dst, .unOp .not xt x, t, p, af, g⟩).run P w = .ok (.value ((.bool (!b)))) w := by simp [execOp, hx, Op.unary]
theorem r_extract {j : Nat} {vs : Array Value} {v : Value} (hx : ev f x = .tuple vs) (hv : vs[j]? = some v) :
  (execOp (ev f) ⟨dst, .extract x j, t, p, af, g⟩).run P w = .ok (.value (v)) w := by simp [execOp, hx, Instr.extract, hv]
theorem r_len {xt e : TypeId} {a : Option Addr} {n cap : Nat} (ht : P.underlying xt = some (.slice e)) (hx : ev f x = .slice a n cap) :
  (execOp (ev f) ⟨dst, .call { callee := .builtin .len, args := #[x], argTypes := #[xt] }, t, p, af, g⟩).run P w = .ok (.value ((.int .i64 n))) w := by simp [execOp, hx, resolve, invoke, builtin, Builtin.len_, run_underlying ht, goInt]
theorem r_lenS {xt : TypeId} {s : ByteArray} (ht : P.underlying xt = some .string) (hx : ev f x = .string s) :
  (execOp (ev f) ⟨dst, .call { callee := .builtin .len, args := #[x], argTypes := #[xt] }, t, p, af, g⟩).run P w = .ok (.value ((.int .i64 s.size))) w := by simp [execOp, hx, resolve, invoke, builtin, Builtin.len_, run_underlying ht, goInt]
end
end Go.Proofs.YtnfegieaaaigmaaGreatDoor

