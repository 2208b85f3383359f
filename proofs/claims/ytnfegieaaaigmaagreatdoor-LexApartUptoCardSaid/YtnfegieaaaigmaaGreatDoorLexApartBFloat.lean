/-
  A region that draws its order, in which one variable is made at a time that is left open: its operations in one order that stands for all; the variable's making stands ahead of its first use. Over any program.
-/
import Derived.Test.YtnfegieaaaigmaaGreatDoorLexApartBTwo
namespace Go.Proofs.YtnfegieaaaigmaaGreatDoor
open Go Go.RowKit


/-! ### colours: what is new bears none that anybody has -/

section
variable {P : Program} {m : Nat} {rd : Option Nat} {f : Fr} {w : World} {ops : Array Oper} {K : Fr → World → Prop} {rest : List Oper} {d t : Nat} {p : String} {af : Array Edge} {x : Operand}
theorem lM (v : Value) (k : WpL P m rd ops K rest (upd f d v) w) (h : ev f x = v := by rfl) (hd : Nat.blt d m = true := by rfl) : WpL P m rd ops K (⟨some d, .move x, t, p, af, none⟩ :: rest) f w := lV v (r_move h) k hd
theorem lA (v : Value) (k : WpL P m rd ops K rest (upd f d v) w) (h : ev f x = v := by rfl) (hd : Nat.blt d m = true := by rfl) : WpL P m rd ops K (⟨some d, .assign x, t, p, af, none⟩ :: rest) f w := lV v (r_assign h) k hd
end
/-! shorter words for frequent steps -/
section
variable {P : Program} {m : Nat} {rd : Option Nat} {f : Fr} {col : Col} {w : World} {ops : Array Oper} {K : Fr → World → Prop} {rest : List Oper} {d d2 t t2 : Nat} {p p2 : String} {af af2 : Array Edge} {x y : Operand} {T T2 e c : Nat}
theorem lF {fs : Array Field} {i sz : Nat} {fd : Field} (g off : Nat) (hT : P.underlying T = some (.struct fs)) (hf : fs[i]? = some fd) (hs : ∀ w, (sizeOf fd.type).run P w = .ok sz w)
  (k : WpL P m rd ops K rest (upd f d (.pointer ((some (⟨g, 0, none⟩ : Addr)).map (·.add off)))) w) (h0 : sz ≠ 0 := by decide) (ho : fd.offset = off := by rfl) (hx : ev f x = .pointer (some ⟨g, 0, none⟩) := by rfl) (hd : Nat.blt d m = true := by rfl) :
  WpL P m rd ops K (⟨some d, .fieldAddr T x i, t, p, af, none⟩ :: rest) f w := lV _ (r_fieldAddr hT hf hs h0 ho hx ⟨_, _, rfl⟩) k hd
theorem lL {cs : Array Value} {v : Value} (g off : Nat) (ha : ∀ w, (isAgg T).run P w = .ok false w) (h : Box e c col w g cs) (hv : cs.toList[off]? = some v)
  (k : WpL P m rd ops K rest (upd f d v) w) (hx : ev f x = .pointer ((some (⟨g, 0, none⟩ : Addr)).map (·.add off)) := by rfl) (hd : Nat.blt d m = true := by rfl) :
  WpL P m rd ops K (⟨some d, .load T x, t, p, af, none⟩ :: rest) f w := lV _ (r_ld ha hx (h.atN.nth hv)) k hd
theorem lFL {fs : Array Field} {i sz : Nat} {fd : Field} {cs : Array Value} {v : Value} (g off : Nat) (hT : P.underlying T = some (.struct fs)) (hf : fs[i]? = some fd) (hs : ∀ w, (sizeOf fd.type).run P w = .ok sz w)
  (ha : ∀ w, (isAgg T2).run P w = .ok false w) (h : Box e c col w g cs) (hv : cs.toList[off]? = some v)
  (k : WpL P m rd ops K rest (upd (upd f d (.pointer ((some (⟨g, 0, none⟩ : Addr)).map (·.add off)))) d2 v) w) (h0 : sz ≠ 0 := by decide) (ho : fd.offset = off := by rfl) (hx : ev f x = .pointer (some ⟨g, 0, none⟩) := by rfl) (hd : Nat.blt d m = true := by rfl)
  (hy : ev (upd f d (.pointer ((some (⟨g, 0, none⟩ : Addr)).map (·.add off)))) y = .pointer ((some (⟨g, 0, none⟩ : Addr)).map (·.add off)) := by rfl) (hd2 : Nat.blt d2 m = true := by rfl) :
  WpL P m rd ops K (⟨some d, .fieldAddr T x i, t, p, af, none⟩ :: ⟨some d2, .load T2 y, t2, p2, af2, none⟩ :: rest) f w := lF g off hT hf hs (lL g off ha h hv k hy hd2) h0 ho hx hd
theorem l_boxA {cs : Array Value} (c : Nat) (hx : ev f x = .agg cs)
  (k : ∀ g w' col', Grow col w col' w' → Box e c col' w' g cs → WpL P m rd ops K rest (upd f d (.pointer (some ⟨g, 0, none⟩))) w') (hd : Nat.blt d m = true := by rfl) :
  WpL P m rd ops K (⟨some d, .box e x, t, p, af, none⟩ :: rest) f w := l_box c hd hx k
theorem l_allocA (cs : Array Value) (c : Nat) (hz : ∀ w, (zeroValue e).run P w = .ok (.agg cs) w)
  (k : ∀ g w' col', Grow col w col' w' → Box e c col' w' g cs → WpL P m rd ops K rest (upd f d (.pointer (some ⟨g, 0, none⟩))) w') (hd : Nat.blt d m = true := by rfl) :
  WpL P m rd ops K (⟨some d, .alloc e, t, p, af, none⟩ :: rest) f w := l_alloc c hd hz k
theorem one_all {l : List Value} (h : l.all (·.oneCell') = true) : ∀ u ∈ l, u.oneCell' = true := List.all_eq_true.1 h
theorem l_bstoreA {g n : Nat} {cs : Array Value} (cs' : Array Value) (h : Box e c col w g cs) (hs : ∀ w, (sizeOf T).run P w = .ok n w)
  (k : ∀ w', Keep c col w col w' → Still w w' → Box e c col w' g cs' → WpL P m rd ops K rest f w') (hx : ev f x = .pointer (some ⟨g, 0, none⟩) := by rfl) (hy : ev f y = .agg cs' := by rfl) (hn : cs.size = n := by rfl) (hv : cs'.size = n := by rfl) (h1 : cs'.toList.all (·.oneCell') = true := by rfl) :
  WpL P m rd ops K (⟨none, .store T x y, t, p, af, none⟩ :: rest) f w := l_bstore (v := .agg cs') h hs hn hv (one_all h1) hx hy k
theorem lP {op : Op} {j : Nat} {want b : Bool} (d' : Nat) (h3 : f d' = .bool b) (hb : (b == want) = false)
  (k : WpL P m rd ops K rest (upd f d undef) w) (hd : Nat.blt d m = true := by rfl) (h1 : (ops[j]?).bind (·.dst) = some d' := by rfl) (h2 : Nat.blt d' m = true := by rfl) : WpL P m rd ops K (⟨some d, op, t, p, af, some (j, want)⟩ :: rest) f w := lp d' hd h1 h2 h3 hb k
theorem lG {op : Op} {dst : Option Nat} {j : Nat} {want b : Bool} (d' : Nat) (h3 : f d' = .bool b) (hb : (b == want) = true)
  (k : WpL P m rd ops K (⟨dst, op, t, p, af, none⟩ :: rest) f w) (h1 : (ops[j]?).bind (·.dst) = some d' := by rfl) (h2 : Nat.blt d' m = true := by rfl) : WpL P m rd ops K (⟨dst, op, t, p, af, some (j, want)⟩ :: rest) f w := lg d' h1 h2 h3 hb k
end
/-! moves: what is moved is found by its kind -/
section
variable {P : Program} {m : Nat} {rd : Option Nat} {f : Fr} {w : World} {ops : Array Oper} {K : Fr → World → Prop} {rest : List Oper} {d t : Nat} {dst : Option Nat} {p : String} {af : Array Edge} {gd : Option (Nat × Bool)} {x : Operand}
theorem lMI {k : IntKind} {n : Int} (h : ev f x = .int k n) (k : WpL P m rd ops K rest (upd f d (.int k n)) w) (hd : Nat.blt d m = true := by rfl) : WpL P m rd ops K (⟨some d, .move x, t, p, af, none⟩ :: rest) f w := lV _ (r_move h) k hd
theorem lAI {k : IntKind} {n : Int} (h : ev f x = .int k n) (k : WpL P m rd ops K rest (upd f d (.int k n)) w) (hd : Nat.blt d m = true := by rfl) : WpL P m rd ops K (⟨some d, .assign x, t, p, af, none⟩ :: rest) f w := lV _ (r_assign h) k hd
theorem r_mI {k : IntKind} {n : Int} (h : ev f x = .int k n) : (execOp (ev f) ⟨dst, .move x, t, p, af, gd⟩).run P w = .ok (.value (.int k n)) w := r_move h
theorem lMB {b : Bool} (h : ev f x = .bool b) (k : WpL P m rd ops K rest (upd f d (.bool b)) w) (hd : Nat.blt d m = true := by rfl) : WpL P m rd ops K (⟨some d, .move x, t, p, af, none⟩ :: rest) f w := lV _ (r_move h) k hd
theorem lAB {b : Bool} (h : ev f x = .bool b) (k : WpL P m rd ops K rest (upd f d (.bool b)) w) (hd : Nat.blt d m = true := by rfl) : WpL P m rd ops K (⟨some d, .assign x, t, p, af, none⟩ :: rest) f w := lV _ (r_assign h) k hd
theorem lAS {a : Option Addr} {n c : Nat} (h : ev f x = .slice a n c) (k : WpL P m rd ops K rest (upd f d (.slice a n c)) w) (hd : Nat.blt d m = true := by rfl) : WpL P m rd ops K (⟨some d, .assign x, t, p, af, none⟩ :: rest) f w := lV _ (r_assign h) k hd
theorem lMT {s : ByteArray} (h : ev f x = .string s) (k : WpL P m rd ops K rest (upd f d (.string s)) w) (hd : Nat.blt d m = true := by rfl) : WpL P m rd ops K (⟨some d, .move x, t, p, af, none⟩ :: rest) f w := lV _ (r_move h) k hd
theorem lAT {s : ByteArray} (h : ev f x = .string s) (k : WpL P m rd ops K rest (upd f d (.string s)) w) (hd : Nat.blt d m = true := by rfl) : WpL P m rd ops K (⟨some d, .assign x, t, p, af, none⟩ :: rest) f w := lV _ (r_assign h) k hd
theorem r_mT {s : ByteArray} (h : ev f x = .string s) : (execOp (ev f) ⟨dst, .move x, t, p, af, gd⟩).run P w = .ok (.value (.string s)) w := r_move h
theorem r_mP {a : Option Addr} (h : ev f x = .pointer a) : (execOp (ev f) ⟨dst, .move x, t, p, af, gd⟩).run P w = .ok (.value (.pointer a)) w := r_move h
theorem r_ldB {T e c n g : Nat} {col : Col} {cs : Array Value} (ha : ∀ w, (isAgg T).run P w = .ok true w) (hs : ∀ w, (sizeOf T).run P w = .ok n w) (h : Box e c col w g cs) (hx : ev f x = .pointer (some ⟨g, 0, none⟩) := by rfl) (hn : cs.size = n := by rfl) :
  (execOp (ev f) ⟨dst, .load T x, t, p, af, gd⟩).run P w = .ok (.value (.agg cs)) w := r_ldN ha hs hx hn h.atN
theorem Grow.bl {c c' : Col} {w' : World} (col : Col) (h : Grow c w c' w') : Grow col w col w' := .of_below h.below
theorem gq {a b want r : Bool} (h : a = b) (e : (b == want) = r := by rfl) : (a == want) = r := by rw [h, e]
end
theorem ntrue {b : Bool} (h : b = false) : ¬ b = true := by rw [h]; decide
end Go.Proofs.YtnfegieaaaigmaaGreatDoor
