/-
  Shorter words for steps: what is plain from the code alone is gone over by itself (go), a branch takes the model's branch with it. Over any program.
-/
import Derived.Test.YtnfegieaaaigmaaGreatDoorLexApartBFloat
namespace Go.Proofs.YtnfegieaaaigmaaGreatDoor
open Go Go.RowKit

section
variable {P : Program} {m : Nat} {rd : Option Nat} {N R : Fr → World → Prop} {E : Nat → Fr → World → Prop} {f : Fr} {w : World}
theorem wcb {α : Type} {c : Operand} {x y : Code} {u v : Option α} {r : α} {b : Bool} (hm : (if b = true then u else v) = some r) (ht : b = true → u = some r → Wp P m rd x N R E f w) (hf : b = false → v = some r → Wp P m rd y N R E f w) (hb : ev f c = .bool b := by rfl) : Wp P m rd (.cond c x y) N R E f w :=
 wcond b hb (fun h => ht h (by rw [if_pos h] at hm; exact hm)) (fun h => hf h (by rw [if_neg (ntrue h)] at hm; exact hm))
theorem bcb {α : Type} {G : Prop} {u v : Option α} {r : α} {b : Bool} (hm : (if b = true then u else v) = some r) (ht : b = true → u = some r → G) (hf : b = false → v = some r → G) : G := by
 cases b
 ·exact hf rfl hm
 ·exact ht rfl hm
end
def dstL : List Oper → Nat → Option Nat
 | [], _ => none
 | o :: _, 0 => o.dst
 | _ :: l, j + 1 => dstL l j
theorem dstL_eq : ∀ {l : List Oper} {j : Nat}, dstL l j = (l[j]?).bind (·.dst)
 | [], _ => rfl
 | _ :: _, 0 => rfl
 | _ :: l, j + 1 => by rw [dstL, dstL_eq, List.getElem?_cons_succ]
theorem dst_at {ops : Array Oper} {j d : Nat} (h : dstL ops.toList j = some d) : (ops[j]?).bind (·.dst) = some d := by rw [dstL_eq, Array.getElem?_toList] at h; exact h
section
variable {P : Program} {m : Nat} {rd : Option Nat} {f : Fr} {w : World} {ops : Array Oper} {K : Fr → World → Prop} {rest : List Oper} {d t : Nat} {p : String} {af : Array Edge}
theorem lcA {g : FuncId} {args : Array Value} {C : Ending → World → Prop} {op : Op} (hc : Calls P g args w C) (k : ∀ e w', C e w' → ∃ v, e = .returned v ∧ WpL P m rd ops K rest (upd f d v) w')
  (hr : (execOp (ev f) ⟨some d, op, t, p, af, none⟩).run P w = .ok (.enter g args) w := by first | ((with_reducible apply r_call1) <;> (intros; exact rfl)) | ((with_reducible apply r_call2) <;> (intros; exact rfl)) | ((with_reducible apply r_call3) <;> (intros; exact rfl)) | ((with_reducible apply r_call0) <;> (intros; exact rfl)) | ((with_reducible apply r_call4) <;> (intros; exact rfl)) | ((with_reducible apply r_call5) <;> (intros; exact rfl)))
  (hd : Nat.blt d m = true := by rfl) (hn : noDefer op = true := by rfl) : WpL P m rd ops K (⟨some d, op, t, p, af, none⟩ :: rest) f w := lc hd hn hr hc k
theorem lP1 {op : Op} {j d' : Nat} {want b : Bool} (h1 : dstL ops.toList j = some d') (h3 : f d' = .bool b) (hb : (b == want) = false)
  (hd : Nat.blt d m = true) (h2 : Nat.blt d' m = true) (k : WpL P m rd ops K rest (upd f d undef) w) : WpL P m rd ops K (⟨some d, op, t, p, af, some (j, want)⟩ :: rest) f w := lp d' hd (dst_at h1) h2 h3 hb k
theorem lG1 {op : Op} {dst : Option Nat} {j d' : Nat} {want b : Bool} (h1 : dstL ops.toList j = some d') (h3 : f d' = .bool b) (hb : (b == want) = true)
  (h2 : Nat.blt d' m = true) (k : WpL P m rd ops K (⟨dst, op, t, p, af, none⟩ :: rest) f w) : WpL P m rd ops K (⟨dst, op, t, p, af, some (j, want)⟩ :: rest) f w := lg d' (dst_at h1) h2 h3 hb k
end
section
variable {P : Program} {m : Nat} {rd : Option Nat} {f : Fr} {w : World} {ops : Array Oper} {K : Fr → World → Prop} {rest : List Oper} {d t : Nat} {p : String} {af : Array Edge} {op : Op}
theorem lVV {v : Value} (hr : (execOp (ev f) ⟨some d, op, t, p, af, none⟩).run P w = .ok (.value v) w) (hd : Nat.blt d m = true) (hn : noDefer op = true) (k : WpL P m rd ops K rest (upd f d v) w) : WpL P m rd ops K (⟨some d, op, t, p, af, none⟩ :: rest) f w := lV v hr k hd hn
end
section
variable {P : Program} {m : Nat} {f : Fr} {ops : Array Oper} {C : World → Prop} {K : Fr → Prop} {rest : List Oper} {d t : Nat} {p : String} {af : Array Edge} {op : Op}
theorem qP1 {j d' : Nat} {want b : Bool} (h1 : dstL ops.toList j = some d') (h3 : f d' = .bool b) (hb : (b == want) = false)
  (hd : Nat.blt d m = true) (h2 : Nat.blt d' m = true) (k : WpQ P m ops C K rest (upd f d undef)) : WpQ P m ops C K (⟨some d, op, t, p, af, some (j, want)⟩ :: rest) f := qp d' hd (dst_at h1) h2 h3 hb k
theorem qG1 {dst : Option Nat} {j d' : Nat} {want b : Bool} (h1 : dstL ops.toList j = some d') (h3 : f d' = .bool b) (hb : (b == want) = true)
  (h2 : Nat.blt d' m = true) (k : WpQ P m ops C K (⟨dst, op, t, p, af, none⟩ :: rest) f) : WpQ P m ops C K (⟨dst, op, t, p, af, some (j, want)⟩ :: rest) f := qg d' (dst_at h1) h2 h3 hb k
theorem qVV {v : Value} (hr : ∀ w, (execOp (ev f) ⟨some d, op, t, p, af, none⟩).run P w = .ok (.value v) w) (hd : Nat.blt d m = true) (k : WpQ P m ops C K rest (upd f d v)) : WpQ P m ops C K (⟨some d, op, t, p, af, none⟩ :: rest) f := qv hd (fun w _ => hr w) k
end
section
variable {P : Program} {m : Nat} {rd : Option Nat} {α : Type} {r : Rep α} {col : Col} {w : World} {f : Fr} {ops : Array Oper} {K : Fr → World → Prop} {rest : List Oper} {d t e : Nat} {p : String} {af : Array Edge} {x y : Operand} {xs ys : List α}
theorem rowsI {k : IntKind} : ∀ xs : List Int, Rows (Rep.int k) col w ((xs.map (Value.int k)).map (·.cells.toList)).flatten xs []
 | [] => ⟨rfl, rfl⟩
 | x :: xs => Rows.consF (cs := [.int k x]) ⟨rfl, rfl⟩ (rowsI xs)
theorem rowsT : ∀ xs : List ByteArray, Rows Rep.str col w ((xs.map Value.string).map (·.cells.toList)).flatten xs []
 | [] => ⟨rfl, rfl⟩
 | x :: xs => Rows.consF (cs := [.string x]) ⟨rfl, rfl⟩ (rowsT xs)
theorem l_litI {T n bytes : Nat} {k : IntKind} {parts : Array (Nat × Operand)} (xs : List Int) (c : Nat)
  (kk : ∀ a' w' col', Grow col w col' w' → Own (Rep.int k) e c col' w' a' xs.length xs → WpL P m rd ops K rest (upd f d (.slice a' xs.length xs.length)) w')
  (hT : P.underlying T = some (.slice e) := by exact rfl) (he : ElemOk P e 1 bytes := by exact ⟨_, _, rfl, rfl, rfl, rfl, rfl⟩) (hp : (List.map (fun x => (x.fst, ev f x.snd)) parts.toList) = (List.range' 0 xs.length).zip (xs.map (Value.int k)) := by exact rfl)
  (hn : xs.length = n := by exact rfl) (h24 : Nat.ble (n * 1) 16777216 = true := by exact rfl) (h0 : Nat.blt 0 n = true := by exact rfl) (hd : Nat.blt d m = true := by exact rfl) :
  WpL P m rd ops K (⟨some d, .buildSlice T n parts, t, p, af, none⟩ :: rest) f w :=
 l_lit (r := Rep.int k) (xs.map (Value.int k)) c hd hT he rfl hn (by rw [List.length_map]; exact hn) h24 h0 (by rw [List.length_map]; exact hp) (fun v hv => by obtain ⟨_, _, rfl⟩ := List.mem_map.1 hv; rfl) (.ofF (rowsI xs)) kk
theorem l_litS {T n bytes : Nat} {parts : Array (Nat × Operand)} (xs : List ByteArray) (c : Nat)
  (kk : ∀ a' w' col', Grow col w col' w' → Own Rep.str e c col' w' a' xs.length xs → WpL P m rd ops K rest (upd f d (.slice a' xs.length xs.length)) w')
  (hT : P.underlying T = some (.slice e) := by exact rfl) (he : ElemOk P e 1 bytes := by exact ⟨_, _, rfl, rfl, rfl, rfl, rfl⟩) (hp : (List.map (fun x => (x.fst, ev f x.snd)) parts.toList) = (List.range' 0 xs.length).zip (xs.map Value.string) := by exact rfl)
  (hn : xs.length = n := by exact rfl) (h24 : Nat.ble (n * 1) 16777216 = true := by exact rfl) (h0 : Nat.blt 0 n = true := by exact rfl) (hd : Nat.blt d m = true := by exact rfl) :
  WpL P m rd ops K (⟨some d, .buildSlice T n parts, t, p, af, none⟩ :: rest) f w :=
 l_lit (r := Rep.str) (xs.map Value.string) c hd hT he rfl hn (by rw [List.length_map]; exact hn) h24 h0 (by rw [List.length_map]; exact hp) (fun v hv => by obtain ⟨_, _, rfl⟩ := List.mem_map.1 hv; rfl) (.ofF (rowsT xs)) kk
theorem l_litA {T n sz bytes : Nat} {parts : Array (Nat × Operand)} (vs : List Value) (c : Nat) (hr : RowsH r c col w (vs.map (·.cells.toList)).flatten xs)
  (kk : ∀ a' w' col', Grow col w col' w' → Own r e c col' w' a' xs.length xs → WpL P m rd ops K rest (upd f d (.slice a' xs.length xs.length)) w')
  (hT : P.underlying T = some (.slice e) := by exact rfl) (he : ElemOk P e sz bytes := by exact ⟨_, _, rfl, rfl, rfl, rfl, rfl⟩) (hsz : r.sz = sz := by exact rfl)
  (hn : xs.length = n := by exact rfl) (hvn : vs.length = n := by exact rfl) (h24 : Nat.ble (n * sz) 16777216 = true := by exact rfl) (h0 : Nat.blt 0 n = true := by exact rfl) (hp : (List.map (fun x => (x.fst, ev f x.snd)) parts.toList) = (List.range' 0 vs.length).zip vs := by exact rfl) (hvs : vs.all (fun v => Nat.beq v.cells.size sz) = true := by exact rfl)
  (hd : Nat.blt d m = true := by exact rfl) : WpL P m rd ops K (⟨some d, .buildSlice T n parts, t, p, af, none⟩ :: rest) f w :=
 l_lit vs c hd hT he hsz hn hvn h24 h0 hp (fun v hv => Nat.eq_of_beq_eq_true (List.all_eq_true.1 hvs v hv)) hr kk
theorem l_appA {T c c2 cap cap2 sz bytes : Nat} {a a2 : Option Addr} (h : Own r e c col w a cap xs) (h2 : SrcC r c c2 col w a2 ys) (hb : (xs.length + ys.length) * bytes ≤ 140737488355328 ∧ xs.length + ys.length ≤ maxLen)
  (k : ∀ a' cap' w' col', KeepP (p2 c c2) col w col' w' → Own r e c col' w' a' cap' (xs ++ ys) → WpL P m rd ops K rest (upd f d (.slice a' (xs ++ ys).length cap')) w')
  (hT : P.underlying T = some (.slice e) := by exact rfl) (he : ElemOk P e sz bytes := by exact ⟨_, _, rfl, rfl, rfl, rfl, rfl⟩) (hsz : r.sz = sz := by exact rfl)
  (hx : ev f x = .slice a xs.length cap := by exact rfl) (hy : ev f y = .slice a2 ys.length cap2 := by exact rfl) (hd : Nat.blt d m = true := by exact rfl) (hc : c ≠ 0 := by decide) :
  WpL P m rd ops K (⟨some d, .call { callee := .builtin .append, args := #[x, y], argTypes := #[T, T] }, t, p, af, none⟩ :: rest) f w :=
 l_appendM h h2 hd hT he hsz hx hy hb.1 hb.2 hc k
theorem lI {T c sz : Nat} {k : IntKind} {a : Option Addr} {j : Int} {x0 : α} (q : at? xs j = some x0) (ha : ∃ b o, a = some ⟨b, o, none⟩) (kk : WpL P m rd ops K rest (upd f d (sptr a (j.toNat * sz))) w)
  (hT : P.underlying T = some (.slice e) := by exact rfl) (hs : ∀ w, (sizeOf e).run P w = .ok sz w := by intros; exact rfl) (hx : ev f x = .slice a xs.length c := by exact rfl) (hy : ev f y = .int k j := by exact rfl) (hd : Nat.blt d m = true := by exact rfl) :
  WpL P m rd ops K (⟨some d, .indexAddr T x y, t, p, af, none⟩ :: rest) f w := lV _ (r_idx hT hs hx hy (at?_some q).1 (at?_some q).2.1 ha) kk hd
theorem lW {T : Nat} {ptr v : Value} (h : At1 w ptr v) (kk : WpL P m rd ops K rest (upd f d v) w) (ha : ∀ w, (isAgg T).run P w = .ok false w := by intros; exact rfl) (hx : ev f x = ptr := by exact rfl) (hd : Nat.blt d m = true := by exact rfl) :
  WpL P m rd ops K (⟨some d, .load T x, t, p, af, none⟩ :: rest) f w := lV _ (r_ld ha hx h) kk hd
theorem l_bsA {T g n c : Nat} {cs cs' : Array Value} (h : Box e c col w g cs)
  (k : ∀ w', Keep c col w col w' → Still w w' → Box e c col w' g cs' → WpL P m rd ops K rest f w') (hy : ev f y = .agg cs' := by exact rfl) (hs : ∀ w, (sizeOf T).run P w = .ok n w := by intros; exact rfl) (hx : ev f x = .pointer (some ⟨g, 0, none⟩) := by exact rfl) (hn : cs.size = n := by exact rfl) (hv : cs'.size = n := by exact rfl) (h1 : cs'.toList.all (·.oneCell') = true := by exact rfl) :
  WpL P m rd ops K (⟨none, .store T x y, t, p, af, none⟩ :: rest) f w := l_bstoreA cs' h hs k hx hy hn hv h1
theorem lFLb {T T2 i sz c e d2 t2 off : Nat} {g : Nat} {p2 : String} {af2 : Array Edge} {fs : Array Field} {fd : Field} {cs : Array Value} {v : Value} (h : Box e c col w g cs)
  (k : WpL P m rd ops K rest (upd (upd f d (.pointer ((some (⟨g, 0, none⟩ : Addr)).map (·.add off)))) d2 v) w)
  (hT : P.underlying T = some (.struct fs) := by exact rfl) (hf : fs[i]? = some fd := by exact rfl) (ho : fd.offset = off := by exact rfl) (hs : ∀ w, (sizeOf fd.type).run P w = .ok sz w := by intros; exact rfl)
  (ha : ∀ w, (isAgg T2).run P w = .ok false w := by intros; exact rfl) (hv : cs.toList[off]? = some v := by exact rfl) (h0 : sz ≠ 0 := by decide) (hx : ev f x = .pointer (some ⟨g, 0, none⟩) := by exact rfl) (hd : Nat.blt d m = true := by exact rfl)
  (hy : ev (upd f d (.pointer ((some (⟨g, 0, none⟩ : Addr)).map (·.add off)))) y = .pointer ((some (⟨g, 0, none⟩ : Addr)).map (·.add off)) := by exact rfl) (hd2 : Nat.blt d2 m = true := by exact rfl) :
  WpL P m rd ops K (⟨some d, .fieldAddr T x i, t, p, af, none⟩ :: ⟨some d2, .load T2 y, t2, p2, af2, none⟩ :: rest) f w := lFL g off hT hf hs ha h hv k h0 ho hx hd hy hd2
end
section
variable {P : Program} {m : Nat} {f : Fr} {ops : Array Oper} {C : World → Prop} {K : Fr → Prop} {α : Type} {xs : List α} {rest : List Oper} {d t e : Nat} {p : String} {af : Array Edge} {x y : Operand}
theorem qI {T c sz : Nat} {k : IntKind} {a : Option Addr} {j : Int} {x0 : α} (q : at? xs j = some x0) (ha : ∃ b o, a = some ⟨b, o, none⟩) (kk : WpQ P m ops C K rest (upd f d (sptr a (j.toNat * sz))))
  (hT : P.underlying T = some (.slice e) := by exact rfl) (hs : ∀ w, (sizeOf e).run P w = .ok sz w := by intros; exact rfl) (hx : ev f x = .slice a xs.length c := by exact rfl) (hy : ev f y = .int k j := by exact rfl) (hd : Nat.blt d m = true := by exact rfl) :
  WpQ P m ops C K (⟨some d, .indexAddr T x y, t, p, af, none⟩ :: rest) f := qv hd (fun _ _ => r_idx hT hs hx hy (at?_some q).1 (at?_some q).2.1 ha) kk
theorem qW {T : Nat} {ptr v : Value} (h : ∀ w, C w → At1 w ptr v) (kk : WpQ P m ops C K rest (upd f d v)) (ha : ∀ w, (isAgg T).run P w = .ok false w := by intros; exact rfl) (hx : ev f x = ptr := by exact rfl) (hd : Nat.blt d m = true := by exact rfl) :
  WpQ P m ops C K (⟨some d, .load T x, t, p, af, none⟩ :: rest) f := qv hd (fun w hC => r_ld ha hx (h w hC)) kk
end
def updL : List Nat → Fr → Fr → Fr
 | [], _, g => g
 | d :: ds, f, g => upd (updL ds f g) d (f d)
def updV : List Nat → List Value → Fr → Fr
 | d :: ds, v :: vs, f => upd (updV ds vs f) d v
 | _, _, f => f
theorem eqc {a b : Value} {l k : List Value} (h : a = b) (hk : l = k) : a :: l = b :: k := by rw [h, hk]
theorem updL_self {f g : Fr} : ∀ {ds : List Nat}, ds.map g = ds.map f → updL ds f g = g
 | [], _ => rfl
 | d :: ds, h => by
  simp only [List.map_cons, List.cons.injEq] at h
  rw [updL, updL_self h.2, upd_self h.1]
theorem updV_self {f : Fr} : ∀ {ds : List Nat} {vs : List Value}, ds.map f = vs → updV ds vs f = f
 | [], _, _ => rfl
 | d :: ds, [], h => by cases h
 | d :: ds, v :: vs, h => by
  simp only [List.map_cons, List.cons.injEq] at h
  rw [updV, updV_self h.2, upd_self h.1]
/-! slots that stay, gone through step by step -/
theorem kfU {ds : List Nat} {f : Fr} {d : Nat} {v : Value} {x : List Value} (h : ds.map f = x) (hd : ds.all (fun e => !Nat.beq e d) = true) : ds.map (upd f d v) = x := by
 rw [← h]
 refine List.map_congr_left fun e he => ?_
 have h2 := List.all_eq_true.1 hd e he
 have h3 : Nat.beq e d = false := by simpa using h2
 show (bif Nat.beq e d then v else f e) = f e
 rw [h3]; rfl
theorem kfL1 {f g : Fr} {e : Nat} : ∀ {dsJ : List Nat}, dsJ.any (Nat.beq e) = true → updL dsJ f g e = f e
 | [], h => by cases h
 | d :: l, h => by
  show (bif Nat.beq e d then f d else updL l f g e) = f e
  rw [List.any_cons, Bool.or_eq_true] at h
  cases hb : Nat.beq e d with
  | true => rw [Nat.eq_of_beq_eq_true hb]; rfl
  | false => rw [hb] at h; exact kfL1 (h.resolve_left (by decide))
theorem kfL {dsJ ds : List Nat} {f g : Fr} {x : List Value} (h : ds.map f = x) (hd : ds.all (fun e => dsJ.any (Nat.beq e)) = true) : ds.map (updL dsJ f g) = x := by
 rw [← h]
 exact List.map_congr_left fun e he => kfL1 (List.all_eq_true.1 hd e he)
theorem kfV {ds : List Nat} {f : Fr} {x : List Value} : ∀ {e : List Nat} {vs : List Value}, ds.map f = x → (ds.all (fun a => !e.any (Nat.beq a)) = true) → ds.map (updV e vs f) = x
 | [], _, h, _ => h
 | d :: e, [], h, _ => h
 | d :: e, v :: vs, h, hd => by
  rw [updV]
  refine kfU (kfV h (List.all_eq_true.2 fun a ha => ?_)) (List.all_eq_true.2 fun a ha => ?_)
  ·have := List.all_eq_true.1 hd a ha
   rw [List.any_cons, Bool.not_or, Bool.and_eq_true] at this
   exact this.2
  ·have := List.all_eq_true.1 hd a ha
   rw [List.any_cons, Bool.not_or, Bool.and_eq_true] at this
   exact this.1
theorem kfS {ds : List Nat} {f g : Fr} (h : ds.map g = ds.map f) : ds.map f = ds.map g := h.symm
theorem kf {ds : List Nat} {f g : Fr} (h : ds.map f = ds.map g := by
 (repeat (first
  | ((with_reducible refine kfU ?_ ?_); rotate_left; (exact rfl))
  | ((with_reducible refine kfL ?_ ?_); rotate_left; (exact rfl))
  | ((with_reducible refine kfV ?_ ?_); rotate_left; (exact rfl))))
 refine kfS ?_
 (repeat (first
  | ((with_reducible refine kfU ?_ ?_); rotate_left; (exact rfl))
  | ((with_reducible refine kfL ?_ ?_); rotate_left; (exact rfl))
  | ((with_reducible refine kfV ?_ ?_); rotate_left; (exact rfl))))
 first | (with_reducible exact rfl) | exact rfl) : ds.map f = ds.map g := h
section
variable {P : Program} {m : Nat} {rd : Option Nat} {N R : Fr → World → Prop} {E : Nat → Fr → World → Prop} {f : Fr} {w : World} {c : Code}
theorem Wp.lL (ds : List Nat) {vs : List Value} (h : ds.map f = vs) (k : Wp P m rd c N R E (updV ds vs f) w) : Wp P m rd c N R E f w := by rwa [updV_self h] at k
theorem wloopK (ds : List Nat) (I : Nat → Fr → World → Prop) (n : Nat) (h0 : I n f w)
  (round : ∀ n g w, I n g w → Wp P m rd c (fun f' w' => ∃ k, k < n ∧ ds.map f' = ds.map f ∧ I k f' w') R E (updL ds f g) w) : Wp P m rd (.loop c) N R E f w :=
 wloop (fun n g w => ds.map g = ds.map f ∧ I n g w) n ⟨rfl, h0⟩ fun n g w h => by
  have := round n g w h.2
  rwa [updL_self h.1] at this
theorem Wp.cutK (ds : List Nat) (J : Fr → World → Prop) (h : ∀ g w, J g w → N (updL ds f g) w) (hc : Wp P m rd c (fun f' w' => ds.map f' = ds.map f ∧ J f' w') R E f w) : Wp P m rd c N R E f w :=
 hc.cut (fun g w => ds.map g = ds.map f ∧ J g w) fun g w hj => by
  have := h g w hj.2
  rwa [updL_self hj.1] at this
end
section
variable {P : Program} {m : Nat} {rd : Option Nat} {f : Fr} {w : World} {ops : Array Oper} {K : Fr → World → Prop} {rest : List Oper} {d t T j sz off : Nat} {p : String} {af : Array Edge} {x : Operand} {fs : Array Field} {fd : Field} {a : Option Addr}
theorem lFa (ha : ∃ b o, a = some ⟨b, o, none⟩) (k : WpL P m rd ops K rest (upd f d (.pointer (a.map (·.add off)))) w) (hx : ev f x = .pointer a := by exact rfl) (hT : P.underlying T = some (.struct fs) := by exact rfl) (hf : fs[j]? = some fd := by exact rfl) (ho : fd.offset = off := by exact rfl) (hs : ∀ w, (sizeOf fd.type).run P w = .ok sz w := by intros; exact rfl) (h0 : sz ≠ 0 := by decide) (hd : Nat.blt d m = true := by exact rfl) :
  WpL P m rd ops K (⟨some d, .fieldAddr T x j, t, p, af, none⟩ :: rest) f w := lV _ (r_fieldAddr hT hf hs h0 ho hx ha) k hd
end
section
variable {P : Program} {m : Nat} {f : Fr} {ops : Array Oper} {C : World → Prop} {K : Fr → Prop} {rest : List Oper} {d t T j sz off : Nat} {p : String} {af : Array Edge} {x : Operand} {fs : Array Field} {fd : Field} {a : Option Addr}
theorem qF (ha : ∃ b o, a = some ⟨b, o, none⟩) (k : WpQ P m ops C K rest (upd f d (.pointer (a.map (·.add off))))) (hx : ev f x = .pointer a := by exact rfl) (hT : P.underlying T = some (.struct fs) := by exact rfl) (hf : fs[j]? = some fd := by exact rfl) (ho : fd.offset = off := by exact rfl) (hs : ∀ w, (sizeOf fd.type).run P w = .ok sz w := by intros; exact rfl) (h0 : sz ≠ 0 := by decide) (hd : Nat.blt d m = true := by exact rfl) :
  WpQ P m ops C K (⟨some d, .fieldAddr T x j, t, p, af, none⟩ :: rest) f := qv hd (fun _ _ => r_fieldAddr hT hf hs h0 ho hx ha) k
end
section
variable {P : Program} {m : Nat} {rd : Option Nat} {l : List Oper} {N R : Fr → World → Prop} {E : Nat → Fr → World → Prop} {π : List (Nat × Nat)} {C : World → Prop} {f : Fr} {d t T i j sz off : Nat} {p : String} {af : Array Edge} {x : Operand} {fs : Array Field} {fd : Field} {a : Option Addr} {ptr v : Value}
theorem xF (ha : ∃ b o, a = some ⟨b, o, none⟩) (k : WpX P m rd l N R E π C (upd f d (.pointer (a.map (·.add off))))) (hl : l[i]? = some ⟨some d, .fieldAddr T x j, t, p, af, none⟩ := by exact rfl) (hx : ev f x = .pointer a := by exact rfl) (hT : P.underlying T = some (.struct fs) := by exact rfl) (hf : fs[j]? = some fd := by exact rfl) (ho : fd.offset = off := by exact rfl) (hs : ∀ w, (sizeOf fd.type).run P w = .ok sz w := by intros; exact rfl) (h0 : sz ≠ 0 := by decide) (hd : Nat.blt d m = true := by exact rfl) :
  WpX P m rd l N R E ((i, 1) :: π) C f := xu hl hd (fun _ => r_fieldAddr hT hf hs h0 ho hx ha) k
theorem xW (h : ∀ w, C w → At1 w ptr v) (k : WpX P m rd l N R E π C (upd f d v)) (hl : l[i]? = some ⟨some d, .load T x, t, p, af, none⟩ := by exact rfl) (ha : ∀ w, (isAgg T).run P w = .ok false w := by intros; exact rfl) (hx : ev f x = ptr := by exact rfl) (hd : Nat.blt d m = true := by exact rfl) :
  WpX P m rd l N R E ((i, 0) :: π) C f := xv hl hd (fun w hC => r_ld ha hx (h w hC)) k
end
theorem xk {D : Prop} {A : (World → Prop) → Prop} {B : (World → Prop) → Prop} {w : World} (col : Col) (k : B (fun w' => Grow col w col w')) (h : ¬ D := by decide) : ∃ C' : World → Prop, C' w ∧ (D → A C') ∧ B C' :=
 ⟨_, Grow.refl col w, fun hd => absurd hd h, k⟩
theorem xk3 {D : Prop} {B : (World → Prop) → Prop} {c1 c2 c3 : Col} {w1 w2 w3 : World} (col : Col) (hC : Grow c1 w1 c1 w2) (hg : Grow c2 w2 c3 w3) (k : B (fun w' => Grow col w3 col w')) : ∃ C' : World → Prop, C' w3 ∧ (D → ∀ w, C' w → Grow c1 w1 c1 w) ∧ B C' :=
 ⟨_, Grow.refl col w3, fun _ _ h => cls hC hg h, k⟩
def cm : List (Nat × Nat) → Nat → Nat
 | [], _ => 0
 | (a, b) :: l, n => bif Nat.beq n a then b else cm l n
section
variable {P : Program} {m : Nat} {w : World} {fn : Func} {f : Fr}
theorem rat {s0 t0 n0 s1 : Nat} {p0 v1 : Value} {cs0 : List Value} (h0 : AtN w p0 cs0) (hr : fn.results = #[.cell s0 t0, .tmp s1] := by exact rfl) (hlt0 : Nat.blt s0 1000000 = true := by exact rfl) (ha0 : ∀ w, (isAgg t0).run P w = .ok true w := by intros; exact rfl) (hs0 : ∀ w, (sizeOf t0).run P w = .ok n0 w := by intros; exact rfl) (hp0 : f s0 = p0 := by exact rfl) (hn0 : cs0.length = n0 := by exact rfl) (hlt1 : Nat.blt s1 1000000 = true := by exact rfl) (hp1 : f s1 = v1 := by exact rfl) :
  ∀ a : Act, Fits m a f → (results fn a.tmps).run P w = .ok (.tuple #[.agg cs0.toArray, v1]) w := res_at hr hlt0 ha0 hs0 hp0 hn0 h0 hlt1 hp1
end
theorem vI {a : Value} {k : IntKind} {n : Int} (h : a = .int k n) : a = .int k n := h
theorem vB {a : Value} {b : Bool} (h : a = .bool b) : a = .bool b := h
theorem vS {a : Value} {b : Option Addr} {n c : Nat} (h : a = .slice b n c) : a = .slice b n c := h
theorem vP {a : Value} {b : Option Addr} (h : a = .pointer b) : a = .pointer b := h
theorem vT {a : Value} {b : ByteArray} (h : a = .string b) : a = .string b := h
structure Rest (B : Prop) : Prop where
 q : B
theorem go {A B : Prop} (q : B) (h : Rest B → A := by
  intro q
  (repeat (first
    | (with_reducible refine wseq ?_)
    | (with_reducible refine wregion ?_)
    | (with_reducible refine lnil ?_)
    | ((with_reducible apply lVV)
       · first
        | ((with_reducible apply r_move)
           first | exact vI rfl | exact vS rfl | exact vP rfl | exact vB rfl | exact vT rfl | exact vG rfl | exact vM rfl)
        | ((with_reducible apply r_assign)
           first | exact vI rfl | exact vS rfl | exact vP rfl | exact vB rfl | exact vT rfl | exact vG rfl | exact vM rfl)
        | ((with_reducible apply r_lss) <;> exact rfl)
        | ((with_reducible apply r_add) <;> exact rfl)
        | ((with_reducible apply r_eql) <;> exact rfl)
        | ((with_reducible apply r_neq) <;> exact rfl)
        | ((with_reducible apply r_leq) <;> exact rfl)
        | ((with_reducible apply r_gtr) <;> exact rfl)
        | ((with_reducible apply r_geq) <;> exact rfl)
        | ((with_reducible apply r_sub) <;> exact rfl)
        | ((with_reducible apply r_mul) <;> exact rfl)
        | ((with_reducible apply r_and) <;> exact rfl)
        | ((with_reducible apply r_or) <;> exact rfl)
        | ((with_reducible apply r_len) <;> exact rfl)
        | ((with_reducible apply r_lenS) <;> exact rfl)
        | ((with_reducible apply r_conv)
           · exact ⟨_, rfl⟩
           · exact rfl
           · exact rfl)
        | ((with_reducible apply r_not) <;> exact rfl)
        | ((with_reducible apply r_neg) <;> exact rfl)
        | ((with_reducible apply r_eqlB) <;> exact rfl)
        | ((with_reducible apply r_neqB) <;> exact rfl)
        | ((with_reducible apply r_eqlS) <;> exact rfl)
        | ((with_reducible apply r_neqS) <;> exact rfl)
       · exact rfl
       · exact rfl)
    | ((with_reducible apply qVV)
       · intro _
         first
          | ((with_reducible apply r_move)
             first | exact vI rfl | exact vS rfl | exact vP rfl | exact vB rfl | exact vT rfl | exact vG rfl | exact vM rfl)
          | ((with_reducible apply r_assign)
             first | exact vI rfl | exact vS rfl | exact vP rfl | exact vB rfl | exact vT rfl | exact vG rfl | exact vM rfl)
          | ((with_reducible apply r_lss) <;> exact rfl)
          | ((with_reducible apply r_add) <;> exact rfl)
          | ((with_reducible apply r_eql) <;> exact rfl)
          | ((with_reducible apply r_neq) <;> exact rfl)
          | ((with_reducible apply r_leq) <;> exact rfl)
          | ((with_reducible apply r_gtr) <;> exact rfl)
          | ((with_reducible apply r_geq) <;> exact rfl)
          | ((with_reducible apply r_sub) <;> exact rfl)
          | ((with_reducible apply r_mul) <;> exact rfl)
          | ((with_reducible apply r_and) <;> exact rfl)
          | ((with_reducible apply r_or) <;> exact rfl)
          | ((with_reducible apply r_len) <;> exact rfl)
          | ((with_reducible apply r_lenS) <;> exact rfl)
          | ((with_reducible apply r_conv)
             · exact ⟨_, rfl⟩
             · exact rfl
             · exact rfl)
          | ((with_reducible apply r_not) <;> exact rfl)
          | ((with_reducible apply r_neg) <;> exact rfl)
          | ((with_reducible apply r_eqlB) <;> exact rfl)
          | ((with_reducible apply r_neqB) <;> exact rfl)
          | ((with_reducible apply r_eqlS) <;> exact rfl)
          | ((with_reducible apply r_neqS) <;> exact rfl)
       · exact rfl)
    | (with_reducible refine wblock ?_)
    | (with_reducible refine wskip ?_)
    | (with_reducible refine wret ?_)
    | (with_reducible refine wexit (inB_hit ?_))
    | ((with_reducible apply lG1)
       · exact rfl
       · exact rfl
       · first | exact gq (by assumption) | exact gn (by assumption)
       · exact rfl)
    | ((with_reducible apply lP1)
       · exact rfl
       · exact rfl
       · first | exact gq (by assumption) | exact gn (by assumption)
       · exact rfl
       · exact rfl)
    | ((with_reducible apply qG1)
       · exact rfl
       · exact rfl
       · first | exact gq (by assumption) | exact gn (by assumption)
       · exact rfl)
    | ((with_reducible apply qP1)
       · exact rfl
       · exact rfl
       · first | exact gq (by assumption) | exact gn (by assumption)
       · exact rfl
       · exact rfl)))
  exact q.1) : A := h ⟨q⟩
end Go.Proofs.YtnfegieaaaigmaaGreatDoor
