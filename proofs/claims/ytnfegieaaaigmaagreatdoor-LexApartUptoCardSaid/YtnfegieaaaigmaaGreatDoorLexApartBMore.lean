/-
  Maps, arrays, strings, closures that are called, what is lent: laws of single operations. Over any program.
-/
import Derived.Test.YtnfegieaaaigmaaGreatDoorLexApartBRange
import Derived.Test.YtnfegieaaaigmaaGreatDoorLexApartBMix
import Derived.Test.YtnfegieaaaigmaaGreatDoorLexApartBAgg
import Derived.MapKept
import Derived.Lib.Strings
namespace Go.Proofs.YtnfegieaaaigmaaGreatDoor
open Go Go.RowKit Go.MapKept

/-! ### what is lent -/
def nodupB : List Nat → Bool
 | [] => true
 | x :: r => !(r.any (Nat.beq x)) && nodupB r
def dstB (l : List Nat) : Bool := l.all (fun c => !(Nat.beq c 0)) && (nodupB l && Nat.ble l.length 10)
theorem dst_nz {l : List Nat} {p : Nat} (hd : dstB l = true) (i : Nat) (hi : l[i]? = some p) : p ≠ 0 := by
 simp only [dstB, Bool.and_eq_true, List.all_eq_true] at hd
 have := hd.1 p (List.mem_of_getElem? hi)
 intro e; subst e; simp at this
theorem dst_ix : ∀ {l : List Nat} {p : Nat} (_ : dstB l = true) (i : Nat) (_ : l[i]? = some p), pS l p = true ∧ 440 + l.findIdx (Nat.beq p) = 440 + i := by
 intro l p hd i hi
 simp only [dstB, Bool.and_eq_true] at hd
 have hn := hd.2.1
 clear hd
 refine ⟨by simp only [pS, List.any_eq_true]; exact ⟨p, List.mem_of_getElem? hi, by simp⟩, ?_⟩
 congr 1
 induction l generalizing i with
 | nil => simp at hi
 | cons x r ih =>
  simp only [nodupB, Bool.and_eq_true, Bool.not_eq_true', List.any_eq_false] at hn
  cases i with
  | zero => simp at hi; subst hi; simp [List.findIdx_cons]
  | succ i =>
   have hi' : r[i]? = some p := by simpa using hi
   have hne : Nat.beq p x = false := by
    cases hb : Nat.beq p x
    ·rfl
    ·have := Nat.eq_of_beq_eq_true hb
     subst this
     have := hn.1 p (List.mem_of_getElem? hi')
     simp at this
   simp [List.findIdx_cons, hne, ih i hi' hn.2]
section
variable {α : Type} {r : Rep α} {e c i p : Nat} {col col' : Col} {w w' : World} {xs : List α} {a : Option Addr} {cap : Nat} {l : List Nat} {bs : List Nat}
def NB (r : Rep α) : Prop := ∀ {col w cs x bs}, r.rd col w cs x bs → bs = []
theorem NB.int {k : IntKind} : NB (Rep.int k) := fun h => h.2
theorem NB.str : NB Rep.str := fun h => h.2
theorem NB.pair {β : Type} {s : Rep β} (h : NB r) (k : NB s) : NB (Rep.pair r s) := fun ⟨_, _, _, _, _, hb, h1, h2⟩ => by rw [hb, h h1, k h2]; rfl
theorem Rows.nb (hn : NB r) : ∀ {xs : List α} {fl : List Value} {bs : List Nat}, Rows r col w fl xs bs → bs = []
 | [], _, _, h => h.2
 | _ :: _, _, _, ⟨_, _, _, _, _, hb, h1, h2⟩ => by rw [hb, hn h1, Rows.nb hn h2]; rfl
theorem Own.srcN {cap2 : Nat} {c2 : Nat} (h : Own r e c2 col w a cap2 xs) (hn : NB r) : SrcC r c c col w a xs := by
 obtain ⟨bs, h1, h2⟩ := h
 obtain ⟨b2, _, h3⟩ := h1.src
 have : b2 = [] := by
  rcases h3 with h3 | ⟨_, _, _, _, h3, _⟩
  ·exact h3.2
  ·exact h3.nb hn
 subst this
 exact ⟨[], h3, .nil, .inl ⟨rfl, rfl⟩⟩
theorem rd_int (k : IntKind) (n : Int) : (Rep.int k).rd col w [.int k n] n [] := ⟨rfl, rfl⟩
theorem rd_str (b : ByteArray) : Rep.str.rd col w [.string b] b [] := ⟨rfl, rfl⟩
theorem Rows.nil0 : Rows r col w [] ([] : List α) [] := ⟨rfl, rfl⟩
theorem RowsH.ofF {fl : List Value} (h : Rows r col w fl xs []) : RowsH r c col w fl xs := ⟨[], h, .nil⟩
theorem Rows.consF {cs fl : List Value} {x : α} (h : r.rd col w cs x []) (k : Rows r col w fl xs []) : Rows r col w (cs ++ fl) (x :: xs) [] := ⟨cs, fl, [], [], rfl, rfl, h, k⟩

theorem cls {c1 c2 c3 c4 c5 : Col} {w1 w2 w3 w4 : World} (h1 : Grow c1 w1 c1 w2) (h2 : Grow c2 w2 c3 w3) (h3 : Grow c4 w3 c5 w4) : Grow c1 w1 c1 w4 :=
 .of_below (h1.below.trans ((h2.below.mono h1.below.size).trans (h3.below.mono (Nat.le_trans h1.below.size h2.below.size))))
end

/-! ### maps -/
set_option linter.unusedSectionVars false

/-! ### single operations -/
section
variable {P : Program} {f : Fr} {w : World} {dst : Option Tmp} {t : Nat} {p : String} {af : Array Edge} {gd : Option (Nat × Bool)} {x y : Operand} {T e : TypeId}
theorem r_nilCheck {a : Addr} (hx : ev f x = .pointer (some a)) : (execOp (ev f) ⟨dst, .nilCheck x, t, p, af, none⟩).run P w = .ok (.value (.pointer (some a))) w := by simp [execOp, hx]
def bat? (s : ByteArray) (j : Int) : Option Int := if 0 ≤ j then (s[j.toNat]?).map fun b => (b.toNat : Int) else none
theorem r_indexS {i : IntKind} {j v : Int} {s : ByteArray} (hT : P.underlying T = some .string) (hx : ev f x = .string s) (hy : ev f y = .int i j) (hj : bat? s j = some v) : (execOp (ev f) ⟨dst, .index T x y, t, p, af, none⟩).run P w = .ok (.value (.int .u8 v)) w := by
 unfold bat? at hj
 split at hj
 ·rename_i h0
  cases hb : s[j.toNat]? with
  | none => rw [hb] at hj; cases hj
  | some b =>
   rw [hb] at hj
   simp only [Option.map_some, Option.some.injEq] at hj
   subst hj
   simp [execOp, hx, hy, Instr.index, asIntOf, run_underlying hT, h0, hb]
 ·cases hj
section
variable {s s2 : ByteArray} {lo hi : Operand} {il ih : IntKind} {l h : Int}
theorem r_strLH (hT : P.underlying T = some .string) (hx : ev f x = .string s) (hl : ev f lo = .int il l) (hh : ev f hi = .int ih h) (hb : 0 ≤ l ∧ l ≤ h ∧ h ≤ (s.size : Int)) :
  (execOp (ev f) ⟨dst, .slice T x (some lo) (some hi) none, t, p, af, none⟩).run P w = .ok (.value (.string (s.extract l.toNat h.toNat))) w := by
 obtain ⟨h1, h2, h3⟩ := hb
 have h4 : 0 ≤ h := by omega
 have h5 : l ≤ max h 0 := by omega
 simp [execOp, Instr.sliceAt, run_underlying hT, hx, hl, hh, Instr.slice, Instr.sliceBounds, Instr.sliceBound, asIntOf, h1, h3, h4, h5]
theorem r_strL (hT : P.underlying T = some .string) (hx : ev f x = .string s) (hl : ev f lo = .int il l) (hb : 0 ≤ l ∧ l ≤ (s.size : Int) ∧ (s.size : Int) ≤ (s.size : Int)) :
  (execOp (ev f) ⟨dst, .slice T x (some lo) none none, t, p, af, none⟩).run P w = .ok (.value (.string (s.extract l.toNat (Int.toNat (s.size : Int))))) w := by
 obtain ⟨h1, h2, _⟩ := hb
 simp [execOp, Instr.sliceAt, run_underlying hT, hx, hl, Instr.slice, Instr.sliceBounds, Instr.sliceBound, asIntOf, h1, h2]
theorem r_strH (hT : P.underlying T = some .string) (hx : ev f x = .string s) (hh : ev f hi = .int ih h) (hb : (0 : Int) ≤ 0 ∧ 0 ≤ h ∧ h ≤ (s.size : Int)) :
  (execOp (ev f) ⟨dst, .slice T x none (some hi) none, t, p, af, none⟩).run P w = .ok (.value (.string (s.extract (Int.toNat 0) h.toNat))) w := by
 obtain ⟨_, h1, h2⟩ := hb
 simp [execOp, Instr.sliceAt, run_underlying hT, hx, hh, Instr.slice, Instr.sliceBounds, Instr.sliceBound, asIntOf, h1, h2]
theorem r_addS {yt : TypeId} (hT : P.underlying T = some .string) (hx : ev f x = .string s) (hy : ev f y = .string s2) (hb : s.size + s2.size ≤ maxLen) :
  (execOp (ev f) ⟨dst, .binOp .add T x y yt, t, p, af, none⟩).run P w = .ok (.value (.string (s ++ s2))) w := by
 have h1 : ¬ (((s.size + s2.size : Nat) : Int) > IntKind.i64.max) := by
  have : IntKind.i64.max = 9223372036854775807 := by decide
  rw [this]; simp only [maxLen] at hb; omega
 have h2 : (Op.stringOp .add s s2).run P w = .ok (.string (s ++ s2)) w := by
  unfold Op.stringOp; simp only; rw [if_neg h1]; rfl
 simp [execOp, hx, hy, eqGuard, binOp, run_underlying hT, h2]
end
theorem toList_beq (a b : ByteArray) : (a.toList == b.toList) = decide (a = b) := by
 rw [Go.Lib.toList_data, Go.Lib.toList_data, Bool.eq_iff_iff, beq_iff_eq, decide_eq_true_eq]
 exact ⟨fun h => by cases a; cases b; simpa using h, fun h => by rw [h]⟩
theorem r_eqlS {yt : TypeId} (a b : ByteArray) (_ : P.underlying T = some .string) (hx : ev f x = .string a) (hy : ev f y = .string b) : (execOp (ev f) ⟨dst, .binOp .eql T x y yt, t, p, af, none⟩).run P w = .ok (.value (.bool (decide (a = b)))) w := by
 have h1 : (Op.stringOp .eql a b).run P w = .ok (.bool (decide (a = b))) w := by rw [← toList_beq]; rfl
 simp [execOp, hx, hy, eqGuard, binOp, h1]
theorem r_neqS {yt : TypeId} (a b : ByteArray) (_ : P.underlying T = some .string) (hx : ev f x = .string a) (hy : ev f y = .string b) : (execOp (ev f) ⟨dst, .binOp .neq T x y yt, t, p, af, none⟩).run P w = .ok (.value (.bool (!decide (a = b)))) w := by
 have h1 : (Op.stringOp .neq a b).run P w = .ok (.bool (!decide (a = b))) w := by rw [← toList_beq]; rfl
 simp [execOp, hx, hy, eqGuard, binOp, h1]
end
section
variable {P : Program} {f : Fr} {t : Nat} {dst : Option Nat} {p : String} {af : Array Edge} {ts : Array TypeId} {g : FuncId} {x0 x1 x2 x3 : Operand} {v1 v2 v3 : Value} {lb : List Value} {w : World}
theorem r_callv1 (hc : ∀ args w, (callFunc g args).run P w = .ok (.enter g args) w) (h0 : ev f x0 = .func (.func g) #[] lb.toArray) (h1 : ev f x1 = v1) :
  (execOp (ev f) ⟨dst, .call { callee := .value x0, args := #[x1], argTypes := ts }, t, p, af, none⟩).run P w = .ok (.enter g (v1 :: lb).toArray) w := by
 subst h1; simp [execOp, resolve, h0, Deferred.ofValue, invoke, hc]
theorem r_callv2 (hc : ∀ args w, (callFunc g args).run P w = .ok (.enter g args) w) (h0 : ev f x0 = .func (.func g) #[] lb.toArray) (h1 : ev f x1 = v1) (h2 : ev f x2 = v2) :
  (execOp (ev f) ⟨dst, .call { callee := .value x0, args := #[x1, x2], argTypes := ts }, t, p, af, none⟩).run P w = .ok (.enter g (v1 :: v2 :: lb).toArray) w := by
 subst h1 h2; simp [execOp, resolve, h0, Deferred.ofValue, invoke, hc]
end

/-! ### a part of a variable, of an element that is out -/
section
variable {α : Type} {r : Rep α} {e c d i : Nat} {col col' : Col} {w w' : World} {a : Option Addr} {cap : Nat} {xs : List α} {cs : List Value}
theorem Box.storeF {P : Program} {f : Fr} {T t g n off : Nat} {p : String} {af : Array Edge} {px y : Operand} {v : Value} {cs : Array Value} (h : Box e c col w g cs)
  (hs : ∀ w, (sizeOf T).run P w = .ok n w) (hn : off + n ≤ cs.size) (hv : v.cells.size = n) (h1 : ∀ u ∈ v.cells.toList, u.oneCell' = true) (hx : ev f px = .pointer (some ⟨g, off, none⟩)) (hy : ev f y = v) :
  ∃ w', (execOp (ev f) ⟨none, .store T px y, t, p, af, none⟩).run P w = .ok .skip w' ∧ Keep c col w col w' ∧ Still w w' ∧ Box e c col w' g (cs.toList.take off ++ v.cells.toList ++ cs.toList.drop (off + n)).toArray := by
 have hrun := run_storeCells_at P g off e v.cells.toList 0 cs w h.2 (by simp [hv]; omega) h1
 simp only [Nat.add_zero, Array.length_toList, hv] at hrun
 refine ⟨w.setRow g (cs.toList.take off ++ v.cells.toList ++ cs.toList.drop (off + n)).toArray, ?_, ⟨by simp [World.setRow], fun _ _ => rfl, fun k _ hk => setRow_other w g k _ (fun e => hk (by rw [e, h.1]))⟩, ⟨rfl, rfl, rfl⟩, h.1, setRow_heap w g cs _ e _ h.2⟩
 simp only [execOp, hx, hy, Instr.storeAt, Instr.sureAddr, storeVar]
 simp [hs, hv, hrun]
end
section
variable {e : TypeId} {col : Col} {w : World} {P : Program} {m : Nat} {rd : Option Nat} {f : Fr} {ops : Array Oper} {K : Fr → World → Prop} {rest : List Oper} {t : Nat} {p : String} {af : Array Edge} {x y : Operand}
theorem l_bstoreF {T g n c off : Nat} {v : Value} {cs : Array Value} (h : Box e c col w g cs)
  (hs : ∀ w, (sizeOf T).run P w = .ok n w) (hn : Nat.ble (off + n) cs.size = true) (hv : v.cells.size = n) (h1 : ∀ u ∈ v.cells.toList, u.oneCell' = true) (hx : ev f x = .pointer (some ⟨g, off, none⟩)) (hy : ev f y = v)
  (k : ∀ w', Keep c col w col w' → Still w w' → Box e c col w' g (cs.toList.take off ++ v.cells.toList ++ cs.toList.drop (off + n)).toArray → WpL P m rd ops K rest f w') :
  WpL P m rd ops K (⟨none, .store T x y, t, p, af, none⟩ :: rest) f w := by
 obtain ⟨w', hr, h1, h2, h3⟩ := Box.storeF (t := t) (p := p) (af := af) h hs (Nat.le_of_ble_eq_true hn) hv h1 hx hy
 exact lu rfl hr (k _ h1 h2 h3)
end
end Go.Proofs.YtnfegieaaaigmaaGreatDoor
