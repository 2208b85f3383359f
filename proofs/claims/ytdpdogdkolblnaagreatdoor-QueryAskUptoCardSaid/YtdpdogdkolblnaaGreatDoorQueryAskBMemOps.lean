/-
  What one operation on memory does, and a call's beginning and end. Over any program.
-/
import Derived.Test.YtdpdogdkolblnaaGreatDoorQueryAskBKeeps
import Derived.Deep.Quiet
namespace Go.Proofs.YtdpdogdkolblnaaGreatDoor
open Go Go.RowKit
open Go.IntKind (i8 i16 i32 i64 u8 u16 u32 u64)

/-! ### lists of operations,by what each comes to -/
section
variable {P:Program} {m:Nat} {rd:Option Nat} {f:Fr} {w w':World} {ops:Array Oper} {K:Fr→World→Prop} {rest:List Oper}
variable {d t:Nat} {p:String} {af:Array Edge} {op:Op}

theorem lv {v:Value} (hd:Nat.blt d m=true) (hn:Wf op=true) (hr:(execOp (ev f) ⟨some d,op,t,p,af,none⟩).run P w= .ok (.value v) w')
  (k:Zp P m rd ops K rest (Zu f d v) w'):Zp P m rd ops K (⟨some d,op,t,p,af,none⟩ :: rest) f w:=Zr3 rfl hn hd hr k
theorem lV (v:Value) (hr:(execOp (ev f) ⟨some d,op,t,p,af,none⟩).run P w= .ok (.value v) w') (k:Zp P m rd ops K rest (Zu f d v) w') (hd:Nat.blt d m=true:=by rfl) (hn:Wf op=true:=by rfl):
  Zp P m rd ops K (⟨some d,op,t,p,af,none⟩ :: rest) f w:=Zr3 rfl hn hd hr k
theorem lu (hn:Wf op=true) (hr:(execOp (ev f) ⟨none,op,t,p,af,none⟩).run P w= .ok .skip w')
  (k:Zp P m rd ops K rest f w'):Zp P m rd ops K (⟨none,op,t,p,af,none⟩ :: rest) f w:=Z1d rfl hn rfl hr k
theorem lc {g:FuncId} {args:Array Value} {C:Ending→World→Prop} (hd:Nat.blt d m=true) (hn:Wf op=true)
  (hr:(execOp (ev f) ⟨some d,op,t,p,af,none⟩).run P w= .ok (.enter g args) w) (hc:Calls P g args w C)
  (k:∀ e w',C e w'→∃ v,e= .returned v∧Zp P m rd ops K rest (Zu f d v) w'):Zp P m rd ops K (⟨some d,op,t,p,af,none⟩ :: rest) f w:=Z08 rfl hn hd hr hc k
theorem lp {j:Nat} {want b:Bool} (d':Nat) (hd:Nat.blt d m=true) (h1:(ops[j]?).bind (·.dst)=some d') (h2:Nat.blt d' m=true) (h3:f d'= .bool b) (hb:(b==want)=false)
  (k:Zp P m rd ops K rest (Zu f d undef) w):Zp P m rd ops K (⟨some d,op,t,p,af,some (j,want)⟩ :: rest) f w:=Z1c rfl hd ⟨d',h1,h2,h3⟩ hb k
theorem Zvk {a:Act} {o:Oper} {j:Nat} {want:Bool} {d':Nat} (ha:Yl m a f) (hg:o.guard=some (j,want)) (h1:(ops[j]?).bind (·.dst)=some d') (h2:Nat.blt d' m=true) (h3:f d'=undef):
  Region.wanted o (yielded ops a.tmps)=false:=by
 have hlt:d'<a.tmps.size:=by rw [ha.size];simpa using h2
 have hy:yielded ops a.tmps j=none:=by
  unfold yielded
  have:a.tmps[d']?=some undef:=by
   have:=ha.get d' (Nat.lt_of_lt_of_le hlt (by rw [ha.size];exact ha.small))
   rw [h3] at this
   simp only [Array.getD_eq_getD_getElem?,Array.getElem?_eq_getElem hlt,Option.getD_some] at this
   rw [Array.getElem?_eq_getElem hlt,this]
  simp [h1,this,undef]
 simp only [Region.wanted,hg,hy]
 rfl
theorem Wv {j:Nat} {want:Bool} (d':Nat) (hd:Nat.blt d m=true) (h1:(ops[j]?).bind (·.dst)=some d') (h2:Nat.blt d' m=true) (h3:f d'=undef)
  (k:Zp P m rd ops K rest (Zu f d undef) w):Zp P m rd ops K (⟨some d,op,t,p,af,some (j,want)⟩ :: rest) f w:=by
 intro a ha Q hQ
 refine wpListIn_step fun K' hK=>?_
 rw [Zvk ha rfl h1 h2 h3]
 exact ⟨fun _ _=>trivial,hK _ _ (k _ (ha.put (d:=some d) hd undef) Q hQ)⟩
theorem lg {dst:Option Nat} {j:Nat} {want b:Bool} (d':Nat) (h1:(ops[j]?).bind (·.dst)=some d') (h2:Nat.blt d' m=true) (h3:f d'= .bool b) (hb:(b==want)=true)
  (k:Zp P m rd ops K (⟨dst,op,t,p,af,none⟩ :: rest) f w):Zp P m rd ops K (⟨dst,op,t,p,af,some (j,want)⟩ :: rest) f w:=lgo rfl ⟨d',h1,h2,h3⟩ hb k
end

/-! ### a region that draws its order,all of whose operations leave what was there alone and yield one value -/
section
variable {P:Program} {m:Nat} {f:Fr} {col:Zd} {w:World} {ops:Array Oper} {rest:List Oper}
variable {d t:Nat} {p:String} {af:Array Edge} {op:Op}

def Y9 (P:Program) (m:Nat) (ops:Array Oper) (C:World→Prop) (K:Fr→Prop) (l:List Oper) (f:Fr):Prop:=
 ∀ a,Yl m a f→∀ Q:Act→Prop,(∀ a' f',Yl m a' f'→K f'→Q a')→wpQuiet P ops C Q l a

variable {C:World→Prop} {K:Fr→Prop}
theorem Y9.ld {l:List Oper} {d:Nat} {v:Value} (h:f d=v) (k:Y9 P m ops C K l (Zu f d v)):Y9 P m ops C K l f:=by
 rwa [Zij h] at k
theorem Y3 (h:K f):Y9 P m ops C K [] f:=fun a ha _ hQ=>hQ a f ha h
theorem qv {v:Value} (hd:Nat.blt d m=true) (hr:∀ w,C w→(execOp (ev f) ⟨some d,op,t,p,af,none⟩).run P w= .ok (.value v) w)
  (k:Y9 P m ops C K rest (Zu f d v)):Y9 P m ops C K (⟨some d,op,t,p,af,none⟩ :: rest) f:=by
 intro a ha Q hQ
 refine wpQuiet_step fun K' hK=>?_
 simp only [Region.wanted,if_true]
 refine ⟨v,fun w hw=>?_,hK _ (k _ (ha.put (d:=some d) hd v) Q hQ)⟩
 simp only [Oper.quietAt,ha.eval,hr w hw,Oper.quietUpon,and_self]
theorem qc {v:Value} (hd:Nat.blt d m=true) (hr:∀ w,C w→∃ g args,(execOp (ev f) ⟨some d,op,t,p,af,none⟩).run P w= .ok (.enter g args) w∧Calls P g args w (fun e w'=>e= .returned v∧C w'))
  (k:Y9 P m ops C K rest (Zu f d v)):Y9 P m ops C K (⟨some d,op,t,p,af,none⟩ :: rest) f:=by
 intro a ha Q hQ
 refine wpQuiet_step fun K' hK=>?_
 simp only [Region.wanted,if_true]
 refine ⟨v,fun w hw=>?_,hK _ (k _ (ha.put (d:=some d) hd v) Q hQ)⟩
 obtain ⟨g,args,h1,h2⟩:=hr w hw
 simp only [Oper.quietAt,ha.eval,h1,Oper.quietUpon,true_and]
 exact h2
theorem qp {j:Nat} {want b:Bool} (d':Nat) (hd:Nat.blt d m=true) (h1:(ops[j]?).bind (·.dst)=some d') (h2:Nat.blt d' m=true) (h3:f d'= .bool b) (hb:(b==want)=false)
  (k:Y9 P m ops C K rest (Zu f d undef)):Y9 P m ops C K (⟨some d,op,t,p,af,some (j,want)⟩ :: rest) f:=by
 intro a ha Q hQ
 refine wpQuiet_step fun K' hK=>?_
 rw [Zc1 ha rfl ⟨d',h1,h2,h3⟩,hb]
 exact hK _ (k _ (ha.put (d:=some d) hd undef) Q hQ)
theorem X0 {j:Nat} {want:Bool} (d':Nat) (hd:Nat.blt d m=true) (h1:(ops[j]?).bind (·.dst)=some d') (h2:Nat.blt d' m=true) (h3:f d'=undef)
  (k:Y9 P m ops C K rest (Zu f d undef)):Y9 P m ops C K (⟨some d,op,t,p,af,some (j,want)⟩ :: rest) f:=by
 intro a ha Q hQ
 refine wpQuiet_step fun K' hK=>?_
 rw [Zvk ha rfl h1 h2 h3]
 exact hK _ (k _ (ha.put (d:=some d) hd undef) Q hQ)
theorem qg {dst:Option Nat} {j:Nat} {want b:Bool} (d':Nat) (h1:(ops[j]?).bind (·.dst)=some d') (h2:Nat.blt d' m=true) (h3:f d'= .bool b) (hb:(b==want)=true)
  (k:Y9 P m ops C K (⟨dst,op,t,p,af,none⟩ :: rest) f):Y9 P m ops C K (⟨dst,op,t,p,af,some (j,want)⟩ :: rest) f:=by
 intro a ha Q hQ
 have:=k a ha Q hQ
 unfold wpQuiet at this ⊢
 rw [Zc1 ha rfl ⟨d',h1,h2,h3⟩,hb]
 simp only [Region.wanted] at this
 exact this

theorem Z31 {rd:Option Nat} (hnd:∀ (j:Nat) (o:Oper),ops[j]?=some o→Wf o.op=true) {i:Nat} {a:Act} {K:Act→Prop} {K':Act→World→Prop} {Q':Exit→Act→World→Prop} {w:World} (hC:C w)
  (h:∀ a w',C w'→K a→K' a w') (hh:qOp P ops C i K a):wpOpIn (X7 rd) 0 P ops Q' i K' a w:=by
 unfold qOp at hh
 unfold wpOpIn
 split
 ·rename_i ho;simp only [ho] at hh;exact h _ _ hC hh
 ·rename_i o ho
  simp only [ho] at hh
  split
  ·rename_i hw
   simp only [hw,if_true] at hh
   obtain ⟨v,h1,h2⟩:=hh
   have h3:=h1 w hC
   refine ⟨fun _ _=>trivial,?_⟩
   show Oper.uponIn _ _ _ _ _ _ _ ((o.semAt rd a.eval).run P w)
   rw [Q5 (hnd i o ho)]
   unfold Oper.quietAt at h3
   generalize (execOp a.eval o).run P w=r at *
   cases r with
   | ok n w'=>
    cases n <;> simp only [Oper.quietUpon] at h3 <;> simp only [Oper.uponIn]
    case value u=>obtain ⟨e1,e2⟩:=h3;rw [e1,e2];exact h _ _ hC h2
    case skip=>obtain ⟨e1,e2⟩:=h3;rw [e1,← e2];exact h _ _ hC h2
    case enter g args=>
     obtain ⟨e1,hc⟩:=h3
     rw [e1]
     exact ⟨fun h=>(by cases h),(Zmw hc rd _).mono fun e w'' ⟨he,hw''⟩=>by subst he;exact h _ _ hw'' h2⟩
   | halt x w'=>simp only [Oper.quietUpon] at h3
  ·rename_i hw;simp only [hw] at hh;exact ⟨fun _ _=>trivial,h _ _ hC hh⟩

theorem Zvn {rd:Option Nat} (hnd:∀ (j:Nat) (o:Oper),ops[j]?=some o→Wf o.op=true) {md:Region.Mode} {Q:Act→Prop} {Q':Exit→Act→World→Prop} (hQ:∀ a w,C w→Q a→Q' .normal a w):∀ (fuel:Nat) (listed:Array Bool) (a:Act) (w:World),C w→
  wpAnyQ P md ops C Q fuel listed a→wpAnyIn (X7 rd) 0 P md ops Q' fuel listed a w
 | 0,_,_,_,hw,h=>⟨h.1,hQ _ _ hw h.2⟩
 | fuel+1,_,_,_,hw,h=>⟨fun h0=>hQ _ _ hw (h.1 h0),fun i hi=>Z31 hnd hw (fun a' w' hw'=>Zvn hnd hQ fuel _ a' w' hw') (h.2 i hi)⟩

theorem Vs {rd:Option Nat} {i:Nat} {l:List Oper} {N R:Fr→World→Prop} {E:Nat→Fr→World→Prop} (hm:P.follows .mixedOrders=true) (hB:(Region.lexB .any l.toArray&&l.all fun o=>Wf o.op)=true)
  (h:Y9 P m l.toArray (fun w'=>Zg col w col w') (fun f'=>∀ w',Zg col w col w'→N f' w') l f):Wp P m rd (.region i l.toArray true) N R E f w:=by
 intro a ha
 simp only [Bool.and_eq_true] at hB
 have hB1:=hB.1
 simp only [Region.lexB,Bool.and_eq_true] at hB1
 have hnd:∀ (j:Nat) (o:Oper),l.toArray[j]?=some o→Wf o.op=true:=fun j o ho=>by
  have:=List.all_eq_true.1 hB.2 o (List.mem_of_getElem? (by simpa using ho))
  exact this
 refine wpIn_region_any hm (Zvn (C:=fun w'=>Zg col w col w') hnd (Q:=fun a'=>∀ w',Zg col w col w'→Uh m N R E .normal a' w') (fun _ w' hw' h=>h w' hw') _ _ _ _ ((Zg.refl col w).drew) ?_)
 have:=wpAnyQ_lex (C:=fun w'=>Zg col w col w') (md:=.any) hB1.1 l 0 (Array.replicate l.toArray.size false) a (by simp) (by simpa using hB1.2)
  (h a ha (fun a'=>∀ w',Zg col w col w'→Uh m N R E .normal a' w') (fun a' f' h1 h2 w' hw'=>⟨f',h1,h2 w' hw'⟩))
 simpa using this
end

section
variable {P:Program} {m:Nat} {f:Fr} {w:World}

def U7:List Value→Nat→Fr
 | [],_=>fun _=>undef
 | v :: vs,i=>Zu (U7 vs (i+1)) i v

theorem Z0j (l:List Value):∀ (i t:Nat),U7 l i t=if i≤t then (l[t - i]?).getD undef else undef:=by
 induction l with
 | nil=>intro i t;simp [U7]
 | cons v vs ih=>
  intro i t
  simp only [U7,Zu]
  cases hb:Nat.beq t i
  ·have hne:t≠i:=by intro e;subst e;simp at hb
   simp only [cond_false,ih]
   by_cases h:i≤t
   ·rw [if_pos (by omega),if_pos h,show t - i=(t - (i+1))+1 by omega];simp
   ·rw [if_neg (by omega),if_neg h]
  ·have:=Nat.eq_of_beq_eq_true hb;subst this;simp

theorem Zbl {g:FuncId} {fn:Func} {c:Code} {args:List Value} {C:Ending→World→Prop} (R:Fr→World→Prop) (hf:P.funcs[g]?=some fn) (hb:fn.body=some c) (hm:fn.ntmps=m) (hl:(Nat.ble args.length m&&Nat.ble m 1000000)=true)
  (hR:∀ a f w',Yl m a f→R f w'→LeavesInM (X7 none) 0 P fn a.tmps C a.defers .returning w')
  (h:Wp P m none c R R (fun _ _ _=>False) (Zu (U7 args 0) 1000000 (enc [])) w):Calls P g args.toArray w C:=by
 simp only [Bool.and_eq_true] at hl
 have hl1:=Nat.le_of_ble_eq_true hl.1
 have hl2:=Nat.le_of_ble_eq_true hl.2
 refine (callsIn_wide (n:=0)).1 (callsIn_of_wp_marks hf hb trivial ?_ rfl)
 have hfit:Yl m { tmps:=args.toArray++Array.replicate (fn.ntmps - args.toArray.size) undef,defers:=[] } (Zu (U7 args 0) 1000000 (enc [])):=by
  refine ⟨hl2,by simp [hm];omega,fun t htb=>?_,by simp [Zu,Zah,Q1]⟩
  have hne:Nat.beq t 1000000=false:=by
   cases hq:Nat.beq t 1000000
   ·rfl
   ·have:=Nat.eq_of_beq_eq_true hq;omega
  simp only [Zu,hne,cond_false]
  rw [Z0j]
  simp only [Nat.zero_le,if_true,Nat.sub_zero,Array.getD_eq_getD_getElem?]
  by_cases ht:t<args.length
  ·rw [Array.getElem?_append_left (by simpa using ht)];simp
  ·rw [Array.getElem?_append_right (by simp;omega)]
   simp only [List.size_toArray,Array.getElem?_replicate]
   rw [List.getElem?_eq_none (by omega)]
   split <;> rfl
 refine wpIn_mono (h _ hfit) ?_
 intro e a' w' hq
 cases e with
 | normal=>obtain ⟨f',h1,h2⟩:=hq;exact hR a' f' w' h1 h2
 | ret=>obtain ⟨f',h1,h2⟩:=hq;exact hR a' f' w' h1 h2
 | exit i=>obtain ⟨f',h1,h2⟩:=hq;exact h2.elim
 | goto l=>exact hq.elim
 | panic c=>exact hq.elim
 | outgrown=>exact hq.elim

theorem Zgb {fn:Func} {a:Act} {C:Ending→World→Prop} {v:Value} (ha:Yl m a f) (h0:f 1000000=enc []) (hr:(results fn a.tmps).run P w= .ok v w) (hC:C (.returned v) w):
  LeavesInM (X7 none) 0 P fn a.tmps C a.defers .returning w:=by
 rw [ha.defers,h0,Zah]
 exact ⟨v,hr,hC⟩

theorem Zae {g:FuncId} {fn:Func} {c:Code} {args:List Value} {C:Ending→World→Prop} (hf:P.funcs[g]?=some fn) (hb:fn.body=some c) (hm:fn.ntmps=m) (hl:(Nat.ble args.length m&&Nat.ble m 1000000)=true)
  (hr:fn.results=#[]) (h:Wp P m none c (fun f w=>f 1000000=enc []∧C (.returned (.tuple #[])) w) (fun f w=>f 1000000=enc []∧C (.returned (.tuple #[])) w) (fun _ _ _=>False) (Zu (U7 args 0) 1000000 (enc [])) w):Calls P g args.toArray w C:=
 Zbl _ hf hb hm hl (fun _ _ _ h1 h2=>Zgb h1 h2.1 (by rw [results_none hr]) h2.2) h
theorem Z5 {g:FuncId} {fn:Func} {c:Code} {args:List Value} {C:Ending→World→Prop} (r:Nat) (hf:P.funcs[g]?=some fn) (hb:fn.body=some c) (hm:fn.ntmps=m) (hl:(Nat.ble args.length m&&Nat.ble m 1000000)=true)
  (hr:fn.results=#[.tmp r]) (hlt:Nat.blt r 1000000=true) (h:Wp P m none c (fun f w=>f 1000000=enc []∧C (.returned (f r)) w) (fun f w=>f 1000000=enc []∧C (.returned (f r)) w) (fun _ _ _=>False) (Zu (U7 args 0) 1000000 (enc [])) w):Calls P g args.toArray w C:=
 Zbl _ hf hb hm hl (fun _ _ _ h1 h2=>Zgb h1 h2.1 (by rw [results_tmp hr,h1.get _ (by simpa using hlt)]) h2.2) h
theorem Zbm {g:FuncId} {fn:Func} {c:Code} {args:List Value} {C:Ending→World→Prop} (r s:Nat) (hf:P.funcs[g]?=some fn) (hb:fn.body=some c) (hm:fn.ntmps=m) (hl:(Nat.ble args.length m&&Nat.ble m 1000000)=true)
  (hr:fn.results=#[.tmp r,.tmp s]) (hlt:(Nat.blt r 1000000&&Nat.blt s 1000000)=true) (h:Wp P m none c (fun f w=>f 1000000=enc []∧C (.returned (.tuple #[f r,f s])) w) (fun f w=>f 1000000=enc []∧C (.returned (.tuple #[f r,f s])) w) (fun _ _ _=>False) (Zu (U7 args 0) 1000000 (enc [])) w):Calls P g args.toArray w C:=by
 simp only [Bool.and_eq_true,Nat.blt_eq] at hlt
 exact Zbl _ hf hb hm hl (fun _ _ _ h1 h2=>Zgb h1 h2.1 (by rw [results_tmp2 hr,h1.get _ hlt.1,h1.get _ hlt.2]) h2.2) h
theorem Z3a {fn:Func} {t u s:Tmp} (h:fn.results=#[.tmp t,.tmp u,.tmp s]) (tmps:Array Value) (P:Program) (w:World):
  (results fn tmps).run P w= .ok (.tuple #[tmps.getD t undef,tmps.getD u undef,tmps.getD s undef]) w:=by
 simp [results,h]
theorem Zmx {g:FuncId} {fn:Func} {c:Code} {args:List Value} {C:Ending→World→Prop} (r s u:Nat) (hf:P.funcs[g]?=some fn) (hb:fn.body=some c) (hm:fn.ntmps=m) (hl:(Nat.ble args.length m&&Nat.ble m 1000000)=true)
  (hr:fn.results=#[.tmp r,.tmp s,.tmp u]) (hlt:(Nat.blt r 1000000&&Nat.blt s 1000000&&Nat.blt u 1000000)=true) (h:Wp P m none c (fun f w=>f 1000000=enc []∧C (.returned (.tuple #[f r,f s,f u])) w) (fun f w=>f 1000000=enc []∧C (.returned (.tuple #[f r,f s,f u])) w) (fun _ _ _=>False) (Zu (U7 args 0) 1000000 (enc [])) w):Calls P g args.toArray w C:=by
 simp only [Bool.and_eq_true,Nat.blt_eq] at hlt
 exact Zbl _ hf hb hm hl (fun _ _ _ h1 h2=>Zgb h1 h2.1 (by rw [Z3a hr,h1.get _ hlt.1.1,h1.get _ hlt.1.2,h1.get _ hlt.2]) h2.2) h
end

/-! ### reading -/
def X5 (a:Option Addr) (n:Nat):Value:=.pointer (a.map (·.add n))

def Ut (w:World) (ptr v:Value):Prop:=∃ b o,ptr= .pointer (some ⟨b,o,none⟩)∧w.cell? ⟨b,o,none⟩=some v
def Vg (w:World) (ptr:Value) (cs:List Value):Prop:=∃ b o,ptr= .pointer (some ⟨b,o,none⟩)∧∀ q v,cs[q]?=some v→w.cell? ⟨b,o+q,none⟩=some v

theorem Ut.gr {w w':World} {col col':Zd} {ptr v:Value} (h:Ut w ptr v) (hg:Zg col w col' w'):Ut w' ptr v:=by
 obtain ⟨b,o,h1,h2⟩:=h
 exact ⟨b,o,h1,by rw [World.cell?_of_block (hg.below.block b (World.block_lt_of_cell? w _ h2))];exact h2⟩
theorem Vg.gr {w w':World} {col col':Zd} {ptr:Value} {cs:List Value} (h:Vg w ptr cs) (hg:Zg col w col' w'):Vg w' ptr cs:=by
 obtain ⟨b,o,h1,h2⟩:=h
 exact ⟨b,o,h1,fun q v hq=>by rw [World.cell?_of_block (hg.below.block b (World.block_lt_of_cell? w _ (h2 q v hq)))];exact h2 q v hq⟩

section
variable {α:Type} {r:Za α} {col:Zd} {w:World} {a:Option Addr} {cap:Nat} {xs:List α} {x0:α} {j:Int}

theorem Rows.nils:∀ {xs:List α} {fl:List Value} {b1 b2 b3:List Nat},Rows r col w fl xs []→([]:List Nat)=b1++b2++b3→b1=[]∧b2=[]∧b3=[]:=fun _ h=>by
 have:=congrArg List.length h
 simp only [List.length_nil,List.length_append] at this
 exact ⟨List.eq_nil_of_length_eq_zero (by omega),List.eq_nil_of_length_eq_zero (by omega),List.eq_nil_of_length_eq_zero (by omega)⟩
theorem Sl.atN (h:Sl r col w a cap xs) (hj:Zq xs j=some x0):∃ cs,r.rd col w cs x0 []∧Vg w (X5 a (j.toNat * r.sz)) cs:=by
 obtain ⟨h0,h1,h2⟩:=Yb hj
 rcases h.2 with h | ⟨b,off,fl,rfl,-,hr,hx⟩
 ·subst h;simp at h2
 ·obtain ⟨cs,b1,b2,b3,hb,h3,h4,_⟩:=hr.get h2
  obtain ⟨rfl,rfl,rfl⟩:=Rows.nils hr hb
  refine ⟨cs,h3,b,off+j.toNat * r.sz,by simp [X5,Vc],fun q v hq=>?_⟩
  rw [Nat.add_assoc];exact hx _ _ (h4 q v hq)
theorem Vg.one {ptr v:Value} (h:Vg w ptr [v]):Ut w ptr v:=by
 obtain ⟨b,o,h1,h2⟩:=h
 exact ⟨b,o,h1,h2 0 v rfl⟩
theorem Sl.atInt {i:IntKind} {xs:List Int} {x0:Int} (h:Sl (Za.int i) col w a cap xs) (hj:Zq xs j=some x0):Ut w (X5 a (j.toNat * 1)) (.int i x0):=by
 obtain ⟨cs,⟨rfl,_⟩,h2⟩:=h.atN hj
 exact h2.one
theorem Sl.atStr {xs:List ByteArray} {x0:ByteArray} (h:Sl Za.str col w a cap xs) (hj:Zq xs j=some x0):Ut w (X5 a (j.toNat * 1)) (.string x0):=by
 obtain ⟨cs,⟨rfl,_⟩,h2⟩:=h.atN hj
 exact h2.one
theorem Zc.atN {e c:Nat} (h:Zc r e c col w a cap xs) (hj:Zq xs j=some x0):∃ cs,Xc r c col w cs x0∧Vg w (X5 a (j.toNat * r.sz)) cs:=by
 obtain ⟨h0,h1,h2⟩:=Yb hj
 obtain ⟨bs,⟨fl,b0,h3,h4,rfl⟩,h5⟩:=h
 rcases h3.2 with ⟨_,hn⟩ | ⟨g,cp,cur,hv,_⟩
 ·omega
 ·simp only [Value.slice.injEq] at hv
  obtain ⟨rfl,_,rfl⟩:=hv
  obtain ⟨cs,b1,b2,b3,rfl,h6,h7,_⟩:=h4.get h2
  refine ⟨cs,⟨b2,h6,?_,fun b hb=>h5.2 b (by simp [hb])⟩,g,0+j.toNat * r.sz,by simp [X5,Vc],fun q v hq=>?_⟩
  ·exact (List.nodup_append.1 (List.nodup_append.1 (List.nodup_append.1 h5.1).2.1).1).2.1
  ·have:=h3.cells (g:=g) rfl _ _ (h7 q v hq)
   rw [Vc] at this
   rw [Nat.add_assoc];exact this
theorem Zc.atInt {i:IntKind} {e c cap:Nat} {xs:List Int} {x0:Int} (h:Zc (Za.int i) e c col w a cap xs) (hj:Zq xs j=some x0):Ut w (X5 a (j.toNat * 1)) (.int i x0):=by
 obtain ⟨cs,⟨_,⟨rfl,_⟩,_⟩,h2⟩:=h.atN hj
 exact h2.one
end

section
variable {P:Program} {f:Fr} {w:World} {dst:Option Tmp} {t:Nat} {p:String} {af:Array Edge} {gd:Option (Nat×Bool)} {x y:Operand}

theorem V1 {xt e:TypeId} {i:IntKind} {j:Int} {a:Option Addr} {n cap sz:Nat} (ht:P.underlying xt=some (.slice e)) (hs:∀ w,(sizeOf e).run P w= .ok sz w) (hx:ev f x= .slice a n cap) (hy:ev f y= .int i j)
  (h0:0≤j) (hn:j<(n:Int)) (ha:∃ b o,a=some ⟨b,o,none⟩):(execOp (ev f) ⟨dst,.indexAddr xt x y,t,p,af,gd⟩).run P w= .ok (.value (X5 a (j.toNat * sz))) w:=by
 obtain ⟨b,o,rfl⟩:=ha
 simp [execOp,hx,hy,Instr.indexAt,asIntOf,run_underlying ht,h0,hn,hs,X5]
theorem Sl.addr {α:Type} {r:Za α} {col:Zd} {a:Option Addr} {cap:Nat} {xs:List α} {j:Int} {x0:α} (h:Sl r col w a cap xs) (hj:Zq xs j=some x0):∃ b o,a=some ⟨b,o,none⟩:=by
 obtain ⟨cs,h1,b,o,h2,h3⟩:=h.atN hj
 cases a with
 | none=>simp [X5] at h2
 | some a=>
  obtain ⟨-,h4,h5⟩:=Yb hj
  rcases h.2 with h | ⟨b,off,fl,ha,-⟩
  ·subst h;simp at h5
  ·exact ⟨b,off,ha⟩
theorem Zc.addr {α:Type} {r:Za α} {col:Zd} {a:Option Addr} {xs:List α} {j:Int} {x0:α} {e c cap:Nat} (h:Zc r e c col w a cap xs) (hj:Zq xs j=some x0):∃ b o,a=some ⟨b,o,none⟩:=by
 obtain ⟨h0,h1,h2⟩:=Yb hj
 obtain ⟨bs,⟨fl,b2,h3,h4,_⟩,h5⟩:=h
 rcases h3.2 with ⟨_,hn⟩ | ⟨g,cp,cur,hv,_⟩
 ·omega
 ·simp only [Value.slice.injEq] at hv
  exact ⟨g,0,hv.1⟩
theorem Uz {T:TypeId} {ptr v:Value} (ha:∀ w,(isAgg T).run P w= .ok false w) (hx:ev f x=ptr) (h:Ut w ptr v):(execOp (ev f) ⟨dst,.load T x,t,p,af,gd⟩).run P w= .ok (.value v) w:=by
 obtain ⟨b,o,rfl,hc⟩:=h
 simp [execOp,hx,Instr.loadAt,Instr.sureAddr,loadVar,ha,run_load,hc]
theorem W9 {T:TypeId} {ptr:Value} {cs:List Value} {n:Nat} (ha:∀ w,(isAgg T).run P w= .ok true w) (hs:∀ w,(sizeOf T).run P w= .ok n w) (hx:ev f x=ptr) (hn:cs.length=n) (h:Vg w ptr cs):
  (execOp (ev f) ⟨dst,.load T x,t,p,af,gd⟩).run P w= .ok (.value (.agg cs.toArray)) w:=by
 obtain ⟨b,o,rfl,hc⟩:=h
 have hl:=run_loadCells_list (P:=P) (w:=w) ⟨b,o,none⟩ cs (fun j v hj=>by rw [Vc];exact hc j v hj)
 subst hn
 simp [execOp,hx,Instr.loadAt,Instr.sureAddr,loadVar,ha,hs,hl]
end
end Go.Proofs.YtdpdogdkolblnaaGreatDoor
