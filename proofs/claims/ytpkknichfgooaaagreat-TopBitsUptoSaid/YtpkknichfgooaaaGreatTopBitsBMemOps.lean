/-
  What one operation on memory does, and a call's beginning and end. Over any program.
-/
import Derived.Test.YtpkknichfgooaaaGreatTopBitsBKeeps
import Derived.Deep.Quiet
namespace Go.Proofs.YtpkknichfgooaaaGreat
open Go Go.RowKit
open Nat renaming blt→aR,beq→aH,eq_of_beq_eq_true→aQ,ble→cV,le_of_ble_eq_true→iF,add_assoc→dW
open List renaming eq_nil_of_length_eq_zero→cJ,nodup_append→cN
open Go.IntKind (i8 i16 i32 i64 u8 u16 u32 u64)

/-! ### lists of operations,by what each comes to -/
section
variable {P:Program} {m:Nat} {rd:Option Nat} {f:Fr} {w w':World} {ops:Array Oper} {K:Fr→World→Prop} {rest:List Oper}
variable {d t:Nat} {p:String} {af:Array Edge} {op:Op}

theorem lv {v:Value} (hd:aR d m=true) (hn:W7 op=true) (hr:(execOp (ev f) ⟨some d,op,t,p,af,none⟩).run P w= .ok (.value v) w')
  (k:Zv P m rd ops K rest (Z3 f d v) w'):Zv P m rd ops K (⟨some d,op,t,p,af,none⟩ :: rest) f w:=Zyk rfl hn hd hr k
theorem lV (v:Value) (hr:(execOp (ev f) ⟨some d,op,t,p,af,none⟩).run P w= .ok (.value v) w') (k:Zv P m rd ops K rest (Z3 f d v) w') (hd:aR d m=true:=by rfl) (hn:W7 op=true:=by rfl):
  Zv P m rd ops K (⟨some d,op,t,p,af,none⟩ :: rest) f w:=Zyk rfl hn hd hr k
theorem lu (hn:W7 op=true) (hr:(execOp (ev f) ⟨none,op,t,p,af,none⟩).run P w= .ok .skip w')
  (k:Zv P m rd ops K rest f w'):Zv P m rd ops K (⟨none,op,t,p,af,none⟩ :: rest) f w:=Z8f rfl hn rfl hr k
theorem lc {g:FuncId} {args:Array Value} {C:Ending→World→Prop} (hd:aR d m=true) (hn:W7 op=true)
  (hr:(execOp (ev f) ⟨some d,op,t,p,af,none⟩).run P w= .ok (.enter g args) w) (hc:Calls P g args w C)
  (k:∀ e w',C e w'→∃ v,e= .returned v∧Zv P m rd ops K rest (Z3 f d v) w'):Zv P m rd ops K (⟨some d,op,t,p,af,none⟩ :: rest) f w:=Z8b rfl hn hd hr hc k
theorem lp {j:Nat} {want b:Bool} (d':Nat) (hd:aR d m=true) (h1:(ops[j]?).bind (·.dst)=some d') (h2:aR d' m=true) (h3:f d'= .bool b) (hb:(b==want)=false)
  (k:Zv P m rd ops K rest (Z3 f d undef) w):Zv P m rd ops K (⟨some d,op,t,p,af,some (j,want)⟩ :: rest) f w:=Z8e rfl hd ⟨d',h1,h2,h3⟩ hb k
theorem Z2l {a:Act} {o:Oper} {j:Nat} {want:Bool} {d':Nat} (ha:Y8 m a f) (hg:o.guard=some (j,want)) (h1:(ops[j]?).bind (·.dst)=some d') (h2:aR d' m=true) (h3:f d'=undef):
  Region.wanted o (yielded ops a.tmps)=false:=by
 have b:d'<a.tmps.size:=by rw [ha.size];simpa using h2
 have c:yielded ops a.tmps j=none:=by
  unfold yielded
  have:a.tmps[d']?=some undef:=by
   have:=ha.get d' (Nat.lt_of_lt_of_le b (by rw [ha.size];exact ha.small))
   rw [h3] at this
   simp only [Array.getD_eq_getD_getElem?,Array.getElem?_eq_getElem b,Option.getD_some] at this
   rw [Array.getElem?_eq_getElem b,this]
  simp [h1,this,undef]
 simp only [Region.wanted,hg,c]
 rfl
theorem Zol {j:Nat} {want:Bool} (d':Nat) (hd:aR d m=true) (h1:(ops[j]?).bind (·.dst)=some d') (h2:aR d' m=true) (h3:f d'=undef)
  (k:Zv P m rd ops K rest (Z3 f d undef) w):Zv P m rd ops K (⟨some d,op,t,p,af,some (j,want)⟩ :: rest) f w:=by
 intro a b Q c
 refine wpListIn_step fun g e=>?_
 rw [Z2l b rfl h1 h2 h3]
 exact ⟨fun _ _=>trivial,e _ _ (k _ (b.put (d:=some d) hd undef) Q c)⟩
theorem lg {dst:Option Nat} {j:Nat} {want b:Bool} (d':Nat) (h1:(ops[j]?).bind (·.dst)=some d') (h2:aR d' m=true) (h3:f d'= .bool b) (hb:(b==want)=true)
  (k:Zv P m rd ops K (⟨dst,op,t,p,af,none⟩ :: rest) f w):Zv P m rd ops K (⟨dst,op,t,p,af,some (j,want)⟩ :: rest) f w:=lgo rfl ⟨d',h1,h2,h3⟩ hb k
end

/-! ### a region that draws its order,all of whose operations leave what was there alone and yield one value -/
section
variable {P:Program} {m:Nat} {f:Fr} {col:Zg} {w:World} {ops:Array Oper} {rest:List Oper}
variable {d t:Nat} {p:String} {af:Array Edge} {op:Op}

def Wx (P:Program) (m:Nat) (ops:Array Oper) (C:World→Prop) (K:Fr→Prop) (l:List Oper) (f:Fr):Prop:=
 ∀ a,Y8 m a f→∀ Q:Act→Prop,(∀ a' f',Y8 m a' f'→K f'→Q a')→wpQuiet P ops C Q l a

variable {C:World→Prop} {K:Fr→Prop}
theorem Wx.ld {l:List Oper} {d:Nat} {v:Value} (h:f d=v) (k:Wx P m ops C K l (Z3 f d v)):Wx P m ops C K l f:=by
 rwa [Zkk h] at k
theorem Wj (h:K f):Wx P m ops C K [] f:=fun a b _ c=>c a f b h
theorem qv {v:Value} (hd:aR d m=true) (hr:∀ w,C w→(execOp (ev f) ⟨some d,op,t,p,af,none⟩).run P w= .ok (.value v) w)
  (k:Wx P m ops C K rest (Z3 f d v)):Wx P m ops C K (⟨some d,op,t,p,af,none⟩ :: rest) f:=by
 intro a b Q c
 refine wpQuiet_step fun i e=>?_
 simp only [Region.wanted,if_true]
 refine ⟨v,fun w g=>?_,e _ (k _ (b.put (d:=some d) hd v) Q c)⟩
 simp only [Oper.quietAt,b.eval,hr w g,Oper.quietUpon,and_self]
theorem qc {v:Value} (hd:aR d m=true) (hr:∀ w,C w→∃ g args,(execOp (ev f) ⟨some d,op,t,p,af,none⟩).run P w= .ok (.enter g args) w∧Calls P g args w (fun e w'=>e= .returned v∧C w'))
  (k:Wx P m ops C K rest (Z3 f d v)):Wx P m ops C K (⟨some d,op,t,p,af,none⟩ :: rest) f:=by
 intro a b Q c
 refine wpQuiet_step fun q i=>?_
 simp only [Region.wanted,if_true]
 refine ⟨v,fun w l=>?_,i _ (k _ (b.put (d:=some d) hd v) Q c)⟩
 obtain ⟨g,args,n,o⟩:=hr w l
 simp only [Oper.quietAt,b.eval,n,Oper.quietUpon,true_and]
 exact o
theorem qp {j:Nat} {want b:Bool} (d':Nat) (hd:aR d m=true) (h1:(ops[j]?).bind (·.dst)=some d') (h2:aR d' m=true) (h3:f d'= .bool b) (hb:(b==want)=false)
  (k:Wx P m ops C K rest (Z3 f d undef)):Wx P m ops C K (⟨some d,op,t,p,af,some (j,want)⟩ :: rest) f:=by
 intro a c Q e
 refine wpQuiet_step fun i g=>?_
 rw [Zg6 c rfl ⟨d',h1,h2,h3⟩,hb]
 exact g _ (k _ (c.put (d:=some d) hd undef) Q e)
theorem U8 {j:Nat} {want:Bool} (d':Nat) (hd:aR d m=true) (h1:(ops[j]?).bind (·.dst)=some d') (h2:aR d' m=true) (h3:f d'=undef)
  (k:Wx P m ops C K rest (Z3 f d undef)):Wx P m ops C K (⟨some d,op,t,p,af,some (j,want)⟩ :: rest) f:=by
 intro a b Q c
 refine wpQuiet_step fun g e=>?_
 rw [Z2l b rfl h1 h2 h3]
 exact e _ (k _ (b.put (d:=some d) hd undef) Q c)
theorem qg {dst:Option Nat} {j:Nat} {want b:Bool} (d':Nat) (h1:(ops[j]?).bind (·.dst)=some d') (h2:aR d' m=true) (h3:f d'= .bool b) (hb:(b==want)=true)
  (k:Wx P m ops C K (⟨dst,op,t,p,af,none⟩ :: rest) f):Wx P m ops C K (⟨dst,op,t,p,af,some (j,want)⟩ :: rest) f:=by
 intro a c Q e
 have:=k a c Q e
 unfold wpQuiet at this ⊢
 rw [Zg6 c rfl ⟨d',h1,h2,h3⟩,hb]
 simp only [Region.wanted] at this
 exact this

theorem Xbe {rd:Option Nat} (hnd:∀ (j:Nat) (o:Oper),ops[j]?=some o→W7 o.op=true) {i:Nat} {a:Act} {K:Act→Prop} {K':Act→World→Prop} {Q':Exit→Act→World→Prop} {w:World} (hC:C w)
  (h:∀ a w',C w'→K a→K' a w') (hh:qOp P ops C i K a):wpOpIn (Yy rd) 0 P ops Q' i K' a w:=by
 unfold qOp at hh
 unfold wpOpIn
 split
 ·rename_i k;simp only [k] at hh;exact h _ _ hC hh
 ·rename_i o k
  simp only [k] at hh
  split
  ·rename_i l
   simp only [l,if_true] at hh
   obtain ⟨v,B,q⟩:=hh
   have b:=B w hC
   refine ⟨fun _ _=>trivial,?_⟩
   show Oper.uponIn _ _ _ _ _ _ _ ((o.semAt rd a.eval).run P w)
   rw [Zc5 (hnd i o k)]
   unfold Oper.quietAt at b
   generalize (execOp a.eval o).run P w=r at *
   cases r with
   | ok n w'=>
    cases n <;> simp only [Oper.quietUpon] at b <;> simp only [Oper.uponIn]
    case value u=>obtain ⟨c,s⟩:=b;rw [c,s];exact h _ _ hC q
    case skip=>obtain ⟨c,s⟩:=b;rw [c,← s];exact h _ _ hC q
    case enter g args=>
     obtain ⟨c,D⟩:=b
     rw [c]
     exact ⟨fun h=>(by cases h),(Zq9 D rd _).mono fun e F ⟨E,A⟩=>by subst E;exact h _ _ A q⟩
   | halt x w'=>simp only [Oper.quietUpon] at b
  ·rename_i l;simp only [l] at hh;exact ⟨fun _ _=>trivial,h _ _ hC hh⟩

theorem Z2m {rd:Option Nat} (hnd:∀ (j:Nat) (o:Oper),ops[j]?=some o→W7 o.op=true) {md:Region.Mode} {Q:Act→Prop} {Q':Exit→Act→World→Prop} (hQ:∀ a w,C w→Q a→Q' .normal a w):∀ (fuel:Nat) (listed:Array Bool) (a:Act) (w:World),C w→
  wpAnyQ P md ops C Q fuel listed a→wpAnyIn (Yy rd) 0 P md ops Q' fuel listed a w
 | 0,_,_,_,b,h=>⟨h.1,hQ _ _ b h.2⟩
 | fuel+1,_,_,_,b,h=>⟨fun e=>hQ _ _ b (h.1 e),fun i g=>Xbe hnd b (fun k w' c=>Z2m hnd hQ fuel _ k w' c) (h.2 i g)⟩

theorem Vp {rd:Option Nat} {i:Nat} {l:List Oper} {N R:Fr→World→Prop} {E:Nat→Fr→World→Prop} (hm:P.follows .mixedOrders=true) (hB:(Region.lexB .any l.toArray&&l.all fun o=>W7 o.op)=true)
  (h:Wx P m l.toArray (fun w'=>Zl col w col w') (fun f'=>∀ w',Zl col w col w'→N f' w') l f):Wp P m rd (.region i l.toArray true) N R E f w:=by
 intro a k
 simp only [Bool.and_eq_true] at hB
 have b:=hB.1
 simp only [Region.lexB,Bool.and_eq_true] at b
 have g:∀ (j:Nat) (o:Oper),l.toArray[j]?=some o→W7 o.op=true:=fun j o n=>by
  have:=List.all_eq_true.1 hB.2 o (List.mem_of_getElem? (by simpa using n))
  exact this
 refine wpIn_region_any hm (Z2m (C:=fun w'=>Zl col w col w') g (Q:=fun e=>∀ w',Zl col w col w'→T5 m N R E .normal e w') (fun _ w' c h=>h w' c) _ _ _ _ ((Zl.refl col w).drew) ?_)
 have:=wpAnyQ_lex (C:=fun w'=>Zl col w col w') (md:=.any) b.1 l 0 (Array.replicate l.toArray.size false) a (by simp) (by simpa using b.2)
  (h a k (fun e=>∀ w',Zl col w col w'→T5 m N R E .normal e w') (fun e f' q s w' c=>⟨f',q,s w' c⟩))
 simpa using this
end

section
variable {P:Program} {m:Nat} {f:Fr} {w:World}

def Sn:List Value→Nat→Fr
 | [],_=>fun _=>undef
 | v :: vs,i=>Z3 (Sn vs (i+1)) i v

theorem Z7m (l:List Value):∀ (i t:Nat),Sn l i t=if i≤t then (l[t - i]?).getD undef else undef:=by
 induction l with
 | nil=>intro i t;simp [Sn]
 | cons v g b=>
  intro i t
  simp only [Sn,Z3]
  cases hb:aH t i
  ·have c:t≠i:=by intro e;subst e;simp at hb
   simp only [cond_false,b]
   by_cases h:i≤t
   ·rw [if_pos (by omega),if_pos h,show t - i=(t - (i+1))+1 by omega];simp
   ·rw [if_neg (by omega),if_neg h]
  ·have:=aQ hb;subst this;simp

theorem Zdd {g:FuncId} {fn:Func} {c:Code} {args:List Value} {C:Ending→World→Prop} (R:Fr→World→Prop) (hf:P.funcs[g]?=some fn) (hb:fn.body=some c) (hm:fn.ntmps=m) (hl:(cV args.length m&&cV m 1000000)=true)
  (hR:∀ a f w',Y8 m a f→R f w'→LeavesInM (Yy none) 0 P fn a.tmps C a.defers .returning w')
  (h:Wp P m none c R R (fun _ _ _=>False) (Z3 (Sn args 0) 1000000 (enc [])) w):Calls P g args.toArray w C:=by
 simp only [Bool.and_eq_true] at hl
 have B:=iF hl.1
 have u:=iF hl.2
 refine (callsIn_wide (n:=0)).1 (callsIn_of_wp_marks hf hb trivial ?_ rfl)
 have s:Y8 m { tmps:=args.toArray++Array.replicate (fn.ntmps - args.toArray.size) undef,defers:=[] } (Z3 (Sn args 0) 1000000 (enc [])):=by
  refine ⟨u,by simp [hm];omega,fun t D=>?_,by simp [Z3,Zdg,Zc2]⟩
  have v:aH t 1000000=false:=by
   cases b:aH t 1000000
   ·rfl
   ·have:=aQ b;omega
  simp only [Z3,v,cond_false]
  rw [Z7m]
  simp only [Nat.zero_le,if_true,Nat.sub_zero,Array.getD_eq_getD_getElem?]
  by_cases ht:t<args.length
  ·rw [Array.getElem?_append_left (by simpa using ht)];simp
  ·rw [Array.getElem?_append_right (by simp;omega)]
   simp only [List.size_toArray,Array.getElem?_replicate]
   rw [List.getElem?_eq_none (by omega)]
   split <;> rfl
 refine wpIn_mono (h _ s) ?_
 intro e A w' b
 cases e with
 | normal=>obtain ⟨o,q,k⟩:=b;exact hR A o w' q k
 | ret=>obtain ⟨o,q,k⟩:=b;exact hR A o w' q k
 | exit i=>obtain ⟨o,q,k⟩:=b;exact k.elim
 | goto l=>exact b.elim
 | panic c=>exact b.elim
 | outgrown=>exact b.elim

theorem Zla {fn:Func} {a:Act} {C:Ending→World→Prop} {v:Value} (ha:Y8 m a f) (h0:f 1000000=enc []) (hr:(results fn a.tmps).run P w= .ok v w) (hC:C (.returned v) w):
  LeavesInM (Yy none) 0 P fn a.tmps C a.defers .returning w:=by
 rw [ha.defers,h0,Zdg]
 exact ⟨v,hr,hC⟩

theorem Zk1 {g:FuncId} {fn:Func} {c:Code} {args:List Value} {C:Ending→World→Prop} (hf:P.funcs[g]?=some fn) (hb:fn.body=some c) (hm:fn.ntmps=m) (hl:(cV args.length m&&cV m 1000000)=true)
  (hr:fn.results=#[]) (h:Wp P m none c (fun f w=>f 1000000=enc []∧C (.returned (.tuple #[])) w) (fun f w=>f 1000000=enc []∧C (.returned (.tuple #[])) w) (fun _ _ _=>False) (Z3 (Sn args 0) 1000000 (enc [])) w):Calls P g args.toArray w C:=
 Zdd _ hf hb hm hl (fun _ _ _ e b=>Zla e b.1 (by rw [results_none hr]) b.2) h
theorem Xk {g:FuncId} {fn:Func} {c:Code} {args:List Value} {C:Ending→World→Prop} (r:Nat) (hf:P.funcs[g]?=some fn) (hb:fn.body=some c) (hm:fn.ntmps=m) (hl:(cV args.length m&&cV m 1000000)=true)
  (hr:fn.results=#[.tmp r]) (hlt:aR r 1000000=true) (h:Wp P m none c (fun f w=>f 1000000=enc []∧C (.returned (f r)) w) (fun f w=>f 1000000=enc []∧C (.returned (f r)) w) (fun _ _ _=>False) (Z3 (Sn args 0) 1000000 (enc [])) w):Calls P g args.toArray w C:=
 Zdd _ hf hb hm hl (fun _ _ _ b e=>Zla b e.1 (by rw [results_tmp hr,b.get _ (by simpa using hlt)]) e.2) h
theorem Zde {g:FuncId} {fn:Func} {c:Code} {args:List Value} {C:Ending→World→Prop} (r s:Nat) (hf:P.funcs[g]?=some fn) (hb:fn.body=some c) (hm:fn.ntmps=m) (hl:(cV args.length m&&cV m 1000000)=true)
  (hr:fn.results=#[.tmp r,.tmp s]) (hlt:(aR r 1000000&&aR s 1000000)=true) (h:Wp P m none c (fun f w=>f 1000000=enc []∧C (.returned (.tuple #[f r,f s])) w) (fun f w=>f 1000000=enc []∧C (.returned (.tuple #[f r,f s])) w) (fun _ _ _=>False) (Z3 (Sn args 0) 1000000 (enc [])) w):Calls P g args.toArray w C:=by
 simp only [Bool.and_eq_true,Nat.blt_eq] at hlt
 exact Zdd _ hf hb hm hl (fun _ _ _ b e=>Zla b e.1 (by rw [results_tmp2 hr,b.get _ hlt.1,b.get _ hlt.2]) e.2) h
theorem Xab {fn:Func} {t u s:Tmp} (h:fn.results=#[.tmp t,.tmp u,.tmp s]) (tmps:Array Value) (P:Program) (w:World):
  (results fn tmps).run P w= .ok (.tuple #[tmps.getD t undef,tmps.getD u undef,tmps.getD s undef]) w:=by
 simp [results,h]
theorem Zra {g:FuncId} {fn:Func} {c:Code} {args:List Value} {C:Ending→World→Prop} (r s u:Nat) (hf:P.funcs[g]?=some fn) (hb:fn.body=some c) (hm:fn.ntmps=m) (hl:(cV args.length m&&cV m 1000000)=true)
  (hr:fn.results=#[.tmp r,.tmp s,.tmp u]) (hlt:(aR r 1000000&&aR s 1000000&&aR u 1000000)=true) (h:Wp P m none c (fun f w=>f 1000000=enc []∧C (.returned (.tuple #[f r,f s,f u])) w) (fun f w=>f 1000000=enc []∧C (.returned (.tuple #[f r,f s,f u])) w) (fun _ _ _=>False) (Z3 (Sn args 0) 1000000 (enc [])) w):Calls P g args.toArray w C:=by
 simp only [Bool.and_eq_true,Nat.blt_eq] at hlt
 exact Zdd _ hf hb hm hl (fun _ _ _ b e=>Zla b e.1 (by rw [Xab hr,b.get _ hlt.1.1,b.get _ hlt.1.2,b.get _ hlt.2]) e.2) h
end

/-! ### reading -/
def X5 (a:Option Addr) (n:Nat):Value:=.pointer (a.map (·.add n))

def Tz (w:World) (ptr v:Value):Prop:=∃ b o,ptr= .pointer (some ⟨b,o,none⟩)∧w.cell? ⟨b,o,none⟩=some v
def V2 (w:World) (ptr:Value) (cs:List Value):Prop:=∃ b o,ptr= .pointer (some ⟨b,o,none⟩)∧∀ q v,cs[q]?=some v→w.cell? ⟨b,o+q,none⟩=some v

theorem Tz.gr {w w':World} {col col':Zg} {ptr v:Value} (h:Tz w ptr v) (hg:Zl col w col' w'):Tz w' ptr v:=by
 obtain ⟨b,o,e,c⟩:=h
 exact ⟨b,o,e,by rw [World.cell?_of_block (hg.below.block b (World.block_lt_of_cell? w _ c))];exact c⟩
theorem V2.gr {w w':World} {col col':Zg} {ptr:Value} {cs:List Value} (h:V2 w ptr cs) (hg:Zl col w col' w'):V2 w' ptr cs:=by
 obtain ⟨b,o,g,c⟩:=h
 exact ⟨b,o,g,fun q v e=>by rw [World.cell?_of_block (hg.below.block b (World.block_lt_of_cell? w _ (c q v e)))];exact c q v e⟩

section
variable {α:Type} {r:Zc α} {col:Zg} {w:World} {a:Option Addr} {cap:Nat} {xs:List α} {x0:α} {j:Int}

theorem Rows.nils:∀ {xs:List α} {fl:List Value} {b1 b2 b3:List Nat},Rows r col w fl xs []→([]:List Nat)=b1++b2++b3→b1=[]∧b2=[]∧b3=[]:=fun _ h=>by
 have:=congrArg List.length h
 simp only [List.length_nil,List.length_append] at this
 exact ⟨cJ (by omega),cJ (by omega),cJ (by omega)⟩
theorem Sl.atN (h:Sl r col w a cap xs) (hj:Zn xs j=some x0):∃ cs,r.rd col w cs x0 []∧V2 w (X5 a (j.toNat * r.sz)) cs:=by
 obtain ⟨s,u,c⟩:=Xo hj
 rcases h.2 with h | ⟨b,e,A,rfl,-,g,i⟩
 ·subst h;simp at c
 ·obtain ⟨cs,B,D,E,k,l,n,_⟩:=g.get c
  obtain ⟨rfl,rfl,rfl⟩:=Rows.nils g k
  refine ⟨cs,l,b,e+j.toNat * r.sz,by simp [X5,Vh],fun q v o=>?_⟩
  rw [dW];exact i _ _ (n q v o)
theorem V2.one {ptr v:Value} (h:V2 w ptr [v]):Tz w ptr v:=by
 obtain ⟨b,o,c,e⟩:=h
 exact ⟨b,o,c,e 0 v rfl⟩
theorem Sl.atInt {i:IntKind} {xs:List Int} {x0:Int} (h:Sl (Zc.int i) col w a cap xs) (hj:Zn xs j=some x0):Tz w (X5 a (j.toNat * 1)) (.int i x0):=by
 obtain ⟨c,⟨rfl,_⟩,b⟩:=h.atN hj
 exact b.one
theorem Sl.atStr {xs:List ByteArray} {x0:ByteArray} (h:Sl Zc.str col w a cap xs) (hj:Zn xs j=some x0):Tz w (X5 a (j.toNat * 1)) (.string x0):=by
 obtain ⟨c,⟨rfl,_⟩,b⟩:=h.atN hj
 exact b.one
theorem Zb.atN {e c:Nat} (h:Zb r e c col w a cap xs) (hj:Zn xs j=some x0):∃ cs,Ys r c col w cs x0∧V2 w (X5 a (j.toNat * r.sz)) cs:=by
 obtain ⟨F,G,n⟩:=Xo hj
 obtain ⟨H,⟨I,J,i,o,rfl⟩,k⟩:=h
 rcases i.2 with ⟨_,L⟩ | ⟨g,M,E,l,_⟩
 ·omega
 ·simp only [Value.slice.injEq] at l
  obtain ⟨rfl,_,rfl⟩:=l
  obtain ⟨cs,N,s,O,rfl,u,A,_⟩:=o.get n
  refine ⟨cs,⟨s,u,?_,fun b B=>k.2 b (by simp [B])⟩,g,0+j.toNat * r.sz,by simp [X5,Vh],fun q v D=>?_⟩
  ·exact (cN.1 (cN.1 (cN.1 k.1).2.1).1).2.1
  ·have:=i.cells (g:=g) rfl _ _ (A q v D)
   rw [Vh] at this
   rw [dW];exact this
theorem Zb.atInt {i:IntKind} {e c cap:Nat} {xs:List Int} {x0:Int} (h:Zb (Zc.int i) e c col w a cap xs) (hj:Zn xs j=some x0):Tz w (X5 a (j.toNat * 1)) (.int i x0):=by
 obtain ⟨g,⟨_,⟨rfl,_⟩,_⟩,b⟩:=h.atN hj
 exact b.one
theorem Zb.atBool {e c cap:Nat} {xs:List Bool} {x0:Bool} (h:Zb Zc.bool e c col w a cap xs) (hj:Zn xs j=some x0):Tz w (X5 a (j.toNat * 1)) (.bool x0):=by
 obtain ⟨g,⟨_,⟨rfl,_⟩,_⟩,b⟩:=h.atN hj
 exact b.one
end

section
variable {P:Program} {f:Fr} {w:World} {dst:Option Tmp} {t:Nat} {p:String} {af:Array Edge} {gd:Option (Nat×Bool)} {x y:Operand}

theorem Wd {xt e:TypeId} {i:IntKind} {j:Int} {a:Option Addr} {n cap sz:Nat} (ht:P.underlying xt=some (.slice e)) (hs:∀ w,(sizeOf e).run P w= .ok sz w) (hx:ev f x= .slice a n cap) (hy:ev f y= .int i j)
  (h0:0≤j) (hn:j<(n:Int)) (ha:∃ b o,a=some ⟨b,o,none⟩):(execOp (ev f) ⟨dst,.indexAddr xt x y,t,p,af,gd⟩).run P w= .ok (.value (X5 a (j.toNat * sz))) w:=by
 obtain ⟨b,o,rfl⟩:=ha
 simp [execOp,hx,hy,Instr.indexAt,asIntOf,run_underlying ht,h0,hn,hs,X5]
theorem Sl.addr {α:Type} {r:Zc α} {col:Zg} {a:Option Addr} {cap:Nat} {xs:List α} {j:Int} {x0:α} (h:Sl r col w a cap xs) (hj:Zn xs j=some x0):∃ b o,a=some ⟨b,o,none⟩:=by
 obtain ⟨k,l,b,o,e,n⟩:=h.atN hj
 cases a with
 | none=>simp [X5] at e
 | some a=>
  obtain ⟨-,q,g⟩:=Xo hj
  rcases h.2 with h | ⟨b,c,s,i,-⟩
  ·subst h;simp at g
  ·exact ⟨b,c,i⟩
theorem Zb.addr {α:Type} {r:Zc α} {col:Zg} {a:Option Addr} {xs:List α} {j:Int} {x0:α} {e c cap:Nat} (h:Zb r e c col w a cap xs) (hj:Zn xs j=some x0):∃ b o,a=some ⟨b,o,none⟩:=by
 obtain ⟨n,q,s⟩:=Xo hj
 obtain ⟨u,⟨v,A,k,B,_⟩,D⟩:=h
 rcases k.2 with ⟨_,E⟩ | ⟨g,F,l,i,_⟩
 ·omega
 ·simp only [Value.slice.injEq] at i
  exact ⟨g,0,i.1⟩
theorem Tu {T:TypeId} {ptr v:Value} (ha:∀ w,(isAgg T).run P w= .ok false w) (hx:ev f x=ptr) (h:Tz w ptr v):(execOp (ev f) ⟨dst,.load T x,t,p,af,gd⟩).run P w= .ok (.value v) w:=by
 obtain ⟨b,o,rfl,c⟩:=h
 simp [execOp,hx,Instr.loadAt,Instr.sureAddr,loadVar,ha,run_load,c]
theorem Xi {T:TypeId} {ptr:Value} {cs:List Value} {n:Nat} (ha:∀ w,(isAgg T).run P w= .ok true w) (hs:∀ w,(sizeOf T).run P w= .ok n w) (hx:ev f x=ptr) (hn:cs.length=n) (h:V2 w ptr cs):
  (execOp (ev f) ⟨dst,.load T x,t,p,af,gd⟩).run P w= .ok (.value (.agg cs.toArray)) w:=by
 obtain ⟨b,o,rfl,c⟩:=h
 have e:=run_loadCells_list (P:=P) (w:=w) ⟨b,o,none⟩ cs (fun j v g=>by rw [Vh];exact c j v g)
 subst hn
 simp [execOp,hx,Instr.loadAt,Instr.sureAddr,loadVar,ha,hs,e]
end
end Go.Proofs.YtpkknichfgooaaaGreat
