/-
  Function frames and a weakest precondition over them: a frame is a function from slots to values, so that a look-up is a reduction. One rule for each form of code, one for each operation. Also inside a round of a range over a function ('rd'). Over any program.
-/
import Derived.WalkKit
import Derived.RangeFuncRecord
import Derived.RangeFuncLeaves
import Derived.RangeFuncSeq
import Derived.TacticsInMore
import Derived.OrdersIn
namespace Go.Proofs.YtpkknichfgooaaaGreat
open Go
open Nat renaming beq→aH,blt→aR,eq_of_beq_eq_true→aQ
open Go.IntKind (i8 i16 i32 i64 u8 u16 u32 u64)

abbrev Fr:=Nat→Value
def Z3 (f:Fr) (d:Nat) (v:Value):Fr:=fun t=>bif aH t d then v else f t

def ev (f:Fr):Operand→Value
 | .tmp t=>bif aR t 1000000 then f t else undef
 | .const v=>v
 | .global g=>.pointer (some ⟨g,0,none⟩)
 | .func g=>.func (.func g) #[] #[]

theorem Zkk {f:Fr} {d:Nat} {v:Value} (h:f d=v):Z3 f d v=f:=by
 funext t
 unfold Z3
 cases hb:aH t d
 ·rfl
 ·have:=aQ hb;subst this;simpa using h.symm

def enc (ds:List Nat):Value:=.tuple (ds.map (fun D:Nat=>Value.int .u64 D)).toArray
def Zk6:Value→List Nat
 | .tuple a=>a.toList.map fun v=>match v with | .int _ n=>n.toNat | _=>0
 | _=>[]
theorem Zdg (ds:List Nat):Zk6 (enc ds)=ds:=by
 unfold Zk6 enc
 simp [Function.comp_def]
def Zc2 (ds:List Nat):List Deferred:=ds.map fun D=>{ target:=.collected D,args:=#[] }

structure Y8 (m:Nat) (a:Act) (f:Fr):Prop where
 small:m≤1000000
 size:a.tmps.size=m
 get:∀ t,t<1000000→a.tmps.getD t undef=f t
 defers:a.defers=Zc2 (Zk6 (f 1000000))

theorem Y8.eval {m:Nat} {a:Act} {f:Fr} (h:Y8 m a f):a.eval=ev f:=by
 funext x
 cases x with
 | tmp t=>
  simp only [Act.eval,ev]
  cases hb:aR t 1000000
  ·have c:1000000≤t:=by
    rcases Nat.lt_or_ge t 1000000 with b | b
    ·have d:aR t 1000000=true:=by simpa using b
     rw [hb] at d;cases d
    ·exact b
   have e:a.tmps.size≤t:=Nat.le_trans (by rw [h.size];exact h.small) c
   simp only [cond_false,Array.getD_eq_getD_getElem?]
   rw [Array.getElem?_eq_none e];rfl
  ·exact h.get t (by simpa using hb)
 | const v=>rfl
 | global g=>rfl
 | func g=>rfl

def Zc6 (f:Fr) (d:Option Nat) (v:Value):Fr:=match d with | some d=>Z3 f d v | none=>f

def Zdf (m:Nat) (d:Option Nat):Bool:=match d with | some d=>aR d m | none=>true

theorem Y8.put {m:Nat} {a:Act} {f:Fr} (h:Y8 m a f) {d:Option Nat} (hd:Zdf m d=true) (v:Value):Y8 m (a.put d v) (Zc6 f d v):=by
 cases d with
 | none=>exact h
 | some d=>
  have j:=h.small
  have c:d<a.tmps.size:=by have:=h.size;simp only [Zdf,Nat.blt_eq] at hd;omega
  refine ⟨j,by simp [Act.put,h.size],fun t k=>?_,?_⟩
  ·have g:=h.get t k
   simp only [Act.put,Zc6,Z3]
   cases b:aH t d
   ·have i:d≠t:=by intro e;subst e;simp at b
    simp only [Array.getD_eq_getD_getElem?,cond_false] at g ⊢
    rw [Array.getElem?_setIfInBounds_ne i];exact g
   ·have:=aQ b;subst this
    simp [c]
  ·have b:aH 1000000 d=false:=by
    cases b:aH 1000000 d
    ·rfl
    ·have:=aQ b;have:=h.size;omega
   simp only [Act.put,Zc6,Z3,b,cond_false];exact h.defers

def Yy (rd:Option Nat):Fence:={ fn:=fun _=>True,depth:=none,alive:=false,round:=rd }
theorem Z66 (rd:Option Nat) (n:Nat):(Yy rd).room n:=fun _ h=>by simp [Yy] at h
section
variable (P:Program) (m:Nat) (rd:Option Nat)

def Zv (ops:Array Oper) (K:Fr→World→Prop) (l:List Oper) (f:Fr) (w:World):Prop:=
 ∀ a,Y8 m a f→∀ Q:Exit→Act→World→Prop,(∀ a' f' w',Y8 m a' f'→K f' w'→Q .normal a' w')→wpListIn (Yy rd) 0 P ops Q l a w

def T5 (N R:Fr→World→Prop) (E:Nat→Fr→World→Prop):Exit→Act→World→Prop
 | .normal,a,w=>∃ f,Y8 m a f∧N f w
 | .ret,a,w=>∃ f,Y8 m a f∧R f w
 | .exit i,a,w=>∃ f,Y8 m a f∧E i f w
 | _,_,_=>False

def Wp (c:Code) (N R:Fr→World→Prop) (E:Nat→Fr→World→Prop) (f:Fr) (w:World):Prop:=
 ∀ a,Y8 m a f→c.wpIn (Yy rd) 0 P (T5 m N R E) a w
end

section
variable {P:Program} {m:Nat} {rd:Option Nat} {N R:Fr→World→Prop} {E:Nat→Fr→World→Prop} {f:Fr} {w:World}

theorem Wp.mono {c:Code} {N' R':Fr→World→Prop} {E':Nat→Fr→World→Prop} (h:Wp P m rd c N R E f w)
  (hN:∀ f w,N f w→N' f w) (hR:∀ f w,R f w→R' f w) (hE:∀ i f w,E i f w→E' i f w):Wp P m rd c N' R' E' f w:=by
 intro a k
 refine wpIn_mono (h a k) ?_
 intro e n o b
 cases e with
 | normal=>obtain ⟨d,g,j⟩:=b;exact ⟨d,g,hN _ _ j⟩
 | ret=>obtain ⟨d,g,j⟩:=b;exact ⟨d,g,hR _ _ j⟩
 | exit i=>obtain ⟨d,g,j⟩:=b;exact ⟨d,g,hE _ _ _ j⟩
 | goto l=>exact b.elim
 | panic c=>exact b.elim
 | outgrown=>exact b.elim

theorem Wp.cut {c:Code} (J:Fr→World→Prop) (h:∀ f w,J f w→N f w) (hc:Wp P m rd c J R E f w):Wp P m rd c N R E f w:=
 hc.mono h (fun _ _ h=>h) (fun _ _ _ h=>h)

theorem Wp.lD {c:Code} (d:Nat) {v:Value} (h:f d=v) (k:Wp P m rd c N R E (Z3 f d v) w):Wp P m rd c N R E f w:=by
 rwa [Zkk h] at k
theorem X1 (h:N f w):Wp P m rd .skip N R E f w:=fun _ a=>wpIn_skip ⟨f,a,h⟩
theorem Y5 (h:R f w):Wp P m rd .ret N R E f w:=fun _ a=>wpIn_ret ⟨f,a,h⟩
theorem Zqh {i:Nat} (h:E i f w):Wp P m rd (.exit i) N R E f w:=fun _ a=>wpIn_exit ⟨f,a,h⟩

theorem Zw {c d:Code} (h:Wp P m rd c (fun f w=>Wp P m rd d N R E f w) R E f w):Wp P m rd (.seq c d) N R E f w:=by
 intro a g
 refine wpIn_seq (wpIn_mono (h a g) ?_)
 intro e j o b
 cases e with
 | normal=>obtain ⟨p,k,n⟩:=b;exact n j k
 | ret=>exact b
 | exit i=>exact b
 | goto l=>exact b.elim
 | panic c=>exact b.elim
 | outgrown=>exact b.elim

def Zhp (i:Nat) (N:Fr→World→Prop) (E:Nat→Fr→World→Prop):Nat→Fr→World→Prop:=fun j=>bif aH j i then N else E j

theorem Zg7 {i:Nat} {c:Code} (h:Wp P m rd c N R (Zhp i N E) f w):Wp P m rd (.block i c) N R E f w:=by
 intro a n
 refine wpIn_block (wpIn_mono (h a n) ?_)
 intro e o p b
 cases e with
 | normal=>exact b
 | ret=>exact b
 | exit j=>
  obtain ⟨g,k,d⟩:=b
  simp only [Zhp] at d
  simp only [Exit.inBlock]
  by_cases hj:j=i
  ·subst hj;simp only [Nat.beq_refl,cond_true] at d;simp only [if_true];exact ⟨g,k,d⟩
  ·have:aH j i=false:=by rw [← Bool.not_eq_true];intro h;exact hj (aQ h)
   rw [this] at d;simp only [cond_false] at d;rw [if_neg hj];exact ⟨g,k,d⟩
 | goto l=>exact b.elim
 | panic c=>exact b.elim
 | outgrown=>exact b.elim

theorem Zt6 {c:Operand} {x y:Code} (b:Bool) (hb:ev f c= .bool b) (ht:b=true→Wp P m rd x N R E f w) (hf:b=false→Wp P m rd y N R E f w):
  Wp P m rd (.cond c x y) N R E f w:=by
 intro a d
 refine wpIn_cond_split (t:=b) (by rw [d.eval];exact hb) (fun h=>ht h a d) (fun h=>hf h a d)

theorem Ye {c:Operand} {x y:Code} (hb:ev f c= .bool true) (ht:Wp P m rd x N R E f w):Wp P m rd (.cond c x y) N R E f w:=
 Zt6 true hb (fun _=>ht) (fun h=>by cases h)
theorem Yd {c:Operand} {x y:Code} (hb:ev f c= .bool false) (hf:Wp P m rd y N R E f w):Wp P m rd (.cond c x y) N R E f w:=
 Zt6 false hb (fun h=>by cases h) (fun _=>hf)

theorem Wv {i:Nat} {l:List Oper} (h:Zv P m rd l.toArray N l f w):Wp P m rd (.region i l.toArray false) N R E f w:=by
 intro a b
 exact wpIn_region_lit (h a b _ fun g c j d e=>⟨c,d,e⟩)

theorem Zt7 {c:Code} (I:Nat→Fr→World→Prop) (n:Nat) (h0:I n f w)
  (round:∀ n f w,I n f w→Wp P m rd c (fun f' w'=>∃ k,k<n∧I k f' w') R E f w):Wp P m rd (.loop c) N R E f w:=by
 intro a o b k p s q r
 have t:∀ n,∀ a f w,Y8 m a f→I n f w→∃ e i w',T5 m N R E e i w'∧ArrivesIn (Machine.fenced P (Yy rd)) P (lone (b.atR a (.code c :: .inLoop c :: k)) p w) b k p e i w':=by
  intro n
  induction n using Nat.strongRecOn with
  | _ n v=>
   intro a f w o y
   obtain ⟨e,a₁,w₁,g,d⟩:=round n f w y a o b (.inLoop c :: k) p s q r
   cases e with
   | normal=>
    obtain ⟨f',A,j,B,u⟩:=g
    obtain ⟨e₂,a₂,w₂,g₂,d₂⟩:=v j B a₁ f' w₁ A u
    exact ⟨e₂,a₂,w₂,g₂,.of_steps (StepsIn.trans d (.one (fenced_calm q r rfl) stepR_inLoop)) d₂⟩
   | exit C=>exact ⟨.exit C,a₁,w₁,g,.pass (x:=.inLoop c) rfl (fun _ _=>.inl (by simp)) d⟩
   | ret=>exact ⟨.ret,a₁,w₁,g,.pass (x:=.inLoop c) rfl (fun _ _=>.inl (by simp)) d⟩
   | goto l=>exact g.elim
   | panic D=>exact g.elim
   | outgrown=>exact g.elim
 obtain ⟨e,i,w',g,d⟩:=t n a f w o h0
 exact ⟨e,i,w',g,.of_steps (.one (fenced_calm q r rfl) stepR_loop) d⟩

/-! ### Operations -/
variable {ops:Array Oper} {K:Fr→World→Prop} {rest:List Oper}

theorem Zj (h:K f w):Zv P m rd ops K [] f w:=fun a b _ c=>c a f w b h

theorem Zv.ld {l:List Oper} {d:Nat} {v:Value} (h:f d=v) (k:Zv P m rd ops K l (Z3 f d v) w):Zv P m rd ops K l f w:=by
 rwa [Zkk h] at k

def W7:Op→Bool | .defer _=>false | _=>true
theorem Zc5 {o:Oper} (h:W7 o.op=true) (ρ:Operand→Value):o.semAt rd ρ=execOp ρ o:=
 Oper.semAt_eq rd ρ o fun c a=>by rw [a] at h;cases h

theorem Zyk {o:Oper} {v:Value} {w':World} (hg:o.guard=none) (hn:W7 o.op=true) (hd:Zdf m o.dst=true) (hr:(execOp (ev f) o).run P w= .ok (.value v) w')
  (k:Zv P m rd ops K rest (Zc6 f o.dst v) w'):Zv P m rd ops K (o :: rest) f w:=by
 intro a b Q c
 refine wpListIn_plain hg fun e d=>⟨fun _ _=>trivial,?_⟩
 show Oper.uponIn _ _ _ _ _ _ _ ((o.semAt rd a.eval).run P w)
 rw [Zc5 hn,b.eval,hr]
 exact d _ _ (k _ (b.put hd v) Q c)

theorem Z8f {o:Oper} {w':World} (hg:o.guard=none) (hn:W7 o.op=true) (hd:Zdf m o.dst=true) (hr:(execOp (ev f) o).run P w= .ok .skip w')
  (k:Zv P m rd ops K rest (Zc6 f o.dst undef) w'):Zv P m rd ops K (o :: rest) f w:=by
 intro a b Q c
 refine wpListIn_plain hg fun e d=>⟨fun _ _=>trivial,?_⟩
 show Oper.uponIn _ _ _ _ _ _ _ ((o.semAt rd a.eval).run P w)
 rw [Zc5 hn,b.eval,hr]
 exact d _ _ (k _ (b.put hd undef) Q c)

theorem Zq9 {g:FuncId} {args:Array Value} {C:Ending→World→Prop} (h:Calls P g args w C) (rd:Option Nat) (n:Nat):CallsIn (Yy rd) n P g args w C:=by
 have a:CallsIn Fence.wide n P g args w C:=callsIn_wide.2 h
 exact a

theorem Z8b {o:Oper} {g:FuncId} {args:Array Value} {w1:World} {C:Ending→World→Prop} (hg:o.guard=none) (hn:W7 o.op=true) (hd:Zdf m o.dst=true)
  (hr:(execOp (ev f) o).run P w= .ok (.enter g args) w1) (hc:Calls P g args w1 C)
  (k:∀ e w',C e w'→∃ v,e= .returned v∧Zv P m rd ops K rest (Zc6 f o.dst v) w'):Zv P m rd ops K (o :: rest) f w:=by
 intro a b Q c
 refine wpListIn_plain hg fun l d=>⟨fun _ _=>trivial,?_⟩
 show Oper.uponIn _ _ _ _ _ _ _ ((o.semAt rd a.eval).run P w)
 rw [Zc5 hn,b.eval,hr]
 refine ⟨fun h=>(by cases h),?_⟩
 refine (Zq9 hc rd _).mono fun e w' i=>?_
 obtain ⟨v,rfl,j⟩:=k e w' i
 exact d _ _ (j _ (b.put hd v) Q c)

theorem Zyj {o:Oper} {l:Nat} {args:Array Value} {C:Ending→World→Prop} (hg:o.guard=none) (hn:W7 o.op=true) (hd:Zdf m o.dst=true)
  (hr:(execOp (ev f) o).run P w=(Instr.yield l args).run P w) (hc:YieldAt (Yy rd) 0 P l args w C)
  (k:∀ e w',C e w'→∃ v,e= .returned v∧Zv P m rd ops K rest (Zc6 f o.dst v) w'):Zv P m rd ops K (o :: rest) f w:=by
 intro a b Q j
 refine wpListIn_plain hg fun y n=>⟨fun _ _=>trivial,?_⟩
 show Oper.uponIn _ _ _ _ _ _ _ ((o.semAt rd a.eval).run P w)
 obtain ⟨A,p,d,q,r,g⟩:=hc
 rw [Zc5 hn,b.eval,hr,r]
 refine ⟨fun h=>(by cases h),g.1,fun c s i=>?_⟩
 obtain ⟨e,w',t,u⟩:=g.2 c s (Z66 _ _)
 obtain ⟨v,rfl,x⟩:=k e w' t
 exact ⟨.returned v,w',n _ _ (x _ (b.put hd v) Q j),u⟩

/-! An operation under a guard:passed over,or carried out. -/
def Zrz (ops:Array Oper) (f:Fr) (m:Nat) (j:Nat) (b:Bool):Prop:=∃ d,(ops[j]?).bind (·.dst)=some d∧aR d m=true∧f d= .bool b

theorem Zg6 {a:Act} {o:Oper} {j:Nat} {want b:Bool} (ha:Y8 m a f) (hg:o.guard=some (j,want)) (h:Zrz ops f m j b):
  Region.wanted o (yielded ops a.tmps)=(b==want):=by
 obtain ⟨d,e,g,i⟩:=h
 have c:d<a.tmps.size:=by rw [ha.size];simpa using g
 have k:yielded ops a.tmps j=some b:=by
  unfold yielded
  have:a.tmps[d]?=some (.bool b):=by
   have:=ha.get d (Nat.lt_of_lt_of_le c (by rw [ha.size];exact ha.small))
   rw [i] at this
   simp only [Array.getD_eq_getD_getElem?,Array.getElem?_eq_getElem c,Option.getD_some] at this
   rw [Array.getElem?_eq_getElem c,this]
  simp [e,this]
 simp only [Region.wanted,hg,k]
 cases b <;> cases want <;> rfl

theorem Z8e {o:Oper} {j:Nat} {want b:Bool} (hg:o.guard=some (j,want)) (hd:Zdf m o.dst=true) (h:Zrz ops f m j b) (hb:(b==want)=false)
  (k:Zv P m rd ops K rest (Zc6 f o.dst undef) w):Zv P m rd ops K (o :: rest) f w:=by
 intro a c Q d
 refine wpListIn_step fun g e=>?_
 rw [Zg6 c hg h,hb]
 exact ⟨fun _ _=>trivial,e _ _ (k _ (c.put hd undef) Q d)⟩

theorem lgo {o:Oper} {j:Nat} {want b:Bool} (hg:o.guard=some (j,want)) (h:Zrz ops f m j b) (hb:(b==want)=true)
  (k:Zv P m rd ops K ({ o with guard:=none } :: rest) f w):Zv P m rd ops K (o :: rest) f w:=by
 intro a c Q d
 have:=k a c Q d
 unfold wpListIn at this ⊢
 rw [Zg6 c hg h,hb]
 simp only [Region.wanted] at this
 exact this

end
end Go.Proofs.YtpkknichfgooaaaGreat
