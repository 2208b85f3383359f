/-
  Function frames and a weakest precondition over them: a frame is a function from slots to values, so that a look-up is a reduction. One rule for each form of code, one for each operation. Also inside a round of a range over a function ('rd'). Over any program.
-/
import Derived.WalkKit
import Derived.RangeFuncRecord
import Derived.RangeFuncLeaves
import Derived.RangeFuncSeq
import Derived.TacticsInMore
import Derived.OrdersIn
namespace Go.Proofs.YtdpdogdkolblnaaGreatDoor
open Go
open Go.IntKind (i8 i16 i32 i64 u8 u16 u32 u64)

abbrev Fr:=Nat→Value
def Zu (f:Fr) (d:Nat) (v:Value):Fr:=fun t=>bif Nat.beq t d then v else f t

def ev (f:Fr):Operand→Value
 | .tmp t=>bif Nat.blt t 1000000 then f t else undef
 | .const v=>v
 | .global g=>.pointer (some ⟨g,0,none⟩)
 | .func g=>.func (.func g) #[] #[]

theorem Zij {f:Fr} {d:Nat} {v:Value} (h:f d=v):Zu f d v=f:=by
 funext t
 unfold Zu
 cases hb:Nat.beq t d
 ·rfl
 ·have:=Nat.eq_of_beq_eq_true hb;subst this;simpa using h.symm

def enc (ds:List Nat):Value:=.tuple (ds.map (fun D:Nat=>Value.int .u64 D)).toArray
def dec:Value→List Nat
 | .tuple a=>a.toList.map fun v=>match v with | .int _ n=>n.toNat | _=>0
 | _=>[]
theorem Zah (ds:List Nat):dec (enc ds)=ds:=by
 unfold dec enc
 simp [Function.comp_def]
def Q1 (ds:List Nat):List Deferred:=ds.map fun D=>{ target:=.collected D,args:=#[] }

structure Yl (m:Nat) (a:Act) (f:Fr):Prop where
 small:m≤1000000
 size:a.tmps.size=m
 get:∀ t,t<1000000→a.tmps.getD t undef=f t
 defers:a.defers=Q1 (dec (f 1000000))

theorem Yl.eval {m:Nat} {a:Act} {f:Fr} (h:Yl m a f):a.eval=ev f:=by
 funext x
 cases x with
 | tmp t=>
  simp only [Act.eval,ev]
  cases hb:Nat.blt t 1000000
  ·have hge:1000000≤t:=by
    rcases Nat.lt_or_ge t 1000000 with h' | h'
    ·have h2:Nat.blt t 1000000=true:=by simpa using h'
     rw [hb] at h2;cases h2
    ·exact h'
   have hle:a.tmps.size≤t:=Nat.le_trans (by rw [h.size];exact h.small) hge
   simp only [cond_false,Array.getD_eq_getD_getElem?]
   rw [Array.getElem?_eq_none hle];rfl
  ·exact h.get t (by simpa using hb)
 | const v=>rfl
 | global g=>rfl
 | func g=>rfl

def Q8 (f:Fr) (d:Option Nat) (v:Value):Fr:=match d with | some d=>Zu f d v | none=>f

def Zag (m:Nat) (d:Option Nat):Bool:=match d with | some d=>Nat.blt d m | none=>true

theorem Yl.put {m:Nat} {a:Act} {f:Fr} (h:Yl m a f) {d:Option Nat} (hd:Zag m d=true) (v:Value):Yl m (a.put d v) (Q8 f d v):=by
 cases d with
 | none=>exact h
 | some d=>
  have hs:=h.small
  have hlt:d<a.tmps.size:=by have:=h.size;simp only [Zag,Nat.blt_eq] at hd;omega
  refine ⟨hs,by simp [Act.put,h.size],fun t ht=>?_,?_⟩
  ·have hg:=h.get t ht
   simp only [Act.put,Q8,Zu]
   cases hb:Nat.beq t d
   ·have hne:d≠t:=by intro e;subst e;simp at hb
    simp only [Array.getD_eq_getD_getElem?,cond_false] at hg ⊢
    rw [Array.getElem?_setIfInBounds_ne hne];exact hg
   ·have:=Nat.eq_of_beq_eq_true hb;subst this
    simp [hlt]
  ·have hb:Nat.beq 1000000 d=false:=by
    cases hb:Nat.beq 1000000 d
    ·rfl
    ·have:=Nat.eq_of_beq_eq_true hb;have:=h.size;omega
   simp only [Act.put,Q8,Zu,hb,cond_false];exact h.defers

def X7 (rd:Option Nat):Fence:={ fn:=fun _=>True,depth:=none,alive:=false,round:=rd }
theorem Zz6 (rd:Option Nat) (n:Nat):(X7 rd).room n:=fun _ h=>by simp [X7] at h
section
variable (P:Program) (m:Nat) (rd:Option Nat)

def Zp (ops:Array Oper) (K:Fr→World→Prop) (l:List Oper) (f:Fr) (w:World):Prop:=
 ∀ a,Yl m a f→∀ Q:Exit→Act→World→Prop,(∀ a' f' w',Yl m a' f'→K f' w'→Q .normal a' w')→wpListIn (X7 rd) 0 P ops Q l a w

def Uh (N R:Fr→World→Prop) (E:Nat→Fr→World→Prop):Exit→Act→World→Prop
 | .normal,a,w=>∃ f,Yl m a f∧N f w
 | .ret,a,w=>∃ f,Yl m a f∧R f w
 | .exit i,a,w=>∃ f,Yl m a f∧E i f w
 | _,_,_=>False

def Wp (c:Code) (N R:Fr→World→Prop) (E:Nat→Fr→World→Prop) (f:Fr) (w:World):Prop:=
 ∀ a,Yl m a f→c.wpIn (X7 rd) 0 P (Uh m N R E) a w
end

section
variable {P:Program} {m:Nat} {rd:Option Nat} {N R:Fr→World→Prop} {E:Nat→Fr→World→Prop} {f:Fr} {w:World}

theorem Wp.mono {c:Code} {N' R':Fr→World→Prop} {E':Nat→Fr→World→Prop} (h:Wp P m rd c N R E f w)
  (hN:∀ f w,N f w→N' f w) (hR:∀ f w,R f w→R' f w) (hE:∀ i f w,E i f w→E' i f w):Wp P m rd c N' R' E' f w:=by
 intro a ha
 refine wpIn_mono (h a ha) ?_
 intro e a' w' hq
 cases e with
 | normal=>obtain ⟨f',h1,h2⟩:=hq;exact ⟨f',h1,hN _ _ h2⟩
 | ret=>obtain ⟨f',h1,h2⟩:=hq;exact ⟨f',h1,hR _ _ h2⟩
 | exit i=>obtain ⟨f',h1,h2⟩:=hq;exact ⟨f',h1,hE _ _ _ h2⟩
 | goto l=>exact hq.elim
 | panic c=>exact hq.elim
 | outgrown=>exact hq.elim

theorem Wp.cut {c:Code} (J:Fr→World→Prop) (h:∀ f w,J f w→N f w) (hc:Wp P m rd c J R E f w):Wp P m rd c N R E f w:=
 hc.mono h (fun _ _ h=>h) (fun _ _ _ h=>h)

theorem Wp.lD {c:Code} (d:Nat) {v:Value} (h:f d=v) (k:Wp P m rd c N R E (Zu f d v) w):Wp P m rd c N R E f w:=by
 rwa [Zij h] at k
theorem Z1 (h:N f w):Wp P m rd .skip N R E f w:=fun _ ha=>wpIn_skip ⟨f,ha,h⟩
theorem W0 (h:R f w):Wp P m rd .ret N R E f w:=fun _ ha=>wpIn_ret ⟨f,ha,h⟩
theorem Q9 {i:Nat} (h:E i f w):Wp P m rd (.exit i) N R E f w:=fun _ ha=>wpIn_exit ⟨f,ha,h⟩

theorem Zo {c d:Code} (h:Wp P m rd c (fun f w=>Wp P m rd d N R E f w) R E f w):Wp P m rd (.seq c d) N R E f w:=by
 intro a ha
 refine wpIn_seq (wpIn_mono (h a ha) ?_)
 intro e a' w' hq
 cases e with
 | normal=>obtain ⟨f',h1,h2⟩:=hq;exact h2 a' h1
 | ret=>exact hq
 | exit i=>exact hq
 | goto l=>exact hq.elim
 | panic c=>exact hq.elim
 | outgrown=>exact hq.elim

def Zde (i:Nat) (N:Fr→World→Prop) (E:Nat→Fr→World→Prop):Nat→Fr→World→Prop:=fun j=>bif Nat.beq j i then N else E j

theorem S8 {i:Nat} {c:Code} (h:Wp P m rd c N R (Zde i N E) f w):Wp P m rd (.block i c) N R E f w:=by
 intro a ha
 refine wpIn_block (wpIn_mono (h a ha) ?_)
 intro e a' w' hq
 cases e with
 | normal=>exact hq
 | ret=>exact hq
 | exit j=>
  obtain ⟨f',h1,h2⟩:=hq
  simp only [Zde] at h2
  simp only [Exit.inBlock]
  by_cases hj:j=i
  ·subst hj;simp only [Nat.beq_refl,cond_true] at h2;simp only [if_true];exact ⟨f',h1,h2⟩
  ·have:Nat.beq j i=false:=by rw [← Bool.not_eq_true];intro h;exact hj (Nat.eq_of_beq_eq_true h)
   rw [this] at h2;simp only [cond_false] at h2;rw [if_neg hj];exact ⟨f',h1,h2⟩
 | goto l=>exact hq.elim
 | panic c=>exact hq.elim
 | outgrown=>exact hq.elim

theorem Zpa {c:Operand} {x y:Code} (b:Bool) (hb:ev f c= .bool b) (ht:b=true→Wp P m rd x N R E f w) (hf:b=false→Wp P m rd y N R E f w):
  Wp P m rd (.cond c x y) N R E f w:=by
 intro a ha
 refine wpIn_cond_split (t:=b) (by rw [ha.eval];exact hb) (fun h=>ht h a ha) (fun h=>hf h a ha)

theorem X8 {c:Operand} {x y:Code} (hb:ev f c= .bool true) (ht:Wp P m rd x N R E f w):Wp P m rd (.cond c x y) N R E f w:=
 Zpa true hb (fun _=>ht) (fun h=>by cases h)
theorem Yh {c:Operand} {x y:Code} (hb:ev f c= .bool false) (hf:Wp P m rd y N R E f w):Wp P m rd (.cond c x y) N R E f w:=
 Zpa false hb (fun h=>by cases h) (fun _=>hf)

theorem Yo {i:Nat} {l:List Oper} (h:Zp P m rd l.toArray N l f w):Wp P m rd (.region i l.toArray false) N R E f w:=by
 intro a ha
 exact wpIn_region_lit (h a ha _ fun a' f' w' h1 h2=>⟨f',h1,h2⟩)

theorem Zlz {c:Code} (I:Nat→Fr→World→Prop) (n:Nat) (h0:I n f w)
  (round:∀ n f w,I n f w→Wp P m rd c (fun f' w'=>∃ k,k<n∧I k f' w') R E f w):Wp P m rd (.loop c) N R E f w:=by
 intro a ha b k cs hro hb hr
 have key:∀ n,∀ a f w,Yl m a f→I n f w→∃ e a' w',Uh m N R E e a' w'∧ArrivesIn (Machine.fenced P (X7 rd)) P (lone (b.atR a (.code c :: .inLoop c :: k)) cs w) b k cs e a' w':=by
  intro n
  induction n using Nat.strongRecOn with
  | _ n ih=>
   intro a f w ha hI
   obtain ⟨e,a₁,w₁,hq,harr⟩:=round n f w hI a ha b (.inLoop c :: k) cs hro hb hr
   cases e with
   | normal=>
    obtain ⟨f',h1,j,hj,hI'⟩:=hq
    obtain ⟨e₂,a₂,w₂,hq₂,harr₂⟩:=ih j hj a₁ f' w₁ h1 hI'
    exact ⟨e₂,a₂,w₂,hq₂,.of_steps (StepsIn.trans harr (.one (fenced_calm hb hr rfl) stepR_inLoop)) harr₂⟩
   | exit id=>exact ⟨.exit id,a₁,w₁,hq,.pass (x:=.inLoop c) rfl (fun _ _=>.inl (by simp)) harr⟩
   | ret=>exact ⟨.ret,a₁,w₁,hq,.pass (x:=.inLoop c) rfl (fun _ _=>.inl (by simp)) harr⟩
   | goto l=>exact hq.elim
   | panic ch=>exact hq.elim
   | outgrown=>exact hq.elim
 obtain ⟨e,a',w',hq,harr⟩:=key n a f w ha h0
 exact ⟨e,a',w',hq,.of_steps (.one (fenced_calm hb hr rfl) stepR_loop) harr⟩

/-! ### Operations -/
variable {ops:Array Oper} {K:Fr→World→Prop} {rest:List Oper}

theorem Zj (h:K f w):Zp P m rd ops K [] f w:=fun a ha _ hQ=>hQ a f w ha h

theorem Zp.ld {l:List Oper} {d:Nat} {v:Value} (h:f d=v) (k:Zp P m rd ops K l (Zu f d v) w):Zp P m rd ops K l f w:=by
 rwa [Zij h] at k

def Wf:Op→Bool | .defer _=>false | _=>true
theorem Q5 {o:Oper} (h:Wf o.op=true) (ρ:Operand→Value):o.semAt rd ρ=execOp ρ o:=
 Oper.semAt_eq rd ρ o fun c hc=>by rw [hc] at h;cases h

theorem Zr3 {o:Oper} {v:Value} {w':World} (hg:o.guard=none) (hn:Wf o.op=true) (hd:Zag m o.dst=true) (hr:(execOp (ev f) o).run P w= .ok (.value v) w')
  (k:Zp P m rd ops K rest (Q8 f o.dst v) w'):Zp P m rd ops K (o :: rest) f w:=by
 intro a ha Q hQ
 refine wpListIn_plain hg fun K' hK=>⟨fun _ _=>trivial,?_⟩
 show Oper.uponIn _ _ _ _ _ _ _ ((o.semAt rd a.eval).run P w)
 rw [Q5 hn,ha.eval,hr]
 exact hK _ _ (k _ (ha.put hd v) Q hQ)

theorem Z1d {o:Oper} {w':World} (hg:o.guard=none) (hn:Wf o.op=true) (hd:Zag m o.dst=true) (hr:(execOp (ev f) o).run P w= .ok .skip w')
  (k:Zp P m rd ops K rest (Q8 f o.dst undef) w'):Zp P m rd ops K (o :: rest) f w:=by
 intro a ha Q hQ
 refine wpListIn_plain hg fun K' hK=>⟨fun _ _=>trivial,?_⟩
 show Oper.uponIn _ _ _ _ _ _ _ ((o.semAt rd a.eval).run P w)
 rw [Q5 hn,ha.eval,hr]
 exact hK _ _ (k _ (ha.put hd undef) Q hQ)

theorem Zmw {g:FuncId} {args:Array Value} {C:Ending→World→Prop} (h:Calls P g args w C) (rd:Option Nat) (n:Nat):CallsIn (X7 rd) n P g args w C:=by
 have h1:CallsIn Fence.wide n P g args w C:=callsIn_wide.2 h
 exact h1

theorem Z08 {o:Oper} {g:FuncId} {args:Array Value} {w1:World} {C:Ending→World→Prop} (hg:o.guard=none) (hn:Wf o.op=true) (hd:Zag m o.dst=true)
  (hr:(execOp (ev f) o).run P w= .ok (.enter g args) w1) (hc:Calls P g args w1 C)
  (k:∀ e w',C e w'→∃ v,e= .returned v∧Zp P m rd ops K rest (Q8 f o.dst v) w'):Zp P m rd ops K (o :: rest) f w:=by
 intro a ha Q hQ
 refine wpListIn_plain hg fun K' hK=>⟨fun _ _=>trivial,?_⟩
 show Oper.uponIn _ _ _ _ _ _ _ ((o.semAt rd a.eval).run P w)
 rw [Q5 hn,ha.eval,hr]
 refine ⟨fun h=>(by cases h),?_⟩
 refine (Zmw hc rd _).mono fun e w' he=>?_
 obtain ⟨v,rfl,hk⟩:=k e w' he
 exact hK _ _ (hk _ (ha.put hd v) Q hQ)

theorem Zr2 {o:Oper} {l:Nat} {args:Array Value} {C:Ending→World→Prop} (hg:o.guard=none) (hn:Wf o.op=true) (hd:Zag m o.dst=true)
  (hr:(execOp (ev f) o).run P w=(Instr.yield l args).run P w) (hc:YieldAt (X7 rd) 0 P l args w C)
  (k:∀ e w',C e w'→∃ v,e= .returned v∧Zp P m rd ops K rest (Q8 f o.dst v) w'):Zp P m rd ops K (o :: rest) f w:=by
 intro a ha Q hQ
 refine wpListIn_plain hg fun K' hK=>⟨fun _ _=>trivial,?_⟩
 show Oper.uponIn _ _ _ _ _ _ _ ((o.semAt rd a.eval).run P w)
 obtain ⟨fn,tmps,assign,body,h1,h2⟩:=hc
 rw [Q5 hn,ha.eval,hr,h1]
 refine ⟨fun h=>(by cases h),h2.1,fun c cs hroom=>?_⟩
 obtain ⟨e,w',he,hs⟩:=h2.2 c cs (Zz6 _ _)
 obtain ⟨v,rfl,hk⟩:=k e w' he
 exact ⟨.returned v,w',hK _ _ (hk _ (ha.put hd v) Q hQ),hs⟩

/-! An operation under a guard:passed over,or carried out. -/
def Zm8 (ops:Array Oper) (f:Fr) (m:Nat) (j:Nat) (b:Bool):Prop:=∃ d,(ops[j]?).bind (·.dst)=some d∧Nat.blt d m=true∧f d= .bool b

theorem Zc1 {a:Act} {o:Oper} {j:Nat} {want b:Bool} (ha:Yl m a f) (hg:o.guard=some (j,want)) (h:Zm8 ops f m j b):
  Region.wanted o (yielded ops a.tmps)=(b==want):=by
 obtain ⟨d,h1,h2,h3⟩:=h
 have hlt:d<a.tmps.size:=by rw [ha.size];simpa using h2
 have hy:yielded ops a.tmps j=some b:=by
  unfold yielded
  have:a.tmps[d]?=some (.bool b):=by
   have:=ha.get d (Nat.lt_of_lt_of_le hlt (by rw [ha.size];exact ha.small))
   rw [h3] at this
   simp only [Array.getD_eq_getD_getElem?,Array.getElem?_eq_getElem hlt,Option.getD_some] at this
   rw [Array.getElem?_eq_getElem hlt,this]
  simp [h1,this]
 simp only [Region.wanted,hg,hy]
 cases b <;> cases want <;> rfl

theorem Z1c {o:Oper} {j:Nat} {want b:Bool} (hg:o.guard=some (j,want)) (hd:Zag m o.dst=true) (h:Zm8 ops f m j b) (hb:(b==want)=false)
  (k:Zp P m rd ops K rest (Q8 f o.dst undef) w):Zp P m rd ops K (o :: rest) f w:=by
 intro a ha Q hQ
 refine wpListIn_step fun K' hK=>?_
 rw [Zc1 ha hg h,hb]
 exact ⟨fun _ _=>trivial,hK _ _ (k _ (ha.put hd undef) Q hQ)⟩

theorem lgo {o:Oper} {j:Nat} {want b:Bool} (hg:o.guard=some (j,want)) (h:Zm8 ops f m j b) (hb:(b==want)=true)
  (k:Zp P m rd ops K ({ o with guard:=none } :: rest) f w):Zp P m rd ops K (o :: rest) f w:=by
 intro a ha Q hQ
 have:=k a ha Q hQ
 unfold wpListIn at this ⊢
 rw [Zc1 ha hg h,hb]
 simp only [Region.wanted] at this
 exact this

end
end Go.Proofs.YtdpdogdkolblnaaGreatDoor
