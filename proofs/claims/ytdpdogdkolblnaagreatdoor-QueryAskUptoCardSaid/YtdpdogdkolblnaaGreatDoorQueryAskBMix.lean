/-
  A region that draws its order and turns the world: its operations in one order that stands for all. Over any program.
-/
import Derived.Test.YtdpdogdkolblnaaGreatDoorQueryAskBMemOps
namespace Go.Proofs.YtdpdogdkolblnaaGreatDoor
open Go Go.RowKit
open Go.IntKind (i8 i16 i32 i64 u8 u16 u32 u64)

def Xp (m i:Nat):Bool:=Nat.testBit m i

def Zff (o:Oper) (acc:List Nat):Nat:=o.after.toList.foldl (fun s e=>bif Region.binds .any e then s||| 2 ^ e.on||| acc.getD e.on 0 else s) 0
def Vp:List Oper→List Nat→List Nat
 | [],acc=>acc
 | o :: l,acc=>Vp l (acc++[Zff o acc])

inductive Va (ops:Array Oper):Nat→Nat→Prop
 | one {i j:Nat} {o:Oper} {e:Edge}:ops[i]?=some o→e ∈ o.after→Region.binds .any e=true→e.on=j→Va ops i j
 | more {i j k:Nat} {o:Oper} {e:Edge}:ops[i]?=some o→e ∈ o.after→Region.binds .any e=true→e.on=k→Va ops k j→Va ops i j

theorem Z1e {ops:Array Oper} {i:Nat} {o:Oper} {acc:List Nat} (ho:ops[i]?=some o) (hacc:∀ k m,acc[k]?=some m→∀ j,Xp m j=true→Va ops k j):
  ∀ j,Xp (Zff o acc) j=true→Va ops i j:=by
 have key:∀ (es:List Edge) (s:Nat),(∀ e ∈ es,e ∈ o.after)→(∀ j,Xp s j=true→Va ops i j)→
   ∀ j,Xp (es.foldl (fun s e=>bif Region.binds .any e then s||| 2 ^ e.on||| acc.getD e.on 0 else s) s) j=true→Va ops i j:=by
  intro es
  induction es with
  | nil=>intro s _ hs j hj;exact hs j hj
  | cons e es ih=>
   intro s hes hs j hj
   rw [List.foldl_cons] at hj
   refine ih _ (fun e' he'=>hes e' (by simp [he'])) ?_ j hj
   intro j hj
   cases hb:Region.binds .any e with
   | false=>simp only [hb,cond_false] at hj;exact hs j hj
   | true=>
    simp only [hb,cond_true,Xp,Nat.testBit_or,Bool.or_eq_true] at hj
    rcases hj with (hj | hj) | hj
    ·exact hs j hj
    ·rw [Nat.testBit_two_pow] at hj
     exact .one ho (hes e (by simp)) hb (by simpa using hj)
    ·cases hk:acc[e.on]? with
     | none=>rw [List.getD_eq_getElem?_getD,hk] at hj;simp at hj
     | some m=>
      rw [List.getD_eq_getElem?_getD,hk] at hj
      exact .more ho (hes e (by simp)) hb rfl (hacc _ m hk j hj)
 intro j hj
 exact key o.after.toList 0 (by simp) (by intro j hj;simp [Xp] at hj) j hj

theorem Zn7 {l:List Oper}:∀ (r:List Oper) (acc:List Nat),(∀ j,r[j]?=l[acc.length+j]?)→(∀ k m,acc[k]?=some m→∀ j,Xp m j=true→Va l.toArray k j)→
  ∀ k m,(Vp r acc)[k]?=some m→∀ j,Xp m j=true→Va l.toArray k j:=by
 intro r
 induction r with
 | nil=>intro acc _ h;exact h
 | cons o r ih=>
  intro acc hr h
  refine ih (acc++[Zff o acc]) (fun j=>?_) ?_
  ·have:=hr (j+1);simp only [List.getElem?_cons_succ] at this;rw [this,List.length_append,List.length_singleton];congr 1;omega
  ·intro k m hk j hj
   by_cases hlt:k<acc.length
   ·rw [List.getElem?_append_left hlt] at hk;exact h k m hk j hj
   ·rw [List.getElem?_append_right (by omega)] at hk
    have:k=acc.length:=by
     rcases Nat.lt_or_ge (k - acc.length) 1 with h5 | h5
     ·omega
     ·rw [List.getElem?_eq_none (by simpa using h5)] at hk;cases hk
    subst this
    simp at hk;subst hk
    have h0:=hr 0
    simp only [List.getElem?_cons_zero,Nat.add_zero] at h0
    exact Z1e (by simpa using h0.symm) h j hj

def Zct (l:List Oper) (ms:List Nat) (x y:Nat×Nat):Bool:=
 let a:=Xp (ms.getD y.1 0) x.1
 !(Xp (ms.getD x.1 0) y.1)&&!(Nat.beq x.1 y.1)&&(Nat.blt x.2 2||a)&&(Nat.blt y.2 2||(Nat.ble 2 x.2||(a||(Nat.beq x.2 1||Nat.beq y.2 3))))&&
  (a||(match l[x.1]?,l[y.1]? with | some u,some v=>u.apart l.toArray v | _,_=>false))
def Zk8 (l:List Oper) (ms:List Nat):List (Nat×Nat)→Bool
 | []=>true
 | x :: r=>r.all (Zct l ms x)&&Zk8 l ms r
def Zr8 (l:List Oper) (π:List (Nat×Nat)):Bool:=
 Region.noSelect l.toArray&&l.all (fun o=>Wf o.op)&&(List.range l.length).all (fun i=>π.any fun x=>Nat.beq x.1 i)&&π.all (fun x=>Nat.blt x.1 l.length)&&Nat.beq π.length l.length&&Zk8 l (Vp l []) π

section
variable {P:Program} {m:Nat} {rd:Option Nat} {ops:Array Oper} {Q:Exit→Act→World→Prop}

def Wm (P:Program) (ops:Array Oper) (C:World→Prop) (i:Nat) (K:Act→Prop) (a:Act):Prop:=
 match ops[i]? with
 | none=>K a
 | some o=>(Region.wanted o (yielded ops a.tmps)=true∧∃ v,(∀ w,C w→(execOp a.eval o).run P w= .ok (.value v) w)∧K (a.put o.dst v))∨(Region.wanted o (yielded ops a.tmps)=false∧K (a.put o.dst undef))

def W7 (P:Program) (rd:Option Nat) (ops:Array Oper) (Q:Exit→Act→World→Prop):List (Nat×Nat)→(World→Prop)→Act→Prop
 | [],C,a=>∀ w,C w→Q .normal a w
 | (i,k) :: r,C,a=>
  if 2≤k then ∀ w,C w→wpOpIn (X7 rd) 0 P ops Q i (fun a' w'=>∃ C':World→Prop,C' w'∧(k=3→∀ w,C' w→C w)∧W7 P rd ops Q r C' a') a w
  else Wm P ops (fun w=>k=1∨C w) i (W7 P rd ops Q r C) a

theorem Zow {C:World→Prop} {i:Nat} {K:Act→Prop} {a:Act} {w:World} (hnd:∀ (j:Nat) (o:Oper),ops[j]?=some o→Wf o.op=true) (hC:C w) (h:Wm P ops C i K a):
  wpOpIn (X7 rd) 0 P ops Q i (fun a' w'=>w'=w∧K a') a w:=by
 unfold Wm at h
 unfold wpOpIn
 split
 ·rename_i ho;simp only [ho] at h;exact ⟨rfl,h⟩
 ·rename_i o ho
  have hno:=hnd i o ho
  simp only [ho] at h
  rcases h with ⟨hw,v,h1,h2⟩ | ⟨hw,h2⟩
  ·rw [hw]
   refine ⟨fun _ _=>trivial,?_⟩
   show Oper.uponIn _ _ _ _ _ _ _ ((o.semAt rd a.eval).run P w)
   rw [Q5 hno,h1 w hC]
   exact ⟨rfl,h2⟩
  ·rw [hw];exact ⟨fun _ _=>trivial,rfl,h2⟩

theorem Zpb {i:Nat} {x o:Oper} {v:Value} {a:Act} {w:World} {K:Act→World→Prop} (hnd:∀ (j:Nat) (o:Oper),ops[j]?=some o→Wf o.op=true) (hselx:∀ cs b,x.op≠.select cs b) (hselo:∀ cs b,o.op≠.select cs b)
  (hQ:∀ c a w,¬ Q (.panic c) a w) (ho:ops[i]?=some o) (hap:x.apart ops o=true) (h:wpOpIn (X7 rd) 0 P ops Q i K (a.put x.dst v) w):
  wpOpIn (X7 rd) 0 P ops Q i (fun a' w'=>(execOp a'.eval x=execOp a.eval x∧Region.wanted x (yielded ops a'.tmps)=Region.wanted x (yielded ops a.tmps))∧K (a'.put x.dst v) w') a w:=by
 obtain ⟨h1,h2,h3⟩:=Oper.apart_spec hap
 have keep:∀ (a:Act) u,execOp (a.put o.dst u).eval x=execOp a.eval x∧Region.wanted x (yielded ops (a.put o.dst u).tmps)=Region.wanted x (yielded ops a.tmps):=fun a u=>
  ⟨execOp_put x hselx a o.dst u h3,wanted_put x a o.dst u h3⟩
 have hcomm:∀ (a:Act) u,(a.put x.dst v).put o.dst u=(a.put o.dst u).put x.dst v:=fun a u=>Act.put_comm a v u h2
 unfold wpOpIn at *
 have hno:=hnd i o ho
 simp only [ho] at *
 rw [wanted_put o a x.dst v h1] at h
 split
 ·rename_i hw
  simp only [hw,if_true] at h
  refine ⟨fun _ _=>trivial,?_⟩
  have h':=h.2
  change Oper.uponIn _ _ _ _ _ _ _ ((o.semAt rd (a.put x.dst v).eval).run P w) at h'
  show Oper.uponIn _ _ _ _ _ _ _ ((o.semAt rd a.eval).run P w)
  rw [Q5 hno] at h' ⊢
  rw [execOp_put o hselo a x.dst v h1] at h'
  generalize (execOp a.eval o).run P w=r at *
  cases r with
  | ok n w'=>
   cases n <;> simp only [Oper.uponIn] at h' ⊢
   case value u=>exact ⟨keep a u,by rw [← hcomm];exact h'⟩
   case skip=>exact ⟨keep a undef,by rw [← hcomm];exact h'⟩
   case defer d=>
    refine ⟨keep { a with defers:=d :: a.defers } undef,?_⟩
    rw [← hcomm,← Act.put_defers];exact h'
   case enter f args=>
    refine ⟨h'.1,CallsIn.mono h'.2 fun e w'' he=>?_⟩
    cases e with
    | returned u=>exact ⟨keep a u,by rw [← hcomm];exact he⟩
    | panicked c=>exact absurd he (hQ _ _ _)
    | outgrown=>exact he
   case row row args=>exact ⟨h'.1,RowsIn.mono h'.2 fun u w'' he=>⟨keep a u,by rw [← hcomm];exact he⟩⟩
   case round l f tmps assign body=>
    refine ⟨h'.1,RoundIn.mono h'.2 fun e w'' he=>?_⟩
    cases e with
    | returned u=>exact ⟨keep a u,by rw [← hcomm];exact he⟩
    | panicked c=>exact absurd he (hQ _ _ _)
    | outgrown=>exact he
  | halt x w'=>
   cases x <;> simp only [Oper.uponIn] at h' ⊢
   exact absurd h' (hQ _ _ _)
 ·rename_i hw
  simp only [hw] at h
  exact ⟨fun _ _=>trivial,keep a undef,by rw [← hcomm];exact h.2⟩

theorem Zsw {l:List Oper} {ms:List Nat}:∀ {π:List (Nat×Nat)},Zk8 l ms π=true→π.Pairwise fun x y=>Zct l ms x y=true
 | [],_=>.nil
 | x :: r,h=>by
  simp only [Zk8,Bool.and_eq_true,List.all_eq_true] at h
  exact .cons h.1 (Zsw h.2)

theorem Zk7 {l:List Oper} {ms:List Nat} {x y:Nat×Nat} (h:Zct l ms x y=true):
  Xp (ms.getD x.1 0) y.1=false∧x.1≠y.1∧(2≤x.2→Xp (ms.getD y.1 0) x.1=true)∧(2≤y.2→x.2<2→Xp (ms.getD y.1 0) x.1=true∨x.2=1∨y.2=3)∧
  (Xp (ms.getD y.1 0) x.1=true∨∃ u v,l[x.1]?=some u∧l[y.1]?=some v∧u.apart l.toArray v=true):=by
 simp only [Zct,Bool.and_eq_true,Bool.not_eq_true',Bool.or_eq_true,Nat.blt_eq,Nat.ble_eq] at h
 obtain ⟨⟨⟨⟨h1,h2⟩,h3⟩,h4⟩,h5⟩:=h
 refine ⟨h1,fun e=>?_,fun hx=>h3.resolve_left (by omega),fun hy hx=>?_,?_⟩
 ·rw [e] at h2;simp at h2
 ·rcases h4 with h4 | h4 | h4 | h4 | h4
  ·omega
  ·omega
  ·exact .inl h4
  ·exact .inr (.inl (Nat.eq_of_beq_eq_true h4))
  ·exact .inr (.inr (Nat.eq_of_beq_eq_true h4))
 ·rcases h5 with h5 | h5
  ·exact .inl h5
  ·right
   cases hu:l[x.1]? with
   | none=>rw [hu] at h5;simp at h5
   | some u=>
    cases hv:l[y.1]? with
    | none=>rw [hu,hv] at h5;simp at h5
    | some v=>rw [hu,hv] at h5;exact ⟨u,v,rfl,rfl,h5⟩

theorem W7.pull {l:List Oper} {ms:List Nat} (hnd:∀ (j:Nat) (o:Oper),l.toArray[j]?=some o→Wf o.op=true) (hsel:∀ (j:Nat) (o:Oper),l.toArray[j]?=some o→∀ cs b,o.op≠.select cs b)
  (hQ:∀ c a w,¬ Q (.panic c) a w) (i k:Nat) (r2:List (Nat×Nat)):∀ (r1:List (Nat×Nat)) (C:World→Prop) (a:Act) (w:World),(r1++(i,k) :: r2).Pairwise (fun x y=>Zct l ms x y=true)→(∀ x ∈ r1,Xp (ms.getD i 0) x.1=false)→C w→
   W7 P rd l.toArray Q (r1++(i,k) :: r2) C a→wpOpIn (X7 rd) 0 P l.toArray Q i (fun a' w'=>∃ C':World→Prop,C' w'∧((k<2∨k=3)→∀ w,C' w→C w)∧W7 P rd l.toArray Q (r1++r2) C' a') a w:=by
 intro r1
 induction r1 with
 | nil=>
  intro C a w _ _ hC h
  simp only [List.nil_append,W7] at h
  split at h
  ·rename_i hk
   exact wpOpIn_mono (fun a' w' ⟨C',h1,h2,h3⟩=>⟨C',h1,fun h=>h2 (by omega),h3⟩) (h w hC)
  ·rename_i hk
   exact wpOpIn_mono (fun a' w' ⟨h1,h2⟩=>⟨C,h1 ▸ hC,fun _ _ h=>h,h2⟩) (Zow hnd (.inr hC) h)
 | cons x r ih=>
  intro C a w hp hx hC h
  obtain ⟨x,kx⟩:=x
  simp only [List.cons_append,List.pairwise_cons] at hp
  obtain ⟨q1,q2,q3,q4,q5⟩:=Zk7 (hp.1 (i,k) (by simp))
  have hxi:=hx (x,kx) (by simp)
  simp only at q1 q2 q3 q4 q5 hxi
  have hkx:kx<2:=by
   rcases Nat.lt_or_ge kx 2 with h | h
   ·exact h
   ·rw [q3 h] at hxi;cases hxi
  obtain ⟨u,v,hu,hv,hap⟩:=q5.resolve_left (by rw [hxi];simp)
  have hu':l.toArray[x]?=some u:=by simpa using hu
  have hv':l.toArray[i]?=some v:=by simpa using hv
  simp only [List.cons_append,W7] at h ⊢
  rw [if_neg (by omega)] at h
  unfold Wm at h
  simp only [hu'] at h
  have fin:∀ (val:Value),((Region.wanted u (yielded l.toArray a.tmps)=true∧∀ w,(kx=1∨C w)→(execOp a.eval u).run P w= .ok (.value val) w)∨(Region.wanted u (yielded l.toArray a.tmps)=false∧val=undef))→
    W7 P rd l.toArray Q (r++(i,k) :: r2) C (a.put u.dst val)→wpOpIn (X7 rd) 0 P l.toArray Q i (fun a' w'=>∃ C':World→Prop,C' w'∧((k<2∨k=3)→∀ w,C' w→C w)∧
     if 2≤kx then ∀ w,C' w→wpOpIn (X7 rd) 0 P l.toArray Q x (fun a' w'=>∃ C'':World→Prop,C'' w'∧(kx=3→∀ w,C'' w→C' w)∧W7 P rd l.toArray Q (r++r2) C'' a') a' w
     else Wm P l.toArray (fun w=>kx=1∨C' w) x (W7 P rd l.toArray Q (r++r2) C') a') a w:=by
   intro val hval hm
   have h1:=ih C (a.put u.dst val) w hp.2 (fun y hy=>hx y (by simp [hy])) hC hm
   have h2:=Zpb hnd (hsel x u hu') (hsel i v hv') hQ hv' hap h1
   refine wpOpIn_mono (fun a' w' ⟨⟨e1,e2⟩,C',h3,h4,h5⟩=>⟨C',h3,h4,?_⟩) h2
   rw [if_neg (by omega)]
   unfold Wm
   simp only [hu']
   rw [e2,e1]
   rcases hval with ⟨g1,g2⟩ | ⟨g1,rfl⟩
   ·refine .inl ⟨g1,val,fun w hw=>g2 w ?_,h5⟩
    rcases hw with hw | hw
    ·exact .inl hw
    ·by_cases hk:k<2
     ·exact .inr (h4 (.inl hk) w hw)
     ·rcases q4 (by omega) hkx with h6 | h6 | h6
      ·rw [h6] at hxi;cases hxi
      ·exact .inl h6
      ·exact .inr (h4 (.inr h6) w hw)
   ·exact .inr ⟨g1,h5⟩
  rcases h with ⟨g1,val,g2,g3⟩ | ⟨g1,g3⟩
  ·exact fin val (.inl ⟨g1,g2⟩) g3
  ·exact fin undef (.inr ⟨g1,rfl⟩) g3

theorem Zdc {listed:Array Bool} {j:Nat} (h:j<listed.size) (a b:Bool):listed.getD j a=listed.getD j b:=by
 simp [Array.getD_eq_getD_getElem?,Array.getElem?_eq_getElem h]

theorem Z1k {l:List Oper} {ms:List Nat} (hms:∀ k j,Xp (ms.getD k 0) j=true→Va l.toArray k j) (hnd:∀ (j:Nat) (o:Oper),l.toArray[j]?=some o→Wf o.op=true) (hsel:∀ (j:Nat) (o:Oper),l.toArray[j]?=some o→∀ cs b,o.op≠.select cs b)
  (hdir:∀ (i:Nat) (o:Oper),l[i]?=some o→∀ e ∈ o.after,Region.binds .any e=true→e.on<i∧Xp (ms.getD i 0) e.on=true) (hQ:∀ c a w,¬ Q (.panic c) a w):
  ∀ (fuel:Nat) (listed:Array Bool) (a:Act) (w:World) (rem:List (Nat×Nat)) (C:World→Prop),rem.Pairwise (fun x y=>Zct l ms x y=true)→listed.size=l.length→
   (∀ i,(∃ k,(i,k) ∈ rem)↔i<l.length∧listed.getD i true=false)→(∀ i j,listed.getD i false=true→Va l.toArray i j→listed.getD j false=true)→rem.length≤fuel→C w→W7 P rd l.toArray Q rem C a→
   wpAnyIn (X7 rd) 0 P .any l.toArray Q fuel listed a w:=by
 -- who may come up, of what is left
 have hhead:∀ (listed:Array Bool) (rem:List (Nat×Nat)),listed.size=l.length→rem.Pairwise (fun x y=>Zct l ms x y=true)→(∀ i,(∃ k,(i,k) ∈ rem)↔i<l.length∧listed.getD i true=false)→
   Region.ready .any l.toArray listed=[]→rem=[]:=by
  intro listed rem hs hp hr h0
  cases rem with
  | nil=>rfl
  | cons x r=>
   exfalso
   have hx:=(hr x.1).1 ⟨x.2,by simp⟩
   have hmem:x.1 ∈ Region.ready .any l.toArray listed:=by
    refine mem_ready.2 ⟨hx.2,l[x.1]'hx.1,by simp,fun e he hb=>?_⟩
    obtain ⟨hlt,hd⟩:=hdir x.1 (l[x.1]'hx.1) (by simp) e he hb
    cases hl:listed.getD e.on false with
    | true=>rfl
    | false=>
     exfalso
     obtain ⟨k,hk⟩:=(hr e.on).2 ⟨by omega,by rw [Zdc (by omega) true false];exact hl⟩
     rcases List.mem_cons.1 hk with h | h
     ·rw [← h] at hlt;exact Nat.lt_irrefl _ hlt
     ·have:=(Zk7 ((List.pairwise_cons.1 hp).1 (e.on,k) h)).1
      rw [hd] at this;cases this
   rw [h0] at hmem;cases hmem
 intro fuel
 induction fuel with
 | zero=>
  intro listed a w rem C hp hs hr hdown hlen hC h
  obtain rfl:rem=[]:=List.eq_nil_of_length_eq_zero (by omega)
  refine ⟨?_,h w hC⟩
  rw [List.eq_nil_iff_forall_not_mem]
  intro j hj
  obtain ⟨h1,o,ho,_⟩:=mem_ready.1 hj
  have hlt:j<l.length:=by simpa using (Array.getElem?_eq_some_iff.1 ho).1
  obtain ⟨k,hk⟩:=(hr j).2 ⟨hlt,h1⟩
  cases hk
 | succ fuel ih=>
  intro listed a w rem C hp hs hr hdown hlen hC h
  refine ⟨fun h0=>?_,fun i hi=>?_⟩
  ·obtain rfl:=hhead listed rem hs hp hr h0
   exact h w hC
  ·obtain ⟨h1,o,ho,hall⟩:=mem_ready.1 hi
   have hlt:i<l.length:=by simpa using (Array.getElem?_eq_some_iff.1 ho).1
   obtain ⟨k,hk⟩:=(hr i).2 ⟨hlt,h1⟩
   obtain ⟨r1,r2,rfl⟩:=List.append_of_mem hk
   have hanc:∀ j,Va l.toArray i j→listed.getD j false=true:=by
    intro j hj
    cases hj with
    | one ho' he hb hon=>rw [ho] at ho';cases ho';rw [← hon];exact hall _ he hb
    | more ho' he hb hon hk'=>rw [ho] at ho';cases ho';exact hdown _ j (by rw [← hon];exact hall _ he hb) hk'
   have hp1:=List.pairwise_append.1 hp
   have hne1:∀ x ∈ r1,x.1≠i:=fun x hx=>(Zk7 (hp1.2.2 x hx (i,k) (by simp))).2.1
   have hne2:∀ x ∈ r2,x.1≠i:=fun x hx=>Ne.symm (Zk7 ((List.pairwise_cons.1 hp1.2.1).1 x hx)).2.1
   have hpull:=W7.pull (rd:=rd) hnd hsel hQ i k r2 r1 C a w hp (fun x hx=>by
    cases hb:Xp (ms.getD i 0) x.1 with
    | false=>rfl
    | true=>
     exfalso
     have h2:=hanc x.1 (hms i x.1 hb)
     have h3:=(hr x.1).1 ⟨x.2,by simp [hx]⟩
     rw [Zdc (by omega) true false,h2] at h3
     cases h3.2) hC h
   refine wpOpIn_mono (fun a' w' ⟨C',q1,_,q3⟩=>ih _ a' w' (r1++r2) C' (hp.sublist (List.Sublist.append (List.Sublist.refl _) (List.sublist_cons_self _ _))) (by simpa using hs) (fun j=>?_) (fun x j hx hj=>?_) (by simp at hlen ⊢;omega) q1 q3) hpull
   ·by_cases hji:j=i
    ·subst hji
     constructor
     ·rintro ⟨k',hk'⟩
      rcases List.mem_append.1 hk' with h4 | h4
      ·exact absurd rfl (hne1 _ h4)
      ·exact absurd rfl (hne2 _ h4)
     ·rintro ⟨_,h4⟩
      have:j<listed.size:=by omega
      simp [Array.getD_eq_getD_getElem?,this] at h4
    ·rw [getD_set_ne true (Ne.symm hji),← hr j]
     constructor
     ·rintro ⟨k',hk'⟩
      refine ⟨k',?_⟩
      simp only [List.mem_append,List.mem_cons] at hk' ⊢
      exact hk'.elim .inl fun h=>.inr (.inr h)
     ·rintro ⟨k',hk'⟩
      refine ⟨k',?_⟩
      simp only [List.mem_append,List.mem_cons] at hk' ⊢
      rcases hk' with h4 | h4 | h4
      ·exact .inl h4
      ·exact absurd (congrArg Prod.fst h4) hji
      ·exact .inr h4
   ·by_cases hxi:x=i
    ·subst hxi;exact getD_set_true (hanc j hj)
    ·rw [getD_set_ne false (Ne.symm hxi)] at hx
     exact getD_set_true (hdown x j hx hj)

theorem Zr5:∀ (r:List Oper) (acc:List Nat) (k:Nat),k<acc.length→(Vp r acc)[k]?=acc[k]?
 | [],_,_,_=>rfl
 | o :: r,acc,k,hk=>by
  rw [Vp,Zr5 r _ k (by simp;omega),List.getElem?_append_left hk]
theorem Zkz:∀ (r:List Oper) (acc:List Nat) (j:Nat) (o:Oper),r[j]?=some o→∃ acc',(Vp r acc)[acc.length+j]?=some (Zff o acc')
 | [],_,j,_,h=>by simp at h
 | o :: r,acc,0,o',h=>by
  simp at h;subst h
  exact ⟨acc,by rw [Vp,Zr5 _ _ _ (by simp),Nat.add_zero,List.getElem?_append_right (Nat.le_refl _)];simp⟩
 | o :: r,acc,j+1,o',h=>by
  obtain ⟨acc',h1⟩:=Zkz r (acc++[Zff o acc]) j o' (by simpa using h)
  refine ⟨acc',?_⟩
  rw [Vp,← h1,List.length_append,List.length_singleton];congr 1;omega
theorem Zn6 {o:Oper} {acc:List Nat} {e:Edge} (he:e ∈ o.after) (hb:Region.binds .any e=true):Xp (Zff o acc) e.on=true:=by
 have mono:∀ (es:List Edge) (s j:Nat),Xp s j=true→Xp (es.foldl (fun s e=>bif Region.binds .any e then s||| 2 ^ e.on||| acc.getD e.on 0 else s) s) j=true:=by
  intro es
  induction es with
  | nil=>intro s j h;exact h
  | cons e es ih=>
   intro s j h
   rw [List.foldl_cons]
   refine ih _ j ?_
   cases Region.binds .any e with
   | false=>exact h
   | true=>simp only [cond_true,Xp,Nat.testBit_or,Bool.or_eq_true];exact .inl (.inl h)
 have key:∀ (es:List Edge) (s:Nat),e ∈ es→Xp (es.foldl (fun s e=>bif Region.binds .any e then s||| 2 ^ e.on||| acc.getD e.on 0 else s) s) e.on=true:=by
  intro es
  induction es with
  | nil=>intro s h;cases h
  | cons e' es ih=>
   intro s h
   rw [List.foldl_cons]
   rcases List.mem_cons.1 h with rfl | h
   ·refine mono es _ _ ?_
    rw [hb]
    simp only [cond_true,Xp,Nat.testBit_or,Bool.or_eq_true,Nat.testBit_two_pow]
    exact .inl (.inr (by simp))
   ·exact ih _ h
 exact key o.after.toList 0 (by simpa using he)

def Vt (P:Program) (m:Nat) (rd:Option Nat) (l:List Oper) (N R:Fr→World→Prop) (E:Nat→Fr→World→Prop) (π:List (Nat×Nat)) (C:World→Prop) (f:Fr):Prop:=
 ∀ a,Yl m a f→W7 P rd l.toArray (Uh m N R E) π C a

def Zc6 (l:List Oper):Bool:=l.zipIdx.all fun x=>x.1.after.all fun e=>!(Region.binds .any e)||Nat.blt e.on x.2

theorem Vl {i:Nat} {l:List Oper} {N R:Fr→World→Prop} {E:Nat→Fr→World→Prop} {f:Fr} {w:World} {col:Zd} (π:List (Nat×Nat)) (hm:P.follows .mixedOrders=true) (hB:(Zr8 l π&&Zc6 l)=true)
  (h:Vt P m rd l N R E π (fun w'=>Zg col w col w') f):Wp P m rd (.region i l.toArray true) N R E f w:=by
 intro a ha
 simp only [Zr8,Bool.and_eq_true,List.all_eq_true,List.mem_range,List.any_eq_true,Nat.blt_eq] at hB
 obtain ⟨⟨⟨⟨⟨⟨h1,h2⟩,h3⟩,h4⟩,h5⟩,h6⟩,h7⟩:=hB
 have h5:=Nat.eq_of_beq_eq_true h5
 have hbits:∀ k j,Xp ((Vp l []).getD k 0) j=true→Va l.toArray k j:=fun k j hj=>by
  cases hk:(Vp l [])[k]? with
  | none=>rw [List.getD_eq_getElem?_getD,hk] at hj;simp [Xp] at hj
  | some mk=>rw [List.getD_eq_getElem?_getD,hk] at hj;exact Zn7 (l:=l) l [] (fun j=>by simp) (by simp) k mk hk j hj
 refine wpIn_region_any hm (Z1k (ms:=Vp l []) hbits (fun j o ho=>h2 o (List.mem_of_getElem? (by simpa using ho))) (fun j o ho cs b=>Region.noSelect_spec h1 j o cs b ho) (fun i o ho e he hb=>⟨?_,?_⟩) (fun c a w hq=>hq)
  _ _ _ _ π (fun w'=>Zg col w col w') (Zsw h6) (by simp) (fun i=>?_) (fun i j hi _=>?_) (by simp [h5]) ((Zg.refl col w).drew) (h a ha))
 ·simp only [Zc6,List.all_eq_true] at h7
  have:=h7 (o,i) (by rw [List.mem_zipIdx_iff_getElem?];exact ho)
  have h8:=(Array.all_eq_true_iff_forall_mem.1 this) e he
  simpa [hb] using h8
 ·obtain ⟨acc',h8⟩:=Zkz l [] i o ho
  simp only [List.length_nil,Nat.zero_add] at h8
  rw [List.getD_eq_getElem?_getD,h8]
  exact Zn6 he hb
 ·constructor
  ·rintro ⟨k,hk⟩
   have h8:=h4 _ hk
   have:i<(Array.replicate l.toArray.size false).size:=by simpa using h8
   refine ⟨h8,?_⟩
   simp only [Array.getD_eq_getD_getElem?,Array.getElem?_eq_getElem this,Option.getD_some]
   simp
  ·rintro ⟨hlt,_⟩
   obtain ⟨x,hx,hxi⟩:=h3 i hlt
   exact ⟨x.2,by rw [← Nat.eq_of_beq_eq_true hxi];exact hx⟩
 ·exfalso
  rcases Nat.lt_or_ge i l.toArray.size with h8 | h8
  ·have:i<(Array.replicate l.toArray.size false).size:=by simpa using h8
   simp only [Array.getD_eq_getD_getElem?,Array.getElem?_eq_getElem this,Option.getD_some] at hi
   simp at hi
  ·have hn:(Array.replicate l.toArray.size false)[i]?=none:=Array.getElem?_eq_none (by simpa using h8)
   rw [Array.getD_eq_getD_getElem?,hn] at hi
   simp at hi

theorem Zo9 {o:Oper} {a:Act} {K:Act→World→Prop} {Q Q':Exit→Act→World→Prop} {r:Result Next} (hQ:∀ e a w,e≠.normal→Q e a w→Q' e a w) (h:o.uponIn (X7 rd) 0 P a K Q r):o.uponIn (X7 rd) 0 P a K Q' r:=by
 have hlet:LetsOut Q→LetsOut Q':=fun ⟨a,w,h⟩=>⟨a,w,hQ _ _ _ (by intro h;cases h) h⟩
 cases r with
 | ok n w'=>
  cases n <;> simp only [Oper.uponIn] at h ⊢
  case enter f args=>
   refine ⟨h.1,CallsIn.mono h.2 fun e w'' he=>?_⟩
   cases e with
   | returned u=>exact he
   | panicked c=>exact hQ _ _ _ (by intro h;cases h) he
   | outgrown=>exact hlet he
  case round l f tmps assign body=>
   refine ⟨h.1,RoundIn.mono h.2 fun e w'' he=>?_⟩
   cases e with
   | returned u=>exact he
   | panicked c=>exact hQ _ _ _ (by intro h;cases h) he
   | outgrown=>exact hlet he
  all_goals exact h
 | halt x w'=>
  cases x <;> simp only [Oper.uponIn] at h ⊢
  exact hQ _ _ _ (by intro h;cases h) h

section
variable {l:List Oper} {N R:Fr→World→Prop} {E:Nat→Fr→World→Prop} {f:Fr} {π:List (Nat×Nat)} {C:World→Prop} {i d t:Nat} {p:String} {af:Array Edge} {op:Op}
theorem W6 (h:∀ w,C w→N f w):Vt P m rd l N R E [] C f:=fun _ ha w hw=>⟨f,ha,h w hw⟩
theorem xv {v:Value} (ho:l[i]?=some ⟨some d,op,t,p,af,none⟩) (hd:Nat.blt d m=true) (hr:∀ w,C w→(execOp (ev f) ⟨some d,op,t,p,af,none⟩).run P w= .ok (.value v) w) (k:Vt P m rd l N R E π C (Zu f d v)):
  Vt P m rd l N R E ((i,0) :: π) C f:=by
 intro a ha
 simp only [W7]
 rw [if_neg (by decide)]
 unfold Wm
 have ho':l.toArray[i]?=some ⟨some d,op,t,p,af,none⟩:=by simpa using ho
 simp only [ho']
 exact .inl ⟨rfl,v,fun w hw=>by rw [ha.eval];exact hr w (hw.resolve_left (by decide)),k _ (ha.put (d:=some d) hd v)⟩
theorem xu {v:Value} (ho:l[i]?=some ⟨some d,op,t,p,af,none⟩) (hd:Nat.blt d m=true) (hr:∀ w,(execOp (ev f) ⟨some d,op,t,p,af,none⟩).run P w= .ok (.value v) w) (k:Vt P m rd l N R E π C (Zu f d v)):
  Vt P m rd l N R E ((i,1) :: π) C f:=by
 intro a ha
 simp only [W7]
 rw [if_neg (by decide)]
 unfold Wm
 have ho':l.toArray[i]?=some ⟨some d,op,t,p,af,none⟩:=by simpa using ho
 simp only [ho']
 exact .inl ⟨rfl,v,fun w _=>by rw [ha.eval];exact hr w,k _ (ha.put (d:=some d) hd v)⟩
theorem Z26 {K:Act→Prop} {a:Act} {j:Nat} {want:Bool} {dst:Option Nat} (ho:l[i]?=some ⟨dst,op,t,p,af,some (j,want)⟩) (hw:Region.wanted ⟨dst,op,t,p,af,some (j,want)⟩ (yielded l.toArray a.tmps)=false) (k:K (a.put dst undef)):Wm P l.toArray C i K a:=by
 unfold Wm
 have ho':l.toArray[i]?=some ⟨dst,op,t,p,af,some (j,want)⟩:=by simpa using ho
 simp only [ho']
 exact .inr ⟨hw,k⟩
theorem U3 {kd j:Nat} {want b:Bool} {dst:Option Nat} (d':Nat) (ho:l[i]?=some ⟨dst,op,t,p,af,some (j,want)⟩) (hd:Zag m dst=true) (h1:(l.toArray[j]?).bind (·.dst)=some d') (h2:Nat.blt d' m=true) (h3:f d'= .bool b) (hb:(b==want)=false)
  (k:Vt P m rd l N R E π C (Q8 f dst undef)):Vt P m rd l N R E ((i,kd) :: π) C f:=by
 intro a ha
 have hw:=Zc1 (o:=⟨dst,op,t,p,af,some (j,want)⟩) ha rfl ⟨d',h1,h2,h3⟩
 rw [hb] at hw
 have ho':l.toArray[i]?=some ⟨dst,op,t,p,af,some (j,want)⟩:=by simpa using ho
 have hk:=k _ (ha.put hd undef)
 simp only [W7]
 split
 ·intro w hC
  unfold wpOpIn
  simp only [ho',hw]
  exact ⟨fun _ _=>trivial,C,hC,fun _ _ h=>h,hk⟩
 ·exact Z26 ho hw hk
theorem Zvq {v:Value} {j:Nat} {want b:Bool} (d':Nat) (ho:l[i]?=some ⟨some d,op,t,p,af,some (j,want)⟩) (hd:Nat.blt d m=true) (h1:(l.toArray[j]?).bind (·.dst)=some d') (h2:Nat.blt d' m=true) (h3:f d'= .bool b) (hb:(b==want)=true)
  (hr:∀ w,C w→(execOp (ev f) ⟨some d,op,t,p,af,none⟩).run P w= .ok (.value v) w) (k:Vt P m rd l N R E π C (Zu f d v)):Vt P m rd l N R E ((i,0) :: π) C f:=by
 intro a ha
 have hw:=Zc1 (o:=⟨some d,op,t,p,af,some (j,want)⟩) ha rfl ⟨d',h1,h2,h3⟩
 rw [hb] at hw
 simp only [W7]
 rw [if_neg (by decide)]
 unfold Wm
 have ho':l.toArray[i]?=some ⟨some d,op,t,p,af,some (j,want)⟩:=by simpa using ho
 simp only [ho']
 exact .inl ⟨hw,v,fun w hw=>by rw [ha.eval];exact hr w (hw.resolve_left (by decide)),k _ (ha.put (d:=some d) hd v)⟩
theorem Zl4 {v:Value} {j:Nat} {want b:Bool} (d':Nat) (ho:l[i]?=some ⟨some d,op,t,p,af,some (j,want)⟩) (hd:Nat.blt d m=true) (h1:(l.toArray[j]?).bind (·.dst)=some d') (h2:Nat.blt d' m=true) (h3:f d'= .bool b) (hb:(b==want)=true)
  (hr:∀ w,(execOp (ev f) ⟨some d,op,t,p,af,none⟩).run P w= .ok (.value v) w) (k:Vt P m rd l N R E π C (Zu f d v)):Vt P m rd l N R E ((i,1) :: π) C f:=by
 intro a ha
 have hw:=Zc1 (o:=⟨some d,op,t,p,af,some (j,want)⟩) ha rfl ⟨d',h1,h2,h3⟩
 rw [hb] at hw
 simp only [W7]
 rw [if_neg (by decide)]
 unfold Wm
 have ho':l.toArray[i]?=some ⟨some d,op,t,p,af,some (j,want)⟩:=by simpa using ho
 simp only [ho']
 exact .inl ⟨hw,v,fun w _=>by rw [ha.eval];exact hr w,k _ (ha.put (d:=some d) hd v)⟩
theorem xe {kd:Nat} {o:Oper} (ho:l[i]?=some o) (hkd:Nat.ble 2 kd=true) (k:∀ w,C w→Zp P m rd l.toArray (fun f1 w1=>∃ C':World→Prop,C' w1∧(kd=3→∀ w,C' w→C w)∧Vt P m rd l N R E π C' f1) [o] f w):Vt P m rd l N R E ((i,kd) :: π) C f:=by
 intro a ha
 simp only [W7]
 rw [if_pos (Nat.le_of_ble_eq_true hkd)]
 intro w hC
 have h1:=k w hC a ha (fun e a' w'=>e= .normal∧∃ C':World→Prop,C' w'∧(kd=3→∀ w,C' w→C w)∧W7 P rd l.toArray (Uh m N R E) π C' a')
  (fun a' f' w' hf ⟨C',q1,q2,q3⟩=>⟨rfl,C',q1,q2,q3 _ hf⟩)
 have ho':l.toArray[i]?=some o:=by simpa using ho
 unfold wpListIn at h1
 unfold wpOpIn
 simp only [ho']
 split
 ·rename_i hw
  simp only [hw,if_true] at h1
  have h2:o.wpIn (X7 rd) 0 P a w (fun a' w'=>∃ C':World→Prop,C' w'∧(kd=3→∀ w,C' w→C w)∧W7 P rd l.toArray (Uh m N R E) π C' a') (fun e a' w'=>e= .normal∧∃ C':World→Prop,C' w'∧(kd=3→∀ w,C' w→C w)∧W7 P rd l.toArray (Uh m N R E) π C' a'):=
   Oper.wpIn_mono (fun a' w' h=>by simp only [wpListIn] at h;exact h.2) h1
  exact ⟨h2.1,Zo9 (fun e a' w' hne h=>absurd h.1 hne) h2.2⟩
 ·rename_i hw
  simp only [hw] at h1
  refine ⟨h1.1,?_⟩
  have:=h1.2
  simp only [wpListIn] at this
  exact this.2
end
end
end Go.Proofs.YtdpdogdkolblnaaGreatDoor
