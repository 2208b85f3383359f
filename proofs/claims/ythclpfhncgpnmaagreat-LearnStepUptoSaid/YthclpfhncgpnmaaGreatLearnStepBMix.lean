/-
  A region that draws its order and turns the world: its operations in one order that stands for all. Over any program.
-/
import Derived.Test.YthclpfhncgpnmaaGreatLearnStepBMemOps
namespace Go.Proofs.YthclpfhncgpnmaaGreat
open Go Go.RowKit
open List renaming foldl_cons→eP,getD_eq_getElem?_getD→aE,length_append→bW,length_singleton→aK,getElem?_append_left→fH,getElem?_append_right→eJ,all_eq_true→cP,cons_append→cK,pairwise_cons→dJ,mem_cons→bL,mem_append→bI
open Nat renaming testBit_or→iH,testBit_two_pow→jF,lt_or_ge→bU,add_zero→bR,beq→aP,blt→bE,eq_of_beq_eq_true→aU
open Option renaming getD_some→dG
open Go.IntKind (i8 i16 i32 i64 u8 u16 u32 u64)

def Yh (m i:Nat):Bool:=Nat.testBit m i

def Zk8 (o:Oper) (acc:List Nat):Nat:=o.after.toList.foldl (fun s e=>bif Region.binds .any e then s||| 2 ^ e.on||| acc.getD e.on 0 else s) 0
def Ui:List Oper→List Nat→List Nat
 | [],acc=>acc
 | o :: l,acc=>Ui l (acc++[Zk8 o acc])

inductive V1 (ops:Array Oper):Nat→Nat→Prop
 | one {i j:Nat} {o:Oper} {e:Edge}:ops[i]?=some o→e ∈ o.after→Region.binds .any e=true→e.on=j→V1 ops i j
 | more {i j k:Nat} {o:Oper} {e:Edge}:ops[i]?=some o→e ∈ o.after→Region.binds .any e=true→e.on=k→V1 ops k j→V1 ops i j

theorem Z9m {ops:Array Oper} {i:Nat} {o:Oper} {acc:List Nat} (ho:ops[i]?=some o) (hacc:∀ k m,acc[k]?=some m→∀ j,Yh m j=true→V1 ops k j):
  ∀ j,Yh (Zk8 o acc) j=true→V1 ops i j:=by
 have n:∀ (b:List Edge) (s:Nat),(∀ e ∈ b,e ∈ o.after)→(∀ j,Yh s j=true→V1 ops i j)→
   ∀ j,Yh (b.foldl (fun s e=>bif Region.binds .any e then s||| 2 ^ e.on||| acc.getD e.on 0 else s) s) j=true→V1 ops i j:=by
  intro b
  induction b with
  | nil=>intro s _ g j a;exact g j a
  | cons e b r=>
   intro s c g j a
   rw [eP] at a
   refine r _ (fun u q=>c u (by simp [q])) ?_ j a
   intro j a
   cases hb:Region.binds .any e with
   | false=>simp only [hb,cond_false] at a;exact g j a
   | true=>
    simp only [hb,cond_true,Yh,iH,Bool.or_eq_true] at a
    rcases a with (a | a) | a
    ·exact g j a
    ·rw [jF] at a
     exact .one ho (c e (by simp)) hb (by simpa using a)
    ·cases hk:acc[e.on]? with
     | none=>rw [aE,hk] at a;simp at a
     | some m=>
      rw [aE,hk] at a
      exact .more ho (c e (by simp)) hb rfl (hacc _ m hk j a)
 intro j a
 exact n o.after.toList 0 (by simp) (by intro j a;simp [Yh] at a) j a

theorem Zs1 {l:List Oper}:∀ (r:List Oper) (acc:List Nat),(∀ j,r[j]?=l[acc.length+j]?)→(∀ k m,acc[k]?=some m→∀ j,Yh m j=true→V1 l.toArray k j)→
  ∀ k m,(Ui r acc)[k]?=some m→∀ j,Yh m j=true→V1 l.toArray k j:=by
 intro r
 induction r with
 | nil=>intro acc _ h;exact h
 | cons o r n=>
  intro acc b h
  refine n (acc++[Zk8 o acc]) (fun j=>?_) ?_
  ·have:=b (j+1);simp only [List.getElem?_cons_succ] at this;rw [this,bW,aK];congr 1;omega
  ·intro k m a j c
   by_cases hlt:k<acc.length
   ·rw [fH hlt] at a;exact h k m a j c
   ·rw [eJ (by omega)] at a
    have:k=acc.length:=by
     rcases bU (k - acc.length) 1 with e | e
     ·omega
     ·rw [List.getElem?_eq_none (by simpa using e)] at a;cases a
    subst this
    simp at a;subst a
    have g:=b 0
    simp only [List.getElem?_cons_zero,bR] at g
    exact Z9m (by simpa using g.symm) h j c

def Zh9 (l:List Oper) (ms:List Nat) (x y:Nat×Nat):Bool:=
 let a:=Yh (ms.getD y.1 0) x.1
 !(Yh (ms.getD x.1 0) y.1)&&!(aP x.1 y.1)&&(bE x.2 2||a)&&(bE y.2 2||(Nat.ble 2 x.2||(a||(aP x.2 1||aP y.2 3))))&&
  (a||(match l[x.1]?,l[y.1]? with | some u,some v=>u.apart l.toArray v | _,_=>false))
def Zqb (l:List Oper) (ms:List Nat):List (Nat×Nat)→Bool
 | []=>true
 | x :: r=>r.all (Zh9 l ms x)&&Zqb l ms r
def Zyv (l:List Oper) (π:List (Nat×Nat)):Bool:=
 Region.noSelect l.toArray&&l.all (fun o=>W6 o.op)&&(List.range l.length).all (fun i=>π.any fun x=>aP x.1 i)&&π.all (fun x=>bE x.1 l.length)&&aP π.length l.length&&Zqb l (Ui l []) π

section
variable {P:Program} {m:Nat} {rd:Option Nat} {ops:Array Oper} {Q:Exit→Act→World→Prop}

def Ve (P:Program) (ops:Array Oper) (C:World→Prop) (i:Nat) (K:Act→Prop) (a:Act):Prop:=
 match ops[i]? with
 | none=>K a
 | some o=>(Region.wanted o (yielded ops a.tmps)=true∧∃ v,(∀ w,C w→(execOp a.eval o).run P w= .ok (.value v) w)∧K (a.put o.dst v))∨(Region.wanted o (yielded ops a.tmps)=false∧K (a.put o.dst undef))

def Vw (P:Program) (rd:Option Nat) (ops:Array Oper) (Q:Exit→Act→World→Prop):List (Nat×Nat)→(World→Prop)→Act→Prop
 | [],C,a=>∀ w,C w→Q .normal a w
 | (i,k) :: r,C,a=>
  if 2≤k then ∀ w,C w→wpOpIn (Yw rd) 0 P ops Q i (fun a' w'=>∃ C':World→Prop,C' w'∧(k=3→∀ w,C' w→C w)∧Vw P rd ops Q r C' a') a w
  else Ve P ops (fun w=>k=1∨C w) i (Vw P rd ops Q r C) a

theorem Zty {C:World→Prop} {i:Nat} {K:Act→Prop} {a:Act} {w:World} (hnd:∀ (j:Nat) (o:Oper),ops[j]?=some o→W6 o.op=true) (hC:C w) (h:Ve P ops C i K a):
  wpOpIn (Yw rd) 0 P ops Q i (fun a' w'=>w'=w∧K a') a w:=by
 unfold Ve at h
 unfold wpOpIn
 split
 ·rename_i b;simp only [b] at h;exact ⟨rfl,h⟩
 ·rename_i o b
  have g:=hnd i o b
  simp only [b] at h
  rcases h with ⟨c,v,k,e⟩ | ⟨c,e⟩
  ·rw [c]
   refine ⟨fun _ _=>trivial,?_⟩
   show Oper.uponIn _ _ _ _ _ _ _ ((o.semAt rd a.eval).run P w)
   rw [Zdu g,k w hC]
   exact ⟨rfl,e⟩
  ·rw [c];exact ⟨fun _ _=>trivial,rfl,e⟩

theorem Zus {i:Nat} {x o:Oper} {v:Value} {a:Act} {w:World} {K:Act→World→Prop} (hnd:∀ (j:Nat) (o:Oper),ops[j]?=some o→W6 o.op=true) (hselx:∀ cs b,x.op≠.select cs b) (hselo:∀ cs b,o.op≠.select cs b)
  (hQ:∀ c a w,¬ Q (.panic c) a w) (ho:ops[i]?=some o) (hap:x.apart ops o=true) (h:wpOpIn (Yw rd) 0 P ops Q i K (a.put x.dst v) w):
  wpOpIn (Yw rd) 0 P ops Q i (fun a' w'=>(execOp a'.eval x=execOp a.eval x∧Region.wanted x (yielded ops a'.tmps)=Region.wanted x (yielded ops a.tmps))∧K (a'.put x.dst v) w') a w:=by
 obtain ⟨A,F,B⟩:=Oper.apart_spec hap
 have keep:∀ (a:Act) u,execOp (a.put o.dst u).eval x=execOp a.eval x∧Region.wanted x (yielded ops (a.put o.dst u).tmps)=Region.wanted x (yielded ops a.tmps):=fun a u=>
  ⟨execOp_put x hselx a o.dst u B,wanted_put x a o.dst u B⟩
 have g:∀ (a:Act) u,(a.put x.dst v).put o.dst u=(a.put o.dst u).put x.dst v:=fun a u=>Act.put_comm a v u F
 unfold wpOpIn at *
 have D:=hnd i o ho
 simp only [ho] at *
 rw [wanted_put o a x.dst v A] at h
 split
 ·rename_i y
  simp only [y,if_true] at h
  refine ⟨fun _ _=>trivial,?_⟩
  have k:=h.2
  change Oper.uponIn _ _ _ _ _ _ _ ((o.semAt rd (a.put x.dst v).eval).run P w) at k
  show Oper.uponIn _ _ _ _ _ _ _ ((o.semAt rd a.eval).run P w)
  rw [Zdu D] at k ⊢
  rw [execOp_put o hselo a x.dst v A] at k
  generalize (execOp a.eval o).run P w=r at *
  cases r with
  | ok n w'=>
   cases n <;> simp only [Oper.uponIn] at k ⊢
   case value u=>exact ⟨keep a u,by rw [← g];exact k⟩
   case skip=>exact ⟨keep a undef,by rw [← g];exact k⟩
   case defer d=>
    refine ⟨keep { a with defers:=d :: a.defers } undef,?_⟩
    rw [← g,← Act.put_defers];exact k
   case enter f args=>
    refine ⟨k.1,CallsIn.mono k.2 fun e s q=>?_⟩
    cases e with
    | returned u=>exact ⟨keep a u,by rw [← g];exact q⟩
    | panicked c=>exact absurd q (hQ _ _ _)
    | outgrown=>exact q
   case row row args=>exact ⟨k.1,RowsIn.mono k.2 fun u s q=>⟨keep a u,by rw [← g];exact q⟩⟩
   case round l f tmps assign body=>
    refine ⟨k.1,RoundIn.mono k.2 fun e s q=>?_⟩
    cases e with
    | returned u=>exact ⟨keep a u,by rw [← g];exact q⟩
    | panicked c=>exact absurd q (hQ _ _ _)
    | outgrown=>exact q
  | halt x w'=>
   cases x <;> simp only [Oper.uponIn] at k ⊢
   exact absurd k (hQ _ _ _)
 ·rename_i y
  simp only [y] at h
  exact ⟨fun _ _=>trivial,keep a undef,by rw [← g];exact h.2⟩

theorem Zzk {l:List Oper} {ms:List Nat}:∀ {π:List (Nat×Nat)},Zqb l ms π=true→π.Pairwise fun x y=>Zh9 l ms x y=true
 | [],_=>.nil
 | x :: r,h=>by
  simp only [Zqb,Bool.and_eq_true,cP] at h
  exact .cons h.1 (Zzk h.2)

theorem Zqa {l:List Oper} {ms:List Nat} {x y:Nat×Nat} (h:Zh9 l ms x y=true):
  Yh (ms.getD x.1 0) y.1=false∧x.1≠y.1∧(2≤x.2→Yh (ms.getD y.1 0) x.1=true)∧(2≤y.2→x.2<2→Yh (ms.getD y.1 0) x.1=true∨x.2=1∨y.2=3)∧
  (Yh (ms.getD y.1 0) x.1=true∨∃ u v,l[x.1]?=some u∧l[y.1]?=some v∧u.apart l.toArray v=true):=by
 simp only [Zh9,Bool.and_eq_true,Bool.not_eq_true',Bool.or_eq_true,Nat.blt_eq,Nat.ble_eq] at h
 obtain ⟨⟨⟨⟨g,c⟩,j⟩,b⟩,a⟩:=h
 refine ⟨g,fun e=>?_,fun k=>j.resolve_left (by omega),fun n k=>?_,?_⟩
 ·rw [e] at c;simp at c
 ·rcases b with b | b | b | b | b
  ·omega
  ·omega
  ·exact .inl b
  ·exact .inr (.inl (aU b))
  ·exact .inr (.inr (aU b))
 ·rcases a with a | a
  ·exact .inl a
  ·right
   cases hu:l[x.1]? with
   | none=>rw [hu] at a;simp at a
   | some u=>
    cases hv:l[y.1]? with
    | none=>rw [hu,hv] at a;simp at a
    | some v=>rw [hu,hv] at a;exact ⟨u,v,rfl,rfl,a⟩

theorem Vw.pull {l:List Oper} {ms:List Nat} (hnd:∀ (j:Nat) (o:Oper),l.toArray[j]?=some o→W6 o.op=true) (hsel:∀ (j:Nat) (o:Oper),l.toArray[j]?=some o→∀ cs b,o.op≠.select cs b)
  (hQ:∀ c a w,¬ Q (.panic c) a w) (i k:Nat) (r2:List (Nat×Nat)):∀ (r1:List (Nat×Nat)) (C:World→Prop) (a:Act) (w:World),(r1++(i,k) :: r2).Pairwise (fun x y=>Zh9 l ms x y=true)→(∀ x ∈ r1,Yh (ms.getD i 0) x.1=false)→C w→
   Vw P rd l.toArray Q (r1++(i,k) :: r2) C a→wpOpIn (Yw rd) 0 P l.toArray Q i (fun a' w'=>∃ C':World→Prop,C' w'∧((k<2∨k=3)→∀ w,C' w→C w)∧Vw P rd l.toArray Q (r1++r2) C' a') a w:=by
 intro r1
 induction r1 with
 | nil=>
  intro C a w _ _ hC h
  simp only [List.nil_append,Vw] at h
  split at h
  ·rename_i G
   exact wpOpIn_mono (fun a' w' ⟨C',s,A,H⟩=>⟨C',s,fun h=>A (by omega),H⟩) (h w hC)
  ·rename_i G
   exact wpOpIn_mono (fun a' w' ⟨s,A⟩=>⟨C,s ▸ hC,fun _ _ h=>h,A⟩) (Zty hnd (.inr hC) h)
 | cons x r Y=>
  intro C a w I O hC h
  obtain ⟨x,kx⟩:=x
  simp only [cK,dJ] at I
  obtain ⟨q1,Z,S,T,U⟩:=Zqa (I.1 (i,k) (by simp))
  have g:=O (x,kx) (by simp)
  simp only at q1 Z S T U g
  have V:kx<2:=by
   rcases bU kx 2 with h | h
   ·exact h
   ·rw [S h] at g;cases g
  obtain ⟨u,v,hu,hv,W⟩:=U.resolve_left (by rw [g];simp)
  have B:l.toArray[x]?=some u:=by simpa using hu
  have F:l.toArray[i]?=some v:=by simpa using hv
  simp only [cK,Vw] at h ⊢
  rw [if_neg (by omega)] at h
  unfold Ve at h
  simp only [B] at h
  have fin:∀ (e:Value),((Region.wanted u (yielded l.toArray a.tmps)=true∧∀ w,(kx=1∨C w)→(execOp a.eval u).run P w= .ok (.value e) w)∨(Region.wanted u (yielded l.toArray a.tmps)=false∧e=undef))→
    Vw P rd l.toArray Q (r++(i,k) :: r2) C (a.put u.dst e)→wpOpIn (Yw rd) 0 P l.toArray Q i (fun a' w'=>∃ C':World→Prop,C' w'∧((k<2∨k=3)→∀ w,C' w→C w)∧
     if 2≤kx then ∀ w,C' w→wpOpIn (Yw rd) 0 P l.toArray Q x (fun a' w'=>∃ C'':World→Prop,C'' w'∧(kx=3→∀ w,C'' w→C' w)∧Vw P rd l.toArray Q (r++r2) C'' a') a' w
     else Ve P l.toArray (fun w=>kx=1∨C' w) x (Vw P rd l.toArray Q (r++r2) C') a') a w:=by
   intro e J hm
   have s:=Y C (a.put u.dst e) w I.2 (fun y hy=>O y (by simp [hy])) hC hm
   have A:=Zus hnd (hsel x u B) (hsel i v F) hQ F W s
   refine wpOpIn_mono (fun a' w' ⟨⟨e1,e2⟩,C',H,K,X⟩=>⟨C',H,K,?_⟩) A
   rw [if_neg (by omega)]
   unfold Ve
   simp only [B]
   rw [e2,e1]
   rcases J with ⟨n,L⟩ | ⟨n,rfl⟩
   ·refine .inl ⟨n,e,fun w q=>L w ?_,X⟩
    rcases q with q | q
    ·exact .inl q
    ·by_cases G:k<2
     ·exact .inr (K (.inl G) w q)
     ·rcases T (by omega) V with D | D | D
      ·rw [D] at g;cases g
      ·exact .inl D
      ·exact .inr (K (.inr D) w q)
   ·exact .inr ⟨n,X⟩
  rcases h with ⟨n,e,L,M⟩ | ⟨n,M⟩
  ·exact fin e (.inl ⟨n,L⟩) M
  ·exact fin undef (.inr ⟨n,rfl⟩) M

theorem Zix {listed:Array Bool} {j:Nat} (h:j<listed.size) (a b:Bool):listed.getD j a=listed.getD j b:=by
 simp [Array.getD_eq_getD_getElem?,Array.getElem?_eq_getElem h]

theorem Z9s {l:List Oper} {ms:List Nat} (hms:∀ k j,Yh (ms.getD k 0) j=true→V1 l.toArray k j) (hnd:∀ (j:Nat) (o:Oper),l.toArray[j]?=some o→W6 o.op=true) (hsel:∀ (j:Nat) (o:Oper),l.toArray[j]?=some o→∀ cs b,o.op≠.select cs b)
  (hdir:∀ (i:Nat) (o:Oper),l[i]?=some o→∀ e ∈ o.after,Region.binds .any e=true→e.on<i∧Yh (ms.getD i 0) e.on=true) (hQ:∀ c a w,¬ Q (.panic c) a w):
  ∀ (fuel:Nat) (listed:Array Bool) (a:Act) (w:World) (rem:List (Nat×Nat)) (C:World→Prop),rem.Pairwise (fun x y=>Zh9 l ms x y=true)→listed.size=l.length→
   (∀ i,(∃ k,(i,k) ∈ rem)↔i<l.length∧listed.getD i true=false)→(∀ i j,listed.getD i false=true→V1 l.toArray i j→listed.getD j false=true)→rem.length≤fuel→C w→Vw P rd l.toArray Q rem C a→
   wpAnyIn (Yw rd) 0 P .any l.toArray Q fuel listed a w:=by
 -- who may come up, of what is left
 have S:∀ (listed:Array Bool) (rem:List (Nat×Nat)),listed.size=l.length→rem.Pairwise (fun x y=>Zh9 l ms x y=true)→(∀ i,(∃ k,(i,k) ∈ rem)↔i<l.length∧listed.getD i true=false)→
   Region.ready .any l.toArray listed=[]→rem=[]:=by
  intro listed rem T B u X
  cases rem with
  | nil=>rfl
  | cons x r=>
   exfalso
   have n:=(u x.1).1 ⟨x.2,by simp⟩
   have G:x.1 ∈ Region.ready .any l.toArray listed:=by
    refine mem_ready.2 ⟨n.2,l[x.1]'n.1,by simp,fun e H D=>?_⟩
    obtain ⟨s,hd⟩:=hdir x.1 (l[x.1]'n.1) (by simp) e H D
    cases hl:listed.getD e.on false with
    | true=>rfl
    | false=>
     exfalso
     obtain ⟨k,I⟩:=(u e.on).2 ⟨by omega,by rw [Zix (by omega) true false];exact hl⟩
     rcases bL.1 I with h | h
     ·rw [← h] at s;exact Nat.lt_irrefl _ s
     ·have:=(Zqa ((dJ.1 B).1 (e.on,k) h)).1
      rw [hd] at this;cases this
   rw [X] at G;cases G
 intro fuel
 induction fuel with
 | zero=>
  intro listed a w rem C B T u v J hC h
  obtain rfl:rem=[]:=List.eq_nil_of_length_eq_zero (by omega)
  refine ⟨?_,h w hC⟩
  rw [List.eq_nil_iff_forall_not_mem]
  intro j F
  obtain ⟨Y,o,K,_⟩:=mem_ready.1 F
  have s:j<l.length:=by simpa using (Array.getElem?_eq_some_iff.1 K).1
  obtain ⟨k,I⟩:=(u j).2 ⟨s,Y⟩
  cases I
 | succ fuel ih=>
  intro listed a w rem C B T u v J hC h
  refine ⟨fun X=>?_,fun i hi=>?_⟩
  ·obtain rfl:=S listed rem T B u X
   exact h w hC
  ·obtain ⟨Y,o,K,L⟩:=mem_ready.1 hi
   have s:i<l.length:=by simpa using (Array.getElem?_eq_some_iff.1 K).1
   obtain ⟨k,I⟩:=(u i).2 ⟨s,Y⟩
   obtain ⟨Z,r2,rfl⟩:=List.append_of_mem I
   have M:∀ j,V1 l.toArray i j→listed.getD j false=true:=by
    intro j F
    cases F with
    | one A H D O=>rw [K] at A;cases A;rw [← O];exact L _ H D
    | more A H D O g=>rw [K] at A;cases A;exact v _ j (by rw [← O];exact L _ H D) g
   have W:=List.pairwise_append.1 B
   have a1:∀ x ∈ Z,x.1≠i:=fun x n=>(Zqa (W.2.2 x n (i,k) (by simp))).2.1
   have a2:∀ x ∈ r2,x.1≠i:=fun x n=>Ne.symm (Zqa ((dJ.1 W.2.1).1 x n)).2.1
   have U:=Vw.pull (rd:=rd) hnd hsel hQ i k r2 Z C a w B (fun x n=>by
    cases D:Yh (ms.getD i 0) x.1 with
    | false=>rfl
    | true=>
     exfalso
     have h2:=M x.1 (hms i x.1 D)
     have h3:=(u x.1).1 ⟨x.2,by simp [n]⟩
     rw [Zix (by omega) true false,h2] at h3
     cases h3.2) hC h
   refine wpOpIn_mono (fun a' w' ⟨C',q1,_,q3⟩=>ih _ a' w' (Z++r2) C' (B.sublist (List.Sublist.append (List.Sublist.refl _) (List.sublist_cons_self _ _))) (by simpa using T) (fun j=>?_) (fun x j n F=>?_) (by simp at J ⊢;omega) q1 q3) U
   ·by_cases hji:j=i
    ·subst hji
     constructor
     ·rintro ⟨V,g⟩
      rcases bI.1 g with q | q
      ·exact absurd rfl (a1 _ q)
      ·exact absurd rfl (a2 _ q)
     ·rintro ⟨_,q⟩
      have:j<listed.size:=by omega
      simp [Array.getD_eq_getD_getElem?,this] at q
    ·rw [getD_set_ne true (Ne.symm hji),← u j]
     constructor
     ·rintro ⟨V,g⟩
      refine ⟨V,?_⟩
      simp only [bI,bL] at g ⊢
      exact g.elim .inl fun h=>.inr (.inr h)
     ·rintro ⟨V,g⟩
      refine ⟨V,?_⟩
      simp only [bI,bL] at g ⊢
      rcases g with q | q | q
      ·exact .inl q
      ·exact absurd (congrArg Prod.fst q) hji
      ·exact .inr q
   ·by_cases hxi:x=i
    ·subst hxi;exact getD_set_true (M j F)
    ·rw [getD_set_ne false (Ne.symm hxi)] at n
     exact getD_set_true (v x j n F)

theorem Zyq:∀ (r:List Oper) (acc:List Nat) (k:Nat),k<acc.length→(Ui r acc)[k]?=acc[k]?
 | [],_,_,_=>rfl
 | o :: r,acc,k,a=>by
  rw [Ui,Zyq r _ k (by simp;omega),fH a]
theorem Zp2:∀ (r:List Oper) (acc:List Nat) (j:Nat) (o:Oper),r[j]?=some o→∃ acc',(Ui r acc)[acc.length+j]?=some (Zk8 o acc')
 | [],_,j,_,h=>by simp at h
 | o :: r,acc,0,a,h=>by
  simp at h;subst h
  exact ⟨acc,by rw [Ui,Zyq _ _ _ (by simp),bR,eJ (Nat.le_refl _)];simp⟩
 | o :: r,acc,j+1,a,h=>by
  obtain ⟨acc',b⟩:=Zp2 r (acc++[Zk8 o acc]) j a (by simpa using h)
  refine ⟨acc',?_⟩
  rw [Ui,← b,bW,aK];congr 1;omega
theorem Zs0 {o:Oper} {acc:List Nat} {e:Edge} (he:e ∈ o.after) (hb:Region.binds .any e=true):Yh (Zk8 o acc) e.on=true:=by
 have mono:∀ (a:List Edge) (s j:Nat),Yh s j=true→Yh (a.foldl (fun s e=>bif Region.binds .any e then s||| 2 ^ e.on||| acc.getD e.on 0 else s) s) j=true:=by
  intro a
  induction a with
  | nil=>intro s j h;exact h
  | cons e a b=>
   intro s j h
   rw [eP]
   refine b _ j ?_
   cases Region.binds .any e with
   | false=>exact h
   | true=>simp only [cond_true,Yh,iH,Bool.or_eq_true];exact .inl (.inl h)
 have c:∀ (a:List Edge) (s:Nat),e ∈ a→Yh (a.foldl (fun s e=>bif Region.binds .any e then s||| 2 ^ e.on||| acc.getD e.on 0 else s) s) e.on=true:=by
  intro a
  induction a with
  | nil=>intro s h;cases h
  | cons g a b=>
   intro s h
   rw [eP]
   rcases bL.1 h with rfl | h
   ·refine mono a _ _ ?_
    rw [hb]
    simp only [cond_true,Yh,iH,Bool.or_eq_true,jF]
    exact .inl (.inr (by simp))
   ·exact b _ h
 exact c o.after.toList 0 (by simpa using he)

def V3 (P:Program) (m:Nat) (rd:Option Nat) (l:List Oper) (N R:Fr→World→Prop) (E:Nat→Fr→World→Prop) (π:List (Nat×Nat)) (C:World→Prop) (f:Fr):Prop:=
 ∀ a,Y9 m a f→Vw P rd l.toArray (Tr m N R E) π C a

def Zim (l:List Oper):Bool:=l.zipIdx.all fun x=>x.1.after.all fun e=>!(Region.binds .any e)||bE e.on x.2

theorem Y8 {i:Nat} {l:List Oper} {N R:Fr→World→Prop} {E:Nat→Fr→World→Prop} {f:Fr} {w:World} {col:Ze} (π:List (Nat×Nat)) (hm:P.follows .mixedOrders=true) (hB:(Zyv l π&&Zim l)=true)
  (h:V3 P m rd l N R E π (fun w'=>Zj col w col w') f):Wp P m rd (.region i l.toArray true) N R E f w:=by
 intro a G
 simp only [Zyv,Bool.and_eq_true,cP,List.mem_range,List.any_eq_true,Nat.blt_eq] at hB
 obtain ⟨⟨⟨⟨⟨⟨H,I⟩,J⟩,K⟩,v⟩,L⟩,y⟩:=hB
 have v:=aU v
 have r:∀ k j,Yh ((Ui l []).getD k 0) j=true→V1 l.toArray k j:=fun k j s=>by
  cases q:(Ui l [])[k]? with
  | none=>rw [aE,q] at s;simp [Yh] at s
  | some M=>rw [aE,q] at s;exact Zs1 (l:=l) l [] (fun j=>by simp) (by simp) k M q j s
 refine wpIn_region_any hm (Z9s (ms:=Ui l []) r (fun j o n=>I o (List.mem_of_getElem? (by simpa using n))) (fun j o n O b=>Region.noSelect_spec H j o O b n) (fun i o n e A B=>⟨?_,?_⟩) (fun c a w S=>S)
  _ _ _ _ π (fun w'=>Zj col w col w') (Zzk L) (by simp) (fun i=>?_) (fun i j u _=>?_) (by simp [v]) ((Zj.refl col w).drew) (h a G))
 ·simp only [Zim,cP] at y
  have:=y (o,i) (by rw [List.mem_zipIdx_iff_getElem?];exact n)
  have g:=(Array.all_eq_true_iff_forall_mem.1 this) e A
  simpa [B] using g
 ·obtain ⟨T,g⟩:=Zp2 l [] i o n
  simp only [List.length_nil,Nat.zero_add] at g
  rw [aE,g]
  exact Zs0 A B
 ·constructor
  ·rintro ⟨k,q⟩
   have g:=K _ q
   have:i<(Array.replicate l.toArray.size false).size:=by simpa using g
   refine ⟨g,?_⟩
   simp only [Array.getD_eq_getD_getElem?,Array.getElem?_eq_getElem this,dG]
   simp
  ·rintro ⟨D,_⟩
   obtain ⟨x,U,F⟩:=J i D
   exact ⟨x.2,by rw [← aU F];exact U⟩
 ·exfalso
  rcases bU i l.toArray.size with g | g
  ·have:i<(Array.replicate l.toArray.size false).size:=by simpa using g
   simp only [Array.getD_eq_getD_getElem?,Array.getElem?_eq_getElem this,dG] at u
   simp at u
  ·have V:(Array.replicate l.toArray.size false)[i]?=none:=Array.getElem?_eq_none (by simpa using g)
   rw [Array.getD_eq_getD_getElem?,V] at u
   simp at u

theorem Zup {o:Oper} {a:Act} {K:Act→World→Prop} {Q Q':Exit→Act→World→Prop} {r:Result Next} (hQ:∀ e a w,e≠.normal→Q e a w→Q' e a w) (h:o.uponIn (Yw rd) 0 P a K Q r):o.uponIn (Yw rd) 0 P a K Q' r:=by
 have g:LetsOut Q→LetsOut Q':=fun ⟨a,w,h⟩=>⟨a,w,hQ _ _ _ (by intro h;cases h) h⟩
 cases r with
 | ok n k=>
  cases n <;> simp only [Oper.uponIn] at h ⊢
  case enter f args=>
   refine ⟨h.1,CallsIn.mono h.2 fun e j b=>?_⟩
   cases e with
   | returned u=>exact b
   | panicked c=>exact hQ _ _ _ (by intro h;cases h) b
   | outgrown=>exact g b
  case round l f tmps assign body=>
   refine ⟨h.1,RoundIn.mono h.2 fun e j b=>?_⟩
   cases e with
   | returned u=>exact b
   | panicked c=>exact hQ _ _ _ (by intro h;cases h) b
   | outgrown=>exact g b
  all_goals exact h
 | halt x k=>
  cases x <;> simp only [Oper.uponIn] at h ⊢
  exact hQ _ _ _ (by intro h;cases h) h

section
variable {l:List Oper} {N R:Fr→World→Prop} {E:Nat→Fr→World→Prop} {f:Fr} {π:List (Nat×Nat)} {C:World→Prop} {i d t:Nat} {p:String} {af:Array Edge} {op:Op}
theorem V3.ld {d:Nat} {v:Value} (h:f d=v) (k:V3 P m rd l N R E π C (Z8 f d v)):V3 P m rd l N R E π C f:=by rwa [Zlg h] at k
theorem Y4 (h:∀ w,C w→N f w):V3 P m rd l N R E [] C f:=fun _ a w b=>⟨f,a,h w b⟩
theorem xv {v:Value} (ho:l[i]?=some ⟨some d,op,t,p,af,none⟩) (hd:bE d m=true) (hr:∀ w,C w→(execOp (ev f) ⟨some d,op,t,p,af,none⟩).run P w= .ok (.value v) w) (k:V3 P m rd l N R E π C (Z8 f d v)):
  V3 P m rd l N R E ((i,0) :: π) C f:=by
 intro a b
 simp only [Vw]
 rw [if_neg (by decide)]
 unfold Ve
 have c:l.toArray[i]?=some ⟨some d,op,t,p,af,none⟩:=by simpa using ho
 simp only [c]
 exact .inl ⟨rfl,v,fun w e=>by rw [b.eval];exact hr w (e.resolve_left (by decide)),k _ (b.put (d:=some d) hd v)⟩
theorem xu {v:Value} (ho:l[i]?=some ⟨some d,op,t,p,af,none⟩) (hd:bE d m=true) (hr:∀ w,(execOp (ev f) ⟨some d,op,t,p,af,none⟩).run P w= .ok (.value v) w) (k:V3 P m rd l N R E π C (Z8 f d v)):
  V3 P m rd l N R E ((i,1) :: π) C f:=by
 intro a b
 simp only [Vw]
 rw [if_neg (by decide)]
 unfold Ve
 have c:l.toArray[i]?=some ⟨some d,op,t,p,af,none⟩:=by simpa using ho
 simp only [c]
 exact .inl ⟨rfl,v,fun w _=>by rw [b.eval];exact hr w,k _ (b.put (d:=some d) hd v)⟩
theorem Xbb {K:Act→Prop} {a:Act} {j:Nat} {want:Bool} {dst:Option Nat} (ho:l[i]?=some ⟨dst,op,t,p,af,some (j,want)⟩) (hw:Region.wanted ⟨dst,op,t,p,af,some (j,want)⟩ (yielded l.toArray a.tmps)=false) (k:K (a.put dst undef)):Ve P l.toArray C i K a:=by
 unfold Ve
 have b:l.toArray[i]?=some ⟨dst,op,t,p,af,some (j,want)⟩:=by simpa using ho
 simp only [b]
 exact .inr ⟨hw,k⟩
theorem Zf2 {kd j:Nat} {want b:Bool} {dst:Option Nat} (d':Nat) (ho:l[i]?=some ⟨dst,op,t,p,af,some (j,want)⟩) (hd:Zd2 m dst=true) (h1:(l.toArray[j]?).bind (·.dst)=some d') (h2:bE d' m=true) (h3:f d'= .bool b) (hb:(b==want)=false)
  (k:V3 P m rd l N R E π C (Zdw f dst undef)):V3 P m rd l N R E ((i,kd) :: π) C f:=by
 intro a e
 have c:=Zig (o:=⟨dst,op,t,p,af,some (j,want)⟩) e rfl ⟨d',h1,h2,h3⟩
 rw [hb] at c
 have g:l.toArray[i]?=some ⟨dst,op,t,p,af,some (j,want)⟩:=by simpa using ho
 have n:=k _ (e.put hd undef)
 simp only [Vw]
 split
 ·intro w hC
  unfold wpOpIn
  simp only [g,c]
  exact ⟨fun _ _=>trivial,C,hC,fun _ _ h=>h,n⟩
 ·exact Xbb ho c n
theorem Z4j {v:Value} {j:Nat} {want b:Bool} (d':Nat) (ho:l[i]?=some ⟨some d,op,t,p,af,some (j,want)⟩) (hd:bE d m=true) (h1:(l.toArray[j]?).bind (·.dst)=some d') (h2:bE d' m=true) (h3:f d'= .bool b) (hb:(b==want)=true)
  (hr:∀ w,C w→(execOp (ev f) ⟨some d,op,t,p,af,none⟩).run P w= .ok (.value v) w) (k:V3 P m rd l N R E π C (Z8 f d v)):V3 P m rd l N R E ((i,0) :: π) C f:=by
 intro a e
 have c:=Zig (o:=⟨some d,op,t,p,af,some (j,want)⟩) e rfl ⟨d',h1,h2,h3⟩
 rw [hb] at c
 simp only [Vw]
 rw [if_neg (by decide)]
 unfold Ve
 have g:l.toArray[i]?=some ⟨some d,op,t,p,af,some (j,want)⟩:=by simpa using ho
 simp only [g]
 exact .inl ⟨c,v,fun w c=>by rw [e.eval];exact hr w (c.resolve_left (by decide)),k _ (e.put (d:=some d) hd v)⟩
theorem Z4i {v:Value} {j:Nat} {want b:Bool} (d':Nat) (ho:l[i]?=some ⟨some d,op,t,p,af,some (j,want)⟩) (hd:bE d m=true) (h1:(l.toArray[j]?).bind (·.dst)=some d') (h2:bE d' m=true) (h3:f d'= .bool b) (hb:(b==want)=true)
  (hr:∀ w,(execOp (ev f) ⟨some d,op,t,p,af,none⟩).run P w= .ok (.value v) w) (k:V3 P m rd l N R E π C (Z8 f d v)):V3 P m rd l N R E ((i,1) :: π) C f:=by
 intro a c
 have e:=Zig (o:=⟨some d,op,t,p,af,some (j,want)⟩) c rfl ⟨d',h1,h2,h3⟩
 rw [hb] at e
 simp only [Vw]
 rw [if_neg (by decide)]
 unfold Ve
 have g:l.toArray[i]?=some ⟨some d,op,t,p,af,some (j,want)⟩:=by simpa using ho
 simp only [g]
 exact .inl ⟨e,v,fun w _=>by rw [c.eval];exact hr w,k _ (c.put (d:=some d) hd v)⟩
theorem xe {kd:Nat} {o:Oper} (ho:l[i]?=some o) (hkd:Nat.ble 2 kd=true) (k:∀ w,C w→Zy P m rd l.toArray (fun f1 w1=>∃ C':World→Prop,C' w1∧(kd=3→∀ w,C' w→C w)∧V3 P m rd l N R E π C' f1) [o] f w):V3 P m rd l N R E ((i,kd) :: π) C f:=by
 intro a s
 simp only [Vw]
 rw [if_pos (Nat.le_of_ble_eq_true hkd)]
 intro w hC
 have g:=k w hC a s (fun e b c=>e= .normal∧∃ C':World→Prop,C' c∧(kd=3→∀ w,C' w→C w)∧Vw P rd l.toArray (Tr m N R E) π C' b)
  (fun b y c u ⟨C',q1,v,x⟩=>⟨rfl,C',q1,v,x _ u⟩)
 have n:l.toArray[i]?=some o:=by simpa using ho
 unfold wpListIn at g
 unfold wpOpIn
 simp only [n]
 split
 ·rename_i j
  simp only [j,if_true] at g
  have q:o.wpIn (Yw rd) 0 P a w (fun b c=>∃ C':World→Prop,C' c∧(kd=3→∀ w,C' w→C w)∧Vw P rd l.toArray (Tr m N R E) π C' b) (fun e b c=>e= .normal∧∃ C':World→Prop,C' c∧(kd=3→∀ w,C' w→C w)∧Vw P rd l.toArray (Tr m N R E) π C' b):=
   Oper.wpIn_mono (fun b c h=>by simp only [wpListIn] at h;exact h.2) g
  exact ⟨q.1,Zup (fun e b c r h=>absurd h.1 r) q.2⟩
 ·rename_i j
  simp only [j] at g
  refine ⟨g.1,?_⟩
  have:=g.2
  simp only [wpListIn] at this
  exact this.2
end
end
end Go.Proofs.YthclpfhncgpnmaaGreat
