/-
  A region that draws its order and turns the world: its operations in one order that stands for all. Over any program.
-/
import Derived.Test.YtpkknichfgooaaaGreatTopBitsBMemOps
namespace Go.Proofs.YtpkknichfgooaaaGreat
open Go Go.RowKit
open List renaming foldl_cons→gI,getD_eq_getElem?_getD→aD,length_append→bT,length_singleton→aL,getElem?_append_left→eQ,getElem?_append_right→eK,all_eq_true→cW,cons_append→cK,pairwise_cons→cT,mem_cons→bK,mem_append→aY
open Nat renaming testBit_or→gT,testBit_two_pow→iO,lt_or_ge→bW,add_zero→bV,beq→aH,blt→aR,eq_of_beq_eq_true→aQ
open Option renaming getD_some→cO
open Go.IntKind (i8 i16 i32 i64 u8 u16 u32 u64)

def Yg (m i:Nat):Bool:=Nat.testBit m i

def Zj8 (o:Oper) (acc:List Nat):Nat:=o.after.toList.foldl (fun s e=>bif Region.binds .any e then s||| 2 ^ e.on||| acc.getD e.on 0 else s) 0
def Uu:List Oper→List Nat→List Nat
 | [],acc=>acc
 | o :: l,acc=>Uu l (acc++[Zj8 o acc])

inductive V9 (ops:Array Oper):Nat→Nat→Prop
 | one {i j:Nat} {o:Oper} {e:Edge}:ops[i]?=some o→e ∈ o.after→Region.binds .any e=true→e.on=j→V9 ops i j
 | more {i j k:Nat} {o:Oper} {e:Edge}:ops[i]?=some o→e ∈ o.after→Region.binds .any e=true→e.on=k→V9 ops k j→V9 ops i j

theorem Z8g {ops:Array Oper} {i:Nat} {o:Oper} {acc:List Nat} (ho:ops[i]?=some o) (hacc:∀ k m,acc[k]?=some m→∀ j,Yg m j=true→V9 ops k j):
  ∀ j,Yg (Zj8 o acc) j=true→V9 ops i j:=by
 have n:∀ (b:List Edge) (s:Nat),(∀ e ∈ b,e ∈ o.after)→(∀ j,Yg s j=true→V9 ops i j)→
   ∀ j,Yg (b.foldl (fun s e=>bif Region.binds .any e then s||| 2 ^ e.on||| acc.getD e.on 0 else s) s) j=true→V9 ops i j:=by
  intro b
  induction b with
  | nil=>intro s _ g j a;exact g j a
  | cons e b r=>
   intro s c g j a
   rw [gI] at a
   refine r _ (fun u q=>c u (by simp [q])) ?_ j a
   intro j a
   cases hb:Region.binds .any e with
   | false=>simp only [hb,cond_false] at a;exact g j a
   | true=>
    simp only [hb,cond_true,Yg,gT,Bool.or_eq_true] at a
    rcases a with (a | a) | a
    ·exact g j a
    ·rw [iO] at a
     exact .one ho (c e (by simp)) hb (by simpa using a)
    ·cases hk:acc[e.on]? with
     | none=>rw [aD,hk] at a;simp at a
     | some m=>
      rw [aD,hk] at a
      exact .more ho (c e (by simp)) hb rfl (hacc _ m hk j a)
 intro j a
 exact n o.after.toList 0 (by simp) (by intro j a;simp [Yg] at a) j a

theorem Zsg {l:List Oper}:∀ (r:List Oper) (acc:List Nat),(∀ j,r[j]?=l[acc.length+j]?)→(∀ k m,acc[k]?=some m→∀ j,Yg m j=true→V9 l.toArray k j)→
  ∀ k m,(Uu r acc)[k]?=some m→∀ j,Yg m j=true→V9 l.toArray k j:=by
 intro r
 induction r with
 | nil=>intro acc _ h;exact h
 | cons o r n=>
  intro acc b h
  refine n (acc++[Zj8 o acc]) (fun j=>?_) ?_
  ·have:=b (j+1);simp only [List.getElem?_cons_succ] at this;rw [this,bT,aL];congr 1;omega
  ·intro k m a j c
   by_cases hlt:k<acc.length
   ·rw [eQ hlt] at a;exact h k m a j c
   ·rw [eK (by omega)] at a
    have:k=acc.length:=by
     rcases bW (k - acc.length) 1 with e | e
     ·omega
     ·rw [List.getElem?_eq_none (by simpa using e)] at a;cases a
    subst this
    simp at a;subst a
    have g:=b 0
    simp only [List.getElem?_cons_zero,bV] at g
    exact Z8g (by simpa using g.symm) h j c

def Zgx (l:List Oper) (ms:List Nat) (x y:Nat×Nat):Bool:=
 let a:=Yg (ms.getD y.1 0) x.1
 !(Yg (ms.getD x.1 0) y.1)&&!(aH x.1 y.1)&&(aR x.2 2||a)&&(aR y.2 2||(Nat.ble 2 x.2||(a||(aH x.2 1||aH y.2 3))))&&
  (a||(match l[x.1]?,l[y.1]? with | some u,some v=>u.apart l.toArray v | _,_=>false))
def Zpn (l:List Oper) (ms:List Nat):List (Nat×Nat)→Bool
 | []=>true
 | x :: r=>r.all (Zgx l ms x)&&Zpn l ms r
def Zyq (l:List Oper) (π:List (Nat×Nat)):Bool:=
 Region.noSelect l.toArray&&l.all (fun o=>W7 o.op)&&(List.range l.length).all (fun i=>π.any fun x=>aH x.1 i)&&π.all (fun x=>aR x.1 l.length)&&aH π.length l.length&&Zpn l (Uu l []) π

section
variable {P:Program} {m:Nat} {rd:Option Nat} {ops:Array Oper} {Q:Exit→Act→World→Prop}

def Vg (P:Program) (ops:Array Oper) (C:World→Prop) (i:Nat) (K:Act→Prop) (a:Act):Prop:=
 match ops[i]? with
 | none=>K a
 | some o=>(Region.wanted o (yielded ops a.tmps)=true∧∃ v,(∀ w,C w→(execOp a.eval o).run P w= .ok (.value v) w)∧K (a.put o.dst v))∨(Region.wanted o (yielded ops a.tmps)=false∧K (a.put o.dst undef))

def V3 (P:Program) (rd:Option Nat) (ops:Array Oper) (Q:Exit→Act→World→Prop):List (Nat×Nat)→(World→Prop)→Act→Prop
 | [],C,a=>∀ w,C w→Q .normal a w
 | (i,k) :: r,C,a=>
  if 2≤k then ∀ w,C w→wpOpIn (Yy rd) 0 P ops Q i (fun a' w'=>∃ C':World→Prop,C' w'∧(k=3→∀ w,C' w→C w)∧V3 P rd ops Q r C' a') a w
  else Vg P ops (fun w=>k=1∨C w) i (V3 P rd ops Q r C) a

theorem Ztg {C:World→Prop} {i:Nat} {K:Act→Prop} {a:Act} {w:World} (hnd:∀ (j:Nat) (o:Oper),ops[j]?=some o→W7 o.op=true) (hC:C w) (h:Vg P ops C i K a):
  wpOpIn (Yy rd) 0 P ops Q i (fun a' w'=>w'=w∧K a') a w:=by
 unfold Vg at h
 unfold wpOpIn
 split
 ·rename_i b;simp only [b] at h;exact ⟨rfl,h⟩
 ·rename_i o b
  have g:=hnd i o b
  simp only [b] at h
  rcases h with ⟨c,v,k,e⟩ | ⟨c,e⟩
  ·rw [c]
   refine ⟨fun _ _=>trivial,?_⟩
   show Oper.uponIn _ _ _ _ _ _ _ ((o.semAt rd a.eval).run P w)
   rw [Zc5 g,k w hC]
   exact ⟨rfl,e⟩
  ·rw [c];exact ⟨fun _ _=>trivial,rfl,e⟩

theorem Zt9 {i:Nat} {x o:Oper} {v:Value} {a:Act} {w:World} {K:Act→World→Prop} (hnd:∀ (j:Nat) (o:Oper),ops[j]?=some o→W7 o.op=true) (hselx:∀ cs b,x.op≠.select cs b) (hselo:∀ cs b,o.op≠.select cs b)
  (hQ:∀ c a w,¬ Q (.panic c) a w) (ho:ops[i]?=some o) (hap:x.apart ops o=true) (h:wpOpIn (Yy rd) 0 P ops Q i K (a.put x.dst v) w):
  wpOpIn (Yy rd) 0 P ops Q i (fun a' w'=>(execOp a'.eval x=execOp a.eval x∧Region.wanted x (yielded ops a'.tmps)=Region.wanted x (yielded ops a.tmps))∧K (a'.put x.dst v) w') a w:=by
 obtain ⟨A,F,B⟩:=Oper.apart_spec hap
 have keep:∀ (a:Act) u,execOp (a.put o.dst u).eval x=execOp a.eval x∧Region.wanted x (yielded ops (a.put o.dst u).tmps)=Region.wanted x (yielded ops a.tmps):=fun a u=>
  ⟨execOp_put x hselx a o.dst u B,wanted_put x a o.dst u B⟩
 have g:∀ (a:Act) u,(a.put x.dst v).put o.dst u=(a.put o.dst u).put x.dst v:=fun a u=>Act.put_comm a v u F
 unfold wpOpIn at *
 have D:=hnd i o ho
 simp only [ho] at *
 rw [wanted_put o a x.dst v A] at h
 split
 ·rename_i y
  simp only [y,if_true] at h
  refine ⟨fun _ _=>trivial,?_⟩
  have k:=h.2
  change Oper.uponIn _ _ _ _ _ _ _ ((o.semAt rd (a.put x.dst v).eval).run P w) at k
  show Oper.uponIn _ _ _ _ _ _ _ ((o.semAt rd a.eval).run P w)
  rw [Zc5 D] at k ⊢
  rw [execOp_put o hselo a x.dst v A] at k
  generalize (execOp a.eval o).run P w=r at *
  cases r with
  | ok n w'=>
   cases n <;> simp only [Oper.uponIn] at k ⊢
   case value u=>exact ⟨keep a u,by rw [← g];exact k⟩
   case skip=>exact ⟨keep a undef,by rw [← g];exact k⟩
   case defer d=>
    refine ⟨keep { a with defers:=d :: a.defers } undef,?_⟩
    rw [← g,← Act.put_defers];exact k
   case enter f args=>
    refine ⟨k.1,CallsIn.mono k.2 fun e s q=>?_⟩
    cases e with
    | returned u=>exact ⟨keep a u,by rw [← g];exact q⟩
    | panicked c=>exact absurd q (hQ _ _ _)
    | outgrown=>exact q
   case row row args=>exact ⟨k.1,RowsIn.mono k.2 fun u s q=>⟨keep a u,by rw [← g];exact q⟩⟩
   case round l f tmps assign body=>
    refine ⟨k.1,RoundIn.mono k.2 fun e s q=>?_⟩
    cases e with
    | returned u=>exact ⟨keep a u,by rw [← g];exact q⟩
    | panicked c=>exact absurd q (hQ _ _ _)
    | outgrown=>exact q
  | halt x w'=>
   cases x <;> simp only [Oper.uponIn] at k ⊢
   exact absurd k (hQ _ _ _)
 ·rename_i y
  simp only [y] at h
  exact ⟨fun _ _=>trivial,keep a undef,by rw [← g];exact h.2⟩

theorem Zza {l:List Oper} {ms:List Nat}:∀ {π:List (Nat×Nat)},Zpn l ms π=true→π.Pairwise fun x y=>Zgx l ms x y=true
 | [],_=>.nil
 | x :: r,h=>by
  simp only [Zpn,Bool.and_eq_true,cW] at h
  exact .cons h.1 (Zza h.2)

theorem Zpm {l:List Oper} {ms:List Nat} {x y:Nat×Nat} (h:Zgx l ms x y=true):
  Yg (ms.getD x.1 0) y.1=false∧x.1≠y.1∧(2≤x.2→Yg (ms.getD y.1 0) x.1=true)∧(2≤y.2→x.2<2→Yg (ms.getD y.1 0) x.1=true∨x.2=1∨y.2=3)∧
  (Yg (ms.getD y.1 0) x.1=true∨∃ u v,l[x.1]?=some u∧l[y.1]?=some v∧u.apart l.toArray v=true):=by
 simp only [Zgx,Bool.and_eq_true,Bool.not_eq_true',Bool.or_eq_true,Nat.blt_eq,Nat.ble_eq] at h
 obtain ⟨⟨⟨⟨g,c⟩,j⟩,b⟩,a⟩:=h
 refine ⟨g,fun e=>?_,fun k=>j.resolve_left (by omega),fun n k=>?_,?_⟩
 ·rw [e] at c;simp at c
 ·rcases b with b | b | b | b | b
  ·omega
  ·omega
  ·exact .inl b
  ·exact .inr (.inl (aQ b))
  ·exact .inr (.inr (aQ b))
 ·rcases a with a | a
  ·exact .inl a
  ·right
   cases hu:l[x.1]? with
   | none=>rw [hu] at a;simp at a
   | some u=>
    cases hv:l[y.1]? with
    | none=>rw [hu,hv] at a;simp at a
    | some v=>rw [hu,hv] at a;exact ⟨u,v,rfl,rfl,a⟩

theorem V3.pull {l:List Oper} {ms:List Nat} (hnd:∀ (j:Nat) (o:Oper),l.toArray[j]?=some o→W7 o.op=true) (hsel:∀ (j:Nat) (o:Oper),l.toArray[j]?=some o→∀ cs b,o.op≠.select cs b)
  (hQ:∀ c a w,¬ Q (.panic c) a w) (i k:Nat) (r2:List (Nat×Nat)):∀ (r1:List (Nat×Nat)) (C:World→Prop) (a:Act) (w:World),(r1++(i,k) :: r2).Pairwise (fun x y=>Zgx l ms x y=true)→(∀ x ∈ r1,Yg (ms.getD i 0) x.1=false)→C w→
   V3 P rd l.toArray Q (r1++(i,k) :: r2) C a→wpOpIn (Yy rd) 0 P l.toArray Q i (fun a' w'=>∃ C':World→Prop,C' w'∧((k<2∨k=3)→∀ w,C' w→C w)∧V3 P rd l.toArray Q (r1++r2) C' a') a w:=by
 intro r1
 induction r1 with
 | nil=>
  intro C a w _ _ s h
  simp only [List.nil_append,V3] at h
  split at h
  ·rename_i H
   exact wpOpIn_mono (fun a' w' ⟨C',A,B,I⟩=>⟨C',A,fun h=>B (by omega),I⟩) (h w s)
  ·rename_i H
   exact wpOpIn_mono (fun a' w' ⟨A,B⟩=>⟨C,A ▸ s,fun _ _ h=>h,B⟩) (Ztg hnd (.inr s) h)
 | cons x r Z=>
  intro C a w J S s h
  obtain ⟨x,kx⟩:=x
  simp only [cK,cT] at J
  obtain ⟨q1,q2,T,U,V⟩:=Zpm (J.1 (i,k) (by simp))
  have g:=S (x,kx) (by simp)
  simp only at q1 q2 T U V g
  have W:kx<2:=by
   rcases bW kx 2 with h | h
   ·exact h
   ·rw [T h] at g;cases g
  obtain ⟨u,v,hu,hv,X⟩:=V.resolve_left (by rw [g];simp)
  have D:l.toArray[x]?=some u:=by simpa using hu
  have G:l.toArray[i]?=some v:=by simpa using hv
  simp only [cK,V3] at h ⊢
  rw [if_neg (by omega)] at h
  unfold Vg at h
  simp only [D] at h
  have fin:∀ (e:Value),((Region.wanted u (yielded l.toArray a.tmps)=true∧∀ w,(kx=1∨C w)→(execOp a.eval u).run P w= .ok (.value e) w)∨(Region.wanted u (yielded l.toArray a.tmps)=false∧e=undef))→
    V3 P rd l.toArray Q (r++(i,k) :: r2) C (a.put u.dst e)→wpOpIn (Yy rd) 0 P l.toArray Q i (fun a' w'=>∃ C':World→Prop,C' w'∧((k<2∨k=3)→∀ w,C' w→C w)∧
     if 2≤kx then ∀ w,C' w→wpOpIn (Yy rd) 0 P l.toArray Q x (fun a' w'=>∃ C'':World→Prop,C'' w'∧(kx=3→∀ w,C'' w→C' w)∧V3 P rd l.toArray Q (r++r2) C'' a') a' w
     else Vg P l.toArray (fun w=>kx=1∨C' w) x (V3 P rd l.toArray Q (r++r2) C') a') a w:=by
   intro e K hm
   have A:=Z C (a.put u.dst e) w J.2 (fun y hy=>S y (by simp [hy])) s hm
   have B:=Zt9 hnd (hsel x u D) (hsel i v G) hQ G X A
   refine wpOpIn_mono (fun a' w' ⟨⟨e1,e2⟩,C',I,L,Y⟩=>⟨C',I,L,?_⟩) B
   rw [if_neg (by omega)]
   unfold Vg
   simp only [D]
   rw [e2,e1]
   rcases K with ⟨n,M⟩ | ⟨n,rfl⟩
   ·refine .inl ⟨n,e,fun w q=>M w ?_,Y⟩
    rcases q with q | q
    ·exact .inl q
    ·by_cases H:k<2
     ·exact .inr (L (.inl H) w q)
     ·rcases U (by omega) W with F | F | F
      ·rw [F] at g;cases g
      ·exact .inl F
      ·exact .inr (L (.inr F) w q)
   ·exact .inr ⟨n,Y⟩
  rcases h with ⟨n,e,M,O⟩ | ⟨n,O⟩
  ·exact fin e (.inl ⟨n,M⟩) O
  ·exact fin undef (.inr ⟨n,rfl⟩) O

theorem Zho {listed:Array Bool} {j:Nat} (h:j<listed.size) (a b:Bool):listed.getD j a=listed.getD j b:=by
 simp [Array.getD_eq_getD_getElem?,Array.getElem?_eq_getElem h]

theorem Z8m {l:List Oper} {ms:List Nat} (hms:∀ k j,Yg (ms.getD k 0) j=true→V9 l.toArray k j) (hnd:∀ (j:Nat) (o:Oper),l.toArray[j]?=some o→W7 o.op=true) (hsel:∀ (j:Nat) (o:Oper),l.toArray[j]?=some o→∀ cs b,o.op≠.select cs b)
  (hdir:∀ (i:Nat) (o:Oper),l[i]?=some o→∀ e ∈ o.after,Region.binds .any e=true→e.on<i∧Yg (ms.getD i 0) e.on=true) (hQ:∀ c a w,¬ Q (.panic c) a w):
  ∀ (fuel:Nat) (listed:Array Bool) (a:Act) (w:World) (rem:List (Nat×Nat)) (C:World→Prop),rem.Pairwise (fun x y=>Zgx l ms x y=true)→listed.size=l.length→
   (∀ i,(∃ k,(i,k) ∈ rem)↔i<l.length∧listed.getD i true=false)→(∀ i j,listed.getD i false=true→V9 l.toArray i j→listed.getD j false=true)→rem.length≤fuel→C w→V3 P rd l.toArray Q rem C a→
   wpAnyIn (Yy rd) 0 P .any l.toArray Q fuel listed a w:=by
 -- who may come up, of what is left
 have S:∀ (listed:Array Bool) (rem:List (Nat×Nat)),listed.size=l.length→rem.Pairwise (fun x y=>Zgx l ms x y=true)→(∀ i,(∃ k,(i,k) ∈ rem)↔i<l.length∧listed.getD i true=false)→
   Region.ready .any l.toArray listed=[]→rem=[]:=by
  intro listed rem T B u Y
  cases rem with
  | nil=>rfl
  | cons x r=>
   exfalso
   have n:=(u x.1).1 ⟨x.2,by simp⟩
   have G:x.1 ∈ Region.ready .any l.toArray listed:=by
    refine mem_ready.2 ⟨n.2,l[x.1]'n.1,by simp,fun e H D=>?_⟩
    obtain ⟨s,hd⟩:=hdir x.1 (l[x.1]'n.1) (by simp) e H D
    cases hl:listed.getD e.on false with
    | true=>rfl
    | false=>
     exfalso
     obtain ⟨k,I⟩:=(u e.on).2 ⟨by omega,by rw [Zho (by omega) true false];exact hl⟩
     rcases bK.1 I with h | h
     ·rw [← h] at s;exact Nat.lt_irrefl _ s
     ·have:=(Zpm ((cT.1 B).1 (e.on,k) h)).1
      rw [hd] at this;cases this
   rw [Y] at G;cases G
 intro fuel
 induction fuel with
 | zero=>
  intro listed a w rem C B T u v J U h
  obtain rfl:rem=[]:=List.eq_nil_of_length_eq_zero (by omega)
  refine ⟨?_,h w U⟩
  rw [List.eq_nil_iff_forall_not_mem]
  intro j F
  obtain ⟨Z,o,K,_⟩:=mem_ready.1 F
  have s:j<l.length:=by simpa using (Array.getElem?_eq_some_iff.1 K).1
  obtain ⟨k,I⟩:=(u j).2 ⟨s,Z⟩
  cases I
 | succ fuel ih=>
  intro listed a w rem C B T u v J U h
  refine ⟨fun Y=>?_,fun i hi=>?_⟩
  ·obtain rfl:=S listed rem T B u Y
   exact h w U
  ·obtain ⟨Z,o,K,L⟩:=mem_ready.1 hi
   have s:i<l.length:=by simpa using (Array.getElem?_eq_some_iff.1 K).1
   obtain ⟨k,I⟩:=(u i).2 ⟨s,Z⟩
   obtain ⟨r1,r2,rfl⟩:=List.append_of_mem I
   have M:∀ j,V9 l.toArray i j→listed.getD j false=true:=by
    intro j F
    cases F with
    | one A H D O=>rw [K] at A;cases A;rw [← O];exact L _ H D
    | more A H D O g=>rw [K] at A;cases A;exact v _ j (by rw [← O];exact L _ H D) g
   have X:=List.pairwise_append.1 B
   have a2:∀ x ∈ r1,x.1≠i:=fun x n=>(Zpm (X.2.2 x n (i,k) (by simp))).2.1
   have a3:∀ x ∈ r2,x.1≠i:=fun x n=>Ne.symm (Zpm ((cT.1 X.2.1).1 x n)).2.1
   have V:=V3.pull (rd:=rd) hnd hsel hQ i k r2 r1 C a w B (fun x n=>by
    cases D:Yg (ms.getD i 0) x.1 with
    | false=>rfl
    | true=>
     exfalso
     have h2:=M x.1 (hms i x.1 D)
     have h3:=(u x.1).1 ⟨x.2,by simp [n]⟩
     rw [Zho (by omega) true false,h2] at h3
     cases h3.2) U h
   refine wpOpIn_mono (fun a' w' ⟨C',q1,_,q3⟩=>ih _ a' w' (r1++r2) C' (B.sublist (List.Sublist.append (List.Sublist.refl _) (List.sublist_cons_self _ _))) (by simpa using T) (fun j=>?_) (fun x j n F=>?_) (by simp at J ⊢;omega) q1 q3) V
   ·by_cases hji:j=i
    ·subst hji
     constructor
     ·rintro ⟨W,g⟩
      rcases aY.1 g with q | q
      ·exact absurd rfl (a2 _ q)
      ·exact absurd rfl (a3 _ q)
     ·rintro ⟨_,q⟩
      have:j<listed.size:=by omega
      simp [Array.getD_eq_getD_getElem?,this] at q
    ·rw [getD_set_ne true (Ne.symm hji),← u j]
     constructor
     ·rintro ⟨W,g⟩
      refine ⟨W,?_⟩
      simp only [aY,bK] at g ⊢
      exact g.elim .inl fun h=>.inr (.inr h)
     ·rintro ⟨W,g⟩
      refine ⟨W,?_⟩
      simp only [aY,bK] at g ⊢
      rcases g with q | q | q
      ·exact .inl q
      ·exact absurd (congrArg Prod.fst q) hji
      ·exact .inr q
   ·by_cases hxi:x=i
    ·subst hxi;exact getD_set_true (M j F)
    ·rw [getD_set_ne false (Ne.symm hxi)] at n
     exact getD_set_true (v x j n F)

theorem Zyn:∀ (r:List Oper) (acc:List Nat) (k:Nat),k<acc.length→(Uu r acc)[k]?=acc[k]?
 | [],_,_,_=>rfl
 | o :: r,acc,k,a=>by
  rw [Uu,Zyn r _ k (by simp;omega),eQ a]
theorem Zpf:∀ (r:List Oper) (acc:List Nat) (j:Nat) (o:Oper),r[j]?=some o→∃ acc',(Uu r acc)[acc.length+j]?=some (Zj8 o acc')
 | [],_,j,_,h=>by simp at h
 | o :: r,acc,0,a,h=>by
  simp at h;subst h
  exact ⟨acc,by rw [Uu,Zyn _ _ _ (by simp),bV,eK (Nat.le_refl _)];simp⟩
 | o :: r,acc,j+1,a,h=>by
  obtain ⟨acc',b⟩:=Zpf r (acc++[Zj8 o acc]) j a (by simpa using h)
  refine ⟨acc',?_⟩
  rw [Uu,← b,bT,aL];congr 1;omega
theorem Zsf {o:Oper} {acc:List Nat} {e:Edge} (he:e ∈ o.after) (hb:Region.binds .any e=true):Yg (Zj8 o acc) e.on=true:=by
 have mono:∀ (a:List Edge) (s j:Nat),Yg s j=true→Yg (a.foldl (fun s e=>bif Region.binds .any e then s||| 2 ^ e.on||| acc.getD e.on 0 else s) s) j=true:=by
  intro a
  induction a with
  | nil=>intro s j h;exact h
  | cons e a b=>
   intro s j h
   rw [gI]
   refine b _ j ?_
   cases Region.binds .any e with
   | false=>exact h
   | true=>simp only [cond_true,Yg,gT,Bool.or_eq_true];exact .inl (.inl h)
 have c:∀ (a:List Edge) (s:Nat),e ∈ a→Yg (a.foldl (fun s e=>bif Region.binds .any e then s||| 2 ^ e.on||| acc.getD e.on 0 else s) s) e.on=true:=by
  intro a
  induction a with
  | nil=>intro s h;cases h
  | cons g a b=>
   intro s h
   rw [gI]
   rcases bK.1 h with rfl | h
   ·refine mono a _ _ ?_
    rw [hb]
    simp only [cond_true,Yg,gT,Bool.or_eq_true,iO]
    exact .inl (.inr (by simp))
   ·exact b _ h
 exact c o.after.toList 0 (by simpa using he)

def Ub (P:Program) (m:Nat) (rd:Option Nat) (l:List Oper) (N R:Fr→World→Prop) (E:Nat→Fr→World→Prop) (π:List (Nat×Nat)) (C:World→Prop) (f:Fr):Prop:=
 ∀ a,Y8 m a f→V3 P rd l.toArray (T5 m N R E) π C a

def Zhb (l:List Oper):Bool:=l.zipIdx.all fun x=>x.1.after.all fun e=>!(Region.binds .any e)||aR e.on x.2

theorem Ym {i:Nat} {l:List Oper} {N R:Fr→World→Prop} {E:Nat→Fr→World→Prop} {f:Fr} {w:World} {col:Zg} (π:List (Nat×Nat)) (hm:P.follows .mixedOrders=true) (hB:(Zyq l π&&Zhb l)=true)
  (h:Ub P m rd l N R E π (fun w'=>Zl col w col w') f):Wp P m rd (.region i l.toArray true) N R E f w:=by
 intro a G
 simp only [Zyq,Bool.and_eq_true,cW,List.mem_range,List.any_eq_true,Nat.blt_eq] at hB
 obtain ⟨⟨⟨⟨⟨⟨H,I⟩,J⟩,K⟩,v⟩,L⟩,y⟩:=hB
 have v:=aQ v
 have r:∀ k j,Yg ((Uu l []).getD k 0) j=true→V9 l.toArray k j:=fun k j s=>by
  cases q:(Uu l [])[k]? with
  | none=>rw [aD,q] at s;simp [Yg] at s
  | some M=>rw [aD,q] at s;exact Zsg (l:=l) l [] (fun j=>by simp) (by simp) k M q j s
 refine wpIn_region_any hm (Z8m (ms:=Uu l []) r (fun j o n=>I o (List.mem_of_getElem? (by simpa using n))) (fun j o n O b=>Region.noSelect_spec H j o O b n) (fun i o n e A B=>⟨?_,?_⟩) (fun c a w S=>S)
  _ _ _ _ π (fun w'=>Zl col w col w') (Zza L) (by simp) (fun i=>?_) (fun i j u _=>?_) (by simp [v]) ((Zl.refl col w).drew) (h a G))
 ·simp only [Zhb,cW] at y
  have:=y (o,i) (by rw [List.mem_zipIdx_iff_getElem?];exact n)
  have g:=(Array.all_eq_true_iff_forall_mem.1 this) e A
  simpa [B] using g
 ·obtain ⟨T,g⟩:=Zpf l [] i o n
  simp only [List.length_nil,Nat.zero_add] at g
  rw [aD,g]
  exact Zsf A B
 ·constructor
  ·rintro ⟨k,q⟩
   have g:=K _ q
   have:i<(Array.replicate l.toArray.size false).size:=by simpa using g
   refine ⟨g,?_⟩
   simp only [Array.getD_eq_getD_getElem?,Array.getElem?_eq_getElem this,cO]
   simp
  ·rintro ⟨D,_⟩
   obtain ⟨x,U,F⟩:=J i D
   exact ⟨x.2,by rw [← aQ F];exact U⟩
 ·exfalso
  rcases bW i l.toArray.size with g | g
  ·have:i<(Array.replicate l.toArray.size false).size:=by simpa using g
   simp only [Array.getD_eq_getD_getElem?,Array.getElem?_eq_getElem this,cO] at u
   simp at u
  ·have V:(Array.replicate l.toArray.size false)[i]?=none:=Array.getElem?_eq_none (by simpa using g)
   rw [Array.getD_eq_getD_getElem?,V] at u
   simp at u

theorem Zt3 {o:Oper} {a:Act} {K:Act→World→Prop} {Q Q':Exit→Act→World→Prop} {r:Result Next} (hQ:∀ e a w,e≠.normal→Q e a w→Q' e a w) (h:o.uponIn (Yy rd) 0 P a K Q r):o.uponIn (Yy rd) 0 P a K Q' r:=by
 have g:LetsOut Q→LetsOut Q':=fun ⟨a,w,h⟩=>⟨a,w,hQ _ _ _ (by intro h;cases h) h⟩
 cases r with
 | ok n k=>
  cases n <;> simp only [Oper.uponIn] at h ⊢
  case enter f args=>
   refine ⟨h.1,CallsIn.mono h.2 fun e j b=>?_⟩
   cases e with
   | returned u=>exact b
   | panicked c=>exact hQ _ _ _ (by intro h;cases h) b
   | outgrown=>exact g b
  case round l f tmps assign body=>
   refine ⟨h.1,RoundIn.mono h.2 fun e j b=>?_⟩
   cases e with
   | returned u=>exact b
   | panicked c=>exact hQ _ _ _ (by intro h;cases h) b
   | outgrown=>exact g b
  all_goals exact h
 | halt x k=>
  cases x <;> simp only [Oper.uponIn] at h ⊢
  exact hQ _ _ _ (by intro h;cases h) h

section
variable {l:List Oper} {N R:Fr→World→Prop} {E:Nat→Fr→World→Prop} {f:Fr} {π:List (Nat×Nat)} {C:World→Prop} {i d t:Nat} {p:String} {af:Array Edge} {op:Op}
theorem Ub.ld {d:Nat} {v:Value} (h:f d=v) (k:Ub P m rd l N R E π C (Z3 f d v)):Ub P m rd l N R E π C f:=by rwa [Zkk h] at k
theorem Yf (h:∀ w,C w→N f w):Ub P m rd l N R E [] C f:=fun _ a w b=>⟨f,a,h w b⟩
theorem xv {v:Value} (ho:l[i]?=some ⟨some d,op,t,p,af,none⟩) (hd:aR d m=true) (hr:∀ w,C w→(execOp (ev f) ⟨some d,op,t,p,af,none⟩).run P w= .ok (.value v) w) (k:Ub P m rd l N R E π C (Z3 f d v)):
  Ub P m rd l N R E ((i,0) :: π) C f:=by
 intro a b
 simp only [V3]
 rw [if_neg (by decide)]
 unfold Vg
 have c:l.toArray[i]?=some ⟨some d,op,t,p,af,none⟩:=by simpa using ho
 simp only [c]
 exact .inl ⟨rfl,v,fun w e=>by rw [b.eval];exact hr w (e.resolve_left (by decide)),k _ (b.put (d:=some d) hd v)⟩
theorem xu {v:Value} (ho:l[i]?=some ⟨some d,op,t,p,af,none⟩) (hd:aR d m=true) (hr:∀ w,(execOp (ev f) ⟨some d,op,t,p,af,none⟩).run P w= .ok (.value v) w) (k:Ub P m rd l N R E π C (Z3 f d v)):
  Ub P m rd l N R E ((i,1) :: π) C f:=by
 intro a b
 simp only [V3]
 rw [if_neg (by decide)]
 unfold Vg
 have c:l.toArray[i]?=some ⟨some d,op,t,p,af,none⟩:=by simpa using ho
 simp only [c]
 exact .inl ⟨rfl,v,fun w _=>by rw [b.eval];exact hr w,k _ (b.put (d:=some d) hd v)⟩
theorem Z98 {K:Act→Prop} {a:Act} {j:Nat} {want:Bool} {dst:Option Nat} (ho:l[i]?=some ⟨dst,op,t,p,af,some (j,want)⟩) (hw:Region.wanted ⟨dst,op,t,p,af,some (j,want)⟩ (yielded l.toArray a.tmps)=false) (k:K (a.put dst undef)):Vg P l.toArray C i K a:=by
 unfold Vg
 have b:l.toArray[i]?=some ⟨dst,op,t,p,af,some (j,want)⟩:=by simpa using ho
 simp only [b]
 exact .inr ⟨hw,k⟩
theorem V1 {kd j:Nat} {want b:Bool} {dst:Option Nat} (d':Nat) (ho:l[i]?=some ⟨dst,op,t,p,af,some (j,want)⟩) (hd:Zdf m dst=true) (h1:(l.toArray[j]?).bind (·.dst)=some d') (h2:aR d' m=true) (h3:f d'= .bool b) (hb:(b==want)=false)
  (k:Ub P m rd l N R E π C (Zc6 f dst undef)):Ub P m rd l N R E ((i,kd) :: π) C f:=by
 intro a e
 have c:=Zg6 (o:=⟨dst,op,t,p,af,some (j,want)⟩) e rfl ⟨d',h1,h2,h3⟩
 rw [hb] at c
 have g:l.toArray[i]?=some ⟨dst,op,t,p,af,some (j,want)⟩:=by simpa using ho
 have n:=k _ (e.put hd undef)
 simp only [V3]
 split
 ·intro w q
  unfold wpOpIn
  simp only [g,c]
  exact ⟨fun _ _=>trivial,C,q,fun _ _ h=>h,n⟩
 ·exact Z98 ho c n
theorem Zg8 {v:Value} {j:Nat} {want b:Bool} (d':Nat) (ho:l[i]?=some ⟨some d,op,t,p,af,some (j,want)⟩) (hd:aR d m=true) (h1:(l.toArray[j]?).bind (·.dst)=some d') (h2:aR d' m=true) (h3:f d'= .bool b) (hb:(b==want)=true)
  (hr:∀ w,C w→(execOp (ev f) ⟨some d,op,t,p,af,none⟩).run P w= .ok (.value v) w) (k:Ub P m rd l N R E π C (Z3 f d v)):Ub P m rd l N R E ((i,0) :: π) C f:=by
 intro a e
 have c:=Zg6 (o:=⟨some d,op,t,p,af,some (j,want)⟩) e rfl ⟨d',h1,h2,h3⟩
 rw [hb] at c
 simp only [V3]
 rw [if_neg (by decide)]
 unfold Vg
 have g:l.toArray[i]?=some ⟨some d,op,t,p,af,some (j,want)⟩:=by simpa using ho
 simp only [g]
 exact .inl ⟨c,v,fun w c=>by rw [e.eval];exact hr w (c.resolve_left (by decide)),k _ (e.put (d:=some d) hd v)⟩
theorem Zkm {v:Value} {j:Nat} {want b:Bool} (d':Nat) (ho:l[i]?=some ⟨some d,op,t,p,af,some (j,want)⟩) (hd:aR d m=true) (h1:(l.toArray[j]?).bind (·.dst)=some d') (h2:aR d' m=true) (h3:f d'= .bool b) (hb:(b==want)=true)
  (hr:∀ w,(execOp (ev f) ⟨some d,op,t,p,af,none⟩).run P w= .ok (.value v) w) (k:Ub P m rd l N R E π C (Z3 f d v)):Ub P m rd l N R E ((i,1) :: π) C f:=by
 intro a c
 have e:=Zg6 (o:=⟨some d,op,t,p,af,some (j,want)⟩) c rfl ⟨d',h1,h2,h3⟩
 rw [hb] at e
 simp only [V3]
 rw [if_neg (by decide)]
 unfold Vg
 have g:l.toArray[i]?=some ⟨some d,op,t,p,af,some (j,want)⟩:=by simpa using ho
 simp only [g]
 exact .inl ⟨e,v,fun w _=>by rw [c.eval];exact hr w,k _ (c.put (d:=some d) hd v)⟩
theorem xe {kd:Nat} {o:Oper} (ho:l[i]?=some o) (hkd:Nat.ble 2 kd=true) (k:∀ w,C w→Zv P m rd l.toArray (fun f1 w1=>∃ C':World→Prop,C' w1∧(kd=3→∀ w,C' w→C w)∧Ub P m rd l N R E π C' f1) [o] f w):Ub P m rd l N R E ((i,kd) :: π) C f:=by
 intro a s
 simp only [V3]
 rw [if_pos (Nat.le_of_ble_eq_true hkd)]
 intro w u
 have g:=k w u a s (fun e b c=>e= .normal∧∃ C':World→Prop,C' c∧(kd=3→∀ w,C' w→C w)∧V3 P rd l.toArray (T5 m N R E) π C' b)
  (fun b A c v ⟨C',q1,x,y⟩=>⟨rfl,C',q1,x,y _ v⟩)
 have n:l.toArray[i]?=some o:=by simpa using ho
 unfold wpListIn at g
 unfold wpOpIn
 simp only [n]
 split
 ·rename_i j
  simp only [j,if_true] at g
  have q:o.wpIn (Yy rd) 0 P a w (fun b c=>∃ C':World→Prop,C' c∧(kd=3→∀ w,C' w→C w)∧V3 P rd l.toArray (T5 m N R E) π C' b) (fun e b c=>e= .normal∧∃ C':World→Prop,C' c∧(kd=3→∀ w,C' w→C w)∧V3 P rd l.toArray (T5 m N R E) π C' b):=
   Oper.wpIn_mono (fun b c h=>by simp only [wpListIn] at h;exact h.2) g
  exact ⟨q.1,Zt3 (fun e b c r h=>absurd h.1 r) q.2⟩
 ·rename_i j
  simp only [j] at g
  refine ⟨g.1,?_⟩
  have:=g.2
  simp only [wpListIn] at this
  exact this.2
end
end
end Go.Proofs.YtpkknichfgooaaaGreat
