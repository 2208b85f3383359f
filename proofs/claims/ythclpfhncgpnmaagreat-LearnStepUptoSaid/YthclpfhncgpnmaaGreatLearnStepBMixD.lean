/-
  A region that draws its order and turns the world, in which some reads look past what turns: its operations in one order that stands for all. Over any program.
-/
import Derived.Test.YthclpfhncgpnmaaGreatLearnStepBThree
namespace Go.Proofs.YthclpfhncgpnmaaGreat
open Go Go.RowKit
open Nat renaming blt→bE,beq→aP,eq_of_beq_eq_true→aU
open List renaming all_eq_true→cP,cons_append→cK,pairwise_cons→dJ,mem_cons→bL,mem_append→bI,any_eq_true→jR,getD_eq_getElem?_getD→aE
open Option renaming getD_some→dG
open Go.IntKind (i8 i16 i32 i64 u8 u16 u32 u64)

def Uj (k:Nat):Bool:=bE k 2||aP k 5
def Zh8 (l:List Oper) (ms:List Nat) (x y:Nat×Nat):Bool:=
 let a:=Yh (ms.getD y.1 0) x.1
 !(Yh (ms.getD x.1 0) y.1)&&!(aP x.1 y.1)&&(Uj x.2||a)&&(Uj y.2||(!(Uj x.2)||(a||(aP x.2 1||(aP y.2 3||(aP y.2 4&&aP x.2 5))))))&&
  (a||(match l[x.1]?,l[y.1]? with | some u,some v=>u.apart l.toArray v | _,_=>false))
def Zp8 (l:List Oper) (ms:List Nat):List (Nat×Nat)→Bool
 | []=>true
 | x :: r=>r.all (Zh8 l ms x)&&Zp8 l ms r
def Zyw (l:List Oper) (π:List (Nat×Nat)):Bool:=
 Region.noSelect l.toArray&&l.all (fun o=>W6 o.op)&&(List.range l.length).all (fun i=>π.any fun x=>aP x.1 i)&&π.all (fun x=>bE x.1 l.length)&&aP π.length l.length&&Zp8 l (Ui l []) π

section
variable {P:Program} {m:Nat} {rd:Option Nat} {ops:Array Oper} {Q:Exit→Act→World→Prop}
def Zov (k:Nat) (C D:World→Prop) (w:World):Prop:=k=1∨(k=0∧C w)∨(k=5∧D w)
theorem Z7g {k:Nat} {C D:World→Prop} {w:World} (hk:Uj k=true) (h:C w) (hD:D w):Zov k C D w:=by
 simp only [Uj,Bool.or_eq_true,Nat.blt_eq] at hk
 rcases hk with hk | hk
 ·rcases (show k=0∨k=1 by omega) with rfl | rfl
  ·exact .inr (.inl ⟨rfl,h⟩)
  ·exact .inl rfl
 ·exact .inr (.inr ⟨aU hk,hD⟩)
def Uf (P:Program) (rd:Option Nat) (ops:Array Oper) (Q:Exit→Act→World→Prop):List (Nat×Nat)→(World→Prop)→(World→Prop)→Act→Prop
 | [],C,_,a=>∀ w,C w→Q .normal a w
 | (i,k) :: r,C,D,a=>
  if Uj k=true then Ve P ops (Zov k C D) i (Uf P rd ops Q r C D) a
  else ∀ w,C w→wpOpIn (Yw rd) 0 P ops Q i (fun a' w'=>∃ C' D':World→Prop,C' w'∧(∀ w,C' w→D' w)∧(k=3→∀ w,C' w→C w)∧(k=3∨k=4→∀ w,D' w→D w)∧Uf P rd ops Q r C' D' a') a w

theorem Zzi {l:List Oper} {ms:List Nat}:∀ {π:List (Nat×Nat)},Zp8 l ms π=true→π.Pairwise fun x y=>Zh8 l ms x y=true
 | [],_=>.nil
 | x :: r,h=>by
  simp only [Zp8,Bool.and_eq_true,cP] at h
  exact .cons h.1 (Zzi h.2)
theorem Zp7 {l:List Oper} {ms:List Nat} {x y:Nat×Nat} (h:Zh8 l ms x y=true):
  Yh (ms.getD x.1 0) y.1=false∧x.1≠y.1∧(Uj x.2=false→Yh (ms.getD y.1 0) x.1=true)∧(Uj y.2=false→Uj x.2=true→Yh (ms.getD y.1 0) x.1=true∨x.2=1∨y.2=3∨(y.2=4∧x.2=5))∧
  (Yh (ms.getD y.1 0) x.1=true∨∃ u v,l[x.1]?=some u∧l[y.1]?=some v∧u.apart l.toArray v=true):=by
 simp only [Zh8,Bool.and_eq_true,Bool.not_eq_true',Bool.or_eq_true] at h
 obtain ⟨⟨⟨⟨o,k⟩,g⟩,b⟩,c⟩:=h
 refine ⟨o,fun e=>?_,fun j=>?_,fun q j=>?_,?_⟩
 ·rw [e] at k;simp at k
 ·rcases g with g | g
  ·rw [j] at g;cases g
  ·exact g
 ·rcases b with b | b | b | b | b | ⟨b,n⟩
  ·rw [q] at b;cases b
  ·rw [j] at b;cases b
  ·exact .inl b
  ·exact .inr (.inl (aU b))
  ·exact .inr (.inr (.inl (aU b)))
  ·exact .inr (.inr (.inr ⟨aU b,aU n⟩))
 ·rcases c with c | c
  ·exact .inl c
  ·right
   cases hu:l[x.1]? with
   | none=>rw [hu] at c;simp at c
   | some u=>
    cases hv:l[y.1]? with
    | none=>rw [hu,hv] at c;simp at c
    | some v=>rw [hu,hv] at c;exact ⟨u,v,rfl,rfl,c⟩

theorem Uf.pull {l:List Oper} {ms:List Nat} (hnd:∀ (j:Nat) (o:Oper),l.toArray[j]?=some o→W6 o.op=true) (hsel:∀ (j:Nat) (o:Oper),l.toArray[j]?=some o→∀ cs b,o.op≠.select cs b)
  (hQ:∀ c a w,¬ Q (.panic c) a w) (i k:Nat) (r2:List (Nat×Nat)):∀ (r1:List (Nat×Nat)) (C D:World→Prop) (a:Act) (w:World),(r1++(i,k) :: r2).Pairwise (fun x y=>Zh8 l ms x y=true)→(∀ x ∈ r1,Yh (ms.getD i 0) x.1=false)→C w→(∀ w,C w→D w)→
   Uf P rd l.toArray Q (r1++(i,k) :: r2) C D a→wpOpIn (Yw rd) 0 P l.toArray Q i (fun a' w'=>∃ C' D':World→Prop,C' w'∧(∀ w,C' w→D' w)∧((Uj k=true∨k=3)→∀ w,C' w→C w)∧((Uj k=true∨k=3∨k=4)→∀ w,D' w→D w)∧Uf P rd l.toArray Q (r1++r2) C' D' a') a w:=by
 intro r1
 induction r1 with
 | nil=>
  intro C D a w _ _ hC F h
  simp only [List.nil_append,Uf] at h
  split at h
  ·rename_i q
   exact wpOpIn_mono (fun a' w' ⟨H,I⟩=>⟨C,D,H ▸ hC,F,fun _ _ h=>h,fun _ _ h=>h,I⟩) (Zty hnd (Z7g q hC (F _ hC)) h)
  ·rename_i q
   exact wpOpIn_mono (fun a' w' ⟨C',D',H,I,O,S,J⟩=>⟨C',D',H,I,fun h=>O (h.resolve_left q),fun h=>S (h.resolve_left q),J⟩) (h w hC)
 | cons x r ih=>
  intro C D a w T Y hC F h
  obtain ⟨x,kx⟩:=x
  simp only [cK,dJ] at T
  obtain ⟨q1,q2,Z,U,q5⟩:=Zp7 (T.1 (i,k) (by simp))
  have g:=Y (x,kx) (by simp)
  simp only at q1 q2 Z U q5 g
  have G:Uj kx=true:=by
   cases q:Uj kx with
   | true=>rfl
   | false=>rw [Z q] at g;cases g
  obtain ⟨u,v,hu,hv,a1⟩:=q5.resolve_left (by rw [g];simp)
  have K:l.toArray[x]?=some u:=by simpa using hu
  have M:l.toArray[i]?=some v:=by simpa using hv
  simp only [cK,Uf] at h ⊢
  rw [if_pos G] at h
  unfold Ve at h
  simp only [K] at h
  have fin:∀ (n:Value),((Region.wanted u (yielded l.toArray a.tmps)=true∧∀ w,Zov kx C D w→(execOp a.eval u).run P w= .ok (.value n) w)∨(Region.wanted u (yielded l.toArray a.tmps)=false∧n=undef))→
    Uf P rd l.toArray Q (r++(i,k) :: r2) C D (a.put u.dst n)→wpOpIn (Yw rd) 0 P l.toArray Q i (fun a' w'=>∃ C' D':World→Prop,C' w'∧(∀ w,C' w→D' w)∧((Uj k=true∨k=3)→∀ w,C' w→C w)∧((Uj k=true∨k=3∨k=4)→∀ w,D' w→D w)∧
     if Uj kx=true then Ve P l.toArray (Zov kx C' D') x (Uf P rd l.toArray Q (r++r2) C' D') a'
     else ∀ w,C' w→wpOpIn (Yw rd) 0 P l.toArray Q x (fun a' w'=>∃ C'' D'':World→Prop,C'' w'∧(∀ w,C'' w→D'' w)∧(kx=3→∀ w,C'' w→C' w)∧(kx=3∨kx=4→∀ w,D'' w→D' w)∧Uf P rd l.toArray Q (r++r2) C'' D'' a') a' w) a w:=by
   intro n V hm
   have H:=ih C D (a.put u.dst n) w T.2 (fun y hy=>Y y (by simp [hy])) hC F hm
   have I:=Zus hnd (hsel x u K) (hsel i v M) hQ M a1 H
   refine wpOpIn_mono (fun a' w' ⟨⟨e1,e2⟩,C',D',O,S,J,L,h7⟩=>⟨C',D',O,S,J,L,?_⟩) I
   rw [if_pos G]
   unfold Ve
   simp only [K]
   rw [e2,e1]
   rcases V with ⟨B,W⟩ | ⟨B,rfl⟩
   ·refine .inl ⟨B,n,fun w A=>W w ?_,h7⟩
    rcases A with A | ⟨a3,A⟩ | ⟨a4,A⟩
    ·exact .inl A
    ·refine .inr (.inl ⟨a3,?_⟩)
     cases q:Uj k with
     | true=>exact J (.inl q) w A
     | false=>
      rcases U q G with s | s | s | s
      ·rw [s] at g;cases g
      ·omega
      ·exact J (.inr s) w A
      ·omega
    ·refine .inr (.inr ⟨a4,?_⟩)
     cases q:Uj k with
     | true=>exact L (.inl q) w A
     | false=>
      rcases U q G with s | s | s | s
      ·rw [s] at g;cases g
      ·omega
      ·exact L (.inr (.inl s)) w A
      ·exact L (.inr (.inr s.1)) w A
   ·exact .inr ⟨B,h7⟩
  rcases h with ⟨B,n,W,X⟩ | ⟨B,X⟩
  ·exact fin n (.inl ⟨B,W⟩) X
  ·exact fin undef (.inr ⟨B,rfl⟩) X

theorem Z9q {l:List Oper} {ms:List Nat} (hms:∀ k j,Yh (ms.getD k 0) j=true→V1 l.toArray k j) (hnd:∀ (j:Nat) (o:Oper),l.toArray[j]?=some o→W6 o.op=true) (hsel:∀ (j:Nat) (o:Oper),l.toArray[j]?=some o→∀ cs b,o.op≠.select cs b)
  (hdir:∀ (i:Nat) (o:Oper),l[i]?=some o→∀ e ∈ o.after,Region.binds .any e=true→e.on<i∧Yh (ms.getD i 0) e.on=true) (hQ:∀ c a w,¬ Q (.panic c) a w):
  ∀ (fuel:Nat) (listed:Array Bool) (a:Act) (w:World) (rem:List (Nat×Nat)) (C D:World→Prop),rem.Pairwise (fun x y=>Zh8 l ms x y=true)→listed.size=l.length→
   (∀ i,(∃ k,(i,k) ∈ rem)↔i<l.length∧listed.getD i true=false)→(∀ i j,listed.getD i false=true→V1 l.toArray i j→listed.getD j false=true)→rem.length≤fuel→C w→(∀ w,C w→D w)→Uf P rd l.toArray Q rem C D a→
   wpAnyIn (Yw rd) 0 P .any l.toArray Q fuel listed a w:=by
 -- who may come up, of what is left
 have T:∀ (listed:Array Bool) (rem:List (Nat×Nat)),listed.size=l.length→rem.Pairwise (fun x y=>Zh8 l ms x y=true)→(∀ i,(∃ k,(i,k) ∈ rem)↔i<l.length∧listed.getD i true=false)→
   Region.ready .any l.toArray listed=[]→rem=[]:=by
  intro listed rem U B u Z
  cases rem with
  | nil=>rfl
  | cons x r=>
   exfalso
   have n:=(u x.1).1 ⟨x.2,by simp⟩
   have H:x.1 ∈ Region.ready .any l.toArray listed:=by
    refine mem_ready.2 ⟨n.2,l[x.1]'n.1,by simp,fun e I F=>?_⟩
    obtain ⟨s,hd⟩:=hdir x.1 (l[x.1]'n.1) (by simp) e I F
    cases hl:listed.getD e.on false with
    | true=>rfl
    | false=>
     exfalso
     obtain ⟨k,J⟩:=(u e.on).2 ⟨by omega,by rw [Zix (by omega) true false];exact hl⟩
     rcases bL.1 J with h | h
     ·rw [← h] at s;exact Nat.lt_irrefl _ s
     ·have:=(Zp7 ((dJ.1 B).1 (e.on,k) h)).1
      rw [hd] at this;cases this
   rw [Z] at H;cases H
 intro fuel
 induction fuel with
 | zero=>
  intro listed a w rem C D B U u v K hC X h
  obtain rfl:rem=[]:=List.eq_nil_of_length_eq_zero (by omega)
  refine ⟨?_,h w hC⟩
  rw [List.eq_nil_iff_forall_not_mem]
  intro j G
  obtain ⟨h1,o,L,_⟩:=mem_ready.1 G
  have s:j<l.length:=by simpa using (Array.getElem?_eq_some_iff.1 L).1
  obtain ⟨k,J⟩:=(u j).2 ⟨s,h1⟩
  cases J
 | succ fuel ih=>
  intro listed a w rem C D B U u v K hC X h
  refine ⟨fun Z=>?_,fun i hi=>?_⟩
  ·obtain rfl:=T listed rem U B u Z
   exact h w hC
  ·obtain ⟨h1,o,L,M⟩:=mem_ready.1 hi
   have s:i<l.length:=by simpa using (Array.getElem?_eq_some_iff.1 L).1
   obtain ⟨k,J⟩:=(u i).2 ⟨s,h1⟩
   obtain ⟨r1,r2,rfl⟩:=List.append_of_mem J
   have O:∀ j,V1 l.toArray i j→listed.getD j false=true:=by
    intro j G
    cases G with
    | one A I F S=>rw [L] at A;cases A;rw [← S];exact M _ I F
    | more A I F S g=>rw [L] at A;cases A;exact v _ j (by rw [← S];exact M _ I F) g
   have Y:=List.pairwise_append.1 B
   have a3:∀ x ∈ r1,x.1≠i:=fun x n=>(Zp7 (Y.2.2 x n (i,k) (by simp))).2.1
   have a4:∀ x ∈ r2,x.1≠i:=fun x n=>Ne.symm (Zp7 ((dJ.1 Y.2.1).1 x n)).2.1
   have V:=Uf.pull (rd:=rd) hnd hsel hQ i k r2 r1 C D a w B (fun x n=>by
    cases F:Yh (ms.getD i 0) x.1 with
    | false=>rfl
    | true=>
     exfalso
     have h2:=O x.1 (hms i x.1 F)
     have h3:=(u x.1).1 ⟨x.2,by simp [n]⟩
     rw [Zix (by omega) true false,h2] at h3
     cases h3.2) hC X h
   refine wpOpIn_mono (fun a' w' ⟨C',D',q1,q2,_,_,q3⟩=>ih _ a' w' (r1++r2) C' D' (B.sublist (List.Sublist.append (List.Sublist.refl _) (List.sublist_cons_self _ _))) (by simpa using U) (fun j=>?_) (fun x j n G=>?_) (by simp at K ⊢;omega) q1 q2 q3) V
   ·by_cases hji:j=i
    ·subst hji
     constructor
     ·rintro ⟨W,g⟩
      rcases bI.1 g with q | q
      ·exact absurd rfl (a3 _ q)
      ·exact absurd rfl (a4 _ q)
     ·rintro ⟨_,q⟩
      have:j<listed.size:=by omega
      simp [Array.getD_eq_getD_getElem?,this] at q
    ·rw [getD_set_ne true (Ne.symm hji),← u j]
     constructor
     ·rintro ⟨W,g⟩
      refine ⟨W,?_⟩
      simp only [bI,bL] at g ⊢
      exact g.elim .inl fun h=>.inr (.inr h)
     ·rintro ⟨W,g⟩
      refine ⟨W,?_⟩
      simp only [bI,bL] at g ⊢
      rcases g with q | q | q
      ·exact .inl q
      ·exact absurd (congrArg Prod.fst q) hji
      ·exact .inr q
   ·by_cases hxi:x=i
    ·subst hxi;exact getD_set_true (O j G)
    ·rw [getD_set_ne false (Ne.symm hxi)] at n
     exact getD_set_true (v x j n G)

def Zbd (P:Program) (m:Nat) (rd:Option Nat) (l:List Oper) (N R:Fr→World→Prop) (E:Nat→Fr→World→Prop) (π:List (Nat×Nat)) (C D:World→Prop) (f:Fr):Prop:=
 ∀ a,Y9 m a f→Uf P rd l.toArray (Tr m N R E) π C D a

theorem Zrf {i:Nat} {l:List Oper} {N R:Fr→World→Prop} {E:Nat→Fr→World→Prop} {f:Fr} {w:World} {col:Ze} (p:Nat→Bool) (π:List (Nat×Nat)) (hm:P.follows .mixedOrders=true) (hB:(Zyw l π&&Zim l)=true)
  (h:Zbd P m rd l N R E π (fun w'=>Zj col w col w') (fun w'=>∃ c',Zu p col w c' w') f):Wp P m rd (.region i l.toArray true) N R E f w:=by
 intro a I
 simp only [Zyw,Bool.and_eq_true,cP,List.mem_range,jR,Nat.blt_eq] at hB
 obtain ⟨⟨⟨⟨⟨⟨J,K⟩,L⟩,M⟩,y⟩,O⟩,A⟩:=hB
 have y:=aU y
 have s:∀ k j,Yh ((Ui l []).getD k 0) j=true→V1 l.toArray k j:=fun k j u=>by
  cases q:(Ui l [])[k]? with
  | none=>rw [aE,q] at u;simp [Yh] at u
  | some S=>rw [aE,q] at u;exact Zs1 (l:=l) l [] (fun j=>by simp) (by simp) k S q j u
 refine wpIn_region_any hm (Z9q (ms:=Ui l []) s (fun j o n=>K o (List.mem_of_getElem? (by simpa using n))) (fun j o n T b=>Region.noSelect_spec J j o T b n) (fun i o n e B F=>⟨?_,?_⟩) (fun c a w U=>U)
  _ _ _ _ π (fun w'=>Zj col w col w') (fun w'=>∃ c',Zu p col w c' w') (Zzi O) (by simp) (fun i=>?_) (fun i j v _=>?_) (by simp [y]) ((Zj.refl col w).drew) (fun _ h=>⟨_,h.toP⟩) (h a I))
 ·simp only [Zim,cP] at A
  have:=A (o,i) (by rw [List.mem_zipIdx_iff_getElem?];exact n)
  have g:=(Array.all_eq_true_iff_forall_mem.1 this) e B
  simpa [F] using g
 ·obtain ⟨V,g⟩:=Zp2 l [] i o n
  simp only [List.length_nil,Nat.zero_add] at g
  rw [aE,g]
  exact Zs0 B F
 ·constructor
  ·rintro ⟨k,q⟩
   have g:=M _ q
   have:i<(Array.replicate l.toArray.size false).size:=by simpa using g
   refine ⟨g,?_⟩
   simp only [Array.getD_eq_getD_getElem?,Array.getElem?_eq_getElem this,dG]
   simp
  ·rintro ⟨G,_⟩
   obtain ⟨x,W,H⟩:=L i G
   exact ⟨x.2,by rw [← aU H];exact W⟩
 ·exfalso
  rcases Nat.lt_or_ge i l.toArray.size with g | g
  ·have:i<(Array.replicate l.toArray.size false).size:=by simpa using g
   simp only [Array.getD_eq_getD_getElem?,Array.getElem?_eq_getElem this,dG] at v
   simp at v
  ·have X:(Array.replicate l.toArray.size false)[i]?=none:=Array.getElem?_eq_none (by simpa using g)
   rw [Array.getD_eq_getD_getElem?,X] at v
   simp at v

section
variable {l:List Oper} {N R:Fr→World→Prop} {E:Nat→Fr→World→Prop} {f:Fr} {π:List (Nat×Nat)} {C D:World→Prop} {i d t:Nat} {p:String} {af:Array Edge} {op:Op}
theorem Zrh (h:∀ w,C w→N f w):Zbd P m rd l N R E [] C D f:=fun _ b w c=>⟨f,b,h w c⟩
theorem Zlh {v:Value} (ho:l[i]?=some ⟨some d,op,t,p,af,none⟩) (hd:bE d m=true) (hr:∀ w,C w→(execOp (ev f) ⟨some d,op,t,p,af,none⟩).run P w= .ok (.value v) w) (k:Zbd P m rd l N R E π C D (Z8 f d v)):
  Zbd P m rd l N R E ((i,0) :: π) C D f:=by
 intro a b
 simp only [Uf]
 rw [if_pos (by decide)]
 unfold Ve
 have c:l.toArray[i]?=some ⟨some d,op,t,p,af,none⟩:=by simpa using ho
 simp only [c]
 exact .inl ⟨rfl,v,fun w g=>by rw [b.eval];exact hr w (g.elim (fun h=>absurd h (by decide)) fun h=>h.elim And.right fun h=>absurd h.1 (by decide)),k _ (b.put (d:=some d) hd v)⟩
theorem Zri {v:Value} (ho:l[i]?=some ⟨some d,op,t,p,af,none⟩) (hd:bE d m=true) (hr:∀ w,D w→(execOp (ev f) ⟨some d,op,t,p,af,none⟩).run P w= .ok (.value v) w) (k:Zbd P m rd l N R E π C D (Z8 f d v)):
  Zbd P m rd l N R E ((i,5) :: π) C D f:=by
 intro a b
 simp only [Uf]
 rw [if_pos (by decide)]
 unfold Ve
 have c:l.toArray[i]?=some ⟨some d,op,t,p,af,none⟩:=by simpa using ho
 simp only [c]
 exact .inl ⟨rfl,v,fun w g=>by rw [b.eval];exact hr w (g.elim (fun h=>absurd h (by decide)) fun h=>h.elim (fun h=>absurd h.1 (by decide)) And.right),k _ (b.put (d:=some d) hd v)⟩
theorem Tm {v:Value} (ho:l[i]?=some ⟨some d,op,t,p,af,none⟩) (hd:bE d m=true) (hr:∀ w,(execOp (ev f) ⟨some d,op,t,p,af,none⟩).run P w= .ok (.value v) w) (k:Zbd P m rd l N R E π C D (Z8 f d v)):
  Zbd P m rd l N R E ((i,1) :: π) C D f:=by
 intro a b
 simp only [Uf]
 rw [if_pos (by decide)]
 unfold Ve
 have c:l.toArray[i]?=some ⟨some d,op,t,p,af,none⟩:=by simpa using ho
 simp only [c]
 exact .inl ⟨rfl,v,fun w g=>by rw [b.eval];exact hr w,k _ (b.put (d:=some d) hd v)⟩
theorem T7 {kd:Nat} {o:Oper} (ho:l[i]?=some o) (hkd:Uj kd=false) (k:∀ w,C w→Zy P m rd l.toArray (fun f1 w1=>∃ C' D':World→Prop,C' w1∧(∀ w,C' w→D' w)∧(kd=3→∀ w,C' w→C w)∧(kd=3∨kd=4→∀ w,D' w→D w)∧Zbd P m rd l N R E π C' D' f1) [o] f w):Zbd P m rd l N R E ((i,kd) :: π) C D f:=by
 intro a s
 simp only [Uf]
 rw [if_neg (by rw [hkd];decide)]
 intro w hC
 have b:=k w hC a s (fun e c w1=>e= .normal∧∃ C' D':World→Prop,C' w1∧(∀ w,C' w→D' w)∧(kd=3→∀ w,C' w→C w)∧(kd=3∨kd=4→∀ w,D' w→D w)∧Uf P rd l.toArray (Tr m N R E) π C' D' c)
  (fun c B w' u ⟨C',D',q1,v,x,y,A⟩=>⟨rfl,C',D',q1,v,x,y,A _ u⟩)
 have j:l.toArray[i]?=some o:=by simpa using ho
 unfold wpListIn at b
 unfold wpOpIn
 simp only [j]
 split
 ·rename_i g
  simp only [g,if_true] at b
  have n:=Oper.wpIn_mono (K':=fun c w1=>∃ C' D':World→Prop,C' w1∧(∀ w,C' w→D' w)∧(kd=3→∀ w,C' w→C w)∧(kd=3∨kd=4→∀ w,D' w→D w)∧Uf P rd l.toArray (Tr m N R E) π C' D' c) (fun c w' h=>by simp only [wpListIn] at h;exact h.2) b
  exact ⟨n.1,Zup (fun e c w' q h=>absurd h.1 q) n.2⟩
 ·rename_i g
  simp only [g] at b
  refine ⟨b.1,?_⟩
  have:=b.2
  simp only [wpListIn] at this
  exact this.2
end
end
/-! reads that look past what turns -/
section
variable {α:Type} {r:Za α} {e i:Nat} {col:Ze} {w w':World} {xs:List α} {a:Option Addr} {cap:Nat} {p:Nat→Bool}
theorem Zd.dk {g:Nat} {cs:Array Value} (h:Zd e i col w g cs) (hD:∃ c',Zu p col w c' w') (_:p 0=false) (hi:p i=false):Zd e i hD.choose w' g cs:=h.kpp hD.choose_spec hi
end
theorem Ztc {L:List Nat} {c x:Nat} (h:pS L c=true) (hx:pS L x=false):x≠c:=fun e=>by rw [e,h] at hx;cases hx
theorem Zqg {L:List Nat} {c d:Nat} (h:(pS L c&&pS L d)=true):∀ x,pS L x=false→p2 c d x=false:=fun x b=>by
 rw [Bool.and_eq_true] at h
 exact Xae (Ztc h.1 b) (Ztc h.2 b)
theorem Zqh {L l:List Nat} (h:l.all (pS L)=true):∀ x,pS L x=false→pS l x=false:=fun x g=>by
 cases hb:pS l x with
 | false=>rfl
 | true=>
  obtain ⟨c,j,b⟩:=jR.1 hb
  have:=cP.1 h c j
  exact absurd (aU b) (Ztc this g)
end Go.Proofs.YthclpfhncgpnmaaGreat
