/-
  A region that draws its order and turns the world, in which some reads look past what turns: its operations in one order that stands for all. Over any program.
-/
import Derived.Test.YtpkknichfgooaaaGreatTopBitsBThree
namespace Go.Proofs.YtpkknichfgooaaaGreat
open Go Go.RowKit
open Nat renaming blt→aR,beq→aH,eq_of_beq_eq_true→aQ
open List renaming all_eq_true→cW,cons_append→cK,pairwise_cons→cT,mem_cons→bK,mem_append→aY,getD_eq_getElem?_getD→aD
open Option renaming getD_some→cO
open Go.IntKind (i8 i16 i32 i64 u8 u16 u32 u64)

def Uw (k:Nat):Bool:=aR k 2||aH k 5
def Zgw (l:List Oper) (ms:List Nat) (x y:Nat×Nat):Bool:=
 let a:=Yg (ms.getD y.1 0) x.1
 !(Yg (ms.getD x.1 0) y.1)&&!(aH x.1 y.1)&&(Uw x.2||a)&&(Uw y.2||(!(Uw x.2)||(a||(aH x.2 1||(aH y.2 3||(aH y.2 4&&aH x.2 5))))))&&
  (a||(match l[x.1]?,l[y.1]? with | some u,some v=>u.apart l.toArray v | _,_=>false))
def Zpk (l:List Oper) (ms:List Nat):List (Nat×Nat)→Bool
 | []=>true
 | x :: r=>r.all (Zgw l ms x)&&Zpk l ms r
def Zyr (l:List Oper) (π:List (Nat×Nat)):Bool:=
 Region.noSelect l.toArray&&l.all (fun o=>W7 o.op)&&(List.range l.length).all (fun i=>π.any fun x=>aH x.1 i)&&π.all (fun x=>aR x.1 l.length)&&aH π.length l.length&&Zpk l (Uu l []) π

section
variable {P:Program} {m:Nat} {rd:Option Nat} {ops:Array Oper} {Q:Exit→Act→World→Prop}
def Zoa (k:Nat) (C D:World→Prop) (w:World):Prop:=k=1∨(k=0∧C w)∨(k=5∧D w)
theorem Z5y {k:Nat} {C D:World→Prop} {w:World} (hk:Uw k=true) (h:C w) (hD:D w):Zoa k C D w:=by
 simp only [Uw,Bool.or_eq_true,Nat.blt_eq] at hk
 rcases hk with hk | hk
 ·rcases (show k=0∨k=1 by omega) with rfl | rfl
  ·exact .inr (.inl ⟨rfl,h⟩)
  ·exact .inl rfl
 ·exact .inr (.inr ⟨aQ hk,hD⟩)
def Uo (P:Program) (rd:Option Nat) (ops:Array Oper) (Q:Exit→Act→World→Prop):List (Nat×Nat)→(World→Prop)→(World→Prop)→Act→Prop
 | [],C,_,a=>∀ w,C w→Q .normal a w
 | (i,k) :: r,C,D,a=>
  if Uw k=true then Vg P ops (Zoa k C D) i (Uo P rd ops Q r C D) a
  else ∀ w,C w→wpOpIn (Yy rd) 0 P ops Q i (fun a' w'=>∃ C' D':World→Prop,C' w'∧(∀ w,C' w→D' w)∧(k=3→∀ w,C' w→C w)∧(k=3∨k=4→∀ w,D' w→D w)∧Uo P rd ops Q r C' D' a') a w

theorem Zy8 {l:List Oper} {ms:List Nat}:∀ {π:List (Nat×Nat)},Zpk l ms π=true→π.Pairwise fun x y=>Zgw l ms x y=true
 | [],_=>.nil
 | x :: r,h=>by
  simp only [Zpk,Bool.and_eq_true,cW] at h
  exact .cons h.1 (Zy8 h.2)
theorem Zpj {l:List Oper} {ms:List Nat} {x y:Nat×Nat} (h:Zgw l ms x y=true):
  Yg (ms.getD x.1 0) y.1=false∧x.1≠y.1∧(Uw x.2=false→Yg (ms.getD y.1 0) x.1=true)∧(Uw y.2=false→Uw x.2=true→Yg (ms.getD y.1 0) x.1=true∨x.2=1∨y.2=3∨(y.2=4∧x.2=5))∧
  (Yg (ms.getD y.1 0) x.1=true∨∃ u v,l[x.1]?=some u∧l[y.1]?=some v∧u.apart l.toArray v=true):=by
 simp only [Zgw,Bool.and_eq_true,Bool.not_eq_true',Bool.or_eq_true] at h
 obtain ⟨⟨⟨⟨o,k⟩,g⟩,b⟩,c⟩:=h
 refine ⟨o,fun e=>?_,fun j=>?_,fun q j=>?_,?_⟩
 ·rw [e] at k;simp at k
 ·rcases g with g | g
  ·rw [j] at g;cases g
  ·exact g
 ·rcases b with b | b | b | b | b | ⟨b,n⟩
  ·rw [q] at b;cases b
  ·rw [j] at b;cases b
  ·exact .inl b
  ·exact .inr (.inl (aQ b))
  ·exact .inr (.inr (.inl (aQ b)))
  ·exact .inr (.inr (.inr ⟨aQ b,aQ n⟩))
 ·rcases c with c | c
  ·exact .inl c
  ·right
   cases hu:l[x.1]? with
   | none=>rw [hu] at c;simp at c
   | some u=>
    cases hv:l[y.1]? with
    | none=>rw [hu,hv] at c;simp at c
    | some v=>rw [hu,hv] at c;exact ⟨u,v,rfl,rfl,c⟩

theorem Uo.pull {l:List Oper} {ms:List Nat} (hnd:∀ (j:Nat) (o:Oper),l.toArray[j]?=some o→W7 o.op=true) (hsel:∀ (j:Nat) (o:Oper),l.toArray[j]?=some o→∀ cs b,o.op≠.select cs b)
  (hQ:∀ c a w,¬ Q (.panic c) a w) (i k:Nat) (r2:List (Nat×Nat)):∀ (r1:List (Nat×Nat)) (C D:World→Prop) (a:Act) (w:World),(r1++(i,k) :: r2).Pairwise (fun x y=>Zgw l ms x y=true)→(∀ x ∈ r1,Yg (ms.getD i 0) x.1=false)→C w→(∀ w,C w→D w)→
   Uo P rd l.toArray Q (r1++(i,k) :: r2) C D a→wpOpIn (Yy rd) 0 P l.toArray Q i (fun a' w'=>∃ C' D':World→Prop,C' w'∧(∀ w,C' w→D' w)∧((Uw k=true∨k=3)→∀ w,C' w→C w)∧((Uw k=true∨k=3∨k=4)→∀ w,D' w→D w)∧Uo P rd l.toArray Q (r1++r2) C' D' a') a w:=by
 intro r1
 induction r1 with
 | nil=>
  intro C D a w _ _ H F h
  simp only [List.nil_append,Uo] at h
  split at h
  ·rename_i q
   exact wpOpIn_mono (fun a' w' ⟨I,J⟩=>⟨C,D,I ▸ H,F,fun _ _ h=>h,fun _ _ h=>h,J⟩) (Ztg hnd (Z5y q H (F _ H)) h)
  ·rename_i q
   exact wpOpIn_mono (fun a' w' ⟨C',D',I,J,S,T,K⟩=>⟨C',D',I,J,fun h=>S (h.resolve_left q),fun h=>T (h.resolve_left q),K⟩) (h w H)
 | cons x r ih=>
  intro C D a w U Z H F h
  obtain ⟨x,kx⟩:=x
  simp only [cK,cT] at U
  obtain ⟨q1,q2,q3,V,q5⟩:=Zpj (U.1 (i,k) (by simp))
  have g:=Z (x,kx) (by simp)
  simp only at q1 q2 q3 V q5 g
  have G:Uw kx=true:=by
   cases q:Uw kx with
   | true=>rfl
   | false=>rw [q3 q] at g;cases g
  obtain ⟨u,v,hu,hv,a2⟩:=q5.resolve_left (by rw [g];simp)
  have L:l.toArray[x]?=some u:=by simpa using hu
  have O:l.toArray[i]?=some v:=by simpa using hv
  simp only [cK,Uo] at h ⊢
  rw [if_pos G] at h
  unfold Vg at h
  simp only [L] at h
  have fin:∀ (n:Value),((Region.wanted u (yielded l.toArray a.tmps)=true∧∀ w,Zoa kx C D w→(execOp a.eval u).run P w= .ok (.value n) w)∨(Region.wanted u (yielded l.toArray a.tmps)=false∧n=undef))→
    Uo P rd l.toArray Q (r++(i,k) :: r2) C D (a.put u.dst n)→wpOpIn (Yy rd) 0 P l.toArray Q i (fun a' w'=>∃ C' D':World→Prop,C' w'∧(∀ w,C' w→D' w)∧((Uw k=true∨k=3)→∀ w,C' w→C w)∧((Uw k=true∨k=3∨k=4)→∀ w,D' w→D w)∧
     if Uw kx=true then Vg P l.toArray (Zoa kx C' D') x (Uo P rd l.toArray Q (r++r2) C' D') a'
     else ∀ w,C' w→wpOpIn (Yy rd) 0 P l.toArray Q x (fun a' w'=>∃ C'' D'':World→Prop,C'' w'∧(∀ w,C'' w→D'' w)∧(kx=3→∀ w,C'' w→C' w)∧(kx=3∨kx=4→∀ w,D'' w→D' w)∧Uo P rd l.toArray Q (r++r2) C'' D'' a') a' w) a w:=by
   intro n W hm
   have I:=ih C D (a.put u.dst n) w U.2 (fun y hy=>Z y (by simp [hy])) H F hm
   have J:=Zt9 hnd (hsel x u L) (hsel i v O) hQ O a2 I
   refine wpOpIn_mono (fun a' w' ⟨⟨e1,e2⟩,C',D',S,T,K,M,h7⟩=>⟨C',D',S,T,K,M,?_⟩) J
   rw [if_pos G]
   unfold Vg
   simp only [L]
   rw [e2,e1]
   rcases W with ⟨B,X⟩ | ⟨B,rfl⟩
   ·refine .inl ⟨B,n,fun w A=>X w ?_,h7⟩
    rcases A with A | ⟨a4,A⟩ | ⟨a5,A⟩
    ·exact .inl A
    ·refine .inr (.inl ⟨a4,?_⟩)
     cases q:Uw k with
     | true=>exact K (.inl q) w A
     | false=>
      rcases V q G with s | s | s | s
      ·rw [s] at g;cases g
      ·omega
      ·exact K (.inr s) w A
      ·omega
    ·refine .inr (.inr ⟨a5,?_⟩)
     cases q:Uw k with
     | true=>exact M (.inl q) w A
     | false=>
      rcases V q G with s | s | s | s
      ·rw [s] at g;cases g
      ·omega
      ·exact M (.inr (.inl s)) w A
      ·exact M (.inr (.inr s.1)) w A
   ·exact .inr ⟨B,h7⟩
  rcases h with ⟨B,n,X,Y⟩ | ⟨B,Y⟩
  ·exact fin n (.inl ⟨B,X⟩) Y
  ·exact fin undef (.inr ⟨B,rfl⟩) Y

theorem Z8k {l:List Oper} {ms:List Nat} (hms:∀ k j,Yg (ms.getD k 0) j=true→V9 l.toArray k j) (hnd:∀ (j:Nat) (o:Oper),l.toArray[j]?=some o→W7 o.op=true) (hsel:∀ (j:Nat) (o:Oper),l.toArray[j]?=some o→∀ cs b,o.op≠.select cs b)
  (hdir:∀ (i:Nat) (o:Oper),l[i]?=some o→∀ e ∈ o.after,Region.binds .any e=true→e.on<i∧Yg (ms.getD i 0) e.on=true) (hQ:∀ c a w,¬ Q (.panic c) a w):
  ∀ (fuel:Nat) (listed:Array Bool) (a:Act) (w:World) (rem:List (Nat×Nat)) (C D:World→Prop),rem.Pairwise (fun x y=>Zgw l ms x y=true)→listed.size=l.length→
   (∀ i,(∃ k,(i,k) ∈ rem)↔i<l.length∧listed.getD i true=false)→(∀ i j,listed.getD i false=true→V9 l.toArray i j→listed.getD j false=true)→rem.length≤fuel→C w→(∀ w,C w→D w)→Uo P rd l.toArray Q rem C D a→
   wpAnyIn (Yy rd) 0 P .any l.toArray Q fuel listed a w:=by
 -- who may come up, of what is left
 have T:∀ (listed:Array Bool) (rem:List (Nat×Nat)),listed.size=l.length→rem.Pairwise (fun x y=>Zgw l ms x y=true)→(∀ i,(∃ k,(i,k) ∈ rem)↔i<l.length∧listed.getD i true=false)→
   Region.ready .any l.toArray listed=[]→rem=[]:=by
  intro listed rem U B u h0
  cases rem with
  | nil=>rfl
  | cons x r=>
   exfalso
   have n:=(u x.1).1 ⟨x.2,by simp⟩
   have H:x.1 ∈ Region.ready .any l.toArray listed:=by
    refine mem_ready.2 ⟨n.2,l[x.1]'n.1,by simp,fun e I F=>?_⟩
    obtain ⟨s,hd⟩:=hdir x.1 (l[x.1]'n.1) (by simp) e I F
    cases hl:listed.getD e.on false with
    | true=>rfl
    | false=>
     exfalso
     obtain ⟨k,J⟩:=(u e.on).2 ⟨by omega,by rw [Zho (by omega) true false];exact hl⟩
     rcases bK.1 J with h | h
     ·rw [← h] at s;exact Nat.lt_irrefl _ s
     ·have:=(Zpj ((cT.1 B).1 (e.on,k) h)).1
      rw [hd] at this;cases this
   rw [h0] at H;cases H
 intro fuel
 induction fuel with
 | zero=>
  intro listed a w rem C D B U u v K V Y h
  obtain rfl:rem=[]:=List.eq_nil_of_length_eq_zero (by omega)
  refine ⟨?_,h w V⟩
  rw [List.eq_nil_iff_forall_not_mem]
  intro j G
  obtain ⟨h1,o,L,_⟩:=mem_ready.1 G
  have s:j<l.length:=by simpa using (Array.getElem?_eq_some_iff.1 L).1
  obtain ⟨k,J⟩:=(u j).2 ⟨s,h1⟩
  cases J
 | succ fuel ih=>
  intro listed a w rem C D B U u v K V Y h
  refine ⟨fun h0=>?_,fun i hi=>?_⟩
  ·obtain rfl:=T listed rem U B u h0
   exact h w V
  ·obtain ⟨h1,o,L,M⟩:=mem_ready.1 hi
   have s:i<l.length:=by simpa using (Array.getElem?_eq_some_iff.1 L).1
   obtain ⟨k,J⟩:=(u i).2 ⟨s,h1⟩
   obtain ⟨r1,r2,rfl⟩:=List.append_of_mem J
   have O:∀ j,V9 l.toArray i j→listed.getD j false=true:=by
    intro j G
    cases G with
    | one A I F S=>rw [L] at A;cases A;rw [← S];exact M _ I F
    | more A I F S g=>rw [L] at A;cases A;exact v _ j (by rw [← S];exact M _ I F) g
   have Z:=List.pairwise_append.1 B
   have a4:∀ x ∈ r1,x.1≠i:=fun x n=>(Zpj (Z.2.2 x n (i,k) (by simp))).2.1
   have a5:∀ x ∈ r2,x.1≠i:=fun x n=>Ne.symm (Zpj ((cT.1 Z.2.1).1 x n)).2.1
   have W:=Uo.pull (rd:=rd) hnd hsel hQ i k r2 r1 C D a w B (fun x n=>by
    cases F:Yg (ms.getD i 0) x.1 with
    | false=>rfl
    | true=>
     exfalso
     have h2:=O x.1 (hms i x.1 F)
     have h3:=(u x.1).1 ⟨x.2,by simp [n]⟩
     rw [Zho (by omega) true false,h2] at h3
     cases h3.2) V Y h
   refine wpOpIn_mono (fun a' w' ⟨C',D',q1,q2,_,_,q3⟩=>ih _ a' w' (r1++r2) C' D' (B.sublist (List.Sublist.append (List.Sublist.refl _) (List.sublist_cons_self _ _))) (by simpa using U) (fun j=>?_) (fun x j n G=>?_) (by simp at K ⊢;omega) q1 q2 q3) W
   ·by_cases hji:j=i
    ·subst hji
     constructor
     ·rintro ⟨X,g⟩
      rcases aY.1 g with q | q
      ·exact absurd rfl (a4 _ q)
      ·exact absurd rfl (a5 _ q)
     ·rintro ⟨_,q⟩
      have:j<listed.size:=by omega
      simp [Array.getD_eq_getD_getElem?,this] at q
    ·rw [getD_set_ne true (Ne.symm hji),← u j]
     constructor
     ·rintro ⟨X,g⟩
      refine ⟨X,?_⟩
      simp only [aY,bK] at g ⊢
      exact g.elim .inl fun h=>.inr (.inr h)
     ·rintro ⟨X,g⟩
      refine ⟨X,?_⟩
      simp only [aY,bK] at g ⊢
      rcases g with q | q | q
      ·exact .inl q
      ·exact absurd (congrArg Prod.fst q) hji
      ·exact .inr q
   ·by_cases hxi:x=i
    ·subst hxi;exact getD_set_true (O j G)
    ·rw [getD_set_ne false (Ne.symm hxi)] at n
     exact getD_set_true (v x j n G)

def Za0 (P:Program) (m:Nat) (rd:Option Nat) (l:List Oper) (N R:Fr→World→Prop) (E:Nat→Fr→World→Prop) (π:List (Nat×Nat)) (C D:World→Prop) (f:Fr):Prop:=
 ∀ a,Y8 m a f→Uo P rd l.toArray (T5 m N R E) π C D a

theorem Xa9 {i:Nat} {l:List Oper} {N R:Fr→World→Prop} {E:Nat→Fr→World→Prop} {f:Fr} {w:World} {col:Zg} (p:Nat→Bool) (π:List (Nat×Nat)) (hm:P.follows .mixedOrders=true) (hB:(Zyr l π&&Zhb l)=true)
  (h:Za0 P m rd l N R E π (fun w'=>Zl col w col w') (fun w'=>∃ c',Zu p col w c' w') f):Wp P m rd (.region i l.toArray true) N R E f w:=by
 intro a I
 simp only [Zyr,Bool.and_eq_true,cW,List.mem_range,List.any_eq_true,Nat.blt_eq] at hB
 obtain ⟨⟨⟨⟨⟨⟨J,K⟩,L⟩,M⟩,y⟩,O⟩,A⟩:=hB
 have y:=aQ y
 have s:∀ k j,Yg ((Uu l []).getD k 0) j=true→V9 l.toArray k j:=fun k j u=>by
  cases q:(Uu l [])[k]? with
  | none=>rw [aD,q] at u;simp [Yg] at u
  | some S=>rw [aD,q] at u;exact Zsg (l:=l) l [] (fun j=>by simp) (by simp) k S q j u
 refine wpIn_region_any hm (Z8k (ms:=Uu l []) s (fun j o n=>K o (List.mem_of_getElem? (by simpa using n))) (fun j o n T b=>Region.noSelect_spec J j o T b n) (fun i o n e B F=>⟨?_,?_⟩) (fun c a w U=>U)
  _ _ _ _ π (fun w'=>Zl col w col w') (fun w'=>∃ c',Zu p col w c' w') (Zy8 O) (by simp) (fun i=>?_) (fun i j v _=>?_) (by simp [y]) ((Zl.refl col w).drew) (fun _ h=>⟨_,h.toP⟩) (h a I))
 ·simp only [Zhb,cW] at A
  have:=A (o,i) (by rw [List.mem_zipIdx_iff_getElem?];exact n)
  have g:=(Array.all_eq_true_iff_forall_mem.1 this) e B
  simpa [F] using g
 ·obtain ⟨V,g⟩:=Zpf l [] i o n
  simp only [List.length_nil,Nat.zero_add] at g
  rw [aD,g]
  exact Zsf B F
 ·constructor
  ·rintro ⟨k,q⟩
   have g:=M _ q
   have:i<(Array.replicate l.toArray.size false).size:=by simpa using g
   refine ⟨g,?_⟩
   simp only [Array.getD_eq_getD_getElem?,Array.getElem?_eq_getElem this,cO]
   simp
  ·rintro ⟨G,_⟩
   obtain ⟨x,W,H⟩:=L i G
   exact ⟨x.2,by rw [← aQ H];exact W⟩
 ·exfalso
  rcases Nat.lt_or_ge i l.toArray.size with g | g
  ·have:i<(Array.replicate l.toArray.size false).size:=by simpa using g
   simp only [Array.getD_eq_getD_getElem?,Array.getElem?_eq_getElem this,cO] at v
   simp at v
  ·have X:(Array.replicate l.toArray.size false)[i]?=none:=Array.getElem?_eq_none (by simpa using g)
   rw [Array.getD_eq_getD_getElem?,X] at v
   simp at v

section
variable {l:List Oper} {N R:Fr→World→Prop} {E:Nat→Fr→World→Prop} {f:Fr} {π:List (Nat×Nat)} {C D:World→Prop} {i d t:Nat} {p:String} {af:Array Edge} {op:Op}
theorem Xbg (h:∀ w,C w→N f w):Za0 P m rd l N R E [] C D f:=fun _ b w c=>⟨f,b,h w c⟩
theorem xvD {v:Value} (ho:l[i]?=some ⟨some d,op,t,p,af,none⟩) (hd:aR d m=true) (hr:∀ w,C w→(execOp (ev f) ⟨some d,op,t,p,af,none⟩).run P w= .ok (.value v) w) (k:Za0 P m rd l N R E π C D (Z3 f d v)):
  Za0 P m rd l N R E ((i,0) :: π) C D f:=by
 intro a b
 simp only [Uo]
 rw [if_pos (by decide)]
 unfold Vg
 have c:l.toArray[i]?=some ⟨some d,op,t,p,af,none⟩:=by simpa using ho
 simp only [c]
 exact .inl ⟨rfl,v,fun w g=>by rw [b.eval];exact hr w (g.elim (fun h=>absurd h (by decide)) fun h=>h.elim And.right fun h=>absurd h.1 (by decide)),k _ (b.put (d:=some d) hd v)⟩
theorem xsD {v:Value} (ho:l[i]?=some ⟨some d,op,t,p,af,none⟩) (hd:aR d m=true) (hr:∀ w,D w→(execOp (ev f) ⟨some d,op,t,p,af,none⟩).run P w= .ok (.value v) w) (k:Za0 P m rd l N R E π C D (Z3 f d v)):
  Za0 P m rd l N R E ((i,5) :: π) C D f:=by
 intro a b
 simp only [Uo]
 rw [if_pos (by decide)]
 unfold Vg
 have c:l.toArray[i]?=some ⟨some d,op,t,p,af,none⟩:=by simpa using ho
 simp only [c]
 exact .inl ⟨rfl,v,fun w g=>by rw [b.eval];exact hr w (g.elim (fun h=>absurd h (by decide)) fun h=>h.elim (fun h=>absurd h.1 (by decide)) And.right),k _ (b.put (d:=some d) hd v)⟩
theorem xuD {v:Value} (ho:l[i]?=some ⟨some d,op,t,p,af,none⟩) (hd:aR d m=true) (hr:∀ w,(execOp (ev f) ⟨some d,op,t,p,af,none⟩).run P w= .ok (.value v) w) (k:Za0 P m rd l N R E π C D (Z3 f d v)):
  Za0 P m rd l N R E ((i,1) :: π) C D f:=by
 intro a b
 simp only [Uo]
 rw [if_pos (by decide)]
 unfold Vg
 have c:l.toArray[i]?=some ⟨some d,op,t,p,af,none⟩:=by simpa using ho
 simp only [c]
 exact .inl ⟨rfl,v,fun w g=>by rw [b.eval];exact hr w,k _ (b.put (d:=some d) hd v)⟩
theorem xeD {kd:Nat} {o:Oper} (ho:l[i]?=some o) (hkd:Uw kd=false) (k:∀ w,C w→Zv P m rd l.toArray (fun f1 w1=>∃ C' D':World→Prop,C' w1∧(∀ w,C' w→D' w)∧(kd=3→∀ w,C' w→C w)∧(kd=3∨kd=4→∀ w,D' w→D w)∧Za0 P m rd l N R E π C' D' f1) [o] f w):Za0 P m rd l N R E ((i,kd) :: π) C D f:=by
 intro a s
 simp only [Uo]
 rw [if_neg (by rw [hkd];decide)]
 intro w u
 have b:=k w u a s (fun e c w1=>e= .normal∧∃ C' D':World→Prop,C' w1∧(∀ w,C' w→D' w)∧(kd=3→∀ w,C' w→C w)∧(kd=3∨kd=4→∀ w,D' w→D w)∧Uo P rd l.toArray (T5 m N R E) π C' D' c)
  (fun c F w' v ⟨C',D',q1,x,y,A,B⟩=>⟨rfl,C',D',q1,x,y,A,B _ v⟩)
 have j:l.toArray[i]?=some o:=by simpa using ho
 unfold wpListIn at b
 unfold wpOpIn
 simp only [j]
 split
 ·rename_i g
  simp only [g,if_true] at b
  have n:=Oper.wpIn_mono (K':=fun c w1=>∃ C' D':World→Prop,C' w1∧(∀ w,C' w→D' w)∧(kd=3→∀ w,C' w→C w)∧(kd=3∨kd=4→∀ w,D' w→D w)∧Uo P rd l.toArray (T5 m N R E) π C' D' c) (fun c w' h=>by simp only [wpListIn] at h;exact h.2) b
  exact ⟨n.1,Zt3 (fun e c w' q h=>absurd h.1 q) n.2⟩
 ·rename_i g
  simp only [g] at b
  refine ⟨b.1,?_⟩
  have:=b.2
  simp only [wpListIn] at this
  exact this.2
end
end
/-! reads that look past what turns -/
section
variable {α:Type} {r:Zc α} {e i:Nat} {col:Zg} {w w':World} {xs:List α} {a:Option Addr} {cap:Nat} {p:Nat→Bool}
theorem Zi.dk {g:Nat} {cs:Array Value} (h:Zi e i col w g cs) (hD:∃ c',Zu p col w c' w') (_:p 0=false) (hi:p i=false):Zi e i hD.choose w' g cs:=h.kpp hD.choose_spec hi
end
end Go.Proofs.YtpkknichfgooaaaGreat
