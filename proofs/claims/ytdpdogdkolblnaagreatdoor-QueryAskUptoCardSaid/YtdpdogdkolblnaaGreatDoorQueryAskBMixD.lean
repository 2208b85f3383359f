/-
  A region that draws its order and turns the world, in which some reads look past what turns: its operations in one order that stands for all. Over any program.
-/
import Derived.Test.YtdpdogdkolblnaaGreatDoorQueryAskBThree
namespace Go.Proofs.YtdpdogdkolblnaaGreatDoor
open Go Go.RowKit
open Go.IntKind (i8 i16 i32 i64 u8 u16 u32 u64)

def Vr (k:Nat):Bool:=Nat.blt k 2||Nat.beq k 5
def Zcs (l:List Oper) (ms:List Nat) (x y:Nat×Nat):Bool:=
 let a:=Xp (ms.getD y.1 0) x.1
 !(Xp (ms.getD x.1 0) y.1)&&!(Nat.beq x.1 y.1)&&(Vr x.2||a)&&(Vr y.2||(!(Vr x.2)||(a||(Nat.beq x.2 1||(Nat.beq y.2 3||(Nat.beq y.2 4&&Nat.beq x.2 5))))))&&
  (a||(match l[x.1]?,l[y.1]? with | some u,some v=>u.apart l.toArray v | _,_=>false))
def Zk5 (l:List Oper) (ms:List Nat):List (Nat×Nat)→Bool
 | []=>true
 | x :: r=>r.all (Zcs l ms x)&&Zk5 l ms r
def Zr9 (l:List Oper) (π:List (Nat×Nat)):Bool:=
 Region.noSelect l.toArray&&l.all (fun o=>Wf o.op)&&(List.range l.length).all (fun i=>π.any fun x=>Nat.beq x.1 i)&&π.all (fun x=>Nat.blt x.1 l.length)&&Nat.beq π.length l.length&&Zk5 l (Vp l []) π

section
variable {P:Program} {m:Nat} {rd:Option Nat} {ops:Array Oper} {Q:Exit→Act→World→Prop}
def Zi7 (k:Nat) (C D:World→Prop) (w:World):Prop:=k=1∨(k=0∧C w)∨(k=5∧D w)
theorem Zy6 {k:Nat} {C D:World→Prop} {w:World} (hk:Vr k=true) (h:C w) (hD:D w):Zi7 k C D w:=by
 simp only [Vr,Bool.or_eq_true,Nat.blt_eq] at hk
 rcases hk with hk | hk
 ·rcases (show k=0∨k=1 by omega) with rfl | rfl
  ·exact .inr (.inl ⟨rfl,h⟩)
  ·exact .inl rfl
 ·exact .inr (.inr ⟨Nat.eq_of_beq_eq_true hk,hD⟩)
def Vm (P:Program) (rd:Option Nat) (ops:Array Oper) (Q:Exit→Act→World→Prop):List (Nat×Nat)→(World→Prop)→(World→Prop)→Act→Prop
 | [],C,_,a=>∀ w,C w→Q .normal a w
 | (i,k) :: r,C,D,a=>
  if Vr k=true then Wm P ops (Zi7 k C D) i (Vm P rd ops Q r C D) a
  else ∀ w,C w→wpOpIn (X7 rd) 0 P ops Q i (fun a' w'=>∃ C' D':World→Prop,C' w'∧(∀ w,C' w→D' w)∧(k=3→∀ w,C' w→C w)∧(k=3∨k=4→∀ w,D' w→D w)∧Vm P rd ops Q r C' D' a') a w

theorem Zsu {l:List Oper} {ms:List Nat}:∀ {π:List (Nat×Nat)},Zk5 l ms π=true→π.Pairwise fun x y=>Zcs l ms x y=true
 | [],_=>.nil
 | x :: r,h=>by
  simp only [Zk5,Bool.and_eq_true,List.all_eq_true] at h
  exact .cons h.1 (Zsu h.2)
theorem Zk4 {l:List Oper} {ms:List Nat} {x y:Nat×Nat} (h:Zcs l ms x y=true):
  Xp (ms.getD x.1 0) y.1=false∧x.1≠y.1∧(Vr x.2=false→Xp (ms.getD y.1 0) x.1=true)∧(Vr y.2=false→Vr x.2=true→Xp (ms.getD y.1 0) x.1=true∨x.2=1∨y.2=3∨(y.2=4∧x.2=5))∧
  (Xp (ms.getD y.1 0) x.1=true∨∃ u v,l[x.1]?=some u∧l[y.1]?=some v∧u.apart l.toArray v=true):=by
 simp only [Zcs,Bool.and_eq_true,Bool.not_eq_true',Bool.or_eq_true] at h
 obtain ⟨⟨⟨⟨h1,h2⟩,h3⟩,h4⟩,h5⟩:=h
 refine ⟨h1,fun e=>?_,fun hx=>?_,fun hy hx=>?_,?_⟩
 ·rw [e] at h2;simp at h2
 ·rcases h3 with h3 | h3
  ·rw [hx] at h3;cases h3
  ·exact h3
 ·rcases h4 with h4 | h4 | h4 | h4 | h4 | ⟨h4,h4'⟩
  ·rw [hy] at h4;cases h4
  ·rw [hx] at h4;cases h4
  ·exact .inl h4
  ·exact .inr (.inl (Nat.eq_of_beq_eq_true h4))
  ·exact .inr (.inr (.inl (Nat.eq_of_beq_eq_true h4)))
  ·exact .inr (.inr (.inr ⟨Nat.eq_of_beq_eq_true h4,Nat.eq_of_beq_eq_true h4'⟩))
 ·rcases h5 with h5 | h5
  ·exact .inl h5
  ·right
   cases hu:l[x.1]? with
   | none=>rw [hu] at h5;simp at h5
   | some u=>
    cases hv:l[y.1]? with
    | none=>rw [hu,hv] at h5;simp at h5
    | some v=>rw [hu,hv] at h5;exact ⟨u,v,rfl,rfl,h5⟩

theorem Vm.pull {l:List Oper} {ms:List Nat} (hnd:∀ (j:Nat) (o:Oper),l.toArray[j]?=some o→Wf o.op=true) (hsel:∀ (j:Nat) (o:Oper),l.toArray[j]?=some o→∀ cs b,o.op≠.select cs b)
  (hQ:∀ c a w,¬ Q (.panic c) a w) (i k:Nat) (r2:List (Nat×Nat)):∀ (r1:List (Nat×Nat)) (C D:World→Prop) (a:Act) (w:World),(r1++(i,k) :: r2).Pairwise (fun x y=>Zcs l ms x y=true)→(∀ x ∈ r1,Xp (ms.getD i 0) x.1=false)→C w→(∀ w,C w→D w)→
   Vm P rd l.toArray Q (r1++(i,k) :: r2) C D a→wpOpIn (X7 rd) 0 P l.toArray Q i (fun a' w'=>∃ C' D':World→Prop,C' w'∧(∀ w,C' w→D' w)∧((Vr k=true∨k=3)→∀ w,C' w→C w)∧((Vr k=true∨k=3∨k=4)→∀ w,D' w→D w)∧Vm P rd l.toArray Q (r1++r2) C' D' a') a w:=by
 intro r1
 induction r1 with
 | nil=>
  intro C D a w _ _ hC hCD h
  simp only [List.nil_append,Vm] at h
  split at h
  ·rename_i hk
   exact wpOpIn_mono (fun a' w' ⟨h1,h2⟩=>⟨C,D,h1 ▸ hC,hCD,fun _ _ h=>h,fun _ _ h=>h,h2⟩) (Zow hnd (Zy6 hk hC (hCD _ hC)) h)
  ·rename_i hk
   exact wpOpIn_mono (fun a' w' ⟨C',D',h1,h2,h3,h4,h5⟩=>⟨C',D',h1,h2,fun h=>h3 (h.resolve_left hk),fun h=>h4 (h.resolve_left hk),h5⟩) (h w hC)
 | cons x r ih=>
  intro C D a w hp hx hC hCD h
  obtain ⟨x,kx⟩:=x
  simp only [List.cons_append,List.pairwise_cons] at hp
  obtain ⟨q1,q2,q3,q4,q5⟩:=Zk4 (hp.1 (i,k) (by simp))
  have hxi:=hx (x,kx) (by simp)
  simp only at q1 q2 q3 q4 q5 hxi
  have hkx:Vr kx=true:=by
   cases hk:Vr kx with
   | true=>rfl
   | false=>rw [q3 hk] at hxi;cases hxi
  obtain ⟨u,v,hu,hv,hap⟩:=q5.resolve_left (by rw [hxi];simp)
  have hu':l.toArray[x]?=some u:=by simpa using hu
  have hv':l.toArray[i]?=some v:=by simpa using hv
  simp only [List.cons_append,Vm] at h ⊢
  rw [if_pos hkx] at h
  unfold Wm at h
  simp only [hu'] at h
  have fin:∀ (val:Value),((Region.wanted u (yielded l.toArray a.tmps)=true∧∀ w,Zi7 kx C D w→(execOp a.eval u).run P w= .ok (.value val) w)∨(Region.wanted u (yielded l.toArray a.tmps)=false∧val=undef))→
    Vm P rd l.toArray Q (r++(i,k) :: r2) C D (a.put u.dst val)→wpOpIn (X7 rd) 0 P l.toArray Q i (fun a' w'=>∃ C' D':World→Prop,C' w'∧(∀ w,C' w→D' w)∧((Vr k=true∨k=3)→∀ w,C' w→C w)∧((Vr k=true∨k=3∨k=4)→∀ w,D' w→D w)∧
     if Vr kx=true then Wm P l.toArray (Zi7 kx C' D') x (Vm P rd l.toArray Q (r++r2) C' D') a'
     else ∀ w,C' w→wpOpIn (X7 rd) 0 P l.toArray Q x (fun a' w'=>∃ C'' D'':World→Prop,C'' w'∧(∀ w,C'' w→D'' w)∧(kx=3→∀ w,C'' w→C' w)∧(kx=3∨kx=4→∀ w,D'' w→D' w)∧Vm P rd l.toArray Q (r++r2) C'' D'' a') a' w) a w:=by
   intro val hval hm
   have h1:=ih C D (a.put u.dst val) w hp.2 (fun y hy=>hx y (by simp [hy])) hC hCD hm
   have h2:=Zpb hnd (hsel x u hu') (hsel i v hv') hQ hv' hap h1
   refine wpOpIn_mono (fun a' w' ⟨⟨e1,e2⟩,C',D',h3,h4,h5,h6,h7⟩=>⟨C',D',h3,h4,h5,h6,?_⟩) h2
   rw [if_pos hkx]
   unfold Wm
   simp only [hu']
   rw [e2,e1]
   rcases hval with ⟨g1,g2⟩ | ⟨g1,rfl⟩
   ·refine .inl ⟨g1,val,fun w hw=>g2 w ?_,h7⟩
    rcases hw with hw | ⟨hk0,hw⟩ | ⟨hk5,hw⟩
    ·exact .inl hw
    ·refine .inr (.inl ⟨hk0,?_⟩)
     cases hk:Vr k with
     | true=>exact h5 (.inl hk) w hw
     | false=>
      rcases q4 hk hkx with h9 | h9 | h9 | h9
      ·rw [h9] at hxi;cases hxi
      ·omega
      ·exact h5 (.inr h9) w hw
      ·omega
    ·refine .inr (.inr ⟨hk5,?_⟩)
     cases hk:Vr k with
     | true=>exact h6 (.inl hk) w hw
     | false=>
      rcases q4 hk hkx with h9 | h9 | h9 | h9
      ·rw [h9] at hxi;cases hxi
      ·omega
      ·exact h6 (.inr (.inl h9)) w hw
      ·exact h6 (.inr (.inr h9.1)) w hw
   ·exact .inr ⟨g1,h7⟩
  rcases h with ⟨g1,val,g2,g3⟩ | ⟨g1,g3⟩
  ·exact fin val (.inl ⟨g1,g2⟩) g3
  ·exact fin undef (.inr ⟨g1,rfl⟩) g3

theorem Z1i {l:List Oper} {ms:List Nat} (hms:∀ k j,Xp (ms.getD k 0) j=true→Va l.toArray k j) (hnd:∀ (j:Nat) (o:Oper),l.toArray[j]?=some o→Wf o.op=true) (hsel:∀ (j:Nat) (o:Oper),l.toArray[j]?=some o→∀ cs b,o.op≠.select cs b)
  (hdir:∀ (i:Nat) (o:Oper),l[i]?=some o→∀ e ∈ o.after,Region.binds .any e=true→e.on<i∧Xp (ms.getD i 0) e.on=true) (hQ:∀ c a w,¬ Q (.panic c) a w):
  ∀ (fuel:Nat) (listed:Array Bool) (a:Act) (w:World) (rem:List (Nat×Nat)) (C D:World→Prop),rem.Pairwise (fun x y=>Zcs l ms x y=true)→listed.size=l.length→
   (∀ i,(∃ k,(i,k) ∈ rem)↔i<l.length∧listed.getD i true=false)→(∀ i j,listed.getD i false=true→Va l.toArray i j→listed.getD j false=true)→rem.length≤fuel→C w→(∀ w,C w→D w)→Vm P rd l.toArray Q rem C D a→
   wpAnyIn (X7 rd) 0 P .any l.toArray Q fuel listed a w:=by
 -- who may come up, of what is left
 have hhead:∀ (listed:Array Bool) (rem:List (Nat×Nat)),listed.size=l.length→rem.Pairwise (fun x y=>Zcs l ms x y=true)→(∀ i,(∃ k,(i,k) ∈ rem)↔i<l.length∧listed.getD i true=false)→
   Region.ready .any l.toArray listed=[]→rem=[]:=by
  intro listed rem hs hp hr h0
  cases rem with
  | nil=>rfl
  | cons x r=>
   exfalso
   have hx:=(hr x.1).1 ⟨x.2,by simp⟩
   have hmem:x.1 ∈ Region.ready .any l.toArray listed:=by
    refine mem_ready.2 ⟨hx.2,l[x.1]'hx.1,by simp,fun e he hb=>?_⟩
    obtain ⟨hlt,hd⟩:=hdir x.1 (l[x.1]'hx.1) (by simp) e he hb
    cases hl:listed.getD e.on false with
    | true=>rfl
    | false=>
     exfalso
     obtain ⟨k,hk⟩:=(hr e.on).2 ⟨by omega,by rw [Zdc (by omega) true false];exact hl⟩
     rcases List.mem_cons.1 hk with h | h
     ·rw [← h] at hlt;exact Nat.lt_irrefl _ hlt
     ·have:=(Zk4 ((List.pairwise_cons.1 hp).1 (e.on,k) h)).1
      rw [hd] at this;cases this
   rw [h0] at hmem;cases hmem
 intro fuel
 induction fuel with
 | zero=>
  intro listed a w rem C D hp hs hr hdown hlen hC hCD h
  obtain rfl:rem=[]:=List.eq_nil_of_length_eq_zero (by omega)
  refine ⟨?_,h w hC⟩
  rw [List.eq_nil_iff_forall_not_mem]
  intro j hj
  obtain ⟨h1,o,ho,_⟩:=mem_ready.1 hj
  have hlt:j<l.length:=by simpa using (Array.getElem?_eq_some_iff.1 ho).1
  obtain ⟨k,hk⟩:=(hr j).2 ⟨hlt,h1⟩
  cases hk
 | succ fuel ih=>
  intro listed a w rem C D hp hs hr hdown hlen hC hCD h
  refine ⟨fun h0=>?_,fun i hi=>?_⟩
  ·obtain rfl:=hhead listed rem hs hp hr h0
   exact h w hC
  ·obtain ⟨h1,o,ho,hall⟩:=mem_ready.1 hi
   have hlt:i<l.length:=by simpa using (Array.getElem?_eq_some_iff.1 ho).1
   obtain ⟨k,hk⟩:=(hr i).2 ⟨hlt,h1⟩
   obtain ⟨r1,r2,rfl⟩:=List.append_of_mem hk
   have hanc:∀ j,Va l.toArray i j→listed.getD j false=true:=by
    intro j hj
    cases hj with
    | one ho' he hb hon=>rw [ho] at ho';cases ho';rw [← hon];exact hall _ he hb
    | more ho' he hb hon hk'=>rw [ho] at ho';cases ho';exact hdown _ j (by rw [← hon];exact hall _ he hb) hk'
   have hp1:=List.pairwise_append.1 hp
   have hne1:∀ x ∈ r1,x.1≠i:=fun x hx=>(Zk4 (hp1.2.2 x hx (i,k) (by simp))).2.1
   have hne2:∀ x ∈ r2,x.1≠i:=fun x hx=>Ne.symm (Zk4 ((List.pairwise_cons.1 hp1.2.1).1 x hx)).2.1
   have hpull:=Vm.pull (rd:=rd) hnd hsel hQ i k r2 r1 C D a w hp (fun x hx=>by
    cases hb:Xp (ms.getD i 0) x.1 with
    | false=>rfl
    | true=>
     exfalso
     have h2:=hanc x.1 (hms i x.1 hb)
     have h3:=(hr x.1).1 ⟨x.2,by simp [hx]⟩
     rw [Zdc (by omega) true false,h2] at h3
     cases h3.2) hC hCD h
   refine wpOpIn_mono (fun a' w' ⟨C',D',q1,q2,_,_,q3⟩=>ih _ a' w' (r1++r2) C' D' (hp.sublist (List.Sublist.append (List.Sublist.refl _) (List.sublist_cons_self _ _))) (by simpa using hs) (fun j=>?_) (fun x j hx hj=>?_) (by simp at hlen ⊢;omega) q1 q2 q3) hpull
   ·by_cases hji:j=i
    ·subst hji
     constructor
     ·rintro ⟨k',hk'⟩
      rcases List.mem_append.1 hk' with h4 | h4
      ·exact absurd rfl (hne1 _ h4)
      ·exact absurd rfl (hne2 _ h4)
     ·rintro ⟨_,h4⟩
      have:j<listed.size:=by omega
      simp [Array.getD_eq_getD_getElem?,this] at h4
    ·rw [getD_set_ne true (Ne.symm hji),← hr j]
     constructor
     ·rintro ⟨k',hk'⟩
      refine ⟨k',?_⟩
      simp only [List.mem_append,List.mem_cons] at hk' ⊢
      exact hk'.elim .inl fun h=>.inr (.inr h)
     ·rintro ⟨k',hk'⟩
      refine ⟨k',?_⟩
      simp only [List.mem_append,List.mem_cons] at hk' ⊢
      rcases hk' with h4 | h4 | h4
      ·exact .inl h4
      ·exact absurd (congrArg Prod.fst h4) hji
      ·exact .inr h4
   ·by_cases hxi:x=i
    ·subst hxi;exact getD_set_true (hanc j hj)
    ·rw [getD_set_ne false (Ne.symm hxi)] at hx
     exact getD_set_true (hdown x j hx hj)

def Si (P:Program) (m:Nat) (rd:Option Nat) (l:List Oper) (N R:Fr→World→Prop) (E:Nat→Fr→World→Prop) (π:List (Nat×Nat)) (C D:World→Prop) (f:Fr):Prop:=
 ∀ a,Yl m a f→Vm P rd l.toArray (Uh m N R E) π C D a

theorem Zl0 {i:Nat} {l:List Oper} {N R:Fr→World→Prop} {E:Nat→Fr→World→Prop} {f:Fr} {w:World} {col:Zd} (p:Nat→Bool) (π:List (Nat×Nat)) (hm:P.follows .mixedOrders=true) (hB:(Zr9 l π&&Zc6 l)=true)
  (h:Si P m rd l N R E π (fun w'=>Zg col w col w') (fun w'=>∃ c',Zs p col w c' w') f):Wp P m rd (.region i l.toArray true) N R E f w:=by
 intro a ha
 simp only [Zr9,Bool.and_eq_true,List.all_eq_true,List.mem_range,List.any_eq_true,Nat.blt_eq] at hB
 obtain ⟨⟨⟨⟨⟨⟨h1,h2⟩,h3⟩,h4⟩,h5⟩,h6⟩,h7⟩:=hB
 have h5:=Nat.eq_of_beq_eq_true h5
 have hbits:∀ k j,Xp ((Vp l []).getD k 0) j=true→Va l.toArray k j:=fun k j hj=>by
  cases hk:(Vp l [])[k]? with
  | none=>rw [List.getD_eq_getElem?_getD,hk] at hj;simp [Xp] at hj
  | some mk=>rw [List.getD_eq_getElem?_getD,hk] at hj;exact Zn7 (l:=l) l [] (fun j=>by simp) (by simp) k mk hk j hj
 refine wpIn_region_any hm (Z1i (ms:=Vp l []) hbits (fun j o ho=>h2 o (List.mem_of_getElem? (by simpa using ho))) (fun j o ho cs b=>Region.noSelect_spec h1 j o cs b ho) (fun i o ho e he hb=>⟨?_,?_⟩) (fun c a w hq=>hq)
  _ _ _ _ π (fun w'=>Zg col w col w') (fun w'=>∃ c',Zs p col w c' w') (Zsu h6) (by simp) (fun i=>?_) (fun i j hi _=>?_) (by simp [h5]) ((Zg.refl col w).drew) (fun _ h=>⟨_,h.toP⟩) (h a ha))
 ·simp only [Zc6,List.all_eq_true] at h7
  have:=h7 (o,i) (by rw [List.mem_zipIdx_iff_getElem?];exact ho)
  have h8:=(Array.all_eq_true_iff_forall_mem.1 this) e he
  simpa [hb] using h8
 ·obtain ⟨acc',h8⟩:=Zkz l [] i o ho
  simp only [List.length_nil,Nat.zero_add] at h8
  rw [List.getD_eq_getElem?_getD,h8]
  exact Zn6 he hb
 ·constructor
  ·rintro ⟨k,hk⟩
   have h8:=h4 _ hk
   have:i<(Array.replicate l.toArray.size false).size:=by simpa using h8
   refine ⟨h8,?_⟩
   simp only [Array.getD_eq_getD_getElem?,Array.getElem?_eq_getElem this,Option.getD_some]
   simp
  ·rintro ⟨hlt,_⟩
   obtain ⟨x,hx,hxi⟩:=h3 i hlt
   exact ⟨x.2,by rw [← Nat.eq_of_beq_eq_true hxi];exact hx⟩
 ·exfalso
  rcases Nat.lt_or_ge i l.toArray.size with h8 | h8
  ·have:i<(Array.replicate l.toArray.size false).size:=by simpa using h8
   simp only [Array.getD_eq_getD_getElem?,Array.getElem?_eq_getElem this,Option.getD_some] at hi
   simp at hi
  ·have hn:(Array.replicate l.toArray.size false)[i]?=none:=Array.getElem?_eq_none (by simpa using h8)
   rw [Array.getD_eq_getD_getElem?,hn] at hi
   simp at hi

section
variable {l:List Oper} {N R:Fr→World→Prop} {E:Nat→Fr→World→Prop} {f:Fr} {π:List (Nat×Nat)} {C D:World→Prop} {i d t:Nat} {p:String} {af:Array Edge} {op:Op}
theorem Zl2 (h:∀ w,C w→N f w):Si P m rd l N R E [] C D f:=fun _ ha w hw=>⟨f,ha,h w hw⟩
theorem Zfo {v:Value} (ho:l[i]?=some ⟨some d,op,t,p,af,none⟩) (hd:Nat.blt d m=true) (hr:∀ w,C w→(execOp (ev f) ⟨some d,op,t,p,af,none⟩).run P w= .ok (.value v) w) (k:Si P m rd l N R E π C D (Zu f d v)):
  Si P m rd l N R E ((i,0) :: π) C D f:=by
 intro a ha
 simp only [Vm]
 rw [if_pos (by decide)]
 unfold Wm
 have ho':l.toArray[i]?=some ⟨some d,op,t,p,af,none⟩:=by simpa using ho
 simp only [ho']
 exact .inl ⟨rfl,v,fun w hw=>by rw [ha.eval];exact hr w (hw.elim (fun h=>absurd h (by decide)) fun h=>h.elim And.right fun h=>absurd h.1 (by decide)),k _ (ha.put (d:=some d) hd v)⟩
theorem Zl3 {v:Value} (ho:l[i]?=some ⟨some d,op,t,p,af,none⟩) (hd:Nat.blt d m=true) (hr:∀ w,D w→(execOp (ev f) ⟨some d,op,t,p,af,none⟩).run P w= .ok (.value v) w) (k:Si P m rd l N R E π C D (Zu f d v)):
  Si P m rd l N R E ((i,5) :: π) C D f:=by
 intro a ha
 simp only [Vm]
 rw [if_pos (by decide)]
 unfold Wm
 have ho':l.toArray[i]?=some ⟨some d,op,t,p,af,none⟩:=by simpa using ho
 simp only [ho']
 exact .inl ⟨rfl,v,fun w hw=>by rw [ha.eval];exact hr w (hw.elim (fun h=>absurd h (by decide)) fun h=>h.elim (fun h=>absurd h.1 (by decide)) And.right),k _ (ha.put (d:=some d) hd v)⟩
theorem Wq {v:Value} (ho:l[i]?=some ⟨some d,op,t,p,af,none⟩) (hd:Nat.blt d m=true) (hr:∀ w,(execOp (ev f) ⟨some d,op,t,p,af,none⟩).run P w= .ok (.value v) w) (k:Si P m rd l N R E π C D (Zu f d v)):
  Si P m rd l N R E ((i,1) :: π) C D f:=by
 intro a ha
 simp only [Vm]
 rw [if_pos (by decide)]
 unfold Wm
 have ho':l.toArray[i]?=some ⟨some d,op,t,p,af,none⟩:=by simpa using ho
 simp only [ho']
 exact .inl ⟨rfl,v,fun w hw=>by rw [ha.eval];exact hr w,k _ (ha.put (d:=some d) hd v)⟩
theorem Tg {kd:Nat} {o:Oper} (ho:l[i]?=some o) (hkd:Vr kd=false) (k:∀ w,C w→Zp P m rd l.toArray (fun f1 w1=>∃ C' D':World→Prop,C' w1∧(∀ w,C' w→D' w)∧(kd=3→∀ w,C' w→C w)∧(kd=3∨kd=4→∀ w,D' w→D w)∧Si P m rd l N R E π C' D' f1) [o] f w):Si P m rd l N R E ((i,kd) :: π) C D f:=by
 intro a ha
 simp only [Vm]
 rw [if_neg (by rw [hkd];decide)]
 intro w hC
 have h1:=k w hC a ha (fun e a' w1=>e= .normal∧∃ C' D':World→Prop,C' w1∧(∀ w,C' w→D' w)∧(kd=3→∀ w,C' w→C w)∧(kd=3∨kd=4→∀ w,D' w→D w)∧Vm P rd l.toArray (Uh m N R E) π C' D' a')
  (fun a' f' w' hf ⟨C',D',q1,q2,q3,q4,q5⟩=>⟨rfl,C',D',q1,q2,q3,q4,q5 _ hf⟩)
 have ho':l.toArray[i]?=some o:=by simpa using ho
 unfold wpListIn at h1
 unfold wpOpIn
 simp only [ho']
 split
 ·rename_i hw
  simp only [hw,if_true] at h1
  have h2:=Oper.wpIn_mono (K':=fun a' w1=>∃ C' D':World→Prop,C' w1∧(∀ w,C' w→D' w)∧(kd=3→∀ w,C' w→C w)∧(kd=3∨kd=4→∀ w,D' w→D w)∧Vm P rd l.toArray (Uh m N R E) π C' D' a') (fun a' w' h=>by simp only [wpListIn] at h;exact h.2) h1
  exact ⟨h2.1,Zo9 (fun e a' w' hne h=>absurd h.1 hne) h2.2⟩
 ·rename_i hw
  simp only [hw] at h1
  refine ⟨h1.1,?_⟩
  have:=h1.2
  simp only [wpListIn] at this
  exact this.2
end
end
/-! Zif that look past what turns -/
section
variable {α:Type} {r:Za α} {e i:Nat} {col:Zd} {w w':World} {xs:List α} {a:Option Addr} {cap:Nat} {p:Nat→Bool}
theorem Ze.dk {g:Nat} {cs:Array Value} (h:Ze e i col w g cs) (hD:∃ c',Zs p col w c' w') (_:p 0=false) (hi:p i=false):Ze e i hD.choose w' g cs:=h.kpp hD.choose_spec hi
end
theorem Zoe {L:List Nat} {c x:Nat} (h:pS L c=true) (hx:pS L x=false):x≠c:=fun e=>by rw [e,h] at hx;cases hx
theorem Zlf {L:List Nat} {c d:Nat} (h:(pS L c&&pS L d)=true):∀ x,pS L x=false→p2 c d x=false:=fun x hx=>by
 rw [Bool.and_eq_true] at h
 exact Zs5 (Zoe h.1 hx) (Zoe h.2 hx)
theorem Zlg {L l:List Nat} (h:l.all (pS L)=true):∀ x,pS L x=false→pS l x=false:=fun x hx=>by
 cases hb:pS l x with
 | false=>rfl
 | true=>
  obtain ⟨c,hc,hcx⟩:=List.any_eq_true.1 hb
  have:=List.all_eq_true.1 h c hc
  exact absurd (Nat.eq_of_beq_eq_true hcx) (Zoe this hx)
end Go.Proofs.YtdpdogdkolblnaaGreatDoor
