/-
  A region that draws its order, in which one variable is made at a time that is left open: its operations in one order that stands for all; the variable's making stands ahead of its first use. Over any program.
-/
import Derived.Test.YtpkknichfgooaaaGreatTopBitsBTwo
namespace Go.Proofs.YtpkknichfgooaaaGreat
open Go Go.RowKit
open Nat renaming beq→aH,blt→aR,ble→cV,eq_of_beq_eq_true→aQ,lt_or_ge→bW,le_refl→aV
open List renaming all_eq_true→cW,nil_append→cB,cons_append→cK,pairwise_cons→cT,mem_cons→bK,mem_append→aY,getD_eq_getElem?_getD→aD
open Option renaming getD_some→cO
open Go.IntKind (i8 i16 i32 i64 u8 u16 u32 u64)

def Zev (l:List Oper) (ms:List Nat) (x y:Nat×Nat):Bool:=
 let a:=Yg (ms.getD y.1 0) x.1
 !(Yg (ms.getD x.1 0) y.1)&&!(aH x.1 y.1)&&(aR x.2 2||a||(aH x.2 3&&aH y.2 4)||(aH x.2 4&&aH y.2 4))&&(aR y.2 2||(cV 2 x.2||(a||(aH x.2 1||(aH y.2 3||aH y.2 4)))))&&
  (a||(match l[x.1]?,l[y.1]? with | some u,some v=>u.apart l.toArray v&&v.apart l.toArray u | _,_=>false))
def Zpl (l:List Oper) (ms:List Nat):List (Nat×Nat)→Bool
 | []=>true
 | x :: r=>r.all (Zev l ms x)&&Zpl l ms r
def Zys (l:List Oper) (π:List (Nat×Nat)):Bool:=
 Region.noSelect l.toArray&&l.all (fun o=>W7 o.op)&&(List.range l.length).all (fun i=>π.any fun x=>aH x.1 i)&&π.all (fun x=>aR x.1 l.length)&&aH π.length l.length&&Zpl l (Uu l []) π

def Sz (C:World→Prop) (F:Nat→Prop):Prop:=(∀ w,C w→F w.heap.size)∧∀ w o,C w→C (w.alloc o)
def U9 (cs:Array Value) (T:TypeId) (g:Nat) (w:World):Prop:=w.heap[g]?=some (.cells cs T (0,0))
theorem U9.lt {cs:Array Value} {T:TypeId} {g:Nat} {w:World} (h:U9 cs T g w):g<w.heap.size:=(Array.getElem?_eq_some_iff.1 h).1
theorem U9.alloc {cs:Array Value} {T:TypeId} {g:Nat} {w:World} {o:Obj} (h:U9 cs T g w):U9 cs T g (w.alloc o):=(Below.heap_alloc _ _ _ h.lt).trans h
def Zat (g:Nat) (F:Nat→Prop):Nat→Prop:=fun x=>F x∧x≠g
theorem Sz.zm {C:World→Prop} {F:Nat→Prop} {cs:Array Value} {T:TypeId} {g:Nat} (h:Sz C F):Sz (fun w=>C w∧U9 cs T g w) (Zat g F):=⟨fun w a=>⟨h.1 w a.1,Nat.ne_of_gt a.2.lt⟩,fun w o a=>⟨h.2 w o a.1,a.2.alloc⟩⟩
section
variable {P:Program} {m:Nat} {rd:Option Nat} {ops:Array Oper} {Q:Exit→Act→World→Prop}
def Ze0 (P:Program) (o:Oper) (cs:Array Value) (T:TypeId):Prop:=o.guard=none∧∀ ev w,(execOp ev o).run P w= .ok (.value (.pointer (some ⟨w.heap.size,0,none⟩))) (w.alloc (.cells cs T (0,0)))

def W3 (P:Program) (rd:Option Nat) (ops:Array Oper) (Q:Exit→Act→World→Prop):List (Nat×Nat)→(World→Prop)→(Nat→Prop)→Act→Prop
 | [],C,_,a=>∀ w,C w→Q .normal a w
 | (i,k) :: r,C,F,a=>
  if k=4 then ∃ o cs T,ops[i]?=some o∧Ze0 P o cs T∧∀ g,F g→W3 P rd ops Q r (fun w=>C w∧U9 cs T g w) (Zat g F) (a.put o.dst (.pointer (some ⟨g,0,none⟩)))
  else if 2≤k then ∀ w,C w→wpOpIn (Yy rd) 0 P ops Q i (fun a' w'=>∃ (C':World→Prop) (F':Nat→Prop),C' w'∧Sz C' F'∧(k=3→(∀ w,C' w→C w)∧(∀ b,b<w.heap.size→w'.heap[b]?=w.heap[b]?)∧∀ g,g<w.heap.size→F g→F' g)∧W3 P rd ops Q r C' F' a') a w
  else Vg P ops (fun w=>k=1∨C w) i (W3 P rd ops Q r C F) a

theorem Zy9 {l:List Oper} {ms:List Nat}:∀ {π:List (Nat×Nat)},Zpl l ms π=true→π.Pairwise fun x y=>Zev l ms x y=true
 | [],_=>.nil
 | x :: r,h=>by
  simp only [Zpl,Bool.and_eq_true,cW] at h
  exact .cons h.1 (Zy9 h.2)
theorem Zmz {l:List Oper} {ms:List Nat} {x y:Nat×Nat} (h:Zev l ms x y=true):
  Yg (ms.getD x.1 0) y.1=false∧x.1≠y.1∧(2≤x.2→Yg (ms.getD y.1 0) x.1=true∨(x.2=3∧y.2=4)∨(x.2=4∧y.2=4))∧(2≤y.2→x.2<2→Yg (ms.getD y.1 0) x.1=true∨x.2=1∨y.2=3∨y.2=4)∧
  (Yg (ms.getD y.1 0) x.1=true∨∃ u v,l[x.1]?=some u∧l[y.1]?=some v∧u.apart l.toArray v=true∧v.apart l.toArray u=true):=by
 simp only [Zev,Bool.and_eq_true,Bool.not_eq_true',Bool.or_eq_true,Nat.blt_eq,Nat.ble_eq] at h
 obtain ⟨⟨⟨⟨n,k⟩,g⟩,b⟩,a⟩:=h
 refine ⟨n,fun e=>?_,fun o=>?_,fun q o=>?_,?_⟩
 ·rw [e] at k;simp at k
 ·rcases g with ((g | g) | ⟨g,j⟩) | ⟨g,j⟩
  ·omega
  ·exact .inl g
  ·exact .inr (.inl ⟨aQ g,aQ j⟩)
  ·exact .inr (.inr ⟨aQ g,aQ j⟩)
 ·rcases b with b | b | b | b | b | b
  ·omega
  ·omega
  ·exact .inl b
  ·exact .inr (.inl (aQ b))
  ·exact .inr (.inr (.inl (aQ b)))
  ·exact .inr (.inr (.inr (aQ b)))
 ·rcases a with a | a
  ·exact .inl a
  ·right
   cases hu:l[x.1]? with
   | none=>rw [hu] at a;simp at a
   | some u=>
    cases hv:l[y.1]? with
    | none=>rw [hu,hv] at a;simp at a
    | some v=>
     rw [hu,hv] at a
     simp only [Bool.and_eq_true] at a
     exact ⟨u,v,rfl,rfl,a.1,a.2⟩

theorem Xbd {i:Nat} {x o:Oper} {v:Value} {a:Act} {w:World} {K:Act→World→Prop} (hnd:∀ (j:Nat) (o:Oper),ops[j]?=some o→W7 o.op=true) (hselo:∀ cs b,o.op≠.select cs b)
  (hQ:∀ c a w,¬ Q (.panic c) a w) (ho:ops[i]?=some o) (hap:x.apart ops o=true) (h:wpOpIn (Yy rd) 0 P ops Q i K a w):
  wpOpIn (Yy rd) 0 P ops Q i (fun a' w'=>∃ a1,a'=a1.put x.dst v∧K a1 w') (a.put x.dst v) w:=by
 obtain ⟨B,G,H⟩:=Oper.apart_spec hap
 have g:∀ (a:Act) u,(a.put x.dst v).put o.dst u=(a.put o.dst u).put x.dst v:=fun a u=>Act.put_comm a v u G
 unfold wpOpIn at *
 have D:=hnd i o ho
 simp only [ho] at *
 rw [wanted_put o a x.dst v B]
 split
 ·rename_i A
  simp only [A,if_true] at h
  refine ⟨fun _ _=>trivial,?_⟩
  have k:=h.2
  change Oper.uponIn _ _ _ _ _ _ _ ((o.semAt rd a.eval).run P w) at k
  show Oper.uponIn _ _ _ _ _ _ _ ((o.semAt rd (a.put x.dst v).eval).run P w)
  rw [Zc5 D] at k ⊢
  rw [execOp_put o hselo a x.dst v B]
  generalize (execOp a.eval o).run P w=r at *
  cases r with
  | ok n w'=>
   cases n <;> simp only [Oper.uponIn] at k ⊢
   case value u=>exact ⟨_,g a u,k⟩
   case skip=>exact ⟨_,g a undef,k⟩
   case defer d=>
    refine ⟨({ a with defers:=d :: a.defers }:Act).put o.dst undef,?_,k⟩
    rw [← g]
    cases x.dst <;> cases o.dst <;> rfl
   case enter f args=>
    refine ⟨k.1,CallsIn.mono k.2 fun e s q=>?_⟩
    cases e with
    | returned u=>exact ⟨_,g a u,q⟩
    | panicked c=>exact absurd q (hQ _ _ _)
    | outgrown=>exact q
   case row row args=>exact ⟨k.1,RowsIn.mono k.2 fun u s q=>⟨_,g a u,q⟩⟩
   case round l f tmps assign body=>
    refine ⟨k.1,RoundIn.mono k.2 fun e s q=>?_⟩
    cases e with
    | returned u=>exact ⟨_,g a u,q⟩
    | panicked c=>exact absurd q (hQ _ _ _)
    | outgrown=>exact q
  | halt x w'=>
   cases x <;> simp only [Oper.uponIn] at k ⊢
   exact absurd k (hQ _ _ _)
 ·rename_i A
  simp only [A] at h
  exact ⟨fun _ _=>trivial,_,g a undef,h.2⟩

theorem Z99 {l:List Oper} {C C':World→Prop} {x u:Oper} {i:Nat} {v:Value} {K K':Act→Prop} {a:Act} (hselu:∀ cs b,u.op≠.select cs b) (hu:l.toArray[i]?=some u) (hap:x.apart l.toArray u=true) (hC:∀ w,C' w→C w) (hK:∀ a,K a→K' (a.put x.dst v)) (h:Vg P l.toArray C i K a):
  Vg P l.toArray C' i K' (a.put x.dst v):=by
 obtain ⟨n,o,s⟩:=Oper.apart_spec hap
 unfold Vg at h ⊢
 simp only [hu] at h ⊢
 rw [wanted_put u a x.dst v n]
 rcases h with ⟨j,g,q,k⟩ | ⟨j,k⟩
 ·refine .inl ⟨j,g,fun w r=>by rw [execOp_put u hselu a x.dst v n];exact q w (hC w r),?_⟩
  rw [Act.put_comm a v g o];exact hK _ k
 ·refine .inr ⟨j,?_⟩
  rw [Act.put_comm a v undef o];exact hK _ k

theorem W3.done {l:List Oper} {ms:List Nat} (hnd:∀ (j:Nat) (o:Oper),l.toArray[j]?=some o→W7 o.op=true) (hsel:∀ (j:Nat) (o:Oper),l.toArray[j]?=some o→∀ cs b,o.op≠.select cs b)
  (hQ:∀ c a w,¬ Q (.panic c) a w) (i:Nat) (o:Oper) (cs:Array Value) (T:TypeId) (ho:l.toArray[i]?=some o) (hf:Ze0 P o cs T) (g:Nat) (r2:List (Nat×Nat)):
  ∀ (r1:List (Nat×Nat)) (C:World→Prop) (F:Nat→Prop) (a:Act),(r1++(i,4) :: r2).Pairwise (fun x y=>Zev l ms x y=true)→(∀ x ∈ r1,Yg (ms.getD i 0) x.1=false)→F g→
   W3 P rd l.toArray Q (r1++(i,4) :: r2) C F a→W3 P rd l.toArray Q (r1++r2) (fun w=>C w∧U9 cs T g w) (Zat g F) (a.put o.dst (.pointer (some ⟨g,0,none⟩))):=by
 intro r1
 induction r1 with
 | nil=>
  intro C F a _ _ n h
  simp only [cB,W3,if_true] at h
  obtain ⟨o',X,T',Y,h2,q⟩:=h
  rw [ho] at Y;cases Y
  have e:X=cs∧T'=T:=by
   have q1:=h2.2 (fun _=>undef) default
   have D:=hf.2 (fun _=>undef) default
   rw [q1] at D
   simp only [Result.ok.injEq,true_and] at D
   have:=congrArg (fun w:World=>w.heap[(default:World).heap.size]?) D
   simp only [World.alloc_heap_new,Option.some.injEq,Obj.cells.injEq] at this
   exact ⟨this.1,this.2.1⟩
  obtain ⟨rfl,rfl⟩:=e
  exact q g n
 | cons x r W=>
  intro C F a G B n h
  obtain ⟨x,H⟩:=x
  simp only [cK,cT] at G
  obtain ⟨q1,D,Z,q4,q5⟩:=Zmz (G.1 (i,4) (by simp))
  have I:=B (x,H) (by simp)
  simp only at q1 D Z q4 q5 I
  obtain ⟨u,v,hu,hv,a2,J⟩:=q5.resolve_left (by rw [I];simp)
  have k:l.toArray[x]?=some u:=by simpa using hu
  have O:l.toArray[i]?=some v:=by simpa using hv
  rw [ho] at O;cases O
  have S:H<2∨H=3∨H=4:=by
   rcases bW H 2 with h | h
   ·exact .inl h
   ·rcases Z h with q | q | q
    ·rw [I] at q;cases q
    ·exact .inr (.inl q.1)
    ·exact .inr (.inr q.1)
  simp only [cK,W3] at h ⊢
  rcases S with S | rfl | rfl
  ·rw [if_neg (by omega),if_neg (by omega)] at h ⊢
   exact Z99 (hsel x u k) k J (fun w M=>M.imp id fun h=>h.1) (fun a' h=>W C F a' G.2 (fun y L=>B y (by simp [L])) n h) h
  ·rw [if_neg (by decide),if_pos (by decide)] at h ⊢
   intro w ⟨hC,hZ⟩
   refine wpOpIn_mono (fun a' w' ⟨a1,e,C',F',k1,k2,k3,k4⟩=>?_) (Xbd hnd (hsel x u k) hQ k J (h w hC))
   obtain ⟨k5,k6,k7⟩:=k3 rfl
   have a8:U9 cs T g w':=(k6 g hZ.lt).trans hZ
   refine ⟨fun w=>C' w∧U9 cs T g w,Zat g F',⟨k1,a8⟩,k2.zm,fun _=>⟨fun w M=>⟨k5 w M.1,M.2⟩,k6,fun x B n=>⟨k7 x B n.1,n.2⟩⟩,?_⟩
   rw [e]
   exact W C' F' a1 G.2 (fun y L=>B y (by simp [L])) (k7 g hZ.lt n) k4
  ·rw [if_pos rfl] at h ⊢
   obtain ⟨o2,A,T2,U,a9,h⟩:=h
   rw [k] at U;cases U
   refine ⟨u,A,T2,k,a9,fun s V=>?_⟩
   have h4:=W (fun w=>C w∧U9 A T2 s w) (Zat s F) (a.put u.dst (.pointer (some ⟨s,0,none⟩))) G.2 (fun y L=>B y (by simp [L])) ⟨n,Ne.symm V.2⟩ (h s V.1)
   have e1:(fun w=>(C w∧U9 A T2 s w)∧U9 cs T g w)=fun w=>(C w∧U9 cs T g w)∧U9 A T2 s w:=funext fun w=>propext ⟨fun h=>⟨⟨h.1.1,h.2⟩,h.1.2⟩,fun h=>⟨⟨h.1.1,h.2⟩,h.1.2⟩⟩
   have e2:Zat g (Zat s F)=Zat s (Zat g F):=funext fun x=>propext ⟨fun h=>⟨⟨h.1.1,h.2⟩,h.1.2⟩,fun h=>⟨⟨h.1.1,h.2⟩,h.1.2⟩⟩
   rw [e1,e2,Act.put_comm a _ _ (Oper.apart_spec a2).2.1] at h4
   exact h4

theorem W3.pull {l:List Oper} {ms:List Nat} (hnd:∀ (j:Nat) (o:Oper),l.toArray[j]?=some o→W7 o.op=true) (hsel:∀ (j:Nat) (o:Oper),l.toArray[j]?=some o→∀ cs b,o.op≠.select cs b)
  (hQ:∀ c a w,¬ Q (.panic c) a w) (i k:Nat) (hk4:k≠4) (r2:List (Nat×Nat)):∀ (r1:List (Nat×Nat)) (C:World→Prop) (F:Nat→Prop) (a:Act) (w:World),(r1++(i,k) :: r2).Pairwise (fun x y=>Zev l ms x y=true)→(∀ x ∈ r1,Yg (ms.getD i 0) x.1=false)→Sz C F→C w→
   W3 P rd l.toArray Q (r1++(i,k) :: r2) C F a→wpOpIn (Yy rd) 0 P l.toArray Q i (fun a' w'=>∃ (C':World→Prop) (F':Nat→Prop),C' w'∧Sz C' F'∧((k<2∨k=3)→∀ w,C' w→C w)∧W3 P rd l.toArray Q (r1++r2) C' F' a') a w:=by
 intro r1
 induction r1 with
 | nil=>
  intro C F a w _ _ O H h
  simp only [cB,W3] at h
  rw [if_neg hk4] at h
  split at h
  ·rename_i S
   exact wpOpIn_mono (fun a' w' ⟨C',F',s,A,q,I⟩=>⟨C',F',s,A,fun h=>(q (by omega)).1,I⟩) (h w H)
  ·rename_i S
   exact wpOpIn_mono (fun a' w' ⟨s,A⟩=>⟨C,F,s ▸ H,O,fun _ _ h=>h,A⟩) (Ztg hnd (.inr H) h)
 | cons x r ih=>
  intro C F a w U Y O H h
  obtain ⟨x,kx⟩:=x
  simp only [cK,cT] at U
  obtain ⟨q1,q2,Z,q4,q5⟩:=Zmz (U.1 (i,k) (by simp))
  have n:=Y (x,kx) (by simp)
  simp only at q1 q2 Z q4 q5 n
  have a2:kx<2:=by
   rcases bW kx 2 with h | h
   ·exact h
   ·rcases Z h with q | q | q
    ·rw [q] at n;cases n
    ·exact absurd q.2 hk4
    ·exact absurd q.2 hk4
  obtain ⟨u,v,hu,hv,a3,_⟩:=q5.resolve_left (by rw [n];simp)
  have J:l.toArray[x]?=some u:=by simpa using hu
  have M:l.toArray[i]?=some v:=by simpa using hv
  simp only [cK,W3] at h ⊢
  rw [if_neg (by omega),if_neg (by omega)] at h
  unfold Vg at h
  simp only [J] at h
  have fin:∀ (g:Value),((Region.wanted u (yielded l.toArray a.tmps)=true∧∀ w,(kx=1∨C w)→(execOp a.eval u).run P w= .ok (.value g) w)∨(Region.wanted u (yielded l.toArray a.tmps)=false∧g=undef))→
    W3 P rd l.toArray Q (r++(i,k) :: r2) C F (a.put u.dst g)→wpOpIn (Yy rd) 0 P l.toArray Q i (fun a' w'=>∃ (C':World→Prop) (F':Nat→Prop),C' w'∧Sz C' F'∧((k<2∨k=3)→∀ w,C' w→C w)∧
     W3 P rd l.toArray Q ((x,kx) :: (r++r2)) C' F' a') a w:=by
   intro g V hm
   have s:=ih C F (a.put u.dst g) w U.2 (fun y hy=>Y y (by simp [hy])) O H hm
   have A:=Zt9 hnd (hsel x u J) (hsel i v M) hQ M a3 s
   refine wpOpIn_mono (fun a' w' ⟨⟨e1,e2⟩,C',F',q,a4,I,h5⟩=>⟨C',F',q,a4,I,?_⟩) A
   simp only [W3]
   rw [if_neg (by omega),if_neg (by omega)]
   unfold Vg
   simp only [J]
   rw [e2,e1]
   rcases V with ⟨B,W⟩ | ⟨B,rfl⟩
   ·refine .inl ⟨B,g,fun w G=>W w ?_,h5⟩
    rcases G with G | G
    ·exact .inl G
    ·by_cases S:k<2
     ·exact .inr (I (.inl S) w G)
     ·rcases q4 (by omega) a2 with D | D | D | D
      ·rw [D] at n;cases n
      ·exact .inl D
      ·exact .inr (I (.inr D) w G)
      ·exact absurd D hk4
   ·exact .inr ⟨B,h5⟩
  have L:=fun g s A=>by have:=fin g s A;simpa only [W3] using this
  rcases h with ⟨B,g,W,X⟩ | ⟨B,X⟩
  ·exact L g (.inl ⟨B,W⟩) X
  ·exact L undef (.inr ⟨B,rfl⟩) X

theorem Z8l {l:List Oper} {ms:List Nat} (hms:∀ k j,Yg (ms.getD k 0) j=true→V9 l.toArray k j) (hnd:∀ (j:Nat) (o:Oper),l.toArray[j]?=some o→W7 o.op=true) (hsel:∀ (j:Nat) (o:Oper),l.toArray[j]?=some o→∀ cs b,o.op≠.select cs b)
  (hdir:∀ (i:Nat) (o:Oper),l[i]?=some o→∀ e ∈ o.after,Region.binds .any e=true→e.on<i∧Yg (ms.getD i 0) e.on=true) (hQ:∀ c a w,¬ Q (.panic c) a w):
  ∀ (fuel:Nat) (listed:Array Bool) (a:Act) (w:World) (rem:List (Nat×Nat)) (C:World→Prop) (F:Nat→Prop),rem.Pairwise (fun x y=>Zev l ms x y=true)→listed.size=l.length→
   (∀ i,(∃ k,(i,k) ∈ rem)↔i<l.length∧listed.getD i true=false)→(∀ i j,listed.getD i false=true→V9 l.toArray i j→listed.getD j false=true)→rem.length≤fuel→Sz C F→C w→(∀ i,(i,4) ∈ rem→∃ o cs T,l.toArray[i]?=some o∧Ze0 P o cs T)→W3 P rd l.toArray Q rem C F a→
   wpAnyIn (Yy rd) 0 P .any l.toArray Q fuel listed a w:=by
 have a2:∀ (listed:Array Bool) (rem:List (Nat×Nat)),listed.size=l.length→rem.Pairwise (fun x y=>Zev l ms x y=true)→(∀ i,(∃ k,(i,k) ∈ rem)↔i<l.length∧listed.getD i true=false)→
   Region.ready .any l.toArray listed=[]→rem=[]:=by
  intro listed rem hs G v h0
  cases rem with
  | nil=>rfl
  | cons x r=>
   exfalso
   have q:=(v x.1).1 ⟨x.2,by simp⟩
   have S:x.1 ∈ Region.ready .any l.toArray listed:=by
    refine mem_ready.2 ⟨q.2,l[x.1]'q.1,by simp,fun e U H=>?_⟩
    obtain ⟨u,hd⟩:=hdir x.1 (l[x.1]'q.1) (by simp) e U H
    cases hl:listed.getD e.on false with
    | true=>rfl
    | false=>
     exfalso
     obtain ⟨k,J⟩:=(v e.on).2 ⟨by omega,by rw [Zho (by omega) true false];exact hl⟩
     rcases bK.1 J with h | h
     ·rw [← h] at u;exact Nat.lt_irrefl _ u
     ·have:=(Zmz ((cT.1 G).1 (e.on,k) h)).1
      rw [hd] at this;cases this
   rw [h0] at S;cases S
 intro fuel
 induction fuel with
 | zero=>
  intro listed a w rem C F G hs v A V W L X h
  obtain rfl:rem=[]:=List.eq_nil_of_length_eq_zero (by omega)
  refine ⟨?_,h w L⟩
  rw [List.eq_nil_iff_forall_not_mem]
  intro j B
  obtain ⟨h1,o,D,_⟩:=mem_ready.1 B
  have u:j<l.length:=by simpa using (Array.getElem?_eq_some_iff.1 D).1
  obtain ⟨k,J⟩:=(v j).2 ⟨u,h1⟩
  cases J
 | succ fuel ih=>
  intro listed a w rem C F G hs v A V W L X h
  refine ⟨fun h0=>?_,fun i hi=>?_⟩
  ·obtain rfl:=a2 listed rem hs G v h0
   exact h w L
  ·obtain ⟨h1,o,D,Y⟩:=mem_ready.1 hi
   have u:i<l.length:=by simpa using (Array.getElem?_eq_some_iff.1 D).1
   obtain ⟨k,J⟩:=(v i).2 ⟨u,h1⟩
   obtain ⟨M,Z,rfl⟩:=List.append_of_mem J
   have a0:∀ j,V9 l.toArray i j→listed.getD j false=true:=by
    intro j B
    cases B with
    | one n U H a1=>rw [D] at n;cases n;rw [← a1];exact Y _ U H
    | more n U H a1 g=>rw [D] at n;cases n;exact A _ j (by rw [← a1];exact Y _ U H) g
   have a8:=List.pairwise_append.1 G
   have b3:∀ x ∈ M,x.1≠i:=fun x q=>(Zmz (a8.2.2 x q (i,k) (by simp))).2.1
   have b4:∀ x ∈ Z,x.1≠i:=fun x q=>Ne.symm (Zmz ((cT.1 a8.2.1).1 x q)).2.1
   have a9:∀ x ∈ M,Yg (ms.getD i 0) x.1=false:=fun x q=>by
    cases H:Yg (ms.getD i 0) x.1 with
    | false=>rfl
    | true=>
     exfalso
     have h2:=a0 x.1 (hms i x.1 H)
     have h3:=(v x.1).1 ⟨x.2,by simp [q]⟩
     rw [Zho (by omega) true false,h2] at h3
     cases h3.2
   have a4:wpOpIn (Yy rd) 0 P l.toArray Q i (fun a' w'=>∃ (I:World→Prop) (O:Nat→Prop),I w'∧Sz I O∧W3 P rd l.toArray Q (M++Z) I O a') a w:=by
    by_cases hk4:k=4
    ·subst hk4
     obtain ⟨o',cs,T,n,hf⟩:=X i J
     rw [D] at n;cases n
     have hd:=W3.done (rd:=rd) hnd hsel hQ i o cs T D hf w.heap.size Z M C F a G a9 (W.1 w L) h
     unfold wpOpIn
     simp only [D]
     have hw:Region.wanted o (yielded l.toArray a.tmps)=true:=by unfold Region.wanted;rw [hf.1]
     rw [hw]
     refine ⟨fun _ _=>trivial,?_⟩
     show Oper.uponIn _ _ _ _ _ _ _ ((o.semAt rd a.eval).run P w)
     rw [Zc5 (hnd i o D),hf.2]
     exact ⟨_,Zat w.heap.size F,⟨W.2 w _ L,World.alloc_heap_new w _⟩,W.zm,hd⟩
    ·exact wpOpIn_mono (fun a' w' ⟨I,O,q1,q2,_,q4⟩=>⟨I,O,q1,q2,q4⟩) (W3.pull (rd:=rd) hnd hsel hQ i k hk4 Z M C F a w G a9 W L h)
   refine wpOpIn_mono (fun a' w' ⟨I,O,q1,q2,q3⟩=>ih _ a' w' (M++Z) I O (G.sublist (List.Sublist.append (List.Sublist.refl _) (List.sublist_cons_self _ _))) (by simpa using hs) (fun j=>?_) (fun x j q B=>?_) (by simp at V ⊢;omega) q2 q1 (fun j B=>X j (by simp only [aY,bK] at B ⊢;exact B.imp id .inr)) q3) a4
   ·by_cases hji:j=i
    ·subst hji
     constructor
     ·rintro ⟨k',g⟩
      rcases aY.1 g with s | s
      ·exact absurd rfl (b3 _ s)
      ·exact absurd rfl (b4 _ s)
     ·rintro ⟨_,s⟩
      have:j<listed.size:=by omega
      simp [Array.getD_eq_getD_getElem?,this] at s
    ·rw [getD_set_ne true (Ne.symm hji),← v j]
     constructor
     ·rintro ⟨k',g⟩
      refine ⟨k',?_⟩
      simp only [aY,bK] at g ⊢
      exact g.elim .inl fun h=>.inr (.inr h)
     ·rintro ⟨k',g⟩
      refine ⟨k',?_⟩
      simp only [aY,bK] at g ⊢
      rcases g with s | s | s
      ·exact .inl s
      ·exact absurd (congrArg Prod.fst s) hji
      ·exact .inr s
   ·by_cases hxi:x=i
    ·subst hxi;exact getD_set_true (a0 j B)
    ·rw [getD_set_ne false (Ne.symm hxi)] at q
     exact getD_set_true (A x j q B)
end

/-! ### colours:what is new bears none that anybody has -/
def Zd (w:World) (col:Zg):Zg:=fun k=>if k<w.heap.size then col k else 497
def Zx (g c:Nat) (col:Zg):Zg:=fun k=>if k=g then c else col k
section
variable {col c3:Zg} {w w2 w3:World}
theorem Zu.clip (p:Nat→Bool) (col:Zg) (w:World):Zu p col w (Zd w col) w:=⟨aV _,fun _ a _=>if_pos a,fun _ _ _=>rfl,⟨rfl,rfl,rfl⟩⟩
theorem Y3:Sz (fun w'=>Zl (Zd w col) w (Zd w col) w') (fun g=>Zd w col g=497):=
 ⟨fun w' h=>if_neg (by have:=h.below.size;omega),fun w' o h=>h.trans (Zl.of_below ((Below.refl _ w').alloc (aV _) o))⟩
theorem Wy (hg:Zl col w2 c3 w3):∀ g,g<w2.heap.size→col g=497→Zd w3 c3 g=497:=fun g a b=>by
 unfold Zd
 rw [if_pos (Nat.lt_of_lt_of_le a hg.below.size),hg.tint g a,b]
theorem Q7 {cs:Array Value} {T:TypeId} {g:Nat} (c:Nat) (hZ:U9 cs T g w) (hF:col g=497):Zu (p1 497) col w (Zx g c col) w∧Zi T c (Zx g c col) w g cs:=
 ⟨⟨aV _,fun k _ a=>if_neg fun e=>by subst e;rw [hF] at a;exact absurd a (by decide),fun _ _ _=>rfl,⟨rfl,rfl,rfl⟩⟩,if_pos rfl,hZ⟩
end

section
variable {P:Program} {m:Nat} {rd:Option Nat} {l:List Oper} {N R:Fr→World→Prop} {E:Nat→Fr→World→Prop} {f:Fr} {π:List (Nat×Nat)} {C:World→Prop} {F:Nat→Prop} {i d t:Nat} {p:String} {af:Array Edge} {op:Op}
def Zaz (P:Program) (m:Nat) (rd:Option Nat) (l:List Oper) (N R:Fr→World→Prop) (E:Nat→Fr→World→Prop) (π:List (Nat×Nat)) (C:World→Prop) (F:Nat→Prop) (f:Fr):Prop:=
 ∀ a,Y8 m a f→W3 P rd l.toArray (T5 m N R E) π C F a
theorem V5 {T:TypeId} {v:Value} (hz:∀ w,(zeroValue T).run P w= .ok v w):Ze0 P ⟨some d,.alloc T,t,p,af,none⟩ v.cells T:=
 ⟨rfl,fun ev w=>by simp [execOp,hz,Instr.alloc,newVar,newRow]⟩
def Zrt (P:Program) (l:List Oper):List (Nat×Nat)→Prop
 | []=>True
 | x :: r=>(x.2=4→∃ o cs T,l[x.1]?=some o∧Ze0 P o cs T)∧Zrt P l r
theorem Zxi:∀ {π:List (Nat×Nat)},Zrt P l π→∀ x ∈ π,x.2=4→∃ o cs T,l[x.1]?=some o∧Ze0 P o cs T
 | [],_,_,h=>by cases h
 | y :: r,h,x,a=>by
  rcases bK.1 a with rfl | a
  ·exact h.1
  ·exact Zxi h.2 x a
theorem Zbz {i:Nat} {w:World} {col:Zg} (π:List (Nat×Nat)) (hm:P.follows .mixedOrders=true) (hB:(Zys l π&&Zhb l)=true) (hf:Zrt P l π)
  (h:Zaz P m rd l N R E π (fun w'=>Zl (Zd w col) w (Zd w col) w') (fun g=>Zd w col g=497) f):Wp P m rd (.region i l.toArray true) N R E f w:=by
 intro a L
 simp only [Zys,Bool.and_eq_true,cW,List.mem_range,List.any_eq_true,Nat.blt_eq] at hB
 obtain ⟨⟨⟨⟨⟨⟨M,O⟩,S⟩,U⟩,A⟩,V⟩,D⟩:=hB
 have A:=aQ A
 have u:∀ k j,Yg ((Uu l []).getD k 0) j=true→V9 l.toArray k j:=fun k j v=>by
  cases s:(Uu l [])[k]? with
  | none=>rw [aD,s] at v;simp [Yg] at v
  | some W=>rw [aD,s] at v;exact Zsg (l:=l) l [] (fun j=>by simp) (by simp) k W s j v
 refine wpIn_region_any hm (Z8l (ms:=Uu l []) u (fun j o q=>O o (List.mem_of_getElem? (by simpa using q))) (fun j o q B b=>Region.noSelect_spec M j o B b q) (fun i o q e G H=>⟨?_,?_⟩) (fun c a w X=>X)
  _ _ _ _ π _ _ (Zy9 V) (by simp) (fun i=>?_) (fun i j r _=>?_) (by simp [A]) (Y3 (w:=w) (col:=col)) ((Zl.refl _ w).drew) (fun i r=>?_) (h a L))
 ·simp only [Zhb,cW] at D
  have:=D (o,i) (by rw [List.mem_zipIdx_iff_getElem?];exact q)
  have n:=(Array.all_eq_true_iff_forall_mem.1 this) e G
  simpa [H] using n
 ·obtain ⟨Y,n⟩:=Zpf l [] i o q
  simp only [List.length_nil,Nat.zero_add] at n
  rw [aD,n]
  exact Zsf G H
 ·constructor
  ·rintro ⟨k,s⟩
   have n:=U _ s
   have:i<(Array.replicate l.toArray.size false).size:=by simpa using n
   refine ⟨n,?_⟩
   simp only [Array.getD_eq_getD_getElem?,Array.getElem?_eq_getElem this,cO]
   simp
  ·rintro ⟨I,_⟩
   obtain ⟨x,Z,J⟩:=S i I
   exact ⟨x.2,by rw [← aQ J];exact Z⟩
 ·exfalso
  rcases bW i l.toArray.size with n | n
  ·have:i<(Array.replicate l.toArray.size false).size:=by simpa using n
   simp only [Array.getD_eq_getD_getElem?,Array.getElem?_eq_getElem this,cO] at r
   simp at r
  ·have hn:(Array.replicate l.toArray.size false)[i]?=none:=Array.getElem?_eq_none (by simpa using n)
   rw [Array.getD_eq_getD_getElem?,hn] at r
   simp at r
 ·obtain ⟨o,B,T,n,h9⟩:=Zxi hf (i,4) r rfl
  exact ⟨o,B,T,by simpa using n,h9⟩
theorem Zb1 (h:∀ w,C w→N f w):Zaz P m rd l N R E [] C F f:=fun _ a w b=>⟨f,a,h w b⟩
theorem Wa {v:Value} (ho:l[i]?=some ⟨some d,op,t,p,af,none⟩) (hd:aR d m=true) (hr:∀ w,C w→(execOp (ev f) ⟨some d,op,t,p,af,none⟩).run P w= .ok (.value v) w) (k:Zaz P m rd l N R E π C F (Z3 f d v)):
  Zaz P m rd l N R E ((i,0) :: π) C F f:=by
 intro a b
 simp only [W3]
 rw [if_neg (by decide),if_neg (by decide)]
 unfold Vg
 have g:l.toArray[i]?=some ⟨some d,op,t,p,af,none⟩:=by simpa using ho
 simp only [g]
 exact .inl ⟨rfl,v,fun w j=>by rw [b.eval];exact hr w (j.resolve_left (by decide)),k _ (b.put (d:=some d) hd v)⟩
theorem X3 {v:Value} (ho:l[i]?=some ⟨some d,op,t,p,af,none⟩) (hd:aR d m=true) (hr:∀ w,(execOp (ev f) ⟨some d,op,t,p,af,none⟩).run P w= .ok (.value v) w) (k:Zaz P m rd l N R E π C F (Z3 f d v)):
  Zaz P m rd l N R E ((i,1) :: π) C F f:=by
 intro a b
 simp only [W3]
 rw [if_neg (by decide),if_neg (by decide)]
 unfold Vg
 have g:l.toArray[i]?=some ⟨some d,op,t,p,af,none⟩:=by simpa using ho
 simp only [g]
 exact .inl ⟨rfl,v,fun w _=>by rw [b.eval];exact hr w,k _ (b.put (d:=some d) hd v)⟩
theorem Zaw {cs:Array Value} {T:TypeId} (ho:l[i]?=some ⟨some d,op,t,p,af,none⟩) (hd:aR d m=true) (hf:Ze0 P ⟨some d,op,t,p,af,none⟩ cs T)
  (k:∀ g,F g→Zaz P m rd l N R E π (fun w=>C w∧U9 cs T g w) (Zat g F) (Z3 f d (.pointer (some ⟨g,0,none⟩)))):Zaz P m rd l N R E ((i,4) :: π) C F f:=by
 intro a j
 simp only [W3,if_true]
 have b:l.toArray[i]?=some ⟨some d,op,t,p,af,none⟩:=by simpa using ho
 exact ⟨_,cs,T,b,hf,fun g n=>k g n _ (j.put (d:=some d) hd _)⟩
theorem Y6 {kd:Nat} {o:Oper} (ho:l[i]?=some o) (hkd:(cV 2 kd&&cV kd 3)=true) (k:∀ w,C w→Zv P m rd l.toArray (fun f1 w1=>∃ (C':World→Prop) (F':Nat→Prop),C' w1∧Sz C' F'∧(kd=3→(∀ w,C' w→C w)∧(∀ b,b<w.heap.size→w1.heap[b]?=w.heap[b]?)∧∀ g,g<w.heap.size→F g→F' g)∧Zaz P m rd l N R E π C' F' f1) [o] f w):Zaz P m rd l N R E ((i,kd) :: π) C F f:=by
 intro a A
 simp only [Bool.and_eq_true,Nat.ble_eq] at hkd
 simp only [W3]
 rw [if_neg (by omega),if_pos hkd.1]
 intro w B
 have n:=k w B a A (fun e q j=>e= .normal∧∃ (C':World→Prop) (F':Nat→Prop),C' j∧Sz C' F'∧(kd=3→(∀ w,C' w→C w)∧(∀ b,b<w.heap.size→j.heap[b]?=w.heap[b]?)∧∀ g,g<w.heap.size→F g→F' g)∧W3 P rd l.toArray (T5 m N R E) π C' F' q)
  (fun q J j D ⟨C',F',q1,G,H,I⟩=>⟨rfl,C',F',q1,G,H,I _ D⟩)
 have s:l.toArray[i]?=some o:=by simpa using ho
 unfold wpListIn at n
 unfold wpOpIn
 simp only [s]
 split
 ·rename_i r
  simp only [r,if_true] at n
  have u:=Oper.wpIn_mono (K':=fun q j=>∃ (C':World→Prop) (F':Nat→Prop),C' j∧Sz C' F'∧(kd=3→(∀ w,C' w→C w)∧(∀ b,b<w.heap.size→j.heap[b]?=w.heap[b]?)∧∀ g,g<w.heap.size→F g→F' g)∧W3 P rd l.toArray (T5 m N R E) π C' F' q) (fun q j h=>by simp only [wpListIn] at h;exact h.2) n
  exact ⟨u.1,Zt3 (fun e q j v h=>absurd h.1 v) u.2⟩
 ·rename_i r
  simp only [r] at n
  refine ⟨n.1,?_⟩
  have:=n.2
  simp only [wpListIn] at this
  exact this.2
end
section
variable {P:Program} {m:Nat} {rd:Option Nat} {f:Fr} {w:World} {ops:Array Oper} {K:Fr→World→Prop} {rest:List Oper} {d t:Nat} {p:String} {af:Array Edge} {x:Operand}
theorem lM (v:Value) (k:Zv P m rd ops K rest (Z3 f d v) w) (h:ev f x=v:=by rfl) (hd:aR d m=true:=by rfl):Zv P m rd ops K (⟨some d,.move x,t,p,af,none⟩ :: rest) f w:=lV v (Wn h) k hd
theorem lA (v:Value) (k:Zv P m rd ops K rest (Z3 f d v) w) (h:ev f x=v:=by rfl) (hd:aR d m=true:=by rfl):Zv P m rd ops K (⟨some d,.assign x,t,p,af,none⟩ :: rest) f w:=lV v (Uf h) k hd
end
/-! shorter words for frequent steps -/
section
variable {P:Program} {m:Nat} {rd:Option Nat} {f:Fr} {col:Zg} {w:World} {ops:Array Oper} {K:Fr→World→Prop} {rest:List Oper} {d d2 t t2:Nat} {p p2:String} {af af2:Array Edge} {x y:Operand} {T T2 e c:Nat}
theorem lF {fs:Array Field} {i sz:Nat} {fd:Field} (g off:Nat) (hT:P.underlying T=some (.struct fs)) (hf:fs[i]?=some fd) (hs:∀ w,(sizeOf fd.type).run P w= .ok sz w)
  (k:Zv P m rd ops K rest (Z3 f d (.pointer ((some (⟨g,0,none⟩:Addr)).map (·.add off)))) w) (h0:sz≠0:=by decide) (ho:fd.offset=off:=by rfl) (hx:ev f x= .pointer (some ⟨g,0,none⟩):=by rfl) (hd:aR d m=true:=by rfl):
  Zv P m rd ops K (⟨some d,.fieldAddr T x i,t,p,af,none⟩ :: rest) f w:=lV _ (Un hT hf hs h0 ho hx ⟨_,_,rfl⟩) k hd
theorem lL {cs:Array Value} {v:Value} (g off:Nat) (ha:∀ w,(isAgg T).run P w= .ok false w) (h:Zi e c col w g cs) (hv:cs.toList[off]?=some v)
  (k:Zv P m rd ops K rest (Z3 f d v) w) (hx:ev f x= .pointer ((some (⟨g,0,none⟩:Addr)).map (·.add off)):=by rfl) (hd:aR d m=true:=by rfl):
  Zv P m rd ops K (⟨some d,.load T x,t,p,af,none⟩ :: rest) f w:=lV _ (Tu ha hx (h.atN.nth hv)) k hd
theorem lFL {fs:Array Field} {i sz:Nat} {fd:Field} {cs:Array Value} {v:Value} (g off:Nat) (hT:P.underlying T=some (.struct fs)) (hf:fs[i]?=some fd) (hs:∀ w,(sizeOf fd.type).run P w= .ok sz w)
  (ha:∀ w,(isAgg T2).run P w= .ok false w) (h:Zi e c col w g cs) (hv:cs.toList[off]?=some v)
  (k:Zv P m rd ops K rest (Z3 (Z3 f d (.pointer ((some (⟨g,0,none⟩:Addr)).map (·.add off)))) d2 v) w) (h0:sz≠0:=by decide) (ho:fd.offset=off:=by rfl) (hx:ev f x= .pointer (some ⟨g,0,none⟩):=by rfl) (hd:aR d m=true:=by rfl)
  (hy:ev (Z3 f d (.pointer ((some (⟨g,0,none⟩:Addr)).map (·.add off)))) y= .pointer ((some (⟨g,0,none⟩:Addr)).map (·.add off)):=by rfl) (hd2:aR d2 m=true:=by rfl):
  Zv P m rd ops K (⟨some d,.fieldAddr T x i,t,p,af,none⟩ :: ⟨some d2,.load T2 y,t2,p2,af2,none⟩ :: rest) f w:=lF g off hT hf hs (lL g off ha h hv k hy hd2) h0 ho hx hd
theorem Xj {cs:Array Value} (c:Nat) (hx:ev f x= .agg cs)
  (k:∀ g w' col',Zl col w col' w'→Zi e c col' w' g cs→Zv P m rd ops K rest (Z3 f d (.pointer (some ⟨g,0,none⟩))) w') (hd:aR d m=true:=by rfl):
  Zv P m rd ops K (⟨some d,.box e x,t,p,af,none⟩ :: rest) f w:=Zdn c hd hx k
theorem Xc (cs:Array Value) (c:Nat) (hz:∀ w,(zeroValue e).run P w= .ok (.agg cs) w)
  (k:∀ g w' col',Zl col w col' w'→Zi e c col' w' g cs→Zv P m rd ops K rest (Z3 f d (.pointer (some ⟨g,0,none⟩))) w') (hd:aR d m=true:=by rfl):
  Zv P m rd ops K (⟨some d,.alloc e,t,p,af,none⟩ :: rest) f w:=Za5 c hd hz k
theorem Z85 {l:List Value} (h:l.all (·.oneCell')=true):∀ u ∈ l,u.oneCell'=true:=cW.1 h
theorem Z72 {g n:Nat} {cs:Array Value} (cs':Array Value) (h:Zi e c col w g cs) (hs:∀ w,(sizeOf T).run P w= .ok n w)
  (k:∀ w',Yh c col w col w'→Yn w w'→Zi e c col w' g cs'→Zv P m rd ops K rest f w') (hx:ev f x= .pointer (some ⟨g,0,none⟩):=by rfl) (hy:ev f y= .agg cs':=by rfl) (hn:cs.size=n:=by rfl) (hv:cs'.size=n:=by rfl) (h1:cs'.toList.all (·.oneCell')=true:=by rfl):
  Zv P m rd ops K (⟨none,.store T x y,t,p,af,none⟩ :: rest) f w:=Ur (v:=.agg cs') h hs hn hv (Z85 h1) hx hy k
theorem lP {op:Op} {j:Nat} {want b:Bool} (d':Nat) (h3:f d'= .bool b) (hb:(b==want)=false)
  (k:Zv P m rd ops K rest (Z3 f d undef) w) (hd:aR d m=true:=by rfl) (h1:(ops[j]?).bind (·.dst)=some d':=by rfl) (h2:aR d' m=true:=by rfl):Zv P m rd ops K (⟨some d,op,t,p,af,some (j,want)⟩ :: rest) f w:=lp d' hd h1 h2 h3 hb k
end
section
variable {P:Program} {m:Nat} {f:Fr} {ops:Array Oper} {C:World→Prop} {K:Fr→Prop} {rest:List Oper} {d t:Nat} {p:String} {af:Array Edge} {op:Op}
theorem qP {j:Nat} {want b:Bool} (d':Nat) (h3:f d'= .bool b) (hb:(b==want)=false)
  (k:Wx P m ops C K rest (Z3 f d undef)) (hd:aR d m=true:=by rfl) (h1:(ops[j]?).bind (·.dst)=some d':=by rfl) (h2:aR d' m=true:=by rfl):Wx P m ops C K (⟨some d,op,t,p,af,some (j,want)⟩ :: rest) f:=qp d' hd h1 h2 h3 hb k
end
/-! moves:what is moved is found by its kind -/
section
variable {P:Program} {m:Nat} {rd:Option Nat} {f:Fr} {w:World} {ops:Array Oper} {K:Fr→World→Prop} {rest:List Oper} {d t:Nat} {dst:Option Nat} {p:String} {af:Array Edge} {gd:Option (Nat×Bool)} {x:Operand}
theorem Xy {k:IntKind} {n:Int} (h:ev f x= .int k n) (k:Zv P m rd ops K rest (Z3 f d (.int k n)) w) (hd:aR d m=true:=by rfl):Zv P m rd ops K (⟨some d,.move x,t,p,af,none⟩ :: rest) f w:=lV _ (Wn h) k hd
theorem Yr {k:IntKind} {n:Int} (h:ev f x= .int k n) (k:Zv P m rd ops K rest (Z3 f d (.int k n)) w) (hd:aR d m=true:=by rfl):Zv P m rd ops K (⟨some d,.assign x,t,p,af,none⟩ :: rest) f w:=lV _ (Uf h) k hd
theorem Wu {k:IntKind} {n:Int} (h:ev f x= .int k n):(execOp (ev f) ⟨dst,.move x,t,p,af,gd⟩).run P w= .ok (.value (.int k n)) w:=Wn h
theorem Zgz {k:IntKind} {n:Int} (h:ev f x= .int k n):(execOp (ev f) ⟨dst,.assign x,t,p,af,gd⟩).run P w= .ok (.value (.int k n)) w:=Uf h
theorem Td {b:Bool} (h:ev f x= .bool b) (k:Zv P m rd ops K rest (Z3 f d (.bool b)) w) (hd:aR d m=true:=by rfl):Zv P m rd ops K (⟨some d,.move x,t,p,af,none⟩ :: rest) f w:=lV _ (Wn h) k hd
theorem Zht {b:Bool} (h:ev f x= .bool b) (k:Zv P m rd ops K rest (Z3 f d (.bool b)) w) (hd:aR d m=true:=by rfl):Zv P m rd ops K (⟨some d,.assign x,t,p,af,none⟩ :: rest) f w:=lV _ (Uf h) k hd
theorem Zm9 {b:Bool} (h:ev f x= .bool b):(execOp (ev f) ⟨dst,.move x,t,p,af,gd⟩).run P w= .ok (.value (.bool b)) w:=Wn h
theorem Zbv {b:Bool} (h:ev f x= .bool b):(execOp (ev f) ⟨dst,.assign x,t,p,af,gd⟩).run P w= .ok (.value (.bool b)) w:=Uf h
theorem Wg {a:Option Addr} {n c:Nat} (h:ev f x= .slice a n c) (k:Zv P m rd ops K rest (Z3 f d (.slice a n c)) w) (hd:aR d m=true:=by rfl):Zv P m rd ops K (⟨some d,.move x,t,p,af,none⟩ :: rest) f w:=lV _ (Wn h) k hd
theorem So {a:Option Addr} {n c:Nat} (h:ev f x= .slice a n c) (k:Zv P m rd ops K rest (Z3 f d (.slice a n c)) w) (hd:aR d m=true:=by rfl):Zv P m rd ops K (⟨some d,.assign x,t,p,af,none⟩ :: rest) f w:=lV _ (Uf h) k hd
theorem V8 {a:Option Addr} {n c:Nat} (h:ev f x= .slice a n c):(execOp (ev f) ⟨dst,.move x,t,p,af,gd⟩).run P w= .ok (.value (.slice a n c)) w:=Wn h
theorem Zm6 {a:Option Addr} {n c:Nat} (h:ev f x= .slice a n c):(execOp (ev f) ⟨dst,.assign x,t,p,af,gd⟩).run P w= .ok (.value (.slice a n c)) w:=Uf h
theorem lMT {s:ByteArray} (h:ev f x= .string s) (k:Zv P m rd ops K rest (Z3 f d (.string s)) w) (hd:aR d m=true:=by rfl):Zv P m rd ops K (⟨some d,.move x,t,p,af,none⟩ :: rest) f w:=lV _ (Wn h) k hd
theorem lAT {s:ByteArray} (h:ev f x= .string s) (k:Zv P m rd ops K rest (Z3 f d (.string s)) w) (hd:aR d m=true:=by rfl):Zv P m rd ops K (⟨some d,.assign x,t,p,af,none⟩ :: rest) f w:=lV _ (Uf h) k hd
theorem r_mT {s:ByteArray} (h:ev f x= .string s):(execOp (ev f) ⟨dst,.move x,t,p,af,gd⟩).run P w= .ok (.value (.string s)) w:=Wn h
theorem r_aT {s:ByteArray} (h:ev f x= .string s):(execOp (ev f) ⟨dst,.assign x,t,p,af,gd⟩).run P w= .ok (.value (.string s)) w:=Uf h
theorem Zp0 {a:Option Addr} (h:ev f x= .pointer a):(execOp (ev f) ⟨dst,.move x,t,p,af,gd⟩).run P w= .ok (.value (.pointer a)) w:=Wn h
theorem Zz {T e c n g:Nat} {col:Zg} {cs:Array Value} (ha:∀ w,(isAgg T).run P w= .ok true w) (hs:∀ w,(sizeOf T).run P w= .ok n w) (h:Zi e c col w g cs) (hx:ev f x= .pointer (some ⟨g,0,none⟩):=by rfl) (hn:cs.size=n:=by rfl):
  (execOp (ev f) ⟨dst,.load T x,t,p,af,gd⟩).run P w= .ok (.value (.agg cs)) w:=Xi ha hs hx hn h.atN
theorem Zl.bl {c c':Zg} {w':World} (col:Zg) (h:Zl c w c' w'):Zl col w col w':=.of_below h.below
theorem gq {a b want r:Bool} (h:a=b) (e:(b==want)=r:=by rfl):(a==want)=r:=by rw [h,e]
end
theorem Z8z {b:Bool} (h:b=false):¬ b=true:=by rw [h];decide
end Go.Proofs.YtpkknichfgooaaaGreat
