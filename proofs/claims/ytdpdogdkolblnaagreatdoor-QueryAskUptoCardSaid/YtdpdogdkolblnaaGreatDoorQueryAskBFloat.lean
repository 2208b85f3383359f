/-
  A region that draws its order, in which one variable is made at a time that is left open: its operations in one order that stands for all; the variable's making stands ahead of its first use. Over any program.
-/
import Derived.Test.YtdpdogdkolblnaaGreatDoorQueryAskBTwo
namespace Go.Proofs.YtdpdogdkolblnaaGreatDoor
open Go Go.RowKit
open Go.IntKind (i8 i16 i32 i64 u8 u16 u32 u64)

def Za8 (l:List Oper) (ms:List Nat) (x y:Nat×Nat):Bool:=
 let a:=Xp (ms.getD y.1 0) x.1
 !(Xp (ms.getD x.1 0) y.1)&&!(Nat.beq x.1 y.1)&&(Nat.blt x.2 2||a||(Nat.beq x.2 3&&Nat.beq y.2 4)||(Nat.beq x.2 4&&Nat.beq y.2 4))&&(Nat.blt y.2 2||(Nat.ble 2 x.2||(a||(Nat.beq x.2 1||(Nat.beq y.2 3||Nat.beq y.2 4)))))&&
  (a||(match l[x.1]?,l[y.1]? with | some u,some v=>u.apart l.toArray v&&v.apart l.toArray u | _,_=>false))
def Zk6 (l:List Oper) (ms:List Nat):List (Nat×Nat)→Bool
 | []=>true
 | x :: r=>r.all (Za8 l ms x)&&Zk6 l ms r
def Zsa (l:List Oper) (π:List (Nat×Nat)):Bool:=
 Region.noSelect l.toArray&&l.all (fun o=>Wf o.op)&&(List.range l.length).all (fun i=>π.any fun x=>Nat.beq x.1 i)&&π.all (fun x=>Nat.blt x.1 l.length)&&Nat.beq π.length l.length&&Zk6 l (Vp l []) π

def U4 (C:World→Prop) (F:Nat→Prop):Prop:=(∀ w,C w→F w.heap.size)∧∀ w o,C w→C (w.alloc o)
def V3 (cs:Array Value) (T:TypeId) (g:Nat) (w:World):Prop:=w.heap[g]?=some (.cells cs T (0,0))
theorem V3.lt {cs:Array Value} {T:TypeId} {g:Nat} {w:World} (h:V3 cs T g w):g<w.heap.size:=(Array.getElem?_eq_some_iff.1 h).1
theorem V3.alloc {cs:Array Value} {T:TypeId} {g:Nat} {w:World} {o:Obj} (h:V3 cs T g w):V3 cs T g (w.alloc o):=(Below.heap_alloc _ _ _ h.lt).trans h
def Se (g:Nat) (F:Nat→Prop):Nat→Prop:=fun x=>F x∧x≠g
theorem U4.zm {C:World→Prop} {F:Nat→Prop} {cs:Array Value} {T:TypeId} {g:Nat} (h:U4 C F):U4 (fun w=>C w∧V3 cs T g w) (Se g F):=⟨fun w hw=>⟨h.1 w hw.1,Nat.ne_of_gt hw.2.lt⟩,fun w o hw=>⟨h.2 w o hw.1,hw.2.alloc⟩⟩
section
variable {P:Program} {m:Nat} {rd:Option Nat} {ops:Array Oper} {Q:Exit→Act→World→Prop}
def Zbh (P:Program) (o:Oper) (cs:Array Value) (T:TypeId):Prop:=o.guard=none∧∀ ev w,(execOp ev o).run P w= .ok (.value (.pointer (some ⟨w.heap.size,0,none⟩))) (w.alloc (.cells cs T (0,0)))

def Wc (P:Program) (rd:Option Nat) (ops:Array Oper) (Q:Exit→Act→World→Prop):List (Nat×Nat)→(World→Prop)→(Nat→Prop)→Act→Prop
 | [],C,_,a=>∀ w,C w→Q .normal a w
 | (i,k) :: r,C,F,a=>
  if k=4 then ∃ o cs T,ops[i]?=some o∧Zbh P o cs T∧∀ g,F g→Wc P rd ops Q r (fun w=>C w∧V3 cs T g w) (Se g F) (a.put o.dst (.pointer (some ⟨g,0,none⟩)))
  else if 2≤k then ∀ w,C w→wpOpIn (X7 rd) 0 P ops Q i (fun a' w'=>∃ (C':World→Prop) (F':Nat→Prop),C' w'∧U4 C' F'∧(k=3→(∀ w,C' w→C w)∧(∀ b,b<w.heap.size→w'.heap[b]?=w.heap[b]?)∧∀ g,g<w.heap.size→F g→F' g)∧Wc P rd ops Q r C' F' a') a w
  else Wm P ops (fun w=>k=1∨C w) i (Wc P rd ops Q r C F) a

theorem Zsv {l:List Oper} {ms:List Nat}:∀ {π:List (Nat×Nat)},Zk6 l ms π=true→π.Pairwise fun x y=>Za8 l ms x y=true
 | [],_=>.nil
 | x :: r,h=>by
  simp only [Zk6,Bool.and_eq_true,List.all_eq_true] at h
  exact .cons h.1 (Zsv h.2)
theorem Zh8 {l:List Oper} {ms:List Nat} {x y:Nat×Nat} (h:Za8 l ms x y=true):
  Xp (ms.getD x.1 0) y.1=false∧x.1≠y.1∧(2≤x.2→Xp (ms.getD y.1 0) x.1=true∨(x.2=3∧y.2=4)∨(x.2=4∧y.2=4))∧(2≤y.2→x.2<2→Xp (ms.getD y.1 0) x.1=true∨x.2=1∨y.2=3∨y.2=4)∧
  (Xp (ms.getD y.1 0) x.1=true∨∃ u v,l[x.1]?=some u∧l[y.1]?=some v∧u.apart l.toArray v=true∧v.apart l.toArray u=true):=by
 simp only [Za8,Bool.and_eq_true,Bool.not_eq_true',Bool.or_eq_true,Nat.blt_eq,Nat.ble_eq] at h
 obtain ⟨⟨⟨⟨h1,h2⟩,h3⟩,h4⟩,h5⟩:=h
 refine ⟨h1,fun e=>?_,fun hx=>?_,fun hy hx=>?_,?_⟩
 ·rw [e] at h2;simp at h2
 ·rcases h3 with ((h3 | h3) | ⟨h3,h3'⟩) | ⟨h3,h3'⟩
  ·omega
  ·exact .inl h3
  ·exact .inr (.inl ⟨Nat.eq_of_beq_eq_true h3,Nat.eq_of_beq_eq_true h3'⟩)
  ·exact .inr (.inr ⟨Nat.eq_of_beq_eq_true h3,Nat.eq_of_beq_eq_true h3'⟩)
 ·rcases h4 with h4 | h4 | h4 | h4 | h4 | h4
  ·omega
  ·omega
  ·exact .inl h4
  ·exact .inr (.inl (Nat.eq_of_beq_eq_true h4))
  ·exact .inr (.inr (.inl (Nat.eq_of_beq_eq_true h4)))
  ·exact .inr (.inr (.inr (Nat.eq_of_beq_eq_true h4)))
 ·rcases h5 with h5 | h5
  ·exact .inl h5
  ·right
   cases hu:l[x.1]? with
   | none=>rw [hu] at h5;simp at h5
   | some u=>
    cases hv:l[y.1]? with
    | none=>rw [hu,hv] at h5;simp at h5
    | some v=>
     rw [hu,hv] at h5
     simp only [Bool.and_eq_true] at h5
     exact ⟨u,v,rfl,rfl,h5.1,h5.2⟩

theorem Z30 {i:Nat} {x o:Oper} {v:Value} {a:Act} {w:World} {K:Act→World→Prop} (hnd:∀ (j:Nat) (o:Oper),ops[j]?=some o→Wf o.op=true) (hselo:∀ cs b,o.op≠.select cs b)
  (hQ:∀ c a w,¬ Q (.panic c) a w) (ho:ops[i]?=some o) (hap:x.apart ops o=true) (h:wpOpIn (X7 rd) 0 P ops Q i K a w):
  wpOpIn (X7 rd) 0 P ops Q i (fun a' w'=>∃ a1,a'=a1.put x.dst v∧K a1 w') (a.put x.dst v) w:=by
 obtain ⟨h1,h2,h3⟩:=Oper.apart_spec hap
 have hcomm:∀ (a:Act) u,(a.put x.dst v).put o.dst u=(a.put o.dst u).put x.dst v:=fun a u=>Act.put_comm a v u h2
 unfold wpOpIn at *
 have hno:=hnd i o ho
 simp only [ho] at *
 rw [wanted_put o a x.dst v h1]
 split
 ·rename_i hw
  simp only [hw,if_true] at h
  refine ⟨fun _ _=>trivial,?_⟩
  have h':=h.2
  change Oper.uponIn _ _ _ _ _ _ _ ((o.semAt rd a.eval).run P w) at h'
  show Oper.uponIn _ _ _ _ _ _ _ ((o.semAt rd (a.put x.dst v).eval).run P w)
  rw [Q5 hno] at h' ⊢
  rw [execOp_put o hselo a x.dst v h1]
  generalize (execOp a.eval o).run P w=r at *
  cases r with
  | ok n w'=>
   cases n <;> simp only [Oper.uponIn] at h' ⊢
   case value u=>exact ⟨_,hcomm a u,h'⟩
   case skip=>exact ⟨_,hcomm a undef,h'⟩
   case defer d=>
    refine ⟨({ a with defers:=d :: a.defers }:Act).put o.dst undef,?_,h'⟩
    rw [← hcomm]
    cases x.dst <;> cases o.dst <;> rfl
   case enter f args=>
    refine ⟨h'.1,CallsIn.mono h'.2 fun e w'' he=>?_⟩
    cases e with
    | returned u=>exact ⟨_,hcomm a u,he⟩
    | panicked c=>exact absurd he (hQ _ _ _)
    | outgrown=>exact he
   case row row args=>exact ⟨h'.1,RowsIn.mono h'.2 fun u w'' he=>⟨_,hcomm a u,he⟩⟩
   case round l f tmps assign body=>
    refine ⟨h'.1,RoundIn.mono h'.2 fun e w'' he=>?_⟩
    cases e with
    | returned u=>exact ⟨_,hcomm a u,he⟩
    | panicked c=>exact absurd he (hQ _ _ _)
    | outgrown=>exact he
  | halt x w'=>
   cases x <;> simp only [Oper.uponIn] at h' ⊢
   exact absurd h' (hQ _ _ _)
 ·rename_i hw
  simp only [hw] at h
  exact ⟨fun _ _=>trivial,_,hcomm a undef,h.2⟩

theorem Z27 {l:List Oper} {C C':World→Prop} {x u:Oper} {i:Nat} {v:Value} {K K':Act→Prop} {a:Act} (hselu:∀ cs b,u.op≠.select cs b) (hu:l.toArray[i]?=some u) (hap:x.apart l.toArray u=true) (hC:∀ w,C' w→C w) (hK:∀ a,K a→K' (a.put x.dst v)) (h:Wm P l.toArray C i K a):
  Wm P l.toArray C' i K' (a.put x.dst v):=by
 obtain ⟨h1,h2,h3⟩:=Oper.apart_spec hap
 unfold Wm at h ⊢
 simp only [hu] at h ⊢
 rw [wanted_put u a x.dst v h1]
 rcases h with ⟨g1,val,g2,g3⟩ | ⟨g1,g3⟩
 ·refine .inl ⟨g1,val,fun w hw=>by rw [execOp_put u hselu a x.dst v h1];exact g2 w (hC w hw),?_⟩
  rw [Act.put_comm a v val h2];exact hK _ g3
 ·refine .inr ⟨g1,?_⟩
  rw [Act.put_comm a v undef h2];exact hK _ g3

theorem Wc.done {l:List Oper} {ms:List Nat} (hnd:∀ (j:Nat) (o:Oper),l.toArray[j]?=some o→Wf o.op=true) (hsel:∀ (j:Nat) (o:Oper),l.toArray[j]?=some o→∀ cs b,o.op≠.select cs b)
  (hQ:∀ c a w,¬ Q (.panic c) a w) (i:Nat) (o:Oper) (cs:Array Value) (T:TypeId) (ho:l.toArray[i]?=some o) (hf:Zbh P o cs T) (g:Nat) (r2:List (Nat×Nat)):
  ∀ (r1:List (Nat×Nat)) (C:World→Prop) (F:Nat→Prop) (a:Act),(r1++(i,4) :: r2).Pairwise (fun x y=>Za8 l ms x y=true)→(∀ x ∈ r1,Xp (ms.getD i 0) x.1=false)→F g→
   Wc P rd l.toArray Q (r1++(i,4) :: r2) C F a→Wc P rd l.toArray Q (r1++r2) (fun w=>C w∧V3 cs T g w) (Se g F) (a.put o.dst (.pointer (some ⟨g,0,none⟩))):=by
 intro r1
 induction r1 with
 | nil=>
  intro C F a _ _ hF h
  simp only [List.nil_append,Wc,if_true] at h
  obtain ⟨o',cs',T',h1,h2,h3⟩:=h
  rw [ho] at h1;cases h1
  have e:cs'=cs∧T'=T:=by
   have q1:=h2.2 (fun _=>undef) default
   have q2:=hf.2 (fun _=>undef) default
   rw [q1] at q2
   simp only [Result.ok.injEq,true_and] at q2
   have:=congrArg (fun w:World=>w.heap[(default:World).heap.size]?) q2
   simp only [World.alloc_heap_new,Option.some.injEq,Obj.cells.injEq] at this
   exact ⟨this.1,this.2.1⟩
  obtain ⟨rfl,rfl⟩:=e
  exact h3 g hF
 | cons x r ih=>
  intro C F a hp hx hF h
  obtain ⟨x,kx⟩:=x
  simp only [List.cons_append,List.pairwise_cons] at hp
  obtain ⟨q1,q2,q3,q4,q5⟩:=Zh8 (hp.1 (i,4) (by simp))
  have hxi:=hx (x,kx) (by simp)
  simp only at q1 q2 q3 q4 q5 hxi
  obtain ⟨u,v,hu,hv,hap,hap'⟩:=q5.resolve_left (by rw [hxi];simp)
  have hu':l.toArray[x]?=some u:=by simpa using hu
  have hv':l.toArray[i]?=some v:=by simpa using hv
  rw [ho] at hv';cases hv'
  have hkx:kx<2∨kx=3∨kx=4:=by
   rcases Nat.lt_or_ge kx 2 with h | h
   ·exact .inl h
   ·rcases q3 h with h3 | h3 | h3
    ·rw [hxi] at h3;cases h3
    ·exact .inr (.inl h3.1)
    ·exact .inr (.inr h3.1)
  simp only [List.cons_append,Wc] at h ⊢
  rcases hkx with hkx | rfl | rfl
  ·rw [if_neg (by omega),if_neg (by omega)] at h ⊢
   exact Z27 (hsel x u hu') hu' hap' (fun w hw=>hw.imp id fun h=>h.1) (fun a' h=>ih C F a' hp.2 (fun y hy=>hx y (by simp [hy])) hF h) h
  ·rw [if_neg (by decide),if_pos (by decide)] at h ⊢
   intro w ⟨hC,hZ⟩
   refine wpOpIn_mono (fun a' w' ⟨a1,e,C',F',k1,k2,k3,k4⟩=>?_) (Z30 hnd (hsel x u hu') hQ hu' hap' (h w hC))
   obtain ⟨k5,k6,k7⟩:=k3 rfl
   have hZ':V3 cs T g w':=(k6 g hZ.lt).trans hZ
   refine ⟨fun w=>C' w∧V3 cs T g w,Se g F',⟨k1,hZ'⟩,k2.zm,fun _=>⟨fun w hw=>⟨k5 w hw.1,hw.2⟩,k6,fun x hx hF=>⟨k7 x hx hF.1,hF.2⟩⟩,?_⟩
   rw [e]
   exact ih C' F' a1 hp.2 (fun y hy=>hx y (by simp [hy])) (k7 g hZ.lt hF) k4
  ·rw [if_pos rfl] at h ⊢
   obtain ⟨o2,cs2,T2,ho2,hf2,h⟩:=h
   rw [hu'] at ho2;cases ho2
   refine ⟨u,cs2,T2,hu',hf2,fun g2 hg2=>?_⟩
   have h4:=ih (fun w=>C w∧V3 cs2 T2 g2 w) (Se g2 F) (a.put u.dst (.pointer (some ⟨g2,0,none⟩))) hp.2 (fun y hy=>hx y (by simp [hy])) ⟨hF,Ne.symm hg2.2⟩ (h g2 hg2.1)
   have e1:(fun w=>(C w∧V3 cs2 T2 g2 w)∧V3 cs T g w)=fun w=>(C w∧V3 cs T g w)∧V3 cs2 T2 g2 w:=funext fun w=>propext ⟨fun h=>⟨⟨h.1.1,h.2⟩,h.1.2⟩,fun h=>⟨⟨h.1.1,h.2⟩,h.1.2⟩⟩
   have e2:Se g (Se g2 F)=Se g2 (Se g F):=funext fun x=>propext ⟨fun h=>⟨⟨h.1.1,h.2⟩,h.1.2⟩,fun h=>⟨⟨h.1.1,h.2⟩,h.1.2⟩⟩
   rw [e1,e2,Act.put_comm a _ _ (Oper.apart_spec hap).2.1] at h4
   exact h4

theorem Wc.pull {l:List Oper} {ms:List Nat} (hnd:∀ (j:Nat) (o:Oper),l.toArray[j]?=some o→Wf o.op=true) (hsel:∀ (j:Nat) (o:Oper),l.toArray[j]?=some o→∀ cs b,o.op≠.select cs b)
  (hQ:∀ c a w,¬ Q (.panic c) a w) (i k:Nat) (hk4:k≠4) (r2:List (Nat×Nat)):∀ (r1:List (Nat×Nat)) (C:World→Prop) (F:Nat→Prop) (a:Act) (w:World),(r1++(i,k) :: r2).Pairwise (fun x y=>Za8 l ms x y=true)→(∀ x ∈ r1,Xp (ms.getD i 0) x.1=false)→U4 C F→C w→
   Wc P rd l.toArray Q (r1++(i,k) :: r2) C F a→wpOpIn (X7 rd) 0 P l.toArray Q i (fun a' w'=>∃ (C':World→Prop) (F':Nat→Prop),C' w'∧U4 C' F'∧((k<2∨k=3)→∀ w,C' w→C w)∧Wc P rd l.toArray Q (r1++r2) C' F' a') a w:=by
 intro r1
 induction r1 with
 | nil=>
  intro C F a w _ _ hG hC h
  simp only [List.nil_append,Wc] at h
  rw [if_neg hk4] at h
  split at h
  ·rename_i hk
   exact wpOpIn_mono (fun a' w' ⟨C',F',h1,h2,h3,h4⟩=>⟨C',F',h1,h2,fun h=>(h3 (by omega)).1,h4⟩) (h w hC)
  ·rename_i hk
   exact wpOpIn_mono (fun a' w' ⟨h1,h2⟩=>⟨C,F,h1 ▸ hC,hG,fun _ _ h=>h,h2⟩) (Zow hnd (.inr hC) h)
 | cons x r ih=>
  intro C F a w hp hx hG hC h
  obtain ⟨x,kx⟩:=x
  simp only [List.cons_append,List.pairwise_cons] at hp
  obtain ⟨q1,q2,q3,q4,q5⟩:=Zh8 (hp.1 (i,k) (by simp))
  have hxi:=hx (x,kx) (by simp)
  simp only at q1 q2 q3 q4 q5 hxi
  have hkx:kx<2:=by
   rcases Nat.lt_or_ge kx 2 with h | h
   ·exact h
   ·rcases q3 h with h3 | h3 | h3
    ·rw [h3] at hxi;cases hxi
    ·exact absurd h3.2 hk4
    ·exact absurd h3.2 hk4
  obtain ⟨u,v,hu,hv,hap,_⟩:=q5.resolve_left (by rw [hxi];simp)
  have hu':l.toArray[x]?=some u:=by simpa using hu
  have hv':l.toArray[i]?=some v:=by simpa using hv
  simp only [List.cons_append,Wc] at h ⊢
  rw [if_neg (by omega),if_neg (by omega)] at h
  unfold Wm at h
  simp only [hu'] at h
  have fin:∀ (val:Value),((Region.wanted u (yielded l.toArray a.tmps)=true∧∀ w,(kx=1∨C w)→(execOp a.eval u).run P w= .ok (.value val) w)∨(Region.wanted u (yielded l.toArray a.tmps)=false∧val=undef))→
    Wc P rd l.toArray Q (r++(i,k) :: r2) C F (a.put u.dst val)→wpOpIn (X7 rd) 0 P l.toArray Q i (fun a' w'=>∃ (C':World→Prop) (F':Nat→Prop),C' w'∧U4 C' F'∧((k<2∨k=3)→∀ w,C' w→C w)∧
     Wc P rd l.toArray Q ((x,kx) :: (r++r2)) C' F' a') a w:=by
   intro val hval hm
   have h1:=ih C F (a.put u.dst val) w hp.2 (fun y hy=>hx y (by simp [hy])) hG hC hm
   have h2:=Zpb hnd (hsel x u hu') (hsel i v hv') hQ hv' hap h1
   refine wpOpIn_mono (fun a' w' ⟨⟨e1,e2⟩,C',F',h3,h3',h4,h5⟩=>⟨C',F',h3,h3',h4,?_⟩) h2
   simp only [Wc]
   rw [if_neg (by omega),if_neg (by omega)]
   unfold Wm
   simp only [hu']
   rw [e2,e1]
   rcases hval with ⟨g1,g2⟩ | ⟨g1,rfl⟩
   ·refine .inl ⟨g1,val,fun w hw=>g2 w ?_,h5⟩
    rcases hw with hw | hw
    ·exact .inl hw
    ·by_cases hk:k<2
     ·exact .inr (h4 (.inl hk) w hw)
     ·rcases q4 (by omega) hkx with h6 | h6 | h6 | h6
      ·rw [h6] at hxi;cases hxi
      ·exact .inl h6
      ·exact .inr (h4 (.inr h6) w hw)
      ·exact absurd h6 hk4
   ·exact .inr ⟨g1,h5⟩
  have fin2:=fun val h1 h2=>by have:=fin val h1 h2;simpa only [Wc] using this
  rcases h with ⟨g1,val,g2,g3⟩ | ⟨g1,g3⟩
  ·exact fin2 val (.inl ⟨g1,g2⟩) g3
  ·exact fin2 undef (.inr ⟨g1,rfl⟩) g3

theorem Z1j {l:List Oper} {ms:List Nat} (hms:∀ k j,Xp (ms.getD k 0) j=true→Va l.toArray k j) (hnd:∀ (j:Nat) (o:Oper),l.toArray[j]?=some o→Wf o.op=true) (hsel:∀ (j:Nat) (o:Oper),l.toArray[j]?=some o→∀ cs b,o.op≠.select cs b)
  (hdir:∀ (i:Nat) (o:Oper),l[i]?=some o→∀ e ∈ o.after,Region.binds .any e=true→e.on<i∧Xp (ms.getD i 0) e.on=true) (hQ:∀ c a w,¬ Q (.panic c) a w):
  ∀ (fuel:Nat) (listed:Array Bool) (a:Act) (w:World) (rem:List (Nat×Nat)) (C:World→Prop) (F:Nat→Prop),rem.Pairwise (fun x y=>Za8 l ms x y=true)→listed.size=l.length→
   (∀ i,(∃ k,(i,k) ∈ rem)↔i<l.length∧listed.getD i true=false)→(∀ i j,listed.getD i false=true→Va l.toArray i j→listed.getD j false=true)→rem.length≤fuel→U4 C F→C w→(∀ i,(i,4) ∈ rem→∃ o cs T,l.toArray[i]?=some o∧Zbh P o cs T)→Wc P rd l.toArray Q rem C F a→
   wpAnyIn (X7 rd) 0 P .any l.toArray Q fuel listed a w:=by
 have hhead:∀ (listed:Array Bool) (rem:List (Nat×Nat)),listed.size=l.length→rem.Pairwise (fun x y=>Za8 l ms x y=true)→(∀ i,(∃ k,(i,k) ∈ rem)↔i<l.length∧listed.getD i true=false)→
   Region.ready .any l.toArray listed=[]→rem=[]:=by
  intro listed rem hs hp hr h0
  cases rem with
  | nil=>rfl
  | cons x r=>
   exfalso
   have hx:=(hr x.1).1 ⟨x.2,by simp⟩
   have hmem:x.1 ∈ Region.ready .any l.toArray listed:=by
    refine mem_ready.2 ⟨hx.2,l[x.1]'hx.1,by simp,fun e he hb=>?_⟩
    obtain ⟨hlt,hd⟩:=hdir x.1 (l[x.1]'hx.1) (by simp) e he hb
    cases hl:listed.getD e.on false with
    | true=>rfl
    | false=>
     exfalso
     obtain ⟨k,hk⟩:=(hr e.on).2 ⟨by omega,by rw [Zdc (by omega) true false];exact hl⟩
     rcases List.mem_cons.1 hk with h | h
     ·rw [← h] at hlt;exact Nat.lt_irrefl _ hlt
     ·have:=(Zh8 ((List.pairwise_cons.1 hp).1 (e.on,k) h)).1
      rw [hd] at this;cases this
   rw [h0] at hmem;cases hmem
 intro fuel
 induction fuel with
 | zero=>
  intro listed a w rem C F hp hs hr hdown hlen hG hC hfr h
  obtain rfl:rem=[]:=List.eq_nil_of_length_eq_zero (by omega)
  refine ⟨?_,h w hC⟩
  rw [List.eq_nil_iff_forall_not_mem]
  intro j hj
  obtain ⟨h1,o,ho,_⟩:=mem_ready.1 hj
  have hlt:j<l.length:=by simpa using (Array.getElem?_eq_some_iff.1 ho).1
  obtain ⟨k,hk⟩:=(hr j).2 ⟨hlt,h1⟩
  cases hk
 | succ fuel ih=>
  intro listed a w rem C F hp hs hr hdown hlen hG hC hfr h
  refine ⟨fun h0=>?_,fun i hi=>?_⟩
  ·obtain rfl:=hhead listed rem hs hp hr h0
   exact h w hC
  ·obtain ⟨h1,o,ho,hall⟩:=mem_ready.1 hi
   have hlt:i<l.length:=by simpa using (Array.getElem?_eq_some_iff.1 ho).1
   obtain ⟨k,hk⟩:=(hr i).2 ⟨hlt,h1⟩
   obtain ⟨r1,r2,rfl⟩:=List.append_of_mem hk
   have hanc:∀ j,Va l.toArray i j→listed.getD j false=true:=by
    intro j hj
    cases hj with
    | one ho' he hb hon=>rw [ho] at ho';cases ho';rw [← hon];exact hall _ he hb
    | more ho' he hb hon hk'=>rw [ho] at ho';cases ho';exact hdown _ j (by rw [← hon];exact hall _ he hb) hk'
   have hp1:=List.pairwise_append.1 hp
   have hne1:∀ x ∈ r1,x.1≠i:=fun x hx=>(Zh8 (hp1.2.2 x hx (i,k) (by simp))).2.1
   have hne2:∀ x ∈ r2,x.1≠i:=fun x hx=>Ne.symm (Zh8 ((List.pairwise_cons.1 hp1.2.1).1 x hx)).2.1
   have hb1:∀ x ∈ r1,Xp (ms.getD i 0) x.1=false:=fun x hx=>by
    cases hb:Xp (ms.getD i 0) x.1 with
    | false=>rfl
    | true=>
     exfalso
     have h2:=hanc x.1 (hms i x.1 hb)
     have h3:=(hr x.1).1 ⟨x.2,by simp [hx]⟩
     rw [Zdc (by omega) true false,h2] at h3
     cases h3.2
   have hpull:wpOpIn (X7 rd) 0 P l.toArray Q i (fun a' w'=>∃ (C':World→Prop) (F':Nat→Prop),C' w'∧U4 C' F'∧Wc P rd l.toArray Q (r1++r2) C' F' a') a w:=by
    by_cases hk4:k=4
    ·subst hk4
     obtain ⟨o',cs,T,ho',hf⟩:=hfr i hk
     rw [ho] at ho';cases ho'
     have hd:=Wc.done (rd:=rd) hnd hsel hQ i o cs T ho hf w.heap.size r2 r1 C F a hp hb1 (hG.1 w hC) h
     unfold wpOpIn
     simp only [ho]
     have hw:Region.wanted o (yielded l.toArray a.tmps)=true:=by unfold Region.wanted;rw [hf.1]
     rw [hw]
     refine ⟨fun _ _=>trivial,?_⟩
     show Oper.uponIn _ _ _ _ _ _ _ ((o.semAt rd a.eval).run P w)
     rw [Q5 (hnd i o ho),hf.2]
     exact ⟨_,Se w.heap.size F,⟨hG.2 w _ hC,World.alloc_heap_new w _⟩,hG.zm,hd⟩
    ·exact wpOpIn_mono (fun a' w' ⟨C',F',q1,q2,_,q4⟩=>⟨C',F',q1,q2,q4⟩) (Wc.pull (rd:=rd) hnd hsel hQ i k hk4 r2 r1 C F a w hp hb1 hG hC h)
   refine wpOpIn_mono (fun a' w' ⟨C',F',q1,q2,q3⟩=>ih _ a' w' (r1++r2) C' F' (hp.sublist (List.Sublist.append (List.Sublist.refl _) (List.sublist_cons_self _ _))) (by simpa using hs) (fun j=>?_) (fun x j hx hj=>?_) (by simp at hlen ⊢;omega) q2 q1 (fun j hj=>hfr j (by simp only [List.mem_append,List.mem_cons] at hj ⊢;exact hj.imp id .inr)) q3) hpull
   ·by_cases hji:j=i
    ·subst hji
     constructor
     ·rintro ⟨k',hk'⟩
      rcases List.mem_append.1 hk' with h4 | h4
      ·exact absurd rfl (hne1 _ h4)
      ·exact absurd rfl (hne2 _ h4)
     ·rintro ⟨_,h4⟩
      have:j<listed.size:=by omega
      simp [Array.getD_eq_getD_getElem?,this] at h4
    ·rw [getD_set_ne true (Ne.symm hji),← hr j]
     constructor
     ·rintro ⟨k',hk'⟩
      refine ⟨k',?_⟩
      simp only [List.mem_append,List.mem_cons] at hk' ⊢
      exact hk'.elim .inl fun h=>.inr (.inr h)
     ·rintro ⟨k',hk'⟩
      refine ⟨k',?_⟩
      simp only [List.mem_append,List.mem_cons] at hk' ⊢
      rcases hk' with h4 | h4 | h4
      ·exact .inl h4
      ·exact absurd (congrArg Prod.fst h4) hji
      ·exact .inr h4
   ·by_cases hxi:x=i
    ·subst hxi;exact getD_set_true (hanc j hj)
    ·rw [getD_set_ne false (Ne.symm hxi)] at hx
     exact getD_set_true (hdown x j hx hj)
end

/-! ### colours:what is new bears none that anybody has -/
def Xb (w:World) (col:Zd):Zd:=fun k=>if k<w.heap.size then col k else 497
def Uf (g c:Nat) (col:Zd):Zd:=fun k=>if k=g then c else col k
section
variable {col c3:Zd} {w w2 w3:World}
theorem Zs.clip (p:Nat→Bool) (col:Zd) (w:World):Zs p col w (Xb w col) w:=⟨Nat.le_refl _,fun _ hk _=>if_pos hk,fun _ _ _=>rfl,⟨rfl,rfl,rfl⟩⟩
theorem Zbo:U4 (fun w'=>Zg (Xb w col) w (Xb w col) w') (fun g=>Xb w col g=497):=
 ⟨fun w' h=>if_neg (by have:=h.below.size;omega),fun w' o h=>h.trans (Zg.of_below ((Below.refl _ w').alloc (Nat.le_refl _) o))⟩
theorem Zf7 (hg:Zg col w2 c3 w3):∀ g,g<w2.heap.size→col g=497→Xb w3 c3 g=497:=fun g h1 h2=>by
 unfold Xb
 rw [if_pos (Nat.lt_of_lt_of_le h1 hg.below.size),hg.tint g h1,h2]
theorem Zwv {cs:Array Value} {T:TypeId} {g:Nat} (c:Nat) (hZ:V3 cs T g w) (hF:col g=497):Zs (p1 497) col w (Uf g c col) w∧Ze T c (Uf g c col) w g cs:=
 ⟨⟨Nat.le_refl _,fun k _ hp=>if_neg fun e=>by subst e;rw [hF] at hp;exact absurd hp (by decide),fun _ _ _=>rfl,⟨rfl,rfl,rfl⟩⟩,if_pos rfl,hZ⟩
end

section
variable {P:Program} {m:Nat} {rd:Option Nat} {l:List Oper} {N R:Fr→World→Prop} {E:Nat→Fr→World→Prop} {f:Fr} {π:List (Nat×Nat)} {C:World→Prop} {F:Nat→Prop} {i d t:Nat} {p:String} {af:Array Edge} {op:Op}
def Sh (P:Program) (m:Nat) (rd:Option Nat) (l:List Oper) (N R:Fr→World→Prop) (E:Nat→Fr→World→Prop) (π:List (Nat×Nat)) (C:World→Prop) (F:Nat→Prop) (f:Fr):Prop:=
 ∀ a,Yl m a f→Wc P rd l.toArray (Uh m N R E) π C F a
theorem Zq8 {T:TypeId} {v:Value} (hz:∀ w,(zeroValue T).run P w= .ok v w):Zbh P ⟨some d,.alloc T,t,p,af,none⟩ v.cells T:=
 ⟨rfl,fun ev w=>by simp [execOp,hz,Instr.alloc,newVar,newRow]⟩
def Zm6 (P:Program) (l:List Oper):List (Nat×Nat)→Prop
 | []=>True
 | x :: r=>(x.2=4→∃ o cs T,l[x.1]?=some o∧Zbh P o cs T)∧Zm6 P l r
theorem Zq9:∀ {π:List (Nat×Nat)},Zm6 P l π→∀ x ∈ π,x.2=4→∃ o cs T,l[x.1]?=some o∧Zbh P o cs T
 | [],_,_,h=>by cases h
 | y :: r,h,x,hx=>by
  rcases List.mem_cons.1 hx with rfl | hx
  ·exact h.1
  ·exact Zq9 h.2 x hx
theorem Z3x {i:Nat} {w:World} {col:Zd} (π:List (Nat×Nat)) (hm:P.follows .mixedOrders=true) (hB:(Zsa l π&&Zc6 l)=true) (hf:Zm6 P l π)
  (h:Sh P m rd l N R E π (fun w'=>Zg (Xb w col) w (Xb w col) w') (fun g=>Xb w col g=497) f):Wp P m rd (.region i l.toArray true) N R E f w:=by
 intro a ha
 simp only [Zsa,Bool.and_eq_true,List.all_eq_true,List.mem_range,List.any_eq_true,Nat.blt_eq] at hB
 obtain ⟨⟨⟨⟨⟨⟨h1,h2⟩,h3⟩,h4⟩,h5⟩,h6⟩,h7⟩:=hB
 have h5:=Nat.eq_of_beq_eq_true h5
 have hbits:∀ k j,Xp ((Vp l []).getD k 0) j=true→Va l.toArray k j:=fun k j hj=>by
  cases hk:(Vp l [])[k]? with
  | none=>rw [List.getD_eq_getElem?_getD,hk] at hj;simp [Xp] at hj
  | some mk=>rw [List.getD_eq_getElem?_getD,hk] at hj;exact Zn7 (l:=l) l [] (fun j=>by simp) (by simp) k mk hk j hj
 refine wpIn_region_any hm (Z1j (ms:=Vp l []) hbits (fun j o ho=>h2 o (List.mem_of_getElem? (by simpa using ho))) (fun j o ho cs b=>Region.noSelect_spec h1 j o cs b ho) (fun i o ho e he hb=>⟨?_,?_⟩) (fun c a w hq=>hq)
  _ _ _ _ π _ _ (Zsv h6) (by simp) (fun i=>?_) (fun i j hi _=>?_) (by simp [h5]) (Zbo (w:=w) (col:=col)) ((Zg.refl _ w).drew) (fun i hi=>?_) (h a ha))
 ·simp only [Zc6,List.all_eq_true] at h7
  have:=h7 (o,i) (by rw [List.mem_zipIdx_iff_getElem?];exact ho)
  have h8:=(Array.all_eq_true_iff_forall_mem.1 this) e he
  simpa [hb] using h8
 ·obtain ⟨acc',h8⟩:=Zkz l [] i o ho
  simp only [List.length_nil,Nat.zero_add] at h8
  rw [List.getD_eq_getElem?_getD,h8]
  exact Zn6 he hb
 ·constructor
  ·rintro ⟨k,hk⟩
   have h8:=h4 _ hk
   have:i<(Array.replicate l.toArray.size false).size:=by simpa using h8
   refine ⟨h8,?_⟩
   simp only [Array.getD_eq_getD_getElem?,Array.getElem?_eq_getElem this,Option.getD_some]
   simp
  ·rintro ⟨hlt,_⟩
   obtain ⟨x,hx,hxi⟩:=h3 i hlt
   exact ⟨x.2,by rw [← Nat.eq_of_beq_eq_true hxi];exact hx⟩
 ·exfalso
  rcases Nat.lt_or_ge i l.toArray.size with h8 | h8
  ·have:i<(Array.replicate l.toArray.size false).size:=by simpa using h8
   simp only [Array.getD_eq_getD_getElem?,Array.getElem?_eq_getElem this,Option.getD_some] at hi
   simp at hi
  ·have hn:(Array.replicate l.toArray.size false)[i]?=none:=Array.getElem?_eq_none (by simpa using h8)
   rw [Array.getD_eq_getD_getElem?,hn] at hi
   simp at hi
 ·obtain ⟨o,cs,T,h8,h9⟩:=Zq9 hf (i,4) hi rfl
  exact ⟨o,cs,T,by simpa using h8,h9⟩
theorem Z33 (h:∀ w,C w→N f w):Sh P m rd l N R E [] C F f:=fun _ ha w hw=>⟨f,ha,h w hw⟩
theorem Zl5 {v:Value} (ho:l[i]?=some ⟨some d,op,t,p,af,none⟩) (hd:Nat.blt d m=true) (hr:∀ w,C w→(execOp (ev f) ⟨some d,op,t,p,af,none⟩).run P w= .ok (.value v) w) (k:Sh P m rd l N R E π C F (Zu f d v)):
  Sh P m rd l N R E ((i,0) :: π) C F f:=by
 intro a ha
 simp only [Wc]
 rw [if_neg (by decide),if_neg (by decide)]
 unfold Wm
 have ho':l.toArray[i]?=some ⟨some d,op,t,p,af,none⟩:=by simpa using ho
 simp only [ho']
 exact .inl ⟨rfl,v,fun w hw=>by rw [ha.eval];exact hr w (hw.resolve_left (by decide)),k _ (ha.put (d:=some d) hd v)⟩
theorem xuF {v:Value} (ho:l[i]?=some ⟨some d,op,t,p,af,none⟩) (hd:Nat.blt d m=true) (hr:∀ w,(execOp (ev f) ⟨some d,op,t,p,af,none⟩).run P w= .ok (.value v) w) (k:Sh P m rd l N R E π C F (Zu f d v)):
  Sh P m rd l N R E ((i,1) :: π) C F f:=by
 intro a ha
 simp only [Wc]
 rw [if_neg (by decide),if_neg (by decide)]
 unfold Wm
 have ho':l.toArray[i]?=some ⟨some d,op,t,p,af,none⟩:=by simpa using ho
 simp only [ho']
 exact .inl ⟨rfl,v,fun w _=>by rw [ha.eval];exact hr w,k _ (ha.put (d:=some d) hd v)⟩
theorem xaF {cs:Array Value} {T:TypeId} (ho:l[i]?=some ⟨some d,op,t,p,af,none⟩) (hd:Nat.blt d m=true) (hf:Zbh P ⟨some d,op,t,p,af,none⟩ cs T)
  (k:∀ g,F g→Sh P m rd l N R E π (fun w=>C w∧V3 cs T g w) (Se g F) (Zu f d (.pointer (some ⟨g,0,none⟩)))):Sh P m rd l N R E ((i,4) :: π) C F f:=by
 intro a ha
 simp only [Wc,if_true]
 have ho':l.toArray[i]?=some ⟨some d,op,t,p,af,none⟩:=by simpa using ho
 exact ⟨_,cs,T,ho',hf,fun g hg=>k g hg _ (ha.put (d:=some d) hd _)⟩
theorem Zfn {kd:Nat} {o:Oper} (ho:l[i]?=some o) (hkd:(Nat.ble 2 kd&&Nat.ble kd 3)=true) (k:∀ w,C w→Zp P m rd l.toArray (fun f1 w1=>∃ (C':World→Prop) (F':Nat→Prop),C' w1∧U4 C' F'∧(kd=3→(∀ w,C' w→C w)∧(∀ b,b<w.heap.size→w1.heap[b]?=w.heap[b]?)∧∀ g,g<w.heap.size→F g→F' g)∧Sh P m rd l N R E π C' F' f1) [o] f w):Sh P m rd l N R E ((i,kd) :: π) C F f:=by
 intro a ha
 simp only [Bool.and_eq_true,Nat.ble_eq] at hkd
 simp only [Wc]
 rw [if_neg (by omega),if_pos hkd.1]
 intro w hC
 have h1:=k w hC a ha (fun e a' w'=>e= .normal∧∃ (C':World→Prop) (F':Nat→Prop),C' w'∧U4 C' F'∧(kd=3→(∀ w,C' w→C w)∧(∀ b,b<w.heap.size→w'.heap[b]?=w.heap[b]?)∧∀ g,g<w.heap.size→F g→F' g)∧Wc P rd l.toArray (Uh m N R E) π C' F' a')
  (fun a' f' w' hf ⟨C',F',q1,q2,q3,q4⟩=>⟨rfl,C',F',q1,q2,q3,q4 _ hf⟩)
 have ho':l.toArray[i]?=some o:=by simpa using ho
 unfold wpListIn at h1
 unfold wpOpIn
 simp only [ho']
 split
 ·rename_i hw
  simp only [hw,if_true] at h1
  have h2:=Oper.wpIn_mono (K':=fun a' w'=>∃ (C':World→Prop) (F':Nat→Prop),C' w'∧U4 C' F'∧(kd=3→(∀ w,C' w→C w)∧(∀ b,b<w.heap.size→w'.heap[b]?=w.heap[b]?)∧∀ g,g<w.heap.size→F g→F' g)∧Wc P rd l.toArray (Uh m N R E) π C' F' a') (fun a' w' h=>by simp only [wpListIn] at h;exact h.2) h1
  exact ⟨h2.1,Zo9 (fun e a' w' hne h=>absurd h.1 hne) h2.2⟩
 ·rename_i hw
  simp only [hw] at h1
  refine ⟨h1.1,?_⟩
  have:=h1.2
  simp only [wpListIn] at this
  exact this.2
end
section
variable {P:Program} {m:Nat} {rd:Option Nat} {f:Fr} {w:World} {ops:Array Oper} {K:Fr→World→Prop} {rest:List Oper} {d t:Nat} {p:String} {af:Array Edge} {x:Operand}
theorem lM (v:Value) (k:Zp P m rd ops K rest (Zu f d v) w) (h:ev f x=v:=by rfl) (hd:Nat.blt d m=true:=by rfl):Zp P m rd ops K (⟨some d,.move x,t,p,af,none⟩ :: rest) f w:=lV v (Wo h) k hd
theorem lA (v:Value) (k:Zp P m rd ops K rest (Zu f d v) w) (h:ev f x=v:=by rfl) (hd:Nat.blt d m=true:=by rfl):Zp P m rd ops K (⟨some d,.assign x,t,p,af,none⟩ :: rest) f w:=lV v (Y5 h) k hd
end
/-! shorter words for frequent steps -/
section
variable {P:Program} {m:Nat} {rd:Option Nat} {f:Fr} {col:Zd} {w:World} {ops:Array Oper} {K:Fr→World→Prop} {rest:List Oper} {d d2 t t2:Nat} {p p2:String} {af af2:Array Edge} {x y:Operand} {T T2 e c:Nat}
theorem lF {fs:Array Field} {i sz:Nat} {fd:Field} (g off:Nat) (hT:P.underlying T=some (.struct fs)) (hf:fs[i]?=some fd) (hs:∀ w,(sizeOf fd.type).run P w= .ok sz w)
  (k:Zp P m rd ops K rest (Zu f d (.pointer ((some (⟨g,0,none⟩:Addr)).map (·.add off)))) w) (h0:sz≠0:=by decide) (ho:fd.offset=off:=by rfl) (hx:ev f x= .pointer (some ⟨g,0,none⟩):=by rfl) (hd:Nat.blt d m=true:=by rfl):
  Zp P m rd ops K (⟨some d,.fieldAddr T x i,t,p,af,none⟩ :: rest) f w:=lV _ (Uy hT hf hs h0 ho hx ⟨_,_,rfl⟩) k hd
theorem lL {cs:Array Value} {v:Value} (g off:Nat) (ha:∀ w,(isAgg T).run P w= .ok false w) (h:Ze e c col w g cs) (hv:cs.toList[off]?=some v)
  (k:Zp P m rd ops K rest (Zu f d v) w) (hx:ev f x= .pointer ((some (⟨g,0,none⟩:Addr)).map (·.add off)):=by rfl) (hd:Nat.blt d m=true:=by rfl):
  Zp P m rd ops K (⟨some d,.load T x,t,p,af,none⟩ :: rest) f w:=lV _ (Uz ha hx (h.atN.nth hv)) k hd
theorem lFL {fs:Array Field} {i sz:Nat} {fd:Field} {cs:Array Value} {v:Value} (g off:Nat) (hT:P.underlying T=some (.struct fs)) (hf:fs[i]?=some fd) (hs:∀ w,(sizeOf fd.type).run P w= .ok sz w)
  (ha:∀ w,(isAgg T2).run P w= .ok false w) (h:Ze e c col w g cs) (hv:cs.toList[off]?=some v)
  (k:Zp P m rd ops K rest (Zu (Zu f d (.pointer ((some (⟨g,0,none⟩:Addr)).map (·.add off)))) d2 v) w) (h0:sz≠0:=by decide) (ho:fd.offset=off:=by rfl) (hx:ev f x= .pointer (some ⟨g,0,none⟩):=by rfl) (hd:Nat.blt d m=true:=by rfl)
  (hy:ev (Zu f d (.pointer ((some (⟨g,0,none⟩:Addr)).map (·.add off)))) y= .pointer ((some (⟨g,0,none⟩:Addr)).map (·.add off)):=by rfl) (hd2:Nat.blt d2 m=true:=by rfl):
  Zp P m rd ops K (⟨some d,.fieldAddr T x i,t,p,af,none⟩ :: ⟨some d2,.load T2 y,t2,p2,af2,none⟩ :: rest) f w:=lF g off hT hf hs (lL g off ha h hv k hy hd2) h0 ho hx hd
theorem Yj {cs:Array Value} (c:Nat) (hx:ev f x= .agg cs)
  (k:∀ g w' col',Zg col w col' w'→Ze e c col' w' g cs→Zp P m rd ops K rest (Zu f d (.pointer (some ⟨g,0,none⟩))) w') (hd:Nat.blt d m=true:=by rfl):
  Zp P m rd ops K (⟨some d,.box e x,t,p,af,none⟩ :: rest) f w:=Zje c hd hx k
theorem Xz (cs:Array Value) (c:Nat) (hz:∀ w,(zeroValue e).run P w= .ok (.agg cs) w)
  (k:∀ g w' col',Zg col w col' w'→Ze e c col' w' g cs→Zp P m rd ops K rest (Zu f d (.pointer (some ⟨g,0,none⟩))) w') (hd:Nat.blt d m=true:=by rfl):
  Zp P m rd ops K (⟨some d,.alloc e,t,p,af,none⟩ :: rest) f w:=Zjd c hd hz k
theorem Z13 {l:List Value} (h:l.all (·.oneCell')=true):∀ u ∈ l,u.oneCell'=true:=List.all_eq_true.1 h
theorem Z0z {g n:Nat} {cs:Array Value} (cs':Array Value) (h:Ze e c col w g cs) (hs:∀ w,(sizeOf T).run P w= .ok n w)
  (k:∀ w',Xe c col w col w'→Xt w w'→Ze e c col w' g cs'→Zp P m rd ops K rest f w') (hx:ev f x= .pointer (some ⟨g,0,none⟩):=by rfl) (hy:ev f y= .agg cs':=by rfl) (hn:cs.size=n:=by rfl) (hv:cs'.size=n:=by rfl) (h1:cs'.toList.all (·.oneCell')=true:=by rfl):
  Zp P m rd ops K (⟨none,.store T x y,t,p,af,none⟩ :: rest) f w:=Zdg (v:=.agg cs') h hs hn hv (Z13 h1) hx hy k
theorem lP {op:Op} {j:Nat} {want b:Bool} (d':Nat) (h3:f d'= .bool b) (hb:(b==want)=false)
  (k:Zp P m rd ops K rest (Zu f d undef) w) (hd:Nat.blt d m=true:=by rfl) (h1:(ops[j]?).bind (·.dst)=some d':=by rfl) (h2:Nat.blt d' m=true:=by rfl):Zp P m rd ops K (⟨some d,op,t,p,af,some (j,want)⟩ :: rest) f w:=lp d' hd h1 h2 h3 hb k
theorem lG {op:Op} {dst:Option Nat} {j:Nat} {want b:Bool} (d':Nat) (h3:f d'= .bool b) (hb:(b==want)=true)
  (k:Zp P m rd ops K (⟨dst,op,t,p,af,none⟩ :: rest) f w) (h1:(ops[j]?).bind (·.dst)=some d':=by rfl) (h2:Nat.blt d' m=true:=by rfl):Zp P m rd ops K (⟨dst,op,t,p,af,some (j,want)⟩ :: rest) f w:=lg d' h1 h2 h3 hb k
end
section
variable {P:Program} {m:Nat} {f:Fr} {ops:Array Oper} {C:World→Prop} {K:Fr→Prop} {rest:List Oper} {d t:Nat} {p:String} {af:Array Edge} {op:Op}
theorem qP {j:Nat} {want b:Bool} (d':Nat) (h3:f d'= .bool b) (hb:(b==want)=false)
  (k:Y9 P m ops C K rest (Zu f d undef)) (hd:Nat.blt d m=true:=by rfl) (h1:(ops[j]?).bind (·.dst)=some d':=by rfl) (h2:Nat.blt d' m=true:=by rfl):Y9 P m ops C K (⟨some d,op,t,p,af,some (j,want)⟩ :: rest) f:=qp d' hd h1 h2 h3 hb k
end
/-! moves:what is moved is found by its kind -/
section
variable {P:Program} {m:Nat} {rd:Option Nat} {f:Fr} {w:World} {ops:Array Oper} {K:Fr→World→Prop} {rest:List Oper} {d t:Nat} {dst:Option Nat} {p:String} {af:Array Edge} {gd:Option (Nat×Bool)} {x:Operand}
theorem Y1 {k:IntKind} {n:Int} (h:ev f x= .int k n) (k:Zp P m rd ops K rest (Zu f d (.int k n)) w) (hd:Nat.blt d m=true:=by rfl):Zp P m rd ops K (⟨some d,.move x,t,p,af,none⟩ :: rest) f w:=lV _ (Wo h) k hd
theorem Yq {k:IntKind} {n:Int} (h:ev f x= .int k n) (k:Zp P m rd ops K rest (Zu f d (.int k n)) w) (hd:Nat.blt d m=true:=by rfl):Zp P m rd ops K (⟨some d,.assign x,t,p,af,none⟩ :: rest) f w:=lV _ (Y5 h) k hd
theorem Ve {k:IntKind} {n:Int} (h:ev f x= .int k n):(execOp (ev f) ⟨dst,.move x,t,p,af,gd⟩).run P w= .ok (.value (.int k n)) w:=Wo h
theorem r_aI {k:IntKind} {n:Int} (h:ev f x= .int k n):(execOp (ev f) ⟨dst,.assign x,t,p,af,gd⟩).run P w= .ok (.value (.int k n)) w:=Y5 h
theorem Yg {b:Bool} (h:ev f x= .bool b) (k:Zp P m rd ops K rest (Zu f d (.bool b)) w) (hd:Nat.blt d m=true:=by rfl):Zp P m rd ops K (⟨some d,.move x,t,p,af,none⟩ :: rest) f w:=lV _ (Wo h) k hd
theorem Qc {b:Bool} (h:ev f x= .bool b) (k:Zp P m rd ops K rest (Zu f d (.bool b)) w) (hd:Nat.blt d m=true:=by rfl):Zp P m rd ops K (⟨some d,.assign x,t,p,af,none⟩ :: rest) f w:=lV _ (Y5 h) k hd
theorem Zlk {b:Bool} (h:ev f x= .bool b):(execOp (ev f) ⟨dst,.move x,t,p,af,gd⟩).run P w= .ok (.value (.bool b)) w:=Wo h
theorem Zh9 {b:Bool} (h:ev f x= .bool b):(execOp (ev f) ⟨dst,.assign x,t,p,af,gd⟩).run P w= .ok (.value (.bool b)) w:=Y5 h
theorem W2 {a:Option Addr} {n c:Nat} (h:ev f x= .slice a n c) (k:Zp P m rd ops K rest (Zu f d (.slice a n c)) w) (hd:Nat.blt d m=true:=by rfl):Zp P m rd ops K (⟨some d,.move x,t,p,af,none⟩ :: rest) f w:=lV _ (Wo h) k hd
theorem Zdf {a:Option Addr} {n c:Nat} (h:ev f x= .slice a n c) (k:Zp P m rd ops K rest (Zu f d (.slice a n c)) w) (hd:Nat.blt d m=true:=by rfl):Zp P m rd ops K (⟨some d,.assign x,t,p,af,none⟩ :: rest) f w:=lV _ (Y5 h) k hd
theorem Zbb {a:Option Addr} {n c:Nat} (h:ev f x= .slice a n c):(execOp (ev f) ⟨dst,.move x,t,p,af,gd⟩).run P w= .ok (.value (.slice a n c)) w:=Wo h
theorem Zf9 {s:ByteArray} (h:ev f x= .string s) (k:Zp P m rd ops K rest (Zu f d (.string s)) w) (hd:Nat.blt d m=true:=by rfl):Zp P m rd ops K (⟨some d,.move x,t,p,af,none⟩ :: rest) f w:=lV _ (Wo h) k hd
theorem Zjc {s:ByteArray} (h:ev f x= .string s) (k:Zp P m rd ops K rest (Zu f d (.string s)) w) (hd:Nat.blt d m=true:=by rfl):Zp P m rd ops K (⟨some d,.assign x,t,p,af,none⟩ :: rest) f w:=lV _ (Y5 h) k hd
theorem Zop {s:ByteArray} (h:ev f x= .string s):(execOp (ev f) ⟨dst,.move x,t,p,af,gd⟩).run P w= .ok (.value (.string s)) w:=Wo h
theorem Up {a:Option Addr} (h:ev f x= .pointer a):(execOp (ev f) ⟨dst,.move x,t,p,af,gd⟩).run P w= .ok (.value (.pointer a)) w:=Wo h
theorem Xx {T e c n g:Nat} {col:Zd} {cs:Array Value} (ha:∀ w,(isAgg T).run P w= .ok true w) (hs:∀ w,(sizeOf T).run P w= .ok n w) (h:Ze e c col w g cs) (hx:ev f x= .pointer (some ⟨g,0,none⟩):=by rfl) (hn:cs.size=n:=by rfl):
  (execOp (ev f) ⟨dst,.load T x,t,p,af,gd⟩).run P w= .ok (.value (.agg cs)) w:=W9 ha hs hx hn h.atN
theorem Zg.bl {c c':Zd} {w':World} (col:Zd) (h:Zg c w c' w'):Zg col w col w':=.of_below h.below
theorem gq {a b want r:Bool} (h:a=b) (e:(b==want)=r:=by rfl):(a==want)=r:=by rw [h,e]
end
theorem Z1z {b:Bool} (h:b=false):¬ b=true:=by rw [h];decide
end Go.Proofs.YtdpdogdkolblnaaGreatDoor
