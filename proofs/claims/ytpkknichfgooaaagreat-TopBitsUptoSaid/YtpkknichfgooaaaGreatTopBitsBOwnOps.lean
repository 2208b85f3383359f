/-
  Operations on what a call owns: rows that are grown and written. Over any program.
-/
import Derived.Test.YtpkknichfgooaaaGreatTopBitsBMemOps
namespace Go.Proofs.YtpkknichfgooaaaGreat
open Go Go.RowKit
open Nat renaming le_refl→aV,mul_le_mul_right→aX,add_mul→bI,zero_add→cG,zero_le→bL,min_eq_left→aZ,min_eq_right→dI
open Option renaming toList_some→dQ
open List renaming cons_append→cK,nil_append→cB,nodup_cons→cQ,mem_append→aY,length_set→eF,size_toArray→dC,length_append→bT,length_take→cC,length_drop→cH,take_append→eD,take_take→fT,append_nil→dA,length_eq_zero_iff→hO,length_nil→fH
open Go.IntKind (i8 i16 i32 i64 u8 u16 u32 u64)

def Wk (P:Program) (e:TypeId) (sz bytes:Nat):Prop:=∃ i z,P.info? e=some i∧i.zero=some z∧i.size=sz∧i.bytes=bytes∧z.cells.size=sz

section
variable {α:Type} {r:Zc α} {e c:Nat} {col:Zg} {w:World} {a:Option Addr} {cap:Nat} {xs ys:List α} {bs:List Nat}

def Yz (col:Zg) (w:World) (c:Nat):Zg:=fun k=>if k<w.heap.size then col k else c

theorem Zl.new {w':World} (h:Below w.heap.size w w') (c:Nat):Zl col w (Yz col w c) w':=⟨h,fun k b=>by simp [Yz,b]⟩
theorem Zqo (w:World) (o:Obj):Below w.heap.size w (w.alloc o):=(Below.refl _ _).alloc (aV _) o
theorem Yu.gr {col':Zg} {w':World} (h:Zl col w col' w'):Yu col w col' w':=(h.keep 1).stay (by decide)

theorem Yt.store {P:Program} {f:Fr} {T t:Nat} {p:String} {af:Array Edge} {px y:Operand} {j:Int} {x0 x:α} {v:Value} {sz:Nat} {b':List Nat} (h:Yt r e col w a cap xs bs) (hnd:bs.Nodup) (hj:Zn xs j=some x0)
  (hsz:r.sz=sz) (hs:∀ w,(sizeOf T).run P w= .ok sz w) (hv:r.rd col w v.cells.toList x b') (hd:∀ b ∈ bs,b ∉ b') (h0:∀ b ∈ bs,col b≠0) (hx:ev f px=X5 a (j.toNat * sz)) (hy:ev f y=v):
  ∃ w' g b1 b2 b3,(execOp (ev f) ⟨none,.store T px y,t,p,af,none⟩).run P w= .ok .skip w'∧bs=g :: (b1++b2++b3)∧w.heap.size≤w'.heap.size∧(∀ k,k≠g→w'.heap[k]?=w.heap[k]?)∧Yn w w'∧
   Yt r e col w' a cap (xs.set j.toNat x) (g :: (b1++b'++b3)):=by
 subst hsz
 obtain ⟨Q,R,J⟩:=Xo hj
 obtain ⟨S,U,K,L,rfl⟩:=h
 rcases K.2 with ⟨_,V⟩ | ⟨g,W,d,u,o,F,A,C,B,M⟩
 ·omega
 ·simp only [Value.slice.injEq] at u
  obtain ⟨rfl,_,rfl⟩:=u
  have D:(Value.slice (some (⟨g,0,none⟩:Addr)) xs.length cap).ownBlock=some g:=rfl
  rw [D] at hnd hd h0
  simp only [dQ,cK,cB] at hnd hd h0
  have i:=r.len hv
  have N:j.toNat * r.sz+r.sz≤xs.length * r.sz:=by
   have G:j.toNat+1≤xs.length:=by omega
   have:=aX r.sz G
   rw [bI] at this;omega
  have I:xs.length * r.sz≤cap * r.sz:=aX _ A
  have q:=run_storeCells_at P g (j.toNat * r.sz) e v.cells.toList 0 d w F (by rw [i];omega) (r.one hv)
  simp only [Nat.add_zero,i] at q
  obtain ⟨X,b1,b2,b3,rfl,Y,G,O⟩:=L.get J
  refine ⟨w.setRow g (d.toList.take (j.toNat * r.sz)++v.cells.toList++d.toList.drop (j.toNat * r.sz+r.sz)).toArray,g,b1,b2,b3,?_,rfl,by simp [World.setRow],fun k m=>setRow_other w g k _ m,⟨rfl,rfl,rfl⟩,?_⟩
  ·have E:v.cells.size=r.sz:=by rw [← i];simp
   simp only [execOp,hx,hy,X5,Option.map_some,Vh,cG,Instr.storeAt,Instr.sureAddr,storeVar]
   simp [hs,E,q]
  ·have H:∀ b,b ∈ b1++b2++b3→b≠g:=fun b C e=>(cQ.1 hnd).1 (e ▸ C)
   have m:Yu col w col (w.setRow g (d.toList.take (j.toNat * r.sz)++v.cells.toList++d.toList.drop (j.toNat * r.sz+r.sz)).toArray):=fun k _ m=>⟨m,setRow_other w g k _ (fun e=>h0 g (by simp) (by rw [← e];exact m))⟩
   have s:=O _ _ x v.cells.toList b' m (fun b o=>setRow_other w g b _ (H b (by simp only [aY] at o ⊢;exact o.elim (fun h=>.inl (.inl h)) .inr))) (r.keep hv m fun b o=>setRow_other w g b _ (fun e=>hd g (by simp) (by rw [← e];exact o)))
   refine ⟨_,_,⟨by rw [s.length,eF],.inr ⟨g,cap,_,by rw [eF],bL _,setRow_heap w g d _ e _ F,by rw [eF];exact A,C,?_,?_⟩⟩,s,by simp [Value.ownBlock]⟩
   ·have n:d.toList.length=cap * r.sz:=by simp [B]
    simp only [dC,bT,cC,cH,n,i];omega
   ·rw [eF,← M]
    have n:d.toList.length=cap * r.sz:=by simp [B]
    simp only [eD,bT,cC,n,i,fT,List.drop_take]
    rw [aZ (by omega:j.toNat * r.sz≤xs.length * r.sz),dI (by omega:j.toNat * r.sz≤xs.length * r.sz),aZ (by omega:j.toNat * r.sz≤cap * r.sz)]
    rw [List.take_of_length_le (l:=v.cells.toList) (by rw [i];omega)]

theorem Zb.store {P:Program} {f:Fr} {T t:Nat} {p:String} {af:Array Edge} {px y:Operand} {j:Int} {x0 x:α} {v:Value} {sz:Nat} (h:Zb r e c col w a cap xs) (hc:c≠0) (hj:Zn xs j=some x0)
  (hsz:r.sz=sz) (hs:∀ w,(sizeOf T).run P w= .ok sz w) (hv:r.rd col w v.cells.toList x []) (hx:ev f px=X5 a (j.toNat * sz)) (hy:ev f y=v):
  ∃ w',(execOp (ev f) ⟨none,.store T px y,t,p,af,none⟩).run P w= .ok .skip w'∧Yh c col w col w'∧Yn w w'∧Zb r e c col w' a cap (xs.set j.toNat x):=by
 obtain ⟨bs,l,i⟩:=h
 obtain ⟨w',g,A,B,C,m,rfl,n,o,q,s⟩:=l.store (P:=P) (t:=t) (p:=p) (af:=af) i.1 hj hsz hs hv (by simp) (fun b d=>by rw [i.2 b d];exact hc) hx hy
 refine ⟨w',m,⟨n,fun _ _=>rfl,fun k _ u=>o k fun e=>u (by rw [e];exact i.2 g (by simp))⟩,q,_,s,?_,fun b d=>i.2 b (by simp at d ⊢;rcases d with d | d | d <;> simp [d])⟩
 have:=i.1
 simp only [cQ,List.nodup_append,aY,not_or,dA] at this ⊢
 exact ⟨⟨this.1.1.1,this.1.2⟩,this.2.1.1,this.2.2.1,fun x hx y hy=>this.2.2.2 x (.inl hx) y hy⟩

def Zns (r:Zc α) (col:Zg) (w:World) (a:Option Addr) (ys:List α) (bs:List Nat):Prop:=
 (ys=[]∧bs=[])∨∃ b off fl,a=some ⟨b,off,none⟩∧Rows r col w fl ys bs∧∀ q v,fl[q]?=some v→w.cell? ⟨b,off+q,none⟩=some v
theorem Sl.src {cap:Nat} (h:Sl r col w a cap ys):Zns r col w a ys []:=by
 rcases h.2 with h | ⟨b,d,f,g,_,i,j⟩
 ·exact .inl ⟨h,rfl⟩
 ·exact .inr ⟨b,d,f,g,i,j⟩
theorem Yt.src (h:Yt r e col w a cap ys bs):∃ b2,bs=(Value.slice a ys.length cap).ownBlock.toList++b2∧Zns r col w a ys b2:=by
 obtain ⟨i,b2,b,d,rfl⟩:=h
 refine ⟨b2,rfl,?_⟩
 rcases b.2 with ⟨h,j⟩ | ⟨g,o,l,f,p,s,m,t,n,u⟩
 ·obtain rfl:=hO.1 j
  exact .inl ⟨rfl,d.2⟩
 ·simp only [Value.slice.injEq] at f
  obtain ⟨rfl,_,rfl⟩:=f
  refine .inr ⟨g,0,i,rfl,d,fun q v k=>?_⟩
  have:=b.cells (g:=g) rfl q v k
  rw [Vh] at this
  simpa using this

theorem Yt.lecap (h:Yt r e col w a cap xs bs):xs.length≤cap∧xs.length≤maxLen:=by
 obtain ⟨j,k,d,_,_⟩:=h
 rcases d.2 with ⟨b,l⟩ | ⟨g,m,f,b,n,o,i,p,_⟩
 ·simp only [Value.slice.injEq] at b;exact ⟨by omega,by omega⟩
 ·simp only [Value.slice.injEq] at b;exact ⟨by omega,by omega⟩

theorem Yt.append {P:Program} {f:Fr} {T t:Nat} {dst:Option Nat} {p:String} {af:Array Edge} {x y:Operand} {a2:Option Addr} {cap2 sz bytes:Nat} {by2:List Nat}
    (h:Yt r e col w a cap xs bs) (hnd:bs.Nodup) (h0:∀ b ∈ bs,col b≠0) (hd:∀ b ∈ bs,b ∉ by2) (h2:Zns r col w a2 ys by2) (hT:P.underlying T=some (.slice e)) (he:Wk P e sz bytes) (hsz:r.sz=sz) (hx:ev f x= .slice a xs.length cap) (hy:ev f y= .slice a2 ys.length cap2)
    (hb:(xs.length+ys.length) * bytes≤140737488355328) (hl:xs.length+ys.length≤maxLen):
    ∃ a' cap' w' gs b2,(execOp (ev f) ⟨dst,.call { callee:=.builtin .append,args:=#[x,y],argTypes:=#[T,T] },t,p,af,none⟩).run P w= .ok (.value (.slice a' (xs++ys).length cap')) w'∧
      bs=gs++b2∧gs=(Value.slice a xs.length cap).ownBlock.toList∧w.heap.size≤w'.heap.size∧(∀ k,k<w.heap.size→k ∉ gs→w'.heap[k]?=w.heap[k]?)∧Yn w w'∧(∀ col1:Zg,(∀ k,k<w.heap.size→col1 k=col k)→Yt r e col1 w' a cap xs bs)∧
      ((a'=a∧cap'=cap∧Yt r e col w' a cap (xs++ys) (gs++(b2++by2)))∨
       (w.heap.size<w'.heap.size∧(∀ k,k<w.heap.size→w'.heap[k]?=w.heap[k]?)∧∀ col1:Zg,(∀ k,k<w.heap.size→col1 k=col k)→Yt r e col1 w' a' cap' (xs++ys) (w.heap.size :: (b2++by2)))):=by
  obtain ⟨i,z,O,hz,B,a3,a4⟩:=he
  have b0:=h.lecap
  obtain ⟨u,b2,Q,E,rfl⟩:=h
  subst hsz
  have q:∀ v w',(Builtin.append_ #[T,T] t #[.slice a xs.length cap,.slice a2 ys.length cap2]).run P w= .ok v w'→
      (execOp (ev f) ⟨dst,.call { callee:=.builtin .append,args:=#[x,y],argTypes:=#[T,T] },t,p,af,none⟩).run P w= .ok (.value v) w':=by
    intro v w' hr
    simp [execOp,resolve,invoke,builtin,hx,hy,hr]
  by_cases hys:ys=[]
  · subst hys
    have b8:by2=[]:=by
      rcases h2 with h | ⟨_,_,_,_,h,_⟩
      · exact h.2
      · exact h.2
    subst b8
    refine ⟨a,cap,w,_,b2,q _ _ ?_,rfl,rfl,aV _,fun _ _ _=>rfl,⟨rfl,rfl,rfl⟩,fun col1 C=>Yt.keep ⟨u,b2,Q,E,rfl⟩ (fun k d h0=>⟨(C k d).trans h0,rfl⟩) fun _ _=>rfl,.inl ⟨rfl,rfl,u,b2,by simpa using Q,by simpa using E,by simp⟩⟩
    have K:=b0.1
    have f0:(Builtin.firstCells i.size 0 (.slice a2 0 cap2)).run P w= .ok #[] w:=by cases a2 <;> simp [Builtin.firstCells,loadCells,loadCellsFrom]
    simp only [fH,dA]
    cases a with
    | none=>simp [Builtin.append_,run_underlying hT,sizeOf,typeInfo,O,Builtin.lenOf,K,f0]
    | some b=>simp [Builtin.append_,run_underlying hT,sizeOf,typeInfo,O,Builtin.lenOf,K,f0,storeCells]
  · rcases h2 with h | ⟨L,o2,l,rfl,R,c0⟩
    · exact absurd h.1 hys
    have b1:0<ys.length:=List.length_pos_iff.2 hys
    have n:=R.length
    have D:∀ j v,l[j]?=some v→w.cell? ((⟨L,o2,none⟩:Addr).add j)=some v:=fun j v hj=>by rw [Vh];exact c0 j v hj
    have m:=E.append R
    have b3:∀ b ∈ b2++by2,b<w.heap.size:=m.lt
    have M:∀ (o:Array Value) (F:Nat),o.toList.take ((xs++ys).length * r.sz)=u++l→o.size=F * r.sz→xs.length+ys.length≤F→F≤maxLen→
        w.heap.size≤(w.drew.alloc (.cells o e)).heap.size∧w.heap.size<(w.drew.alloc (.cells o e)).heap.size∧(∀ k,k<w.heap.size→(w.drew.alloc (.cells o e)).heap[k]?=w.heap[k]?)∧Yn w (w.drew.alloc (.cells o e))∧
        ∀ col1:Zg,(∀ k,k<w.heap.size→col1 k=col k)→Yt r e col1 (w.drew.alloc (.cells o e)) a cap xs ((Value.slice a xs.length cap).ownBlock.toList++b2)∧Yt r e col1 (w.drew.alloc (.cells o e)) (some ⟨w.heap.size,0,none⟩) F (xs++ys) (w.heap.size :: (b2++by2)):=by
      intro o F c2 a1 c3 G
      have S:Below w.heap.size w (w.drew.alloc (.cells o e)):=((Below.refl w.heap.size w).drew).alloc (aV _) _
      have U:Yt r e col w a cap xs ((Value.slice a xs.length cap).ownBlock.toList++b2):=⟨u,b2,Q,E,rfl⟩
      have c9:(w.drew.alloc (.cells o e)).heap.size=w.heap.size+1:=by rw [World.size_alloc];rfl
      refine ⟨S.size,by omega,fun k d=>S.block k d,⟨rfl,rfl,rfl⟩,fun col1 V=>?_⟩
      have a5:Yu col w col1 (w.drew.alloc (.cells o e)):=fun k d h0=>⟨(V k d).trans h0,S.block k d⟩
      exact ⟨U.keep a5 fun b hb=>S.block b (U.lt b hb),⟨u++l,b2++by2,⟨by rw [m.length],.inr ⟨w.heap.size,F,o,rfl,bL _,heap_alloc_new w.drew _,by simpa using c3,G,a1,c2⟩⟩,m.keep a5 fun b hb=>S.block b (b3 b hb),by simp [Value.ownBlock]⟩⟩
    rcases Q.2 with ⟨W,hn⟩ | ⟨g,F,A,W,c6,hh,K,G,a6,ht⟩
    · simp only [Value.slice.injEq] at W
      obtain ⟨rfl,_,rfl⟩:=W
      obtain rfl:=hO.1 hn
      have c5:u=[]:=E.1
      subst c5
      have s:=run_append_nil (P:=P) w T t e i z hT O hz ⟨L,o2,none⟩ ys.length cap2 l (by rw [n,B]) D b1 (by simp only [maxLen,fH] at hl;omega) (by rw [a3];simp only [fH,cG] at hb;omega)
      obtain ⟨q1,q2,X,q4,Y⟩:=M (l.toArray++Builtin.zeroCells z.cells (grownCap w ys.length 0 e - ys.length)) (grownCap w ys.length 0 e) (by
          simp only [cB,Array.toList_append,eD,← n];simp) (by
          have:=grownCap_ge w ys.length 0 e
          simp only [Array.size_append,dC,size_zeroCells,n,a4];rw [← bI];congr 1;omega)
        (by simpa using grownCap_ge w ys.length 0 e) (grownCap_le_maxLen w _ _ _ (by simpa using hl))
      exact ⟨_,_,_,_,b2,q _ _ s,rfl,rfl,q1,fun k d _=>X k d,q4,fun H C=>(Y H C).1,.inr ⟨q2,X,fun H C=>(Y H C).2⟩⟩
    · simp only [Value.slice.injEq] at W
      obtain ⟨rfl,_,rfl⟩:=W
      by_cases hroom:xs.length+ys.length≤cap
      · have Z:(xs.length+ys.length) * r.sz≤cap * r.sz:=aX _ hroom
        rw [bI] at Z
        have s:=run_append_room (P:=P) w T t e i hT O g xs.length cap A hh ⟨L,o2,none⟩ ys.length cap2 l (by rw [n,B]) D R.one hroom (by rw [B,n,a6];exact Z)
        have I:(Value.slice (some (⟨g,0,none⟩:Addr)) xs.length cap).ownBlock=some g:=rfl
        rw [I] at hnd hd h0
        simp only [dQ,cK,cB] at hnd hd h0
        have a7:∀ b ∈ b2++by2,b≠g:=fun b G e=>by
          rw [e,aY] at G
          exact G.elim (cQ.1 hnd).1 (hd g (by simp))
        have d:Yu col w col (w.setRow g (A.toList.take (xs.length * i.size)++l++A.toList.drop (xs.length * i.size+l.length)).toArray):=fun k _ d=>⟨d,setRow_other w g k _ (fun e=>h0 g (by simp) (by rw [← e,d]))⟩
        have J:A.toList.length=cap * r.sz:=by simp [a6]
        have N:=E.length
        refine ⟨some ⟨g,0,none⟩,cap,_,[g],b2,q _ _ (by rw [bT];exact s),by simp [I],by simp [I],by simp [World.setRow],fun k _ d=>setRow_other w g k _ (by simpa using d),⟨rfl,rfl,rfl⟩,fun col1 V=>⟨u,b2,⟨by rw [N],.inr ⟨g,cap,_,rfl,bL _,setRow_heap w g A _ e _ hh,K,G,?_,?_⟩⟩,E.keep (fun k a8 a9=>⟨(V k a8).trans a9,(d k a8 a9).2⟩) fun b hb=>setRow_other w g b _ (a7 b (by simp [hb])),rfl⟩,
          .inl ⟨rfl,rfl,u++l,b2++by2,⟨by rw [m.length],.inr ⟨g,cap,_,rfl,bL _,setRow_heap w g A _ e _ hh,by simpa using hroom,G,?_,?_⟩⟩,m.keep d fun b hb=>setRow_other w g b _ (a7 b hb),by simp [Value.ownBlock]⟩⟩
        · simp only [dC,bT,cC,cH,J,n,B];omega
        · rw [B,← ht]
          simp only [eD,fT,bT,cC,J]
          rw [aZ (by omega:xs.length * r.sz≤cap * r.sz),aZ (aV _)]
          simp
        · simp only [dC,bT,cC,cH,J,n,B];omega
        · rw [B,ht,← m.length,List.take_left]
      · have N:=E.length
        have s:=run_append_grow (P:=P) w T t e i z hT O hz ⟨g,0,none⟩ xs.length cap u (by rw [N,B]) (Q.cells rfl) ⟨L,o2,none⟩ ys.length cap2 l (by rw [n,B]) D (by omega) (by simp only [maxLen] at hl;omega)
          (by rw [a3];exact growslice_fits (by omega) hb)
        obtain ⟨q1,q2,X,q4,Y⟩:=M (u.toArray++l.toArray++Builtin.zeroCells z.cells (grownCap w (xs.length+ys.length) cap e - (xs.length+ys.length))) (grownCap w (xs.length+ys.length) cap e) (by
            have:=m.length
            simp only [Array.toList_append]
            rw [← this,List.take_left' (by simp)]) (by
            have:=grownCap_ge w (xs.length+ys.length) cap e
            simp only [Array.size_append,dC,size_zeroCells,n,N,a4];rw [← bI,← bI];congr 1;omega)
          (grownCap_ge w _ _ _) (grownCap_le_maxLen w _ _ _ hl)
        exact ⟨_,_,_,_,b2,q _ _ (by rw [bT];exact s),rfl,rfl,q1,fun k d _=>X k d,q4,fun H C=>(Y H C).1,.inr ⟨q2,X,fun H C=>(Y H C).2⟩⟩

theorem Yt.take (h:Yt r e col w a cap xs bs) (k:Nat):∃ b',List.Sublist b' bs∧(Value.slice a (xs.take k).length cap).ownBlock=(Value.slice a xs.length cap).ownBlock∧Yt r e col w a cap (xs.take k) b':=by
 obtain ⟨o,y,p,q,rfl⟩:=h
 obtain ⟨f,A,rfl,i,_⟩:=q.split k
 have j:(Value.slice a (xs.take k).length cap).ownBlock=(Value.slice a xs.length cap).ownBlock:=by cases a <;> rfl
 refine ⟨(Value.slice a (xs.take k).length cap).ownBlock.toList++f,?_,j,o.take (k * r.sz),f,⟨i.length,?_⟩,i,rfl⟩
 ·rw [j];exact List.Sublist.append (List.Sublist.refl _) (List.sublist_append_left _ _)
 ·rcases p.2 with ⟨b,s⟩ | ⟨g,B,l,b,t,u,m,v,n,x⟩
  ·simp only [Value.slice.injEq] at b
   left;simp [s,b]
  ·simp only [Value.slice.injEq] at b
   obtain ⟨rfl,_,rfl⟩:=b
   refine .inr ⟨g,cap,l,rfl,t,u,Nat.le_trans (by simp;omega) m,v,n,?_⟩
   rw [← x,fT,cC]
   rcases Nat.le_total k xs.length with d | d
   ·rw [aZ d,aZ (aX _ d)]
   ·rw [dI d,dI (aX _ d)]
theorem X8.sub {b':List Nat} (h:X8 c col bs) (hs:List.Sublist b' bs):X8 c col b':=⟨hs.nodup h.1,fun b d=>h.2 b (hs.subset d)⟩
theorem Zb.take (h:Zb r e c col w a cap xs) (k:Nat):Zb r e c col w a cap (xs.take k):=by
 obtain ⟨bs,b,d⟩:=h
 obtain ⟨f,g,_,i⟩:=b.take k
 exact ⟨f,i,d.sub g⟩

end
end Go.Proofs.YtpkknichfgooaaaGreat
