/-
  Operations on what a call owns: rows that are grown and written. Over any program.
-/
import Derived.Test.YtdpdogdkolblnaaGreatDoorQueryAskBMemOps
namespace Go.Proofs.YtdpdogdkolblnaaGreatDoor
open Go Go.RowKit
open Go.IntKind (i8 i16 i32 i64 u8 u16 u32 u64)

def Wa (P:Program) (e:TypeId) (sz bytes:Nat):Prop:=∃ i z,P.info? e=some i∧i.zero=some z∧i.size=sz∧i.bytes=bytes∧z.cells.size=sz

section
variable {α:Type} {r:Za α} {e c:Nat} {col:Zd} {w:World} {a:Option Addr} {cap:Nat} {xs ys:List α} {bs:List Nat}

def Xw (col:Zd) (w:World) (c:Nat):Zd:=fun k=>if k<w.heap.size then col k else c

theorem Zg.new {w':World} (h:Below w.heap.size w w') (c:Nat):Zg col w (Xw col w c) w':=⟨h,fun k hk=>by simp [Xw,hk]⟩
theorem Zme (w:World) (o:Obj):Below w.heap.size w (w.alloc o):=(Below.refl _ _).alloc (Nat.le_refl _) o
theorem Zl.gr {col':Zd} {w':World} (h:Zg col w col' w'):Zl col w col' w':=(h.keep 1).stay (by decide)

theorem X6.store {P:Program} {f:Fr} {T t:Nat} {p:String} {af:Array Edge} {px y:Operand} {j:Int} {x0 x:α} {v:Value} {sz:Nat} {b':List Nat} (h:X6 r e col w a cap xs bs) (hnd:bs.Nodup) (hj:Zq xs j=some x0)
  (hsz:r.sz=sz) (hs:∀ w,(sizeOf T).run P w= .ok sz w) (hv:r.rd col w v.cells.toList x b') (hd:∀ b ∈ bs,b ∉ b') (h0:∀ b ∈ bs,col b≠0) (hx:ev f px=X5 a (j.toNat * sz)) (hy:ev f y=v):
  ∃ w' g b1 b2 b3,(execOp (ev f) ⟨none,.store T px y,t,p,af,none⟩).run P w= .ok .skip w'∧bs=g :: (b1++b2++b3)∧w.heap.size≤w'.heap.size∧(∀ k,k≠g→w'.heap[k]?=w.heap[k]?)∧Xt w w'∧
   X6 r e col w' a cap (xs.set j.toNat x) (g :: (b1++b'++b3)):=by
 subst hsz
 obtain ⟨hj0,h1,h2⟩:=Yb hj
 obtain ⟨fl,bb,h3,h4,rfl⟩:=h
 rcases h3.2 with ⟨_,hn⟩ | ⟨g,cp,cur,hv',hb,hh,hle,hm,hcs,ht⟩
 ·omega
 ·simp only [Value.slice.injEq] at hv'
  obtain ⟨rfl,_,rfl⟩:=hv'
  have hown:(Value.slice (some (⟨g,0,none⟩:Addr)) xs.length cap).ownBlock=some g:=rfl
  rw [hown] at hnd hd h0
  simp only [Option.toList_some,List.cons_append,List.nil_append] at hnd hd h0
  have hlv:=r.len hv
  have hmul:j.toNat * r.sz+r.sz≤xs.length * r.sz:=by
   have h7:j.toNat+1≤xs.length:=by omega
   have:=Nat.mul_le_mul_right r.sz h7
   rw [Nat.add_mul] at this;omega
  have hmul2:xs.length * r.sz≤cap * r.sz:=Nat.mul_le_mul_right _ hle
  have hrun:=run_storeCells_at P g (j.toNat * r.sz) e v.cells.toList 0 cur w hh (by rw [hlv];omega) (r.one hv)
  simp only [Nat.add_zero,hlv] at hrun
  obtain ⟨cs,b1,b2,b3,rfl,h6,h7,h8⟩:=h4.get h2
  refine ⟨w.setRow g (cur.toList.take (j.toNat * r.sz)++v.cells.toList++cur.toList.drop (j.toNat * r.sz+r.sz)).toArray,g,b1,b2,b3,?_,rfl,by simp [World.setRow],fun k hk=>setRow_other w g k _ hk,⟨rfl,rfl,rfl⟩,?_⟩
  ·have hlv':v.cells.size=r.sz:=by rw [← hlv];simp
   simp only [execOp,hx,hy,X5,Option.map_some,Vc,Nat.zero_add,Instr.storeAt,Instr.sureAddr,storeVar]
   simp [hs,hlv',hrun]
  ·have hne:∀ b,b ∈ b1++b2++b3→b≠g:=fun b hm e=>(List.nodup_cons.1 hnd).1 (e ▸ hm)
   have hk:Zl col w col (w.setRow g (cur.toList.take (j.toNat * r.sz)++v.cells.toList++cur.toList.drop (j.toNat * r.sz+r.sz)).toArray):=fun k _ hk=>⟨hk,setRow_other w g k _ (fun e=>h0 g (by simp) (by rw [← e];exact hk))⟩
   have hset:=h8 _ _ x v.cells.toList b' hk (fun b hb=>setRow_other w g b _ (hne b (by simp only [List.mem_append] at hb ⊢;exact hb.elim (fun h=>.inl (.inl h)) .inr))) (r.keep hv hk fun b hb=>setRow_other w g b _ (fun e=>hd g (by simp) (by rw [← e];exact hb)))
   refine ⟨_,_,⟨by rw [hset.length,List.length_set],.inr ⟨g,cap,_,by rw [List.length_set],Nat.zero_le _,setRow_heap w g cur _ e _ hh,by rw [List.length_set];exact hle,hm,?_,?_⟩⟩,hset,by simp [Value.ownBlock]⟩
   ·have hlen:cur.toList.length=cap * r.sz:=by simp [hcs]
    simp only [List.size_toArray,List.length_append,List.length_take,List.length_drop,hlen,hlv];omega
   ·rw [List.length_set,← ht]
    have hlen:cur.toList.length=cap * r.sz:=by simp [hcs]
    simp only [List.take_append,List.length_append,List.length_take,hlen,hlv,List.take_take,List.drop_take]
    rw [Nat.min_eq_left (by omega:j.toNat * r.sz≤xs.length * r.sz),Nat.min_eq_right (by omega:j.toNat * r.sz≤xs.length * r.sz),Nat.min_eq_left (by omega:j.toNat * r.sz≤cap * r.sz)]
    rw [List.take_of_length_le (l:=v.cells.toList) (by rw [hlv];omega)]

theorem Zc.store {P:Program} {f:Fr} {T t:Nat} {p:String} {af:Array Edge} {px y:Operand} {j:Int} {x0 x:α} {v:Value} {sz:Nat} (h:Zc r e c col w a cap xs) (hc:c≠0) (hj:Zq xs j=some x0)
  (hsz:r.sz=sz) (hs:∀ w,(sizeOf T).run P w= .ok sz w) (hv:r.rd col w v.cells.toList x []) (hx:ev f px=X5 a (j.toNat * sz)) (hy:ev f y=v):
  ∃ w',(execOp (ev f) ⟨none,.store T px y,t,p,af,none⟩).run P w= .ok .skip w'∧Xe c col w col w'∧Xt w w'∧Zc r e c col w' a cap (xs.set j.toNat x):=by
 obtain ⟨bs,h1,h2⟩:=h
 obtain ⟨w',g,b1,b2,b3,k1,rfl,k3,k4,k5,k6⟩:=h1.store (P:=P) (t:=t) (p:=p) (af:=af) h2.1 hj hsz hs hv (by simp) (fun b hb=>by rw [h2.2 b hb];exact hc) hx hy
 refine ⟨w',k1,⟨k3,fun _ _=>rfl,fun k _ hk=>k4 k fun e=>hk (by rw [e];exact h2.2 g (by simp))⟩,k5,_,k6,?_,fun b hb=>h2.2 b (by simp at hb ⊢;rcases hb with hb | hb | hb <;> simp [hb])⟩
 have:=h2.1
 simp only [List.nodup_cons,List.nodup_append,List.mem_append,not_or,List.append_nil] at this ⊢
 exact ⟨⟨this.1.1.1,this.1.2⟩,this.2.1.1,this.2.2.1,fun x hx y hy=>this.2.2.2 x (.inl hx) y hy⟩

def Ziq (r:Za α) (col:Zd) (w:World) (a:Option Addr) (ys:List α) (bs:List Nat):Prop:=
 (ys=[]∧bs=[])∨∃ b off fl,a=some ⟨b,off,none⟩∧Rows r col w fl ys bs∧∀ q v,fl[q]?=some v→w.cell? ⟨b,off+q,none⟩=some v
theorem Sl.src {cap:Nat} (h:Sl r col w a cap ys):Ziq r col w a ys []:=by
 rcases h.2 with h | ⟨b,off,fl,ha,_,hr,hx⟩
 ·exact .inl ⟨h,rfl⟩
 ·exact .inr ⟨b,off,fl,ha,hr,hx⟩
theorem X6.src (h:X6 r e col w a cap ys bs):∃ b2,bs=(Value.slice a ys.length cap).ownBlock.toList++b2∧Ziq r col w a ys b2:=by
 obtain ⟨fl,b2,h1,h2,rfl⟩:=h
 refine ⟨b2,rfl,?_⟩
 rcases h1.2 with ⟨h,hn⟩ | ⟨g,cp,cur,hv,hb,hh,hle,hm,hsz,ht⟩
 ·obtain rfl:=List.length_eq_zero_iff.1 hn
  exact .inl ⟨rfl,h2.2⟩
 ·simp only [Value.slice.injEq] at hv
  obtain ⟨rfl,_,rfl⟩:=hv
  refine .inr ⟨g,0,fl,rfl,h2,fun q v hq=>?_⟩
  have:=h1.cells (g:=g) rfl q v hq
  rw [Vc] at this
  simpa using this

theorem X6.lecap (h:X6 r e col w a cap xs bs):xs.length≤cap∧xs.length≤maxLen:=by
 obtain ⟨fl,b2,h1,_,_⟩:=h
 rcases h1.2 with ⟨hv,hn⟩ | ⟨g,cp,cur,hv,hb,hh,hle,hm,_⟩
 ·simp only [Value.slice.injEq] at hv;exact ⟨by omega,by omega⟩
 ·simp only [Value.slice.injEq] at hv;exact ⟨by omega,by omega⟩

theorem X6.append {P:Program} {f:Fr} {T t:Nat} {dst:Option Nat} {p:String} {af:Array Edge} {x y:Operand} {a2:Option Addr} {cap2 sz bytes:Nat} {by2:List Nat}
    (h:X6 r e col w a cap xs bs) (hnd:bs.Nodup) (h0:∀ b ∈ bs,col b≠0) (hd:∀ b ∈ bs,b ∉ by2) (h2:Ziq r col w a2 ys by2) (hT:P.underlying T=some (.slice e)) (he:Wa P e sz bytes) (hsz:r.sz=sz) (hx:ev f x= .slice a xs.length cap) (hy:ev f y= .slice a2 ys.length cap2)
    (hb:(xs.length+ys.length) * bytes≤140737488355328) (hl:xs.length+ys.length≤maxLen):
    ∃ a' cap' w' gs b2,(execOp (ev f) ⟨dst,.call { callee:=.builtin .append,args:=#[x,y],argTypes:=#[T,T] },t,p,af,none⟩).run P w= .ok (.value (.slice a' (xs++ys).length cap')) w'∧
      bs=gs++b2∧gs=(Value.slice a xs.length cap).ownBlock.toList∧w.heap.size≤w'.heap.size∧(∀ k,k<w.heap.size→k ∉ gs→w'.heap[k]?=w.heap[k]?)∧Xt w w'∧(∀ col1:Zd,(∀ k,k<w.heap.size→col1 k=col k)→X6 r e col1 w' a cap xs bs)∧
      ((a'=a∧cap'=cap∧X6 r e col w' a cap (xs++ys) (gs++(b2++by2)))∨
       (w.heap.size<w'.heap.size∧(∀ k,k<w.heap.size→w'.heap[k]?=w.heap[k]?)∧∀ col1:Zd,(∀ k,k<w.heap.size→col1 k=col k)→X6 r e col1 w' a' cap' (xs++ys) (w.heap.size :: (b2++by2)))):=by
  obtain ⟨i,z,hi,hz,hs,hby,hzs⟩:=he
  have hcap:=h.lecap
  obtain ⟨fl,b2,h3,h4,rfl⟩:=h
  subst hsz
  have hexec:∀ v w',(Builtin.append_ #[T,T] t #[.slice a xs.length cap,.slice a2 ys.length cap2]).run P w= .ok v w'→
      (execOp (ev f) ⟨dst,.call { callee:=.builtin .append,args:=#[x,y],argTypes:=#[T,T] },t,p,af,none⟩).run P w= .ok (.value v) w':=by
    intro v w' hr
    simp [execOp,resolve,invoke,builtin,hx,hy,hr]
  by_cases hys:ys=[]
  · subst hys
    have hb0:by2=[]:=by
      rcases h2 with h | ⟨_,_,_,_,h,_⟩
      · exact h.2
      · exact h.2
    subst hb0
    refine ⟨a,cap,w,_,b2,hexec _ _ ?_,rfl,rfl,Nat.le_refl _,fun _ _ _=>rfl,⟨rfl,rfl,rfl⟩,fun col1 h1=>X6.keep ⟨fl,b2,h3,h4,rfl⟩ (fun k hk h0=>⟨(h1 k hk).trans h0,rfl⟩) fun _ _=>rfl,.inl ⟨rfl,rfl,fl,b2,by simpa using h3,by simpa using h4,by simp⟩⟩
    have hle:=hcap.1
    have f0:(Builtin.firstCells i.size 0 (.slice a2 0 cap2)).run P w= .ok #[] w:=by cases a2 <;> simp [Builtin.firstCells,loadCells,loadCellsFrom]
    simp only [List.length_nil,List.append_nil]
    cases a with
    | none=>simp [Builtin.append_,run_underlying hT,sizeOf,typeInfo,hi,Builtin.lenOf,hle,f0]
    | some b=>simp [Builtin.append_,run_underlying hT,sizeOf,typeInfo,hi,Builtin.lenOf,hle,f0,storeCells]
  · rcases h2 with h | ⟨bb2,o2,fl2,rfl,hr2,hx2⟩
    · exact absurd h.1 hys
    have hpos:0<ys.length:=List.length_pos_iff.2 hys
    have hl2:=hr2.length
    have hnews:∀ j v,fl2[j]?=some v→w.cell? ((⟨bb2,o2,none⟩:Addr).add j)=some v:=fun j v hj=>by rw [Vc];exact hx2 j v hj
    have hall:=h4.append hr2
    have hblt:∀ b ∈ b2++by2,b<w.heap.size:=hall.lt
    have hgrow:∀ (cs:Array Value) (cp:Nat),cs.toList.take ((xs++ys).length * r.sz)=fl++fl2→cs.size=cp * r.sz→xs.length+ys.length≤cp→cp≤maxLen→
        w.heap.size≤(w.drew.alloc (.cells cs e)).heap.size∧w.heap.size<(w.drew.alloc (.cells cs e)).heap.size∧(∀ k,k<w.heap.size→(w.drew.alloc (.cells cs e)).heap[k]?=w.heap[k]?)∧Xt w (w.drew.alloc (.cells cs e))∧
        ∀ col1:Zd,(∀ k,k<w.heap.size→col1 k=col k)→X6 r e col1 (w.drew.alloc (.cells cs e)) a cap xs ((Value.slice a xs.length cap).ownBlock.toList++b2)∧X6 r e col1 (w.drew.alloc (.cells cs e)) (some ⟨w.heap.size,0,none⟩) cp (xs++ys) (w.heap.size :: (b2++by2)):=by
      intro cs cp htk hsize hcp hm
      have hg:Below w.heap.size w (w.drew.alloc (.cells cs e)):=((Below.refl w.heap.size w).drew).alloc (Nat.le_refl _) _
      have hold:X6 r e col w a cap xs ((Value.slice a xs.length cap).ownBlock.toList++b2):=⟨fl,b2,h3,h4,rfl⟩
      have hsz1:(w.drew.alloc (.cells cs e)).heap.size=w.heap.size+1:=by rw [World.size_alloc];rfl
      refine ⟨hg.size,by omega,fun k hk=>hg.block k hk,⟨rfl,rfl,rfl⟩,fun col1 hc1=>?_⟩
      have hst:Zl col w col1 (w.drew.alloc (.cells cs e)):=fun k hk h0=>⟨(hc1 k hk).trans h0,hg.block k hk⟩
      exact ⟨hold.keep hst fun b hb=>hg.block b (hold.lt b hb),⟨fl++fl2,b2++by2,⟨by rw [hall.length],.inr ⟨w.heap.size,cp,cs,rfl,Nat.zero_le _,heap_alloc_new w.drew _,by simpa using hcp,hm,hsize,htk⟩⟩,hall.keep hst fun b hb=>hg.block b (hblt b hb),by simp [Value.ownBlock]⟩⟩
    rcases h3.2 with ⟨hv,hn⟩ | ⟨g,cp,cur,hv,hbase,hh,hle,hm,hcs,ht⟩
    · simp only [Value.slice.injEq] at hv
      obtain ⟨rfl,_,rfl⟩:=hv
      obtain rfl:=List.length_eq_zero_iff.1 hn
      have hfl:fl=[]:=h4.1
      subst hfl
      have hrun:=run_append_nil (P:=P) w T t e i z hT hi hz ⟨bb2,o2,none⟩ ys.length cap2 fl2 (by rw [hl2,hs]) hnews hpos (by simp only [maxLen,List.length_nil] at hl;omega) (by rw [hby];simp only [List.length_nil,Nat.zero_add] at hb;omega)
      obtain ⟨q1,q2,q3,q4,q5⟩:=hgrow (fl2.toArray++Builtin.zeroCells z.cells (grownCap w ys.length 0 e - ys.length)) (grownCap w ys.length 0 e) (by
          simp only [List.nil_append,Array.toList_append,List.take_append,← hl2];simp) (by
          have:=grownCap_ge w ys.length 0 e
          simp only [Array.size_append,List.size_toArray,size_zeroCells,hl2,hzs];rw [← Nat.add_mul];congr 1;omega)
        (by simpa using grownCap_ge w ys.length 0 e) (grownCap_le_maxLen w _ _ _ (by simpa using hl))
      exact ⟨_,_,_,_,b2,hexec _ _ hrun,rfl,rfl,q1,fun k hk _=>q3 k hk,q4,fun c1 h1=>(q5 c1 h1).1,.inr ⟨q2,q3,fun c1 h1=>(q5 c1 h1).2⟩⟩
    · simp only [Value.slice.injEq] at hv
      obtain ⟨rfl,_,rfl⟩:=hv
      by_cases hroom:xs.length+ys.length≤cap
      · have hmul:(xs.length+ys.length) * r.sz≤cap * r.sz:=Nat.mul_le_mul_right _ hroom
        rw [Nat.add_mul] at hmul
        have hrun:=run_append_room (P:=P) w T t e i hT hi g xs.length cap cur hh ⟨bb2,o2,none⟩ ys.length cap2 fl2 (by rw [hl2,hs]) hnews hr2.one hroom (by rw [hs,hl2,hcs];exact hmul)
        have hown:(Value.slice (some (⟨g,0,none⟩:Addr)) xs.length cap).ownBlock=some g:=rfl
        rw [hown] at hnd hd h0
        simp only [Option.toList_some,List.cons_append,List.nil_append] at hnd hd h0
        have hne:∀ b ∈ b2++by2,b≠g:=fun b hm e=>by
          rw [e,List.mem_append] at hm
          exact hm.elim (List.nodup_cons.1 hnd).1 (hd g (by simp))
        have hk:Zl col w col (w.setRow g (cur.toList.take (xs.length * i.size)++fl2++cur.toList.drop (xs.length * i.size+fl2.length)).toArray):=fun k _ hk=>⟨hk,setRow_other w g k _ (fun e=>h0 g (by simp) (by rw [← e,hk]))⟩
        have hlen:cur.toList.length=cap * r.sz:=by simp [hcs]
        have hlf:=h4.length
        refine ⟨some ⟨g,0,none⟩,cap,_,[g],b2,hexec _ _ (by rw [List.length_append];exact hrun),by simp [hown],by simp [hown],by simp [World.setRow],fun k _ hk=>setRow_other w g k _ (by simpa using hk),⟨rfl,rfl,rfl⟩,fun col1 hc1=>⟨fl,b2,⟨by rw [hlf],.inr ⟨g,cap,_,rfl,Nat.zero_le _,setRow_heap w g cur _ e _ hh,hle,hm,?_,?_⟩⟩,h4.keep (fun k hk' h0'=>⟨(hc1 k hk').trans h0',(hk k hk' h0').2⟩) fun b hb=>setRow_other w g b _ (hne b (by simp [hb])),rfl⟩,
          .inl ⟨rfl,rfl,fl++fl2,b2++by2,⟨by rw [hall.length],.inr ⟨g,cap,_,rfl,Nat.zero_le _,setRow_heap w g cur _ e _ hh,by simpa using hroom,hm,?_,?_⟩⟩,hall.keep hk fun b hb=>setRow_other w g b _ (hne b hb),by simp [Value.ownBlock]⟩⟩
        · simp only [List.size_toArray,List.length_append,List.length_take,List.length_drop,hlen,hl2,hs];omega
        · rw [hs,← ht]
          simp only [List.take_append,List.take_take,List.length_append,List.length_take,hlen]
          rw [Nat.min_eq_left (by omega:xs.length * r.sz≤cap * r.sz),Nat.min_eq_left (Nat.le_refl _)]
          simp
        · simp only [List.size_toArray,List.length_append,List.length_take,List.length_drop,hlen,hl2,hs];omega
        · rw [hs,ht,← hall.length,List.take_left]
      · have hlf:=h4.length
        have hrun:=run_append_grow (P:=P) w T t e i z hT hi hz ⟨g,0,none⟩ xs.length cap fl (by rw [hlf,hs]) (h3.cells rfl) ⟨bb2,o2,none⟩ ys.length cap2 fl2 (by rw [hl2,hs]) hnews (by omega) (by simp only [maxLen] at hl;omega)
          (by rw [hby];exact growslice_fits (by omega) hb)
        obtain ⟨q1,q2,q3,q4,q5⟩:=hgrow (fl.toArray++fl2.toArray++Builtin.zeroCells z.cells (grownCap w (xs.length+ys.length) cap e - (xs.length+ys.length))) (grownCap w (xs.length+ys.length) cap e) (by
            have:=hall.length
            simp only [Array.toList_append]
            rw [← this,List.take_left' (by simp)]) (by
            have:=grownCap_ge w (xs.length+ys.length) cap e
            simp only [Array.size_append,List.size_toArray,size_zeroCells,hl2,hlf,hzs];rw [← Nat.add_mul,← Nat.add_mul];congr 1;omega)
          (grownCap_ge w _ _ _) (grownCap_le_maxLen w _ _ _ hl)
        exact ⟨_,_,_,_,b2,hexec _ _ (by rw [List.length_append];exact hrun),rfl,rfl,q1,fun k hk _=>q3 k hk,q4,fun c1 h1=>(q5 c1 h1).1,.inr ⟨q2,q3,fun c1 h1=>(q5 c1 h1).2⟩⟩

theorem X6.take (h:X6 r e col w a cap xs bs) (k:Nat):∃ b',List.Sublist b' bs∧(Value.slice a (xs.take k).length cap).ownBlock=(Value.slice a xs.length cap).ownBlock∧X6 r e col w a cap (xs.take k) b':=by
 obtain ⟨fl,b2,h1,h2,rfl⟩:=h
 obtain ⟨c1,c2,rfl,h3,_⟩:=h2.split k
 have ho:(Value.slice a (xs.take k).length cap).ownBlock=(Value.slice a xs.length cap).ownBlock:=by cases a <;> rfl
 refine ⟨(Value.slice a (xs.take k).length cap).ownBlock.toList++c1,?_,ho,fl.take (k * r.sz),c1,⟨h3.length,?_⟩,h3,rfl⟩
 ·rw [ho];exact List.Sublist.append (List.Sublist.refl _) (List.sublist_append_left _ _)
 ·rcases h1.2 with ⟨hv,hn⟩ | ⟨g,cp,cur,hv,hb,hh,hle,hm,hsz,ht⟩
  ·simp only [Value.slice.injEq] at hv
   left;simp [hn,hv]
  ·simp only [Value.slice.injEq] at hv
   obtain ⟨rfl,_,rfl⟩:=hv
   refine .inr ⟨g,cap,cur,rfl,hb,hh,Nat.le_trans (by simp;omega) hle,hm,hsz,?_⟩
   rw [← ht,List.take_take,List.length_take]
   rcases Nat.le_total k xs.length with hk | hk
   ·rw [Nat.min_eq_left hk,Nat.min_eq_left (Nat.mul_le_mul_right _ hk)]
   ·rw [Nat.min_eq_right hk,Nat.min_eq_right (Nat.mul_le_mul_right _ hk)]
theorem Xo.sub {b':List Nat} (h:Xo c col bs) (hs:List.Sublist b' bs):Xo c col b':=⟨hs.nodup h.1,fun b hb=>h.2 b (hs.subset hb)⟩
theorem Zc.take (h:Zc r e c col w a cap xs) (k:Nat):Zc r e c col w a cap (xs.take k):=by
 obtain ⟨bs,h1,h2⟩:=h
 obtain ⟨b',h3,_,h4⟩:=h1.take k
 exact ⟨b',h4,h2.sub h3⟩

end
end Go.Proofs.YtdpdogdkolblnaaGreatDoor
