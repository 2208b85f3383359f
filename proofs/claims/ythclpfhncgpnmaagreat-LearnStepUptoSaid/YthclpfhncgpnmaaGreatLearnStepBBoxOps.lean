/-
  Rows that are made or written out, variables in boxes. Over any program.
-/
import Derived.Test.YthclpfhncgpnmaaGreatLearnStepBDeep
namespace Go.Proofs.YthclpfhncgpnmaaGreat
open Go Go.RowKit
open List renaming mem_singleton→bO,take_of_length_le→bA,replicate→aD,getElem?_map→cQ,getElem?_range→gP,getElem?_eq_none→cG,drop_eq_nil_of_le→aG
open Nat renaming add_mul→bB,mul_comm→bS,zero_add→cC,le_trans→aT
open Int renaming natCast_mul→bN,toNat_natCast→aC
open Go.IntKind (i8 i16 i32 i64 u8 u16 u32 u64)

section
variable {α:Type} {r:Za α} {e c:Nat} {col:Ze} {w:World} {xs:List α}

def W5 (r:Za α) (c:Nat) (col:Ze) (w:World) (fl:List Value) (xs:List α):Prop:=∃ bs,Rows r col w fl xs bs∧X9 c col bs
theorem Rows.h {fl:List Value} (h:Rows r col w fl xs []):W5 r c col w fl xs:=⟨[],h,.nil⟩
theorem W5.nil:W5 r c col w [] ([]:List α):=⟨[],⟨rfl,rfl⟩,.nil⟩
theorem Zb.fresh (cs:Array Value) (cap:Nat) (hcap:xs.length≤cap) (hm:cap≤maxLen) (hsz:cs.size=cap * r.sz) (fl:List Value) (hfl:cs.toList.take (xs.length * r.sz)=fl) (hr:W5 r c col w fl xs):
  Zj col w (Wm col w c) (w.alloc (.cells cs e))∧Zb r e c (Wm col w c) (w.alloc (.cells cs e)) (some ⟨w.heap.size,0,none⟩) cap xs:=by
 have j:Zj col w (Wm col w c) (w.alloc (.cells cs e)):=Zj.new (Zrr w _) c
 obtain ⟨l,k,m⟩:=hr
 have i:=k.lt
 refine ⟨j,w.heap.size :: l,⟨fl,l,⟨k.length,.inr ⟨w.heap.size,cap,cs,rfl,Nat.zero_le _,heap_alloc_new w _,hcap,hm,hsz,hfl⟩⟩,k.keep (X5.gr j) fun b d=>j.below.block b (i b d),by simp [Value.ownBlock]⟩,
  (Tv (b1:=[w.heap.size])).2 ⟨⟨by simp,fun b d=>by simp only [bO] at d;subst d;simp [Wm]⟩,⟨m.1,fun b d=>by simp only [Wm,i b d,if_true];exact m.2 b d⟩,fun b d o=>by simp only [bO] at d;subst d;exact Nat.lt_irrefl _ (i _ o)⟩⟩

theorem Xa0 {P:Program} {f:Fr} {T t n:Nat} {dst:Option Nat} {p:String} {af:Array Edge} {parts:Array (Nat×Operand)} {sz bytes:Nat} (cs:Array Value) (c:Nat) (hT:P.underlying T=some (.slice e)) (he:Wt P e sz bytes) (hsz:r.sz=sz)
  (hn:xs.length=n) (h24:Nat.ble (n * sz) 16777216=true) (h0:Nat.blt 0 n=true) (hfill:∀ z:Array Value,z.size=sz→Instr.fill (fun i=>some (i * sz,sz)) ((Array.range (n * sz)).map (z[· % z.size]!)) (List.map (fun x=>(x.fst,ev f x.snd)) parts.toList)=some cs)
  (hcs:cs.size=n * sz) (hr:W5 r c col w cs.toList xs):
  ∃ w',(execOp (ev f) ⟨dst,.buildSlice T n parts,t,p,af,none⟩).run P w= .ok (.value (.slice (some ⟨w.heap.size,0,none⟩) xs.length xs.length)) w'∧
   Zj col w (Wm col w c) w'∧Zb r e c (Wm col w c) w' (some ⟨w.heap.size,0,none⟩) xs.length xs:=by
 obtain ⟨i,z,hi,l,m,q,j⟩:=he
 have h24:=Nat.le_of_ble_eq_true h24
 have o:0<n:=by simpa using h0
 have u:=r.pos
 have k:¬ n * sz=0:=by rw [Nat.mul_eq_zero];omega
 have s:n * 1≤n * sz:=Nat.mul_le_mul_left n (by omega)
 refine ⟨_,?_,Zb.fresh (c:=c) cs xs.length (Nat.le_refl _) (by simp only [maxLen];omega) (by rw [hcs,hn,hsz]) cs.toList (by rw [bA];simp [hcs,hn,hsz]) hr⟩
 have b:=hfill z.cells j
 have d:¬ 16777216<n * sz:=by omega
 simp [execOp,Instr.buildSlice,run_underlying hT,sizeOf,typeInfo,hi,m,d,k,zeroValue,l,newRow,hn,b]

theorem Xcp (z:Array Value) (n:Nat) (sz:Nat) (h:z.size=sz) (h0:0<sz):(madeCells z (n * sz)).toList=(aD n z.toList).flatten:=by
 subst h
 induction n with
 | zero=>simp [madeCells]
 | succ n i=>
  have k:(madeCells z ((n+1) * z.size)).toList=(madeCells z (n * z.size)).toList++z.toList:=by
   apply List.ext_getElem?
   intro j
   simp only [madeCells,Array.toList_map,Array.toList_range,cQ]
   by_cases hj:j<n * z.size
   ·rw [List.getElem?_append_left (by simpa using hj),cQ,gP hj,gP (by rw [bB];omega)]
   ·rw [List.getElem?_append_right (by simpa using hj)]
    simp only [List.length_map,List.length_range]
    by_cases hj2:j<(n+1) * z.size
    ·rw [gP hj2]
     have b:j - n * z.size<z.size:=by rw [bB] at hj2;omega
     have d:j % z.size=j - n * z.size:=by
      have e:=Nat.mul_add_mod z.size n (j - n * z.size)
      rw [Nat.mod_eq_of_lt b,show z.size * n+(j - n * z.size)=j by rw [bS z.size n];omega] at e
      exact e
     simp [d,b]
    ·rw [cG (by simpa using hj2),Option.map_none,cG]
     simp only [Array.length_toList];rw [bB] at hj2;omega
  rw [k,i,List.replicate_succ',List.flatten_append];simp

theorem Rows.replicate {cs:List Value} {x:α} (h:r.rd col w cs x []):∀ n,Rows r col w (aD n cs).flatten (aD n x) []
 | 0=>⟨rfl,rfl⟩
 | n+1=>⟨cs,_,[],[],by simp [List.replicate_succ],rfl,h,Rows.replicate h n⟩

theorem Xa1 {P:Program} {f:Fr} {T t:Nat} {dst:Option Nat} {p:String} {af:Array Edge} {x y:Operand} {kl kc:IntKind} {n sz bytes:Nat} {z:Value} {x0:α} (c:Nat) (hT:P.underlying T=some (.slice e)) (i:TypeInfo) (hi:P.info? e=some i) (hz:i.zero=some z) (hs:i.size=sz) (hby:i.bytes=bytes) (hsz:r.sz=sz)
  (hx:ev f x= .int kl (n:Int)) (hy:ev f y= .int kc (n:Int)) (hb:n * bytes≤281474976710656) (hm:n≤maxLen) (hr:r.rd col w z.cells.toList x0 []):
  ∃ w',(execOp (ev f) ⟨dst,.makeSlice T x y,t,p,af,none⟩).run P w= .ok (.value (.slice (some ⟨w.heap.size,0,none⟩) (aD n x0).length n)) w'∧
   Zj col w (Wm col w c) w'∧Zb r e c (Wm col w c) w' (some ⟨w.heap.size,0,none⟩) n (aD n x0):=by
 have k:=r.pos
 have j:=r.len hr
 have d:z.cells.size=sz:=by rw [← hsz,← j];simp
 have b:=run_make (P:=P) w T e i z hT hi hz kl kc (n:Int) (n:Int) (by omega) (by omega) (by rw [hby,← bN,bS];omega) (by simp only [maxLen] at hm;omega)
 simp only [aC] at b
 refine ⟨_,?_,Zb.fresh (c:=c) (madeCells z.cells (n * i.size)) n (by simp) hm (by rw [size_madeCells,hs,hsz]) (aD n z.cells.toList).flatten ?_ (Rows.replicate hr n).h⟩
 ·simp only [List.length_replicate]
  simp [execOp,hx,hy,b]
 ·rw [hs,Xcp _ _ _ d (by omega),bA]
  simp [hsz,d]

theorem Xa2 {P:Program} {f:Fr} {T t:Nat} {dst:Option Nat} {p:String} {af:Array Edge} {x y:Operand} {kl kc:IntKind} {n sz bytes:Nat} (c:Nat) (hT:P.underlying T=some (.slice e)) (he:Wt P e sz bytes) (hsz:r.sz=sz)
  (hx:ev f x= .int kl 0) (hy:ev f y= .int kc (n:Int)) (hb:n * bytes≤281474976710656) (hm:n≤maxLen):
  ∃ w',(execOp (ev f) ⟨dst,.makeSlice T x y,t,p,af,none⟩).run P w= .ok (.value (.slice (some ⟨w.heap.size,0,none⟩) 0 n)) w'∧
   Zj col w (Wm col w c) w'∧Zb r e c (Wm col w c) w' (some ⟨w.heap.size,0,none⟩) n ([]:List α):=by
 obtain ⟨i,z,hi,j,k,d,l⟩:=he
 have b:=run_make (P:=P) w T e i z hT hi j kl kc 0 (n:Int) (by omega) (by omega) (by rw [d,← bN,bS];omega) (by simp only [maxLen] at hm;omega)
 simp only [aC] at b
 refine ⟨_,?_,Zb.fresh (c:=c) (madeCells z.cells (n * i.size)) n (by simp) hm (by rw [size_madeCells,k,hsz]) [] (by simp) .nil⟩
 simp [execOp,hx,hy,b]

/-! boxes -/
theorem Zd.fresh (cs:Array Value) (c:Nat):Zj col w (Wm col w c) (w.alloc (.cells cs e))∧Zd e c (Wm col w c) (w.alloc (.cells cs e)) w.heap.size cs:=
 ⟨Zj.new (Zrr w _) c,by simp [Wm],heap_alloc_new w _⟩
theorem Xas {P:Program} {f:Fr} {t:Nat} {dst:Option Nat} {p:String} {af:Array Edge} {x:Operand} {v:Value} (c:Nat) (hx:ev f x=v):
  ∃ w',(execOp (ev f) ⟨dst,.box e x,t,p,af,none⟩).run P w= .ok (.value (.pointer (some ⟨w.heap.size,0,none⟩))) w'∧Zj col w (Wm col w c) w'∧Zd e c (Wm col w c) w' w.heap.size v.cells:=
 ⟨_,by simp [execOp,hx,Instr.box,newVar,newRow],Zd.fresh v.cells c⟩
theorem Xar {P:Program} {f:Fr} {t:Nat} {dst:Option Nat} {p:String} {af:Array Edge} {v:Value} (c:Nat) (hz:∀ w,(zeroValue e).run P w= .ok v w):
  ∃ w',(execOp (ev f) ⟨dst,.alloc e,t,p,af,none⟩).run P w= .ok (.value (.pointer (some ⟨w.heap.size,0,none⟩))) w'∧Zj col w (Wm col w c) w'∧Zd e c (Wm col w c) w' w.heap.size v.cells:=
 ⟨_,by simp [execOp,hz,Instr.alloc,newVar,newRow],Zd.fresh v.cells c⟩
theorem Zd.atN {g:Nat} {cs:Array Value} (h:Zd e c col w g cs):Ue w (.pointer (some ⟨g,0,none⟩)) cs.toList:=
 ⟨g,0,rfl,fun q v b=>by rw [cC,cell_of_row w g q cs e (0,0) h.2];simpa using b⟩
theorem Zd.at1 {g:Nat} {v:Value} (h:Zd e c col w g #[v]):T8 w (.pointer (some ⟨g,0,none⟩)) v:=h.atN.one

theorem Zd.store {P:Program} {f:Fr} {T t g n:Nat} {p:String} {af:Array Edge} {px y:Operand} {v:Value} {cs:Array Value} (h:Zd e c col w g cs)
  (hs:∀ w,(sizeOf T).run P w= .ok n w) (hn:cs.size=n) (hv:v.cells.size=n) (h1:∀ u ∈ v.cells.toList,u.oneCell'=true) (hx:ev f px= .pointer (some ⟨g,0,none⟩)) (hy:ev f y=v):
  ∃ w',(execOp (ev f) ⟨none,.store T px y,t,p,af,none⟩).run P w= .ok .skip w'∧Yf c col w col w'∧Yq w w'∧Zd e c col w' g v.cells:=by
 have b:=run_storeCells_at P g 0 e v.cells.toList 0 cs w h.2 (by simp [hv,hn]) h1
 have d:(cs.toList.take (0+0)++v.cells.toList++cs.toList.drop (0+0+v.cells.toList.length)).toArray=v.cells:=by
  have:cs.toList.length≤v.cells.toList.length:=by simp [hn,hv]
  simp only [Nat.add_zero,cC,List.take_zero,List.nil_append]
  rw [aG this];simp
 rw [d] at b
 refine ⟨w.setRow g v.cells,?_,⟨by simp [World.setRow],fun _ _=>rfl,fun k _ i=>setRow_other w g k _ (fun e=>i (by rw [e,h.1]))⟩,⟨rfl,rfl,rfl⟩,h.1,setRow_heap w g cs _ e _ h.2⟩
 simp only [execOp,hx,hy,Instr.storeAt,Instr.sureAddr,storeVar]
 simp [hs,hv,b]

/-! a call's end -/
def U4 (B:Nat) (col col':Ze) (g:Nat→Nat):Ze:=fun k=>if k<B then col k else g (col' k)
theorem St.fin {w0 w':World} {col':Ze} (h:St w0 (Zh col) col' w') (g:Nat→Nat):Zj col w0 (U4 w0.heap.size col col' g) w':=⟨h.below,fun k b=>by simp [U4,b]⟩
theorem St.finStay {w0 w':World} {col':Ze} (h:St w0 (Zh col) col' w') {g:Nat→Nat} (hg:g 0=0):X5 col' w' (U4 w0.heap.size col col' g) w':=fun k _ b=>⟨by
 unfold U4;split
 ·rename_i d;have:=h.oldc k d;rw [b] at this;unfold Zh at this;split at this
  ·assumption
  ·cases this
 ·rw [b,hg],rfl⟩
theorem St.finSl {w0 w':World} {col':Ze} {a:Option Addr} {cap:Nat} (h:St w0 (Zh col) col' w') {g:Nat→Nat} (hg:g 0=0) (hs:Sl r col' w' a cap xs):Sl r (U4 w0.heap.size col col' g) w' a cap xs:=hs.keep (h.finStay hg)
theorem St.finMine {w0 w':World} {col':Ze} {i:Nat} {bs:List Nat} (h:St w0 (Zh col) col' w') {g:Nat→Nat} (hm:X9 i col' bs) (h0:i≠0) (h9:i≠999) (hc:g i=c):X9 c (U4 w0.heap.size col col' g) bs:=⟨hm.1,fun k d=>by
 unfold U4;split
 ·rename_i j;have b:=h.oldc k j;rw [hm.2 k d] at b;unfold Zh at b;split at b
  ·exact absurd b h0
  ·exact absurd b h9
 ·rw [hm.2 k d,hc]⟩
theorem St.finOwn {w0 w':World} {col':Ze} {a:Option Addr} {i cap:Nat} (h:St w0 (Zh col) col' w') {g:Nat→Nat} (hg:g 0=0) (ho:Zb r e i col' w' a cap xs) (h0:i≠0) (h9:i≠999) (hc:g i=c):Zb r e c (U4 w0.heap.size col col' g) w' a cap xs:=by
 obtain ⟨b,d,j⟩:=ho
 exact ⟨b,d.keep (h.finStay hg) fun _ _=>rfl,h.finMine j h0 h9 hc⟩
def Z2 {β:Type} (c:Prop) [Decidable c] (x:Option β):Option β:=if c then x else none
theorem Z4 {β:Type} {c:Prop} [Decidable c] {x:Option β} {y:β} (h:Z2 c x=some y):c∧x=some y:=by
 unfold Z2 at h;split at h
 ·exact ⟨by assumption,h⟩
 ·cases h
theorem bZ {β γ:Type} {o:Option β} {g:β→Option γ} {y:γ} (h:o.bind g=some y):∃ x,o=some x∧g x=some y:=by
 cases o with
 | none=>cases h
 | some x=>exact ⟨x,rfl,h⟩
theorem Yt {l:List α} {x:α} {k:Nat} (h:xs.drop k=x :: l):Zk xs (k:Int)=some x∧xs.drop (k+1)=l∧k<xs.length:=by
 have b:xs[k]?=some x:=by have:=congrArg (·[0]?) h;simpa using this
 refine ⟨by rw [Zcf];exact b,?_,(List.getElem?_eq_some_iff.1 b).1⟩
 have:=congrArg List.tail h;simpa using this
theorem Yv {k:Nat} (h:k<maxLen):i64.wrap ((k:Int)+1)=((k+1:Nat):Int):=by
 simp only [maxLen] at h
 rw [IntKind.wrap_i64] <;> omega
theorem Zo7 {i:Nat} {N:Fr→World→Prop} {E:Nat→Fr→World→Prop} {f:Fr} (h:N f w):Ziy i N E i f w:=by simp only [Ziy,Nat.beq_refl,cond_true];exact h
theorem Z8z {i j:Nat} {N:Fr→World→Prop} {E:Nat→Fr→World→Prop} {f:Fr} (hj:Nat.beq i j=false) (h:E i f w):Ziy j N E i f w:=by simp only [Ziy,hj,cond_false];exact h

/-! calls -/
section
variable {P:Program} {f:Fr} {t:Nat} {dst:Option Nat} {p:String} {af:Array Edge} {ts:Array TypeId} {g:FuncId} {x1 x2 x3 x4 x5 x6:Operand} {v1 v2 v3 v4 v5 v6:Value}
theorem Zfu (hc:∀ args w,(callFunc g args).run P w= .ok (.enter g args) w):
  (execOp (ev f) ⟨dst,.call { callee:=.value (.func g),args:=#[],argTypes:=ts },t,p,af,none⟩).run P w= .ok (.enter g #[]) w:=by
 simp [execOp,resolve,ev,Deferred.ofValue,invoke,hc]
theorem Ztr (hc:∀ args w,(callFunc g args).run P w= .ok (.enter g args) w) (h1:ev f x1=v1):
  (execOp (ev f) ⟨dst,.call { callee:=.value (.func g),args:=#[x1],argTypes:=ts },t,p,af,none⟩).run P w= .ok (.enter g #[v1]) w:=by
 subst h1;simp [execOp,resolve,ev,Deferred.ofValue,invoke,hc]
theorem Tj (hc:∀ args w,(callFunc g args).run P w= .ok (.enter g args) w) (h1:ev f x1=v1) (h2:ev f x2=v2):
  (execOp (ev f) ⟨dst,.call { callee:=.value (.func g),args:=#[x1,x2],argTypes:=ts },t,p,af,none⟩).run P w= .ok (.enter g #[v1,v2]) w:=by
 subst h1 h2;simp [execOp,resolve,ev,Deferred.ofValue,invoke,hc]
theorem Zqp (hc:∀ args w,(callFunc g args).run P w= .ok (.enter g args) w) (h1:ev f x1=v1) (h2:ev f x2=v2) (h3:ev f x3=v3):
  (execOp (ev f) ⟨dst,.call { callee:=.value (.func g),args:=#[x1,x2,x3],argTypes:=ts },t,p,af,none⟩).run P w= .ok (.enter g #[v1,v2,v3]) w:=by
 subst h1 h2 h3;simp [execOp,resolve,ev,Deferred.ofValue,invoke,hc]
end

/-! slices of slices -/
theorem add_zero (a:Addr):a.add 0=a:=by
 unfold Addr.add;cases a;split <;> simp_all

section
variable {P:Program} {f:Fr} {t:Nat} {dst:Option Nat} {p:String} {af:Array Edge} {x lo hi:Operand} {T:TypeId} {a:Option Addr} {n cap sz:Nat}
theorem Zca {kh:IntKind} {h:Int} (hT:P.underlying T=some (.slice e)) (hsz:∀ w,(sizeOf e).run P w= .ok sz w) (hx:ev f x= .slice a n cap) (hh:ev f hi= .int kh h) (h0:0≤h) (h1:h≤(cap:Int)):
  (execOp (ev f) ⟨dst,.slice T x none (some hi) none,t,p,af,none⟩).run P w= .ok (.value (.slice a h.toNat cap)) w:=by
 have b:(Option.map (fun x=>x.add 0) a)=a:=by cases a <;> simp [add_zero]
 simp [execOp,Instr.sliceAt,run_underlying hT,hx,hh,Instr.slice,Instr.sliceBounds,Instr.sliceBound,asIntOf,h0,h1,hsz,b]
theorem Xa3 {kl:IntKind} {l:Int} (hT:P.underlying T=some (.slice e)) (hsz:∀ w,(sizeOf e).run P w= .ok sz w) (hx:ev f x= .slice a n cap) (hl:ev f lo= .int kl l) (h0:0≤l) (h1:l≤(n:Int)):
  (execOp (ev f) ⟨dst,.slice T x (some lo) none none,t,p,af,none⟩).run P w= .ok (.value (.slice (if cap=l.toNat then a else a.map (·.add (l.toNat * sz))) (n - l.toNat) (cap - l.toNat))) w:=by
 simp [execOp,Instr.sliceAt,run_underlying hT,hx,hl,Instr.slice,Instr.sliceBounds,Instr.sliceBound,asIntOf,h0,h1,hsz]
theorem Zqu {kl kh:IntKind} {l h:Int} (hT:P.underlying T=some (.slice e)) (hsz:∀ w,(sizeOf e).run P w= .ok sz w) (hx:ev f x= .slice a n cap) (hl:ev f lo= .int kl l) (hh:ev f hi= .int kh h) (h0:0≤l) (h1:l≤h) (h2:h≤(cap:Int)):
  (execOp (ev f) ⟨dst,.slice T x (some lo) (some hi) none,t,p,af,none⟩).run P w= .ok (.value (.slice (if cap=l.toNat then a else a.map (·.add (l.toNat * sz))) (h.toNat - l.toNat) (cap - l.toNat))) w:=by
 have b:0≤h:=by omega
 have d:l≤max h 0:=by omega
 simp [execOp,Instr.sliceAt,run_underlying hT,hx,hl,hh,Instr.slice,Instr.sliceBounds,Instr.sliceBound,asIntOf,h0,h2,b,hsz]
 try omega

theorem Sl.take {α:Type} {r:Za α} {xs:List α} (h:Sl r col w a cap xs) (k:Nat):Sl r col w a cap (xs.take k):=by
 refine ⟨⟨aT (by simp;omega) h.1.1,aT (by simp;omega) h.1.2⟩,?_⟩
 rcases h.2 with h | ⟨b,i,j,l,m,o,s⟩
 ·left;rw [h];simp
 ·refine .inr ⟨b,i,j.take (k * r.sz),l,m,o.take k,fun q v d=>?_⟩
  rw [List.getElem?_take] at d
  split at d
  ·exact s q v d
  ·cases d
theorem Sl.drop {α:Type} {r:Za α} {xs:List α} (h:Sl r col w a cap xs) (hs:r.sz=sz) (k:Nat):Sl r col w (if cap=k then a else a.map (·.add (k * sz))) (cap - k) (xs.drop k):=by
 subst hs
 by_cases hk:xs.length≤k
 ·rw [aG hk];exact .nil
 have u:=h.1
 refine ⟨⟨by simp;omega,by simp;omega⟩,?_⟩
 rw [if_neg (by omega)]
 rcases h.2 with h | ⟨b,d,j,l,m,o,s⟩
 ·left;rw [h];simp
 ·subst l
  refine .inr ⟨b,d+k * r.sz,j.drop (k * r.sz),by simp [V8],m,o.drop k,fun q v i=>?_⟩
  rw [List.getElem?_drop] at i
  have:=s _ v i
  rw [Nat.add_assoc];exact this
theorem Zb.lecap {α:Type} {r:Za α} {xs:List α} {c:Nat} (h:Zb r e c col w a cap xs):xs.length≤cap:=by obtain ⟨_,b,_⟩:=h;exact b.lecap.1
end
end
end Go.Proofs.YthclpfhncgpnmaaGreat
