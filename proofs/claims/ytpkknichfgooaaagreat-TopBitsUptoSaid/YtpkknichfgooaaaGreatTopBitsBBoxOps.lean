/-
  Rows that are made or written out, variables in boxes. Over any program.
-/
import Derived.Test.YtpkknichfgooaaaGreatTopBitsBDeep
namespace Go.Proofs.YtpkknichfgooaaaGreat
open Go Go.RowKit
open List renaming mem_singleton→bD,take_of_length_le→bG,replicate→aC,getElem?_map→cI,getElem?_range→fU,getElem?_eq_none→cR,flatten_append→iJ,length_replicate→aT,drop_eq_nil_of_le→aI
open Nat renaming add_mul→bI,mul_comm→bP,zero_add→cG,le_trans→aN
open Int renaming natCast_mul→bH,toNat_natCast→aB
open Go.IntKind (i8 i16 i32 i64 u8 u16 u32 u64)

section
variable {α:Type} {r:Zc α} {e c:Nat} {col:Zg} {w:World} {xs:List α}

def Wf (r:Zc α) (c:Nat) (col:Zg) (w:World) (fl:List Value) (xs:List α):Prop:=∃ bs,Rows r col w fl xs bs∧X8 c col bs
theorem Rows.h {fl:List Value} (h:Rows r col w fl xs []):Wf r c col w fl xs:=⟨[],h,.nil⟩
theorem Wf.nil:Wf r c col w [] ([]:List α):=⟨[],⟨rfl,rfl⟩,.nil⟩
theorem Wf.cons {d:Nat} {cs fl:List Value} {x:α} (h:Ys r d col w cs x) (k:Wf r c col w fl xs) (hne:c≠d) (hd:d≠0):Wf r c (Xq d c col) w (cs++fl) (x :: xs):=by
 obtain ⟨b,m,i⟩:=h
 obtain ⟨j,o,l⟩:=k
 exact ⟨b++j,⟨cs,fl,b,j,rfl,rfl,r.keep m (Yu.recol d c hd) fun _ _=>rfl,o.keep (Yu.recol d c hd) fun _ _=>rfl⟩,Sa.2 ⟨i.rcS,l.rc hne,Zpg i l (Ne.symm hne)⟩⟩

theorem Zb.fresh (cs:Array Value) (cap:Nat) (hcap:xs.length≤cap) (hm:cap≤maxLen) (hsz:cs.size=cap * r.sz) (fl:List Value) (hfl:cs.toList.take (xs.length * r.sz)=fl) (hr:Wf r c col w fl xs):
  Zl col w (Yz col w c) (w.alloc (.cells cs e))∧Zb r e c (Yz col w c) (w.alloc (.cells cs e)) (some ⟨w.heap.size,0,none⟩) cap xs:=by
 have j:Zl col w (Yz col w c) (w.alloc (.cells cs e)):=Zl.new (Zqo w _) c
 obtain ⟨l,k,m⟩:=hr
 have i:=k.lt
 refine ⟨j,w.heap.size :: l,⟨fl,l,⟨k.length,.inr ⟨w.heap.size,cap,cs,rfl,Nat.zero_le _,heap_alloc_new w _,hcap,hm,hsz,hfl⟩⟩,k.keep (Yu.gr j) fun b d=>j.below.block b (i b d),by simp [Value.ownBlock]⟩,
  (Sa (b1:=[w.heap.size])).2 ⟨⟨by simp,fun b d=>by simp only [bD] at d;subst d;simp [Yz]⟩,⟨m.1,fun b d=>by simp only [Yz,i b d,if_true];exact m.2 b d⟩,fun b d o=>by simp only [bD] at d;subst d;exact Nat.lt_irrefl _ (i _ o)⟩⟩

theorem Z9v {P:Program} {f:Fr} {T t n:Nat} {dst:Option Nat} {p:String} {af:Array Edge} {parts:Array (Nat×Operand)} {sz bytes:Nat} (cs:Array Value) (c:Nat) (hT:P.underlying T=some (.slice e)) (he:Wk P e sz bytes) (hsz:r.sz=sz)
  (hn:xs.length=n) (h24:Nat.ble (n * sz) 16777216=true) (h0:Nat.blt 0 n=true) (hfill:∀ z:Array Value,z.size=sz→Instr.fill (fun i=>some (i * sz,sz)) ((Array.range (n * sz)).map (z[· % z.size]!)) (List.map (fun x=>(x.fst,ev f x.snd)) parts.toList)=some cs)
  (hcs:cs.size=n * sz) (hr:Wf r c col w cs.toList xs):
  ∃ w',(execOp (ev f) ⟨dst,.buildSlice T n parts,t,p,af,none⟩).run P w= .ok (.value (.slice (some ⟨w.heap.size,0,none⟩) xs.length xs.length)) w'∧
   Zl col w (Yz col w c) w'∧Zb r e c (Yz col w c) w' (some ⟨w.heap.size,0,none⟩) xs.length xs:=by
 obtain ⟨i,z,hi,l,m,q,j⟩:=he
 have h24:=Nat.le_of_ble_eq_true h24
 have o:0<n:=by simpa using h0
 have u:=r.pos
 have k:¬ n * sz=0:=by rw [Nat.mul_eq_zero];omega
 have s:n * 1≤n * sz:=Nat.mul_le_mul_left n (by omega)
 refine ⟨_,?_,Zb.fresh (c:=c) cs xs.length (Nat.le_refl _) (by simp only [maxLen];omega) (by rw [hcs,hn,hsz]) cs.toList (by rw [bG];simp [hcs,hn,hsz]) hr⟩
 have b:=hfill z.cells j
 have d:¬ 16777216<n * sz:=by omega
 simp [execOp,Instr.buildSlice,run_underlying hT,sizeOf,typeInfo,hi,m,d,k,zeroValue,l,newRow,hn,b]

theorem Z2a (z:Array Value) (n:Nat) (sz:Nat) (h:z.size=sz) (h0:0<sz):(madeCells z (n * sz)).toList=(aC n z.toList).flatten:=by
 subst h
 induction n with
 | zero=>simp [madeCells]
 | succ n i=>
  have k:(madeCells z ((n+1) * z.size)).toList=(madeCells z (n * z.size)).toList++z.toList:=by
   apply List.ext_getElem?
   intro j
   simp only [madeCells,Array.toList_map,Array.toList_range,cI]
   by_cases hj:j<n * z.size
   ·rw [List.getElem?_append_left (by simpa using hj),cI,fU hj,fU (by rw [bI];omega)]
   ·rw [List.getElem?_append_right (by simpa using hj)]
    simp only [List.length_map,List.length_range]
    by_cases hj2:j<(n+1) * z.size
    ·rw [fU hj2]
     have b:j - n * z.size<z.size:=by rw [bI] at hj2;omega
     have d:j % z.size=j - n * z.size:=by
      have e:=Nat.mul_add_mod z.size n (j - n * z.size)
      rw [Nat.mod_eq_of_lt b,show z.size * n+(j - n * z.size)=j by rw [bP z.size n];omega] at e
      exact e
     simp [d,b]
    ·rw [cR (by simpa using hj2),Option.map_none,cR]
     simp only [Array.length_toList];rw [bI] at hj2;omega
  rw [k,i,List.replicate_succ',iJ];simp

theorem Rows.replicate {cs:List Value} {x:α} (h:r.rd col w cs x []):∀ n,Rows r col w (aC n cs).flatten (aC n x) []
 | 0=>⟨rfl,rfl⟩
 | n+1=>⟨cs,_,[],[],by simp [List.replicate_succ],rfl,h,Rows.replicate h n⟩

theorem Z9w {P:Program} {f:Fr} {T t:Nat} {dst:Option Nat} {p:String} {af:Array Edge} {x y:Operand} {kl kc:IntKind} {n sz bytes:Nat} {z:Value} {x0:α} (c:Nat) (hT:P.underlying T=some (.slice e)) (i:TypeInfo) (hi:P.info? e=some i) (hz:i.zero=some z) (hs:i.size=sz) (hby:i.bytes=bytes) (hsz:r.sz=sz)
  (hx:ev f x= .int kl (n:Int)) (hy:ev f y= .int kc (n:Int)) (hb:n * bytes≤281474976710656) (hm:n≤maxLen) (hr:r.rd col w z.cells.toList x0 []):
  ∃ w',(execOp (ev f) ⟨dst,.makeSlice T x y,t,p,af,none⟩).run P w= .ok (.value (.slice (some ⟨w.heap.size,0,none⟩) (aC n x0).length n)) w'∧
   Zl col w (Yz col w c) w'∧Zb r e c (Yz col w c) w' (some ⟨w.heap.size,0,none⟩) n (aC n x0):=by
 have k:=r.pos
 have j:=r.len hr
 have d:z.cells.size=sz:=by rw [← hsz,← j];simp
 have b:=run_make (P:=P) w T e i z hT hi hz kl kc (n:Int) (n:Int) (by omega) (by omega) (by rw [hby,← bH,bP];omega) (by simp only [maxLen] at hm;omega)
 simp only [aB] at b
 refine ⟨_,?_,Zb.fresh (c:=c) (madeCells z.cells (n * i.size)) n (by simp) hm (by rw [size_madeCells,hs,hsz]) (aC n z.cells.toList).flatten ?_ (Rows.replicate hr n).h⟩
 ·simp only [aT]
  simp [execOp,hx,hy,b]
 ·rw [hs,Z2a _ _ _ d (by omega),bG]
  simp [hsz,d]

theorem Z9y {P:Program} {f:Fr} {T t:Nat} {dst:Option Nat} {p:String} {af:Array Edge} {x y:Operand} {kl kc:IntKind} {l n sz bytes:Nat} {z:Value} {x0:α} (c:Nat) (hT:P.underlying T=some (.slice e)) (i:TypeInfo) (hi:P.info? e=some i) (hz:i.zero=some z) (hs:i.size=sz) (hby:i.bytes=bytes) (hsz:r.sz=sz)
  (hx:ev f x= .int kl (l:Int)) (hy:ev f y= .int kc (n:Int)) (hb:n * bytes≤281474976710656) (hm:n≤maxLen) (hln:l≤n) (hr:r.rd col w z.cells.toList x0 []):
  ∃ w',(execOp (ev f) ⟨dst,.makeSlice T x y,t,p,af,none⟩).run P w= .ok (.value (.slice (some ⟨w.heap.size,0,none⟩) (aC l x0).length n)) w'∧
   Zl col w (Yz col w c) w'∧Zb r e c (Yz col w c) w' (some ⟨w.heap.size,0,none⟩) n (aC l x0):=by
 have k:=r.pos
 have j:=r.len hr
 have b:z.cells.size=sz:=by rw [← hsz,← j];simp
 have d:=run_make (P:=P) w T e i z hT hi hz kl kc (l:Int) (n:Int) (by omega) (by omega) (by rw [hby,← bH,bP];omega) (by simp only [maxLen] at hm;omega)
 simp only [aB] at d
 refine ⟨_,?_,Zb.fresh (c:=c) (madeCells z.cells (n * i.size)) n (by simpa using hln) hm (by rw [size_madeCells,hs,hsz]) (aC l z.cells.toList).flatten ?_ (Rows.replicate hr l).h⟩
 ·simp only [aT]
  simp [execOp,hx,hy,d]
 ·obtain ⟨q,rfl⟩:=Nat.le.dest hln
  rw [hs,Z2a _ _ _ b (by omega),show aC (l+q) z.cells.toList=aC l z.cells.toList++aC q z.cells.toList by simp,iJ,List.take_append_of_le_length (by simp [hsz,b]),bG (by simp [hsz,b])]

theorem Z9x {P:Program} {f:Fr} {T t:Nat} {dst:Option Nat} {p:String} {af:Array Edge} {x y:Operand} {kl kc:IntKind} {n sz bytes:Nat} (c:Nat) (hT:P.underlying T=some (.slice e)) (he:Wk P e sz bytes) (hsz:r.sz=sz)
  (hx:ev f x= .int kl 0) (hy:ev f y= .int kc (n:Int)) (hb:n * bytes≤281474976710656) (hm:n≤maxLen):
  ∃ w',(execOp (ev f) ⟨dst,.makeSlice T x y,t,p,af,none⟩).run P w= .ok (.value (.slice (some ⟨w.heap.size,0,none⟩) 0 n)) w'∧
   Zl col w (Yz col w c) w'∧Zb r e c (Yz col w c) w' (some ⟨w.heap.size,0,none⟩) n ([]:List α):=by
 obtain ⟨i,z,hi,j,k,d,l⟩:=he
 have b:=run_make (P:=P) w T e i z hT hi j kl kc 0 (n:Int) (by omega) (by omega) (by rw [d,← bH,bP];omega) (by simp only [maxLen] at hm;omega)
 simp only [aB] at b
 refine ⟨_,?_,Zb.fresh (c:=c) (madeCells z.cells (n * i.size)) n (by simp) hm (by rw [size_madeCells,k,hsz]) [] (by simp) .nil⟩
 simp [execOp,hx,hy,b]

/-! boxes -/
theorem Zi.fresh (cs:Array Value) (c:Nat):Zl col w (Yz col w c) (w.alloc (.cells cs e))∧Zi e c (Yz col w c) (w.alloc (.cells cs e)) w.heap.size cs:=
 ⟨Zl.new (Zqo w _) c,by simp [Yz],heap_alloc_new w _⟩
theorem Z9m {P:Program} {f:Fr} {t:Nat} {dst:Option Nat} {p:String} {af:Array Edge} {x:Operand} {v:Value} (c:Nat) (hx:ev f x=v):
  ∃ w',(execOp (ev f) ⟨dst,.box e x,t,p,af,none⟩).run P w= .ok (.value (.pointer (some ⟨w.heap.size,0,none⟩))) w'∧Zl col w (Yz col w c) w'∧Zi e c (Yz col w c) w' w.heap.size v.cells:=
 ⟨_,by simp [execOp,hx,Instr.box,newVar,newRow],Zi.fresh v.cells c⟩
theorem Z9l {P:Program} {f:Fr} {t:Nat} {dst:Option Nat} {p:String} {af:Array Edge} {v:Value} (c:Nat) (hz:∀ w,(zeroValue e).run P w= .ok v w):
  ∃ w',(execOp (ev f) ⟨dst,.alloc e,t,p,af,none⟩).run P w= .ok (.value (.pointer (some ⟨w.heap.size,0,none⟩))) w'∧Zl col w (Yz col w c) w'∧Zi e c (Yz col w c) w' w.heap.size v.cells:=
 ⟨_,by simp [execOp,hz,Instr.alloc,newVar,newRow],Zi.fresh v.cells c⟩
theorem Zi.atN {g:Nat} {cs:Array Value} (h:Zi e c col w g cs):V2 w (.pointer (some ⟨g,0,none⟩)) cs.toList:=
 ⟨g,0,rfl,fun q v b=>by rw [cG,cell_of_row w g q cs e (0,0) h.2];simpa using b⟩
theorem Zi.at1 {g:Nat} {v:Value} (h:Zi e c col w g #[v]):Tz w (.pointer (some ⟨g,0,none⟩)) v:=h.atN.one

theorem Zi.store {P:Program} {f:Fr} {T t g n:Nat} {p:String} {af:Array Edge} {px y:Operand} {v:Value} {cs:Array Value} (h:Zi e c col w g cs)
  (hs:∀ w,(sizeOf T).run P w= .ok n w) (hn:cs.size=n) (hv:v.cells.size=n) (h1:∀ u ∈ v.cells.toList,u.oneCell'=true) (hx:ev f px= .pointer (some ⟨g,0,none⟩)) (hy:ev f y=v):
  ∃ w',(execOp (ev f) ⟨none,.store T px y,t,p,af,none⟩).run P w= .ok .skip w'∧Yh c col w col w'∧Yn w w'∧Zi e c col w' g v.cells:=by
 have b:=run_storeCells_at P g 0 e v.cells.toList 0 cs w h.2 (by simp [hv,hn]) h1
 have d:(cs.toList.take (0+0)++v.cells.toList++cs.toList.drop (0+0+v.cells.toList.length)).toArray=v.cells:=by
  have:cs.toList.length≤v.cells.toList.length:=by simp [hn,hv]
  simp only [Nat.add_zero,cG,List.take_zero,List.nil_append]
  rw [aI this];simp
 rw [d] at b
 refine ⟨w.setRow g v.cells,?_,⟨by simp [World.setRow],fun _ _=>rfl,fun k _ i=>setRow_other w g k _ (fun e=>i (by rw [e,h.1]))⟩,⟨rfl,rfl,rfl⟩,h.1,setRow_heap w g cs _ e _ h.2⟩
 simp only [execOp,hx,hy,Instr.storeAt,Instr.sureAddr,storeVar]
 simp [hs,hv,b]

/-! a call's end -/
def Uc (B:Nat) (col col':Zg) (g:Nat→Nat):Zg:=fun k=>if k<B then col k else g (col' k)
theorem St.fin {w0 w':World} {col':Zg} (h:St w0 (Zk col) col' w') (g:Nat→Nat):Zl col w0 (Uc w0.heap.size col col' g) w':=⟨h.below,fun k b=>by simp [Uc,b]⟩
theorem St.finStay {w0 w':World} {col':Zg} (h:St w0 (Zk col) col' w') {g:Nat→Nat} (hg:g 0=0):Yu col' w' (Uc w0.heap.size col col' g) w':=fun k _ b=>⟨by
 unfold Uc;split
 ·rename_i d;have:=h.oldc k d;rw [b] at this;unfold Zk at this;split at this
  ·assumption
  ·cases this
 ·rw [b,hg],rfl⟩
theorem St.finSl {w0 w':World} {col':Zg} {a:Option Addr} {cap:Nat} (h:St w0 (Zk col) col' w') {g:Nat→Nat} (hg:g 0=0) (hs:Sl r col' w' a cap xs):Sl r (Uc w0.heap.size col col' g) w' a cap xs:=hs.keep (h.finStay hg)
theorem St.finMine {w0 w':World} {col':Zg} {i:Nat} {bs:List Nat} (h:St w0 (Zk col) col' w') {g:Nat→Nat} (hm:X8 i col' bs) (h0:i≠0) (h9:i≠999) (hc:g i=c):X8 c (Uc w0.heap.size col col' g) bs:=⟨hm.1,fun k d=>by
 unfold Uc;split
 ·rename_i j;have b:=h.oldc k j;rw [hm.2 k d] at b;unfold Zk at b;split at b
  ·exact absurd b h0
  ·exact absurd b h9
 ·rw [hm.2 k d,hc]⟩
theorem St.finOwn {w0 w':World} {col':Zg} {a:Option Addr} {i cap:Nat} (h:St w0 (Zk col) col' w') {g:Nat→Nat} (hg:g 0=0) (ho:Zb r e i col' w' a cap xs) (h0:i≠0) (h9:i≠999) (hc:g i=c):Zb r e c (Uc w0.heap.size col col' g) w' a cap xs:=by
 obtain ⟨b,d,j⟩:=ho
 exact ⟨b,d.keep (h.finStay hg) fun _ _=>rfl,h.finMine j h0 h9 hc⟩
def Z1 {β:Type} (c:Prop) [Decidable c] (x:Option β):Option β:=if c then x else none
theorem Z5 {β:Type} {c:Prop} [Decidable c] {x:Option β} {y:β} (h:Z1 c x=some y):c∧x=some y:=by
 unfold Z1 at h;split at h
 ·exact ⟨by assumption,h⟩
 ·cases h
theorem bZ {β γ:Type} {o:Option β} {g:β→Option γ} {y:γ} (h:o.bind g=some y):∃ x,o=some x∧g x=some y:=by
 cases o with
 | none=>cases h
 | some x=>exact ⟨x,rfl,h⟩
theorem Yo {l:List α} {x:α} {k:Nat} (h:xs.drop k=x :: l):Zn xs (k:Int)=some x∧xs.drop (k+1)=l∧k<xs.length:=by
 have b:xs[k]?=some x:=by have:=congrArg (·[0]?) h;simpa using this
 refine ⟨by rw [Zha];exact b,?_,(List.getElem?_eq_some_iff.1 b).1⟩
 have:=congrArg List.tail h;simpa using this
theorem Yp {k:Nat} (h:k<maxLen):i64.wrap ((k:Int)+1)=((k+1:Nat):Int):=by
 simp only [maxLen] at h
 rw [IntKind.wrap_i64] <;> omega
theorem Zog {i:Nat} {N:Fr→World→Prop} {E:Nat→Fr→World→Prop} {f:Fr} (h:N f w):Zhp i N E i f w:=by simp only [Zhp,Nat.beq_refl,cond_true];exact h
theorem Z7u {i j:Nat} {N:Fr→World→Prop} {E:Nat→Fr→World→Prop} {f:Fr} (hj:Nat.beq i j=false) (h:E i f w):Zhp j N E i f w:=by simp only [Zhp,hj,cond_false];exact h

/-! calls -/
section
variable {P:Program} {f:Fr} {t:Nat} {dst:Option Nat} {p:String} {af:Array Edge} {ts:Array TypeId} {g:FuncId} {x1 x2 x3 x4 x5 x6:Operand} {v1 v2 v3 v4 v5 v6:Value}
theorem Sv (hc:∀ args w,(callFunc g args).run P w= .ok (.enter g args) w):
  (execOp (ev f) ⟨dst,.call { callee:=.value (.func g),args:=#[],argTypes:=ts },t,p,af,none⟩).run P w= .ok (.enter g #[]) w:=by
 simp [execOp,resolve,ev,Deferred.ofValue,invoke,hc]
theorem Zg0 (hc:∀ args w,(callFunc g args).run P w= .ok (.enter g args) w) (h1:ev f x1=v1):
  (execOp (ev f) ⟨dst,.call { callee:=.value (.func g),args:=#[x1],argTypes:=ts },t,p,af,none⟩).run P w= .ok (.enter g #[v1]) w:=by
 subst h1;simp [execOp,resolve,ev,Deferred.ofValue,invoke,hc]
theorem Zg1 (hc:∀ args w,(callFunc g args).run P w= .ok (.enter g args) w) (h1:ev f x1=v1) (h2:ev f x2=v2):
  (execOp (ev f) ⟨dst,.call { callee:=.value (.func g),args:=#[x1,x2],argTypes:=ts },t,p,af,none⟩).run P w= .ok (.enter g #[v1,v2]) w:=by
 subst h1 h2;simp [execOp,resolve,ev,Deferred.ofValue,invoke,hc]
theorem Z9p (hc:∀ args w,(callFunc g args).run P w= .ok (.enter g args) w) (h1:ev f x1=v1) (h2:ev f x2=v2) (h3:ev f x3=v3):
  (execOp (ev f) ⟨dst,.call { callee:=.value (.func g),args:=#[x1,x2,x3],argTypes:=ts },t,p,af,none⟩).run P w= .ok (.enter g #[v1,v2,v3]) w:=by
 subst h1 h2 h3;simp [execOp,resolve,ev,Deferred.ofValue,invoke,hc]
end

/-! slices of slices -/
theorem add_zero (a:Addr):a.add 0=a:=by
 unfold Addr.add;cases a;split <;> simp_all

section
variable {P:Program} {f:Fr} {t:Nat} {dst:Option Nat} {p:String} {af:Array Edge} {x lo hi:Operand} {T:TypeId} {a:Option Addr} {n cap sz:Nat}
theorem Zkg {kh:IntKind} {h:Int} (hT:P.underlying T=some (.slice e)) (hsz:∀ w,(sizeOf e).run P w= .ok sz w) (hx:ev f x= .slice a n cap) (hh:ev f hi= .int kh h) (h0:0≤h) (h1:h≤(cap:Int)):
  (execOp (ev f) ⟨dst,.slice T x none (some hi) none,t,p,af,none⟩).run P w= .ok (.value (.slice a h.toNat cap)) w:=by
 have b:(Option.map (fun x=>x.add 0) a)=a:=by cases a <;> simp [add_zero]
 simp [execOp,Instr.sliceAt,run_underlying hT,hx,hh,Instr.slice,Instr.sliceBounds,Instr.sliceBound,asIntOf,h0,h1,hsz,b]
theorem Zz9 {kl:IntKind} {l:Int} (hT:P.underlying T=some (.slice e)) (hsz:∀ w,(sizeOf e).run P w= .ok sz w) (hx:ev f x= .slice a n cap) (hl:ev f lo= .int kl l) (h0:0≤l) (h1:l≤(n:Int)):
  (execOp (ev f) ⟨dst,.slice T x (some lo) none none,t,p,af,none⟩).run P w= .ok (.value (.slice (if cap=l.toNat then a else a.map (·.add (l.toNat * sz))) (n - l.toNat) (cap - l.toNat))) w:=by
 simp [execOp,Instr.sliceAt,run_underlying hT,hx,hl,Instr.slice,Instr.sliceBounds,Instr.sliceBound,asIntOf,h0,h1,hsz]
theorem Z0a {kl kh:IntKind} {l h:Int} (hT:P.underlying T=some (.slice e)) (hsz:∀ w,(sizeOf e).run P w= .ok sz w) (hx:ev f x= .slice a n cap) (hl:ev f lo= .int kl l) (hh:ev f hi= .int kh h) (h0:0≤l) (h1:l≤h) (h2:h≤(cap:Int)):
  (execOp (ev f) ⟨dst,.slice T x (some lo) (some hi) none,t,p,af,none⟩).run P w= .ok (.value (.slice (if cap=l.toNat then a else a.map (·.add (l.toNat * sz))) (h.toNat - l.toNat) (cap - l.toNat))) w:=by
 have b:0≤h:=by omega
 have d:l≤max h 0:=by omega
 simp [execOp,Instr.sliceAt,run_underlying hT,hx,hl,hh,Instr.slice,Instr.sliceBounds,Instr.sliceBound,asIntOf,h0,h2,b,hsz]
 try omega

theorem Sl.take {α:Type} {r:Zc α} {xs:List α} (h:Sl r col w a cap xs) (k:Nat):Sl r col w a cap (xs.take k):=by
 refine ⟨⟨aN (by simp;omega) h.1.1,aN (by simp;omega) h.1.2⟩,?_⟩
 rcases h.2 with h | ⟨b,i,j,l,m,o,s⟩
 ·left;rw [h];simp
 ·refine .inr ⟨b,i,j.take (k * r.sz),l,m,o.take k,fun q v d=>?_⟩
  rw [List.getElem?_take] at d
  split at d
  ·exact s q v d
  ·cases d
theorem Sl.drop {α:Type} {r:Zc α} {xs:List α} (h:Sl r col w a cap xs) (hs:r.sz=sz) (k:Nat):Sl r col w (if cap=k then a else a.map (·.add (k * sz))) (cap - k) (xs.drop k):=by
 subst hs
 by_cases hk:xs.length≤k
 ·rw [aI hk];exact .nil
 have u:=h.1
 refine ⟨⟨by simp;omega,by simp;omega⟩,?_⟩
 rw [if_neg (by omega)]
 rcases h.2 with h | ⟨b,d,j,l,m,o,s⟩
 ·left;rw [h];simp
 ·subst l
  refine .inr ⟨b,d+k * r.sz,j.drop (k * r.sz),by simp [Vh],m,o.drop k,fun q v i=>?_⟩
  rw [List.getElem?_drop] at i
  have:=s _ v i
  rw [Nat.add_assoc];exact this
theorem Zb.lecap {α:Type} {r:Zc α} {xs:List α} {c:Nat} (h:Zb r e c col w a cap xs):xs.length≤cap:=by obtain ⟨_,b,_⟩:=h;exact b.lecap.1
end
end
end Go.Proofs.YtpkknichfgooaaaGreat
