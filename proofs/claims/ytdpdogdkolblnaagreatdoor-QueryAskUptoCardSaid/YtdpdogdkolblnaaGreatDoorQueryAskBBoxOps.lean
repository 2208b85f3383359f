/-
  Rows that are made or written out, variables in boxes. Over any program.
-/
import Derived.Test.YtdpdogdkolblnaaGreatDoorQueryAskBDeep
namespace Go.Proofs.YtdpdogdkolblnaaGreatDoor
open Go Go.RowKit
open Go.IntKind (i8 i16 i32 i64 u8 u16 u32 u64)

section
variable {α:Type} {r:Za α} {e c:Nat} {col:Zd} {w:World} {xs:List α}

def Yr (r:Za α) (c:Nat) (col:Zd) (w:World) (fl:List Value) (xs:List α):Prop:=∃ bs,Rows r col w fl xs bs∧Xo c col bs
theorem Rows.h {fl:List Value} (h:Rows r col w fl xs []):Yr r c col w fl xs:=⟨[],h,.nil⟩
theorem Yr.nil:Yr r c col w [] ([]:List α):=⟨[],⟨rfl,rfl⟩,.nil⟩
theorem Yr.cons {d:Nat} {cs fl:List Value} {x:α} (h:Xc r d col w cs x) (k:Yr r c col w fl xs) (hne:c≠d) (hd:d≠0):Yr r c (Xh d c col) w (cs++fl) (x :: xs):=by
 obtain ⟨b1,h1,h2⟩:=h
 obtain ⟨bs,k1,k2⟩:=k
 exact ⟨b1++bs,⟨cs,fl,b1,bs,rfl,rfl,r.keep h1 (Zl.recol d c hd) fun _ _=>rfl,k1.keep (Zl.recol d c hd) fun _ _=>rfl⟩,Ul.2 ⟨h2.rcS,k2.rc hne,Zk1 h2 k2 (Ne.symm hne)⟩⟩

theorem Zc.fresh (cs:Array Value) (cap:Nat) (hcap:xs.length≤cap) (hm:cap≤maxLen) (hsz:cs.size=cap * r.sz) (fl:List Value) (hfl:cs.toList.take (xs.length * r.sz)=fl) (hr:Yr r c col w fl xs):
  Zg col w (Xw col w c) (w.alloc (.cells cs e))∧Zc r e c (Xw col w c) (w.alloc (.cells cs e)) (some ⟨w.heap.size,0,none⟩) cap xs:=by
 have hg:Zg col w (Xw col w c) (w.alloc (.cells cs e)):=Zg.new (Zme w _) c
 obtain ⟨bs,h1,h2⟩:=hr
 have hlt:=h1.lt
 refine ⟨hg,w.heap.size :: bs,⟨fl,bs,⟨h1.length,.inr ⟨w.heap.size,cap,cs,rfl,Nat.zero_le _,heap_alloc_new w _,hcap,hm,hsz,hfl⟩⟩,h1.keep (Zl.gr hg) fun b hb=>hg.below.block b (hlt b hb),by simp [Value.ownBlock]⟩,
  (Ul (b1:=[w.heap.size])).2 ⟨⟨by simp,fun b hb=>by simp only [List.mem_singleton] at hb;subst hb;simp [Xw]⟩,⟨h2.1,fun b hb=>by simp only [Xw,hlt b hb,if_true];exact h2.2 b hb⟩,fun b hb hb'=>by simp only [List.mem_singleton] at hb;subst hb;exact Nat.lt_irrefl _ (hlt _ hb')⟩⟩

theorem Z2v {P:Program} {f:Fr} {T t n:Nat} {dst:Option Nat} {p:String} {af:Array Edge} {parts:Array (Nat×Operand)} {sz bytes:Nat} (cs:Array Value) (c:Nat) (hT:P.underlying T=some (.slice e)) (he:Wa P e sz bytes) (hsz:r.sz=sz)
  (hn:xs.length=n) (h24:Nat.ble (n * sz) 16777216=true) (h0:Nat.blt 0 n=true) (hfill:∀ z:Array Value,z.size=sz→Instr.fill (fun i=>some (i * sz,sz)) ((Array.range (n * sz)).map (z[· % z.size]!)) (List.map (fun x=>(x.fst,ev f x.snd)) parts.toList)=some cs)
  (hcs:cs.size=n * sz) (hr:Yr r c col w cs.toList xs):
  ∃ w',(execOp (ev f) ⟨dst,.buildSlice T n parts,t,p,af,none⟩).run P w= .ok (.value (.slice (some ⟨w.heap.size,0,none⟩) xs.length xs.length)) w'∧
   Zg col w (Xw col w c) w'∧Zc r e c (Xw col w c) w' (some ⟨w.heap.size,0,none⟩) xs.length xs:=by
 obtain ⟨i,z,hi,hz,hs,hby,hzs⟩:=he
 have h24:=Nat.le_of_ble_eq_true h24
 have hpos:0<n:=by simpa using h0
 have hp:=r.pos
 have hne:¬ n * sz=0:=by rw [Nat.mul_eq_zero];omega
 have hnl:n * 1≤n * sz:=Nat.mul_le_mul_left n (by omega)
 refine ⟨_,?_,Zc.fresh (c:=c) cs xs.length (Nat.le_refl _) (by simp only [maxLen];omega) (by rw [hcs,hn,hsz]) cs.toList (by rw [List.take_of_length_le];simp [hcs,hn,hsz]) hr⟩
 have hfill':=hfill z.cells hzs
 have h24':¬ 16777216<n * sz:=by omega
 simp [execOp,Instr.buildSlice,run_underlying hT,sizeOf,typeInfo,hi,hs,h24',hne,zeroValue,hz,newRow,hn,hfill']

theorem Z3q (z:Array Value) (n:Nat) (sz:Nat) (h:z.size=sz) (h0:0<sz):(madeCells z (n * sz)).toList=(List.replicate n z.toList).flatten:=by
 subst h
 induction n with
 | zero=>simp [madeCells]
 | succ n ih=>
  have h1:(madeCells z ((n+1) * z.size)).toList=(madeCells z (n * z.size)).toList++z.toList:=by
   apply List.ext_getElem?
   intro j
   simp only [madeCells,Array.toList_map,Array.toList_range,List.getElem?_map]
   by_cases hj:j<n * z.size
   ·rw [List.getElem?_append_left (by simpa using hj),List.getElem?_map,List.getElem?_range hj,List.getElem?_range (by rw [Nat.add_mul];omega)]
   ·rw [List.getElem?_append_right (by simpa using hj)]
    simp only [List.length_map,List.length_range]
    by_cases hj2:j<(n+1) * z.size
    ·rw [List.getElem?_range hj2]
     have hlt:j - n * z.size<z.size:=by rw [Nat.add_mul] at hj2;omega
     have hmod:j % z.size=j - n * z.size:=by
      have e:=Nat.mul_add_mod z.size n (j - n * z.size)
      rw [Nat.mod_eq_of_lt hlt,show z.size * n+(j - n * z.size)=j by rw [Nat.mul_comm z.size n];omega] at e
      exact e
     simp [hmod,hlt]
    ·rw [List.getElem?_eq_none (by simpa using hj2),Option.map_none,List.getElem?_eq_none]
     simp only [Array.length_toList];rw [Nat.add_mul] at hj2;omega
  rw [h1,ih,List.replicate_succ',List.flatten_append];simp

theorem Rows.replicate {cs:List Value} {x:α} (h:r.rd col w cs x []):∀ n,Rows r col w (List.replicate n cs).flatten (List.replicate n x) []
 | 0=>⟨rfl,rfl⟩
 | n+1=>⟨cs,_,[],[],by simp [List.replicate_succ],rfl,h,Rows.replicate h n⟩

theorem Z2w {P:Program} {f:Fr} {T t:Nat} {dst:Option Nat} {p:String} {af:Array Edge} {x y:Operand} {kl kc:IntKind} {n sz bytes:Nat} {z:Value} {x0:α} (c:Nat) (hT:P.underlying T=some (.slice e)) (i:TypeInfo) (hi:P.info? e=some i) (hz:i.zero=some z) (hs:i.size=sz) (hby:i.bytes=bytes) (hsz:r.sz=sz)
  (hx:ev f x= .int kl (n:Int)) (hy:ev f y= .int kc (n:Int)) (hb:n * bytes≤281474976710656) (hm:n≤maxLen) (hr:r.rd col w z.cells.toList x0 []):
  ∃ w',(execOp (ev f) ⟨dst,.makeSlice T x y,t,p,af,none⟩).run P w= .ok (.value (.slice (some ⟨w.heap.size,0,none⟩) (List.replicate n x0).length n)) w'∧
   Zg col w (Xw col w c) w'∧Zc r e c (Xw col w c) w' (some ⟨w.heap.size,0,none⟩) n (List.replicate n x0):=by
 have hp:=r.pos
 have hzl:=r.len hr
 have hzs:z.cells.size=sz:=by rw [← hsz,← hzl];simp
 have hrun:=run_make (P:=P) w T e i z hT hi hz kl kc (n:Int) (n:Int) (by omega) (by omega) (by rw [hby,← Int.natCast_mul,Nat.mul_comm];omega) (by simp only [maxLen] at hm;omega)
 simp only [Int.toNat_natCast] at hrun
 refine ⟨_,?_,Zc.fresh (c:=c) (madeCells z.cells (n * i.size)) n (by simp) hm (by rw [size_madeCells,hs,hsz]) (List.replicate n z.cells.toList).flatten ?_ (Rows.replicate hr n).h⟩
 ·simp only [List.length_replicate]
  simp [execOp,hx,hy,hrun]
 ·rw [hs,Z3q _ _ _ hzs (by omega),List.take_of_length_le]
  simp [hsz,hzs]

theorem Z2x {P:Program} {f:Fr} {T t:Nat} {dst:Option Nat} {p:String} {af:Array Edge} {x y:Operand} {kl kc:IntKind} {n sz bytes:Nat} (c:Nat) (hT:P.underlying T=some (.slice e)) (he:Wa P e sz bytes) (hsz:r.sz=sz)
  (hx:ev f x= .int kl 0) (hy:ev f y= .int kc (n:Int)) (hb:n * bytes≤281474976710656) (hm:n≤maxLen):
  ∃ w',(execOp (ev f) ⟨dst,.makeSlice T x y,t,p,af,none⟩).run P w= .ok (.value (.slice (some ⟨w.heap.size,0,none⟩) 0 n)) w'∧
   Zg col w (Xw col w c) w'∧Zc r e c (Xw col w c) w' (some ⟨w.heap.size,0,none⟩) n ([]:List α):=by
 obtain ⟨i,z,hi,hz,hs,hby,hzs⟩:=he
 have hrun:=run_make (P:=P) w T e i z hT hi hz kl kc 0 (n:Int) (by omega) (by omega) (by rw [hby,← Int.natCast_mul,Nat.mul_comm];omega) (by simp only [maxLen] at hm;omega)
 simp only [Int.toNat_natCast] at hrun
 refine ⟨_,?_,Zc.fresh (c:=c) (madeCells z.cells (n * i.size)) n (by simp) hm (by rw [size_madeCells,hs,hsz]) [] (by simp) .nil⟩
 simp [execOp,hx,hy,hrun]

/-! boxes -/
theorem Ze.fresh (cs:Array Value) (c:Nat):Zg col w (Xw col w c) (w.alloc (.cells cs e))∧Ze e c (Xw col w c) (w.alloc (.cells cs e)) w.heap.size cs:=
 ⟨Zg.new (Zme w _) c,by simp [Xw],heap_alloc_new w _⟩
theorem Z2o {P:Program} {f:Fr} {t:Nat} {dst:Option Nat} {p:String} {af:Array Edge} {x:Operand} {v:Value} (c:Nat) (hx:ev f x=v):
  ∃ w',(execOp (ev f) ⟨dst,.box e x,t,p,af,none⟩).run P w= .ok (.value (.pointer (some ⟨w.heap.size,0,none⟩))) w'∧Zg col w (Xw col w c) w'∧Ze e c (Xw col w c) w' w.heap.size v.cells:=
 ⟨_,by simp [execOp,hx,Instr.box,newVar,newRow],Ze.fresh v.cells c⟩
theorem Z2n {P:Program} {f:Fr} {t:Nat} {dst:Option Nat} {p:String} {af:Array Edge} {v:Value} (c:Nat) (hz:∀ w,(zeroValue e).run P w= .ok v w):
  ∃ w',(execOp (ev f) ⟨dst,.alloc e,t,p,af,none⟩).run P w= .ok (.value (.pointer (some ⟨w.heap.size,0,none⟩))) w'∧Zg col w (Xw col w c) w'∧Ze e c (Xw col w c) w' w.heap.size v.cells:=
 ⟨_,by simp [execOp,hz,Instr.alloc,newVar,newRow],Ze.fresh v.cells c⟩
theorem Ze.atN {g:Nat} {cs:Array Value} (h:Ze e c col w g cs):Vg w (.pointer (some ⟨g,0,none⟩)) cs.toList:=
 ⟨g,0,rfl,fun q v hq=>by rw [Nat.zero_add,cell_of_row w g q cs e (0,0) h.2];simpa using hq⟩
theorem Ze.at1 {g:Nat} {v:Value} (h:Ze e c col w g #[v]):Ut w (.pointer (some ⟨g,0,none⟩)) v:=h.atN.one

theorem Ze.store {P:Program} {f:Fr} {T t g n:Nat} {p:String} {af:Array Edge} {px y:Operand} {v:Value} {cs:Array Value} (h:Ze e c col w g cs)
  (hs:∀ w,(sizeOf T).run P w= .ok n w) (hn:cs.size=n) (hv:v.cells.size=n) (h1:∀ u ∈ v.cells.toList,u.oneCell'=true) (hx:ev f px= .pointer (some ⟨g,0,none⟩)) (hy:ev f y=v):
  ∃ w',(execOp (ev f) ⟨none,.store T px y,t,p,af,none⟩).run P w= .ok .skip w'∧Xe c col w col w'∧Xt w w'∧Ze e c col w' g v.cells:=by
 have hrun:=run_storeCells_at P g 0 e v.cells.toList 0 cs w h.2 (by simp [hv,hn]) h1
 have hrow:(cs.toList.take (0+0)++v.cells.toList++cs.toList.drop (0+0+v.cells.toList.length)).toArray=v.cells:=by
  have:cs.toList.length≤v.cells.toList.length:=by simp [hn,hv]
  simp only [Nat.add_zero,Nat.zero_add,List.take_zero,List.nil_append]
  rw [List.drop_eq_nil_of_le this];simp
 rw [hrow] at hrun
 refine ⟨w.setRow g v.cells,?_,⟨by simp [World.setRow],fun _ _=>rfl,fun k _ hk=>setRow_other w g k _ (fun e=>hk (by rw [e,h.1]))⟩,⟨rfl,rfl,rfl⟩,h.1,setRow_heap w g cs _ e _ h.2⟩
 simp only [execOp,hx,hy,Instr.storeAt,Instr.sureAddr,storeVar]
 simp [hs,hv,hrun]

/-! a call's end -/
def Vv (B:Nat) (col col':Zd) (g:Nat→Nat):Zd:=fun k=>if k<B then col k else g (col' k)
theorem St.fin {w0 w':World} {col':Zd} (h:St w0 (Zi col) col' w') (g:Nat→Nat):Zg col w0 (Vv w0.heap.size col col' g) w':=⟨h.below,fun k hk=>by simp [Vv,hk]⟩
theorem St.finStay {w0 w':World} {col':Zd} (h:St w0 (Zi col) col' w') {g:Nat→Nat} (hg:g 0=0):Zl col' w' (Vv w0.heap.size col col' g) w':=fun k _ h0=>⟨by
 unfold Vv;split
 ·rename_i hk;have:=h.oldc k hk;rw [h0] at this;unfold Zi at this;split at this
  ·assumption
  ·cases this
 ·rw [h0,hg],rfl⟩
theorem St.finSl {w0 w':World} {col':Zd} {a:Option Addr} {cap:Nat} (h:St w0 (Zi col) col' w') {g:Nat→Nat} (hg:g 0=0) (hs:Sl r col' w' a cap xs):Sl r (Vv w0.heap.size col col' g) w' a cap xs:=hs.keep (h.finStay hg)
theorem St.finMine {w0 w':World} {col':Zd} {i:Nat} {bs:List Nat} (h:St w0 (Zi col) col' w') {g:Nat→Nat} (hm:Xo i col' bs) (h0:i≠0) (h9:i≠999) (hc:g i=c):Xo c (Vv w0.heap.size col col' g) bs:=⟨hm.1,fun k hk=>by
 unfold Vv;split
 ·rename_i hlt;have h4:=h.oldc k hlt;rw [hm.2 k hk] at h4;unfold Zi at h4;split at h4
  ·exact absurd h4 h0
  ·exact absurd h4 h9
 ·rw [hm.2 k hk,hc]⟩
theorem St.finOwn {w0 w':World} {col':Zd} {a:Option Addr} {i cap:Nat} (h:St w0 (Zi col) col' w') {g:Nat→Nat} (hg:g 0=0) (ho:Zc r e i col' w' a cap xs) (h0:i≠0) (h9:i≠999) (hc:g i=c):Zc r e c (Vv w0.heap.size col col' g) w' a cap xs:=by
 obtain ⟨bs,h1,h2⟩:=ho
 exact ⟨bs,h1.keep (h.finStay hg) fun _ _=>rfl,h.finMine h2 h0 h9 hc⟩
theorem St.finRd {w0 w':World} {col':Zd} {x:α} {cs:List Value} (h:St w0 (Zi col) col' w') {g:Nat→Nat} (hg:g 0=0) (ho:r.rd col' w' cs x []):r.rd (Vv w0.heap.size col col' g) w' cs x []:=r.keep ho (h.finStay hg) fun _ _=>rfl

/-! what a model Zo4 -/
def Zr {β:Type} (c:Prop) [Decidable c] (x:Option β):Option β:=if c then x else none
theorem Zt {β:Type} {c:Prop} [Decidable c] {x:Option β} {y:β} (h:Zr c x=some y):c∧x=some y:=by
 unfold Zr at h;split at h
 ·exact ⟨by assumption,h⟩
 ·cases h
theorem bZ {β γ:Type} {o:Option β} {g:β→Option γ} {y:γ} (h:o.bind g=some y):∃ x,o=some x∧g x=some y:=by
 cases o with
 | none=>cases h
 | some x=>exact ⟨x,rfl,h⟩
theorem Yu {l:List α} {x:α} {k:Nat} (h:xs.drop k=x :: l):Zq xs (k:Int)=some x∧xs.drop (k+1)=l∧k<xs.length:=by
 have h1:xs[k]?=some x:=by have:=congrArg (·[0]?) h;simpa using this
 refine ⟨by rw [Zfu];exact h1,?_,(List.getElem?_eq_some_iff.1 h1).1⟩
 have:=congrArg List.tail h;simpa using this
theorem Yw {k:Nat} (h:k<maxLen):i64.wrap ((k:Int)+1)=((k+1:Nat):Int):=by
 simp only [maxLen] at h
 rw [IntKind.wrap_i64] <;> omega
theorem Zak {i:Nat} {N:Fr→World→Prop} {E:Nat→Fr→World→Prop} {f:Fr} (h:N f w):Zde i N E i f w:=by simp only [Zde,Nat.beq_refl,cond_true];exact h
theorem Zf8 {i j:Nat} {N:Fr→World→Prop} {E:Nat→Fr→World→Prop} {f:Fr} (hj:Nat.beq i j=false) (h:E i f w):Zde j N E i f w:=by simp only [Zde,hj,cond_false];exact h

/-! calls -/
section
variable {P:Program} {f:Fr} {t:Nat} {dst:Option Nat} {p:String} {af:Array Edge} {ts:Array TypeId} {g:FuncId} {x1 x2 x3 x4 x5 x6:Operand} {v1 v2 v3 v4 v5 v6:Value}
theorem Zia (hc:∀ args w,(callFunc g args).run P w= .ok (.enter g args) w):
  (execOp (ev f) ⟨dst,.call { callee:=.value (.func g),args:=#[],argTypes:=ts },t,p,af,none⟩).run P w= .ok (.enter g #[]) w:=by
 simp [execOp,resolve,ev,Deferred.ofValue,invoke,hc]
theorem Zoj (hc:∀ args w,(callFunc g args).run P w= .ok (.enter g args) w) (h1:ev f x1=v1):
  (execOp (ev f) ⟨dst,.call { callee:=.value (.func g),args:=#[x1],argTypes:=ts },t,p,af,none⟩).run P w= .ok (.enter g #[v1]) w:=by
 subst h1;simp [execOp,resolve,ev,Deferred.ofValue,invoke,hc]
theorem Zib (hc:∀ args w,(callFunc g args).run P w= .ok (.enter g args) w) (h1:ev f x1=v1) (h2:ev f x2=v2):
  (execOp (ev f) ⟨dst,.call { callee:=.value (.func g),args:=#[x1,x2],argTypes:=ts },t,p,af,none⟩).run P w= .ok (.enter g #[v1,v2]) w:=by
 subst h1 h2;simp [execOp,resolve,ev,Deferred.ofValue,invoke,hc]
theorem Z2p (hc:∀ args w,(callFunc g args).run P w= .ok (.enter g args) w) (h1:ev f x1=v1) (h2:ev f x2=v2) (h3:ev f x3=v3):
  (execOp (ev f) ⟨dst,.call { callee:=.value (.func g),args:=#[x1,x2,x3],argTypes:=ts },t,p,af,none⟩).run P w= .ok (.enter g #[v1,v2,v3]) w:=by
 subst h1 h2 h3;simp [execOp,resolve,ev,Deferred.ofValue,invoke,hc]
end

/-! slices of slices -/
theorem add_zero (a:Addr):a.add 0=a:=by
 unfold Addr.add;cases a;split <;> simp_all

section
variable {P:Program} {f:Fr} {t:Nat} {dst:Option Nat} {p:String} {af:Array Edge} {x lo hi:Operand} {T:TypeId} {a:Option Addr} {n cap sz:Nat}
theorem Zbc {kh:IntKind} {h:Int} (hT:P.underlying T=some (.slice e)) (hsz:∀ w,(sizeOf e).run P w= .ok sz w) (hx:ev f x= .slice a n cap) (hh:ev f hi= .int kh h) (h0:0≤h) (h1:h≤(cap:Int)):
  (execOp (ev f) ⟨dst,.slice T x none (some hi) none,t,p,af,none⟩).run P w= .ok (.value (.slice a h.toNat cap)) w:=by
 have ha:(Option.map (fun x=>x.add 0) a)=a:=by cases a <;> simp [add_zero]
 simp [execOp,Instr.sliceAt,run_underlying hT,hx,hh,Instr.slice,Instr.sliceBounds,Instr.sliceBound,asIntOf,h0,h1,hsz,ha]
theorem Zt4 {kl:IntKind} {l:Int} (hT:P.underlying T=some (.slice e)) (hsz:∀ w,(sizeOf e).run P w= .ok sz w) (hx:ev f x= .slice a n cap) (hl:ev f lo= .int kl l) (h0:0≤l) (h1:l≤(n:Int)):
  (execOp (ev f) ⟨dst,.slice T x (some lo) none none,t,p,af,none⟩).run P w= .ok (.value (.slice (if cap=l.toNat then a else a.map (·.add (l.toNat * sz))) (n - l.toNat) (cap - l.toNat))) w:=by
 simp [execOp,Instr.sliceAt,run_underlying hT,hx,hl,Instr.slice,Instr.sliceBounds,Instr.sliceBound,asIntOf,h0,h1,hsz]
theorem Z20 {kl kh:IntKind} {l h:Int} (hT:P.underlying T=some (.slice e)) (hsz:∀ w,(sizeOf e).run P w= .ok sz w) (hx:ev f x= .slice a n cap) (hl:ev f lo= .int kl l) (hh:ev f hi= .int kh h) (h0:0≤l) (h1:l≤h) (h2:h≤(cap:Int)):
  (execOp (ev f) ⟨dst,.slice T x (some lo) (some hi) none,t,p,af,none⟩).run P w= .ok (.value (.slice (if cap=l.toNat then a else a.map (·.add (l.toNat * sz))) (h.toNat - l.toNat) (cap - l.toNat))) w:=by
 have h3:0≤h:=by omega
 have h4:l≤max h 0:=by omega
 simp [execOp,Instr.sliceAt,run_underlying hT,hx,hl,hh,Instr.slice,Instr.sliceBounds,Instr.sliceBound,asIntOf,h0,h2,h3,hsz]
 try omega

theorem Sl.take {α:Type} {r:Za α} {xs:List α} (h:Sl r col w a cap xs) (k:Nat):Sl r col w a cap (xs.take k):=by
 refine ⟨⟨Nat.le_trans (by simp;omega) h.1.1,Nat.le_trans (by simp;omega) h.1.2⟩,?_⟩
 rcases h.2 with h | ⟨b,off,fl,ha,hb,hr,hx⟩
 ·left;rw [h];simp
 ·refine .inr ⟨b,off,fl.take (k * r.sz),ha,hb,hr.take k,fun q v hq=>?_⟩
  rw [List.getElem?_take] at hq
  split at hq
  ·exact hx q v hq
  ·cases hq
theorem Sl.drop {α:Type} {r:Za α} {xs:List α} (h:Sl r col w a cap xs) (hs:r.sz=sz) (k:Nat):Sl r col w (if cap=k then a else a.map (·.add (k * sz))) (cap - k) (xs.drop k):=by
 subst hs
 by_cases hk:xs.length≤k
 ·rw [List.drop_eq_nil_of_le hk];exact .nil
 have h0:=h.1
 refine ⟨⟨by simp;omega,by simp;omega⟩,?_⟩
 rw [if_neg (by omega)]
 rcases h.2 with h | ⟨b,off,fl,ha,hb,hr,hx⟩
 ·left;rw [h];simp
 ·subst ha
  refine .inr ⟨b,off+k * r.sz,fl.drop (k * r.sz),by simp [Vc],hb,hr.drop k,fun q v hq=>?_⟩
  rw [List.getElem?_drop] at hq
  have:=hx _ v hq
  rw [Nat.add_assoc];exact this
theorem Zc.lecap {α:Type} {r:Za α} {xs:List α} {c:Nat} (h:Zc r e c col w a cap xs):xs.length≤cap:=by obtain ⟨_,h1,_⟩:=h;exact h1.lecap.1
end
end
end Go.Proofs.YtdpdogdkolblnaaGreatDoor
