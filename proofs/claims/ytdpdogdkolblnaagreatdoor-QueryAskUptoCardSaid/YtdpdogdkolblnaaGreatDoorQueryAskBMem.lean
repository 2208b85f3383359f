/-
  Memory: readings of data ('Rep'), rows that are owned ('Own'), variables in boxes ('Box'), which blocks stay ('Keep'). A colouring says of each block whose it is: 0: it stays as it is. Over any program.
-/
import Derived.Test.YtdpdogdkolblnaaGreatDoorQueryAskBOps
import Derived.Below
namespace Go.Proofs.YtdpdogdkolblnaaGreatDoor
open Go Go.RowKit
open Go.IntKind (i8 i16 i32 i64 u8 u16 u32 u64)

abbrev Zd:=Nat→Nat

structure Xe (c:Nat) (col:Zd) (w:World) (col':Zd) (w':World):Prop where
 size:w.heap.size≤w'.heap.size
 tint:∀ k,k<w.heap.size→col' k=col k
 block:∀ k,k<w.heap.size→col k≠c→w'.heap[k]?=w.heap[k]?

theorem Xe.trans {c:Nat} {col col' col'':Zd} {w w' w'':World} (h:Xe c col w col' w') (k:Xe c col' w' col'' w''):Xe c col w col'' w'':=
 ⟨Nat.le_trans h.size k.size,fun i hi=>(k.tint i (Nat.lt_of_lt_of_le hi h.size)).trans (h.tint i hi),
  fun i hi hc=>(k.block i (Nat.lt_of_lt_of_le hi h.size) (by rw [h.tint i hi];exact hc)).trans (h.block i hi hc)⟩

def Zl (col:Zd) (w:World) (col':Zd) (w':World):Prop:=∀ k,k<w.heap.size→col k=0→col' k=0∧w'.heap[k]?=w.heap[k]?
theorem Xe.stay {c:Nat} {col:Zd} {w:World} {col':Zd} {w':World} (h:Xe c col w col' w') (hc:c≠0):Zl col w col' w':=
 fun k hk h0=>⟨(h.tint k hk).trans h0,h.block k hk (by rw [h0];exact fun h=>hc h.symm)⟩

structure Za (α:Type) where
 sz:Nat
 pos:0<sz
 rd:Zd→World→List Value→α→List Nat→Prop
 len:∀ {col w cs x bs},rd col w cs x bs→cs.length=sz
 one:∀ {col w cs x bs},rd col w cs x bs→∀ v ∈ cs,v.oneCell'=true
 lt:∀ {col w cs x bs},rd col w cs x bs→∀ b ∈ bs,b<w.heap.size
 keep:∀ {col w col' w' cs x bs},rd col w cs x bs→Zl col w col' w'→(∀ b ∈ bs,w'.heap[b]?=w.heap[b]?)→rd col' w' cs x bs

def Za.int (k:IntKind):Za Int:=⟨1,by decide,fun _ _ cs x bs=>cs=[.int k x]∧bs=[],fun h=>by rw [h.1];rfl,fun h=>by rw [h.1];simp [Value.oneCell'],fun h=>by rw [h.2];simp,fun h _ _=>h⟩
def Za.bool:Za Bool:=⟨1,by decide,fun _ _ cs x bs=>cs=[.bool x]∧bs=[],fun h=>by rw [h.1];rfl,fun h=>by rw [h.1];simp [Value.oneCell'],fun h=>by rw [h.2];simp,fun h _ _=>h⟩
def Za.str:Za ByteArray:=⟨1,by decide,fun _ _ cs x bs=>cs=[.string x]∧bs=[],fun h=>by rw [h.1];rfl,fun h=>by rw [h.1];simp [Value.oneCell'],fun h=>by rw [h.2];simp,fun h _ _=>h⟩
def Za.pair {α β:Type} (r:Za α) (s:Za β):Za (α×β):=
 ⟨r.sz+s.sz,by have:=r.pos;omega,fun col w cs x bs=>∃ c1 c2 b1 b2,cs=c1++c2∧bs=b1++b2∧r.rd col w c1 x.1 b1∧s.rd col w c2 x.2 b2,
  fun ⟨c1,c2,b1,b2,h,_,h1,h2⟩=>by rw [h,List.length_append,r.len h1,s.len h2],
  fun ⟨c1,c2,b1,b2,h,_,h1,h2⟩ v hv=>by rw [h,List.mem_append] at hv;exact hv.elim (r.one h1 v) (s.one h2 v),
  fun ⟨c1,c2,b1,b2,h,hb,h1,h2⟩ b hv=>by rw [hb,List.mem_append] at hv;exact hv.elim (r.lt h1 b) (s.lt h2 b),
  fun ⟨c1,c2,b1,b2,h,hb,h1,h2⟩ hk hh=>⟨c1,c2,b1,b2,h,hb,r.keep h1 hk fun b hm=>hh b (by rw [hb];simp [hm]),s.keep h2 hk fun b hm=>hh b (by rw [hb];simp [hm])⟩⟩
section
variable {α:Type} {r:Za α} {col:Zd} {w:World} {col':Zd} {w':World} {xs ys:List α} {fl:List Value} {e c i:Nat} {bs:List Nat}

def Rows (r:Za α) (col:Zd) (w:World):List Value→List α→List Nat→Prop
 | fl,[],bs=>fl=[]∧bs=[]
 | fl,x :: xs,bs=>∃ cs fl' b1 b2,fl=cs++fl'∧bs=b1++b2∧r.rd col w cs x b1∧Rows r col w fl' xs b2

theorem Rows.length:∀ {xs:List α} {fl:List Value} {bs:List Nat},Rows r col w fl xs bs→fl.length=xs.length * r.sz
 | [],_,_,h=>by have h:_∧_:=h;simp [h.1]
 | x :: xs,_,_,⟨cs,fl',b1,b2,h,_,h1,h2⟩=>by rw [h,List.length_append,r.len h1,Rows.length h2,List.length_cons,Nat.add_mul];omega

theorem Rows.one:∀ {xs:List α} {fl:List Value} {bs:List Nat},Rows r col w fl xs bs→∀ v ∈ fl,v.oneCell'=true
 | [],_,_,h=>by have h:_∧_:=h;simp [h.1]
 | x :: xs,_,_,⟨cs,fl',b1,b2,h,_,h1,h2⟩=>by intro v hv;rw [h,List.mem_append] at hv;exact hv.elim (r.one h1 v) (Rows.one h2 v)

theorem Rows.lt:∀ {xs:List α} {fl:List Value} {bs:List Nat},Rows r col w fl xs bs→∀ b ∈ bs,b<w.heap.size
 | [],_,_,h=>by have h:_∧_:=h;simp [h.2]
 | x :: xs,_,_,⟨cs,fl',b1,b2,_,h,h1,h2⟩=>by intro v hv;rw [h,List.mem_append] at hv;exact hv.elim (r.lt h1 v) (Rows.lt h2 v)

theorem Rows.keep (hk:Zl col w col' w'):∀ {xs:List α} {fl:List Value} {bs:List Nat},Rows r col w fl xs bs→(∀ b ∈ bs,w'.heap[b]?=w.heap[b]?)→Rows r col' w' fl xs bs
 | [],_,_,h,_=>h
 | _ :: _,_,_,⟨cs,fl',b1,b2,h,hb,h1,h2⟩,hh=>⟨cs,fl',b1,b2,h,hb,r.keep h1 hk fun b hm=>hh b (by rw [hb];simp [hm]),Rows.keep hk h2 fun b hm=>hh b (by rw [hb];simp [hm])⟩

theorem Rows.append:∀ {xs:List α} {fl fl':List Value} {ys:List α} {bs bs':List Nat},Rows r col w fl xs bs→Rows r col w fl' ys bs'→Rows r col w (fl++fl') (xs++ys) (bs++bs')
 | [],_,_,_,_,_,h,h'=>by have h:_∧_:=h;obtain ⟨rfl,rfl⟩:=h;exact h'
 | x :: xs,_,_,_,_,_,⟨cs,g,b1,b2,h,hb,h1,h2⟩,h'=>⟨cs,_,b1,_,by rw [h,List.append_assoc],by rw [hb,List.append_assoc],h1,Rows.append h2 h'⟩

theorem Rows.get:∀ {xs:List α} {fl:List Value} {bs:List Nat},Rows r col w fl xs bs→∀ {j:Nat} {x:α},xs[j]?=some x→∃ cs b1 b2 b3,bs=b1++b2++b3∧r.rd col w cs x b2∧(∀ q v,cs[q]?=some v→fl[j * r.sz+q]?=some v)∧
  ∀ col' w' x' cs' b',Zl col w col' w'→(∀ b ∈ b1++b3,w'.heap[b]?=w.heap[b]?)→r.rd col' w' cs' x' b'→Rows r col' w' (fl.take (j * r.sz)++cs'++fl.drop (j * r.sz+r.sz)) (xs.set j x') (b1++b'++b3)
 | [],_,_,_,j,x,hj=>by simp at hj
 | y :: xs,_,_,⟨cs,g,b1,b2,h,hb,h1,h2⟩,0,x,hj=>by
  simp at hj;subst hj
  refine ⟨cs,[],b1,b2,by simp [hb],h1,fun q v hq=>?_,fun col' w' x' cs' b' hk hh hc=>?_⟩
  ·rw [h,Nat.zero_mul,Nat.zero_add,List.getElem?_append_left (List.getElem?_eq_some_iff.1 hq).1];exact hq
  ·refine ⟨cs',g,b',b2,?_,by simp,hc,Rows.keep hk h2 fun b hm=>hh b (by simp [hm])⟩
   rw [h,Nat.zero_mul,Nat.zero_add,List.take_zero,List.nil_append,List.drop_append,r.len h1]
   simp [List.drop_eq_nil_of_le (Nat.le_of_eq (r.len h1))]
 | y :: xs,_,_,⟨cs,g,b1,b2,h,hb,h1,h2⟩,j+1,x,hj=>by
  obtain ⟨cs',c1,c2,c3,h3,h4,h5,h6⟩:=Rows.get h2 (j:=j) (x:=x) (by simpa using hj)
  have hl:=r.len h1
  refine ⟨cs',b1++c1,c2,c3,by rw [hb,h3];simp,h4,fun q v hq=>?_,fun col' w' x' ds b' hk hh hc=>?_⟩
  ·have:=h5 q v hq
   rw [h,List.getElem?_append_right (by rw [r.len h1,Nat.add_mul];omega),r.len h1,Nat.add_mul,show j * r.sz+1 * r.sz+q - r.sz=j * r.sz+q by omega]
   exact this
  ·refine ⟨cs,_,b1,_,?_,by simp,r.keep h1 hk fun b hm=>hh b (by simp [hm]),h6 col' w' x' ds b' hk (fun b hm=>hh b (by simp only [List.mem_append] at hm ⊢;exact hm.elim (fun h=>.inl (.inr h)) .inr)) hc⟩
   rw [h,Nat.add_mul,Nat.one_mul,List.take_append,List.drop_append,List.take_of_length_le (by omega),List.drop_eq_nil_of_le (by omega),hl]
   rw [show j * r.sz+r.sz - r.sz=j * r.sz by omega,show j * r.sz+r.sz+r.sz - r.sz=j * r.sz+r.sz by omega]
   simp

theorem Rows.split:∀ (k:Nat) {xs:List α} {fl:List Value} {bs:List Nat},Rows r col w fl xs bs→∃ b1 b2,bs=b1++b2∧Rows r col w (fl.take (k * r.sz)) (xs.take k) b1∧Rows r col w (fl.drop (k * r.sz)) (xs.drop k) b2
 | k,[],_,_,h=>by have h:_∧_:=h;obtain ⟨rfl,rfl⟩:=h;exact ⟨[],[],by simp,by simp [Rows],by simp [Rows]⟩
 | 0,y :: xs,fl,bs,h=>⟨[],bs,by simp,by simp [Rows],by simpa using h⟩
 | k+1,y :: xs,_,_,⟨cs,g,b1,b2,h,hb,h1,h2⟩=>by
  obtain ⟨c1,c2,h3,h4,h5⟩:=Rows.split k h2
  have hl:=r.len h1
  refine ⟨b1++c1,c2,by rw [hb,h3];simp,⟨cs,g.take (k * r.sz),b1,c1,?_,rfl,h1,h4⟩,?_⟩
  ·rw [h,Nat.add_mul,Nat.one_mul,List.take_append,hl,List.take_of_length_le (by omega),show k * r.sz+r.sz - r.sz=k * r.sz by omega]
  ·rw [h,Nat.add_mul,Nat.one_mul,List.drop_append,hl,List.drop_eq_nil_of_le (by omega),show k * r.sz+r.sz - r.sz=k * r.sz by omega]
   simpa using h5
theorem Rows.drop (h:Rows r col w fl xs []) (k:Nat):Rows r col w (fl.drop (k * r.sz)) (xs.drop k) []:=by
 obtain ⟨b1,b2,h1,_,h3⟩:=h.split k
 simp at h1;obtain ⟨rfl,rfl⟩:=h1;exact h3
theorem Rows.take (h:Rows r col w fl xs []) (k:Nat):Rows r col w (fl.take (k * r.sz)) (xs.take k) []:=by
 obtain ⟨b1,b2,h1,h2,_⟩:=h.split k
 simp at h1;obtain ⟨rfl,rfl⟩:=h1;exact h2

def Zq (xs:List α) (j:Int):Option α:=if 0≤j then xs[j.toNat]? else none
theorem Zfu (xs:List α) (j:Nat):Zq xs (j:Int)=xs[j]?:=by simp [Zq]
theorem Yb {xs:List α} {j:Int} {x:α} (h:Zq xs j=some x):0≤j∧j<xs.length∧xs[j.toNat]?=some x:=by
 unfold Zq at h
 split at h
 ·rename_i h0
  have:=(List.getElem?_eq_some_iff.1 h).1
  exact ⟨h0,by omega,h⟩
 ·cases h

theorem Vc (b off n:Nat):(⟨b,off,none⟩:Addr).add n=⟨b,off+n,none⟩:=by unfold Addr.add;split <;> simp_all

def Sl (r:Za α) (col:Zd) (w:World) (a:Option Addr) (cap:Nat) (xs:List α):Prop:=
 (xs.length≤maxLen∧xs.length≤cap)∧(xs=[]∨∃ b off fl,a=some ⟨b,off,none⟩∧col b=0∧Rows r col w fl xs []∧∀ q v,fl[q]?=some v→w.cell? ⟨b,off+q,none⟩=some v)

theorem Sl.nil {a:Option Addr} {cap:Nat}:Sl r col w a cap []:=⟨by simp [maxLen],.inl rfl⟩

theorem Sl.keep {a:Option Addr} {cap:Nat} (h:Sl r col w a cap xs) (hk:Zl col w col' w'):Sl r col' w' a cap xs:=by
 refine ⟨h.1,?_⟩
 rcases h.2 with h | ⟨b,off,fl,ha,hb,hr,hx⟩
 ·exact .inl h
 ·by_cases he:xs=[]
  ·exact .inl he
  ·have hlt:b<w.heap.size:=by
    have hl:=hr.length
    have:0<xs.length:=List.length_pos_iff.2 he
    have hp:=Nat.mul_pos this r.pos
    obtain ⟨v,l',rfl⟩:=List.exists_cons_of_ne_nil (l:=fl) (by intro h;subst h;simp at hl;omega)
    exact World.block_lt_of_cell? w _ (hx 0 v rfl)
   refine .inr ⟨b,off,fl,ha,(hk b hlt hb).1,hr.keep hk (by simp),fun q v hq=>?_⟩
   rw [← hx q v hq]
   exact World.cell?_of_block (hk b hlt hb).2

theorem Sl.kp {a:Option Addr} {cap:Nat} (h:Sl r col w a cap xs) (hk:Xe c col w col' w') (hc:c≠0:=by decide):Sl r col' w' a cap xs:=h.keep (hk.stay hc)

def Za.slice (r:Za α):Za (List α):=
 ⟨1,by decide,fun col w cs xs bs=>(∃ a cap,cs=[.slice a xs.length cap]∧Sl r col w a cap xs)∧bs=[],fun ⟨⟨_,_,h,_⟩,_⟩=>by rw [h];rfl,fun ⟨⟨_,_,h,_⟩,_⟩=>by rw [h];simp [Value.oneCell'],fun ⟨_,h⟩=>by rw [h];simp,
  fun ⟨⟨a,cap,h,hs⟩,hb⟩ hk _=>⟨⟨a,cap,h,hs.keep hk⟩,hb⟩⟩

def X6 (r:Za α) (e:TypeId) (col:Zd) (w:World) (a:Option Addr) (cap:Nat) (xs:List α) (bs:List Nat):Prop:=
 ∃ fl b2,w.ownsRow 0 e r.sz (.slice a xs.length cap) xs.length fl∧Rows r col w fl xs b2∧bs=(Value.slice a xs.length cap).ownBlock.toList++b2

theorem X6.lt {a:Option Addr} {cap:Nat} (h:X6 r e col w a cap xs bs):∀ b ∈ bs,b<w.heap.size:=by
 obtain ⟨fl,b2,h1,h2,rfl⟩:=h
 intro b hb
 rw [List.mem_append] at hb
 rcases hb with hb | hb
 ·rw [Option.mem_toList] at hb;exact (h1.lt b hb).2
 ·exact h2.lt b hb
theorem X6.keep {a:Option Addr} {cap:Nat} (h:X6 r e col w a cap xs bs) (hk:Zl col w col' w') (hh:∀ b ∈ bs,w'.heap[b]?=w.heap[b]?):X6 r e col' w' a cap xs bs:=by
 obtain ⟨fl,b2,h1,h2,rfl⟩:=h
 refine ⟨fl,b2,⟨h1.1,?_⟩,h2.keep hk fun b hb=>hh b (by simp [hb]),rfl⟩
 rcases h1.2 with h | ⟨g,cp,cur,hv,hb,hhg,rest⟩
 ·exact .inl h
 ·exact .inr ⟨g,cp,cur,hv,hb,by rw [hh g (by rw [hv];simp [Value.ownBlock])];exact hhg,rest⟩
theorem X6.nil:X6 r e col w none 0 [] []:=⟨[],[],World.ownsRow_nil _ _ _ _,⟨rfl,rfl⟩,by simp [Value.ownBlock]⟩

def Za.row (e:TypeId) (r:Za α):Za (List α):=
 ⟨1,by decide,fun col w cs xs bs=>∃ a cap,cs=[.slice a xs.length cap]∧X6 r e col w a cap xs bs,fun ⟨_,_,h,_⟩=>by rw [h];rfl,fun ⟨_,_,h,_⟩=>by rw [h];simp [Value.oneCell'],fun ⟨_,_,_,h⟩=>h.lt,
  fun ⟨a,cap,h,hs⟩ hk hh=>⟨a,cap,h,hs.keep hk hh⟩⟩

def Xo (c:Nat) (col:Zd) (bs:List Nat):Prop:=bs.Nodup∧∀ b ∈ bs,col b=c
theorem Xo.nil:Xo c col []:=⟨List.nodup_nil,by simp⟩
theorem Xo.kp (h:Xo i col bs) (hlt:∀ b ∈ bs,b<w.heap.size) (hk:Xe c col w col' w'):Xo i col' bs:=⟨h.1,fun b hb=>by rw [hk.tint b (hlt b hb)];exact h.2 b hb⟩

def Xc (r:Za α) (c:Nat) (col:Zd) (w:World) (cs:List Value) (x:α):Prop:=∃ bs,r.rd col w cs x bs∧Xo c col bs

def Zc (r:Za α) (e:TypeId) (c:Nat) (col:Zd) (w:World) (a:Option Addr) (cap:Nat) (xs:List α):Prop:=∃ bs,X6 r e col w a cap xs bs∧Xo c col bs

theorem Zc.nil:Zc r e c col w none 0 []:=⟨[],.nil,.nil⟩
theorem Zc.has {a:Option Addr} {cap:Nat} (h:Zc r e c col w a cap xs):Xc (Za.row e r) c col w [.slice a xs.length cap] xs:=by
 obtain ⟨bs,h1,h2⟩:=h
 exact ⟨bs,⟨a,cap,rfl,h1⟩,h2⟩
theorem Xc.kp {x:α} {cs:List Value} (h:Xc r i col w cs x) (hk:Xe c col w col' w') (hc:c≠0:=by decide) (hi:i≠c:=by decide):Xc r i col' w' cs x:=by
 obtain ⟨bs,h1,h2⟩:=h
 exact ⟨bs,r.keep h1 (hk.stay hc) fun b hb=>hk.block b (r.lt h1 b hb) (by rw [h2.2 b hb];exact hi),h2.kp (r.lt h1) hk⟩
theorem Zc.kp {a:Option Addr} {cap:Nat} (h:Zc r e i col w a cap xs) (hk:Xe c col w col' w') (hc:c≠0:=by decide) (hi:i≠c:=by decide):Zc r e i col' w' a cap xs:=by
 obtain ⟨bs,h1,h2⟩:=h
 exact ⟨bs,h1.keep (hk.stay hc) fun b hb=>hk.block b (h1.lt b hb) (by rw [h2.2 b hb];exact hi),h2.kp h1.lt hk⟩

def Zk (r s:Za α):Prop:=s.sz=r.sz∧∀ {col w cs x bs},r.rd col w cs x bs→(∀ b ∈ bs,col b=0)→s.rd col w cs x []
theorem Zk.int (k:IntKind):Zk (Za.int k) (Za.int k):=⟨rfl,fun h _=>⟨h.1,rfl⟩⟩
theorem Zk.bool:Zk Za.bool Za.bool:=⟨rfl,fun h _=>⟨h.1,rfl⟩⟩
theorem Zk.str:Zk Za.str Za.str:=⟨rfl,fun h _=>⟨h.1,rfl⟩⟩
theorem Zk.slice:Zk (Za.slice r) (Za.slice r):=⟨rfl,fun h _=>⟨h.1,rfl⟩⟩
theorem Zk.pair {β:Type} {r s:Za α} {r' s':Za β} (h:Zk r s) (k:Zk r' s'):Zk (Za.pair r r') (Za.pair s s'):=
 ⟨by show s.sz+s'.sz=r.sz+r'.sz;rw [h.1,k.1],fun ⟨c1,c2,b1,b2,h1,hb,h2,h3⟩ h0=>⟨c1,c2,[],[],h1,rfl,h.2 h2 fun b hm=>h0 b (by rw [hb];simp [hm]),k.2 h3 fun b hm=>h0 b (by rw [hb];simp [hm])⟩⟩
theorem Rows.froz {s:Za α} (hf:Zk r s):∀ {xs:List α} {fl:List Value} {bs:List Nat},Rows r col w fl xs bs→(∀ b ∈ bs,col b=0)→Rows s col w fl xs []
 | [],_,_,h,_=>⟨h.1,rfl⟩
 | _ :: _,_,_,⟨cs,fl',b1,b2,h,hb,h1,h2⟩,h0=>⟨cs,fl',[],[],h,rfl,hf.2 h1 fun b hm=>h0 b (by rw [hb];simp [hm]),Rows.froz hf h2 fun b hm=>h0 b (by rw [hb];simp [hm])⟩
theorem X6.sl {s:Za α} (hf:Zk r s) {a:Option Addr} {cap:Nat} (h:X6 r e col w a cap xs bs) (h0:∀ b ∈ bs,col b=0):Sl s col w a cap xs:=by
 obtain ⟨fl,b2,h1,h2,rfl⟩:=h
 rcases h1.2 with ⟨h,hn⟩ | ⟨g,cp,cur,hv,hb,hh,hle,hm,hsz,ht⟩
 ·obtain rfl:=List.length_eq_zero_iff.1 hn
  exact .nil
 ·simp only [Value.slice.injEq] at hv
  obtain ⟨rfl,_,rfl⟩:=hv
  refine ⟨⟨by omega,hle⟩,.inr ⟨g,0,fl,rfl,h0 g (by simp [Value.ownBlock]),h2.froz hf fun b hb=>h0 b (by simp [hb]),fun q v hq=>?_⟩⟩
  have:=h1.cells (g:=g) rfl q v hq
  rw [Vc] at this
  simpa using this
theorem Zk.row {s:Za α} (hf:Zk r s):Zk (Za.row e r) (Za.slice s):=⟨rfl,fun ⟨a,cap,h1,h2⟩ h0=>⟨⟨a,cap,h1,h2.sl hf h0⟩,rfl⟩⟩

theorem Zc.slF {s:Za α} (hf:Zk r s) {a:Option Addr} {cap:Nat} (h:Zc r e i col w a cap xs) (h0:∀ k,col k=0∨col k=i→col' k=0):Sl s col' w a cap xs:=by
 obtain ⟨bs,h1,h2⟩:=h
 have hs:Zl col w col' w:=fun k _ hk=>⟨h0 k (.inl hk),rfl⟩
 exact (h1.keep hs fun _ _=>rfl).sl hf fun b hb=>h0 b (.inr (h2.2 b hb))

def Ze (e:TypeId) (c:Nat) (col:Zd) (w:World) (g:Nat) (cs:Array Value):Prop:=col g=c∧w.heap[g]?=some (.cells cs e (0,0))

theorem Ze.kp {g:Nat} {cs:Array Value} (h:Ze e i col w g cs) (hk:Xe c col w col' w') (hi:i≠c:=by decide):Ze e i col' w' g cs:=by
 have hlt:=(Array.getElem?_eq_some_iff.1 h.2).1
 exact ⟨(hk.tint g hlt).trans h.1,by rw [hk.block g hlt (by rw [h.1];exact hi)];exact h.2⟩

def Xt (w w':World):Prop:=w'.os=w.os∧w'.tape=w.tape∧w'.output=w.output
theorem Xt.refl (w:World):Xt w w:=⟨rfl,rfl,rfl⟩
theorem Xt.trans {w'':World} (h:Xt w w') (k:Xt w' w''):Xt w w'':=⟨k.1.trans h.1,k.2.1.trans h.2.1,k.2.2.trans h.2.2⟩

def pM:Nat→Bool:=fun c=>Nat.ble 440 c&&Nat.blt c 450

structure St (w0:World) (c0:Zd) (col:Zd) (w:World):Prop where
 still:Xt w0 w
 size:w0.heap.size≤w.heap.size
 old:∀ k,k<w0.heap.size→pM (c0 k)=false→col k=c0 k∧w.heap[k]?=w0.heap[k]?
 foreign:∀ k,k<w0.heap.size→c0 k=0∨c0 k=999∨pM (c0 k)=true

structure Zg (col:Zd) (w:World) (col':Zd) (w':World):Prop where
 below:Below w.heap.size w w'
 tint:∀ k,k<w.heap.size→col' k=col k

theorem Zg.still (h:Zg col w col' w'):Xt w w':=⟨h.below.os,h.below.tape,h.below.output⟩
theorem Zg.keep (h:Zg col w col' w') (c:Nat):Xe c col w col' w':=⟨h.below.size,h.tint,fun k hk _=>h.below.block k hk⟩
theorem Zg.refl (col:Zd) (w:World):Zg col w col w:=⟨Below.refl _ _,fun _ _=>rfl⟩
theorem Zg.of_below (h:Below w.heap.size w w'):Zg col w col w':=⟨h,fun _ _=>rfl⟩
theorem Zg.trans {col'':Zd} {w'':World} (h:Zg col w col' w') (k:Zg col' w' col'' w''):Zg col w col'' w'':=
 ⟨h.below.trans (k.below.mono h.below.size),fun i hi=>(k.tint i (Nat.lt_of_lt_of_le hi h.below.size)).trans (h.tint i hi)⟩
theorem Zg.drew (h:Zg col w col' w'):Zg col w col' w'.drew:=⟨h.below.drew,h.tint⟩
theorem St.kp {w0:World} {c0:Zd} (h:St w0 c0 col w) (hk:Xe c col w col' w') (hs:Xt w w') (h0:c≠0:=by decide) (h9:c≠999:=by decide):St w0 c0 col' w':=
 ⟨h.still.trans hs,Nat.le_trans h.size hk.size,(by
  intro k hlt hm
  obtain ⟨h1,h2⟩:=h.old k hlt hm
  have hlt':=Nat.lt_of_lt_of_le hlt h.size
  have h3:=h.foreign k hlt
  refine ⟨(hk.tint k hlt').trans h1,(hk.block k hlt' ?_).trans h2⟩
  rw [h1];rcases h3 with h3 | h3 | h3
  ·rw [h3];exact Ne.symm h0
  ·rw [h3];exact Ne.symm h9
  ·rw [hm] at h3;exact absurd h3 (by decide)),h.foreign⟩
theorem St.grow {w0:World} {c0:Zd} (h:St w0 c0 col w) (hg:Zg col w col' w'):St w0 c0 col' w':=h.kp (hg.keep 1) hg.still (by decide) (by decide)

theorem Xc.gr {x:α} {cs:List Value} (h:Xc r i col w cs x) (hg:Zg col w col' w'):Xc r i col' w' cs x:=h.kp (hg.keep (i+1)) (by omega) (by omega)
theorem Zc.gr {a:Option Addr} {cap:Nat} (h:Zc r e i col w a cap xs) (hg:Zg col w col' w'):Zc r e i col' w' a cap xs:=h.kp (hg.keep (i+1)) (by omega) (by omega)
theorem Sl.gr {a:Option Addr} {cap:Nat} (h:Sl r col w a cap xs) (hg:Zg col w col' w'):Sl r col' w' a cap xs:=h.kp (hg.keep 1) (by omega)
theorem Ze.gr {g:Nat} {cs:Array Value} (h:Ze e i col w g cs) (hg:Zg col w col' w'):Ze e i col' w' g cs:=h.kp (hg.keep (i+1)) (by omega)

def Zi (col:Zd):Zd:=fun k=>if col k=0 then 0 else 999
def Xn (B:Nat) (col col':Zd):Zd:=fun k=>if k<B then col k else col' k

theorem St.start (col:Zd) (w:World):St w (Zi col) (Zi col) w:=⟨Xt.refl w,Nat.le_refl _,fun _ _ _=>⟨rfl,rfl⟩,fun k _=>by unfold Zi;split <;> simp⟩
theorem Zl.start (col:Zd) (w:World):Zl col w (Zi col) w:=fun k _ h=>⟨by simp [Zi,h],rfl⟩
theorem St.st {w0:World} {c0:Zd} (h:St w0 c0 col w):Zl c0 w0 col w:=fun k hk h0=>by
 have h1:=h.old k hk (by rw [h0];rfl)
 exact ⟨h1.1.trans h0,h1.2⟩
theorem Sl.ks {w0:World} {c0:Zd} {a:Option Addr} {cap:Nat} (h:Sl r c0 w0 a cap xs) (hs:St w0 c0 col w):Sl r col w a cap xs:=h.keep hs.st
theorem Zs8 (col:Zd) (k:Nat):pM (Zi col k)=false:=by unfold Zi;split <;> rfl
theorem St.below {w0:World} (h:St w0 (Zi col) col' w'):Below w0.heap.size w0 w':=⟨h.still.1,h.still.2.1,h.still.2.2,h.size,fun k hk=>(h.old k hk (Zs8 _ _)).2⟩
theorem St.oldc {w0:World} (h:St w0 (Zi col) col' w'):∀ k,k<w0.heap.size→col' k=Zi col k:=fun k hk=>(h.old k hk (Zs8 _ _)).1
end
end Go.Proofs.YtdpdogdkolblnaaGreatDoor
