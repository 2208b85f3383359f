/-
  Memory: readings of data ('Rep'), rows that are owned ('Own'), variables in boxes ('Box'), which blocks stay ('Keep'). A colouring says of each block whose it is: 0: it stays as it is. Over any program.
-/
import Derived.Test.YtpkknichfgooaaaGreatTopBitsBOps
import Derived.Below
namespace Go.Proofs.YtpkknichfgooaaaGreat
open Go Go.RowKit
open Nat renaming le_trans→aN,lt_of_lt_of_le→aG,add_mul→bI,zero_mul→kE,zero_add→cG,one_mul→bO
open List renaming length_append→bT,mem_append→aY,append_assoc→bB,getElem?_eq_some_iff→eP,drop_append→fA,drop_eq_nil_of_le→aI,take_append→eD,take_of_length_le→bG
open Go.IntKind (i8 i16 i32 i64 u8 u16 u32 u64)

abbrev Zg:=Nat→Nat

structure Yh (c:Nat) (col:Zg) (w:World) (col':Zg) (w':World):Prop where
 size:w.heap.size≤w'.heap.size
 tint:∀ k,k<w.heap.size→col' k=col k
 block:∀ k,k<w.heap.size→col k≠c→w'.heap[k]?=w.heap[k]?

theorem Yh.trans {c:Nat} {col col' col'':Zg} {w w' w'':World} (h:Yh c col w col' w') (k:Yh c col' w' col'' w''):Yh c col w col'' w'':=
 ⟨aN h.size k.size,fun i a=>(k.tint i (aG a h.size)).trans (h.tint i a),
  fun i a b=>(k.block i (aG a h.size) (by rw [h.tint i a];exact b)).trans (h.block i a b)⟩

def Yu (col:Zg) (w:World) (col':Zg) (w':World):Prop:=∀ k,k<w.heap.size→col k=0→col' k=0∧w'.heap[k]?=w.heap[k]?
theorem Yh.stay {c:Nat} {col:Zg} {w:World} {col':Zg} {w':World} (h:Yh c col w col' w') (hc:c≠0):Yu col w col' w':=
 fun k a b=>⟨(h.tint k a).trans b,h.block k a (by rw [b];exact fun h=>hc h.symm)⟩

structure Zc (α:Type) where
 sz:Nat
 pos:0<sz
 rd:Zg→World→List Value→α→List Nat→Prop
 len:∀ {col w cs x bs},rd col w cs x bs→cs.length=sz
 one:∀ {col w cs x bs},rd col w cs x bs→∀ v ∈ cs,v.oneCell'=true
 lt:∀ {col w cs x bs},rd col w cs x bs→∀ b ∈ bs,b<w.heap.size
 keep:∀ {col w col' w' cs x bs},rd col w cs x bs→Yu col w col' w'→(∀ b ∈ bs,w'.heap[b]?=w.heap[b]?)→rd col' w' cs x bs

def Zc.int (k:IntKind):Zc Int:=⟨1,by decide,fun _ _ cs x bs=>cs=[.int k x]∧bs=[],fun h=>by rw [h.1];rfl,fun h=>by rw [h.1];simp [Value.oneCell'],fun h=>by rw [h.2];simp,fun h _ _=>h⟩
def Zc.bool:Zc Bool:=⟨1,by decide,fun _ _ cs x bs=>cs=[.bool x]∧bs=[],fun h=>by rw [h.1];rfl,fun h=>by rw [h.1];simp [Value.oneCell'],fun h=>by rw [h.2];simp,fun h _ _=>h⟩
def Zc.str:Zc ByteArray:=⟨1,by decide,fun _ _ cs x bs=>cs=[.string x]∧bs=[],fun h=>by rw [h.1];rfl,fun h=>by rw [h.1];simp [Value.oneCell'],fun h=>by rw [h.2];simp,fun h _ _=>h⟩
def Zc.pair {α β:Type} (r:Zc α) (s:Zc β):Zc (α×β):=
 ⟨r.sz+s.sz,by have:=r.pos;omega,fun col w cs x bs=>∃ c1 c2 b1 b2,cs=c1++c2∧bs=b1++b2∧r.rd col w c1 x.1 b1∧s.rd col w c2 x.2 b2,
  fun ⟨c1,c2,b1,b2,h,_,h1,h2⟩=>by rw [h,bT,r.len h1,s.len h2],
  fun ⟨c1,c2,b1,b2,h,_,h1,h2⟩ v hv=>by rw [h,aY] at hv;exact hv.elim (r.one h1 v) (s.one h2 v),
  fun ⟨c1,c2,b1,b2,h,hb,h1,h2⟩ b hv=>by rw [hb,aY] at hv;exact hv.elim (r.lt h1 b) (s.lt h2 b),
  fun ⟨c1,c2,b1,b2,h,hb,h1,h2⟩ hk hh=>⟨c1,c2,b1,b2,h,hb,r.keep h1 hk fun b hm=>hh b (by rw [hb];simp [hm]),s.keep h2 hk fun b hm=>hh b (by rw [hb];simp [hm])⟩⟩
section
variable {α:Type} {r:Zc α} {col:Zg} {w:World} {col':Zg} {w':World} {xs ys:List α} {fl:List Value} {e c i:Nat} {bs:List Nat}

def Rows (r:Zc α) (col:Zg) (w:World):List Value→List α→List Nat→Prop
 | fl,[],bs=>fl=[]∧bs=[]
 | fl,x :: xs,bs=>∃ cs fl' b1 b2,fl=cs++fl'∧bs=b1++b2∧r.rd col w cs x b1∧Rows r col w fl' xs b2

theorem Rows.length:∀ {xs:List α} {fl:List Value} {bs:List Nat},Rows r col w fl xs bs→fl.length=xs.length * r.sz
 | [],_,_,h=>by have h:_∧_:=h;simp [h.1]
 | x :: xs,_,_,⟨f,d,g,j,h,_,a,b⟩=>by rw [h,bT,r.len a,Rows.length b,List.length_cons,bI];omega

theorem Rows.one:∀ {xs:List α} {fl:List Value} {bs:List Nat},Rows r col w fl xs bs→∀ v ∈ fl,v.oneCell'=true
 | [],_,_,h=>by have h:_∧_:=h;simp [h.1]
 | x :: xs,_,_,⟨g,f,j,k,h,_,b,d⟩=>by intro v a;rw [h,aY] at a;exact a.elim (r.one b v) (Rows.one d v)

theorem Rows.lt:∀ {xs:List α} {fl:List Value} {bs:List Nat},Rows r col w fl xs bs→∀ b ∈ bs,b<w.heap.size
 | [],_,_,h=>by have h:_∧_:=h;simp [h.2]
 | x :: xs,_,_,⟨j,g,k,l,_,h,d,f⟩=>by intro v a;rw [h,aY] at a;exact a.elim (r.lt d v) (Rows.lt f v)

theorem Rows.keep (hk:Yu col w col' w'):∀ {xs:List α} {fl:List Value} {bs:List Nat},Rows r col w fl xs bs→(∀ b ∈ bs,w'.heap[b]?=w.heap[b]?)→Rows r col' w' fl xs bs
 | [],_,_,h,_=>h
 | _ :: _,_,_,⟨j,f,k,l,h,a,m,n⟩,g=>⟨j,f,k,l,h,a,r.keep m hk fun b d=>g b (by rw [a];simp [d]),Rows.keep hk n fun b d=>g b (by rw [a];simp [d])⟩

theorem Rows.append:∀ {xs:List α} {fl fl':List Value} {ys:List α} {bs bs':List Nat},Rows r col w fl xs bs→Rows r col w fl' ys bs'→Rows r col w (fl++fl') (xs++ys) (bs++bs')
 | [],_,_,_,_,_,h,a=>by have h:_∧_:=h;obtain ⟨rfl,rfl⟩:=h;exact a
 | x :: xs,_,_,_,_,_,⟨b,g,d,l,h,f,j,k⟩,a=>⟨b,_,d,_,by rw [h,bB],by rw [f,bB],j,Rows.append k a⟩

theorem Rows.get:∀ {xs:List α} {fl:List Value} {bs:List Nat},Rows r col w fl xs bs→∀ {j:Nat} {x:α},xs[j]?=some x→∃ cs b1 b2 b3,bs=b1++b2++b3∧r.rd col w cs x b2∧(∀ q v,cs[q]?=some v→fl[j * r.sz+q]?=some v)∧
  ∀ col' w' x' cs' b',Yu col w col' w'→(∀ b ∈ b1++b3,w'.heap[b]?=w.heap[b]?)→r.rd col' w' cs' x' b'→Rows r col' w' (fl.take (j * r.sz)++cs'++fl.drop (j * r.sz+r.sz)) (xs.set j x') (b1++b'++b3)
 | [],_,_,_,j,x,d=>by simp at d
 | y :: xs,_,_,⟨cs,g,b1,b2,h,n,a,o⟩,0,x,d=>by
  simp at d;subst d
  refine ⟨cs,[],b1,b2,by simp [n],a,fun q v k=>?_,fun col' w' x' cs' b' l m p=>?_⟩
  ·rw [h,kE,cG,List.getElem?_append_left (eP.1 k).1];exact k
  ·refine ⟨cs',g,b',b2,?_,by simp,p,Rows.keep l o fun b f=>m b (by simp [f])⟩
   rw [h,kE,cG,List.take_zero,List.nil_append,fA,r.len a]
   simp [aI (Nat.le_of_eq (r.len a))]
 | y :: xs,_,_,⟨cs,g,b1,b2,h,n,a,o⟩,j+1,x,d=>by
  obtain ⟨cs',s,t,u,A,B,C,D⟩:=Rows.get o (j:=j) (x:=x) (by simpa using d)
  have E:=r.len a
  refine ⟨cs',b1++s,t,u,by rw [n,A];simp,B,fun q v k=>?_,fun col' w' x' F b' l m p=>?_⟩
  ·have:=C q v k
   rw [h,List.getElem?_append_right (by rw [r.len a,bI];omega),r.len a,bI,show j * r.sz+1 * r.sz+q - r.sz=j * r.sz+q by omega]
   exact this
  ·refine ⟨cs,_,b1,_,?_,by simp,r.keep a l fun b f=>m b (by simp [f]),D col' w' x' F b' l (fun b f=>m b (by simp only [aY] at f ⊢;exact f.elim (fun h=>.inl (.inr h)) .inr)) p⟩
   rw [h,bI,bO,eD,fA,bG (by omega),aI (by omega),E]
   rw [show j * r.sz+r.sz - r.sz=j * r.sz by omega,show j * r.sz+r.sz+r.sz - r.sz=j * r.sz+r.sz by omega]
   simp

theorem Rows.split:∀ (k:Nat) {xs:List α} {fl:List Value} {bs:List Nat},Rows r col w fl xs bs→∃ b1 b2,bs=b1++b2∧Rows r col w (fl.take (k * r.sz)) (xs.take k) b1∧Rows r col w (fl.drop (k * r.sz)) (xs.drop k) b2
 | k,[],_,_,h=>by have h:_∧_:=h;obtain ⟨rfl,rfl⟩:=h;exact ⟨[],[],by simp,by simp [Rows],by simp [Rows]⟩
 | 0,y :: xs,fl,bs,h=>⟨[],bs,by simp,by simp [Rows],by simpa using h⟩
 | k+1,y :: xs,_,_,⟨f,g,b1,b2,h,j,a,l⟩=>by
  obtain ⟨b,m,n,o,p⟩:=Rows.split k l
  have d:=r.len a
  refine ⟨b1++b,m,by rw [j,n];simp,⟨f,g.take (k * r.sz),b1,b,?_,rfl,a,o⟩,?_⟩
  ·rw [h,bI,bO,eD,d,bG (by omega),show k * r.sz+r.sz - r.sz=k * r.sz by omega]
  ·rw [h,bI,bO,fA,d,aI (by omega),show k * r.sz+r.sz - r.sz=k * r.sz by omega]
   simpa using p
theorem Rows.drop (h:Rows r col w fl xs []) (k:Nat):Rows r col w (fl.drop (k * r.sz)) (xs.drop k) []:=by
 obtain ⟨d,f,a,_,b⟩:=h.split k
 simp at a;obtain ⟨rfl,rfl⟩:=a;exact b
theorem Rows.take (h:Rows r col w fl xs []) (k:Nat):Rows r col w (fl.take (k * r.sz)) (xs.take k) []:=by
 obtain ⟨d,f,a,b,_⟩:=h.split k
 simp at a;obtain ⟨rfl,rfl⟩:=a;exact b

def Zn (xs:List α) (j:Int):Option α:=if 0≤j then xs[j.toNat]? else none
theorem Zha (xs:List α) (j:Nat):Zn xs (j:Int)=xs[j]?:=by simp [Zn]
theorem Xo {xs:List α} {j:Int} {x:α} (h:Zn xs j=some x):0≤j∧j<xs.length∧xs[j.toNat]?=some x:=by
 unfold Zn at h
 split at h
 ·rename_i a
  have:=(eP.1 h).1
  exact ⟨a,by omega,h⟩
 ·cases h

theorem Vh (b off n:Nat):(⟨b,off,none⟩:Addr).add n=⟨b,off+n,none⟩:=by unfold Addr.add;split <;> simp_all

def Sl (r:Zc α) (col:Zg) (w:World) (a:Option Addr) (cap:Nat) (xs:List α):Prop:=
 (xs.length≤maxLen∧xs.length≤cap)∧(xs=[]∨∃ b off fl,a=some ⟨b,off,none⟩∧col b=0∧Rows r col w fl xs []∧∀ q v,fl[q]?=some v→w.cell? ⟨b,off+q,none⟩=some v)

theorem Sl.nil {a:Option Addr} {cap:Nat}:Sl r col w a cap []:=⟨by simp [maxLen],.inl rfl⟩

theorem Sl.keep {a:Option Addr} {cap:Nat} (h:Sl r col w a cap xs) (hk:Yu col w col' w'):Sl r col' w' a cap xs:=by
 refine ⟨h.1,?_⟩
 rcases h.2 with h | ⟨b,f,fl,m,g,j,k⟩
 ·exact .inl h
 ·by_cases he:xs=[]
  ·exact .inl he
  ·have d:b<w.heap.size:=by
    have n:=j.length
    have:0<xs.length:=List.length_pos_iff.2 he
    have p:=Nat.mul_pos this r.pos
    obtain ⟨v,s,rfl⟩:=List.exists_cons_of_ne_nil (l:=fl) (by intro h;subst h;simp at n;omega)
    exact World.block_lt_of_cell? w _ (k 0 v rfl)
   refine .inr ⟨b,f,fl,m,(hk b d g).1,j.keep hk (by simp),fun q v o=>?_⟩
   rw [← k q v o]
   exact World.cell?_of_block (hk b d g).2

theorem Sl.kp {a:Option Addr} {cap:Nat} (h:Sl r col w a cap xs) (hk:Yh c col w col' w') (hc:c≠0:=by decide):Sl r col' w' a cap xs:=h.keep (hk.stay hc)

def Zc.slice (r:Zc α):Zc (List α):=
 ⟨1,by decide,fun col w cs xs bs=>(∃ a cap,cs=[.slice a xs.length cap]∧Sl r col w a cap xs)∧bs=[],fun ⟨⟨_,_,h,_⟩,_⟩=>by rw [h];rfl,fun ⟨⟨_,_,h,_⟩,_⟩=>by rw [h];simp [Value.oneCell'],fun ⟨_,h⟩=>by rw [h];simp,
  fun ⟨⟨a,cap,h,hs⟩,hb⟩ hk _=>⟨⟨a,cap,h,hs.keep hk⟩,hb⟩⟩

def Yt (r:Zc α) (e:TypeId) (col:Zg) (w:World) (a:Option Addr) (cap:Nat) (xs:List α) (bs:List Nat):Prop:=
 ∃ fl b2,w.ownsRow 0 e r.sz (.slice a xs.length cap) xs.length fl∧Rows r col w fl xs b2∧bs=(Value.slice a xs.length cap).ownBlock.toList++b2

theorem Yt.lt {a:Option Addr} {cap:Nat} (h:Yt r e col w a cap xs bs):∀ b ∈ bs,b<w.heap.size:=by
 obtain ⟨fl,j,f,g,rfl⟩:=h
 intro b d
 rw [aY] at d
 rcases d with d | d
 ·rw [Option.mem_toList] at d;exact (f.lt b d).2
 ·exact g.lt b d
theorem Yt.keep {a:Option Addr} {cap:Nat} (h:Yt r e col w a cap xs bs) (hk:Yu col w col' w') (hh:∀ b ∈ bs,w'.heap[b]?=w.heap[b]?):Yt r e col' w' a cap xs bs:=by
 obtain ⟨fl,n,j,o,rfl⟩:=h
 refine ⟨fl,n,⟨j.1,?_⟩,o.keep hk fun b d=>hh b (by simp [d]),rfl⟩
 rcases j.2 with h | ⟨g,p,k,l,d,m,f⟩
 ·exact .inl h
 ·exact .inr ⟨g,p,k,l,d,by rw [hh g (by rw [l];simp [Value.ownBlock])];exact m,f⟩
theorem Yt.nil:Yt r e col w none 0 [] []:=⟨[],[],World.ownsRow_nil _ _ _ _,⟨rfl,rfl⟩,by simp [Value.ownBlock]⟩

def Zc.row (e:TypeId) (r:Zc α):Zc (List α):=
 ⟨1,by decide,fun col w cs xs bs=>∃ a cap,cs=[.slice a xs.length cap]∧Yt r e col w a cap xs bs,fun ⟨_,_,h,_⟩=>by rw [h];rfl,fun ⟨_,_,h,_⟩=>by rw [h];simp [Value.oneCell'],fun ⟨_,_,_,h⟩=>h.lt,
  fun ⟨a,cap,h,hs⟩ hk hh=>⟨a,cap,h,hs.keep hk hh⟩⟩

def X8 (c:Nat) (col:Zg) (bs:List Nat):Prop:=bs.Nodup∧∀ b ∈ bs,col b=c
theorem X8.nil:X8 c col []:=⟨List.nodup_nil,by simp⟩
theorem X8.kp (h:X8 i col bs) (hlt:∀ b ∈ bs,b<w.heap.size) (hk:Yh c col w col' w'):X8 i col' bs:=⟨h.1,fun b a=>by rw [hk.tint b (hlt b a)];exact h.2 b a⟩

def Ys (r:Zc α) (c:Nat) (col:Zg) (w:World) (cs:List Value) (x:α):Prop:=∃ bs,r.rd col w cs x bs∧X8 c col bs

def Zb (r:Zc α) (e:TypeId) (c:Nat) (col:Zg) (w:World) (a:Option Addr) (cap:Nat) (xs:List α):Prop:=∃ bs,Yt r e col w a cap xs bs∧X8 c col bs

theorem Zb.nil:Zb r e c col w none 0 []:=⟨[],.nil,.nil⟩
theorem Zb.has {a:Option Addr} {cap:Nat} (h:Zb r e c col w a cap xs):Ys (Zc.row e r) c col w [.slice a xs.length cap] xs:=by
 obtain ⟨bs,b,d⟩:=h
 exact ⟨bs,⟨a,cap,rfl,b⟩,d⟩
theorem Ys.kp {x:α} {cs:List Value} (h:Ys r i col w cs x) (hk:Yh c col w col' w') (hc:c≠0:=by decide) (hi:i≠c:=by decide):Ys r i col' w' cs x:=by
 obtain ⟨bs,a,d⟩:=h
 exact ⟨bs,r.keep a (hk.stay hc) fun b f=>hk.block b (r.lt a b f) (by rw [d.2 b f];exact hi),d.kp (r.lt a) hk⟩
theorem Zb.kp {a:Option Addr} {cap:Nat} (h:Zb r e i col w a cap xs) (hk:Yh c col w col' w') (hc:c≠0:=by decide) (hi:i≠c:=by decide):Zb r e i col' w' a cap xs:=by
 obtain ⟨bs,d,f⟩:=h
 exact ⟨bs,d.keep (hk.stay hc) fun b g=>hk.block b (d.lt b g) (by rw [f.2 b g];exact hi),f.kp d.lt hk⟩

def Ze (r s:Zc α):Prop:=s.sz=r.sz∧∀ {col w cs x bs},r.rd col w cs x bs→(∀ b ∈ bs,col b=0)→s.rd col w cs x []
theorem Ze.int (k:IntKind):Ze (Zc.int k) (Zc.int k):=⟨rfl,fun h _=>⟨h.1,rfl⟩⟩
theorem Ze.bool:Ze Zc.bool Zc.bool:=⟨rfl,fun h _=>⟨h.1,rfl⟩⟩
theorem Ze.str:Ze Zc.str Zc.str:=⟨rfl,fun h _=>⟨h.1,rfl⟩⟩
theorem Ze.slice:Ze (Zc.slice r) (Zc.slice r):=⟨rfl,fun h _=>⟨h.1,rfl⟩⟩
theorem Ze.pair {β:Type} {r s:Zc α} {r' s':Zc β} (h:Ze r s) (k:Ze r' s'):Ze (Zc.pair r r') (Zc.pair s s'):=
 ⟨by show s.sz+s'.sz=r.sz+r'.sz;rw [h.1,k.1],fun ⟨g,j,o,p,l,d,m,n⟩ f=>⟨g,j,[],[],l,rfl,h.2 m fun b a=>f b (by rw [d];simp [a]),k.2 n fun b a=>f b (by rw [d];simp [a])⟩⟩
theorem Rows.froz {s:Zc α} (hf:Ze r s):∀ {xs:List α} {fl:List Value} {bs:List Nat},Rows r col w fl xs bs→(∀ b ∈ bs,col b=0)→Rows s col w fl xs []
 | [],_,_,h,_=>⟨h.1,rfl⟩
 | _ :: _,_,_,⟨j,d,m,n,h,f,k,l⟩,g=>⟨j,d,[],[],h,rfl,hf.2 k fun b a=>g b (by rw [f];simp [a]),Rows.froz hf l fun b a=>g b (by rw [f];simp [a])⟩
theorem Yt.sl {s:Zc α} (hf:Ze r s) {a:Option Addr} {cap:Nat} (h:Yt r e col w a cap xs bs) (h0:∀ b ∈ bs,col b=0):Sl s col w a cap xs:=by
 obtain ⟨fl,t,d,l,rfl⟩:=h
 rcases d.2 with ⟨h,m⟩ | ⟨g,u,o,f,j,x,k,y,p,A⟩
 ·obtain rfl:=List.length_eq_zero_iff.1 m
  exact .nil
 ·simp only [Value.slice.injEq] at f
  obtain ⟨rfl,_,rfl⟩:=f
  refine ⟨⟨by omega,k⟩,.inr ⟨g,0,fl,rfl,h0 g (by simp [Value.ownBlock]),l.froz hf fun b j=>h0 b (by simp [j]),fun q v n=>?_⟩⟩
  have:=d.cells (g:=g) rfl q v n
  rw [Vh] at this
  simpa using this
theorem Ze.row {s:Zc α} (hf:Ze r s):Ze (Zc.row e r) (Zc.slice s):=⟨rfl,fun ⟨a,b,d,f⟩ g=>⟨⟨a,b,d,f.sl hf g⟩,rfl⟩⟩

theorem Zb.slF {s:Zc α} (hf:Ze r s) {a:Option Addr} {cap:Nat} (h:Zb r e i col w a cap xs) (h0:∀ k,col k=0∨col k=i→col' k=0):Sl s col' w a cap xs:=by
 obtain ⟨bs,d,f⟩:=h
 have g:Yu col w col' w:=fun k _ j=>⟨h0 k (.inl j),rfl⟩
 exact (d.keep g fun _ _=>rfl).sl hf fun b l=>h0 b (.inr (f.2 b l))

def Zi (e:TypeId) (c:Nat) (col:Zg) (w:World) (g:Nat) (cs:Array Value):Prop:=col g=c∧w.heap[g]?=some (.cells cs e (0,0))

theorem Zi.kp {g:Nat} {cs:Array Value} (h:Zi e i col w g cs) (hk:Yh c col w col' w') (hi:i≠c:=by decide):Zi e i col' w' g cs:=by
 have a:=(Array.getElem?_eq_some_iff.1 h.2).1
 exact ⟨(hk.tint g a).trans h.1,by rw [hk.block g a (by rw [h.1];exact hi)];exact h.2⟩

def Yn (w w':World):Prop:=w'.os=w.os∧w'.tape=w.tape∧w'.output=w.output
theorem Yn.refl (w:World):Yn w w:=⟨rfl,rfl,rfl⟩
theorem Yn.trans {w'':World} (h:Yn w w') (k:Yn w' w''):Yn w w'':=⟨k.1.trans h.1,k.2.1.trans h.2.1,k.2.2.trans h.2.2⟩

def pM:Nat→Bool:=fun c=>Nat.ble 440 c&&Nat.blt c 450

structure St (w0:World) (c0:Zg) (col:Zg) (w:World):Prop where
 still:Yn w0 w
 size:w0.heap.size≤w.heap.size
 old:∀ k,k<w0.heap.size→pM (c0 k)=false→col k=c0 k∧w.heap[k]?=w0.heap[k]?
 foreign:∀ k,k<w0.heap.size→c0 k=0∨c0 k=999∨pM (c0 k)=true

structure Zl (col:Zg) (w:World) (col':Zg) (w':World):Prop where
 below:Below w.heap.size w w'
 tint:∀ k,k<w.heap.size→col' k=col k

theorem Zl.still (h:Zl col w col' w'):Yn w w':=⟨h.below.os,h.below.tape,h.below.output⟩
theorem Zl.keep (h:Zl col w col' w') (c:Nat):Yh c col w col' w':=⟨h.below.size,h.tint,fun k a _=>h.below.block k a⟩
theorem Zl.refl (col:Zg) (w:World):Zl col w col w:=⟨Below.refl _ _,fun _ _=>rfl⟩
theorem Zl.of_below (h:Below w.heap.size w w'):Zl col w col w':=⟨h,fun _ _=>rfl⟩
theorem Zl.trans {col'':Zg} {w'':World} (h:Zl col w col' w') (k:Zl col' w' col'' w''):Zl col w col'' w'':=
 ⟨h.below.trans (k.below.mono h.below.size),fun i a=>(k.tint i (aG a h.below.size)).trans (h.tint i a)⟩
theorem Zl.drew (h:Zl col w col' w'):Zl col w col' w'.drew:=⟨h.below.drew,h.tint⟩
theorem St.kp {w0:World} {c0:Zg} (h:St w0 c0 col w) (hk:Yh c col w col' w') (hs:Yn w w') (h0:c≠0:=by decide) (h9:c≠999:=by decide):St w0 c0 col' w':=
 ⟨h.still.trans hs,aN h.size hk.size,(by
  intro k b f
  obtain ⟨g,j⟩:=h.old k b f
  have d:=aG b h.size
  have a:=h.foreign k b
  refine ⟨(hk.tint k d).trans g,(hk.block k d ?_).trans j⟩
  rw [g];rcases a with a | a | a
  ·rw [a];exact Ne.symm h0
  ·rw [a];exact Ne.symm h9
  ·rw [f] at a;exact absurd a (by decide)),h.foreign⟩
theorem St.grow {w0:World} {c0:Zg} (h:St w0 c0 col w) (hg:Zl col w col' w'):St w0 c0 col' w':=h.kp (hg.keep 1) hg.still (by decide) (by decide)

theorem Ys.gr {x:α} {cs:List Value} (h:Ys r i col w cs x) (hg:Zl col w col' w'):Ys r i col' w' cs x:=h.kp (hg.keep (i+1)) (by omega) (by omega)
theorem Zb.gr {a:Option Addr} {cap:Nat} (h:Zb r e i col w a cap xs) (hg:Zl col w col' w'):Zb r e i col' w' a cap xs:=h.kp (hg.keep (i+1)) (by omega) (by omega)
theorem Sl.gr {a:Option Addr} {cap:Nat} (h:Sl r col w a cap xs) (hg:Zl col w col' w'):Sl r col' w' a cap xs:=h.kp (hg.keep 1) (by omega)
theorem Zi.gr {g:Nat} {cs:Array Value} (h:Zi e i col w g cs) (hg:Zl col w col' w'):Zi e i col' w' g cs:=h.kp (hg.keep (i+1)) (by omega)

def Zk (col:Zg):Zg:=fun k=>if col k=0 then 0 else 999
def Z2 (B:Nat) (col col':Zg):Zg:=fun k=>if k<B then col k else col' k

theorem St.start (col:Zg) (w:World):St w (Zk col) (Zk col) w:=⟨Yn.refl w,Nat.le_refl _,fun _ _ _=>⟨rfl,rfl⟩,fun k _=>by unfold Zk;split <;> simp⟩
theorem Yu.start (col:Zg) (w:World):Yu col w (Zk col) w:=fun k _ h=>⟨by simp [Zk,h],rfl⟩
theorem St.st {w0:World} {c0:Zg} (h:St w0 c0 col w):Yu c0 w0 col w:=fun k d a=>by
 have b:=h.old k d (by rw [a];rfl)
 exact ⟨b.1.trans a,b.2⟩
theorem Sl.ks {w0:World} {c0:Zg} {a:Option Addr} {cap:Nat} (h:Sl r c0 w0 a cap xs) (hs:St w0 c0 col w):Sl r col w a cap xs:=h.keep hs.st
theorem Zzi (col:Zg) (k:Nat):pM (Zk col k)=false:=by unfold Zk;split <;> rfl
theorem St.below {w0:World} (h:St w0 (Zk col) col' w'):Below w0.heap.size w0 w':=⟨h.still.1,h.still.2.1,h.still.2.2,h.size,fun k a=>(h.old k a (Zzi _ _)).2⟩
theorem St.oldc {w0:World} (h:St w0 (Zk col) col' w'):∀ k,k<w0.heap.size→col' k=Zk col k:=fun k a=>(h.old k a (Zzi _ _)).1
end
end Go.Proofs.YtpkknichfgooaaaGreat
