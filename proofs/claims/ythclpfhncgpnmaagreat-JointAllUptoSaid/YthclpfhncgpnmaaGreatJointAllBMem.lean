/-
  Memory: readings of data ('Rep'), rows that are owned ('Own'), variables in boxes ('Box'), which blocks stay ('Keep'). A colouring says of each block whose it is: 0: it stays as it is. Over any program.
-/
import Derived.Test.YthclpfhncgpnmaaGreatJointAllBOps
import Derived.Below
namespace Go.Proofs.YthclpfhncgpnmaaGreat
open Go Go.RowKit
open Nat renaming le_trans→bA,lt_of_lt_of_le→aJ,add_mul→bI,zero_mul→iC,zero_add→cK,one_mul→bP
open List renaming length_append→bS,mem_append→aZ,append_assoc→bK,getElem?_eq_some_iff→eM,drop_append→eV,drop_eq_nil_of_le→aF,take_append→eD,take_of_length_le→bJ
open Go.IntKind (i8 i16 i32 i64 u8 u16 u32 u64)

abbrev Zd:=Nat→Nat

structure Xu (c:Nat) (col:Zd) (w:World) (col':Zd) (w':World):Prop where
 size:w.heap.size≤w'.heap.size
 tint:∀ k,k<w.heap.size→col' k=col k
 block:∀ k,k<w.heap.size→col k≠c→w'.heap[k]?=w.heap[k]?

theorem Xu.trans {c:Nat} {col col' col'':Zd} {w w' w'':World} (h:Xu c col w col' w') (k:Xu c col' w' col'' w''):Xu c col w col'' w'':=
 ⟨bA h.size k.size,fun i a=>(k.tint i (aJ a h.size)).trans (h.tint i a),
  fun i a b=>(k.block i (aJ a h.size) (by rw [h.tint i a];exact b)).trans (h.block i a b)⟩

def X8 (col:Zd) (w:World) (col':Zd) (w':World):Prop:=∀ k,k<w.heap.size→col k=0→col' k=0∧w'.heap[k]?=w.heap[k]?
theorem Xu.stay {c:Nat} {col:Zd} {w:World} {col':Zd} {w':World} (h:Xu c col w col' w') (hc:c≠0):X8 col w col' w':=
 fun k a b=>⟨(h.tint k a).trans b,h.block k a (by rw [b];exact fun h=>hc h.symm)⟩

structure Za (α:Type) where
 sz:Nat
 pos:0<sz
 rd:Zd→World→List Value→α→List Nat→Prop
 len:∀ {col w cs x bs},rd col w cs x bs→cs.length=sz
 one:∀ {col w cs x bs},rd col w cs x bs→∀ v ∈ cs,v.oneCell'=true
 lt:∀ {col w cs x bs},rd col w cs x bs→∀ b ∈ bs,b<w.heap.size
 keep:∀ {col w col' w' cs x bs},rd col w cs x bs→X8 col w col' w'→(∀ b ∈ bs,w'.heap[b]?=w.heap[b]?)→rd col' w' cs x bs

def Za.int (k:IntKind):Za Int:=⟨1,by decide,fun _ _ cs x bs=>cs=[.int k x]∧bs=[],fun h=>by rw [h.1];rfl,fun h=>by rw [h.1];simp [Value.oneCell'],fun h=>by rw [h.2];simp,fun h _ _=>h⟩
def Za.bool:Za Bool:=⟨1,by decide,fun _ _ cs x bs=>cs=[.bool x]∧bs=[],fun h=>by rw [h.1];rfl,fun h=>by rw [h.1];simp [Value.oneCell'],fun h=>by rw [h.2];simp,fun h _ _=>h⟩
def Za.str:Za ByteArray:=⟨1,by decide,fun _ _ cs x bs=>cs=[.string x]∧bs=[],fun h=>by rw [h.1];rfl,fun h=>by rw [h.1];simp [Value.oneCell'],fun h=>by rw [h.2];simp,fun h _ _=>h⟩
def Za.pair {α β:Type} (r:Za α) (s:Za β):Za (α×β):=
 ⟨r.sz+s.sz,by have:=r.pos;omega,fun col w cs x bs=>∃ c1 c2 b1 b2,cs=c1++c2∧bs=b1++b2∧r.rd col w c1 x.1 b1∧s.rd col w c2 x.2 b2,
  fun ⟨c1,c2,b1,b2,h,_,h1,h2⟩=>by rw [h,bS,r.len h1,s.len h2],
  fun ⟨c1,c2,b1,b2,h,_,h1,h2⟩ v hv=>by rw [h,aZ] at hv;exact hv.elim (r.one h1 v) (s.one h2 v),
  fun ⟨c1,c2,b1,b2,h,hb,h1,h2⟩ b hv=>by rw [hb,aZ] at hv;exact hv.elim (r.lt h1 b) (s.lt h2 b),
  fun ⟨c1,c2,b1,b2,h,hb,h1,h2⟩ hk hh=>⟨c1,c2,b1,b2,h,hb,r.keep h1 hk fun b hm=>hh b (by rw [hb];simp [hm]),s.keep h2 hk fun b hm=>hh b (by rw [hb];simp [hm])⟩⟩
section
variable {α:Type} {r:Za α} {col:Zd} {w:World} {col':Zd} {w':World} {xs ys:List α} {fl:List Value} {e c i:Nat} {bs:List Nat}

def Rows (r:Za α) (col:Zd) (w:World):List Value→List α→List Nat→Prop
 | fl,[],bs=>fl=[]∧bs=[]
 | fl,x :: xs,bs=>∃ cs fl' b1 b2,fl=cs++fl'∧bs=b1++b2∧r.rd col w cs x b1∧Rows r col w fl' xs b2

theorem Rows.length:∀ {xs:List α} {fl:List Value} {bs:List Nat},Rows r col w fl xs bs→fl.length=xs.length * r.sz
 | [],_,_,h=>by have h:_∧_:=h;simp [h.1]
 | x :: xs,_,_,⟨f,d,g,j,h,_,a,b⟩=>by rw [h,bS,r.len a,Rows.length b,List.length_cons,bI];omega

theorem Rows.one:∀ {xs:List α} {fl:List Value} {bs:List Nat},Rows r col w fl xs bs→∀ v ∈ fl,v.oneCell'=true
 | [],_,_,h=>by have h:_∧_:=h;simp [h.1]
 | x :: xs,_,_,⟨g,f,j,k,h,_,b,d⟩=>by intro v a;rw [h,aZ] at a;exact a.elim (r.one b v) (Rows.one d v)

theorem Rows.lt:∀ {xs:List α} {fl:List Value} {bs:List Nat},Rows r col w fl xs bs→∀ b ∈ bs,b<w.heap.size
 | [],_,_,h=>by have h:_∧_:=h;simp [h.2]
 | x :: xs,_,_,⟨j,g,k,l,_,h,d,f⟩=>by intro v a;rw [h,aZ] at a;exact a.elim (r.lt d v) (Rows.lt f v)

theorem Rows.keep (hk:X8 col w col' w'):∀ {xs:List α} {fl:List Value} {bs:List Nat},Rows r col w fl xs bs→(∀ b ∈ bs,w'.heap[b]?=w.heap[b]?)→Rows r col' w' fl xs bs
 | [],_,_,h,_=>h
 | _ :: _,_,_,⟨j,f,k,l,h,a,m,n⟩,g=>⟨j,f,k,l,h,a,r.keep m hk fun b d=>g b (by rw [a];simp [d]),Rows.keep hk n fun b d=>g b (by rw [a];simp [d])⟩

theorem Rows.append:∀ {xs:List α} {fl fl':List Value} {ys:List α} {bs bs':List Nat},Rows r col w fl xs bs→Rows r col w fl' ys bs'→Rows r col w (fl++fl') (xs++ys) (bs++bs')
 | [],_,_,_,_,_,h,a=>by have h:_∧_:=h;obtain ⟨rfl,rfl⟩:=h;exact a
 | x :: xs,_,_,_,_,_,⟨b,g,d,l,h,f,j,k⟩,a=>⟨b,_,d,_,by rw [h,bK],by rw [f,bK],j,Rows.append k a⟩

theorem Rows.get:∀ {xs:List α} {fl:List Value} {bs:List Nat},Rows r col w fl xs bs→∀ {j:Nat} {x:α},xs[j]?=some x→∃ cs b1 b2 b3,bs=b1++b2++b3∧r.rd col w cs x b2∧(∀ q v,cs[q]?=some v→fl[j * r.sz+q]?=some v)∧
  ∀ col' w' x' cs' b',X8 col w col' w'→(∀ b ∈ b1++b3,w'.heap[b]?=w.heap[b]?)→r.rd col' w' cs' x' b'→Rows r col' w' (fl.take (j * r.sz)++cs'++fl.drop (j * r.sz+r.sz)) (xs.set j x') (b1++b'++b3)
 | [],_,_,_,j,x,d=>by simp at d
 | y :: xs,_,_,⟨cs,g,b1,b2,h,n,a,o⟩,0,x,d=>by
  simp at d;subst d
  refine ⟨cs,[],b1,b2,by simp [n],a,fun q v k=>?_,fun col' w' x' cs' b' l m p=>?_⟩
  ·rw [h,iC,cK,List.getElem?_append_left (eM.1 k).1];exact k
  ·refine ⟨cs',g,b',b2,?_,by simp,p,Rows.keep l o fun b f=>m b (by simp [f])⟩
   rw [h,iC,cK,List.take_zero,List.nil_append,eV,r.len a]
   simp [aF (Nat.le_of_eq (r.len a))]
 | y :: xs,_,_,⟨cs,g,b1,b2,h,n,a,o⟩,j+1,x,d=>by
  obtain ⟨cs',s,t,u,A,B,C,D⟩:=Rows.get o (j:=j) (x:=x) (by simpa using d)
  have E:=r.len a
  refine ⟨cs',b1++s,t,u,by rw [n,A];simp,B,fun q v k=>?_,fun col' w' x' F b' l m p=>?_⟩
  ·have:=C q v k
   rw [h,List.getElem?_append_right (by rw [r.len a,bI];omega),r.len a,bI,show j * r.sz+1 * r.sz+q - r.sz=j * r.sz+q by omega]
   exact this
  ·refine ⟨cs,_,b1,_,?_,by simp,r.keep a l fun b f=>m b (by simp [f]),D col' w' x' F b' l (fun b f=>m b (by simp only [aZ] at f ⊢;exact f.elim (fun h=>.inl (.inr h)) .inr)) p⟩
   rw [h,bI,bP,eD,eV,bJ (by omega),aF (by omega),E]
   rw [show j * r.sz+r.sz - r.sz=j * r.sz by omega,show j * r.sz+r.sz+r.sz - r.sz=j * r.sz+r.sz by omega]
   simp

theorem Rows.split:∀ (k:Nat) {xs:List α} {fl:List Value} {bs:List Nat},Rows r col w fl xs bs→∃ b1 b2,bs=b1++b2∧Rows r col w (fl.take (k * r.sz)) (xs.take k) b1∧Rows r col w (fl.drop (k * r.sz)) (xs.drop k) b2
 | k,[],_,_,h=>by have h:_∧_:=h;obtain ⟨rfl,rfl⟩:=h;exact ⟨[],[],by simp,by simp [Rows],by simp [Rows]⟩
 | 0,y :: xs,fl,bs,h=>⟨[],bs,by simp,by simp [Rows],by simpa using h⟩
 | k+1,y :: xs,_,_,⟨f,g,b1,b2,h,j,a,l⟩=>by
  obtain ⟨b,m,n,o,p⟩:=Rows.split k l
  have d:=r.len a
  refine ⟨b1++b,m,by rw [j,n];simp,⟨f,g.take (k * r.sz),b1,b,?_,rfl,a,o⟩,?_⟩
  ·rw [h,bI,bP,eD,d,bJ (by omega),show k * r.sz+r.sz - r.sz=k * r.sz by omega]
  ·rw [h,bI,bP,eV,d,aF (by omega),show k * r.sz+r.sz - r.sz=k * r.sz by omega]
   simpa using p
theorem Rows.drop (h:Rows r col w fl xs []) (k:Nat):Rows r col w (fl.drop (k * r.sz)) (xs.drop k) []:=by
 obtain ⟨d,f,a,_,b⟩:=h.split k
 simp at a;obtain ⟨rfl,rfl⟩:=a;exact b
theorem Rows.take (h:Rows r col w fl xs []) (k:Nat):Rows r col w (fl.take (k * r.sz)) (xs.take k) []:=by
 obtain ⟨d,f,a,b,_⟩:=h.split k
 simp at a;obtain ⟨rfl,rfl⟩:=a;exact b

def Zi (xs:List α) (j:Int):Option α:=if 0≤j then xs[j.toNat]? else none
theorem Uo (xs:List α) (j:Nat):Zi xs (j:Int)=xs[j]?:=by simp [Zi]
theorem Xm {xs:List α} {j:Int} {x:α} (h:Zi xs j=some x):0≤j∧j<xs.length∧xs[j.toNat]?=some x:=by
 unfold Zi at h
 split at h
 ·rename_i a
  have:=(eM.1 h).1
  exact ⟨a,by omega,h⟩
 ·cases h

theorem Va (b off n:Nat):(⟨b,off,none⟩:Addr).add n=⟨b,off+n,none⟩:=by unfold Addr.add;split <;> simp_all

def Sl (r:Za α) (col:Zd) (w:World) (a:Option Addr) (cap:Nat) (xs:List α):Prop:=
 (xs.length≤maxLen∧xs.length≤cap)∧(xs=[]∨∃ b off fl,a=some ⟨b,off,none⟩∧col b=0∧Rows r col w fl xs []∧∀ q v,fl[q]?=some v→w.cell? ⟨b,off+q,none⟩=some v)

theorem Sl.nil {a:Option Addr} {cap:Nat}:Sl r col w a cap []:=⟨by simp [maxLen],.inl rfl⟩

theorem Sl.keep {a:Option Addr} {cap:Nat} (h:Sl r col w a cap xs) (hk:X8 col w col' w'):Sl r col' w' a cap xs:=by
 refine ⟨h.1,?_⟩
 rcases h.2 with h | ⟨b,f,fl,m,g,j,k⟩
 ·exact .inl h
 ·by_cases he:xs=[]
  ·exact .inl he
  ·have d:b<w.heap.size:=by
    have n:=j.length
    have:0<xs.length:=List.length_pos_iff.2 he
    have p:=Nat.mul_pos this r.pos
    obtain ⟨v,s,rfl⟩:=List.exists_cons_of_ne_nil (l:=fl) (by intro h;subst h;simp at n;omega)
    exact World.block_lt_of_cell? w _ (k 0 v rfl)
   refine .inr ⟨b,f,fl,m,(hk b d g).1,j.keep hk (by simp),fun q v o=>?_⟩
   rw [← k q v o]
   exact World.cell?_of_block (hk b d g).2

theorem Sl.kp {a:Option Addr} {cap:Nat} (h:Sl r col w a cap xs) (hk:Xu c col w col' w') (hc:c≠0:=by decide):Sl r col' w' a cap xs:=h.keep (hk.stay hc)

def Za.slice (r:Za α):Za (List α):=
 ⟨1,by decide,fun col w cs xs bs=>(∃ a cap,cs=[.slice a xs.length cap]∧Sl r col w a cap xs)∧bs=[],fun ⟨⟨_,_,h,_⟩,_⟩=>by rw [h];rfl,fun ⟨⟨_,_,h,_⟩,_⟩=>by rw [h];simp [Value.oneCell'],fun ⟨_,h⟩=>by rw [h];simp,
  fun ⟨⟨a,cap,h,hs⟩,hb⟩ hk _=>⟨⟨a,cap,h,hs.keep hk⟩,hb⟩⟩

def X3 (r:Za α) (e:TypeId) (col:Zd) (w:World) (a:Option Addr) (cap:Nat) (xs:List α) (bs:List Nat):Prop:=
 ∃ fl b2,w.ownsRow 0 e r.sz (.slice a xs.length cap) xs.length fl∧Rows r col w fl xs b2∧bs=(Value.slice a xs.length cap).ownBlock.toList++b2

theorem X3.lt {a:Option Addr} {cap:Nat} (h:X3 r e col w a cap xs bs):∀ b ∈ bs,b<w.heap.size:=by
 obtain ⟨fl,j,f,g,rfl⟩:=h
 intro b d
 rw [aZ] at d
 rcases d with d | d
 ·rw [Option.mem_toList] at d;exact (f.lt b d).2
 ·exact g.lt b d
theorem X3.keep {a:Option Addr} {cap:Nat} (h:X3 r e col w a cap xs bs) (hk:X8 col w col' w') (hh:∀ b ∈ bs,w'.heap[b]?=w.heap[b]?):X3 r e col' w' a cap xs bs:=by
 obtain ⟨fl,n,j,o,rfl⟩:=h
 refine ⟨fl,n,⟨j.1,?_⟩,o.keep hk fun b d=>hh b (by simp [d]),rfl⟩
 rcases j.2 with h | ⟨g,p,k,l,d,m,f⟩
 ·exact .inl h
 ·exact .inr ⟨g,p,k,l,d,by rw [hh g (by rw [l];simp [Value.ownBlock])];exact m,f⟩
theorem X3.nil:X3 r e col w none 0 [] []:=⟨[],[],World.ownsRow_nil _ _ _ _,⟨rfl,rfl⟩,by simp [Value.ownBlock]⟩

def Za.row (e:TypeId) (r:Za α):Za (List α):=
 ⟨1,by decide,fun col w cs xs bs=>∃ a cap,cs=[.slice a xs.length cap]∧X3 r e col w a cap xs bs,fun ⟨_,_,h,_⟩=>by rw [h];rfl,fun ⟨_,_,h,_⟩=>by rw [h];simp [Value.oneCell'],fun ⟨_,_,_,h⟩=>h.lt,
  fun ⟨a,cap,h,hs⟩ hk hh=>⟨a,cap,h,hs.keep hk hh⟩⟩

def Xv (c:Nat) (col:Zd) (bs:List Nat):Prop:=bs.Nodup∧∀ b ∈ bs,col b=c
theorem Xv.nil:Xv c col []:=⟨List.nodup_nil,by simp⟩
theorem Xv.kp (h:Xv i col bs) (hlt:∀ b ∈ bs,b<w.heap.size) (hk:Xu c col w col' w'):Xv i col' bs:=⟨h.1,fun b a=>by rw [hk.tint b (hlt b a)];exact h.2 b a⟩

def X0 (r:Za α) (c:Nat) (col:Zd) (w:World) (cs:List Value) (x:α):Prop:=∃ bs,r.rd col w cs x bs∧Xv c col bs

def Zb (r:Za α) (e:TypeId) (c:Nat) (col:Zd) (w:World) (a:Option Addr) (cap:Nat) (xs:List α):Prop:=∃ bs,X3 r e col w a cap xs bs∧Xv c col bs

theorem Zb.nil:Zb r e c col w none 0 []:=⟨[],.nil,.nil⟩
theorem Zb.has {a:Option Addr} {cap:Nat} (h:Zb r e c col w a cap xs):X0 (Za.row e r) c col w [.slice a xs.length cap] xs:=by
 obtain ⟨bs,b,d⟩:=h
 exact ⟨bs,⟨a,cap,rfl,b⟩,d⟩
theorem X0.kp {x:α} {cs:List Value} (h:X0 r i col w cs x) (hk:Xu c col w col' w') (hc:c≠0:=by decide) (hi:i≠c:=by decide):X0 r i col' w' cs x:=by
 obtain ⟨bs,a,d⟩:=h
 exact ⟨bs,r.keep a (hk.stay hc) fun b f=>hk.block b (r.lt a b f) (by rw [d.2 b f];exact hi),d.kp (r.lt a) hk⟩
theorem Zb.kp {a:Option Addr} {cap:Nat} (h:Zb r e i col w a cap xs) (hk:Xu c col w col' w') (hc:c≠0:=by decide) (hi:i≠c:=by decide):Zb r e i col' w' a cap xs:=by
 obtain ⟨bs,d,f⟩:=h
 exact ⟨bs,d.keep (hk.stay hc) fun b g=>hk.block b (d.lt b g) (by rw [f.2 b g];exact hi),f.kp d.lt hk⟩

def Zm (r s:Za α):Prop:=s.sz=r.sz∧∀ {col w cs x bs},r.rd col w cs x bs→(∀ b ∈ bs,col b=0)→s.rd col w cs x []
theorem Zm.int (k:IntKind):Zm (Za.int k) (Za.int k):=⟨rfl,fun h _=>⟨h.1,rfl⟩⟩
theorem Zm.bool:Zm Za.bool Za.bool:=⟨rfl,fun h _=>⟨h.1,rfl⟩⟩
theorem Zm.str:Zm Za.str Za.str:=⟨rfl,fun h _=>⟨h.1,rfl⟩⟩
theorem Zm.slice:Zm (Za.slice r) (Za.slice r):=⟨rfl,fun h _=>⟨h.1,rfl⟩⟩
theorem Zm.pair {β:Type} {r s:Za α} {r' s':Za β} (h:Zm r s) (k:Zm r' s'):Zm (Za.pair r r') (Za.pair s s'):=
 ⟨by show s.sz+s'.sz=r.sz+r'.sz;rw [h.1,k.1],fun ⟨g,j,o,p,l,d,m,n⟩ f=>⟨g,j,[],[],l,rfl,h.2 m fun b a=>f b (by rw [d];simp [a]),k.2 n fun b a=>f b (by rw [d];simp [a])⟩⟩
theorem Rows.froz {s:Za α} (hf:Zm r s):∀ {xs:List α} {fl:List Value} {bs:List Nat},Rows r col w fl xs bs→(∀ b ∈ bs,col b=0)→Rows s col w fl xs []
 | [],_,_,h,_=>⟨h.1,rfl⟩
 | _ :: _,_,_,⟨j,d,m,n,h,f,k,l⟩,g=>⟨j,d,[],[],h,rfl,hf.2 k fun b a=>g b (by rw [f];simp [a]),Rows.froz hf l fun b a=>g b (by rw [f];simp [a])⟩
theorem X3.sl {s:Za α} (hf:Zm r s) {a:Option Addr} {cap:Nat} (h:X3 r e col w a cap xs bs) (h0:∀ b ∈ bs,col b=0):Sl s col w a cap xs:=by
 obtain ⟨fl,t,d,l,rfl⟩:=h
 rcases d.2 with ⟨h,m⟩ | ⟨g,u,o,f,j,x,k,y,p,A⟩
 ·obtain rfl:=List.length_eq_zero_iff.1 m
  exact .nil
 ·simp only [Value.slice.injEq] at f
  obtain ⟨rfl,_,rfl⟩:=f
  refine ⟨⟨by omega,k⟩,.inr ⟨g,0,fl,rfl,h0 g (by simp [Value.ownBlock]),l.froz hf fun b j=>h0 b (by simp [j]),fun q v n=>?_⟩⟩
  have:=d.cells (g:=g) rfl q v n
  rw [Va] at this
  simpa using this
theorem Zm.row {s:Za α} (hf:Zm r s):Zm (Za.row e r) (Za.slice s):=⟨rfl,fun ⟨a,b,d,f⟩ g=>⟨⟨a,b,d,f.sl hf g⟩,rfl⟩⟩

theorem Zb.slF {s:Za α} (hf:Zm r s) {a:Option Addr} {cap:Nat} (h:Zb r e i col w a cap xs) (h0:∀ k,col k=0∨col k=i→col' k=0):Sl s col' w a cap xs:=by
 obtain ⟨bs,d,f⟩:=h
 have g:X8 col w col' w:=fun k _ j=>⟨h0 k (.inl j),rfl⟩
 exact (d.keep g fun _ _=>rfl).sl hf fun b l=>h0 b (.inr (f.2 b l))

def Ze (e:TypeId) (c:Nat) (col:Zd) (w:World) (g:Nat) (cs:Array Value):Prop:=col g=c∧w.heap[g]?=some (.cells cs e (0,0))

theorem Ze.kp {g:Nat} {cs:Array Value} (h:Ze e i col w g cs) (hk:Xu c col w col' w') (hi:i≠c:=by decide):Ze e i col' w' g cs:=by
 have a:=(Array.getElem?_eq_some_iff.1 h.2).1
 exact ⟨(hk.tint g a).trans h.1,by rw [hk.block g a (by rw [h.1];exact hi)];exact h.2⟩

def X5 (w w':World):Prop:=w'.os=w.os∧w'.tape=w.tape∧w'.output=w.output
theorem X5.refl (w:World):X5 w w:=⟨rfl,rfl,rfl⟩
theorem X5.trans {w'':World} (h:X5 w w') (k:X5 w' w''):X5 w w'':=⟨k.1.trans h.1,k.2.1.trans h.2.1,k.2.2.trans h.2.2⟩

def pM:Nat→Bool:=fun c=>Nat.ble 440 c&&Nat.blt c 450

structure St (w0:World) (c0:Zd) (col:Zd) (w:World):Prop where
 still:X5 w0 w
 size:w0.heap.size≤w.heap.size
 old:∀ k,k<w0.heap.size→pM (c0 k)=false→col k=c0 k∧w.heap[k]?=w0.heap[k]?
 foreign:∀ k,k<w0.heap.size→c0 k=0∨c0 k=999∨pM (c0 k)=true

structure Zk (col:Zd) (w:World) (col':Zd) (w':World):Prop where
 below:Below w.heap.size w w'
 tint:∀ k,k<w.heap.size→col' k=col k

theorem Zk.still (h:Zk col w col' w'):X5 w w':=⟨h.below.os,h.below.tape,h.below.output⟩
theorem Zk.keep (h:Zk col w col' w') (c:Nat):Xu c col w col' w':=⟨h.below.size,h.tint,fun k a _=>h.below.block k a⟩
theorem Zk.refl (col:Zd) (w:World):Zk col w col w:=⟨Below.refl _ _,fun _ _=>rfl⟩
theorem Zk.of_below (h:Below w.heap.size w w'):Zk col w col w':=⟨h,fun _ _=>rfl⟩
theorem Zk.trans {col'':Zd} {w'':World} (h:Zk col w col' w') (k:Zk col' w' col'' w''):Zk col w col'' w'':=
 ⟨h.below.trans (k.below.mono h.below.size),fun i a=>(k.tint i (aJ a h.below.size)).trans (h.tint i a)⟩
theorem Zk.drew (h:Zk col w col' w'):Zk col w col' w'.drew:=⟨h.below.drew,h.tint⟩
theorem St.kp {w0:World} {c0:Zd} (h:St w0 c0 col w) (hk:Xu c col w col' w') (hs:X5 w w') (h0:c≠0:=by decide) (h9:c≠999:=by decide):St w0 c0 col' w':=
 ⟨h.still.trans hs,bA h.size hk.size,(by
  intro k b f
  obtain ⟨g,j⟩:=h.old k b f
  have d:=aJ b h.size
  have a:=h.foreign k b
  refine ⟨(hk.tint k d).trans g,(hk.block k d ?_).trans j⟩
  rw [g];rcases a with a | a | a
  ·rw [a];exact Ne.symm h0
  ·rw [a];exact Ne.symm h9
  ·rw [f] at a;exact absurd a (by decide)),h.foreign⟩
theorem St.grow {w0:World} {c0:Zd} (h:St w0 c0 col w) (hg:Zk col w col' w'):St w0 c0 col' w':=h.kp (hg.keep 1) hg.still (by decide) (by decide)

theorem X0.gr {x:α} {cs:List Value} (h:X0 r i col w cs x) (hg:Zk col w col' w'):X0 r i col' w' cs x:=h.kp (hg.keep (i+1)) (by omega) (by omega)
theorem Zb.gr {a:Option Addr} {cap:Nat} (h:Zb r e i col w a cap xs) (hg:Zk col w col' w'):Zb r e i col' w' a cap xs:=h.kp (hg.keep (i+1)) (by omega) (by omega)
theorem Sl.gr {a:Option Addr} {cap:Nat} (h:Sl r col w a cap xs) (hg:Zk col w col' w'):Sl r col' w' a cap xs:=h.kp (hg.keep 1) (by omega)
theorem Ze.gr {g:Nat} {cs:Array Value} (h:Ze e i col w g cs) (hg:Zk col w col' w'):Ze e i col' w' g cs:=h.kp (hg.keep (i+1)) (by omega)

def Zg (col:Zd):Zd:=fun k=>if col k=0 then 0 else 999
def Xb (B:Nat) (col col':Zd):Zd:=fun k=>if k<B then col k else col' k

theorem St.start (col:Zd) (w:World):St w (Zg col) (Zg col) w:=⟨X5.refl w,Nat.le_refl _,fun _ _ _=>⟨rfl,rfl⟩,fun k _=>by unfold Zg;split <;> simp⟩
theorem X8.start (col:Zd) (w:World):X8 col w (Zg col) w:=fun k _ h=>⟨by simp [Zg,h],rfl⟩
theorem St.st {w0:World} {c0:Zd} (h:St w0 c0 col w):X8 c0 w0 col w:=fun k d a=>by
 have b:=h.old k d (by rw [a];rfl)
 exact ⟨b.1.trans a,b.2⟩
theorem Sl.ks {w0:World} {c0:Zd} {a:Option Addr} {cap:Nat} (h:Sl r c0 w0 a cap xs) (hs:St w0 c0 col w):Sl r col w a cap xs:=h.keep hs.st
theorem Zuw (col:Zd) (k:Nat):pM (Zg col k)=false:=by unfold Zg;split <;> rfl
theorem St.below {w0:World} (h:St w0 (Zg col) col' w'):Below w0.heap.size w0 w':=⟨h.still.1,h.still.2.1,h.still.2.2,h.size,fun k a=>(h.old k a (Zuw _ _)).2⟩
theorem St.oldc {w0:World} (h:St w0 (Zg col) col' w'):∀ k,k<w0.heap.size→col' k=Zg col k:=fun k a=>(h.old k a (Zuw _ _)).1
end
end Go.Proofs.YthclpfhncgpnmaaGreat
