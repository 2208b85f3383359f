/-
  Maps, arrays, strings, closures that are called, what is lent: laws of single operations. Over any program.
-/
import Derived.Test.YtpkknichfgooaaaGreatTopBitsBRange
import Derived.Test.YtpkknichfgooaaaGreatTopBitsBMix
import Derived.Test.YtpkknichfgooaaaGreatTopBitsBAgg
import Derived.MapKept
import Derived.Lib.Strings
namespace Go.Proofs.YtpkknichfgooaaaGreat
open Go Go.RowKit Go.MapKept
open Nat renaming beq→aH
open List renaming mem_of_getElem?→eB,findIdx_cons→iS,mem_singleton→bD,find?_eq_none→iP,getElem?_of_mem→iG,getElem?_inj→iT,length_map→bE,getElem?_eq_some_iff→eP,getElem?_map→cI,mem_map→cD
open Option renaming map_eq_none_iff→gY,map_some→eC
open Go.IntKind (i8 i16 i32 i64 u8 u16 u32 u64)

/-! ### what is lent -/
def Zsp:List Nat→Bool
 | []=>true
 | x :: r=>!(r.any (aH x))&&Zsp r
def Za4 (l:List Nat):Bool:=l.all (fun c=>!(aH c 0))&&(Zsp l&&Nat.ble l.length 10)
theorem Zdj {l:List Nat} {p:Nat} (hd:Za4 l=true) (i:Nat) (hi:l[i]?=some p):p≠0:=by
 simp only [Za4,Bool.and_eq_true,List.all_eq_true] at hd
 have:=hd.1 p (eB hi)
 intro e;subst e;simp at this
theorem Zdi:∀ {l:List Nat} {p:Nat} (_:Za4 l=true) (i:Nat) (_:l[i]?=some p),pS l p=true∧440+l.findIdx (aH p)=440+i:=by
 intro l p j i hi
 simp only [Za4,Bool.and_eq_true] at j
 have n:=j.2.1
 clear j
 refine ⟨by simp only [pS,List.any_eq_true];exact ⟨p,eB hi,by simp⟩,?_⟩
 congr 1
 induction l generalizing i with
 | nil=>simp at hi
 | cons x r ih=>
  simp only [Zsp,Bool.and_eq_true,Bool.not_eq_true',List.any_eq_false] at n
  cases i with
  | zero=>simp at hi;subst hi;simp [iS]
  | succ i=>
   have b:r[i]?=some p:=by simpa using hi
   have o:aH p x=false:=by
    cases hb:aH p x
    ·rfl
    ·have:=Nat.eq_of_beq_eq_true hb
     subst this
     have:=n.1 p (eB b)
     simp at this
   simp [iS,o,ih i b n.2]
section
variable {α:Type} {r:Zc α} {e c i p:Nat} {col col':Zg} {w w':World} {xs:List α} {a:Option Addr} {cap:Nat} {l:List Nat} {bs:List Nat}
theorem Zi.start0 {g:Nat} {cs:Array Value} (h:Zi e p col w g cs) (hp:p≠0):Zi e 999 (Zk col) w g cs:=⟨by unfold Zk;rw [h.1,if_neg hp],h.2⟩
theorem Zb.itk {q:Nat→Bool} (h:Zb r e c col w a cap xs) (_:w.heap.size≤w'.heap.size) (hk:∀ k,k<w.heap.size→q (col k)=true→col' k=col k∧w'.heap[k]?=w.heap[k]?) (hq:q c=true) (hf:r.flat):Zb r e c col' w' a cap xs:=by
 obtain ⟨bs,o,n⟩:=h
 have u:∀ b ∈ bs,col' b=col b∧w'.heap[b]?=w.heap[b]?:=fun b j=>hk b (o.lt b j) (by rw [n.2 b j];exact hq)
 exact ⟨bs,o.flat hf fun b j=>(u b j).2,n.1,fun b j=>(u b j).1.trans (n.2 b j)⟩

def NB (r:Zc α):Prop:=∀ {col w cs x bs},r.rd col w cs x bs→bs=[]
theorem NB.int {k:IntKind}:NB (Zc.int k):=fun h=>h.2
theorem NB.bool:NB Zc.bool:=fun h=>h.2
theorem NB.str:NB Zc.str:=fun h=>h.2
theorem NB.slice:NB (Zc.slice r):=fun h=>h.2
theorem NB.pair {β:Type} {s:Zc β} (h:NB r) (k:NB s):NB (Zc.pair r s):=fun ⟨_,_,_,_,_,b,j,n⟩=>by rw [b,h j,k n];rfl
theorem Rows.nb (hn:NB r):∀ {xs:List α} {fl:List Value} {bs:List Nat},Rows r col w fl xs bs→bs=[]
 | [],_,_,h=>h.2
 | _ :: _,_,_,⟨_,_,_,_,_,b,j,n⟩=>by rw [b,hn j,Rows.nb hn n];rfl
theorem Zb.srcN {cap2:Nat} {c2:Nat} (h:Zb r e c2 col w a cap2 xs) (hn:NB r):Qm r c c col w a xs:=by
 obtain ⟨bs,j,o⟩:=h
 obtain ⟨n,_,b⟩:=j.src
 have:n=[]:=by
  rcases b with b | ⟨_,_,_,_,b,_⟩
  ·exact b.2
  ·exact b.nb hn
 subst this
 exact ⟨[],b,.nil,.inl ⟨rfl,rfl⟩⟩
theorem Wf.cons1 {cs fl:List Value} {x:α} (h:Ys r c col w cs x) (k:Rows r col w fl xs []):Wf r c col w (cs++fl) (x :: xs):=by
 obtain ⟨b,j,n⟩:=h
 exact ⟨b,⟨cs,fl,b,[],rfl,by simp,j,k⟩,n⟩
theorem Tx (k:IntKind) (n:Int):(Zc.int k).rd col w [.int k n] n []:=⟨rfl,rfl⟩
theorem Se (b:Bool):Zc.bool.rd col w [.bool b] b []:=⟨rfl,rfl⟩
theorem Rows.nil0:Rows r col w [] ([]:List α) []:=⟨rfl,rfl⟩
theorem Wf.ofF {fl:List Value} (h:Rows r col w fl xs []):Wf r c col w fl xs:=⟨[],h,.nil⟩
theorem Rows.consF {cs fl:List Value} {x:α} (h:r.rd col w cs x []) (k:Rows r col w fl xs []):Rows r col w (cs++fl) (x :: xs) []:=⟨cs,fl,[],[],rfl,rfl,h,k⟩

theorem Wt {c1 c2 c3 c4 c5:Zg} {w1 w2 w3 w4:World} (h1:Zl c1 w1 c1 w2) (h2:Zl c2 w2 c3 w3) (h3:Zl c4 w3 c5 w4):Zl c1 w1 c1 w4:=
 .of_below (h1.below.trans ((h2.below.mono h1.below.size).trans (h3.below.mono (Nat.le_trans h1.below.size h2.below.size))))
end

/-! ### maps -/
structure Qj {K:Type} (d:TypeDesc) (fk:K→Value):Prop where
 inj:∀ a b,fk a=fk b→a=b
 isKey:∀ a,IsKey d (fk a)
theorem Qj.int {k:IntKind}:Qj (.int k) (Value.int k):=⟨fun a b h=>by injection h,fun _=>rfl⟩
theorem Qj.str:Qj .string Value.string:=⟨fun a b h=>by injection h,fun _=>trivial⟩
set_option linter.unusedSectionVars false
section
variable {K V:Type} [DecidableEq K]
def W1 (es:List (K×V)) (k:K):Option V:=(es.find? fun p=>decide (p.1=k)).map (·.2)
def Q2 (es:List (K×V)) (k:K) (v:V):List (K×V):=if (W1 es k).isSome then es.map (fun p=>if p.1=k then (k,v) else p) else es++[(k,v)]
def Ua (fk:K→Value) (fv:V→Value) (c:Nat) (col:Zg) (w:World) (g:Nat) (es:List (K×V)):Prop:=
 col g=c∧(∃ ents clock,w.heap[g]?=some (.map ents clock)∧ents.toList.map (fun x=>(x.key,x.val))=es.map (fun p=>(fk p.1,fv p.2)))∧(es.map (·.1)).Nodup

variable {fk:K→Value} {fv:V→Value} {c d i g p:Nat} {col col':Zg} {w w':World} {es:List (K×V)} {l:List Nat}
theorem Ua.startL (h:Ua fk fv p col w g es) (hp:p≠0) (hi:pS l p=true∧440+l.findIdx (aH p)=i):Ua fk fv i (X7 l col) w g es:=
 ⟨(X8.startL (bs:=[g]) ⟨by simp,fun b j=>by simp only [bD] at j;subst j;exact h.1⟩ hp hi).2 g (by simp),h.2⟩
theorem Zyo {k:K} {v:V} (hn:(es.map (·.1)).Nodup) (h:(k,v) ∈ es):W1 es k=some v:=by
 unfold W1
 cases hf:es.find? (fun p=>decide (p.1=k)) with
 | none=>have:=iP.1 hf _ h;simp at this
 | some q=>
  have n:=List.find?_some hf
  have o:=List.mem_of_find?_eq_some hf
  simp only [decide_eq_true_eq] at n
  obtain ⟨i,hi⟩:=iG h
  obtain ⟨j,b⟩:=iG o
  have:i=j:=(iT (by rw [bE];exact (eP.1 hi).1) hn).1 (by rw [cI,cI,hi,b];simp [n])
  subst this
  rw [hi] at b;cases b;rfl
theorem Z8j {k:K} (h:∀ q ∈ es,q.1≠k):W1 es k=none:=by
 unfold W1
 rw [gY,iP]
 intro q b;simpa using h q b

theorem Ua.find {P:Program} {kt:TypeId} {dk:TypeDesc} {k:K} {ents:Array MapEntry} (hd:Qj dk fk) (h3:ents.toList.map (fun x=>(x.key,x.val))=es.map (fun p=>(fk p.1,fv p.2))) (h4:(es.map (·.1)).Nodup) (hk:P.underlying kt=some dk) (w:World):
  (W1 es k=none∧(Instr.findKey kt (fk k) ents.toList).run P w= .ok none w)∨
  ∃ j e v,W1 es k=some v∧es[j]?=some (k,v)∧ents[j]?=some e∧e.key=fk k∧e.val=fv v∧(Instr.findKey kt (fk k) ents.toList).run P w= .ok (some (j,fv v)) w:=by
 have E:∀ x ∈ ents.toList,IsKey dk x.key:=fun x B=>by
  have:(x.key,x.val) ∈ es.map (fun p=>(fk p.1,fv p.2)):=by rw [← h3];exact cD.2 ⟨x,B,rfl⟩
  obtain ⟨q,_,b⟩:=cD.1 this
  simp only [Prod.mk.injEq] at b
  rw [← b.1];exact hd.isKey _
 rcases findNow_spec (hd.isKey k) ents.toList 0 E with ⟨C,o⟩ | ⟨j,D,C,o,F⟩
 ·refine .inl ⟨Z8j fun q b G=>?_,run_findKey hk C⟩
  have:(fk q.1,fv q.2) ∈ ents.toList.map (fun x=>(x.key,x.val)):=by rw [h3];exact cD.2 ⟨q,b,rfl⟩
  obtain ⟨x,B,u⟩:=cD.1 this
  simp only [Prod.mk.injEq] at u
  exact o x B (by rw [u.1,G])
 ·right
  have n:(es.map (fun p=>(fk p.1,fv p.2)))[j]?=some (D.key,D.val):=by rw [← h3,cI,o];rfl
  rw [cI] at n
  cases b:es[j]? with
  | none=>rw [b] at n;cases n
  | some q=>
   rw [b] at n
   simp only [eC,Option.some.injEq,Prod.mk.injEq] at n
   have A:q.1=k:=hd.inj _ _ (by rw [n.1,F])
   obtain ⟨H,qv⟩:=q
   simp only at A n
   subst A
   exact ⟨j,D,qv,Zyo h4 (eB b),b,by simpa using o,F,n.2.symm,by rw [n.2];simpa using run_findKey hk C⟩

theorem Zyu {k:K} {v:V} (hn:(es.map (·.1)).Nodup):((Q2 es k v).map (·.1)).Nodup:=by
 unfold Q2
 split
 ·have:(es.map fun p=>if p.1=k then (k,v) else p).map (·.1)=es.map (·.1):=by
   rw [List.map_map];refine List.map_congr_left fun q _=>?_
   simp only [Function.comp_apply];split
   ·rename_i h;exact h.symm
   ·rfl
  rw [this];exact hn
 ·rename_i h
  rw [List.map_append,List.nodup_append]
  refine ⟨hn,by simp,fun a o b n e=>?_⟩
  simp only [List.map_cons,List.map_nil,bD] at n
  subst n;subst e
  obtain ⟨q,u,j⟩:=cD.1 o
  obtain ⟨A,qv⟩:=q
  simp only at j;subst j
  rw [Zyo hn u] at h;simp at h

section
variable {P:Program} {f:Fr} {dst:Option Tmp} {t:Nat} {ps:String} {af:Array Edge} {x y z:Operand} {T kt et:TypeId} {dk:TypeDesc} {k:K} {v z0:V}
theorem Zz7 (hd:Qj dk fk) (h:Ua fk fv c col w g es) (hT:P.underlying T=some (.map kt et)) (hk:P.underlying kt=some dk) (hz:∀ w,(zeroValue et).run P w= .ok (fv z0) w) (hx:ev f x= .map (some g)) (hy:ev f y=fk k):
  (execOp (ev f) ⟨dst,.lookup T x y false,t,ps,af,none⟩).run P w= .ok (.value (fv ((W1 es k).getD z0))) w:=by
 obtain ⟨_,⟨B,A,q,C⟩,D⟩:=h
 have u:∀ b,(Instr.checkKey b 10000 kt (fk k)).run P w= .ok () w:=fun b=>run_checkKey hk (hd.isKey k) b 9999
 rcases Ua.find (P:=P) (k:=k) hd C D hk w with ⟨n,o⟩ | ⟨j,e,v,n,_,_,_,_,o⟩
 ·simp [execOp,hx,hy,Instr.lookup,run_underlying hT,Go.MapKept.run_getObj_map q,u,o,hz,n]
 ·simp [execOp,hx,hy,Instr.lookup,run_underlying hT,Go.MapKept.run_getObj_map q,u,o,n]
theorem Ua.put (hd:Qj dk fk) (h:Ua fk fv c col w g es) (hT:P.underlying T=some (.map kt et)) (hk:P.underlying kt=some dk):
  ∃ w',(Instr.mapUpdate T (.map (some g)) (fk k) (fv v)).run P w= .ok () w'∧Yh c col w col w'∧Yn w w'∧Ua fk fv c col w' g (Q2 es k v):=by
 obtain ⟨B,⟨u,o,A,G⟩,C⟩:=h
 have L:∀ H,(Instr.checkKey H 10000 kt (fk k)).run P w= .ok () w:=fun H=>run_checkKey hk (hd.isKey k) H 9999
 have E:=(Array.getElem?_eq_some_iff.1 A).1
 rcases Ua.find (P:=P) (k:=k) hd G C hk w with ⟨I,J⟩ | ⟨j,e,U,I,D,Q,R,_,J⟩
 ·refine ⟨w.putObj g (.map (u.push { key:=fk k,val:=fv v,born:=o }) (o+1)),?_,Yh.put B,Yn.put,B,⟨_,_,World.putObj_heap_same E,?_⟩,Zyu C⟩
  ·simp [Instr.mapUpdate,run_underlying hT,Go.MapKept.run_getObj_map A,L,J,Go.MapKept.run_setObj_map _ A,World.putObj]
  ·unfold Q2;rw [I];simp [G]
 ·refine ⟨w.putObj g (.map (u.modify j fun e=>{ e with key:=fk k,val:=fv v }) o),?_,Yh.put B,Yn.put,B,⟨_,_,World.putObj_heap_same E,?_⟩,Zyu C⟩
  ·have M:=run_keyThatStays (P:=P) (w:=w) (hd.isKey k)
   simp [Instr.mapUpdate,run_underlying hT,Go.MapKept.run_getObj_map A,L,J,Q,R,M,Go.MapKept.run_setObj_map _ A,World.putObj]
  ·unfold Q2;rw [I,Option.isSome_some,if_pos rfl]
   apply List.ext_getElem?
   intro n
   have b:=congrArg (·[n]?) G
   simp only [cI] at b
   simp only [cI,Array.getElem?_toList,Array.getElem?_modify]
   cases hq:es[n]? with
   | none=>
    rw [hq] at b
    simp only [Option.map_none,gY,Array.getElem?_toList] at b
    by_cases hjn:j=n
    ·subst hjn;rw [D] at hq;cases hq
    ·simp [hjn,b]
   | some q=>
    rw [hq] at b
    simp only [eC,Option.map_eq_some_iff,Array.getElem?_toList] at b
    obtain ⟨x,F,N⟩:=b
    by_cases hjn:j=n
    ·subst hjn
     rw [D] at hq;cases hq
     simp [F]
    ·have O:q.1≠k:=fun S=>hjn ((iT (by rw [bE];exact (eP.1 D).1) C).1 (by rw [cI,cI,D,hq];simp [S]))
     simp only [hjn,if_false,F,eC,O]
     exact congrArg some N
end
section
variable {P:Program} {m:Nat} {rd:Option Nat} {f:Fr} {ops:Array Oper} {Kk:Fr→World→Prop} {rest:List Oper} {t dd:Nat} {ps:String} {af:Array Edge} {x y z:Operand} {T kt et:TypeId} {dk:TypeDesc} {k:K} {v:V}
theorem Zx1 (hd:Qj dk fk) (h:Ua fk fv c col w g es) (hT:P.underlying T=some (.map kt et)) (hk:P.underlying kt=some dk) (hx:ev f x= .map (some g)) (hy:ev f y=fk k) (hz:ev f z=fv v)
  (kk:∀ w',Yh c col w col w'→Yn w w'→Ua fk fv c col w' g (Q2 es k v)→Zv P m rd ops Kk rest f w'):Zv P m rd ops Kk (⟨none,.mapUpdate T x y z,t,ps,af,none⟩ :: rest) f w:=by
 obtain ⟨w',b,j,n,o⟩:=Ua.put (P:=P) (k:=k) (v:=v) hd h hT hk
 exact lu rfl (by simp [execOp,hx,hy,hz,b]) (kk _ j n o)
theorem Ua.fresh (c:Nat):Zl col w (Yz col w c) (w.alloc (.map #[] 0))∧Ua fk fv c (Yz col w c) (w.alloc (.map #[] 0)) w.heap.size ([]:List (K×V)):=
 ⟨Zl.new (Zqo w _) c,by simp [Yz],⟨#[],0,World.alloc_heap_new w _,rfl⟩,by simp⟩
theorem Z74 (c:Nat) (hd:Nat.blt dd m=true) (kk:∀ g w' col',Zl col w col' w'→Ua fk fv c col' w' g ([]:List (K×V))→Zv P m rd ops Kk rest (Z3 f dd (.map (some g))) w'):
  Zv P m rd ops Kk (⟨some dd,.makeMap T none,t,ps,af,none⟩ :: rest) f w:=by
 obtain ⟨b,j⟩:=Ua.fresh (fk:=fk) (fv:=fv) (col:=col) (w:=w) c
 exact lv hd rfl (by simp [execOp,Instr.makeMap,newObj,Sem.run,World.alloc_eq]) (kk _ _ _ b j)
theorem Z75 {i:IntKind} {n:Int} (c:Nat) (hd:Nat.blt dd m=true) (hT:P.underlying T=some (.map kt et)) (hx:ev f x= .int i n) (kk:∀ g w' col',Zl col w col' w'→Ua fk fv c col' w' g ([]:List (K×V))→Zv P m rd ops Kk rest (Z3 f dd (.map (some g))) w'):
  Zv P m rd ops Kk (⟨some dd,.makeMap T (some x),t,ps,af,none⟩ :: rest) f w:=by
 obtain ⟨b,j⟩:=Ua.fresh (fk:=fk) (fv:=fv) (col:=col) (w:=w) c
 exact lv hd rfl (by simp [execOp,hx,Instr.makeMap,newObj,run_underlying hT,asInt,asIntOf,Sem.run,World.alloc_eq]) (kk _ _ _ b j)
end
end

/-! ### single operations -/
section
variable {P:Program} {f:Fr} {w:World} {dst:Option Tmp} {t:Nat} {p:String} {af:Array Edge} {gd:Option (Nat×Bool)} {x y:Operand} {T e:TypeId}
theorem Zau {a:Addr} (hx:ev f x= .pointer (some a)):(execOp (ev f) ⟨dst,.nilCheck x,t,p,af,none⟩).run P w= .ok (.value (.pointer (some a))) w:=by simp [execOp,hx]
theorem Zke {a:Option Addr} {n cap:Nat} (hT:P.underlying T=some (.slice e)) (hx:ev f x= .slice a n cap):(execOp (ev f) ⟨dst,.binOp .eql T x (.const (.slice none 0 0)) T,t,p,af,none⟩).run P w= .ok (.value (.bool a.isNone)) w:=Z9r hT hx
theorem Z9t {i:IntKind} {j:Int} {cs:Array Value} {v:Value} {sz n:Nat} (hT:P.underlying T=some (.array n e)) (hs:∀ w,(sizeOf e).run P w= .ok sz w) (ha:∀ w,(isAgg e).run P w= .ok false w) (hx:ev f x= .agg cs) (hy:ev f y= .int i j)
  (h0:0≤j) (hn:j<(n:Int)) (hv:cs[j.toNat * sz]?=some v):(execOp (ev f) ⟨dst,.index T x y,t,p,af,none⟩).run P w= .ok (.value v) w:=by
 simp [execOp,hx,hy,Instr.index,asIntOf,run_underlying hT,h0,hn,hs,part,ha,hv]
theorem Z9u {i k:IntKind} {j v:Int} {l:List Int} {n:Nat} (hT:P.underlying T=some (.array n e)) (hs:∀ w,(sizeOf e).run P w= .ok 1 w) (ha:∀ w,(isAgg e).run P w= .ok false w) (hx:ev f x= .agg (l.map (Value.int k)).toArray) (hy:ev f y= .int i j)
  (hn:l.length=n) (hj:Zn l j=some v):(execOp (ev f) ⟨dst,.index T x y,t,p,af,none⟩).run P w= .ok (.value (.int k v)) w:=by
 obtain ⟨b,q,o⟩:=Xo hj
 exact Z9t hT hs ha hx hy b (by omega) (by simp [o])
def Si (s:ByteArray) (j:Int):Option Int:=if 0≤j then (s[j.toNat]?).map fun b=>(b.toNat:Int) else none
theorem Zpz {i:IntKind} {j v:Int} {s:ByteArray} (hT:P.underlying T=some .string) (hx:ev f x= .string s) (hy:ev f y= .int i j) (hj:Si s j=some v):(execOp (ev f) ⟨dst,.index T x y,t,p,af,none⟩).run P w= .ok (.value (.int .u8 v)) w:=by
 unfold Si at hj
 split at hj
 ·rename_i n
  cases hb:s[j.toNat]? with
  | none=>rw [hb] at hj;cases hj
  | some b=>
   rw [hb] at hj
   simp only [eC,Option.some.injEq] at hj
   subst hj
   simp [execOp,hx,hy,Instr.index,asIntOf,run_underlying hT,n,hb]
 ·cases hj
section
variable {s s2:ByteArray} {lo hi:Operand} {il ih:IntKind} {l h:Int}
theorem Z93 (hT:P.underlying T=some .string) (hx:ev f x= .string s) (hl:ev f lo= .int il l) (hb:0≤l∧l≤(s.size:Int)∧(s.size:Int)≤(s.size:Int)):
  (execOp (ev f) ⟨dst,.slice T x (some lo) none none,t,p,af,none⟩).run P w= .ok (.value (.string (s.extract l.toNat (Int.toNat (s.size:Int))))) w:=by
 obtain ⟨b,j,_⟩:=hb
 simp [execOp,Instr.sliceAt,run_underlying hT,hx,hl,Instr.slice,Instr.sliceBounds,Instr.sliceBound,asIntOf,b,j]
theorem Z9k {yt:TypeId} (hT:P.underlying T=some .string) (hx:ev f x= .string s) (hy:ev f y= .string s2) (hb:s.size+s2.size≤maxLen):
  (execOp (ev f) ⟨dst,.binOp .add T x y yt,t,p,af,none⟩).run P w= .ok (.value (.string (s++s2))) w:=by
 have b:¬ (((s.size+s2.size:Nat):Int)>i64.max):=by
  have:i64.max=9223372036854775807:=by decide
  rw [this];simp only [maxLen] at hb;omega
 have j:(Op.stringOp .add s s2).run P w= .ok (.string (s++s2)) w:=by
  unfold Op.stringOp;simp only;rw [if_neg b];rfl
 simp [execOp,hx,hy,eqGuard,binOp,run_underlying hT,j]
end
theorem Xaz (a b:ByteArray):(a.toList==b.toList)=decide (a=b):=by
 rw [Go.Lib.toList_data,Go.Lib.toList_data,Bool.eq_iff_iff,beq_iff_eq,decide_eq_true_eq]
 exact ⟨fun h=>by cases a;cases b;simpa using h,fun h=>by rw [h]⟩
theorem Zz5 {yt:TypeId} (a b:ByteArray) (_:P.underlying T=some .string) (hx:ev f x= .string a) (hy:ev f y= .string b):(execOp (ev f) ⟨dst,.binOp .eql T x y yt,t,p,af,none⟩).run P w= .ok (.value (.bool (decide (a=b)))) w:=by
 have j:(Op.stringOp .eql a b).run P w= .ok (.bool (decide (a=b))) w:=by rw [← Xaz];rfl
 simp [execOp,hx,hy,eqGuard,binOp,j]
theorem Z9n {n sz:Nat} {zv:Value} {cs:Array Value} {parts:Array (Nat×Operand)} (hT:P.underlying T=some (.array n e)) (hs:∀ w,(sizeOf e).run P w= .ok sz w) (hz:∀ w,(zeroValue T).run P w= .ok zv w)
  (hf:Instr.fill (fun i=>some (i * sz,sz)) zv.cells (parts.toList.map fun x=>(x.fst,ev f x.snd))=some cs):(execOp (ev f) ⟨dst,.build T parts,t,p,af,none⟩).run P w= .ok (.value (.agg cs)) w:=by
 simp [execOp,Instr.build,hz,run_underlying hT,hs]
 rw [hf];simp
theorem Zz4 {yt:TypeId} (a b:Bool) (hT:P.underlying T=some .bool) (hx:ev f x= .bool a) (hy:ev f y= .bool b):(execOp (ev f) ⟨dst,.binOp .eql T x y yt,t,p,af,none⟩).run P w= .ok (.value (.bool (decide (a=b)))) w:=by
 have j:(Op.equal T (.bool a) (.bool b)).run P w= .ok (a==b) w:=by
  unfold Op.equal;rw [show Op.maxDepth=9999+1 from rfl];unfold Op.equalIn;simp [run_underlying hT]
 simp [execOp,hx,hy,eqGuard,binOp,j];cases a <;> cases b <;> rfl
theorem Zkf {yt:TypeId} (a b:Bool) (hT:P.underlying T=some .bool) (hx:ev f x= .bool a) (hy:ev f y= .bool b):(execOp (ev f) ⟨dst,.binOp .neq T x y yt,t,p,af,none⟩).run P w= .ok (.value (.bool (!decide (a=b)))) w:=by
 have j:(Op.equal T (.bool a) (.bool b)).run P w= .ok (a==b) w:=by
  unfold Op.equal;rw [show Op.maxDepth=9999+1 from rfl];unfold Op.equalIn;simp [run_underlying hT]
 simp [execOp,hx,hy,eqGuard,binOp,j];cases a <;> cases b <;> rfl
end
section
variable {P:Program} {f:Fr} {t:Nat} {dst:Option Nat} {p:String} {af:Array Edge} {ts:Array TypeId} {g:FuncId} {x0 x1 x2 x3:Operand} {v1 v2 v3:Value} {lb:List Value} {w:World}
theorem Z9q (hc:∀ args w,(callFunc g args).run P w= .ok (.enter g args) w) (h0:ev f x0= .func (.func g) #[] lb.toArray) (h1:ev f x1=v1):
  (execOp (ev f) ⟨dst,.call { callee:=.value x0,args:=#[x1],argTypes:=ts },t,p,af,none⟩).run P w= .ok (.enter g (v1 :: lb).toArray) w:=by
 subst h1;simp [execOp,resolve,h0,Deferred.ofValue,invoke,hc]
theorem Zs7 (hc:∀ args w,(callFunc g args).run P w= .ok (.enter g args) w) (h0:ev f x0= .func (.func g) #[] lb.toArray) (h1:ev f x1=v1) (h2:ev f x2=v2):
  (execOp (ev f) ⟨dst,.call { callee:=.value x0,args:=#[x1,x2],argTypes:=ts },t,p,af,none⟩).run P w= .ok (.enter g (v1 :: v2 :: lb).toArray) w:=by
 subst h1 h2;simp [execOp,resolve,h0,Deferred.ofValue,invoke,hc]
end

/-! ### a part of a variable,of an element that is out -/
section
variable {α:Type} {r:Zc α} {e c d i:Nat} {col col':Zg} {w w':World} {a:Option Addr} {cap:Nat} {xs:List α} {cs:List Value}
theorem Zi.storeF {P:Program} {f:Fr} {T t g n off:Nat} {p:String} {af:Array Edge} {px y:Operand} {v:Value} {cs:Array Value} (h:Zi e c col w g cs)
  (hs:∀ w,(sizeOf T).run P w= .ok n w) (hn:off+n≤cs.size) (hv:v.cells.size=n) (h1:∀ u ∈ v.cells.toList,u.oneCell'=true) (hx:ev f px= .pointer (some ⟨g,off,none⟩)) (hy:ev f y=v):
  ∃ w',(execOp (ev f) ⟨none,.store T px y,t,p,af,none⟩).run P w= .ok .skip w'∧Yh c col w col w'∧Yn w w'∧Zi e c col w' g (cs.toList.take off++v.cells.toList++cs.toList.drop (off+n)).toArray:=by
 have b:=run_storeCells_at P g off e v.cells.toList 0 cs w h.2 (by simp [hv];omega) h1
 simp only [Nat.add_zero,Array.length_toList,hv] at b
 refine ⟨w.setRow g (cs.toList.take off++v.cells.toList++cs.toList.drop (off+n)).toArray,?_,⟨by simp [World.setRow],fun _ _=>rfl,fun k _ j=>setRow_other w g k _ (fun e=>j (by rw [e,h.1]))⟩,⟨rfl,rfl,rfl⟩,h.1,setRow_heap w g cs _ e _ h.2⟩
 simp only [execOp,hx,hy,Instr.storeAt,Instr.sureAddr,storeVar]
 simp [hs,hv,b]
end
section
variable {e:TypeId} {col:Zg} {w:World} {P:Program} {m:Nat} {rd:Option Nat} {f:Fr} {ops:Array Oper} {K:Fr→World→Prop} {rest:List Oper} {t:Nat} {p:String} {af:Array Edge} {x y:Operand}
theorem Qo {T g n c off:Nat} {v:Value} {cs:Array Value} (h:Zi e c col w g cs)
  (hs:∀ w,(sizeOf T).run P w= .ok n w) (hn:Nat.ble (off+n) cs.size=true) (hv:v.cells.size=n) (h1:∀ u ∈ v.cells.toList,u.oneCell'=true) (hx:ev f x= .pointer (some ⟨g,off,none⟩)) (hy:ev f y=v)
  (k:∀ w',Yh c col w col w'→Yn w w'→Zi e c col w' g (cs.toList.take off++v.cells.toList++cs.toList.drop (off+n)).toArray→Zv P m rd ops K rest f w'):
  Zv P m rd ops K (⟨none,.store T x y,t,p,af,none⟩ :: rest) f w:=by
 obtain ⟨w',b,h1,j,o⟩:=Zi.storeF (t:=t) (p:=p) (af:=af) h hs (Nat.le_of_ble_eq_true hn) hv h1 hx hy
 exact lu rfl b (k _ h1 j o)
end
theorem Uv {α:Type} {r:Zc α} {col:Zg} {w:World} {a:Option Addr} {cap:Nat} {xs:List α} (h:Sl r col w a cap xs):(Zc.slice r).rd col w [.slice a xs.length cap] xs []:=⟨⟨a,cap,rfl,h⟩,rfl⟩
end Go.Proofs.YtpkknichfgooaaaGreat
