/-
  Maps, arrays, strings, closures that are called, what is lent: laws of single operations. Over any program.
-/
import Derived.Test.YtdpdogdkolblnaaGreatDoorQueryAskBRange
import Derived.Test.YtdpdogdkolblnaaGreatDoorQueryAskBMix
import Derived.Test.YtdpdogdkolblnaaGreatDoorQueryAskBAgg
import Derived.MapKept
import Derived.Lib.Strings
namespace Go.Proofs.YtdpdogdkolblnaaGreatDoor
open Go Go.RowKit Go.MapKept
open Go.IntKind (i8 i16 i32 i64 u8 u16 u32 u64)

/-! ### what is lent -/
def Zk2:List Nat→Bool
 | []=>true
 | x :: r=>!(r.any (Nat.beq x))&&Zk2 r
def Yk (l:List Nat):Bool:=l.all (fun c=>!(Nat.beq c 0))&&(Zk2 l&&Nat.ble l.length 10)
theorem Yd {l:List Nat} {p:Nat} (hd:Yk l=true) (i:Nat) (hi:l[i]?=some p):p≠0:=by
 simp only [Yk,Bool.and_eq_true,List.all_eq_true] at hd
 have:=hd.1 p (List.mem_of_getElem? hi)
 intro e;subst e;simp at this
theorem Yc:∀ {l:List Nat} {p:Nat} (_:Yk l=true) (i:Nat) (_:l[i]?=some p),pS l p=true∧440+l.findIdx (Nat.beq p)=440+i:=by
 intro l p hd i hi
 simp only [Yk,Bool.and_eq_true] at hd
 have hn:=hd.2.1
 clear hd
 refine ⟨by simp only [pS,List.any_eq_true];exact ⟨p,List.mem_of_getElem? hi,by simp⟩,?_⟩
 congr 1
 induction l generalizing i with
 | nil=>simp at hi
 | cons x r ih=>
  simp only [Zk2,Bool.and_eq_true,Bool.not_eq_true',List.any_eq_false] at hn
  cases i with
  | zero=>simp at hi;subst hi;simp [List.findIdx_cons]
  | succ i=>
   have hi':r[i]?=some p:=by simpa using hi
   have hne:Nat.beq p x=false:=by
    cases hb:Nat.beq p x
    ·rfl
    ·have:=Nat.eq_of_beq_eq_true hb
     subst this
     have:=hn.1 p (List.mem_of_getElem? hi')
     simp at this
   simp [List.findIdx_cons,hne,ih i hi' hn.2]
section
variable {α:Type} {r:Za α} {e c i p:Nat} {col col':Zd} {w w':World} {xs:List α} {a:Option Addr} {cap:Nat} {l:List Nat} {bs:List Nat}
def NB (r:Za α):Prop:=∀ {col w cs x bs},r.rd col w cs x bs→bs=[]
theorem NB.int {k:IntKind}:NB (Za.int k):=fun h=>h.2
theorem NB.bool:NB Za.bool:=fun h=>h.2
theorem NB.str:NB Za.str:=fun h=>h.2
theorem NB.slice:NB (Za.slice r):=fun h=>h.2
theorem NB.pair {β:Type} {s:Za β} (h:NB r) (k:NB s):NB (Za.pair r s):=fun ⟨_,_,_,_,_,hb,h1,h2⟩=>by rw [hb,h h1,k h2];rfl
theorem Rows.nb (hn:NB r):∀ {xs:List α} {fl:List Value} {bs:List Nat},Rows r col w fl xs bs→bs=[]
 | [],_,_,h=>h.2
 | _ :: _,_,_,⟨_,_,_,_,_,hb,h1,h2⟩=>by rw [hb,hn h1,Rows.nb hn h2];rfl
theorem Zc.srcN {cap2:Nat} {c2:Nat} (h:Zc r e c2 col w a cap2 xs) (hn:NB r):Qa r c c col w a xs:=by
 obtain ⟨bs,h1,h2⟩:=h
 obtain ⟨b2,_,h3⟩:=h1.src
 have:b2=[]:=by
  rcases h3 with h3 | ⟨_,_,_,_,h3,_⟩
  ·exact h3.2
  ·exact h3.nb hn
 subst this
 exact ⟨[],h3,.nil,.inl ⟨rfl,rfl⟩⟩
theorem Yr.cons1 {cs fl:List Value} {x:α} (h:Xc r c col w cs x) (k:Rows r col w fl xs []):Yr r c col w (cs++fl) (x :: xs):=by
 obtain ⟨b1,h1,h2⟩:=h
 exact ⟨b1,⟨cs,fl,b1,[],rfl,by simp,h1,k⟩,h2⟩
theorem Vf (k:IntKind) (n:Int):(Za.int k).rd col w [.int k n] n []:=⟨rfl,rfl⟩
theorem Q4 (b:Bool):Za.bool.rd col w [.bool b] b []:=⟨rfl,rfl⟩
theorem Vj (b:ByteArray):Za.str.rd col w [.string b] b []:=⟨rfl,rfl⟩
theorem Rows.nil0:Rows r col w [] ([]:List α) []:=⟨rfl,rfl⟩
theorem Yr.ofF {fl:List Value} (h:Rows r col w fl xs []):Yr r c col w fl xs:=⟨[],h,.nil⟩
theorem Rows.consF {cs fl:List Value} {x:α} (h:r.rd col w cs x []) (k:Rows r col w fl xs []):Rows r col w (cs++fl) (x :: xs) []:=⟨cs,fl,[],[],rfl,rfl,h,k⟩

theorem Zaf {c1 c2 c3 c4 c5:Zd} {w1 w2 w3 w4:World} (h1:Zg c1 w1 c1 w2) (h2:Zg c2 w2 c3 w3) (h3:Zg c4 w3 c5 w4):Zg c1 w1 c1 w4:=
 .of_below (h1.below.trans ((h2.below.mono h1.below.size).trans (h3.below.mono (Nat.le_trans h1.below.size h2.below.size))))
end

/-! ### maps -/
structure Y7 {K:Type} (d:TypeDesc) (fk:K→Value):Prop where
 inj:∀ a b,fk a=fk b→a=b
 isKey:∀ a,IsKey d (fk a)
theorem Y7.int {k:IntKind}:Y7 (.int k) (Value.int k):=⟨fun a b h=>by injection h,fun _=>rfl⟩
theorem Y7.str:Y7 .string Value.string:=⟨fun a b h=>by injection h,fun _=>trivial⟩
theorem Y7.bool:Y7 .bool Value.bool:=⟨fun a b h=>by injection h,fun _=>trivial⟩

set_option linter.unusedSectionVars false
section
variable {K V:Type} [DecidableEq K]
def Xg (es:List (K×V)) (k:K):Option V:=(es.find? fun p=>decide (p.1=k)).map (·.2)
def Yx (es:List (K×V)) (k:K) (v:V):List (K×V):=if (Xg es k).isSome then es.map (fun p=>if p.1=k then (k,v) else p) else es++[(k,v)]
def Xv (fk:K→Value) (fv:V→Value) (c:Nat) (col:Zd) (w:World) (g:Nat) (es:List (K×V)):Prop:=
 col g=c∧(∃ ents clock,w.heap[g]?=some (.map ents clock)∧ents.toList.map (fun x=>(x.key,x.val))=es.map (fun p=>(fk p.1,fv p.2)))∧(es.map (·.1)).Nodup

variable {fk:K→Value} {fv:V→Value} {c d i g p:Nat} {col col':Zd} {w w':World} {es:List (K×V)} {l:List Nat}
theorem Xv.kp (h:Xv fk fv i col w g es) (hk:Xe c col w col' w') (hi:i≠c:=by decide):Xv fk fv i col' w' g es:=by
 obtain ⟨h1,⟨ents,clock,h2,h3⟩,h4⟩:=h
 have hlt:=(Array.getElem?_eq_some_iff.1 h2).1
 exact ⟨(hk.tint g hlt).trans h1,⟨ents,clock,(hk.block g hlt (by rw [h1];exact hi)).trans h2,h3⟩,h4⟩
theorem Xv.gr (h:Xv fk fv i col w g es) (hg:Zg col w col' w'):Xv fk fv i col' w' g es:=h.kp (hg.keep (i+1)) (by omega)
theorem Xv.kpp {p:Nat→Bool} (h:Xv fk fv i col w g es) (hk:Zs p col w col' w') (hi:p i=false:=by rfl):Xv fk fv i col' w' g es:=by
 obtain ⟨h1,⟨ents,clock,h2,h3⟩,h4⟩:=h
 have hlt:=(Array.getElem?_eq_some_iff.1 h2).1
 exact ⟨(hk.tint g hlt (by rw [h1];exact hi)).trans h1,⟨ents,clock,(hk.block g hlt (by rw [h1];exact hi)).trans h2,h3⟩,h4⟩
theorem Xv.startL (h:Xv fk fv p col w g es) (hp:p≠0) (hi:pS l p=true∧440+l.findIdx (Nat.beq p)=i):Xv fk fv i (Zy l col) w g es:=
 ⟨(Xo.startL (bs:=[g]) ⟨by simp,fun b hb=>by simp only [List.mem_singleton] at hb;subst hb;exact h.1⟩ hp hi).2 g (by simp),h.2⟩
theorem Zr7 {k:K} {v:V} (hn:(es.map (·.1)).Nodup) (h:(k,v) ∈ es):Xg es k=some v:=by
 unfold Xg
 cases hf:es.find? (fun p=>decide (p.1=k)) with
 | none=>have:=List.find?_eq_none.1 hf _ h;simp at this
 | some q=>
  have h1:=List.find?_some hf
  have h2:=List.mem_of_find?_eq_some hf
  simp only [decide_eq_true_eq] at h1
  obtain ⟨i,hi⟩:=List.getElem?_of_mem h
  obtain ⟨j,hj⟩:=List.getElem?_of_mem h2
  have:i=j:=(List.getElem?_inj (by rw [List.length_map];exact (List.getElem?_eq_some_iff.1 hi).1) hn).1 (by rw [List.getElem?_map,List.getElem?_map,hi,hj];simp [h1])
  subst this
  rw [hi] at hj;cases hj;rfl
theorem Z1h {k:K} (h:∀ q ∈ es,q.1≠k):Xg es k=none:=by
 unfold Xg
 rw [Option.map_eq_none_iff,List.find?_eq_none]
 intro q hq;simpa using h q hq

theorem Xv.find {P:Program} {kt:TypeId} {dk:TypeDesc} {k:K} {ents:Array MapEntry} (hd:Y7 dk fk) (h3:ents.toList.map (fun x=>(x.key,x.val))=es.map (fun p=>(fk p.1,fv p.2))) (h4:(es.map (·.1)).Nodup) (hk:P.underlying kt=some dk) (w:World):
  (Xg es k=none∧(Instr.findKey kt (fk k) ents.toList).run P w= .ok none w)∨
  ∃ j e v,Xg es k=some v∧es[j]?=some (k,v)∧ents[j]?=some e∧e.key=fk k∧e.val=fv v∧(Instr.findKey kt (fk k) ents.toList).run P w= .ok (some (j,fv v)) w:=by
 have hks:∀ x ∈ ents.toList,IsKey dk x.key:=fun x hx=>by
  have:(x.key,x.val) ∈ es.map (fun p=>(fk p.1,fv p.2)):=by rw [← h3];exact List.mem_map.2 ⟨x,hx,rfl⟩
  obtain ⟨q,_,hq⟩:=List.mem_map.1 this
  simp only [Prod.mk.injEq] at hq
  rw [← hq.1];exact hd.isKey _
 rcases findNow_spec (hd.isKey k) ents.toList 0 hks with ⟨h1,h2⟩ | ⟨j,e0,h1,h2,h5⟩
 ·refine .inl ⟨Z1h fun q hq he=>?_,run_findKey hk h1⟩
  have:(fk q.1,fv q.2) ∈ ents.toList.map (fun x=>(x.key,x.val)):=by rw [h3];exact List.mem_map.2 ⟨q,hq,rfl⟩
  obtain ⟨x,hx,hxe⟩:=List.mem_map.1 this
  simp only [Prod.mk.injEq] at hxe
  exact h2 x hx (by rw [hxe.1,he])
 ·right
  have h6:(es.map (fun p=>(fk p.1,fv p.2)))[j]?=some (e0.key,e0.val):=by rw [← h3,List.getElem?_map,h2];rfl
  rw [List.getElem?_map] at h6
  cases hq:es[j]? with
  | none=>rw [hq] at h6;cases h6
  | some q=>
   rw [hq] at h6
   simp only [Option.map_some,Option.some.injEq,Prod.mk.injEq] at h6
   have hqk:q.1=k:=hd.inj _ _ (by rw [h6.1,h5])
   obtain ⟨qk,qv⟩:=q
   simp only at hqk h6
   subst hqk
   exact ⟨j,e0,qv,Zr7 h4 (List.mem_of_getElem? hq),hq,by simpa using h2,h5,h6.2.symm,by rw [h6.2];simpa using run_findKey hk h1⟩

theorem Zse {k:K} {v:V} (hn:(es.map (·.1)).Nodup):((Yx es k v).map (·.1)).Nodup:=by
 unfold Yx
 split
 ·have:(es.map fun p=>if p.1=k then (k,v) else p).map (·.1)=es.map (·.1):=by
   rw [List.map_map];refine List.map_congr_left fun q _=>?_
   simp only [Function.comp_apply];split
   ·rename_i h;exact h.symm
   ·rfl
  rw [this];exact hn
 ·rename_i h
  rw [List.map_append,List.nodup_append]
  refine ⟨hn,by simp,fun a ha b hb e=>?_⟩
  simp only [List.map_cons,List.map_nil,List.mem_singleton] at hb
  subst hb;subst e
  obtain ⟨q,hq,hqe⟩:=List.mem_map.1 ha
  obtain ⟨qk,qv⟩:=q
  simp only at hqe;subst hqe
  rw [Zr7 hn hq] at h;simp at h

section
variable {P:Program} {f:Fr} {dst:Option Tmp} {t:Nat} {ps:String} {af:Array Edge} {x y z:Operand} {T kt et:TypeId} {dk:TypeDesc} {k:K} {v z0:V}
theorem Zfj (hd:Y7 dk fk) (h:Xv fk fv c col w g es) (hT:P.underlying T=some (.map kt et)) (hk:P.underlying kt=some dk) (hz:∀ w,(zeroValue et).run P w= .ok (fv z0) w) (hx:ev f x= .map (some g)) (hy:ev f y=fk k):
  (execOp (ev f) ⟨dst,.lookup T x y false,t,ps,af,none⟩).run P w= .ok (.value (fv ((Xg es k).getD z0))) w:=by
 obtain ⟨_,⟨ents,clock,h2,h3⟩,h4⟩:=h
 have hc:∀ em,(Instr.checkKey em 10000 kt (fk k)).run P w= .ok () w:=fun em=>run_checkKey hk (hd.isKey k) em 9999
 rcases Xv.find (P:=P) (k:=k) hd h3 h4 hk w with ⟨h5,h6⟩ | ⟨j,e,v,h5,_,_,_,_,h6⟩
 ·simp [execOp,hx,hy,Instr.lookup,run_underlying hT,Go.MapKept.run_getObj_map h2,hc,h6,hz,h5]
 ·simp [execOp,hx,hy,Instr.lookup,run_underlying hT,Go.MapKept.run_getObj_map h2,hc,h6,h5]
theorem Ztx (hd:Y7 dk fk) (h:Xv fk fv c col w g es) (hT:P.underlying T=some (.map kt et)) (hk:P.underlying kt=some dk) (hz:∀ w,(zeroValue et).run P w= .ok (fv z0) w) (hx:ev f x= .map (some g)) (hy:ev f y=fk k):
  (execOp (ev f) ⟨dst,.lookup T x y true,t,ps,af,none⟩).run P w= .ok (.value (.tuple #[fv ((Xg es k).getD z0),.bool (Xg es k).isSome])) w:=by
 obtain ⟨_,⟨ents,clock,h2,h3⟩,h4⟩:=h
 have hc:∀ em,(Instr.checkKey em 10000 kt (fk k)).run P w= .ok () w:=fun em=>run_checkKey hk (hd.isKey k) em 9999
 rcases Xv.find (P:=P) (k:=k) hd h3 h4 hk w with ⟨h5,h6⟩ | ⟨j,e,v,h5,_,_,_,_,h6⟩
 ·simp [execOp,hx,hy,Instr.lookup,run_underlying hT,Go.MapKept.run_getObj_map h2,hc,h6,hz,h5]
 ·simp [execOp,hx,hy,Instr.lookup,run_underlying hT,Go.MapKept.run_getObj_map h2,hc,h6,h5]

theorem Xv.put (hd:Y7 dk fk) (h:Xv fk fv c col w g es) (hT:P.underlying T=some (.map kt et)) (hk:P.underlying kt=some dk):
  ∃ w',(Instr.mapUpdate T (.map (some g)) (fk k) (fv v)).run P w= .ok () w'∧Xe c col w col w'∧Xt w w'∧Xv fk fv c col w' g (Yx es k v):=by
 obtain ⟨h1,⟨ents,clock,h2,h3⟩,h4⟩:=h
 have hc:∀ em,(Instr.checkKey em 10000 kt (fk k)).run P w= .ok () w:=fun em=>run_checkKey hk (hd.isKey k) em 9999
 have hlt:=(Array.getElem?_eq_some_iff.1 h2).1
 rcases Xv.find (P:=P) (k:=k) hd h3 h4 hk w with ⟨h5,h6⟩ | ⟨j,e,v0,h5,h7,h8,h9,_,h6⟩
 ·refine ⟨w.putObj g (.map (ents.push { key:=fk k,val:=fv v,born:=clock }) (clock+1)),?_,Xe.put h1,Xt.put,h1,⟨_,_,World.putObj_heap_same hlt,?_⟩,Zse h4⟩
  ·simp [Instr.mapUpdate,run_underlying hT,Go.MapKept.run_getObj_map h2,hc,h6,Go.MapKept.run_setObj_map _ h2,World.putObj]
  ·unfold Yx;rw [h5];simp [h3]
 ·refine ⟨w.putObj g (.map (ents.modify j fun e=>{ e with key:=fk k,val:=fv v }) clock),?_,Xe.put h1,Xt.put,h1,⟨_,_,World.putObj_heap_same hlt,?_⟩,Zse h4⟩
  ·have hst:=run_keyThatStays (P:=P) (w:=w) (hd.isKey k)
   simp [Instr.mapUpdate,run_underlying hT,Go.MapKept.run_getObj_map h2,hc,h6,h8,h9,hst,Go.MapKept.run_setObj_map _ h2,World.putObj]
  ·unfold Yx;rw [h5,Option.isSome_some,if_pos rfl]
   apply List.ext_getElem?
   intro n
   have h3n:=congrArg (·[n]?) h3
   simp only [List.getElem?_map] at h3n
   simp only [List.getElem?_map,Array.getElem?_toList,Array.getElem?_modify]
   cases hq:es[n]? with
   | none=>
    rw [hq] at h3n
    simp only [Option.map_none,Option.map_eq_none_iff,Array.getElem?_toList] at h3n
    by_cases hjn:j=n
    ·subst hjn;rw [h7] at hq;cases hq
    ·simp [hjn,h3n]
   | some q=>
    rw [hq] at h3n
    simp only [Option.map_some,Option.map_eq_some_iff,Array.getElem?_toList] at h3n
    obtain ⟨x,hx1,hx2⟩:=h3n
    by_cases hjn:j=n
    ·subst hjn
     rw [h7] at hq;cases hq
     simp [hx1]
    ·have hqk:q.1≠k:=fun he=>hjn ((List.getElem?_inj (by rw [List.length_map];exact (List.getElem?_eq_some_iff.1 h7).1) h4).1 (by rw [List.getElem?_map,List.getElem?_map,h7,hq];simp [he]))
     simp only [hjn,if_false,hx1,Option.map_some,hqk]
     exact congrArg some hx2
end
section
variable {P:Program} {m:Nat} {rd:Option Nat} {f:Fr} {ops:Array Oper} {Kk:Fr→World→Prop} {rest:List Oper} {t dd:Nat} {ps:String} {af:Array Edge} {x y z:Operand} {T kt et:TypeId} {dk:TypeDesc} {k:K} {v:V}
theorem Zga (hd:Y7 dk fk) (h:Xv fk fv c col w g es) (hT:P.underlying T=some (.map kt et)) (hk:P.underlying kt=some dk) (hx:ev f x= .map (some g)) (hy:ev f y=fk k) (hz:ev f z=fv v)
  (kk:∀ w',Xe c col w col w'→Xt w w'→Xv fk fv c col w' g (Yx es k v)→Zp P m rd ops Kk rest f w'):Zp P m rd ops Kk (⟨none,.mapUpdate T x y z,t,ps,af,none⟩ :: rest) f w:=by
 obtain ⟨w',h1,h2,h3,h4⟩:=Xv.put (P:=P) (k:=k) (v:=v) hd h hT hk
 exact lu rfl (by simp [execOp,hx,hy,hz,h1]) (kk _ h2 h3 h4)
theorem Zjh (hd:Y7 dk fk) (h:Xv fk fv c col w g es) (hT:P.underlying T=some (.map kt et)) (hk:P.underlying kt=some dk) (hx:ev f x= .map (some g)) (hy:ev f y=fk k) (hz:ev f z=fv v)
  (kk:∀ w',Xe c col w col w'→Xt w w'→Xv fk fv c col w' g (Yx es k v)→Zp P m rd ops Kk rest f w'):Zp P m rd ops Kk (⟨none,.insert T x y z,t,ps,af,none⟩ :: rest) f w:=by
 obtain ⟨w',h1,h2,h3,h4⟩:=Xv.put (P:=P) (k:=k) (v:=v) hd h hT hk
 exact lu rfl (by simp [execOp,hx,hy,hz,h1]) (kk _ h2 h3 h4)
theorem Xv.fresh (c:Nat):Zg col w (Xw col w c) (w.alloc (.map #[] 0))∧Xv fk fv c (Xw col w c) (w.alloc (.map #[] 0)) w.heap.size ([]:List (K×V)):=
 ⟨Zg.new (Zme w _) c,by simp [Xw],⟨#[],0,World.alloc_heap_new w _,rfl⟩,by simp⟩
theorem Zjg (c:Nat) (hd:Nat.blt dd m=true) (kk:∀ g w' col',Zg col w col' w'→Xv fk fv c col' w' g ([]:List (K×V))→Zp P m rd ops Kk rest (Zu f dd (.map (some g))) w'):
  Zp P m rd ops Kk (⟨some dd,.makeMap T none,t,ps,af,none⟩ :: rest) f w:=by
 obtain ⟨h1,h2⟩:=Xv.fresh (fk:=fk) (fv:=fv) (col:=col) (w:=w) c
 exact lv hd rfl (by simp [execOp,Instr.makeMap,newObj,Sem.run,World.alloc_eq]) (kk _ _ _ h1 h2)
theorem Zrn {i:IntKind} {n:Int} (c:Nat) (hd:Nat.blt dd m=true) (hT:P.underlying T=some (.map kt et)) (hx:ev f x= .int i n) (kk:∀ g w' col',Zg col w col' w'→Xv fk fv c col' w' g ([]:List (K×V))→Zp P m rd ops Kk rest (Zu f dd (.map (some g))) w'):
  Zp P m rd ops Kk (⟨some dd,.makeMap T (some x),t,ps,af,none⟩ :: rest) f w:=by
 obtain ⟨h1,h2⟩:=Xv.fresh (fk:=fk) (fv:=fv) (col:=col) (w:=w) c
 exact lv hd rfl (by simp [execOp,hx,Instr.makeMap,newObj,run_underlying hT,asInt,asIntOf,Sem.run,World.alloc_eq]) (kk _ _ _ h1 h2)
end
end

/-! ### single operations -/
section
variable {P:Program} {f:Fr} {w:World} {dst:Option Tmp} {t:Nat} {p:String} {af:Array Edge} {gd:Option (Nat×Bool)} {x y:Operand} {T e:TypeId}
theorem Z9 {a:Addr} (hx:ev f x= .pointer (some a)):(execOp (ev f) ⟨dst,.nilCheck x,t,p,af,none⟩).run P w= .ok (.value (.pointer (some a))) w:=by simp [execOp,hx]
theorem Zfh {a:Option Addr} {n cap:Nat} (hT:P.underlying T=some (.slice e)) (hx:ev f x= .slice a n cap):(execOp (ev f) ⟨dst,.binOp .eql T x (.const (.slice none 0 0)) T,t,p,af,none⟩).run P w= .ok (.value (.bool a.isNone)) w:=Z2q hT hx
theorem Zon {i:IntKind} {j:Int} {cs:Array Value} {v:Value} {sz n:Nat} (hT:P.underlying T=some (.array n e)) (hs:∀ w,(sizeOf e).run P w= .ok sz w) (ha:∀ w,(isAgg e).run P w= .ok false w) (hx:ev f x= .agg cs) (hy:ev f y= .int i j)
  (h0:0≤j) (hn:j<(n:Int)) (hv:cs[j.toNat * sz]?=some v):(execOp (ev f) ⟨dst,.index T x y,t,p,af,none⟩).run P w= .ok (.value v) w:=by
 simp [execOp,hx,hy,Instr.index,asIntOf,run_underlying hT,h0,hn,hs,part,ha,hv]
theorem Z2t {i k:IntKind} {j v:Int} {l:List Int} {n:Nat} (hT:P.underlying T=some (.array n e)) (hs:∀ w,(sizeOf e).run P w= .ok 1 w) (ha:∀ w,(isAgg e).run P w= .ok false w) (hx:ev f x= .agg (l.map (Value.int k)).toArray) (hy:ev f y= .int i j)
  (hn:l.length=n) (hj:Zq l j=some v):(execOp (ev f) ⟨dst,.index T x y,t,p,af,none⟩).run P w= .ok (.value (.int k v)) w:=by
 obtain ⟨h0,h1,h2⟩:=Yb hj
 exact Zon hT hs ha hx hy h0 (by omega) (by simp [h2])
def W8 (s:ByteArray) (j:Int):Option Int:=if 0≤j then (s[j.toNat]?).map fun b=>(b.toNat:Int) else none
theorem Vq {i:IntKind} {j v:Int} {s:ByteArray} (hT:P.underlying T=some .string) (hx:ev f x= .string s) (hy:ev f y= .int i j) (hj:W8 s j=some v):(execOp (ev f) ⟨dst,.index T x y,t,p,af,none⟩).run P w= .ok (.value (.int .u8 v)) w:=by
 unfold W8 at hj
 split at hj
 ·rename_i h0
  cases hb:s[j.toNat]? with
  | none=>rw [hb] at hj;cases hj
  | some b=>
   rw [hb] at hj
   simp only [Option.map_some,Option.some.injEq] at hj
   subst hj
   simp [execOp,hx,hy,Instr.index,asIntOf,run_underlying hT,h0,hb]
 ·cases hj
section
variable {s s2:ByteArray} {lo hi:Operand} {il ih:IntKind} {l h:Int}
theorem Zt5 (hT:P.underlying T=some .string) (hx:ev f x= .string s) (hl:ev f lo= .int il l) (hh:ev f hi= .int ih h) (hb:0≤l∧l≤h∧h≤(s.size:Int)):
  (execOp (ev f) ⟨dst,.slice T x (some lo) (some hi) none,t,p,af,none⟩).run P w= .ok (.value (.string (s.extract l.toNat h.toNat))) w:=by
 obtain ⟨h1,h2,h3⟩:=hb
 have h4:0≤h:=by omega
 have h5:l≤max h 0:=by omega
 simp [execOp,Instr.sliceAt,run_underlying hT,hx,hl,hh,Instr.slice,Instr.sliceBounds,Instr.sliceBound,asIntOf,h1,h3,h4,h5]
theorem Zot (hT:P.underlying T=some .string) (hx:ev f x= .string s) (hl:ev f lo= .int il l) (hb:0≤l∧l≤(s.size:Int)∧(s.size:Int)≤(s.size:Int)):
  (execOp (ev f) ⟨dst,.slice T x (some lo) none none,t,p,af,none⟩).run P w= .ok (.value (.string (s.extract l.toNat (Int.toNat (s.size:Int))))) w:=by
 obtain ⟨h1,h2,_⟩:=hb
 simp [execOp,Instr.sliceAt,run_underlying hT,hx,hl,Instr.slice,Instr.sliceBounds,Instr.sliceBound,asIntOf,h1,h2]
theorem Zcx (hT:P.underlying T=some .string) (hx:ev f x= .string s) (hh:ev f hi= .int ih h) (hb:(0:Int)≤0∧0≤h∧h≤(s.size:Int)):
  (execOp (ev f) ⟨dst,.slice T x none (some hi) none,t,p,af,none⟩).run P w= .ok (.value (.string (s.extract (Int.toNat 0) h.toNat))) w:=by
 obtain ⟨_,h1,h2⟩:=hb
 simp [execOp,Instr.sliceAt,run_underlying hT,hx,hh,Instr.slice,Instr.sliceBounds,Instr.sliceBound,asIntOf,h1,h2]
theorem V6 {yt:TypeId} (hT:P.underlying T=some .string) (hx:ev f x= .string s) (hy:ev f y= .string s2) (hb:s.size+s2.size≤maxLen):
  (execOp (ev f) ⟨dst,.binOp .add T x y yt,t,p,af,none⟩).run P w= .ok (.value (.string (s++s2))) w:=by
 have h1:¬ (((s.size+s2.size:Nat):Int)>i64.max):=by
  have:i64.max=9223372036854775807:=by decide
  rw [this];simp only [maxLen] at hb;omega
 have h2:(Op.stringOp .add s s2).run P w= .ok (.string (s++s2)) w:=by
  unfold Op.stringOp;simp only;rw [if_neg h1];rfl
 simp [execOp,hx,hy,eqGuard,binOp,run_underlying hT,h2]
end
theorem Zva (a b:ByteArray):(a.toList==b.toList)=decide (a=b):=by
 rw [Go.Lib.toList_data,Go.Lib.toList_data,Bool.eq_iff_iff,beq_iff_eq,decide_eq_true_eq]
 exact ⟨fun h=>by cases a;cases b;simpa using h,fun h=>by rw [h]⟩
theorem Zol {yt:TypeId} (a b:ByteArray) (_:P.underlying T=some .string) (hx:ev f x= .string a) (hy:ev f y= .string b):(execOp (ev f) ⟨dst,.binOp .eql T x y yt,t,p,af,none⟩).run P w= .ok (.value (.bool (decide (a=b)))) w:=by
 have h1:(Op.stringOp .eql a b).run P w= .ok (.bool (decide (a=b))) w:=by rw [← Zva];rfl
 simp [execOp,hx,hy,eqGuard,binOp,h1]
theorem Zt3 {yt:TypeId} (a b:ByteArray) (_:P.underlying T=some .string) (hx:ev f x= .string a) (hy:ev f y= .string b):(execOp (ev f) ⟨dst,.binOp .neq T x y yt,t,p,af,none⟩).run P w= .ok (.value (.bool (!decide (a=b)))) w:=by
 have h1:(Op.stringOp .neq a b).run P w= .ok (.bool (!decide (a=b))) w:=by rw [← Zva];rfl
 simp [execOp,hx,hy,eqGuard,binOp,h1]
theorem Zoi {n sz:Nat} {zv:Value} {cs:Array Value} {parts:Array (Nat×Operand)} (hT:P.underlying T=some (.array n e)) (hs:∀ w,(sizeOf e).run P w= .ok sz w) (hz:∀ w,(zeroValue T).run P w= .ok zv w)
  (hf:Instr.fill (fun i=>some (i * sz,sz)) zv.cells (parts.toList.map fun x=>(x.fst,ev f x.snd))=some cs):(execOp (ev f) ⟨dst,.build T parts,t,p,af,none⟩).run P w= .ok (.value (.agg cs)) w:=by
 simp [execOp,Instr.build,hz,run_underlying hT,hs]
 rw [hf];simp
theorem Ztr {yt:TypeId} (a b:Bool) (hT:P.underlying T=some .bool) (hx:ev f x= .bool a) (hy:ev f y= .bool b):(execOp (ev f) ⟨dst,.binOp .eql T x y yt,t,p,af,none⟩).run P w= .ok (.value (.bool (decide (a=b)))) w:=by
 have h1:(Op.equal T (.bool a) (.bool b)).run P w= .ok (a==b) w:=by
  unfold Op.equal;rw [show Op.maxDepth=9999+1 from rfl];unfold Op.equalIn;simp [run_underlying hT]
 simp [execOp,hx,hy,eqGuard,binOp,h1];cases a <;> cases b <;> rfl
theorem Zoq {yt:TypeId} (a b:Bool) (hT:P.underlying T=some .bool) (hx:ev f x= .bool a) (hy:ev f y= .bool b):(execOp (ev f) ⟨dst,.binOp .neq T x y yt,t,p,af,none⟩).run P w= .ok (.value (.bool (!decide (a=b)))) w:=by
 have h1:(Op.equal T (.bool a) (.bool b)).run P w= .ok (a==b) w:=by
  unfold Op.equal;rw [show Op.maxDepth=9999+1 from rfl];unfold Op.equalIn;simp [run_underlying hT]
 simp [execOp,hx,hy,eqGuard,binOp,h1];cases a <;> cases b <;> rfl
end
section
variable {P:Program} {f:Fr} {t:Nat} {dst:Option Nat} {p:String} {af:Array Edge} {ts:Array TypeId} {g:FuncId} {x0 x1 x2 x3:Operand} {v1 v2 v3:Value} {lb:List Value} {w:World}
theorem Zok (hc:∀ args w,(callFunc g args).run P w= .ok (.enter g args) w) (h0:ev f x0= .func (.func g) #[] lb.toArray) (h1:ev f x1=v1):
  (execOp (ev f) ⟨dst,.call { callee:=.value x0,args:=#[x1],argTypes:=ts },t,p,af,none⟩).run P w= .ok (.enter g (v1 :: lb).toArray) w:=by
 subst h1;simp [execOp,resolve,h0,Deferred.ofValue,invoke,hc]
theorem Zic (hc:∀ args w,(callFunc g args).run P w= .ok (.enter g args) w) (h0:ev f x0= .func (.func g) #[] lb.toArray) (h1:ev f x1=v1) (h2:ev f x2=v2):
  (execOp (ev f) ⟨dst,.call { callee:=.value x0,args:=#[x1,x2],argTypes:=ts },t,p,af,none⟩).run P w= .ok (.enter g (v1 :: v2 :: lb).toArray) w:=by
 subst h1 h2;simp [execOp,resolve,h0,Deferred.ofValue,invoke,hc]
end

/-! ### a part of a variable,of an element that is out -/
section
variable {α:Type} {r:Za α} {e c d i:Nat} {col col':Zd} {w w':World} {a:Option Addr} {cap:Nat} {xs:List α} {cs:List Value}
theorem Ze.storeF {P:Program} {f:Fr} {T t g n off:Nat} {p:String} {af:Array Edge} {px y:Operand} {v:Value} {cs:Array Value} (h:Ze e c col w g cs)
  (hs:∀ w,(sizeOf T).run P w= .ok n w) (hn:off+n≤cs.size) (hv:v.cells.size=n) (h1:∀ u ∈ v.cells.toList,u.oneCell'=true) (hx:ev f px= .pointer (some ⟨g,off,none⟩)) (hy:ev f y=v):
  ∃ w',(execOp (ev f) ⟨none,.store T px y,t,p,af,none⟩).run P w= .ok .skip w'∧Xe c col w col w'∧Xt w w'∧Ze e c col w' g (cs.toList.take off++v.cells.toList++cs.toList.drop (off+n)).toArray:=by
 have hrun:=run_storeCells_at P g off e v.cells.toList 0 cs w h.2 (by simp [hv];omega) h1
 simp only [Nat.add_zero,Array.length_toList,hv] at hrun
 refine ⟨w.setRow g (cs.toList.take off++v.cells.toList++cs.toList.drop (off+n)).toArray,?_,⟨by simp [World.setRow],fun _ _=>rfl,fun k _ hk=>setRow_other w g k _ (fun e=>hk (by rw [e,h.1]))⟩,⟨rfl,rfl,rfl⟩,h.1,setRow_heap w g cs _ e _ h.2⟩
 simp only [execOp,hx,hy,Instr.storeAt,Instr.sureAddr,storeVar]
 simp [hs,hv,hrun]
end
section
variable {e:TypeId} {col:Zd} {w:World} {P:Program} {m:Nat} {rd:Option Nat} {f:Fr} {ops:Array Oper} {K:Fr→World→Prop} {rest:List Oper} {t:Nat} {p:String} {af:Array Edge} {x y:Operand}
theorem Xj {T g n c off:Nat} {v:Value} {cs:Array Value} (h:Ze e c col w g cs)
  (hs:∀ w,(sizeOf T).run P w= .ok n w) (hn:Nat.ble (off+n) cs.size=true) (hv:v.cells.size=n) (h1:∀ u ∈ v.cells.toList,u.oneCell'=true) (hx:ev f x= .pointer (some ⟨g,off,none⟩)) (hy:ev f y=v)
  (k:∀ w',Xe c col w col w'→Xt w w'→Ze e c col w' g (cs.toList.take off++v.cells.toList++cs.toList.drop (off+n)).toArray→Zp P m rd ops K rest f w'):
  Zp P m rd ops K (⟨none,.store T x y,t,p,af,none⟩ :: rest) f w:=by
 obtain ⟨w',hr,h1,h2,h3⟩:=Ze.storeF (t:=t) (p:=p) (af:=af) h hs (Nat.le_of_ble_eq_true hn) hv h1 hx hy
 exact lu rfl hr (k _ h1 h2 h3)
end
theorem Zt9 {α:Type} {r:Za α} {col:Zd} {w:World} {a:Option Addr} {cap:Nat} {xs:List α} (h:Sl r col w a cap xs):(Za.slice r).rd col w [.slice a xs.length cap] xs []:=⟨⟨a,cap,rfl,h⟩,rfl⟩
end Go.Proofs.YtdpdogdkolblnaaGreatDoor
