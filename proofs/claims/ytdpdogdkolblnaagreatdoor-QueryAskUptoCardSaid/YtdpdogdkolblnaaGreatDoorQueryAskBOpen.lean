/-
  Data that came in: how an argument, as the statement's form reads it, is read by 'Rep'. Over any program.
-/
import Derived.Test.YtdpdogdkolblnaaGreatDoorQueryAskBRange
import Derived.ProofKit
import Derived.OpenShut
namespace Go.Proofs.YtdpdogdkolblnaaGreatDoor
open Go Go.RowKit
open Go.IntKind (i8 i16 i32 i64 u8 u16 u32 u64)

def Xy (P:Program) (t:TypeId) {α:Type} (r:Za α) (R:∀ {H:Type},α→DataW H→Prop):Prop:=
 ∀ {H:Type} {enc:TypeId×Value→H} {W:World} {base:Nat} {spare:Nat→Bool} {held:Bool} {fuel:Nat} {cs:List Value} {x:DataW H×List MemPlace},
  DataW.trod enc P W base spare held fuel t cs=some x→∃ y,r.rd (fun _=>0) W cs y []∧R y x.1

def RL {α:Type} (R:∀ {H:Type},α→DataW H→Prop) {H:Type} (ys:List α) (d:DataW H):Prop:=
 (ys=[]∧d= .nil)∨∃ ds sp,d= .slice ds sp∧ds.length=ys.length∧∀ (i:Nat) (y:α) (e:DataW H),ys[i]?=some y→ds[i]?=some e→R y e

section
variable {P:Program} {t e:TypeId}
theorem Xy.int {k:IntKind} (ht:P.underlying t=some (.int k)):Xy P t (Za.int k) (fun y d=>d= .lit (.int k y)∧(Lit.int k y).wf=true):=by
 intro H enc W base spare held fuel cs x h
 obtain ⟨n,rfl,rfl,hw⟩:=DataW.trod_int ht h
 exact ⟨n,⟨rfl,rfl⟩,rfl,hw⟩
theorem Xy.str (ht:P.underlying t=some .string):Xy P t Za.str (fun y d=>d= .lit (.string y.data.toList)∧y.size≤maxLen):=by
 intro H enc W base spare held fuel cs x h
 obtain ⟨s,rfl,rfl,hw⟩:=DataW.trod_string ht h
 exact ⟨s,⟨rfl,rfl⟩,rfl,hw⟩

theorem Z3f {α:Type} {r:Za α} {col:Zd} {w:World} {a:Addr} (n:Nat) (f:Nat→List Value→α→Prop)
  (h:∀ i,i<n→∃ cs y,r.rd col w cs y []∧f i cs y∧∀ q v,cs[q]?=some v→w.cell? (a.add (i * r.sz+q))=some v):
  ∃ fl ys,ys.length=n∧Rows r col w fl ys []∧(∀ q v,fl[q]?=some v→w.cell? (a.add q)=some v)∧∀ i y,ys[i]?=some y→∃ cs,f i cs y:=by
 induction n with
 | zero=>exact ⟨[],[],rfl,⟨rfl,rfl⟩,by simp,by simp⟩
 | succ n ih=>
  obtain ⟨fl,ys,h1,h2,h3,h4⟩:=ih fun i hi=>h i (by omega)
  obtain ⟨cs,y,k1,k2,k3⟩:=h n (by omega)
  have hfl:=h2.length
  refine ⟨fl++cs,ys++[y],by simp [h1],by have h5:Rows r col w cs [y] []:=⟨cs,[],[],[],by simp,rfl,k1,⟨rfl,rfl⟩⟩;exact h2.append h5,fun q v hq=>?_,fun i y' hi=>?_⟩
  ·by_cases hlt:q<fl.length
   ·rw [List.getElem?_append_left hlt] at hq;exact h3 q v hq
   ·rw [List.getElem?_append_right (by omega)] at hq
    have:=k3 _ v hq
    rw [hfl,h1] at this
    rwa [show n * r.sz+(q - n * r.sz)=q by rw [hfl,h1] at hlt;omega] at this
  ·by_cases hlt:i<ys.length
   ·rw [List.getElem?_append_left hlt] at hi;exact h4 i y' hi
   ·rw [List.getElem?_append_right (by omega)] at hi
    have:i=n:=by
     rcases Nat.lt_or_ge (i - ys.length) 1 with h5 | h5
     ·omega
     ·rw [List.getElem?_eq_none (by simpa using h5)] at hi;cases hi
    subst this
    rw [h1] at hi
    simp at hi;subst hi
    exact ⟨cs,k2⟩

theorem Xy.slice {α:Type} {r:Za α} {R:∀ {H:Type},α→DataW H→Prop} (ht:P.underlying t=some (.slice e)) (hc:P.cellsOf e=r.sz) (he:Xy P e r R):Xy P t r.slice (RL R):=by
 intro H enc W base spare held fuel cs x h
 rcases DataW.trod_slice ht h with ⟨rfl,rfl⟩ | ⟨a,len,cap,elems,rest,n,rfl,rfl,rfl,hb,hl,hm,hlen,hel,_,_⟩
 ·exact ⟨[],⟨⟨none,0,rfl,.nil⟩,rfl⟩,.inl ⟨rfl,rfl⟩⟩
 ·rw [hc] at hel
  obtain ⟨fl,ys,h1,h2,h3,h4⟩:=Z3f (r:=r) (col:=fun _=>0) (w:=W) (a:=a) len (fun i cs y=>∃ el,elems[i]?=some el∧R y el.1) (fun i hi=>by
   have:=hel i hi
   have hlt:i<elems.length:=by omega
   rw [List.getElem?_eq_getElem hlt] at this
   obtain ⟨cs,k1,k2⟩:=Option.bind_eq_some_iff.1 this
   obtain ⟨y,k3,k4⟩:=he k2
   refine ⟨cs,y,k3,⟨_,List.getElem?_eq_getElem hlt,k4⟩,fun q v hq=>?_⟩
   have hsz:=r.len k3
   obtain ⟨_,k5,k6⟩:=World.cells?_some k1
   have hq':q<r.sz:=by rw [← hsz];exact (List.getElem?_eq_some_iff.1 hq).1
   have k7:=k6 q hq'
   rw [hq] at k7
   rw [Addr.add_add] at k7
   exact k7)
  refine ⟨ys,⟨⟨some a,cap,by rw [h1],?_⟩,rfl⟩,.inr ⟨_,_,rfl,by simp [hlen,h1],fun i y d hi hd=>?_⟩⟩
  ·refine ⟨⟨by omega,by omega⟩,?_⟩
   by_cases hz:ys=[]
   ·exact .inl hz
   ·obtain ⟨b,off,spot⟩:=a
    have hpos:0<fl.length:=by
     have:=h2.length;have h5:=List.length_pos_iff.2 hz;have:=Nat.mul_pos h5 r.pos;omega
    have hc0:=h3 0 fl[0] (List.getElem?_eq_getElem hpos)
    have hspot:spot=none:=by simpa [Addr.add] using World.cell?_spot hc0
    subst hspot
    exact .inr ⟨b,off,fl,rfl,rfl,h2,fun q v hq=>by have:=h3 q v hq;rwa [Vc] at this⟩
  ·obtain ⟨cs,el,k1,k2⟩:=h4 i y hi
   rw [List.getElem?_map,k1] at hd
   simp at hd;subst hd;exact k2

theorem Xy.bool (ht:P.underlying t=some .bool):Xy P t Za.bool (fun y d=>d= .lit (.bool y)):=by
 intro H enc W base spare held fuel cs x h
 cases fuel with
 | zero=>simp [DataW.trod] at h
 | succ n=>
  unfold DataW.trod at h
  rw [ht] at h
  split at h
  ·rename_i b h2
   cases h
   exact ⟨b,⟨rfl,rfl⟩,rfl⟩
  all_goals simp_all

def Ws (P:Program) (fs:List Field) (off:Nat) {α:Type} (r:Za α) (R:∀ {H:Type},α→List (DataW H)→Prop):Prop:=
 ∀ {H:Type} {enc:TypeId×Value→H} {W:World} {base:Nat} {spare:Nat→Bool} {held:Bool} {n:Nat} {cs:List Value} {xs:List (DataW H×List MemPlace)},
  xs.length=fs.length→(∀ (i:Nat) (f:Field),fs[i]?=some f→DataW.trod enc P W base spare held n f.type ((cs.drop f.offset).take (P.cellsOf f.type))=xs[i]?)→
  ∃ y,r.rd (fun _=>0) W ((cs.drop off).take r.sz) y []∧R y (xs.map (·.1))

theorem Ws.one {α:Type} {r:Za α} {R:∀ {H:Type},α→DataW H→Prop} {f:Field} {off:Nat} (ho:f.offset=off) (hc:P.cellsOf f.type=r.sz) (h:Xy P f.type r R):Ws P [f] off r (fun y ds=>∃ d,ds=[d]∧R y d):=by
 intro H enc W base spare held n cs xs hl hx
 match xs,hl with
 | [x],_=>
  have:=hx 0 f rfl
  rw [ho,hc] at this
  obtain ⟨y,h1,h2⟩:=h this
  exact ⟨y,h1,x.1,rfl,h2⟩
theorem Ws.cons {α β:Type} {r:Za α} {s:Za β} {R:∀ {H:Type},α→DataW H→Prop} {S:∀ {H:Type},β→List (DataW H)→Prop} {f:Field} {fs:List Field} {off:Nat} (ho:f.offset=off) (hc:P.cellsOf f.type=r.sz) (h:Xy P f.type r R) (k:Ws P fs (off+r.sz) s S):
  Ws P (f :: fs) off (r.pair s) (fun y ds=>∃ d rest,ds=d :: rest∧R y.1 d∧S y.2 rest):=by
 intro H enc W base spare held n cs xs hl hx
 match xs,hl with
 | x :: xs,hl=>
  have:=hx 0 f rfl
  rw [ho,hc] at this
  obtain ⟨y,h1,h2⟩:=h this
  obtain ⟨z,k1,k2⟩:=k (xs:=xs) (by simpa using hl) (fun i g hg=>hx (i+1) g (by simpa using hg))
  refine ⟨(y,z),⟨_,_,[],[],?_,rfl,h1,k1⟩,x.1,_,rfl,h2,k2⟩
  show (cs.drop off).take (r.sz+s.sz)=_
  rw [List.take_add,List.drop_drop]
theorem Xy.struct {fs:Array Field} {α:Type} {r:Za α} {R:∀ {H:Type},α→List (DataW H)→Prop} (ht:P.underlying t=some (.struct fs)) (hc:P.cellsOf t=r.sz) (h:Ws P fs.toList 0 r R):Xy P t r (fun y d=>∃ ds,d= .agg ds∧R y ds):=by
 intro H enc W base spare held fuel cs x hx
 obtain ⟨xs,n,rfl,rfl,h1,h2,h3⟩:=DataW.trod_struct ht hx
 obtain ⟨y,k1,k2⟩:=h (xs:=xs) (by simpa using h2) (fun i f hf=>h3 i f (by simpa using hf))
 rw [List.drop_zero,List.take_of_length_le (by omega)] at k1
 exact ⟨y,k1,_,rfl,k2⟩
theorem Xy.array2 {α:Type} {r:Za α} {R:∀ {H:Type},α→DataW H→Prop} (ht:P.underlying t=some (.array 2 e)) (hc:P.cellsOf e=r.sz) (hz:P.cellsOf t=r.sz+r.sz) (h:Xy P e r R):
  Xy P t (r.pair r) (fun y d=>∃ ds,d= .agg ds∧∃ d1 d2,ds=[d1,d2]∧R y.1 d1∧R y.2 d2):=by
 intro H enc W base spare held fuel cs x hx
 obtain ⟨xs,n,rfl,rfl,h1,h2,h3⟩:=DataW.trod_array ht hx
 match xs,h2 with
 | [x,z],_=>
  have k0:=h3 0 (by omega)
  have k1:=h3 1 (by omega)
  rw [hc] at k0 k1
  obtain ⟨y0,l0,m0⟩:=h k0
  obtain ⟨y1,l1,m1⟩:=h k1
  rw [hz] at h1
  refine ⟨(y0,y1),⟨_,_,[],[],?_,rfl,l0,l1⟩,_,rfl,x.1,z.1,rfl,m0,m1⟩
  rw [Nat.zero_mul,List.drop_zero,Nat.one_mul,List.take_of_length_le (i:=r.sz) (l:=cs.drop r.sz) (by rw [List.length_drop];omega),List.take_append_drop]
end
end Go.Proofs.YtdpdogdkolblnaaGreatDoor
