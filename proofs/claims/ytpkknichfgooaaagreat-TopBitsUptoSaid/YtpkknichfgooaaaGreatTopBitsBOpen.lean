/-
  Data that came in: how an argument, as the statement's form reads it, is read by 'Rep'. Over any program.
-/
import Derived.Test.YtpkknichfgooaaaGreatTopBitsBRange
import Derived.ProofKit
import Derived.OpenShut
namespace Go.Proofs.YtpkknichfgooaaaGreat
open Go Go.RowKit
open List renaming getElem?_append_left→eQ,getElem?_append_right→eK,getElem?_eq_getElem→aO
open Go.IntKind (i8 i16 i32 i64 u8 u16 u32 u64)

def Wh (P:Program) (t:TypeId) {α:Type} (r:Zc α) (R:∀ {H:Type},α→DataW H→Prop):Prop:=
 ∀ {H:Type} {enc:TypeId×Value→H} {W:World} {base:Nat} {spare:Nat→Bool} {held:Bool} {fuel:Nat} {cs:List Value} {x:DataW H×List MemPlace},
  DataW.trod enc P W base spare held fuel t cs=some x→∃ y,r.rd (fun _=>0) W cs y []∧R y x.1

def RL {α:Type} (R:∀ {H:Type},α→DataW H→Prop) {H:Type} (ys:List α) (d:DataW H):Prop:=
 (ys=[]∧d= .nil)∨∃ ds sp,d= .slice ds sp∧ds.length=ys.length∧∀ (i:Nat) (y:α) (e:DataW H),ys[i]?=some y→ds[i]?=some e→R y e

section
variable {P:Program} {t e:TypeId}
theorem Wh.int {k:IntKind} (ht:P.underlying t=some (.int k)):Wh P t (Zc.int k) (fun y d=>d= .lit (.int k y)∧(Lit.int k y).wf=true):=by
 intro H enc W b a c f i x h
 obtain ⟨n,rfl,rfl,g⟩:=DataW.trod_int ht h
 exact ⟨n,⟨rfl,rfl⟩,rfl,g⟩
theorem Wh.str (ht:P.underlying t=some .string):Wh P t Zc.str (fun y d=>d= .lit (.string y.data.toList)∧y.size≤maxLen):=by
 intro H enc W b a c f i x h
 obtain ⟨s,rfl,rfl,g⟩:=DataW.trod_string ht h
 exact ⟨s,⟨rfl,rfl⟩,rfl,g⟩

theorem Xak {α:Type} {r:Zc α} {col:Zg} {w:World} {a:Addr} (n:Nat) (f:Nat→List Value→α→Prop)
  (h:∀ i,i<n→∃ cs y,r.rd col w cs y []∧f i cs y∧∀ q v,cs[q]?=some v→w.cell? (a.add (i * r.sz+q))=some v):
  ∃ fl ys,ys.length=n∧Rows r col w fl ys []∧(∀ q v,fl[q]?=some v→w.cell? (a.add q)=some v)∧∀ i y,ys[i]?=some y→∃ cs,f i cs y:=by
 induction n with
 | zero=>exact ⟨[],[],rfl,⟨rfl,rfl⟩,by simp,by simp⟩
 | succ n l=>
  obtain ⟨fl,ys,c,k,m,o⟩:=l fun i b=>h i (by omega)
  obtain ⟨cs,y,p,s,u⟩:=h n (by omega)
  have j:=k.length
  refine ⟨fl++cs,ys++[y],by simp [c],by have d:Rows r col w cs [y] []:=⟨cs,[],[],[],by simp,rfl,p,⟨rfl,rfl⟩⟩;exact k.append d,fun q v g=>?_,fun i x b=>?_⟩
  ·by_cases hlt:q<fl.length
   ·rw [eQ hlt] at g;exact m q v g
   ·rw [eK (by omega)] at g
    have:=u _ v g
    rw [j,c] at this
    rwa [show n * r.sz+(q - n * r.sz)=q by rw [j,c] at hlt;omega] at this
  ·by_cases hlt:i<ys.length
   ·rw [eQ hlt] at b;exact o i x b
   ·rw [eK (by omega)] at b
    have:i=n:=by
     rcases Nat.lt_or_ge (i - ys.length) 1 with d | d
     ·omega
     ·rw [List.getElem?_eq_none (by simpa using d)] at b;cases b
    subst this
    rw [c] at b
    simp at b;subst b
    exact ⟨cs,s⟩

theorem Wh.slice {α:Type} {r:Zc α} {R:∀ {H:Type},α→DataW H→Prop} (ht:P.underlying t=some (.slice e)) (hc:P.cellsOf e=r.sz) (he:Wh P e r R):Wh P t r.slice (RL R):=by
 intro H enc W T S U V f x h
 rcases DataW.trod_slice ht h with ⟨rfl,rfl⟩ | ⟨a,len,F,c,X,n,rfl,rfl,rfl,hb,hl,hm,m,k,_,_⟩
 ·exact ⟨[],⟨⟨none,0,rfl,.nil⟩,rfl⟩,.inl ⟨rfl,rfl⟩⟩
 ·rw [hc] at k
  obtain ⟨o,G,I,J,K,Y⟩:=Xak (r:=r) (col:=fun _=>0) (w:=W) (a:=a) len (fun i f y=>∃ p,c[i]?=some p∧R y p.1) (fun i s=>by
   have:=k i s
   have l:i<c.length:=by omega
   rw [aO l] at this
   obtain ⟨f,u,A⟩:=Option.bind_eq_some_iff.1 this
   obtain ⟨y,L,Z⟩:=he A
   refine ⟨f,y,L,⟨_,aO l,Z⟩,fun q v g=>?_⟩
   have M:=r.len L
   obtain ⟨_,k5,k6⟩:=World.cells?_some u
   have N:q<r.sz:=by rw [← M];exact (List.getElem?_eq_some_iff.1 g).1
   have B:=k6 q N
   rw [g] at B
   rw [Addr.add_add] at B
   exact B)
  refine ⟨G,⟨⟨some a,F,by rw [I],?_⟩,rfl⟩,.inr ⟨_,_,rfl,by simp [m,I],fun i y d s C=>?_⟩⟩
  ·refine ⟨⟨by omega,by omega⟩,?_⟩
   by_cases hz:G=[]
   ·exact .inl hz
   ·obtain ⟨b,O,D⟩:=a
    have E:0<o.length:=by
     have:=J.length;have h5:=List.length_pos_iff.2 hz;have:=Nat.mul_pos h5 r.pos;omega
    have Q:=K 0 o[0] (aO E)
    have j:D=none:=by simpa [Addr.add] using World.cell?_spot Q
    subst j
    exact .inr ⟨b,O,o,rfl,rfl,J,fun q v g=>by have:=K q v g;rwa [Vh] at this⟩
  ·obtain ⟨f,p,u,A⟩:=Y i y s
   rw [List.getElem?_map,u] at C
   simp at C;subst C;exact A

theorem Wh.bool (ht:P.underlying t=some .bool):Wh P t Zc.bool (fun y d=>d= .lit (.bool y)):=by
 intro H enc W f c g a i x h
 cases a with
 | zero=>simp [DataW.trod] at h
 | succ n=>
  unfold DataW.trod at h
  rw [ht] at h
  split at h
  ·rename_i b j
   cases h
   exact ⟨b,⟨rfl,rfl⟩,rfl⟩
  all_goals simp_all

def T4 (P:Program) (fs:List Field) (off:Nat) {α:Type} (r:Zc α) (R:∀ {H:Type},α→List (DataW H)→Prop):Prop:=
 ∀ {H:Type} {enc:TypeId×Value→H} {W:World} {base:Nat} {spare:Nat→Bool} {held:Bool} {n:Nat} {cs:List Value} {xs:List (DataW H×List MemPlace)},
  xs.length=fs.length→(∀ (i:Nat) (f:Field),fs[i]?=some f→DataW.trod enc P W base spare held n f.type ((cs.drop f.offset).take (P.cellsOf f.type))=xs[i]?)→
  ∃ y,r.rd (fun _=>0) W ((cs.drop off).take r.sz) y []∧R y (xs.map (·.1))

theorem T4.one {α:Type} {r:Zc α} {R:∀ {H:Type},α→DataW H→Prop} {f:Field} {off:Nat} (ho:f.offset=off) (hc:P.cellsOf f.type=r.sz) (h:Wh P f.type r R):T4 P [f] off r (fun y ds=>∃ d,ds=[d]∧R y d):=by
 intro H enc W b a c n m g i j
 match g,i with
 | [x],_=>
  have:=j 0 f rfl
  rw [ho,hc] at this
  obtain ⟨y,k,l⟩:=h this
  exact ⟨y,k,x.1,rfl,l⟩
theorem T4.cons {α β:Type} {r:Zc α} {s:Zc β} {R:∀ {H:Type},α→DataW H→Prop} {S:∀ {H:Type},β→List (DataW H)→Prop} {f:Field} {fs:List Field} {off:Nat} (ho:f.offset=off) (hc:P.cellsOf f.type=r.sz) (h:Wh P f.type r R) (k:T4 P fs (off+r.sz) s S):
  T4 P (f :: fs) off (r.pair s) (fun y ds=>∃ d rest,ds=d :: rest∧R y.1 d∧S y.2 rest):=by
 intro H enc W j c l n m xs a b
 match xs,a with
 | x :: xs,a=>
  have:=b 0 f rfl
  rw [ho,hc] at this
  obtain ⟨y,o,p⟩:=h this
  obtain ⟨z,q,u⟩:=k (xs:=xs) (by simpa using a) (fun i g v=>b (i+1) g (by simpa using v))
  refine ⟨(y,z),⟨_,_,[],[],?_,rfl,o,q⟩,x.1,_,rfl,p,u⟩
  show (m.drop off).take (r.sz+s.sz)=_
  rw [List.take_add,List.drop_drop]
theorem Wh.struct {fs:Array Field} {α:Type} {r:Zc α} {R:∀ {H:Type},α→List (DataW H)→Prop} (ht:P.underlying t=some (.struct fs)) (hc:P.cellsOf t=r.sz) (h:T4 P fs.toList 0 r R):Wh P t r (fun y d=>∃ ds,d= .agg ds∧R y ds):=by
 intro H enc W c b g j q x k
 obtain ⟨xs,n,rfl,rfl,s,l,m⟩:=DataW.trod_struct ht k
 obtain ⟨y,a,o⟩:=h (xs:=xs) (by simpa using l) (fun i f p=>m i f (by simpa using p))
 rw [List.drop_zero,List.take_of_length_le (by omega)] at a
 exact ⟨y,a,_,rfl,o⟩
end
end Go.Proofs.YtpkknichfgooaaaGreat
