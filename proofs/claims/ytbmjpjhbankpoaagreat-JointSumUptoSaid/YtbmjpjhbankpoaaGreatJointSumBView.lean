/-
  Slices whose lists go on behind their ends, within rows: what is told is how much is shown, and the whole list. Over any program.
-/
import Derived.Test.YtbmjpjhbankpoaaGreatJointSumBFloat
namespace Go.Proofs.YtbmjpjhbankpoaaGreat
open Go Go.RowKit
open Go.IntKind (i8 i16 i32 i64 u8 u16 u32 u64)

section
variable {α β γ δ:Type} {r:Za α} {s:Za β} {col:Zd} {w:World} {a:Option Addr} {cap n c:Nat} {xs:List α} {cs:List Value}

def Za.view (r:Za α):Za (Nat×List α):=
 ⟨1,by decide,fun col w cs x bs=>(∃ a cap,cs=[.slice a (x.2.take x.1).length cap]∧Sl r col w a cap x.2)∧bs=[],fun ⟨⟨_,_,h,_⟩,_⟩=>by rw [h];rfl,fun ⟨⟨_,_,h,_⟩,_⟩=>by rw [h];simp [Value.oneCell'],fun ⟨_,h⟩=>by rw [h];simp,
  fun ⟨⟨a,cap,h,hs⟩,hb⟩ hk _=>⟨⟨a,cap,h,hs.keep hk⟩,hb⟩⟩
theorem Zn.view:Zn (Za.view r) (Za.view r):=⟨rfl,fun h _=>⟨h.1,rfl⟩⟩
theorem NB.view:NB (Za.view r):=fun h=>h.2
theorem Zxg:(Za.view r).rd col w [.slice none 0 0] (0,[]) []:=⟨⟨none,0,rfl,Sl.nil⟩,rfl⟩
theorem Zk0 (h:Sl r col w a cap xs):(Za.view r).rd col w [.slice a (xs.take n).length cap] (n,xs) []:=⟨⟨a,cap,rfl,h⟩,rfl⟩
theorem Zxh (h:Sl r col w a cap xs):(Za.view r).rd col w [.slice a xs.length cap] (xs.length,xs) []:=⟨⟨a,cap,by rw [List.take_length],h⟩,rfl⟩

def X3 (x:Nat×List α):List α:=x.2.take x.1
def U2 (f:α→β) (x:Nat×List α):List β:=(x.2.take x.1).map f
def Wn (r:Za α) (s:Za β) (f:α→β):Prop:=s.sz=r.sz∧∀ {col w cs x},r.rd col w cs x []→s.rd col w cs (f x) []
theorem Wn.rfl:Wn r r id:=⟨Eq.refl _,fun h=>h⟩
theorem Wn.pair {r':Za γ} {s':Za δ} {f:α→β} {g:γ→δ} (h:Wn r s f) (k:Wn r' s' g):Wn (Za.pair r r') (Za.pair s s') (Prod.map f g):=
 ⟨by show s.sz+s'.sz=r.sz+r'.sz;rw [h.1,k.1],fun ⟨c1,c2,b1,b2,h1,hb,h2,h3⟩=>by
  have e:=List.append_eq_nil_iff.1 hb.symm
  rw [e.1] at h2;rw [e.2] at h3
  exact ⟨c1,c2,[],[],h1,Eq.refl _,h.2 h2,k.2 h3⟩⟩
theorem Rows.weak {f:α→β} (hf:Wn r s f):∀ {xs:List α} {fl:List Value},Rows r col w fl xs []→Rows s col w fl (xs.map f) []
 | [],_,h=>⟨h.1,Eq.refl _⟩
 | _ :: _,_,⟨cs,fl',b1,b2,h,hb,h1,h2⟩=>by
  have e:=List.append_eq_nil_iff.1 hb.symm
  rw [e.1] at h1;rw [e.2] at h2
  exact ⟨cs,fl',[],[],h,Eq.refl _,hf.2 h1,Rows.weak hf h2⟩
theorem Sl.weak {f:α→β} (h:Sl r col w a cap xs) (hf:Wn r s f):Sl s col w a cap (xs.map f):=by
 refine ⟨by rw [List.length_map];exact h.1,?_⟩
 rcases h.2 with h | ⟨b,off,fl,ha,hb,hr,hx⟩
 ·exact .inl (by rw [h];exact Eq.refl _)
 ·exact .inr ⟨b,off,fl,ha,hb,hr.weak hf,hx⟩
theorem Wn.view {f:α→β} (hf:Wn r s f):Wn (Za.view r) (Za.slice s) (U2 f):=
 ⟨Eq.refl _,fun ⟨⟨a,cap,h,hs⟩,hb⟩=>⟨⟨a,cap,by rw [h,U2,List.length_map],(hs.take _).weak hf⟩,hb⟩⟩
theorem Wn.view0:Wn (Za.view r) (Za.slice r) X3:=
 ⟨Eq.refl _,fun ⟨⟨a,cap,h,hs⟩,hb⟩=>⟨⟨a,cap,h,hs.take _⟩,hb⟩⟩
end
end Go.Proofs.YtbmjpjhbankpoaaGreat
