/-
  Slices whose lists go on behind their ends, within rows: what is told is how much is shown, and the whole list. Over any program.
-/
import Derived.Test.YthclpfhncgpnmaaGreatJointTableBFloat
namespace Go.Proofs.YthclpfhncgpnmaaGreat
open Go Go.RowKit
open List renaming append_eq_nil_iff→hO,length_map→aE
open Go.IntKind (i8 i16 i32 i64 u8 u16 u32 u64)

section
variable {α β γ δ:Type} {r:Za α} {s:Za β} {col:Zd} {w:World} {a:Option Addr} {cap n c:Nat} {xs:List α} {cs:List Value}

def Za.view (r:Za α):Za (Nat×List α):=
 ⟨1,by decide,fun col w cs x bs=>(∃ a cap,cs=[.slice a (x.2.take x.1).length cap]∧Sl r col w a cap x.2)∧bs=[],fun ⟨⟨_,_,h,_⟩,_⟩=>by rw [h];rfl,fun ⟨⟨_,_,h,_⟩,_⟩=>by rw [h];simp [Value.oneCell'],fun ⟨_,h⟩=>by rw [h];simp,
  fun ⟨⟨a,cap,h,hs⟩,hb⟩ hk _=>⟨⟨a,cap,h,hs.keep hk⟩,hb⟩⟩
theorem Zh.view:Zh (Za.view r) (Za.view r):=⟨rfl,fun h _=>⟨h.1,rfl⟩⟩
theorem NB.view:NB (Za.view r):=fun h=>h.2
theorem Zzp:(Za.view r).rd col w [.slice none 0 0] (0,[]) []:=⟨⟨none,0,rfl,Sl.nil⟩,rfl⟩
theorem Zme (h:Sl r col w a cap xs):(Za.view r).rd col w [.slice a (xs.take n).length cap] (n,xs) []:=⟨⟨a,cap,rfl,h⟩,rfl⟩
theorem Zzq (h:Sl r col w a cap xs):(Za.view r).rd col w [.slice a xs.length cap] (xs.length,xs) []:=⟨⟨a,cap,by rw [List.take_length],h⟩,rfl⟩

def Z8 (x:Nat×List α):List α:=x.2.take x.1
def Vb (f:α→β) (x:Nat×List α):List β:=(x.2.take x.1).map f
def Yk (r:Za α) (s:Za β) (f:α→β):Prop:=s.sz=r.sz∧∀ {col w cs x},r.rd col w cs x []→s.rd col w cs (f x) []
theorem Yk.rfl:Yk r r id:=⟨Eq.refl _,fun h=>h⟩
theorem Yk.pair {r':Za γ} {s':Za δ} {f:α→β} {g:γ→δ} (h:Yk r s f) (k:Yk r' s' g):Yk (Za.pair r r') (Za.pair s s') (Prod.map f g):=
 ⟨by show s.sz+s'.sz=r.sz+r'.sz;rw [h.1,k.1],fun ⟨i,j,o,p,l,m,b,d⟩=>by
  have e:=hO.1 m.symm
  rw [e.1] at b;rw [e.2] at d
  exact ⟨i,j,[],[],l,Eq.refl _,h.2 b,k.2 d⟩⟩
theorem Rows.weak {f:α→β} (hf:Yk r s f):∀ {xs:List α} {fl:List Value},Rows r col w fl xs []→Rows s col w fl (xs.map f) []
 | [],_,h=>⟨h.1,Eq.refl _⟩
 | _ :: _,_,⟨cs,b,j,k,h,i,d,g⟩=>by
  have e:=hO.1 i.symm
  rw [e.1] at d;rw [e.2] at g
  exact ⟨cs,b,[],[],h,Eq.refl _,hf.2 d,Rows.weak hf g⟩
theorem Sl.weak {f:α→β} (h:Sl r col w a cap xs) (hf:Yk r s f):Sl s col w a cap (xs.map f):=by
 refine ⟨by rw [aE];exact h.1,?_⟩
 rcases h.2 with h | ⟨b,d,e,g,i,j,k⟩
 ·exact .inl (by rw [h];exact Eq.refl _)
 ·exact .inr ⟨b,d,e,g,i,j.weak hf,k⟩
theorem Yk.view {f:α→β} (hf:Yk r s f):Yk (Za.view r) (Za.slice s) (Vb f):=
 ⟨Eq.refl _,fun ⟨⟨a,cap,h,b⟩,d⟩=>⟨⟨a,cap,by rw [h,Vb,aE],(b.take _).weak hf⟩,d⟩⟩
theorem Yk.view0:Yk (Za.view r) (Za.slice r) Z8:=
 ⟨Eq.refl _,fun ⟨⟨a,cap,h,b⟩,d⟩=>⟨⟨a,cap,h,b.take _⟩,d⟩⟩
end
end Go.Proofs.YthclpfhncgpnmaaGreat
