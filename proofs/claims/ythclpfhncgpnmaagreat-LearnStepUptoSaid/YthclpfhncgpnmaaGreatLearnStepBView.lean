/-
  Slices whose lists go on behind their ends, within rows: what is told is how much is shown, and the whole list. Over any program.
-/
import Derived.Test.YthclpfhncgpnmaaGreatLearnStepBFloat
namespace Go.Proofs.YthclpfhncgpnmaaGreat
open Go Go.RowKit
open List renaming length_map→aH
open Go.IntKind (i8 i16 i32 i64 u8 u16 u32 u64)

section
variable {α β γ δ:Type} {r:Za α} {s:Za β} {col:Ze} {w:World} {a:Option Addr} {cap n c:Nat} {xs:List α} {cs:List Value}

def Za.view (r:Za α):Za (Nat×List α):=
 ⟨1,by decide,fun col w cs x bs=>(∃ a cap,cs=[.slice a (x.2.take x.1).length cap]∧Sl r col w a cap x.2)∧bs=[],fun ⟨⟨_,_,h,_⟩,_⟩=>by rw [h];rfl,fun ⟨⟨_,_,h,_⟩,_⟩=>by rw [h];simp [Value.oneCell'],fun ⟨_,h⟩=>by rw [h];simp,
  fun ⟨⟨a,cap,h,hs⟩,hb⟩ hk _=>⟨⟨a,cap,h,hs.keep hk⟩,hb⟩⟩
def Zdx (x:Nat×List α):List α:=x.2.take x.1
def vwm (f:α→β) (x:Nat×List α):List β:=(x.2.take x.1).map f
def Zce (r:Za α) (s:Za β) (f:α→β):Prop:=s.sz=r.sz∧∀ {col w cs x},r.rd col w cs x []→s.rd col w cs (f x) []
theorem Rows.weak {f:α→β} (hf:Zce r s f):∀ {xs:List α} {fl:List Value},Rows r col w fl xs []→Rows s col w fl (xs.map f) []
 | [],_,h=>⟨h.1,Eq.refl _⟩
 | _ :: _,_,⟨cs,b,j,k,h,i,d,g⟩=>by
  have e:=List.append_eq_nil_iff.1 i.symm
  rw [e.1] at d;rw [e.2] at g
  exact ⟨cs,b,[],[],h,Eq.refl _,hf.2 d,Rows.weak hf g⟩
theorem Sl.weak {f:α→β} (h:Sl r col w a cap xs) (hf:Zce r s f):Sl s col w a cap (xs.map f):=by
 refine ⟨by rw [aH];exact h.1,?_⟩
 rcases h.2 with h | ⟨b,d,e,g,i,j,k⟩
 ·exact .inl (by rw [h];exact Eq.refl _)
 ·exact .inr ⟨b,d,e,g,i,j.weak hf,k⟩
theorem Zce.view {f:α→β} (hf:Zce r s f):Zce (Za.view r) (Za.slice s) (vwm f):=
 ⟨Eq.refl _,fun ⟨⟨a,cap,h,b⟩,d⟩=>⟨⟨a,cap,by rw [h,vwm,aH],(b.take _).weak hf⟩,d⟩⟩
theorem Zce.view0:Zce (Za.view r) (Za.slice r) Zdx:=
 ⟨Eq.refl _,fun ⟨⟨a,cap,h,b⟩,d⟩=>⟨⟨a,cap,h,b.take _⟩,d⟩⟩
end
end Go.Proofs.YthclpfhncgpnmaaGreat
