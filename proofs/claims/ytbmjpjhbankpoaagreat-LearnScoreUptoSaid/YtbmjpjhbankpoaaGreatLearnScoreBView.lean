/-
  Slices whose lists go on behind their ends, within rows: what is told is how much is shown, and the whole list. Over any program.
-/
import Derived.Test.YtbmjpjhbankpoaaGreatLearnScoreBFloat
namespace Go.Proofs.YtbmjpjhbankpoaaGreat
open Go Go.RowKit
open Go.IntKind (i8 i16 i32 i64 u8 u16 u32 u64)

section
variable {α β γ δ:Type} {r:Za α} {s:Za β} {col:Ze} {w:World} {a:Option Addr} {cap n c:Nat} {xs:List α} {cs:List Value}

def Za.view (r:Za α):Za (Nat×List α):=
 ⟨1,by decide,fun col w cs x bs=>(∃ a cap,cs=[.slice a (x.2.take x.1).length cap]∧Sl r col w a cap x.2)∧bs=[],fun ⟨⟨_,_,h,_⟩,_⟩=>by rw [h];rfl,fun ⟨⟨_,_,h,_⟩,_⟩=>by rw [h];simp [Value.oneCell'],fun ⟨_,h⟩=>by rw [h];simp,
  fun ⟨⟨a,cap,h,hs⟩,hb⟩ hk _=>⟨⟨a,cap,h,hs.keep hk⟩,hb⟩⟩
def Uw (x:Nat×List α):List α:=x.2.take x.1
def vwm (f:α→β) (x:Nat×List α):List β:=(x.2.take x.1).map f
def Q4 (r:Za α) (s:Za β) (f:α→β):Prop:=s.sz=r.sz∧∀ {col w cs x},r.rd col w cs x []→s.rd col w cs (f x) []
theorem Rows.weak {f:α→β} (hf:Q4 r s f):∀ {xs:List α} {fl:List Value},Rows r col w fl xs []→Rows s col w fl (xs.map f) []
 | [],_,h=>⟨h.1,Eq.refl _⟩
 | _ :: _,_,⟨cs,fl',b1,b2,h,hb,h1,h2⟩=>by
  have e:=List.append_eq_nil_iff.1 hb.symm
  rw [e.1] at h1;rw [e.2] at h2
  exact ⟨cs,fl',[],[],h,Eq.refl _,hf.2 h1,Rows.weak hf h2⟩
theorem Sl.weak {f:α→β} (h:Sl r col w a cap xs) (hf:Q4 r s f):Sl s col w a cap (xs.map f):=by
 refine ⟨by rw [List.length_map];exact h.1,?_⟩
 rcases h.2 with h | ⟨b,off,fl,ha,hb,hr,hx⟩
 ·exact .inl (by rw [h];exact Eq.refl _)
 ·exact .inr ⟨b,off,fl,ha,hb,hr.weak hf,hx⟩
theorem Q4.view {f:α→β} (hf:Q4 r s f):Q4 (Za.view r) (Za.slice s) (vwm f):=
 ⟨Eq.refl _,fun ⟨⟨a,cap,h,hs⟩,hb⟩=>⟨⟨a,cap,by rw [h,vwm,List.length_map],(hs.take _).weak hf⟩,hb⟩⟩
theorem Q4.view0:Q4 (Za.view r) (Za.slice r) Uw:=
 ⟨Eq.refl _,fun ⟨⟨a,cap,h,hs⟩,hb⟩=>⟨⟨a,cap,h,hs.take _⟩,hb⟩⟩
end
end Go.Proofs.YtbmjpjhbankpoaaGreat
