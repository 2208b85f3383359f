/-
  Rows of one's own whose lists go on behind what is shown, within rows; rows of whose elements nothing is told; readings of one's own made weaker. Over any program.
-/
import Derived.Test.YtbmjpjhbankpoaaGreatLearnScoreBView
namespace Go.Proofs.YtbmjpjhbankpoaaGreat
open Go Go.RowKit
open Go.IntKind (i8 i16 i32 i64 u8 u16 u32 u64)

section
variable {α β γ δ:Type} {r:Za α} {s:Za β} {col:Ze} {w:World} {a:Option Addr} {cap n c e:Nat} {xs:List α} {cs:List Value}

def Za.vrow (e:TypeId) (r:Za α):Za (Nat×List α):=
 ⟨1,by decide,fun col w cs x bs=>∃ a cap,cs=[.slice a (x.2.take x.1).length cap]∧Xx r e col w a cap x.2 bs,fun ⟨_,_,h,_⟩=>by rw [h];rfl,fun ⟨_,_,h,_⟩=>by rw [h];simp [Value.oneCell'],fun ⟨_,_,_,h⟩=>h.lt,
  fun ⟨a,cap,h,hs⟩ hk hh=>⟨a,cap,h,hs.keep hk hh⟩⟩
theorem Zj.vrow {s:Za α} (hf:Zj r s):Zj (Za.vrow e r) (Za.view s):=⟨rfl,fun ⟨a,cap,h1,h2⟩ h0=>⟨⟨a,cap,h1,h2.sl hf h0⟩,rfl⟩⟩
theorem Zc.hasV (n:Nat) (h:Zc r e c col w a cap xs):Wj (Za.vrow e r) c col w [.slice a (xs.take n).length cap] (n,xs):=by
 obtain ⟨bs,h1,h2⟩:=h
 exact ⟨bs,⟨a,cap,rfl,h1⟩,h2⟩
def Zet (r:Za α) (s:Za β) (f:α→β):Prop:=s.sz=r.sz∧∀ {col w cs x bs},r.rd col w cs x bs→∃ b',List.Sublist b' bs∧s.rd col w cs (f x) b'
theorem Rows.weakO {f:α→β} (hf:Zet r s f):∀ {xs:List α} {fl:List Value} {bs:List Nat},Rows r col w fl xs bs→∃ b',List.Sublist b' bs∧Rows s col w fl (xs.map f) b'
 | [],_,_,h=>⟨[],List.nil_sublist _,h.1,Eq.refl _⟩
 | _ :: _,_,_,⟨cs,fl',b1,b2,h,hb,h1,h2⟩=>by
  obtain ⟨d1,e1,f1⟩:=hf.2 h1
  obtain ⟨d2,e2,f2⟩:=Rows.weakO hf h2
  exact ⟨d1++d2,by rw [hb];exact e1.append e2,cs,fl',d1,d2,h,Eq.refl _,f1,f2⟩
theorem Xx.weakO {f:α→β} {bs:List Nat} (hf:Zet r s f) (h:Xx r e col w a cap xs bs):∃ b',List.Sublist b' bs∧Xx s e col w a cap (xs.map f) b':=by
 obtain ⟨fl,b2,h1,h2,rfl⟩:=h
 obtain ⟨d2,e2,f2⟩:=h2.weakO hf
 refine ⟨(Value.slice a xs.length cap).ownBlock.toList++d2,(List.Sublist.refl _).append e2,fl,d2,?_,f2,?_⟩
 ·rw [List.length_map,hf.1];exact h1
 ·rw [List.length_map]
theorem Zet.vrow0:Zet (Za.vrow e r) (Za.row e r) Uw:=
 ⟨Eq.refl _,fun {_ _ _ x _} ⟨a,cap,h1,h2⟩=>by
  obtain ⟨b1,e1,_,f1⟩:=h2.take x.1
  exact ⟨b1,e1,a,cap,h1,f1⟩⟩
theorem Zc.weakO {f:α→β} (h:Zc r e c col w a cap xs) (hf:Zet r s f):Zc s e c col w a cap (xs.map f):=by
 obtain ⟨bs,h1,h2⟩:=h
 obtain ⟨b',e1,f1⟩:=h1.weakO hf
 exact ⟨b',f1,h2.sub e1⟩
end
end Go.Proofs.YtbmjpjhbankpoaaGreat
