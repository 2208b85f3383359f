/-
  Rows of one's own whose lists go on behind what is shown, within rows; rows of whose elements nothing is told; readings of one's own made weaker. Over any program.
-/
import Derived.Test.YthclpfhncgpnmaaGreatJointAllBView
namespace Go.Proofs.YthclpfhncgpnmaaGreat
open Go Go.RowKit
open List renaming length_map→aH
open Go.IntKind (i8 i16 i32 i64 u8 u16 u32 u64)

section
variable {α β γ δ:Type} {r:Za α} {s:Za β} {col:Zd} {w:World} {a:Option Addr} {cap n c e:Nat} {xs:List α} {cs:List Value}

def Za.vrow (e:TypeId) (r:Za α):Za (Nat×List α):=
 ⟨1,by decide,fun col w cs x bs=>∃ a cap,cs=[.slice a (x.2.take x.1).length cap]∧X3 r e col w a cap x.2 bs,fun ⟨_,_,h,_⟩=>by rw [h];rfl,fun ⟨_,_,h,_⟩=>by rw [h];simp [Value.oneCell'],fun ⟨_,_,_,h⟩=>h.lt,
  fun ⟨a,cap,h,hs⟩ hk hh=>⟨a,cap,h,hs.keep hk hh⟩⟩
theorem Zm.vrow {s:Za α} (hf:Zm r s):Zm (Za.vrow e r) (Za.view s):=⟨rfl,fun ⟨a,cap,b,d⟩ f=>⟨⟨a,cap,b,d.sl hf f⟩,rfl⟩⟩
theorem Zb.hasV (n:Nat) (h:Zb r e c col w a cap xs):X0 (Za.vrow e r) c col w [.slice a (xs.take n).length cap] (n,xs):=by
 obtain ⟨b,d,f⟩:=h
 exact ⟨b,⟨a,cap,rfl,d⟩,f⟩
theorem Zb.hasN (h:Zb r e c col w a cap xs):X0 (Za.vrow e r) c col w [.slice a xs.length cap] (xs.length,xs):=by have:=h.hasV xs.length;rwa [List.take_length] at this
theorem Zwa:(Za.vrow e r).rd col w [.slice none 0 0] (0,[]) []:=⟨none,0,rfl,X3.nil⟩

def W9 (r:Za α) (s:Za β) (f:α→β):Prop:=s.sz=r.sz∧∀ {col w cs x bs},r.rd col w cs x bs→∃ b',List.Sublist b' bs∧s.rd col w cs (f x) b'
theorem W9.rfl:W9 r r id:=⟨Eq.refl _,fun h=>⟨_,List.Sublist.refl _,h⟩⟩
theorem W9.pair {r':Za γ} {s':Za δ} {f:α→β} {g:γ→δ} (h:W9 r s f) (k:W9 r' s' g):W9 (Za.pair r r') (Za.pair s s') (Prod.map f g):=
 ⟨by show s.sz+s'.sz=r.sz+r'.sz;rw [h.1,k.1],fun ⟨i,j,x,y,l,m,o,p⟩=>by
  obtain ⟨b,q,t⟩:=h.2 o
  obtain ⟨d,u,v⟩:=k.2 p
  exact ⟨b++d,by rw [m];exact q.append u,i,j,b,d,l,Eq.refl _,t,v⟩⟩
theorem Rows.weakO {f:α→β} (hf:W9 r s f):∀ {xs:List α} {fl:List Value} {bs:List Nat},Rows r col w fl xs bs→∃ b',List.Sublist b' bs∧Rows s col w fl (xs.map f) b'
 | [],_,_,h=>⟨[],List.nil_sublist _,h.1,Eq.refl _⟩
 | _ :: _,_,_,⟨cs,b,q,t,h,i,j,k⟩=>by
  obtain ⟨d,l,m⟩:=hf.2 j
  obtain ⟨g,o,p⟩:=Rows.weakO hf k
  exact ⟨d++g,by rw [i];exact l.append o,cs,b,d,g,h,Eq.refl _,m,p⟩
theorem X3.weakO {f:α→β} {bs:List Nat} (hf:W9 r s f) (h:X3 r e col w a cap xs bs):∃ b',List.Sublist b' bs∧X3 s e col w a cap (xs.map f) b':=by
 obtain ⟨d,l,g,i,rfl⟩:=h
 obtain ⟨b,j,k⟩:=i.weakO hf
 refine ⟨(Value.slice a xs.length cap).ownBlock.toList++b,(List.Sublist.refl _).append j,d,b,?_,k,?_⟩
 ·rw [aH,hf.1];exact g
 ·rw [aH]
theorem W9.vrow {f:α→β} (hf:W9 r s f):W9 (Za.vrow e r) (Za.row e s) (Ua f):=
 ⟨Eq.refl _,fun {_ _ _ x _} ⟨a,cap,h1,h2⟩=>by
  obtain ⟨k,b,_,d⟩:=h2.take x.1
  obtain ⟨g,i,j⟩:=d.weakO hf
  exact ⟨g,i.trans b,a,cap,by rw [Ua,aH];exact h1,j⟩⟩
theorem W9.vrow0:W9 (Za.vrow e r) (Za.row e r) Xs:=
 ⟨Eq.refl _,fun {_ _ _ x _} ⟨a,cap,h1,h2⟩=>by
  obtain ⟨b,d,_,f⟩:=h2.take x.1
  exact ⟨b,d,a,cap,h1,f⟩⟩
theorem Zb.weakO {f:α→β} (h:Zb r e c col w a cap xs) (hf:W9 r s f):Zb s e c col w a cap (xs.map f):=by
 obtain ⟨k,b,d⟩:=h
 obtain ⟨g,i,j⟩:=b.weakO hf
 exact ⟨g,j,d.sub i⟩
end
end Go.Proofs.YthclpfhncgpnmaaGreat
