/-
  Rows of one's own whose lists go on behind what is shown, within rows; rows of whose elements nothing is told; readings of one's own made weaker. Over any program.
-/
import Derived.Test.YthclpfhncgpnmaaGreatJointTableBView
namespace Go.Proofs.YthclpfhncgpnmaaGreat
open Go Go.RowKit
open List renaming nil_sublist→jA,length_map→aE
open Go.IntKind (i8 i16 i32 i64 u8 u16 u32 u64)

section
variable {α β γ δ:Type} {r:Za α} {s:Za β} {col:Zd} {w:World} {a:Option Addr} {cap n c e:Nat} {xs:List α} {cs:List Value}

def Za.any (k:Nat):Za Unit:=
 ⟨k+1,by omega,fun _ _ cs _ bs=>(cs.length=k+1∧∀ v ∈ cs,v.oneCell'=true)∧bs=[],fun h=>h.1.1,fun h=>h.1.2,fun h=>by rw [h.2];simp,fun h _ _=>h⟩
theorem NB.any {k:Nat}:NB (Za.any k):=fun h=>h.2
theorem Z9c {k:Nat} {cs:List Value} (h:cs.length=k+1) (h2:cs.all Value.oneCell'=true):(Za.any k).rd col w cs () []:=⟨⟨h,List.all_eq_true.1 h2⟩,rfl⟩

def Zem (r:Za α) (s:Za β) (f:α→β):Prop:=s.sz=r.sz∧∀ {col w cs x bs},r.rd col w cs x bs→∃ b',List.Sublist b' bs∧s.rd col w cs (f x) b'
theorem Rows.weakO {f:α→β} (hf:Zem r s f):∀ {xs:List α} {fl:List Value} {bs:List Nat},Rows r col w fl xs bs→∃ b',List.Sublist b' bs∧Rows s col w fl (xs.map f) b'
 | [],_,_,h=>⟨[],jA _,h.1,Eq.refl _⟩
 | _ :: _,_,_,⟨cs,b,q,t,h,i,j,k⟩=>by
  obtain ⟨d,l,m⟩:=hf.2 j
  obtain ⟨g,o,p⟩:=Rows.weakO hf k
  exact ⟨d++g,by rw [i];exact l.append o,cs,b,d,g,h,Eq.refl _,m,p⟩
theorem Ye.weakO {f:α→β} {bs:List Nat} (hf:Zem r s f) (h:Ye r e col w a cap xs bs):∃ b',List.Sublist b' bs∧Ye s e col w a cap (xs.map f) b':=by
 obtain ⟨d,l,g,i,rfl⟩:=h
 obtain ⟨b,j,k⟩:=i.weakO hf
 refine ⟨(Value.slice a xs.length cap).ownBlock.toList++b,(List.Sublist.refl _).append j,d,b,?_,k,?_⟩
 ·rw [aE,hf.1];exact g
 ·rw [aE]
theorem Zem.any {k:Nat} (hk:r.sz=k+1):Zem r (Za.any k) (fun _=>()):=
 ⟨hk.symm,fun h=>⟨[],jA _,⟨by rw [r.len h,hk],r.one h⟩,Eq.refl _⟩⟩
theorem Zc.weakO {f:α→β} (h:Zc r e c col w a cap xs) (hf:Zem r s f):Zc s e c col w a cap (xs.map f):=by
 obtain ⟨k,b,d⟩:=h
 obtain ⟨g,i,j⟩:=b.weakO hf
 exact ⟨g,j,d.sub i⟩
end
end Go.Proofs.YthclpfhncgpnmaaGreat
