/-
  Some colours turn to others at once. Over any program.
-/
import Derived.Test.YthclpfhncgpnmaaGreatJointAllBMore
namespace Go.Proofs.YthclpfhncgpnmaaGreat
open Go Go.RowKit
open Go.IntKind (i8 i16 i32 i64 u8 u16 u32 u64)

def Zc8:List (Nat×Nat)→Nat→Nat
 | [],c=>c
 | x :: l,c=>bif Nat.beq c x.1 then x.2 else Zc8 l c
def rcL (l:List (Nat×Nat)) (col:Zd):Zd:=fun k=>Zc8 l (col k)

section
variable {α:Type} {r:Za α} {e c:Nat} {col:Zd} {w:World} {xs:List α} {a:Option Addr} {cap:Nat}
theorem Zv5:∀ (l:List (Nat×Nat)) (c:Nat),pS (l.map (·.1)) c=false→Zc8 l c=c
 | [],_,_=>rfl
 | x :: l,c,h=>by
  simp only [List.map_cons,pS,List.any_cons,Bool.or_eq_false_iff] at h
  have:=Zv5 l c h.2
  unfold Zc8
  have b:Nat.beq c x.1=false:=h.1
  rw [b];exact this
theorem Z1.rcL (l:List (Nat×Nat)):Z1 (pS (l.map (·.1))) col w (rcL l col) w:=
 ⟨Nat.le_refl _,fun _ _ b=>Zv5 l _ b,fun _ _ _=>rfl,⟨rfl,rfl,rfl⟩⟩
theorem Zb.rcL (l:List (Nat×Nat)) (d:Nat) (h:Zb r e c col w a cap xs) (hl:Zc8 l c=d:=by exact rfl) (h0:Zc8 l 0=0:=by exact rfl):Zb r e d (rcL l col) w a cap xs:=by
 obtain ⟨g,i,f⟩:=h
 exact ⟨g,i.keep (fun k _ j=>⟨by show Zc8 l (col k)=0;rw [j];exact h0,rfl⟩) fun _ _=>rfl,f.1,fun b m=>by show Zc8 l (col b)=d;rw [f.2 b m];exact hl⟩
end
end Go.Proofs.YthclpfhncgpnmaaGreat
