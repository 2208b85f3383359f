/-
  Elements of arrays that lie in boxes; a loop that is gone through round by round. Over any program.
-/
import Derived.Test.YtdpdogdkolblnaaGreatDoorQueryAskBFloat
namespace Go.Proofs.YtdpdogdkolblnaaGreatDoor
open Go Go.RowKit
open Go.IntKind (i8 i16 i32 i64 u8 u16 u32 u64)

section
variable {P:Program} {m:Nat} {rd:Option Nat} {c:Code} {N R:Fr→World→Prop} {E:Nat→Fr→World→Prop} {f:Fr} {w:World}
def Zfs (P:Program) (m:Nat) (rd:Option Nat) (c:Code) (R:Fr→World→Prop) (E:Nat→Fr→World→Prop):Nat→Fr→World→Prop
 | 0,_,_=>False
 | k+1,f,w=>Wp P m rd c (fun f w=>Zfs P m rd c R E k f w) R E f w
theorem Z3w (k:Nat) (h:Zfs P m rd c R E k f w):Wp P m rd (.loop c) N R E f w:=
 Zlz (fun n f w=>Zfs P m rd c R E n f w) k h fun n f w hI=>by
  cases n with
  | zero=>exact hI.elim
  | succ n=>exact Wp.mono hI (fun f w h=>⟨n,Nat.lt_succ_self n,h⟩) (fun _ _ h=>h) (fun _ _ _ h=>h)
theorem Zpc {k:Nat} (h:Wp P m rd c (fun f w=>Zfs P m rd c R E k f w) R E f w):Zfs P m rd c R E (k+1) f w:=h
end
section
variable {P:Program} {f:Fr} {w:World} {t:Nat} {dst:Option Nat} {p:String} {af:Array Edge} {gd:Option (Nat×Bool)} {x y:Operand}
theorem Zba {xt e:TypeId} {len:Nat} {i:IntKind} {j:Int} {a:Option Addr} {sz:Nat} (ht:P.underlying xt=some (.array len e)) (hs:∀ w,(sizeOf e).run P w= .ok sz w) (hx:ev f x= .pointer a) (hy:ev f y= .int i j)
  (h0:0≤j) (hn:j<(len:Int)) (ha:∃ b o,a=some ⟨b,o,none⟩):(execOp (ev f) ⟨dst,.indexAddr xt x y,t,p,af,gd⟩).run P w= .ok (.value (.pointer (a.map (·.add (j.toNat * sz))))) w:=by
 obtain ⟨b,o,rfl⟩:=ha
 simp [execOp,hx,hy,Instr.indexAt,asIntOf,run_underlying ht,h0,hn,hs,Instr.sureAddr]
end
end Go.Proofs.YtdpdogdkolblnaaGreatDoor
