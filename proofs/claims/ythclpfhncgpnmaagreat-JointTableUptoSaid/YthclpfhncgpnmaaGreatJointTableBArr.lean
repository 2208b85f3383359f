/-
  Elements of arrays that lie in boxes; a loop that is gone through round by round. Over any program.
-/
import Derived.Test.YthclpfhncgpnmaaGreatJointTableBFloat
namespace Go.Proofs.YthclpfhncgpnmaaGreat
open Go Go.RowKit
open Go.IntKind (i8 i16 i32 i64 u8 u16 u32 u64)

section
variable {P:Program} {f:Fr} {w:World} {dst:Option Tmp} {t:Nat} {p:String} {af:Array Edge} {g:Option (Nat×Bool)} {x y:Operand} {xt yt:TypeId} {i:IntKind} (a b:Int)
theorem Zzd (hx:ev f x= .int i a) (hy:ev f y= .int i b):
  (execOp (ev f) ⟨dst,.binOp .xor xt x y yt,t,p,af,g⟩).run P w= .ok (.value ((.int i (U8 i a b)))) w:=by simp [execOp,hx,hy,eqGuard,binOp,Op.intBits,U8]
end
end Go.Proofs.YthclpfhncgpnmaaGreat
