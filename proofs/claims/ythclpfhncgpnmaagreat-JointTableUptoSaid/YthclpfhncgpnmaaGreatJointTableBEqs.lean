/-
  Structs and arrays of two parts, compared; the length of a map. Over any program.
-/
import Derived.Test.YthclpfhncgpnmaaGreatJointTableBFloat
namespace Go.Proofs.YthclpfhncgpnmaaGreat
open Go Go.RowKit
open Go.IntKind (i8 i16 i32 i64 u8 u16 u32 u64)

variable {P:Program} {f:Fr} {T t:Nat} {dst:Option Nat} {p:String} {af:Array Edge} {w:World} {x y:Operand} {xs ys:Array Value}

def PEq (P:Program) (T:TypeId) (x y:Value) (b:Bool):Prop:=∀ d w,(Op.equalIn (d+1) T x y).run P w= .ok b w
theorem Zya {T:TypeId} {k j:IntKind} (a b:Int) (hT:P.underlying T=some (.int k)):PEq P T (.int j a) (.int j b) (decide (a=b)):=fun d w=>by
 unfold Op.equalIn
 simp [run_underlying hT]
 by_cases h:a=b <;> simp [h]
theorem Z6f {f1 f2:Field} {x1 x2 y1 y2:Value} {b1 b2:Bool} (hT:P.underlying T=some (.struct #[f1,f2])) (hs:P.stoodInHeld T=false) (n1:f1.name≠ "_") (n2:f2.name≠ "_")
  (px1:∀ w,(part f1.type xs f1.offset).run P w= .ok x1 w) (py1:∀ w,(part f1.type ys f1.offset).run P w= .ok y1 w) (px2:∀ w,(part f2.type xs f2.offset).run P w= .ok x2 w) (py2:∀ w,(part f2.type ys f2.offset).run P w= .ok y2 w)
  (e1:PEq P f1.type x1 y1 b1) (e2:PEq P f2.type x2 y2 b2) (w:World):(Op.equal T (.agg xs) (.agg ys)).run P w= .ok (b1&&b2) w:=by
 unfold Op.equal
 rw [show Op.maxDepth=9998+1+1 from rfl]
 unfold Op.equalIn
 have a:=e1 9998
 have b:=e2 9998
 simp [run_underlying hT,hs,n1,n2,px1,py1,px2,py2,a,b]
 cases b1 <;> cases b2 <;> first | simp | simp [run_program,hs]
theorem Z80 {yt:TypeId} {b:Bool} (hx:ev f x= .agg xs) (hy:ev f y= .agg ys) (hg:P.eqGuardType P.depth T=false) (he:∀ w,(Op.equal T (.agg xs) (.agg ys)).run P w= .ok b w):(execOp (ev f) ⟨dst,.binOp .neq T x y yt,t,p,af,none⟩).run P w= .ok (.value (.bool (!b))) w:=by
 simp [execOp,hx,hy,eqGuard,binOp,he,run_program,hg]
end Go.Proofs.YthclpfhncgpnmaaGreat
