/-
  Structs of four parts, compared. Over any program.
-/
import Derived.Test.YtdpdogdkolblnaaGreatDoorQueryNamesBEqs
namespace Go.Proofs.YtdpdogdkolblnaaGreatDoor
open Go Go.RowKit
open Go.IntKind (i8 i16 i32 i64 u8 u16 u32 u64)

variable {P:Program} {T:Nat} {xs ys:Array Value}
theorem Zw1 {f1 f2 f3 f4:Field} {x1 y1 x2 y2 x3 y3 x4 y4:Value} {b1 b2 b3 b4:Bool} (hT:P.underlying T=some (.struct #[f1,f2,f3,f4])) (hs:P.stoodInHeld T=false) (n1:f1.name≠ "_") (n2:f2.name≠ "_") (n3:f3.name≠ "_") (n4:f4.name≠ "_")
  (px1:∀ w,(part f1.type xs f1.offset).run P w= .ok x1 w) (py1:∀ w,(part f1.type ys f1.offset).run P w= .ok y1 w) (px2:∀ w,(part f2.type xs f2.offset).run P w= .ok x2 w) (py2:∀ w,(part f2.type ys f2.offset).run P w= .ok y2 w) (px3:∀ w,(part f3.type xs f3.offset).run P w= .ok x3 w) (py3:∀ w,(part f3.type ys f3.offset).run P w= .ok y3 w) (px4:∀ w,(part f4.type xs f4.offset).run P w= .ok x4 w) (py4:∀ w,(part f4.type ys f4.offset).run P w= .ok y4 w)
  (e1:Qj P f1.type x1 y1 b1) (e2:Qj P f2.type x2 y2 b2) (e3:Qj P f3.type x3 y3 b3) (e4:Qj P f4.type x4 y4 b4) (w:World):(Op.equal T (.agg xs) (.agg ys)).run P w= .ok (b1&&b2&&b3&&b4) w:=by
 unfold Op.equal
 rw [show Op.maxDepth=9998+1+1 from rfl]
 unfold Op.equalIn
 have h1:=e1 9998
 have h2:=e2 9998
 have h3:=e3 9998
 have h4:=e4 9998
 simp [run_underlying hT,hs,n1,px1,py1,h1,n2,px2,py2,h2,n3,px3,py3,h3,n4,px4,py4,h4]
 cases b1 <;> cases b2 <;> cases b3 <;> cases b4 <;> first | simp | simp [run_program,hs]
end Go.Proofs.YtdpdogdkolblnaaGreatDoor
