/-
  Structs and arrays of two parts, compared; the length of a map. Over any program.
-/
import Derived.Test.YtdpdogdkolblnaaGreatDoorQueryAskBFloat
namespace Go.Proofs.YtdpdogdkolblnaaGreatDoor
open Go Go.RowKit
open Go.IntKind (i8 i16 i32 i64 u8 u16 u32 u64)

variable {P:Program} {f:Fr} {T t:Nat} {dst:Option Nat} {p:String} {af:Array Edge} {w:World} {x y:Operand} {xs ys:Array Value}

def PEq (P:Program) (T:TypeId) (x y:Value) (b:Bool):Prop:=∀ d w,(Op.equalIn (d+1) T x y).run P w= .ok b w
theorem Zws (a b:ByteArray):(a==b)=decide (a=b):=by
 have e:(a==b)=(a.data==b.data):=rfl
 rw [e,Bool.eq_iff_iff,beq_iff_eq,decide_eq_true_eq]
 exact ⟨fun h=>by cases a;cases b;simpa using h,fun h=>by rw [h]⟩
theorem Ztc {T:TypeId} (a b:ByteArray) (hT:P.underlying T=some .string):PEq P T (.string a) (.string b) (decide (a=b)):=fun d w=>by
 unfold Op.equalIn
 simp [run_underlying hT,Zws]
theorem Zz3 {f1 f2:Field} {x1 x2 y1 y2:Value} {b1 b2:Bool} (hT:P.underlying T=some (.struct #[f1,f2])) (hs:P.stoodInHeld T=false) (n1:f1.name≠ "_") (n2:f2.name≠ "_")
  (px1:∀ w,(part f1.type xs f1.offset).run P w= .ok x1 w) (py1:∀ w,(part f1.type ys f1.offset).run P w= .ok y1 w) (px2:∀ w,(part f2.type xs f2.offset).run P w= .ok x2 w) (py2:∀ w,(part f2.type ys f2.offset).run P w= .ok y2 w)
  (e1:PEq P f1.type x1 y1 b1) (e2:PEq P f2.type x2 y2 b2) (w:World):(Op.equal T (.agg xs) (.agg ys)).run P w= .ok (b1&&b2) w:=by
 unfold Op.equal
 rw [show Op.maxDepth=9998+1+1 from rfl]
 unfold Op.equalIn
 have h1:=e1 9998
 have h2:=e2 9998
 simp [run_underlying hT,hs,n1,n2,px1,py1,px2,py2,h1,h2]
 cases b1 <;> cases b2 <;> first | simp | simp [run_program,hs]
theorem Z2y {yt:TypeId} {b:Bool} (hx:ev f x= .agg xs) (hy:ev f y= .agg ys) (hg:P.eqGuardType P.depth T=false) (he:∀ w,(Op.equal T (.agg xs) (.agg ys)).run P w= .ok b w):(execOp (ev f) ⟨dst,.binOp .neq T x y yt,t,p,af,none⟩).run P w= .ok (.value (.bool (!b))) w:=by
 simp [execOp,hx,hy,eqGuard,binOp,he,run_program,hg]
theorem Z2u {K V:Type} {fk:K→Value} {fv:V→Value} {c g:Nat} {col:Zd} {es:List (K×V)} {T kt et:TypeId} (h:Xv fk fv c col w g es) (hT:P.underlying T=some (.map kt et)) (hx:ev f x= .map (some g)):
  (execOp (ev f) ⟨dst,.call { callee:=.builtin .len,args:=#[x],argTypes:=#[T] },t,p,af,none⟩).run P w= .ok (.value (.int .i64 es.length)) w:=by
 obtain ⟨_,⟨ents,clock,h2,h3⟩,_⟩:=h
 have hl:ents.size=es.length:=by
  have:=congrArg List.length h3
  simpa using this
 simp [execOp,hx,resolve,invoke,builtin,Builtin.len_,run_underlying hT,Go.MapKept.run_getObj_map h2,goInt,hl]
end Go.Proofs.YtdpdogdkolblnaaGreatDoor
