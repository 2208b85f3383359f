/-
  None, or something: what is known of it. Over any program.
-/
import Derived.Test.YtdpdogdkolblnaaGreatDoorQueryNamesBTwo
namespace Go.Proofs.YtdpdogdkolblnaaGreatDoor
open Go Go.RowKit
open Go.IntKind (i8 i16 i32 i64 u8 u16 u32 u64)

def Zjv {α:Type} (v:Value) (x:Option α) (F:α→Prop):Prop:=match x with | none=>v= .pointer none | some d=>F d
theorem Zys {α:Type} {v:Value} {F:α→Prop} (h:Zjv v none F):v= .pointer none:=h
theorem Zyt {α:Type} {v:Value} {d:α} {F:α→Prop} (h:Zjv v (some d) F):F d:=h
theorem Zqx {α:Type} {v:Value} {d:α} {F:α→Prop} (h:F d):Zjv v (some d) F:=h
def Zgi {α β:Type} (x:Option α) (a:Option β) (f:α→Option β):Option β:=match x with | none=>a | some y=>f y
theorem Znp {α β:Type} {a:Option β} {f:α→Option β} {r:Option β} (h:Zgi none a f=r):a=r:=h
theorem Znq {α β:Type} {y:α} {a:Option β} {f:α→Option β} {r:Option β} (h:Zgi (some y) a f=r):f y=r:=h
end Go.Proofs.YtdpdogdkolblnaaGreatDoor
