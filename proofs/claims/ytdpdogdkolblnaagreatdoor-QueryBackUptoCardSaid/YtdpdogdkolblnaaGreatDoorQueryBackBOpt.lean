/-
  None, or something: what is known of it. Over any program.
-/
import Derived.Test.YtdpdogdkolblnaaGreatDoorQueryBackBTwo
namespace Go.Proofs.YtdpdogdkolblnaaGreatDoor
open Go Go.RowKit
open Go.IntKind (i8 i16 i32 i64 u8 u16 u32 u64)

def Zl6 {α:Type} (v:Value) (x:Option α) (F:α→Prop):Prop:=match x with | none=>v= .pointer none | some d=>F d
theorem Z2j {α:Type} {v:Value} {F:α→Prop} (h:Zl6 v none F):v= .pointer none:=h
theorem Z2k {α:Type} {v:Value} {d:α} {F:α→Prop} (h:Zl6 v (some d) F):F d:=h
theorem Ztu {α:Type} {v:Value} {d:α} {F:α→Prop} (h:F d):Zl6 v (some d) F:=h
def Zl5 {α β:Type} (x:Option α) (a:Option β) (f:α→Option β):Option β:=match x with | none=>a | some y=>f y
theorem Zts {α β:Type} {a:Option β} {f:α→Option β} {r:Option β} (h:Zl5 none a f=r):a=r:=h
theorem Ztt {α β:Type} {y:α} {a:Option β} {f:α→Option β} {r:Option β} (h:Zl5 (some y) a f=r):f y=r:=h
end Go.Proofs.YtdpdogdkolblnaaGreatDoor
