/-
  None, or something: what is known of it. Over any program.
-/
import Derived.Test.YtdpdogdkolblnaaGreatDoorQueryAgainBTwo
namespace Go.Proofs.YtdpdogdkolblnaaGreatDoor
open Go Go.RowKit
open Go.IntKind (i8 i16 i32 i64 u8 u16 u32 u64)

def Zlm {α:Type} (v:Value) (x:Option α) (F:α→Prop):Prop:=match x with | none=>v= .pointer none | some d=>F d
theorem Z1h {α:Type} {v:Value} {F:α→Prop} (h:Zlm v none F):v= .pointer none:=h
theorem Z1i {α:Type} {v:Value} {d:α} {F:α→Prop} (h:Zlm v (some d) F):F d:=h
theorem Zs7 {α:Type} {v:Value} {d:α} {F:α→Prop} (h:F d):Zlm v (some d) F:=h
def Zll {α β:Type} (x:Option α) (a:Option β) (f:α→Option β):Option β:=match x with | none=>a | some y=>f y
theorem Zs5 {α β:Type} {a:Option β} {f:α→Option β} {r:Option β} (h:Zll none a f=r):a=r:=h
theorem Zs6 {α β:Type} {y:α} {a:Option β} {f:α→Option β} {r:Option β} (h:Zll (some y) a f=r):f y=r:=h
end Go.Proofs.YtdpdogdkolblnaaGreatDoor
