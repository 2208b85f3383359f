/-
  None, or something: what is known of it. Over any program.
-/
import Derived.Test.YtdpdogdkolblnaaGreatDoorQueryAskBTwo
namespace Go.Proofs.YtdpdogdkolblnaaGreatDoor
open Go Go.RowKit
open Go.IntKind (i8 i16 i32 i64 u8 u16 u32 u64)

def Zla {α:Type} (v:Value) (x:Option α) (F:α→Prop):Prop:=match x with | none=>v= .pointer none | some d=>F d
theorem Z14 {α:Type} {v:Value} {F:α→Prop} (h:Zla v none F):v= .pointer none:=h
theorem Z15 {α:Type} {v:Value} {d:α} {F:α→Prop} (h:Zla v (some d) F):F d:=h
theorem Zs0 {α:Type} {v:Value} {d:α} {F:α→Prop} (h:F d):Zla v (some d) F:=h
def Zk9 {α β:Type} (x:Option α) (a:Option β) (f:α→Option β):Option β:=match x with | none=>a | some y=>f y
theorem Zsy {α β:Type} {a:Option β} {f:α→Option β} {r:Option β} (h:Zk9 none a f=r):a=r:=h
theorem Zsz {α β:Type} {y:α} {a:Option β} {f:α→Option β} {r:Option β} (h:Zk9 (some y) a f=r):f y=r:=h
end Go.Proofs.YtdpdogdkolblnaaGreatDoor
