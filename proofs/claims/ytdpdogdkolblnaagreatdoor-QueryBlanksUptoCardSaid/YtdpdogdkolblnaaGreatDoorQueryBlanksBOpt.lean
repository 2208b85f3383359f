/-
  None, or something: what is known of it. Over any program.
-/
import Derived.Test.YtdpdogdkolblnaaGreatDoorQueryBlanksBTwo
namespace Go.Proofs.YtdpdogdkolblnaaGreatDoor
open Go Go.RowKit
open Go.IntKind (i8 i16 i32 i64 u8 u16 u32 u64)

def Zj0 {α:Type} (v:Value) (x:Option α) (F:α→Prop):Prop:=match x with | none=>v= .pointer none | some d=>F d
theorem Zzl {α:Type} {v:Value} {F:α→Prop} (h:Zj0 v none F):v= .pointer none:=h
theorem Zzm {α:Type} {v:Value} {d:α} {F:α→Prop} (h:Zj0 v (some d) F):F d:=h
theorem Zrs {α:Type} {v:Value} {d:α} {F:α→Prop} (h:F d):Zj0 v (some d) F:=h
def Zjz {α β:Type} (x:Option α) (a:Option β) (f:α→Option β):Option β:=match x with | none=>a | some y=>f y
theorem Zrq {α β:Type} {a:Option β} {f:α→Option β} {r:Option β} (h:Zjz none a f=r):a=r:=h
theorem Zrr {α β:Type} {y:α} {a:Option β} {f:α→Option β} {r:Option β} (h:Zjz (some y) a f=r):f y=r:=h
end Go.Proofs.YtdpdogdkolblnaaGreatDoor
