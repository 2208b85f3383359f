/-
  Rows of one's own whose lists go on behind what is shown, within rows; rows of whose elements nothing is told; readings of one's own made weaker. Over any program.
-/
import Derived.Test.YthclpfhncgpnmaaGreatLearnStepBView
namespace Go.Proofs.YthclpfhncgpnmaaGreat
open Go Go.RowKit
open Go.IntKind (i8 i16 i32 i64 u8 u16 u32 u64)

section
variable {α β γ δ:Type} {r:Za α} {s:Za β} {col:Ze} {w:World} {a:Option Addr} {cap n c e:Nat} {xs:List α} {cs:List Value}

def Za.vrow (e:TypeId) (r:Za α):Za (Nat×List α):=
 ⟨1,by decide,fun col w cs x bs=>∃ a cap,cs=[.slice a (x.2.take x.1).length cap]∧Ys r e col w a cap x.2 bs,fun ⟨_,_,h,_⟩=>by rw [h];rfl,fun ⟨_,_,h,_⟩=>by rw [h];simp [Value.oneCell'],fun ⟨_,_,_,h⟩=>h.lt,
  fun ⟨a,cap,h,hs⟩ hk hh=>⟨a,cap,h,hs.keep hk hh⟩⟩
theorem Zg.vrow {s:Za α} (hf:Zg r s):Zg (Za.vrow e r) (Za.view s):=⟨rfl,fun ⟨a,cap,b,d⟩ f=>⟨⟨a,cap,b,d.sl hf f⟩,rfl⟩⟩
theorem Zb.hasV (n:Nat) (h:Zb r e c col w a cap xs):Yg (Za.vrow e r) c col w [.slice a (xs.take n).length cap] (n,xs):=by
 obtain ⟨b,d,f⟩:=h
 exact ⟨b,⟨a,cap,rfl,d⟩,f⟩
end
end Go.Proofs.YthclpfhncgpnmaaGreat
