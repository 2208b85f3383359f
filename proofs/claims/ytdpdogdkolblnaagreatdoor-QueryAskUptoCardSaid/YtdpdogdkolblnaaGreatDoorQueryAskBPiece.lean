/-
  A piece of an owned row, lent to be written: the row itself is told of. Over any program.
-/
import Derived.Test.YtdpdogdkolblnaaGreatDoorQueryAskBFloat
namespace Go.Proofs.YtdpdogdkolblnaaGreatDoor
open Go Go.RowKit
open Go.IntKind (i8 i16 i32 i64 u8 u16 u32 u64)
section
variable {P:Program} {f:Fr} {w:World} {t:Nat} {dst:Option Nat} {p:String} {af:Array Edge} {gd:Option (Nat×Bool)} {x y lo hi:Operand} {a:Option Addr} {n cap sz:Nat}
theorem W3 {xt e:TypeId} {i:IntKind} {j:Nat} {k:Int} (ht:P.underlying xt=some (.slice e)) (hs:∀ w,(sizeOf e).run P w= .ok sz w) (hx:ev f x= .slice (a.map (·.add (j * sz))) n cap) (hy:ev f y= .int i k)
  (h0:0≤k) (hn:k<(n:Int)) (ha:∃ b o,a=some ⟨b,o,none⟩):(execOp (ev f) ⟨dst,.indexAddr xt x y,t,p,af,gd⟩).run P w= .ok (.value (X5 a (((j:Int)+k).toNat * sz))) w:=by
 obtain ⟨b,o,rfl⟩:=ha
 have h:=V1 (t:=t) (dst:=dst) (p:=p) (af:=af) (gd:=gd) (w:=w) ht hs hx hy h0 hn ⟨b,o+j * sz,by rw [Option.map_some,Vc]⟩
 rw [h]
 have h1:((j:Int)+k).toNat=j+k.toNat:=by omega
 simp only [X5,Option.map_some,Vc,h1,Nat.add_mul,Nat.add_assoc]
theorem Z22 {T e:TypeId} {kl kh:IntKind} {l h:Int} (hT:P.underlying T=some (.slice e)) (hsz:∀ w,(sizeOf e).run P w= .ok sz w) (hx:ev f x= .slice a n cap) (hl:ev f lo= .int kl l) (hh:ev f hi= .int kh h) (h0:0≤l) (h1:l<h) (h2:h≤(cap:Int)):
  (execOp (ev f) ⟨dst,.slice T x (some lo) (some hi) none,t,p,af,none⟩).run P w= .ok (.value (.slice (a.map (·.add (l.toNat * sz))) (h.toNat - l.toNat) (cap - l.toNat))) w:=by
 have h3:=Z20 (t:=t) (dst:=dst) (p:=p) (af:=af) (w:=w) hT hsz hx hl hh h0 (by omega) h2
 rwa [if_neg (by omega)] at h3
end
end Go.Proofs.YtdpdogdkolblnaaGreatDoor
