/-
  Slices with three bounds, of what stays. Over any program.
-/
import Derived.Test.YthclpfhncgpnmaaGreatLearnStepBFloat
import Derived.Test.YthclpfhncgpnmaaGreatLearnStepBQue
import Derived.Test.YthclpfhncgpnmaaGreatLearnStepBLibSort
import Derived.Laws.BytesString
import Derived.Laws.Cells
set_option linter.unusedVariables false
namespace Go.Proofs.YthclpfhncgpnmaaGreat
open Go Go.RowKit
open Go.IntKind (i8 i16 i32 i64 u8 u16 u32 u64)

section
variable {P:Program} {f:Fr} {w:World} {t:Nat} {dst:Option Nat} {p:String} {af:Array Edge} {T e sz n cap:Nat} {a:Option Addr} {x lo hi mx:Operand}
theorem Xa4 {kl kh km:IntKind} {l h m:Int} (hT:P.underlying T=some (.slice e)) (hsz:∀ w,(sizeOf e).run P w= .ok sz w) (hx:ev f x= .slice a n cap) (hl:ev f lo= .int kl l) (hh:ev f hi= .int kh h) (hm:ev f mx= .int km m) (h0:0≤l) (h1:l≤h) (h2:h≤m) (h3:m≤(cap:Int)):
  (execOp (ev f) ⟨dst,.slice T x (some lo) (some hi) (some mx),t,p,af,none⟩).run P w= .ok (.value (.slice (if m.toNat=l.toNat then a else a.map (·.add (l.toNat * sz))) (h.toNat - l.toNat) (m.toNat - l.toNat))) w:=by
 have g:0≤h:=by omega
 have i:0≤m:=by omega
 simp [execOp,Instr.sliceAt,run_underlying hT,hx,hl,hh,hm,Instr.slice,Instr.sliceBounds,Instr.sliceBound,asIntOf,h0,h3,g,i,hsz]
 rw [if_pos (by omega),if_pos (by omega)]
end
theorem Sl.recap {α:Type} {r:Za α} {col:Ze} {w:World} {a:Option Addr} {cap:Nat} {xs:List α} (h:Sl r col w a cap xs) {m:Nat} (hm:xs.length≤m):Sl r col w a m xs:=⟨⟨h.1.1,hm⟩,h.2⟩
end Go.Proofs.YthclpfhncgpnmaaGreat
