/-
  Slices with three bounds, of what stays. Over any program.
-/
import Derived.Test.YtdpdogdkolblnaaGreatDoorQueryAskBFloat
import Derived.Test.YtdpdogdkolblnaaGreatDoorQueryAskBQue
import Derived.Test.YtdpdogdkolblnaaGreatDoorQueryAskBLibSort
import Derived.Laws.BytesString
import Derived.Laws.Cells
set_option linter.unusedVariables false
namespace Go.Proofs.YtdpdogdkolblnaaGreatDoor
open Go Go.RowKit
open Go.IntKind (i8 i16 i32 i64 u8 u16 u32 u64)

section
variable {P:Program} {f:Fr} {w:World} {t:Nat} {dst:Option Nat} {p:String} {af:Array Edge} {T e sz n cap:Nat} {a:Option Addr} {x lo hi mx:Operand}
theorem Z21 {kl kh km:IntKind} {l h m:Int} (hT:P.underlying T=some (.slice e)) (hsz:∀ w,(sizeOf e).run P w= .ok sz w) (hx:ev f x= .slice a n cap) (hl:ev f lo= .int kl l) (hh:ev f hi= .int kh h) (hm:ev f mx= .int km m) (h0:0≤l) (h1:l≤h) (h2:h≤m) (h3:m≤(cap:Int)):
  (execOp (ev f) ⟨dst,.slice T x (some lo) (some hi) (some mx),t,p,af,none⟩).run P w= .ok (.value (.slice (if m.toNat=l.toNat then a else a.map (·.add (l.toNat * sz))) (h.toNat - l.toNat) (m.toNat - l.toNat))) w:=by
 have h4:0≤h:=by omega
 have h5:0≤m:=by omega
 simp [execOp,Instr.sliceAt,run_underlying hT,hx,hl,hh,hm,Instr.slice,Instr.sliceBounds,Instr.sliceBound,asIntOf,h0,h3,h4,h5,hsz]
 rw [if_pos (by omega),if_pos (by omega)]
end
theorem Sl.recap {α:Type} {r:Za α} {col:Zd} {w:World} {a:Option Addr} {cap:Nat} {xs:List α} (h:Sl r col w a cap xs) {m:Nat} (hm:xs.length≤m):Sl r col w a m xs:=⟨⟨h.1.1,hm⟩,h.2⟩
section
variable {P:Program} {b:Frame} {a:Act} {k:List Item} {cs:List Frame} {w:World}
theorem Zlt {c:Code}:step P (lone (b.atR a (.code (.scope c) :: k)) cs w)= .next (lone (b.atR a (.code c :: .inScope c :: k)) cs w):=
 step_lone_go (by simp [stepG,stepG.exec,Frame.atR])
theorem Z3m {c:Code}:step P (lone (b.atR a (.inScope c :: k)) cs w)= .next (lone (b.atR a k) cs w):=
 step_lone_go (by simp [stepG,stepG.exec,Frame.atR])
end
section
variable {P:Program} {m:Nat} {rd:Option Nat} {N R:Fr→World→Prop} {E:Nat→Fr→World→Prop} {f:Fr} {w:World}
theorem Z32 {c:Code} (h:Wp P m rd c N R E f w):Wp P m rd (.scope c) N R E f w:=by
 intro a ha b k cs hro hb hr
 obtain ⟨e,a₁,w₁,hq,harr⟩:=h a ha b (.inScope c :: k) cs hro hb hr
 cases e with
 | normal=>exact ⟨.normal,a₁,w₁,hq,.head (fenced_calm hb hr rfl) Zlt (StepsIn.trans harr (.one (fenced_calm hb hr rfl) Z3m))⟩
 | exit id=>
  have hx:exitTo id (.inScope c :: k)=exitTo id k:=by simp [exitTo]
  exact ⟨.exit id,a₁,w₁,hq,fun k' hk=>.head (fenced_calm hb hr rfl) Zlt (harr.1 k' (by rw [hx];exact hk)),
   fun hr' hk=>let ⟨k₁,h1,h2⟩:=harr.2 hr' (by rw [hx];exact hk);⟨k₁,h1,.head (fenced_calm hb hr rfl) Zlt h2⟩⟩
 | ret=>exact ⟨.ret,a₁,w₁,hq,.of_steps (.one (fenced_calm hb hr rfl) Zlt) harr⟩
 | goto l=>exact hq.elim
 | panic ch=>exact hq.elim
 | outgrown=>exact hq.elim
theorem Zvl {l:Nat} (h:N f w):Wp P m rd (.label l) N R E f w:=fun _ ha=>wpIn_label ⟨f,ha,h⟩
end
def Zac (xs:List Int):ByteArray:=xs.foldl (fun r n=>r.push (UInt8.ofNat n.toNat)) ByteArray.empty
end Go.Proofs.YtdpdogdkolblnaaGreatDoor
