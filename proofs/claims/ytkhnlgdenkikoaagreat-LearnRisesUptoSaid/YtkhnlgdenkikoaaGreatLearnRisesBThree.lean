/-
  Slices with three bounds, of what stays. Over any program.
-/
import Derived.Test.YtkhnlgdenkikoaaGreatLearnRisesBFloat
import Derived.Test.YtkhnlgdenkikoaaGreatLearnRisesBQue
import Derived.Test.YtkhnlgdenkikoaaGreatLearnRisesBLibSort
import Derived.Laws.BytesString
import Derived.Laws.Cells
set_option linter.unusedVariables false
namespace Go.Proofs.YtkhnlgdenkikoaaGreat
open Go Go.RowKit
open Go.IntKind (i8 i16 i32 i64 u8 u16 u32 u64)

section
variable {P:Program} {f:Fr} {w:World} {t:Nat} {dst:Option Nat} {p:String} {af:Array Edge} {T e sz n cap:Nat} {a:Option Addr} {x lo hi mx:Operand}
theorem Zzr {kl kh km:IntKind} {l h m:Int} (hT:P.underlying T=some (.slice e)) (hsz:∀ w,(sizeOf e).run P w= .ok sz w) (hx:ev f x= .slice a n cap) (hl:ev f lo= .int kl l) (hh:ev f hi= .int kh h) (hm:ev f mx= .int km m) (h0:0≤l) (h1:l≤h) (h2:h≤m) (h3:m≤(cap:Int)):
  (execOp (ev f) ⟨dst,.slice T x (some lo) (some hi) (some mx),t,p,af,none⟩).run P w= .ok (.value (.slice (if m.toNat=l.toNat then a else a.map (·.add (l.toNat * sz))) (h.toNat - l.toNat) (m.toNat - l.toNat))) w:=by
 have g:0≤h:=by omega
 have i:0≤m:=by omega
 simp [execOp,Instr.sliceAt,run_underlying hT,hx,hl,hh,hm,Instr.slice,Instr.sliceBounds,Instr.sliceBound,asIntOf,h0,h3,g,i,hsz]
 rw [if_pos (by omega),if_pos (by omega)]
end
theorem Sl.recap {α:Type} {r:Za α} {col:Ze} {w:World} {a:Option Addr} {cap:Nat} {xs:List α} (h:Sl r col w a cap xs) {m:Nat} (hm:xs.length≤m):Sl r col w a m xs:=⟨⟨h.1.1,hm⟩,h.2⟩
section
variable {P:Program} {b:Frame} {a:Act} {k:List Item} {cs:List Frame} {w:World}
theorem Zou {c:Code}:step P (lone (b.atR a (.code (.scope c) :: k)) cs w)= .next (lone (b.atR a (.code c :: .inScope c :: k)) cs w):=
 step_lone_go (by simp [stepG,stepG.exec,Frame.atR])
theorem Xad {c:Code}:step P (lone (b.atR a (.inScope c :: k)) cs w)= .next (lone (b.atR a k) cs w):=
 step_lone_go (by simp [stepG,stepG.exec,Frame.atR])
end
section
variable {P:Program} {m:Nat} {rd:Option Nat} {N R:Fr→World→Prop} {E:Nat→Fr→World→Prop} {f:Fr} {w:World}
theorem Xbc {c:Code} (h:Wp P m rd c N R E f w):Wp P m rd (.scope c) N R E f w:=by
 intro a B b k cs u i j
 obtain ⟨e,a₁,w₁,o,g⟩:=h a B b (.inScope c :: k) cs u i j
 cases e with
 | normal=>exact ⟨.normal,a₁,w₁,o,.head (fenced_calm i j rfl) Zou (StepsIn.trans g (.one (fenced_calm i j rfl) Xad))⟩
 | exit q=>
  have v:exitTo q (.inScope c :: k)=exitTo q k:=by simp [exitTo]
  exact ⟨.exit q,a₁,w₁,o,fun C s=>.head (fenced_calm i j rfl) Zou (g.1 C (by rw [v];exact s)),
   fun A s=>let ⟨k₁,h1,h2⟩:=g.2 A (by rw [v];exact s);⟨k₁,h1,.head (fenced_calm i j rfl) Zou h2⟩⟩
 | ret=>exact ⟨.ret,a₁,w₁,o,.of_steps (.one (fenced_calm i j rfl) Zou) g⟩
 | goto l=>exact o.elim
 | panic F=>exact o.elim
 | outgrown=>exact o.elim
theorem Xa7 {l:Nat} (h:N f w):Wp P m rd (.label l) N R E f w:=fun _ g=>wpIn_label ⟨f,g,h⟩
end
end Go.Proofs.YtkhnlgdenkikoaaGreat
