/-
  Two rows of rows, of which each shares its rows with the other: while they are made ('zrow': rows that stay, their blocks told), and what is known of both then. Over any program.
-/
import Derived.Test.YthclpfhncgpnmaaGreatJointAllBCell
namespace Go.Proofs.YthclpfhncgpnmaaGreat
open Go Go.RowKit
open Go.IntKind (i8 i16 i32 i64 u8 u16 u32 u64)

section
variable {α:Type} {r:Za α} {e e':TypeId} {c i:Nat} {col col':Zd} {w w':World} {a a':Option Addr} {cap cap' b:Nat} {xs:List α} {bs:List Nat}

end


/-! ### elements of which nothing is known,or a row that stays -/

/-! ### a function is none -/
section
variable {P:Program} {f:Fr} {w:World} {col:Zd} {dst:Option Tmp} {t:Nat} {p:String} {af:Array Edge} {x:Operand} {T:TypeId} {Y:Type} {v:Value} {arr:Y→Zd→World→List Value→Prop} {ys:List Y} {q:Nat→Bool} {yt:TypeId}
theorem Z4m {lv:Nat} (h:It P lv v arr ys q col w) (hT:∃ a b c,P.underlying T=some (.func a b c)) (hx:ev f x=v):(execOp (ev f) ⟨dst,.binOp .eql T x (.const .nilFunc) yt,t,p,af,none⟩).run P w= .ok (.value (.bool false)) w:=by
 obtain ⟨d,g,rfl,_⟩:=h
 obtain ⟨a,b,c,hT⟩:=hT
 have j:ev f (.const .nilFunc)= .nilFunc:=rfl
 have k:∀ w,(Op.equal T (.func (.func d) #[] g.toArray) .nilFunc).run P w= .ok false w:=by
  intro w
  unfold Op.equal
  rw [show Op.maxDepth=9999+1 from rfl]
  unfold Op.equalIn
  simp [run_underlying hT]
 simp [execOp,j,hx,eqGuard,binOp,k]
end

/-! ### what a round may turn -/
theorem Zmt {q:Nat→Bool} {l:List Nat} (h:l.all q=true):∀ x,q x=false→pS l x=false:=fun x d=>by
 rw [pS,List.any_eq_false]
 intro y g j
 have:=List.all_eq_true.1 h y g
 rw [← Nat.eq_of_beq_eq_true j,d] at this
 cases this
end Go.Proofs.YthclpfhncgpnmaaGreat
