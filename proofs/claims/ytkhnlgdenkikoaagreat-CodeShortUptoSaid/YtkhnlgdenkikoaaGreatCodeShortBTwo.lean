/-
  Two rows of rows, of which each shares its rows with the other: while they are made ('zrow': rows that stay, their blocks told), and what is known of both then. Over any program.
-/
import Derived.Test.YtkhnlgdenkikoaaGreatCodeShortBCell
namespace Go.Proofs.YtkhnlgdenkikoaaGreat
open Go Go.RowKit
open Go.IntKind (i8 i16 i32 i64 u8 u16 u32 u64)

section
variable {α:Type} {r:Za α} {e e':TypeId} {c i:Nat} {col col':Ze} {w w':World} {a a':Option Addr} {cap cap' b:Nat} {xs:List α} {bs:List Nat}

end


/-! ### elements of which nothing is known,or a row that stays -/

/-! ### a function is none -/
section
variable {P:Program} {f:Fr} {w:World} {col:Ze} {dst:Option Tmp} {t:Nat} {p:String} {af:Array Edge} {x:Operand} {T:TypeId} {Y:Type} {v:Value} {arr:Y→Ze→World→List Value→Prop} {ys:List Y} {q:Nat→Bool} {yt:TypeId}
theorem Z4p {lv:Nat} (h:It P lv v arr ys q col w) (hT:∃ a b c,P.underlying T=some (.func a b c)) (hx:ev f x=v):(execOp (ev f) ⟨dst,.binOp .eql T x (.const .nilFunc) yt,t,p,af,none⟩).run P w= .ok (.value (.bool false)) w:=by
 obtain ⟨gf,lb,rfl,_⟩:=h
 obtain ⟨a,b,c,hT⟩:=hT
 have he:ev f (.const .nilFunc)= .nilFunc:=rfl
 have h1:∀ w,(Op.equal T (.func (.func gf) #[] lb.toArray) .nilFunc).run P w= .ok false w:=by
  intro w
  unfold Op.equal
  rw [show Op.maxDepth=9999+1 from rfl]
  unfold Op.equalIn
  simp [run_underlying hT]
 simp [execOp,he,hx,eqGuard,binOp,h1]
end

/-! ### what a round may turn -/
theorem Zpj {q:Nat→Bool} {c d:Nat} (h:(q c&&q d)=true):∀ x,q x=false→p2 c d x=false:=fun x hx=>by
 rw [Bool.and_eq_true] at h
 exact Z38 (fun e=>by rw [e,h.1] at hx;cases hx) (fun e=>by rw [e,h.2] at hx;cases hx)
end Go.Proofs.YtkhnlgdenkikoaaGreat
