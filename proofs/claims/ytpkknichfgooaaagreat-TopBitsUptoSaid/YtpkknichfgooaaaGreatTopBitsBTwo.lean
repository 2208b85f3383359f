/-
  Two rows of rows, of which each shares its rows with the other: while they are made ('zrow': rows that stay, their blocks told), and what is known of both then. Over any program.
-/
import Derived.Test.YtpkknichfgooaaaGreatTopBitsBCell
namespace Go.Proofs.YtpkknichfgooaaaGreat
open Go Go.RowKit
open Go.IntKind (i8 i16 i32 i64 u8 u16 u32 u64)

section
variable {α:Type} {r:Zc α} {e e':TypeId} {c i:Nat} {col col':Zg} {w w':World} {a a':Option Addr} {cap cap' b:Nat} {xs:List α} {bs:List Nat}

end


/-! ### elements of which nothing is known,or a row that stays -/

/-! ### a function is none -/
section
variable {P:Program} {f:Fr} {w:World} {col:Zg} {dst:Option Tmp} {t:Nat} {p:String} {af:Array Edge} {x:Operand} {T:TypeId} {Y:Type} {v:Value} {arr:Y→Zg→World→List Value→Prop} {ys:List Y} {q:Nat→Bool} {yt:TypeId}
theorem Z9s {lv:Nat} (h:It P lv v arr ys q col w) (hT:∃ a b c,P.underlying T=some (.func a b c)) (hx:ev f x=v):(execOp (ev f) ⟨dst,.binOp .eql T x (.const .nilFunc) yt,t,p,af,none⟩).run P w= .ok (.value (.bool false)) w:=by
 obtain ⟨d,g,rfl,_⟩:=h
 obtain ⟨a,b,c,hT⟩:=hT
 have j:ev f (.const .nilFunc)= .nilFunc:=rfl
 have k:∀ w,(Op.equal T (.func (.func d) #[] g.toArray) .nilFunc).run P w= .ok false w:=by
  intro w
  unfold Op.equal
  rw [show Op.maxDepth=9999+1 from rfl]
  unfold Op.equalIn
  simp [run_underlying hT]
 simp [execOp,j,hx,eqGuard,binOp,k]
end

/-! ### what a round may turn -/
theorem Zbt {q:Nat→Bool} {c d:Nat} (h:(q c&&q d)=true):∀ x,q x=false→p2 c d x=false:=fun x g=>by
 rw [Bool.and_eq_true] at h
 exact Z9c (fun e=>by rw [e,h.1] at g;cases g) (fun e=>by rw [e,h.2] at g;cases g)
theorem Zbs {q:Nat→Bool} {c:Nat} (h:q c=true):∀ x,q x=false→p1 c x=false:=fun x d=>Zm0 fun e=>by rw [e,h] at d;cases d
end Go.Proofs.YtpkknichfgooaaaGreat
