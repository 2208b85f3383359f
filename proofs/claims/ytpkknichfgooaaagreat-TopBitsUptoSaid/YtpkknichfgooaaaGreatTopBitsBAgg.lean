/-
  Structs: built, read field by field, in rows. Over any program.
-/
import Derived.Test.YtpkknichfgooaaaGreatTopBitsBRange
namespace Go.Proofs.YtpkknichfgooaaaGreat
open Go Go.RowKit
open Go.IntKind (i8 i16 i32 i64 u8 u16 u32 u64)

theorem V2.part {w:World} {ptr:Value} {cs:List Value} (h:V2 w ptr cs) (off n:Nat):∀ a:Option Addr,ptr= .pointer a→V2 w (.pointer (a.map (·.add off))) ((cs.drop off).take n):=by
 rintro a rfl
 obtain ⟨b,o,d,e⟩:=h
 simp only [Value.pointer.injEq] at d
 subst d
 refine ⟨b,o+off,by simp [Vh],fun q v c=>?_⟩
 rw [List.getElem?_take] at c
 split at c
 ·rw [List.getElem?_drop] at c
  have:=e _ v c
  rw [Nat.add_assoc];exact this
 ·cases c
theorem V2.nth {w:World} {a:Option Addr} {cs:List Value} (h:V2 w (.pointer a) cs) {q:Nat} {v:Value} (hq:cs[q]?=some v):Tz w (.pointer (a.map (·.add q))) v:=by
 obtain ⟨b,o,c,d⟩:=h
 simp only [Value.pointer.injEq] at c
 subst c
 exact ⟨b,o+q,by simp [Vh],d q v hq⟩

section
variable {P:Program} {f:Fr} {w:World} {dst:Option Tmp} {t:Nat} {p:String} {af:Array Edge} {x:Operand} {T:TypeId}

theorem Un {fs:Array Field} {i sz off:Nat} {fd:Field} {a:Option Addr} (hT:P.underlying T=some (.struct fs)) (hf:fs[i]?=some fd) (hs:∀ w,(sizeOf fd.type).run P w= .ok sz w) (h0:sz≠0) (ho:fd.offset=off)
  (hx:ev f x= .pointer a) (ha:∃ b o,a=some ⟨b,o,none⟩):(execOp (ev f) ⟨dst,.fieldAddr T x i,t,p,af,none⟩).run P w= .ok (.value (.pointer (a.map (·.add off)))) w:=by
 obtain ⟨b,o,rfl⟩:=ha
 simp [execOp,hx,Instr.fieldAt,run_underlying hT,hf,Instr.sureAddr,fieldPlace,hs,h0,ho]
theorem Q5 {a:Option Addr} {n:Nat} (h:∃ b o,a=some ⟨b,o,none⟩):∃ b o,a.map (·.add n)=some ⟨b,o,none⟩:=by
 obtain ⟨b,o,rfl⟩:=h
 exact ⟨b,o+n,by simp [Vh]⟩
def SzL (P:Program):List Field→List (Nat×Nat)→Prop
 | [],[]=>True
 | f :: fs,q :: qs=>q.1=f.offset∧(∀ w,(sizeOf f.type).run P w= .ok q.2 w)∧SzL P fs qs
 | _,_=>False
theorem Z11:∀ (l:List Field) (qs:List (Nat×Nat)) (w:World),SzL P l qs→(l.mapM fun f:Field=>Prod.mk f.offset<$>sizeOf f.type).run P w= .ok qs w
 | [],[],w,_=>by simp
 | f :: fs,q :: qs,w,⟨b,c,d⟩=>by
  have a:=Z11 fs qs w d
  simp only [List.mapM_cons]
  simp [c,← b] at a ⊢
  simp [a]
theorem Yc {l:List Field} {qs:List (Nat×Nat)} {zv:Value} {cs:Array Value} {parts:Array (Nat×Operand)} (hT:P.underlying T=some (.struct l.toArray)) (hz:∀ w,(zeroValue T).run P w= .ok zv w) (hq:SzL P l qs)
  (hf:Instr.fill (fun i=>qs[i]?) zv.cells (parts.toList.map fun x=>(x.fst,ev f x.snd))=some cs):
  (execOp (ev f) ⟨dst,.build T parts,t,p,af,none⟩).run P w= .ok (.value (.agg cs)) w:=by
 have a:=Z11 l qs w hq
 simp [execOp,Instr.build,hz,run_underlying hT,List.mapM_toArray,a]
 rw [hf];simp
end
end Go.Proofs.YtpkknichfgooaaaGreat
