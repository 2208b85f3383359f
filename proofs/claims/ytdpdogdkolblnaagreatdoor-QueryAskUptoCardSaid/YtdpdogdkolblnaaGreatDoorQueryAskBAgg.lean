/-
  Structs: built, read field by field, in rows. Over any program.
-/
import Derived.Test.YtdpdogdkolblnaaGreatDoorQueryAskBRange
namespace Go.Proofs.YtdpdogdkolblnaaGreatDoor
open Go Go.RowKit
open Go.IntKind (i8 i16 i32 i64 u8 u16 u32 u64)

theorem Vg.part {w:World} {ptr:Value} {cs:List Value} (h:Vg w ptr cs) (off n:Nat):∀ a:Option Addr,ptr= .pointer a→Vg w (.pointer (a.map (·.add off))) ((cs.drop off).take n):=by
 rintro a rfl
 obtain ⟨b,o,h1,h2⟩:=h
 simp only [Value.pointer.injEq] at h1
 subst h1
 refine ⟨b,o+off,by simp [Vc],fun q v hq=>?_⟩
 rw [List.getElem?_take] at hq
 split at hq
 ·rw [List.getElem?_drop] at hq
  have:=h2 _ v hq
  rw [Nat.add_assoc];exact this
 ·cases hq
theorem Vg.nth {w:World} {a:Option Addr} {cs:List Value} (h:Vg w (.pointer a) cs) {q:Nat} {v:Value} (hq:cs[q]?=some v):Ut w (.pointer (a.map (·.add q))) v:=by
 obtain ⟨b,o,h1,h2⟩:=h
 simp only [Value.pointer.injEq] at h1
 subst h1
 exact ⟨b,o+q,by simp [Vc],h2 q v hq⟩

section
variable {P:Program} {f:Fr} {w:World} {dst:Option Tmp} {t:Nat} {p:String} {af:Array Edge} {x:Operand} {T:TypeId}

theorem Uy {fs:Array Field} {i sz off:Nat} {fd:Field} {a:Option Addr} (hT:P.underlying T=some (.struct fs)) (hf:fs[i]?=some fd) (hs:∀ w,(sizeOf fd.type).run P w= .ok sz w) (h0:sz≠0) (ho:fd.offset=off)
  (hx:ev f x= .pointer a) (ha:∃ b o,a=some ⟨b,o,none⟩):(execOp (ev f) ⟨dst,.fieldAddr T x i,t,p,af,none⟩).run P w= .ok (.value (.pointer (a.map (·.add off)))) w:=by
 obtain ⟨b,o,rfl⟩:=ha
 simp [execOp,hx,Instr.fieldAt,run_underlying hT,hf,Instr.sureAddr,fieldPlace,hs,h0,ho]
theorem Zts {fs:Array Field} {i:Nat} {fd:Field} {cs:Array Value} {v:Value} (hT:P.underlying T=some (.struct fs)) (hf:fs[i]?=some fd) (hx:ev f x= .agg cs) (hv:∀ w,(part fd.type cs fd.offset).run P w= .ok v w):
  (execOp (ev f) ⟨dst,.field T x i,t,p,af,none⟩).run P w= .ok (.value v) w:=by
 simp [execOp,hx,Instr.field,run_underlying hT,hf,asAgg,hv]

theorem Zfk {T:TypeId} {cs:Array Value} {off:Nat} {v:Value} (ha:∀ w,(isAgg T).run P w= .ok false w) (h:cs[off]?=some v):∀ w,(part T cs off).run P w= .ok v w:=by
 intro w
 simp [part,ha,h]
theorem V7 {a:Option Addr} {n:Nat} (h:∃ b o,a=some ⟨b,o,none⟩):∃ b o,a.map (·.add n)=some ⟨b,o,none⟩:=by
 obtain ⟨b,o,rfl⟩:=h
 exact ⟨b,o+n,by simp [Vc]⟩
def SzL (P:Program):List Field→List (Nat×Nat)→Prop
 | [],[]=>True
 | f :: fs,q :: qs=>q.1=f.offset∧(∀ w,(sizeOf f.type).run P w= .ok q.2 w)∧SzL P fs qs
 | _,_=>False
theorem Zu7:∀ (l:List Field) (qs:List (Nat×Nat)) (w:World),SzL P l qs→(l.mapM fun f:Field=>Prod.mk f.offset<$>sizeOf f.type).run P w= .ok qs w
 | [],[],w,_=>by simp
 | f :: fs,q :: qs,w,⟨h1,h2,h3⟩=>by
  have ih:=Zu7 fs qs w h3
  simp only [List.mapM_cons]
  simp [h2,← h1] at ih ⊢
  simp [ih]
theorem Y6 {l:List Field} {qs:List (Nat×Nat)} {zv:Value} {cs:Array Value} {parts:Array (Nat×Operand)} (hT:P.underlying T=some (.struct l.toArray)) (hz:∀ w,(zeroValue T).run P w= .ok zv w) (hq:SzL P l qs)
  (hf:Instr.fill (fun i=>qs[i]?) zv.cells (parts.toList.map fun x=>(x.fst,ev f x.snd))=some cs):
  (execOp (ev f) ⟨dst,.build T parts,t,p,af,none⟩).run P w= .ok (.value (.agg cs)) w:=by
 have h1:=Zu7 l qs w hq
 simp [execOp,Instr.build,hz,run_underlying hT,List.mapM_toArray,h1]
 rw [hf];simp
end
end Go.Proofs.YtdpdogdkolblnaaGreatDoor
