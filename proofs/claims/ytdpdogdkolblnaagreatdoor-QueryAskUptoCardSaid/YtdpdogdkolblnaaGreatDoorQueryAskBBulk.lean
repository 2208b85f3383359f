/-
  What the bound on an argument's bulk gives of its reading. Over any program.
-/
import Derived.Test.YtdpdogdkolblnaaGreatDoorRows
import Derived.Test.YtdpdogdkolblnaaGreatDoorQueryAskBOpen
namespace Go.Proofs.YtdpdogdkolblnaaGreatDoor
open Go Go.RowKit
open Go.IntKind (i8 i16 i32 i64 u8 u16 u32 u64)

def BQ {α:Type} (R:∀ {H:Type},α→DataW H→Prop) (b:α→Nat) (Q:α→Prop):Prop:=∀ {H:Type} (y:α) (d:DataW H),R y d→b y≤Rows.uptoBulk d∧Q y

abbrev Yf (k:IntKind) {H:Type} (y:Int) (d:DataW H):Prop:=d= .lit (.int k y)∧(Lit.int k y).wf=true
abbrev Vh {H:Type} (y:Bool) (d:DataW H):Prop:=d= .lit (.bool y)
abbrev X4 {H:Type} (y:ByteArray) (d:DataW H):Prop:=d= .lit (.string y.data.toList)∧y.size≤maxLen
def Yp {α:Type}:α→Nat:=fun _=>1
def Xk {α:Type} (b:α→Nat):List α→Nat:=fun ys=>(ys.map b).sum+1
def Ym:ByteArray→Nat:=fun s=>s.size+1
def Wi {α:Type} (Q:α→Prop):List α→Prop:=fun ys=>∀ y ∈ ys,Q y
def U2 (k:IntKind):Int→Prop:=fun y=>(Lit.int k y).wf=true

theorem BQ.int {k:IntKind}:BQ (fun {H} (y:Int) (d:DataW H)=>d= .lit (.int k y)∧(Lit.int k y).wf=true) Yp (U2 k):=by
 rintro H y d ⟨rfl,h⟩
 exact ⟨by simp [Yp,Rows.uptoBulk],h⟩
theorem BQ.bool:BQ (fun {H} (y:Bool) (d:DataW H)=>d= .lit (.bool y)) Yp (fun _=>True):=by
 rintro H y d rfl
 exact ⟨by simp [Yp,Rows.uptoBulk],trivial⟩
theorem BQ.str:BQ (fun {H} (y:ByteArray) (d:DataW H)=>d= .lit (.string y.data.toList)∧y.size≤maxLen) Ym (fun _=>True):=by
 rintro H y d ⟨rfl,h⟩
 refine ⟨?_,trivial⟩
 have e:y.data.toList.length=y.size:=by rw [Array.length_toList];rfl
 simp only [Ym,Rows.uptoBulk]
 omega
theorem Zpo {α:Type} {R:∀ {H:Type},α→DataW H→Prop} {b:α→Nat} {Q:α→Prop} (h:BQ R b Q) {H:Type}:∀ (ys:List α) (ds:List (DataW H)),ds.length=ys.length→(∀ (i:Nat) (y:α) (e:DataW H),ys[i]?=some y→ds[i]?=some e→R y e)→(ys.map b).sum≤Rows.uptoBulkAll ds∧∀ y ∈ ys,Q y
 | [],ds,_,_=>⟨by simp,by simp⟩
 | y :: ys,[],hl,_=>by simp at hl
 | y :: ys,d :: ds,hl,hr=>by
  obtain ⟨h1,h2⟩:=h y d (hr 0 y d rfl rfl)
  obtain ⟨h3,h4⟩:=Zpo h ys ds (by simpa using hl) fun i y e hy he=>hr (i+1) y e (by simpa using hy) (by simpa using he)
  refine ⟨?_,fun z hz=>?_⟩
  ·simp only [List.map_cons,List.sum_cons,Rows.uptoBulkAll];omega
  ·rcases List.mem_cons.1 hz with rfl | hz
   ·exact h2
   ·exact h4 z hz
theorem BQ.slice {α:Type} {R:∀ {H:Type},α→DataW H→Prop} {b:α→Nat} {Q:α→Prop} (h:BQ R b Q):BQ (RL R) (Xk b) (Wi Q):=by
 rintro H ys d (⟨rfl,rfl⟩ | ⟨ds,sp,rfl,h1,h2⟩)
 ·exact ⟨by simp [Xk,Rows.uptoBulk],by simp [Wi]⟩
 ·obtain ⟨h3,h4⟩:=Zpo h ys ds h1 h2
  refine ⟨?_,h4⟩
  simp only [Xk,Rows.uptoBulk]
  omega

/-! Structs -/
def Wr {α:Type} (R:∀ {H:Type},α→List (DataW H)→Prop) (b:α→Nat) (Q:α→Prop):Prop:=∀ {H:Type} (y:α) (ds:List (DataW H)),R y ds→b y≤Rows.uptoBulkAll ds∧Q y
abbrev X3 {α:Type} (R:∀ {H:Type},α→DataW H→Prop) {H:Type} (y:α) (ds:List (DataW H)):Prop:=∃ d,ds=[d]∧R y d
abbrev Xm {α β:Type} (R:∀ {H:Type},α→DataW H→Prop) (S:∀ {H:Type},β→List (DataW H)→Prop) {H:Type} (y:α×β) (ds:List (DataW H)):Prop:=∃ d rest,ds=d :: rest∧R y.1 d∧S y.2 rest
abbrev Wd {α:Type} (S:∀ {H:Type},α→List (DataW H)→Prop) {H:Type} (y:α) (d:DataW H):Prop:=∃ ds,d= .agg ds∧S y ds
abbrev Zaa {α:Type} (R:∀ {H:Type},α→DataW H→Prop) {H:Type} (y:α×α) (d:DataW H):Prop:=∃ ds,d= .agg ds∧∃ d1 d2,ds=[d1,d2]∧R y.1 d1∧R y.2 d2
def Xq {α β:Type} (f:α→Nat) (g:β→Nat):α×β→Nat:=fun y=>f y.1+g y.2
def Yz {α:Type} (f:α→Nat):α→Nat:=fun y=>f y+1
def Y2 {α β:Type} (f:α→Prop) (g:β→Prop):α×β→Prop:=fun y=>f y.1∧g y.2
theorem Wr.one {α:Type} {R:∀ {H:Type},α→DataW H→Prop} {b:α→Nat} {Q:α→Prop} (h:BQ R b Q):Wr (X3 R) b Q:=by
 rintro H y ds ⟨d,rfl,h1⟩
 obtain ⟨h2,h3⟩:=h y d h1
 exact ⟨by simp only [Rows.uptoBulkAll];omega,h3⟩
theorem Wr.cons {α β:Type} {R:∀ {H:Type},α→DataW H→Prop} {S:∀ {H:Type},β→List (DataW H)→Prop} {b:α→Nat} {c:β→Nat} {Q:α→Prop} {T:β→Prop} (h:BQ R b Q) (k:Wr S c T):Wr (Xm R S) (Xq b c) (Y2 Q T):=by
 rintro H y ds ⟨d,rest,rfl,h1,k1⟩
 obtain ⟨h2,h3⟩:=h y.1 d h1
 obtain ⟨k2,k3⟩:=k y.2 rest k1
 exact ⟨by simp only [Rows.uptoBulkAll,Xq];omega,h3,k3⟩
theorem BQ.agg {α:Type} {S:∀ {H:Type},α→List (DataW H)→Prop} {b:α→Nat} {Q:α→Prop} (h:Wr S b Q):BQ (Wd S) (Yz b) Q:=by
 rintro H y d ⟨ds,rfl,h1⟩
 obtain ⟨h2,h3⟩:=h y ds h1
 exact ⟨by simp only [Rows.uptoBulk,Yz];omega,h3⟩
theorem BQ.two {α:Type} {R:∀ {H:Type},α→DataW H→Prop} {b:α→Nat} {Q:α→Prop} (h:BQ R b Q):BQ (Zaa R) (Yz (Xq b b)) (Y2 Q Q):=by
 rintro H y d ⟨ds,rfl,d1,d2,rfl,h1,h2⟩
 obtain ⟨h3,h4⟩:=h y.1 d1 h1
 obtain ⟨h5,h6⟩:=h y.2 d2 h2
 exact ⟨by simp only [Rows.uptoBulk,Rows.uptoBulkAll,Yz,Xq];omega,h4,h6⟩
end Go.Proofs.YtdpdogdkolblnaaGreatDoor
