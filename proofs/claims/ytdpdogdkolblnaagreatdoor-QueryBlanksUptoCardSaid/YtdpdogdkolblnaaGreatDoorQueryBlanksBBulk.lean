/-
  What the bound on an argument's bulk gives of its reading. Over any program.
-/
import Derived.Test.YtdpdogdkolblnaaGreatDoorRows
import Derived.Test.YtdpdogdkolblnaaGreatDoorQueryBlanksBOpen
namespace Go.Proofs.YtdpdogdkolblnaaGreatDoor
open Go Go.RowKit
open Go.IntKind (i8 i16 i32 i64 u8 u16 u32 u64)

def BQ {α:Type} (R:∀ {H:Type},α→DataW H→Prop) (b:α→Nat) (Q:α→Prop):Prop:=∀ {H:Type} (y:α) (d:DataW H),R y d→b y≤Rows.uptoBulk d∧Q y

abbrev RelI (k:IntKind) {H:Type} (y:Int) (d:DataW H):Prop:=d= .lit (.int k y)∧(Lit.int k y).wf=true
def Zea {α:Type}:α→Nat:=fun _=>1
def Zcc {α:Type} (b:α→Nat):List α→Nat:=fun ys=>(ys.map b).sum+1
def Zg0:ByteArray→Nat:=fun s=>s.size+1
def Zgv {α:Type} (Q:α→Prop):List α→Prop:=fun ys=>∀ y ∈ ys,Q y
def wfI (k:IntKind):Int→Prop:=fun y=>(Lit.int k y).wf=true

theorem BQ.int {k:IntKind}:BQ (fun {H} (y:Int) (d:DataW H)=>d= .lit (.int k y)∧(Lit.int k y).wf=true) Zea (wfI k):=by
 rintro H y d ⟨rfl,h⟩
 exact ⟨by simp [Zea,Rows.uptoBulk],h⟩
theorem Zpk {α:Type} {R:∀ {H:Type},α→DataW H→Prop} {b:α→Nat} {Q:α→Prop} (h:BQ R b Q) {H:Type}:∀ (ys:List α) (ds:List (DataW H)),ds.length=ys.length→(∀ (i:Nat) (y:α) (e:DataW H),ys[i]?=some y→ds[i]?=some e→R y e)→(ys.map b).sum≤Rows.uptoBulkAll ds∧∀ y ∈ ys,Q y
 | [],ds,_,_=>⟨by simp,by simp⟩
 | y :: ys,[],hl,_=>by simp at hl
 | y :: ys,d :: ds,hl,hr=>by
  obtain ⟨h1,h2⟩:=h y d (hr 0 y d rfl rfl)
  obtain ⟨h3,h4⟩:=Zpk h ys ds (by simpa using hl) fun i y e hy he=>hr (i+1) y e (by simpa using hy) (by simpa using he)
  refine ⟨?_,fun z hz=>?_⟩
  ·simp only [List.map_cons,List.sum_cons,Rows.uptoBulkAll];omega
  ·rcases List.mem_cons.1 hz with rfl | hz
   ·exact h2
   ·exact h4 z hz
theorem BQ.slice {α:Type} {R:∀ {H:Type},α→DataW H→Prop} {b:α→Nat} {Q:α→Prop} (h:BQ R b Q):BQ (RL R) (Zcc b) (Zgv Q):=by
 rintro H ys d (⟨rfl,rfl⟩ | ⟨ds,sp,rfl,h1,h2⟩)
 ·exact ⟨by simp [Zcc,Rows.uptoBulk],by simp [Zgv]⟩
 ·obtain ⟨h3,h4⟩:=Zpk h ys ds h1 h2
  refine ⟨?_,h4⟩
  simp only [Zcc,Rows.uptoBulk]
  omega

/-! Structs -/
end Go.Proofs.YtdpdogdkolblnaaGreatDoor
