/-
  What the bound on an argument's bulk gives of its reading. Over any program.
-/
import Derived.Test.YtpkknichfgooaaaGreatRows
import Derived.Test.YtpkknichfgooaaaGreatTopBitsBOpen
namespace Go.Proofs.YtpkknichfgooaaaGreat
open Go Go.RowKit
open Go.IntKind (i8 i16 i32 i64 u8 u16 u32 u64)

def BQ {α:Type} (R:∀ {H:Type},α→DataW H→Prop) (b:α→Nat) (Q:α→Prop):Prop:=∀ {H:Type} (y:α) (d:DataW H),R y d→b y≤Rows.uptoBulk d∧Q y

abbrev Wi (k:IntKind) {H:Type} (y:Int) (d:DataW H):Prop:=d= .lit (.int k y)∧(Lit.int k y).wf=true
abbrev Qk {H:Type} (y:Bool) (d:DataW H):Prop:=d= .lit (.bool y)
abbrev Ql {H:Type} (y:ByteArray) (d:DataW H):Prop:=d= .lit (.string y.data.toList)∧y.size≤maxLen
def W5 {α:Type}:α→Nat:=fun _=>1
def X6 {α:Type} (b:α→Nat):List α→Nat:=fun ys=>(ys.map b).sum+1
def Ta:ByteArray→Nat:=fun s=>s.size+1
def Vu {α:Type} (Q:α→Prop):List α→Prop:=fun ys=>∀ y ∈ ys,Q y
def Zav (k:IntKind):Int→Prop:=fun y=>(Lit.int k y).wf=true

theorem BQ.int {k:IntKind}:BQ (fun {H} (y:Int) (d:DataW H)=>d= .lit (.int k y)∧(Lit.int k y).wf=true) W5 (Zav k):=by
 rintro H y d ⟨rfl,h⟩
 exact ⟨by simp [W5,Rows.uptoBulk],h⟩
theorem BQ.bool:BQ (fun {H} (y:Bool) (d:DataW H)=>d= .lit (.bool y)) W5 (fun _=>True):=by
 rintro H y d rfl
 exact ⟨by simp [W5,Rows.uptoBulk],trivial⟩
theorem BQ.str:BQ (fun {H} (y:ByteArray) (d:DataW H)=>d= .lit (.string y.data.toList)∧y.size≤maxLen) Ta (fun _=>True):=by
 rintro H y d ⟨rfl,h⟩
 refine ⟨?_,trivial⟩
 have e:y.data.toList.length=y.size:=by rw [Array.length_toList];rfl
 simp only [Ta,Rows.uptoBulk]
 omega
theorem Zup {α:Type} {R:∀ {H:Type},α→DataW H→Prop} {b:α→Nat} {Q:α→Prop} (h:BQ R b Q) {H:Type}:∀ (ys:List α) (ds:List (DataW H)),ds.length=ys.length→(∀ (i:Nat) (y:α) (e:DataW H),ys[i]?=some y→ds[i]?=some e→R y e)→(ys.map b).sum≤Rows.uptoBulkAll ds∧∀ y ∈ ys,Q y
 | [],ds,_,_=>⟨by simp,by simp⟩
 | y :: ys,[],a,_=>by simp at a
 | y :: ys,d :: ds,a,f=>by
  obtain ⟨m,g⟩:=h y d (f 0 y d rfl rfl)
  obtain ⟨n,j⟩:=Zup h ys ds (by simpa using a) fun i y e k l=>f (i+1) y e (by simpa using k) (by simpa using l)
  refine ⟨?_,fun z c=>?_⟩
  ·simp only [List.map_cons,List.sum_cons,Rows.uptoBulkAll];omega
  ·rcases List.mem_cons.1 c with rfl | c
   ·exact g
   ·exact j z c
theorem BQ.slice {α:Type} {R:∀ {H:Type},α→DataW H→Prop} {b:α→Nat} {Q:α→Prop} (h:BQ R b Q):BQ (RL R) (X6 b) (Vu Q):=by
 rintro H a d (⟨rfl,rfl⟩ | ⟨c,sp,rfl,e,f⟩)
 ·exact ⟨by simp [X6,Rows.uptoBulk],by simp [Vu]⟩
 ·obtain ⟨i,g⟩:=Zup h a c e f
  refine ⟨?_,g⟩
  simp only [X6,Rows.uptoBulk]
  omega

/-! Structs -/
def T0 {α:Type} (R:∀ {H:Type},α→List (DataW H)→Prop) (b:α→Nat) (Q:α→Prop):Prop:=∀ {H:Type} (y:α) (ds:List (DataW H)),R y ds→b y≤Rows.uptoBulkAll ds∧Q y
abbrev W4 {α:Type} (R:∀ {H:Type},α→DataW H→Prop) {H:Type} (y:α) (ds:List (DataW H)):Prop:=∃ d,ds=[d]∧R y d
abbrev Wo {α β:Type} (R:∀ {H:Type},α→DataW H→Prop) (S:∀ {H:Type},β→List (DataW H)→Prop) {H:Type} (y:α×β) (ds:List (DataW H)):Prop:=∃ d rest,ds=d :: rest∧R y.1 d∧S y.2 rest
abbrev Uq {α:Type} (S:∀ {H:Type},α→List (DataW H)→Prop) {H:Type} (y:α) (d:DataW H):Prop:=∃ ds,d= .agg ds∧S y ds
def Vv {α β:Type} (f:α→Nat) (g:β→Nat):α×β→Nat:=fun y=>f y.1+g y.2
def Tm {α:Type} (f:α→Nat):α→Nat:=fun y=>f y+1
def Qe {α β:Type} (f:α→Prop) (g:β→Prop):α×β→Prop:=fun y=>f y.1∧g y.2
theorem T0.one {α:Type} {R:∀ {H:Type},α→DataW H→Prop} {b:α→Nat} {Q:α→Prop} (h:BQ R b Q):T0 (W4 R) b Q:=by
 rintro H y e ⟨d,rfl,a⟩
 obtain ⟨f,c⟩:=h y d a
 exact ⟨by simp only [Rows.uptoBulkAll];omega,c⟩
theorem T0.cons {α β:Type} {R:∀ {H:Type},α→DataW H→Prop} {S:∀ {H:Type},β→List (DataW H)→Prop} {b:α→Nat} {c:β→Nat} {Q:α→Prop} {T:β→Prop} (h:BQ R b Q) (k:T0 S c T):T0 (Wo R S) (Vv b c) (Qe Q T):=by
 rintro H y j ⟨d,a,rfl,e,f⟩
 obtain ⟨l,g⟩:=h y.1 d e
 obtain ⟨m,i⟩:=k y.2 a f
 exact ⟨by simp only [Rows.uptoBulkAll,Vv];omega,g,i⟩
theorem BQ.agg {α:Type} {S:∀ {H:Type},α→List (DataW H)→Prop} {b:α→Nat} {Q:α→Prop} (h:T0 S b Q):BQ (Uq S) (Tm b) Q:=by
 rintro H y d ⟨a,rfl,c⟩
 obtain ⟨f,e⟩:=h y a c
 exact ⟨by simp only [Rows.uptoBulk,Tm];omega,e⟩
end Go.Proofs.YtpkknichfgooaaaGreat
