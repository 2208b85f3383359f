/-
  'QueryBlanks' (credence/credencelaw23.QueryBlanks), where what it reads is of bulk at most 1048576: the call returns true and the arguments read afterwards as before.
-/
import Derived.Test.YtdpdogdkolblnaaGreatDoorRows
import Derived.Test.YtdpdogdkolblnaaGreatDoorQueryBlanksBBulk
import Derived.Test.YtdpdogdkolblnaaGreatDoorQueryBlanksF5
import Derived.WalkKit
import Derived.ProofKit
import Derived.OpenShut
import Derived.ShutString
import Derived.ChangeOld
import Derived.Below
import Derived.JoinedCond
import Derived.Test.YtdpdogdkolblnaaGreatDoorQueryBlanksBDoor
namespace Go.Proofs.YtdpdogdkolblnaaGreatDoor.queryBlanks
open Go Go.ChangeShapes Go.WideShapes Go.ChangeAt Go.RowKit
open Go.IntKind (i8 i16 i32 i64 u8 u16 u32 u64)
open Go.Proofs.Tryz
open Go.ChangeMaps (open_string shut_string)
set_option linter.unusedVariables false

theorem Zj1:ownKnob prog.godebug=none:=by kernel_rfl
theorem Zym:laidOutB prog=true:=by kernel_rfl

theorem Ztp (y0:ByteArray) (y1:List Int) (a1:Option Addr) (c1:Nat) (w:World) (hb:Zg0 y0+(Zcc Zea) y1≤1048576) (q0:y0.size≤maxLen) (q1:(Zgv (wfI .i64)) y1) (s1:Sl (Za.int .i64) (fun _=>0) w a1 c1 y1) (hgl:Gl (.iface 141 (.agg #[.pointer (some ⟨4,24,none⟩)])) (fun _=>0) w):
    Calls prog 7 #[.string y0,.slice a1 y1.length c1] w fun e w'=>e= .returned (.bool true)∧Below w.heap.size w w':=
  Zu9 4611686018427387904 (fun _=>0) w y0 a1 c1 y1 s1 hgl true (Zut y0 y1)

theorem Zgj (os:Os) {H:Type} (enc:TypeId×Value→H):∃ places,DataW.whole enc prog ((door os).forCall (fun _ _=>0) ⟨#[],#[.string .empty,.slice none 0 0],[]⟩).memory Tryz.f7.params.toList Rows.queryBlanksSpec.vars false #[.string .empty,.slice none 0 0].toList 8=some ([.lit (.string []),.nil],[],places):=
  ⟨[],by kernel_rfl⟩
set_option maxRecDepth 100000 in
theorem Zy0 (os:Os) (started:os.Started) (H:Type) (enc:TypeId×Value→H) (F:Stop.Interp):
    ReturnsInHanded {} Tryz.checked os 7 .any ((Rows.OpenSpec.upto Rows.queryBlanksSpec).preRow enc prog Tryz.f7 Rows.queryBlanksUptoRow.domain false Rows.queryBlanksUptoRow.laid) (((Rows.OpenSpec.upto Rows.queryBlanksSpec).at F).post enc prog Tryz.f7 false true false false):=by
  obtain ⟨places,hx⟩:=Zgj os enc
  refine returnsInHanded_of_row (C:=Tryz.checked) (s:=Rows.OpenSpec.upto Rows.queryBlanksSpec) Zj1 started (by kernel_rfl) func7
    (witness_row_at (enc:=enc) (C:=Tryz.checked) false (door os) #[.string .empty,.slice none 0 0] (Zxe os) (by kernel_rfl) (by kernel_rfl) (by kernel_rfl)
      (OpenSpec.preRow_of_cond 8 hx (by kernel_rfl) (fun k hk=>by cases hk;kernel_rfl) (by kernel_rfl) (Zyn os _))) ?_
  intro W base args ds gs before hval0 hW _ hcond _ hL hS _
  have hk:=hcond _ rfl
  have hgl:=Zx4 hL hS
  have hval:∀ (j:Nat) t v,Tryz.f7.params[j]?=some t→args[j]?=some v→Value.okWide prog W .any base t v:=hval0
  have hW':=hW
  obtain ⟨p,q,hA0,hV,rfl,hfz,hnd⟩:=hW
  have hA:DataW.TrodAll enc prog W 0 (fun _=>true) true Tryz.f7.params.toList args.toList ds p:=hA0
  rw [Tryz.params7] at hA hval
  obtain ⟨v0,vs0,d0,ds0,p0,q0,hargs,rfl,rfl,h0,r0⟩:=trodAll_cons hA
  obtain ⟨v1,vs1,d1,ds1,p1,q1,rfl,rfl,rfl,h1,r1⟩:=trodAll_cons r0
  obtain ⟨rfl,rfl,rfl⟩:=trodAll_nil r1
  obtain rfl:args=#[v0,v1]:=by cases args;simp_all
  obtain ⟨rfl,rfl⟩:=trodVars_none hV
  have hk2:=of_decide_eq_true hk
  simp only [List.append_nil,Rows.uptoBulkAll] at hk2
  obtain ⟨a0,rfl,rfl,rfl,w0⟩:=open_string underlying9 (hval 0 9 v0 rfl rfl) h0
  have b0:Zg0 a0≤Rows.uptoBulk (DataW.lit (H:=H) (.string a0.data.toList)):=by simp only [Zg0,Rows.uptoBulk,Array.length_toList];exact Nat.le_refl _
  obtain ⟨a1,len1,cap1,rfl⟩:=okWide_slice underlying58 (hval 1 58 v1 rfl rfl)
  have k1:=h1
  have lt1:∀ x ∈ p1,x.block<W.heap.size:=by obtain ⟨m,hm⟩:=k1;exact DataW.trod_lt m _ _ _ hm
  obtain ⟨y1,b1,w1,e1,s1⟩:∃ y,(Zcc Zea) y≤Rows.uptoBulk d1∧(Zgv (wfI .i64)) y∧len1=y.length∧Sl (Za.int .i64) (fun _=>0) W a1 cap1 y:=by
    obtain ⟨fuel,hf⟩:=h1
    obtain ⟨y,h1,h2⟩:=(Zar.slice (e:=3) (r:=(Za.int .i64)) (R:=(@RelI .i64)) underlying58 (by kernel_rfl) (Zar.int underlying3)) hf
    obtain ⟨⟨a,cap,h3,h4⟩,_⟩:=h1
    simp [Value.cells] at h3
    obtain ⟨rfl,rfl,rfl⟩:=h3
    obtain ⟨h5,h6⟩:=(BQ.slice BQ.int) y d1 h2
    exact ⟨y,h5,h6,rfl,h4⟩
  subst e1
  clear hA0 hval0
  simp only [List.append_nil] at hW'
  have hb:Zg0 a0+(Zcc Zea) y1≤1048576:=by omega
  refine (Ztp a0 y1 a1 cap1 W hb w0 w1 s1 hgl).mono fun e W' ⟨he,bel⟩=>?_
  subst he
  exact ⟨_,rfl,_,_,_,[],_,[],hW',trodAll_mk1 (shut_bool underlying4 _),(trodAll_cons_mk (shut_string underlying9 w0) (trodAll_cons_mk (Below.trod Zym (by kernel_rfl) (of_decide_eq_true (by kernel_rfl)) k1 bel lt1) trodAll_mk0)),rfl,bel.frame _,fun h=>by cases h⟩

theorem Ztx {a b:Bool} (ha:a=true) (hb:b=true):(a&&b)=true:=by rw [ha,hb];rfl
theorem wrapper:Tryz.f7.isWrapper Tryz.pinned.checked.prog Rows.queryBlanksUptoRow.wrapper Rows.queryBlanksUptoRow.mainSum:=by unfold Func.isWrapper;first | (rw [if_pos (by decide+kernel)];kernel_rfl) | (rw [if_neg (by decide+kernel)];exact ⟨rfl,rfl⟩)
theorem inst:Tryz.f7.isInstance Tryz.pinned.checked.prog Rows.queryBlanksUptoRow.origin Rows.queryBlanksUptoRow.targs:=of_decide_eq_true (by kernel_rfl)
theorem Zzc:Tryz.pinned.checked.prog.funcNamed Rows.queryBlanksUptoRow.func=some 7:=by kernel_rfl
set_option maxHeartbeats 20000000 in
theorem Zw0:joinedFacts Tryz.pinned.checked.prog 7 Tryz.f7 (Rows.OpenSpec.upto Rows.queryBlanksSpec).bare Rows.queryBlanksUptoRow=true:=by
  unfold joinedFacts
  repeat' with_reducible apply Ztx
  all_goals as_aux_lemma=>kernel_rfl
theorem proved:Rows.QueryBlanksUptoSaid:=
  OpenClaim.holds_of_cond 7 Tryz.f7 rfl rfl rfl rfl rfl rfl rfl ⟨rfl,rfl,rfl,rfl,rfl⟩ rfl rfl rfl rfl rfl Zzc func7 Zw0
    inst wrapper (fun os started H enc _ F=>by rw [OpenClaim.pre_eq_preRow];exact Zy0 os started H enc F)
theorem Zby (f:FuncId) (fn:Func) (hf:Tryz.pinned.checked.prog.funcNamed "credence/credencelaw23.QueryBlanks"=some f) (hfn:Tryz.pinned.checked.prog.funcs[f]?=some fn):
    true=Tryz.pinned.checked.prog.looks []∧∀ (j:Nat) t,fn.params[j]?=some t→Tryz.pinned.checked.prog.wantsStandIn t=false:=by
  obtain rfl:f=7:=Option.some.inj ((show prog.funcNamed "credence/credencelaw23.QueryBlanks"=some 7 by kernel_rfl).symm.trans hf) |>.symm
  obtain rfl:fn=Tryz.f7:=(Option.some.inj (func7.symm.trans hfn)).symm
  refine ⟨by kernel_rfl,fun j t ht=>?_⟩
  rw [Tryz.params7] at ht
  have hm:=Array.mem_of_getElem? ht
  have hall:∀ t ∈ (#[9,58]:Array Nat),prog.wantsStandIn t=false:=by
    intro t ht
    simp only [List.mem_toArray,List.mem_cons,List.not_mem_nil,or_false] at ht
    rcases ht with rfl | rfl <;> kernel_rfl
  exact hall t hm
theorem card:Rows.QueryBlanksUptoCardSaid:=
  Claim7.holds_tied_plain_at .later [] _ _ _ _ proved (fun _ h=>by cases h) (by kernel_rfl) (fun _ h=>by cases h) queryBlanksUpto_row_tie rfl ⟨rfl,rfl⟩ (by kernel_rfl) rfl Zby (by kernel_rfl)
#print axioms card
end Go.Proofs.YtdpdogdkolblnaaGreatDoor.queryBlanks
