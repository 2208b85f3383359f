/-
  'QueryNames' (credence/credencelaw23.QueryNames), where what it reads is of bulk at most 1048576: the call returns true and the arguments read afterwards as before.
-/
import Derived.Test.YtdpdogdkolblnaaGreatDoorRows
import Derived.Test.YtdpdogdkolblnaaGreatDoorQueryNamesBBulk
import Derived.Test.YtdpdogdkolblnaaGreatDoorQueryNamesF5
import Derived.WalkKit
import Derived.ProofKit
import Derived.OpenShut
import Derived.ShutString
import Derived.ChangeOld
import Derived.Below
import Derived.JoinedCond
import Derived.Test.YtdpdogdkolblnaaGreatDoorQueryNamesBDoor
namespace Go.Proofs.YtdpdogdkolblnaaGreatDoor.queryNames
open Go Go.ChangeShapes Go.WideShapes Go.ChangeAt Go.RowKit
open Go.IntKind (i8 i16 i32 i64 u8 u16 u32 u64)
open Go.Proofs.Tryz
open Go.ChangeMaps (open_string shut_string)
set_option linter.unusedVariables false

theorem own:ownKnob prog.godebug=none:=by kernel_rfl
theorem Z0o:laidOutB prog=true:=by kernel_rfl

theorem Zsw (w:World) (hgl:Gl (.iface 141 (.agg #[.pointer (some ⟨4,24,none⟩)])) (fun _=>0) w):
    Calls prog 3 #[] w fun e w'=>e= .returned (.bool true)∧Below w.heap.size w w':=
  Zul 4611686018427387904 (fun _=>0) w hgl true Zyk

theorem Zgp (os:Os) {H:Type} (enc:TypeId×Value→H):∃ places,DataW.whole enc prog ((door os).forCall (fun _ _=>0) ⟨#[],#[],[]⟩).memory Tryz.f3.params.toList Rows.queryNamesSpec.vars false #[].toList 8=some ([],[],places):=
  ⟨[],by kernel_rfl⟩
set_option maxRecDepth 100000 in
theorem Zx7 (os:Os) (started:os.Started) (H:Type) (enc:TypeId×Value→H) (F:Stop.Interp):
    ReturnsInHanded {} Tryz.checked os 3 .any ((Rows.OpenSpec.upto Rows.queryNamesSpec).preRow enc prog Tryz.f3 Rows.queryNamesUptoRow.domain false Rows.queryNamesUptoRow.laid) (((Rows.OpenSpec.upto Rows.queryNamesSpec).at F).post enc prog Tryz.f3 false true false false):=by
  obtain ⟨places,hx⟩:=Zgp os enc
  refine returnsInHanded_of_row (C:=Tryz.checked) (s:=Rows.OpenSpec.upto Rows.queryNamesSpec) own started (by kernel_rfl) func3
    (witness_row_at (enc:=enc) (C:=Tryz.checked) false (door os) #[] (Zwn os) (by kernel_rfl) (by kernel_rfl) (by kernel_rfl)
      (OpenSpec.preRow_of_cond 8 hx (by kernel_rfl) (fun k hk=>by cases hk;kernel_rfl) (by kernel_rfl) (Zxw os _))) ?_
  intro W base args ds gs before hval0 hW _ hcond _ hL hS _
  have hk:=hcond _ rfl
  have hgl:=Zxe hL hS
  have hval:∀ (j:Nat) t v,Tryz.f3.params[j]?=some t→args[j]?=some v→Value.okWide prog W .any base t v:=hval0
  have hW':=hW
  obtain ⟨p,q,hA0,hV,rfl,hfz,hnd⟩:=hW
  have hA:DataW.TrodAll enc prog W 0 (fun _=>true) true Tryz.f3.params.toList args.toList ds p:=hA0
  rw [Tryz.params3] at hA hval
  obtain ⟨h0a,rfl,rfl⟩:=trodAll_nil hA
  obtain rfl:args=#[]:=by cases args;simp_all
  obtain ⟨rfl,rfl⟩:=trodVars_none hV
  clear hA0 hval0
  simp only [List.append_nil] at hW'
  refine (Zsw W hgl).mono fun e W' ⟨he,bel⟩=>?_
  subst he
  exact ⟨_,rfl,_,_,_,[],_,[],hW',trodAll_mk1 (shut_bool underlying4 _),trodAll_mk0,rfl,bel.frame _,fun h=>by cases h⟩

theorem Zs8 {a b:Bool} (ha:a=true) (hb:b=true):(a&&b)=true:=by rw [ha,hb];rfl
theorem wrapper:Tryz.f3.isWrapper Tryz.pinned.checked.prog Rows.queryNamesUptoRow.wrapper Rows.queryNamesUptoRow.mainSum:=by unfold Func.isWrapper;first | (rw [if_pos (by decide+kernel)];kernel_rfl) | (rw [if_neg (by decide+kernel)];exact ⟨rfl,rfl⟩)
theorem inst:Tryz.f3.isInstance Tryz.pinned.checked.prog Rows.queryNamesUptoRow.origin Rows.queryNamesUptoRow.targs:=of_decide_eq_true (by kernel_rfl)
theorem Zyi:Tryz.pinned.checked.prog.funcNamed Rows.queryNamesUptoRow.func=some 3:=by kernel_rfl
set_option maxHeartbeats 20000000 in
theorem Zwa:joinedFacts Tryz.pinned.checked.prog 3 Tryz.f3 (Rows.OpenSpec.upto Rows.queryNamesSpec).bare Rows.queryNamesUptoRow=true:=by
  unfold joinedFacts
  repeat' with_reducible apply Zs8
  all_goals as_aux_lemma=>kernel_rfl
theorem proved:Rows.QueryNamesUptoSaid:=
  OpenClaim.holds_of_cond 3 Tryz.f3 rfl rfl rfl rfl rfl rfl rfl ⟨rfl,rfl,rfl,rfl,rfl⟩ rfl rfl rfl rfl rfl Zyi func3 Zwa
    inst wrapper (fun os started H enc _ F=>by rw [OpenClaim.pre_eq_preRow];exact Zx7 os started H enc F)
theorem Zb5 (f:FuncId) (fn:Func) (hf:Tryz.pinned.checked.prog.funcNamed "credence/credencelaw23.QueryNames"=some f) (hfn:Tryz.pinned.checked.prog.funcs[f]?=some fn):
    true=Tryz.pinned.checked.prog.looks []∧∀ (j:Nat) t,fn.params[j]?=some t→Tryz.pinned.checked.prog.wantsStandIn t=false:=by
  obtain rfl:f=3:=Option.some.inj ((show prog.funcNamed "credence/credencelaw23.QueryNames"=some 3 by kernel_rfl).symm.trans hf) |>.symm
  obtain rfl:fn=Tryz.f3:=(Option.some.inj (func3.symm.trans hfn)).symm
  refine ⟨by kernel_rfl,fun j t ht=>?_⟩
  rw [Tryz.params3] at ht
  have hm:=Array.mem_of_getElem? ht
  have hall:∀ t ∈ (#[]:Array Nat),prog.wantsStandIn t=false:=by
    intro t ht
    simp at ht
  exact hall t hm
theorem card:Rows.QueryNamesUptoCardSaid:=
  Claim7.holds_tied_plain_at .later [] _ _ _ _ proved (fun _ h=>by cases h) (by kernel_rfl) (fun _ h=>by cases h) queryNamesUpto_row_tie rfl ⟨rfl,rfl⟩ (by kernel_rfl) rfl Zb5 (by kernel_rfl)
#print axioms card
end Go.Proofs.YtdpdogdkolblnaaGreatDoor.queryNames
