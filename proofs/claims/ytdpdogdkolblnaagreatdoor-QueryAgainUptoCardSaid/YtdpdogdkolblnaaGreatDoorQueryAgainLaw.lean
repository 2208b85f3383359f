/-
  'QueryAgain' (credence/credencelaw23.QueryAgain), where what it reads is of bulk at most 1048576: the call returns true and the arguments read afterwards as before.
-/
import Derived.Test.YtdpdogdkolblnaaGreatDoorRows
import Derived.Test.YtdpdogdkolblnaaGreatDoorQueryAgainBBulk
import Derived.Test.YtdpdogdkolblnaaGreatDoorQueryAgainF5
import Derived.WalkKit
import Derived.ProofKit
import Derived.OpenShut
import Derived.ShutString
import Derived.ChangeOld
import Derived.Below
import Derived.JoinedCond
import Derived.Test.YtdpdogdkolblnaaGreatDoorQueryAgainBDoor
namespace Go.Proofs.YtdpdogdkolblnaaGreatDoor.queryAgain
open Go Go.ChangeShapes Go.WideShapes Go.ChangeAt Go.RowKit
open Go.IntKind (i8 i16 i32 i64 u8 u16 u32 u64)
open Go.Proofs.Tryz
open Go.ChangeMaps (open_string shut_string)
set_option linter.unusedVariables false

theorem Zln:ownKnob prog.godebug=none:=by kernel_rfl
theorem Z3g:laidOutB prog=true:=by kernel_rfl

theorem Zvb (y0:ByteArray) (w:World) (hb:Zih y0≤1048576) (q0:y0.size≤maxLen) (hgl:Gl (.iface 141 (.agg #[.pointer (some ⟨4,24,none⟩)])) (fun _=>0) w):
    Calls prog 5 #[.string y0] w fun e w'=>e= .returned (.bool true)∧Below w.heap.size w w':=
  Zw6 4611686018427387904 (fun _=>0) w y0 hgl true (Zvl y0)

theorem Zh3 (os:Os) {H:Type} (enc:TypeId×Value→H):∃ places,DataW.whole enc prog ((door os).forCall (fun _ _=>0) ⟨#[],#[.string .empty],[]⟩).memory Tryz.f5.params.toList Rows.queryAgainSpec.vars false #[.string .empty].toList 8=some ([.lit (.string [])],[],places):=
  ⟨[],by kernel_rfl⟩
set_option maxRecDepth 100000 in
theorem Z0w (os:Os) (started:os.Started) (H:Type) (enc:TypeId×Value→H) (F:Stop.Interp):
    ReturnsInHanded {} Tryz.checked os 5 .any ((Rows.OpenSpec.upto Rows.queryAgainSpec).preRow enc prog Tryz.f5 Rows.queryAgainUptoRow.domain false Rows.queryAgainUptoRow.laid) (((Rows.OpenSpec.upto Rows.queryAgainSpec).at F).post enc prog Tryz.f5 false true false false):=by
  obtain ⟨places,hx⟩:=Zh3 os enc
  refine returnsInHanded_of_row (C:=Tryz.checked) (s:=Rows.OpenSpec.upto Rows.queryAgainSpec) Zln started (by kernel_rfl) func5
    (witness_row_at (enc:=enc) (C:=Tryz.checked) false (door os) #[.string .empty] (Zza os) (by kernel_rfl) (by kernel_rfl) (by kernel_rfl)
      (OpenSpec.preRow_of_cond 8 hx (by kernel_rfl) (fun k hk=>by cases hk;kernel_rfl) (by kernel_rfl) (Z0i os _))) ?_
  intro W base args ds gs before hval0 hW _ hcond _ hL hS _
  have hk:=hcond _ rfl
  have hgl:=Zzz hL hS
  have hval:∀ (j:Nat) t v,Tryz.f5.params[j]?=some t→args[j]?=some v→Value.okWide prog W .any base t v:=hval0
  have hW':=hW
  obtain ⟨p,q,hA0,hV,rfl,hfz,hnd⟩:=hW
  have hA:DataW.TrodAll enc prog W 0 (fun _=>true) true Tryz.f5.params.toList args.toList ds p:=hA0
  rw [Tryz.params5] at hA hval
  obtain ⟨v0,vs0,d0,ds0,p0,q0,hargs,rfl,rfl,h0,r0⟩:=trodAll_cons hA
  obtain ⟨rfl,rfl,rfl⟩:=trodAll_nil r0
  obtain rfl:args=#[v0]:=by cases args;simp_all
  obtain ⟨rfl,rfl⟩:=trodVars_none hV
  have hk2:=of_decide_eq_true hk
  simp only [List.append_nil,Rows.uptoBulkAll] at hk2
  obtain ⟨a0,rfl,rfl,rfl,w0⟩:=open_string underlying9 (hval 0 9 v0 rfl rfl) h0
  have b0:Zih a0≤Rows.uptoBulk (DataW.lit (H:=H) (.string a0.data.toList)):=by simp only [Zih,Rows.uptoBulk,Array.length_toList];exact Nat.le_refl _
  clear hA0 hval0
  simp only [List.append_nil] at hW'
  have hb:Zih a0≤1048576:=by omega
  refine (Zvb a0 W hb w0 hgl).mono fun e W' ⟨he,bel⟩=>?_
  subst he
  exact ⟨_,rfl,_,_,_,[],_,[],hW',trodAll_mk1 (shut_bool underlying4 _),(trodAll_cons_mk (shut_string underlying9 w0) trodAll_mk0),rfl,bel.frame _,fun h=>by cases h⟩

theorem Zvn {a b:Bool} (ha:a=true) (hb:b=true):(a&&b)=true:=by rw [ha,hb];rfl
theorem wrapper:Tryz.f5.isWrapper Tryz.pinned.checked.prog Rows.queryAgainUptoRow.wrapper Rows.queryAgainUptoRow.mainSum:=by unfold Func.isWrapper;first | (rw [if_pos (by decide+kernel)];kernel_rfl) | (rw [if_neg (by decide+kernel)];exact ⟨rfl,rfl⟩)
theorem inst:Tryz.f5.isInstance Tryz.pinned.checked.prog Rows.queryAgainUptoRow.origin Rows.queryAgainUptoRow.targs:=of_decide_eq_true (by kernel_rfl)
theorem Z07:Tryz.pinned.checked.prog.funcNamed Rows.queryAgainUptoRow.func=some 5:=by kernel_rfl
set_option maxHeartbeats 20000000 in
theorem Zyx:joinedFacts Tryz.pinned.checked.prog 5 Tryz.f5 (Rows.OpenSpec.upto Rows.queryAgainSpec).bare Rows.queryAgainUptoRow=true:=by
  unfold joinedFacts
  repeat' with_reducible apply Zvn
  all_goals as_aux_lemma=>kernel_rfl
theorem proved:Rows.QueryAgainUptoSaid:=
  OpenClaim.holds_of_cond 5 Tryz.f5 rfl rfl rfl rfl rfl rfl rfl ⟨rfl,rfl,rfl,rfl,rfl⟩ rfl rfl rfl rfl rfl Z07 func5 Zyx
    inst wrapper (fun os started H enc _ F=>by rw [OpenClaim.pre_eq_preRow];exact Z0w os started H enc F)
theorem Zdb (f:FuncId) (fn:Func) (hf:Tryz.pinned.checked.prog.funcNamed "credence/credencelaw23.QueryAgain"=some f) (hfn:Tryz.pinned.checked.prog.funcs[f]?=some fn):
    true=Tryz.pinned.checked.prog.looks []∧∀ (j:Nat) t,fn.params[j]?=some t→Tryz.pinned.checked.prog.wantsStandIn t=false:=by
  obtain rfl:f=5:=Option.some.inj ((show prog.funcNamed "credence/credencelaw23.QueryAgain"=some 5 by kernel_rfl).symm.trans hf) |>.symm
  obtain rfl:fn=Tryz.f5:=(Option.some.inj (func5.symm.trans hfn)).symm
  refine ⟨by kernel_rfl,fun j t ht=>?_⟩
  rw [Tryz.params5] at ht
  have hm:=Array.mem_of_getElem? ht
  have hall:∀ t ∈ (#[9]:Array Nat),prog.wantsStandIn t=false:=by
    intro t ht
    simp only [List.mem_toArray,List.mem_cons,List.not_mem_nil,or_false] at ht
    rcases ht with rfl <;> kernel_rfl
  exact hall t hm
theorem card:Rows.QueryAgainUptoCardSaid:=
  Claim7.holds_tied_plain_at .later [] _ _ _ _ proved (fun _ h=>by cases h) (by kernel_rfl) (fun _ h=>by cases h) queryAgainUpto_row_tie rfl ⟨rfl,rfl⟩ (by kernel_rfl) rfl Zdb (by kernel_rfl)
#print axioms card
end Go.Proofs.YtdpdogdkolblnaaGreatDoor.queryAgain
