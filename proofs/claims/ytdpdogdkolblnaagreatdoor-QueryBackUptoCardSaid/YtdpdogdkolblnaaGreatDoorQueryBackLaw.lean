/-
  'QueryBack' (credence/credencelaw23.QueryBack), where what it reads is of bulk at most 1048576: the call returns true and the arguments read afterwards as before.
-/
import Derived.Test.YtdpdogdkolblnaaGreatDoorRows
import Derived.Test.YtdpdogdkolblnaaGreatDoorQueryBackBBulk
import Derived.Test.YtdpdogdkolblnaaGreatDoorQueryBackF5
import Derived.WalkKit
import Derived.ProofKit
import Derived.OpenShut
import Derived.ShutString
import Derived.ChangeOld
import Derived.Below
import Derived.JoinedCond
import Derived.Test.YtdpdogdkolblnaaGreatDoorQueryBackBDoor
namespace Go.Proofs.YtdpdogdkolblnaaGreatDoor.queryBack
open Go Go.ChangeShapes Go.WideShapes Go.ChangeAt Go.RowKit
open Go.IntKind (i8 i16 i32 i64 u8 u16 u32 u64)
open Go.Proofs.Tryz
open Go.ChangeMaps (open_string shut_string)
set_option linter.unusedVariables false

theorem Zl7:ownKnob prog.godebug=none:=by kernel_rfl
theorem Z1i:laidOutB prog=true:=by kernel_rfl

theorem Zv3 (y0:List Xf) (a0:Option Addr) (c0:Nat) (w:World) (hb:Wa Ti y0≤1048576)
    (q0:(Qg (Uk (Ziw .i8) (Uk (Qg (Uk (fun _=>True) (fun _=>True))) (Uk (Qg (Uk (fun _=>True) (fun _=>True))) (Uk (Ziw .i8) (Uk (Qg (fun _=>True)) (Uk (fun _=>True) (fun _=>True)))))))) y0)
    (s0:Sl (Za.pair (Za.int .i8) (Za.pair (Za.slice (Za.pair Za.str Za.str)) (Za.pair (Za.slice (Za.pair Za.str Za.str)) (Za.pair (Za.int .i8) (Za.pair (Za.slice Za.str) (Za.pair Za.bool Za.bool)))))) (fun _=>0) w a0 c0 y0) (hgl:Gl (.iface 141 (.agg #[.pointer (some ⟨4,24,none⟩)])) (fun _=>0) w):
    Calls prog 4 #[.slice a0 y0.length c0] w fun e w'=>e= .returned (.bool true)∧Below w.heap.size w w':=
  Zx0 4611686018427387904 (fun _=>0) w a0 c0 y0 s0 hgl true (Zw5 y0 hb)

theorem Zin (os:Os) {H:Type} (enc:TypeId×Value→H):∃ places,DataW.whole enc prog ((door os).forCall (fun _ _=>0) ⟨#[],#[.slice none 0 0],[]⟩).memory Tryz.f4.params.toList Rows.queryBackSpec.vars false #[.slice none 0 0].toList 8=some ([.nil],[],places):=
  ⟨[],by kernel_rfl⟩
set_option maxRecDepth 100000 in
theorem Z1w (os:Os) (started:os.Started) (H:Type) (enc:TypeId×Value→H) (F:Stop.Interp):
    ReturnsInHanded {} Tryz.checked os 4 .any ((Rows.OpenSpec.upto Rows.queryBackSpec).preRow enc prog Tryz.f4 Rows.queryBackUptoRow.domain false Rows.queryBackUptoRow.laid) (((Rows.OpenSpec.upto Rows.queryBackSpec).at F).post enc prog Tryz.f4 false true false false):=by
  obtain ⟨places,hx⟩:=Zin os enc
  refine returnsInHanded_of_row (C:=Tryz.checked) (s:=Rows.OpenSpec.upto Rows.queryBackSpec) Zl7 started (by kernel_rfl) func4
    (witness_row_at (enc:=enc) (C:=Tryz.checked) false (door os) #[.slice none 0 0] (Zz8 os) (by kernel_rfl) (by kernel_rfl) (by kernel_rfl)
      (OpenSpec.preRow_of_cond 8 hx (by kernel_rfl) (fun k hk=>by cases hk;kernel_rfl) (by kernel_rfl) (Z1j os _))) ?_
  intro W base args ds gs before hval0 hW _ hcond _ hL hS _
  have hk:=hcond _ rfl
  have hgl:=Z0y hL hS
  have hval:∀ (j:Nat) t v,Tryz.f4.params[j]?=some t→args[j]?=some v→Value.okWide prog W .any base t v:=hval0
  have hW':=hW
  obtain ⟨p,q,hA0,hV,rfl,hfz,hnd⟩:=hW
  have hA:DataW.TrodAll enc prog W 0 (fun _=>true) true Tryz.f4.params.toList args.toList ds p:=hA0
  rw [Tryz.params4] at hA hval
  obtain ⟨v0,vs0,d0,ds0,p0,q0,hargs,rfl,rfl,h0,r0⟩:=trodAll_cons hA
  obtain ⟨rfl,rfl,rfl⟩:=trodAll_nil r0
  obtain rfl:args=#[v0]:=by cases args;simp_all
  obtain ⟨rfl,rfl⟩:=trodVars_none hV
  have hk2:=of_decide_eq_true hk
  simp only [List.append_nil,Rows.uptoBulkAll] at hk2
  obtain ⟨a0,len0,cap0,rfl⟩:=okWide_slice underlying22 (hval 0 22 v0 rfl rfl)
  have k0:=h0
  have lt0:∀ x ∈ p0,x.block<W.heap.size:=by obtain ⟨m,hm⟩:=k0;exact DataW.trod_lt m _ _ _ hm
  obtain ⟨y0,b0,w0,e0,s0⟩:∃ y,(Wa (U1 (Wh U0 (Wh (Wa (U1 (Wh Vk Vk))) (Wh (Wa (U1 (Wh Vk Vk))) (Wh U0 (Wh (Wa Vk) (U1 (Wh U0 U0))))))))) y≤Rows.uptoBulk d0∧(Qg (Uk (Ziw .i8) (Uk (Qg (Uk (fun _=>True) (fun _=>True))) (Uk (Qg (Uk (fun _=>True) (fun _=>True))) (Uk (Ziw .i8) (Uk (Qg (fun _=>True)) (Uk (fun _=>True) (fun _=>True)))))))) y∧len0=y.length∧Sl (Za.pair (Za.int .i8) (Za.pair (Za.slice (Za.pair Za.str Za.str)) (Za.pair (Za.slice (Za.pair Za.str Za.str)) (Za.pair (Za.int .i8) (Za.pair (Za.slice Za.str) (Za.pair Za.bool Za.bool)))))) (fun _=>0) W a0 cap0 y:=by
    obtain ⟨fuel,hf⟩:=h0
    obtain ⟨y,h1,h2⟩:=(Yx.slice (e:=50) (r:=(Za.pair (Za.int .i8) (Za.pair (Za.slice (Za.pair Za.str Za.str)) (Za.pair (Za.slice (Za.pair Za.str Za.str)) (Za.pair (Za.int .i8) (Za.pair (Za.slice Za.str) (Za.pair Za.bool Za.bool))))))) (R:=(@T4 _ (@Ys _ _ (@Q7 .i8) (@Ys _ _ (@RL (ByteArray×ByteArray) (@T4 _ (@Ys _ _ @Yd (@W8 _ @Yd)))) (@Ys _ _ (@RL (ByteArray×ByteArray) (@T4 _ (@Ys _ _ @Yd (@W8 _ @Yd)))) (@Ys _ _ (@Q7 .i8) (@Ys _ _ (@RL ByteArray @Yd) (@W8 _ (@Q8 _ @Q6))))))))) underlying22 (by kernel_rfl) (Yx.struct (r:=(Za.pair (Za.int .i8) (Za.pair (Za.slice (Za.pair Za.str Za.str)) (Za.pair (Za.slice (Za.pair Za.str Za.str)) (Za.pair (Za.int .i8) (Za.pair (Za.slice Za.str) (Za.pair Za.bool Za.bool))))))) (R:=(@Ys _ _ (@Q7 .i8) (@Ys _ _ (@RL (ByteArray×ByteArray) (@T4 _ (@Ys _ _ @Yd (@W8 _ @Yd)))) (@Ys _ _ (@RL (ByteArray×ByteArray) (@T4 _ (@Ys _ _ @Yd (@W8 _ @Yd)))) (@Ys _ _ (@Q7 .i8) (@Ys _ _ (@RL ByteArray @Yd) (@W8 _ (@Q8 _ @Q6)))))))) underlying50 (by kernel_rfl) (Uz.cons (r:=(Za.int .i8)) (R:=(@Q7 .i8)) (s:=(Za.pair (Za.slice (Za.pair Za.str Za.str)) (Za.pair (Za.slice (Za.pair Za.str Za.str)) (Za.pair (Za.int .i8) (Za.pair (Za.slice Za.str) (Za.pair Za.bool Za.bool)))))) (S:=(@Ys _ _ (@RL (ByteArray×ByteArray) (@T4 _ (@Ys _ _ @Yd (@W8 _ @Yd)))) (@Ys _ _ (@RL (ByteArray×ByteArray) (@T4 _ (@Ys _ _ @Yd (@W8 _ @Yd)))) (@Ys _ _ (@Q7 .i8) (@Ys _ _ (@RL ByteArray @Yd) (@W8 _ (@Q8 _ @Q6))))))) rfl (by kernel_rfl) (Yx.int underlying46) (Uz.cons (r:=(Za.slice (Za.pair Za.str Za.str))) (R:=(@RL (ByteArray×ByteArray) (@T4 _ (@Ys _ _ @Yd (@W8 _ @Yd))))) (s:=(Za.pair (Za.slice (Za.pair Za.str Za.str)) (Za.pair (Za.int .i8) (Za.pair (Za.slice Za.str) (Za.pair Za.bool Za.bool))))) (S:=(@Ys _ _ (@RL (ByteArray×ByteArray) (@T4 _ (@Ys _ _ @Yd (@W8 _ @Yd)))) (@Ys _ _ (@Q7 .i8) (@Ys _ _ (@RL ByteArray @Yd) (@W8 _ (@Q8 _ @Q6)))))) rfl (by kernel_rfl) (Yx.slice (e:=56) (r:=(Za.pair Za.str Za.str)) (R:=(@T4 _ (@Ys _ _ @Yd (@W8 _ @Yd)))) underlying47 (by kernel_rfl) (Yx.struct (r:=(Za.pair Za.str Za.str)) (R:=(@Ys _ _ @Yd (@W8 _ @Yd))) underlying56 (by kernel_rfl) (Uz.cons (r:=Za.str) (R:=@Yd) (s:=Za.str) (S:=(@W8 _ @Yd)) rfl (by kernel_rfl) (Yx.str underlying9) (Uz.one (r:=Za.str) (R:=@Yd) rfl (by kernel_rfl) (Yx.str underlying9))))) (Uz.cons (r:=(Za.slice (Za.pair Za.str Za.str))) (R:=(@RL (ByteArray×ByteArray) (@T4 _ (@Ys _ _ @Yd (@W8 _ @Yd))))) (s:=(Za.pair (Za.int .i8) (Za.pair (Za.slice Za.str) (Za.pair Za.bool Za.bool)))) (S:=(@Ys _ _ (@Q7 .i8) (@Ys _ _ (@RL ByteArray @Yd) (@W8 _ (@Q8 _ @Q6))))) rfl (by kernel_rfl) (Yx.slice (e:=56) (r:=(Za.pair Za.str Za.str)) (R:=(@T4 _ (@Ys _ _ @Yd (@W8 _ @Yd)))) underlying47 (by kernel_rfl) (Yx.struct (r:=(Za.pair Za.str Za.str)) (R:=(@Ys _ _ @Yd (@W8 _ @Yd))) underlying56 (by kernel_rfl) (Uz.cons (r:=Za.str) (R:=@Yd) (s:=Za.str) (S:=(@W8 _ @Yd)) rfl (by kernel_rfl) (Yx.str underlying9) (Uz.one (r:=Za.str) (R:=@Yd) rfl (by kernel_rfl) (Yx.str underlying9))))) (Uz.cons (r:=(Za.int .i8)) (R:=(@Q7 .i8)) (s:=(Za.pair (Za.slice Za.str) (Za.pair Za.bool Za.bool))) (S:=(@Ys _ _ (@RL ByteArray @Yd) (@W8 _ (@Q8 _ @Q6)))) rfl (by kernel_rfl) (Yx.int underlying46) (Uz.cons (r:=(Za.slice Za.str)) (R:=(@RL ByteArray @Yd)) (s:=(Za.pair Za.bool Za.bool)) (S:=(@W8 _ (@Q8 _ @Q6))) rfl (by kernel_rfl) (Yx.slice (e:=9) (r:=Za.str) (R:=@Yd) underlying40 (by kernel_rfl) (Yx.str underlying9)) (Uz.one (r:=(Za.pair Za.bool Za.bool)) (R:=(@Q8 _ @Q6)) rfl (by kernel_rfl) (Yx.array2 (r:=Za.bool) (R:=@Q6) underlying48 (by kernel_rfl) (by kernel_rfl) (Yx.bool underlying4)))))))))) hf
    obtain ⟨⟨a,cap,h3,h4⟩,_⟩:=h1
    simp [Value.cells] at h3
    obtain ⟨rfl,rfl,rfl⟩:=h3
    obtain ⟨h5,h6⟩:=(BQ.slice (BQ.agg (Ux.cons BQ.int (Ux.cons (BQ.slice (BQ.agg (Ux.cons BQ.str (Ux.one BQ.str)))) (Ux.cons (BQ.slice (BQ.agg (Ux.cons BQ.str (Ux.one BQ.str)))) (Ux.cons BQ.int (Ux.cons (BQ.slice BQ.str) (Ux.one (BQ.two BQ.bool))))))))) y d0 h2
    exact ⟨y,h5,h6,rfl,h4⟩
  subst e0
  clear hA0 hval0
  simp only [List.append_nil] at hW'
  have hb:(Wa (U1 (Wh U0 (Wh (Wa (U1 (Wh Vk Vk))) (Wh (Wa (U1 (Wh Vk Vk))) (Wh U0 (Wh (Wa Vk) (U1 (Wh U0 U0))))))))) y0≤1048576:=by omega
  refine (Zv3 y0 a0 cap0 W hb w0 s0 hgl).mono fun e W' ⟨he,bel⟩=>?_
  subst he
  exact ⟨_,rfl,_,_,_,[],_,[],hW',trodAll_mk1 (shut_bool underlying4 _),(trodAll_cons_mk (Below.trod Z1i (by kernel_rfl) (of_decide_eq_true (by kernel_rfl)) k0 bel lt0) trodAll_mk0),rfl,bel.frame _,fun h=>by cases h⟩

theorem Zwe {a b:Bool} (ha:a=true) (hb:b=true):(a&&b)=true:=by rw [ha,hb];rfl
theorem wrapper:Tryz.f4.isWrapper Tryz.pinned.checked.prog Rows.queryBackUptoRow.wrapper Rows.queryBackUptoRow.mainSum:=by unfold Func.isWrapper;first | (rw [if_pos (by decide+kernel)];kernel_rfl) | (rw [if_neg (by decide+kernel)];exact ⟨rfl,rfl⟩)
theorem inst:Tryz.f4.isInstance Tryz.pinned.checked.prog Rows.queryBackUptoRow.origin Rows.queryBackUptoRow.targs:=of_decide_eq_true (by kernel_rfl)
theorem Z19:Tryz.pinned.checked.prog.funcNamed Rows.queryBackUptoRow.func=some 4:=by kernel_rfl
set_option maxHeartbeats 20000000 in
theorem Zzv:joinedFacts Tryz.pinned.checked.prog 4 Tryz.f4 (Rows.OpenSpec.upto Rows.queryBackSpec).bare Rows.queryBackUptoRow=true:=by
  unfold joinedFacts
  repeat' with_reducible apply Zwe
  all_goals as_aux_lemma=>kernel_rfl
theorem proved:Rows.QueryBackUptoSaid:=
  OpenClaim.holds_of_cond 4 Tryz.f4 rfl rfl rfl rfl rfl rfl rfl ⟨rfl,rfl,rfl,rfl,rfl⟩ rfl rfl rfl rfl rfl Z19 func4 Zzv
    inst wrapper (fun os started H enc _ F=>by rw [OpenClaim.pre_eq_preRow];exact Z1w os started H enc F)
theorem Zdq (f:FuncId) (fn:Func) (hf:Tryz.pinned.checked.prog.funcNamed "credence/credencelaw23.QueryBack"=some f) (hfn:Tryz.pinned.checked.prog.funcs[f]?=some fn):
    true=Tryz.pinned.checked.prog.looks []∧∀ (j:Nat) t,fn.params[j]?=some t→Tryz.pinned.checked.prog.wantsStandIn t=false:=by
  obtain rfl:f=4:=Option.some.inj ((show prog.funcNamed "credence/credencelaw23.QueryBack"=some 4 by kernel_rfl).symm.trans hf) |>.symm
  obtain rfl:fn=Tryz.f4:=(Option.some.inj (func4.symm.trans hfn)).symm
  refine ⟨by kernel_rfl,fun j t ht=>?_⟩
  rw [Tryz.params4] at ht
  have hm:=Array.mem_of_getElem? ht
  have hall:∀ t ∈ (#[22]:Array Nat),prog.wantsStandIn t=false:=by
    intro t ht
    simp only [List.mem_toArray,List.mem_cons,List.not_mem_nil,or_false] at ht
    rcases ht with rfl <;> kernel_rfl
  exact hall t hm
theorem card:Rows.QueryBackUptoCardSaid:=
  Claim7.holds_tied_plain_at .later [] _ _ _ _ proved (fun _ h=>by cases h) (by kernel_rfl) (fun _ h=>by cases h) queryBackUpto_row_tie rfl ⟨rfl,rfl⟩ (by kernel_rfl) rfl Zdq (by kernel_rfl)
#print axioms card
end Go.Proofs.YtdpdogdkolblnaaGreatDoor.queryBack
