/-
  'CodeShort' (credence/credencelaw26.CodeShort), where what it reads is of bulk at most 1048576: the call returns true and the arguments read afterwards as before.
-/
import Derived.Test.YtkhnlgdenkikoaaGreatRows
import Derived.Test.YtkhnlgdenkikoaaGreatCodeShortBBulk
import Derived.Test.YtkhnlgdenkikoaaGreatCodeShortF6
import Derived.WalkKit
import Derived.ProofKit
import Derived.OpenShut
import Derived.ShutString
import Derived.ChangeOld
import Derived.Below
import Derived.JoinedCond
namespace Go.Proofs.YtkhnlgdenkikoaaGreat.codeShort
open Go Go.ChangeShapes Go.WideShapes Go.ChangeAt Go.RowKit
open Go.IntKind (i8 i16 i32 i64 u8 u16 u32 u64)
open Go.Proofs.Tryz
open Go.ChangeMaps (open_string shut_string)
set_option linter.unusedVariables false

theorem own:ownKnob prog.godebug=none:=by kernel_rfl
theorem Z21:laidOutB prog=true:=by kernel_rfl

theorem walk (y0:Z2) (a1:Option Addr) (c1:Nat) (a2:Option Addr) (c2:Nat) (a3:Option Addr) (c3:Nat) (a4:Option Addr) (c4:Nat) (w:World)
    (hb:Zh5 y0≤1048576) (q0:Zpm y0)
    (s1:Sl Za.str (fun _=>0) w a1 c1 y0.2.1) (s2:Sl (Za.slice Za.str) (fun _=>0) w a2 c2 y0.2.2.1) (s3:Sl (Za.slice (Za.int .i64)) (fun _=>0) w a3 c3 y0.2.2.2.1) (s4:Sl (Za.slice (Za.pair (Za.pair Za.bool (Za.slice (Za.int .u32))) (Za.slice (Za.int .u32)))) (fun _=>0) w a4 c4 y0.2.2.2.2):
    Calls prog 3 #[.agg #[.string y0.1,.slice a1 y0.2.1.length c1,.slice a2 y0.2.2.1.length c2,.slice a3 y0.2.2.2.1.length c3,.slice a4 y0.2.2.2.2.length c4]] w
      fun e w'=>e= .returned (.bool true)∧Below w.heap.size w w':=by
  obtain ⟨h1,h2⟩:=Z3r hb q0
  exact Zzf 4611686018427387904 (fun _=>0) w a1 c1 a2 c2 a3 c3 a4 c4 y0 s1 s2 s3 s4 true (Zyh (K:=1074792465) h1 h2 (Z3q hb q0) (by rw [Xi];decide) (by decide) (by decide))

set_option maxRecDepth 100000 in
theorem Z27 (os:Os) (started:os.Started) (H:Type) (enc:TypeId×Value→H) (F:Stop.Interp):
    ReturnsInHanded {} Tryz.checked os 3 .any ((Rows.OpenSpec.upto Rows.codeShortSpec).pre6 enc prog Tryz.f3 Rows.codeShortUptoRow.domain false) (((Rows.OpenSpec.upto Rows.codeShortSpec).at F).post enc prog Tryz.f3 false true false false):=by
  refine returnsInHanded_of_cond (C:=Tryz.checked) (s:=Rows.OpenSpec.upto Rows.codeShortSpec) (k:=Rows.uptoSmall) rfl own started (by kernel_rfl) func3
    (OpenSpec.witness (enc:=enc) (C:=Tryz.checked) (s:=Rows.OpenSpec.upto Rows.codeShortSpec) (k:=Rows.uptoSmall) rfl false ⟨#[],#[.agg #[.string .empty,.slice none 0 0,.slice none 0 0,.slice none 0 0,.slice none 0 0]],[]⟩ 8 (by kernel_rfl) (by kernel_rfl) (by kernel_rfl)
      (x:=([.agg [.lit (.string []),.nil,.nil,.nil,.nil]],[],[])) (by kernel_rfl) rfl (by kernel_rfl)) ?_
  intro W base args ds gs before hval0 hW _ hk _
  have hval:∀ (j:Nat) t v,Tryz.f3.params[j]?=some t→args[j]?=some v→Value.okWide prog W .any base t v:=hval0
  have hW':=hW
  obtain ⟨p,q,hA0,hV,rfl,hfz,hnd⟩:=hW
  have hA:DataW.TrodAll enc prog W 0 (fun _=>true) true Tryz.f3.params.toList args.toList ds p:=hA0
  rw [Tryz.params3] at hA hval
  obtain ⟨v0,vs0,d0,ds0,p0,q0,hargs,rfl,rfl,h0,r0⟩:=trodAll_cons hA
  obtain ⟨rfl,rfl,rfl⟩:=trodAll_nil r0
  obtain rfl:args=#[v0]:=by cases args;simp_all
  obtain ⟨rfl,rfl⟩:=trodVars_none hV
  have hk2:=of_decide_eq_true hk
  simp only [List.append_nil,Rows.uptoBulkAll] at hk2
  obtain ⟨cs0,rfl,cz0⟩:=okWide_struct underlying27 (hval 0 27 v0 rfl rfl)
  have k0:=h0
  have lt0:∀ x ∈ p0,x.block<W.heap.size:=by obtain ⟨m,hm⟩:=k0;exact DataW.trod_lt m _ _ _ hm
  obtain ⟨y0,b0,w0,rd0⟩:∃ y,(U2 (Vh Ur (Vh (X6 Ur) (Vh (X6 (X6 Ur)) (Vh (X6 (X6 Vc)) (X6 (X6 (U2 (Vh (U2 (Vh Vc (X6 Vc))) (X6 Vc)))))))))) y≤Rows.uptoBulk d0∧(Sm (fun _=>True) (Sm (Vy (fun _=>True)) (Sm (Vy (Vy (fun _=>True))) (Sm (Vy (Vy (Zb0 .i64))) (Vy (Vy (Sm (Sm (fun _=>True) (Vy (Zb0 .u32))) (Vy (Zb0 .u32))))))))) y∧(Za.pair Za.str (Za.pair (Za.slice Za.str) (Za.pair (Za.slice (Za.slice Za.str)) (Za.pair (Za.slice (Za.slice (Za.int .i64))) (Za.slice (Za.slice (Za.pair (Za.pair Za.bool (Za.slice (Za.int .u32))) (Za.slice (Za.int .u32))))))))).rd (fun _=>0) W cs0.toList y []:=by
    obtain ⟨fuel,hf⟩:=h0
    obtain ⟨y,h1,h2⟩:=(Wd.struct (r:=(Za.pair Za.str (Za.pair (Za.slice Za.str) (Za.pair (Za.slice (Za.slice Za.str)) (Za.pair (Za.slice (Za.slice (Za.int .i64))) (Za.slice (Za.slice (Za.pair (Za.pair Za.bool (Za.slice (Za.int .u32))) (Za.slice (Za.int .u32)))))))))) (R:=(@Wh _ _ @Su (@Wh _ _ (@RL ByteArray @Su) (@Wh _ _ (@RL R4 (@RL ByteArray @Su)) (@Wh _ _ (@RL R2 (@RL Int (@Wa .i64))) (@Ws _ (@RL R6 (@RL R1 (@Ua _ (@Wh _ _ (@Ua _ (@Wh _ _ @Ss (@Ws _ (@RL Int (@Wa .u32))))) (@Ws _ (@RL Int (@Wa .u32))))))))))))) underlying27 (by kernel_rfl) (Ta.cons (r:=Za.str) (R:=@Su) (s:=(Za.pair (Za.slice Za.str) (Za.pair (Za.slice (Za.slice Za.str)) (Za.pair (Za.slice (Za.slice (Za.int .i64))) (Za.slice (Za.slice (Za.pair (Za.pair Za.bool (Za.slice (Za.int .u32))) (Za.slice (Za.int .u32))))))))) (S:=(@Wh _ _ (@RL ByteArray @Su) (@Wh _ _ (@RL R4 (@RL ByteArray @Su)) (@Wh _ _ (@RL R2 (@RL Int (@Wa .i64))) (@Ws _ (@RL R6 (@RL R1 (@Ua _ (@Wh _ _ (@Ua _ (@Wh _ _ @Ss (@Ws _ (@RL Int (@Wa .u32))))) (@Ws _ (@RL Int (@Wa .u32)))))))))))) rfl (by kernel_rfl) (Wd.str underlying9) (Ta.cons (r:=(Za.slice Za.str)) (R:=(@RL ByteArray @Su)) (s:=(Za.pair (Za.slice (Za.slice Za.str)) (Za.pair (Za.slice (Za.slice (Za.int .i64))) (Za.slice (Za.slice (Za.pair (Za.pair Za.bool (Za.slice (Za.int .u32))) (Za.slice (Za.int .u32)))))))) (S:=(@Wh _ _ (@RL R4 (@RL ByteArray @Su)) (@Wh _ _ (@RL R2 (@RL Int (@Wa .i64))) (@Ws _ (@RL R6 (@RL R1 (@Ua _ (@Wh _ _ (@Ua _ (@Wh _ _ @Ss (@Ws _ (@RL Int (@Wa .u32))))) (@Ws _ (@RL Int (@Wa .u32))))))))))) rfl (by kernel_rfl) (Wd.slice (e:=9) (r:=Za.str) (R:=@Su) underlying22 (by kernel_rfl) (Wd.str underlying9)) (Ta.cons (r:=(Za.slice (Za.slice Za.str))) (R:=(@RL R4 (@RL ByteArray @Su))) (s:=(Za.pair (Za.slice (Za.slice (Za.int .i64))) (Za.slice (Za.slice (Za.pair (Za.pair Za.bool (Za.slice (Za.int .u32))) (Za.slice (Za.int .u32))))))) (S:=(@Wh _ _ (@RL R2 (@RL Int (@Wa .i64))) (@Ws _ (@RL R6 (@RL R1 (@Ua _ (@Wh _ _ (@Ua _ (@Wh _ _ @Ss (@Ws _ (@RL Int (@Wa .u32))))) (@Ws _ (@RL Int (@Wa .u32)))))))))) rfl (by kernel_rfl) (Wd.slice (e:=22) (r:=(Za.slice Za.str)) (R:=(@RL ByteArray @Su)) underlying23 (by kernel_rfl) (Wd.slice (e:=9) (r:=Za.str) (R:=@Su) underlying22 (by kernel_rfl) (Wd.str underlying9))) (Ta.cons (r:=(Za.slice (Za.slice (Za.int .i64)))) (R:=(@RL R2 (@RL Int (@Wa .i64)))) (s:=(Za.slice (Za.slice (Za.pair (Za.pair Za.bool (Za.slice (Za.int .u32))) (Za.slice (Za.int .u32)))))) (S:=(@Ws _ (@RL R6 (@RL R1 (@Ua _ (@Wh _ _ (@Ua _ (@Wh _ _ @Ss (@Ws _ (@RL Int (@Wa .u32))))) (@Ws _ (@RL Int (@Wa .u32))))))))) rfl (by kernel_rfl) (Wd.slice (e:=33) (r:=(Za.slice (Za.int .i64))) (R:=(@RL Int (@Wa .i64))) underlying24 (by kernel_rfl) (Wd.slice (e:=3) (r:=(Za.int .i64)) (R:=(@Wa .i64)) underlying33 (by kernel_rfl) (Wd.int underlying3))) (Ta.one (r:=(Za.slice (Za.slice (Za.pair (Za.pair Za.bool (Za.slice (Za.int .u32))) (Za.slice (Za.int .u32)))))) (R:=(@RL R6 (@RL R1 (@Ua _ (@Wh _ _ (@Ua _ (@Wh _ _ @Ss (@Ws _ (@RL Int (@Wa .u32))))) (@Ws _ (@RL Int (@Wa .u32)))))))) rfl (by kernel_rfl) (Wd.slice (e:=114) (r:=(Za.slice (Za.pair (Za.pair Za.bool (Za.slice (Za.int .u32))) (Za.slice (Za.int .u32))))) (R:=(@RL R1 (@Ua _ (@Wh _ _ (@Ua _ (@Wh _ _ @Ss (@Ws _ (@RL Int (@Wa .u32))))) (@Ws _ (@RL Int (@Wa .u32))))))) underlying25 (by kernel_rfl) (Wd.slice (e:=39) (r:=(Za.pair (Za.pair Za.bool (Za.slice (Za.int .u32))) (Za.slice (Za.int .u32)))) (R:=(@Ua _ (@Wh _ _ (@Ua _ (@Wh _ _ @Ss (@Ws _ (@RL Int (@Wa .u32))))) (@Ws _ (@RL Int (@Wa .u32)))))) underlying114 (by kernel_rfl) (Wd.struct (r:=(Za.pair (Za.pair Za.bool (Za.slice (Za.int .u32))) (Za.slice (Za.int .u32)))) (R:=(@Wh _ _ (@Ua _ (@Wh _ _ @Ss (@Ws _ (@RL Int (@Wa .u32))))) (@Ws _ (@RL Int (@Wa .u32))))) underlying39 (by kernel_rfl) (Ta.cons (r:=(Za.pair Za.bool (Za.slice (Za.int .u32)))) (R:=(@Ua _ (@Wh _ _ @Ss (@Ws _ (@RL Int (@Wa .u32)))))) (s:=(Za.slice (Za.int .u32))) (S:=(@Ws _ (@RL Int (@Wa .u32)))) rfl (by kernel_rfl) (Wd.struct (r:=(Za.pair Za.bool (Za.slice (Za.int .u32)))) (R:=(@Wh _ _ @Ss (@Ws _ (@RL Int (@Wa .u32))))) underlying37 (by kernel_rfl) (Ta.cons (r:=Za.bool) (R:=@Ss) (s:=(Za.slice (Za.int .u32))) (S:=(@Ws _ (@RL Int (@Wa .u32)))) rfl (by kernel_rfl) (Wd.bool underlying4) (Ta.one (r:=(Za.slice (Za.int .u32))) (R:=(@RL Int (@Wa .u32))) rfl (by kernel_rfl) (Wd.slice (e:=95) (r:=(Za.int .u32)) (R:=(@Wa .u32)) underlying35 (by kernel_rfl) (Wd.int underlying95))))) (Ta.one (r:=(Za.slice (Za.int .u32))) (R:=(@RL Int (@Wa .u32))) rfl (by kernel_rfl) (Wd.slice (e:=95) (r:=(Za.int .u32)) (R:=(@Wa .u32)) underlying35 (by kernel_rfl) (Wd.int underlying95))))))))))))) hf
    obtain ⟨h5,h6⟩:=(BQ.agg (U8.cons BQ.str (U8.cons (BQ.slice BQ.str) (U8.cons (BQ.slice (BQ.slice BQ.str)) (U8.cons (BQ.slice (BQ.slice BQ.int)) (U8.one (BQ.slice (BQ.slice (BQ.agg (U8.cons (BQ.agg (U8.cons BQ.bool (U8.one (BQ.slice BQ.int)))) (U8.one (BQ.slice BQ.int)))))))))))) y d0 h2
    exact ⟨y,h5,h6,h1⟩
  obtain ⟨_,_,_,_,x0_0,_,u0_0,v0_0⟩:=rd0
  obtain ⟨e0_1,_⟩:=u0_0
  obtain ⟨_,_,_,_,x0_2,_,u0_2,v0_2⟩:=v0_0
  obtain ⟨⟨a0_3,cap0_3,e0_3,s0_3⟩,_⟩:=u0_2
  obtain ⟨_,_,_,_,x0_4,_,u0_4,v0_4⟩:=v0_2
  obtain ⟨⟨a0_5,cap0_5,e0_5,s0_5⟩,_⟩:=u0_4
  obtain ⟨_,_,_,_,x0_6,_,u0_6,v0_6⟩:=v0_4
  obtain ⟨⟨a0_7,cap0_7,e0_7,s0_7⟩,_⟩:=u0_6
  obtain ⟨⟨a0_8,cap0_8,e0_8,s0_8⟩,_⟩:=v0_6
  obtain rfl:cs0=#[.string y0.1,.slice a0_3 y0.2.1.length cap0_3,.slice a0_5 y0.2.2.1.length cap0_5,.slice a0_7 y0.2.2.2.1.length cap0_7,.slice a0_8 y0.2.2.2.2.length cap0_8]:=by apply Array.toList_inj.1;simp only [x0_0,e0_1,x0_2,e0_3,x0_4,e0_5,x0_6,e0_7,e0_8];rfl
  clear hA0 hval0
  simp only [List.append_nil] at hW'
  have hb:(U2 (Vh Ur (Vh (X6 Ur) (Vh (X6 (X6 Ur)) (Vh (X6 (X6 Vc)) (X6 (X6 (U2 (Vh (U2 (Vh Vc (X6 Vc))) (X6 Vc)))))))))) y0≤1048576:=by omega
  refine (walk y0 a0_3 cap0_3 a0_5 cap0_5 a0_7 cap0_7 a0_8 cap0_8 W hb w0 s0_3 s0_5 s0_7 s0_8).mono fun e W' ⟨he,bel⟩=>?_
  subst he
  exact ⟨_,rfl,_,_,_,[],_,[],hW',trodAll_mk1 (shut_bool underlying4 _),(trodAll_cons_mk (Below.trod Z21 (by kernel_rfl) (of_decide_eq_true (by kernel_rfl)) k0 bel lt0) trodAll_mk0),rfl,bel.frame _,fun h=>by cases h⟩

theorem Zyl {a b:Bool} (ha:a=true) (hb:b=true):(a&&b)=true:=by rw [ha,hb];rfl
theorem wrapper:Tryz.f3.isWrapper Tryz.pinned.checked.prog Rows.codeShortUptoRow.wrapper Rows.codeShortUptoRow.mainSum:=by unfold Func.isWrapper;first | (rw [if_pos (by decide+kernel)];kernel_rfl) | (rw [if_neg (by decide+kernel)];exact ⟨rfl,rfl⟩)
theorem inst:Tryz.f3.isInstance Tryz.pinned.checked.prog Rows.codeShortUptoRow.origin Rows.codeShortUptoRow.targs:=of_decide_eq_true (by kernel_rfl)
theorem Z3p:Tryz.pinned.checked.prog.funcNamed Rows.codeShortUptoRow.func=some 3:=by kernel_rfl
set_option maxHeartbeats 20000000 in
theorem Z0u:joinedFacts Tryz.pinned.checked.prog 3 Tryz.f3 (Rows.OpenSpec.upto Rows.codeShortSpec).bare Rows.codeShortUptoRow=true:=by
  unfold joinedFacts
  repeat' with_reducible apply Zyl
  all_goals as_aux_lemma=>kernel_rfl
theorem proved:Rows.CodeShortUptoSaid:=
  OpenClaim.holds_of_cond 3 Tryz.f3 rfl rfl rfl rfl rfl rfl rfl ⟨rfl,rfl,rfl,rfl,rfl⟩ rfl rfl rfl rfl rfl Z3p func3 Z0u
    inst wrapper (fun os started H enc _ F=>Z27 os started H enc F)
#print axioms proved
end Go.Proofs.YtkhnlgdenkikoaaGreat.codeShort
