/-
  'CodeDecode' (credence/credencelaw26.CodeDecode), where what it reads is of bulk at most 1048576: the call returns true and the arguments read afterwards as before.
-/
import Derived.Test.YtbmjpjhbankpoaaGreatRows
import Derived.Test.YtbmjpjhbankpoaaGreatCodeDecodeBBulk
import Derived.Test.YtbmjpjhbankpoaaGreatCodeDecodeF5
import Derived.WalkKit
import Derived.ProofKit
import Derived.OpenShut
import Derived.ShutString
import Derived.ChangeOld
import Derived.Below
import Derived.JoinedCond
namespace Go.Proofs.YtbmjpjhbankpoaaGreat.codeDecode
open Go Go.ChangeShapes Go.WideShapes Go.ChangeAt Go.RowKit
open Go.IntKind (i8 i16 i32 i64 u8 u16 u32 u64)
open Go.Proofs.Tryz
open Go.ChangeMaps (open_string shut_string)
set_option linter.unusedVariables false

theorem own:ownKnob Tryz.prog.godebug=none:=by kernel_rfl
theorem Z05:laidOutB Tryz.prog=true:=by kernel_rfl

theorem walk (y0:Xt) (a1:Option Addr) (c1:Nat) (a2:Option Addr) (c2:Nat) (a3:Option Addr) (c3:Nat) (a4:Option Addr) (c4:Nat) (y1:ByteArray) (w:World)
    (hb:Zkm y0+Vf y1≤1048576) (q0:Zt2 y0)
    (s1:Sl Za.str (fun _=>0) w a1 c1 y0.2.1) (s2:Sl (Za.slice Za.str) (fun _=>0) w a2 c2 y0.2.2.1) (s3:Sl (Za.slice (Za.int .i64)) (fun _=>0) w a3 c3 y0.2.2.2.1) (s4:Sl (Za.slice (Za.pair (Za.pair Za.bool (Za.slice (Za.int .u32))) (Za.slice (Za.int .u32)))) (fun _=>0) w a4 c4 y0.2.2.2.2)
    (q1:y1.size≤maxLen):
    Calls Tryz.prog 6 #[.agg #[.string y0.1,.slice a1 y0.2.1.length c1,.slice a2 y0.2.2.1.length c2,.slice a3 y0.2.2.2.1.length c3,.slice a4 y0.2.2.2.2.length c4],.string y1] w
      fun e w'=>e= .returned (.bool true)∧Below w.heap.size w w':=by
  have hn:Zkm y0≤1048576:=by omega
  obtain ⟨h1,h2⟩:=Z1w hn q0
  exact Zxr 4611686018427387904 (fun _=>0) w a1 c1 a2 c2 a3 c3 a4 c4 y0 y1 s1 s2 s3 s4 true (Zw2 (K:=1074792465) h1 h2 (by rw [Xd];decide) (by decide) (by decide))

set_option maxRecDepth 100000 in
theorem Z1b (os:Os) (started:os.Started) (H:Type) (enc:TypeId×Value→H) (F:Stop.Interp):
    ReturnsInHanded {} Tryz.checked os 6 .any ((Rows.OpenSpec.upto Rows.codeDecodeSpec).pre6 enc Tryz.prog Tryz.f6 Rows.codeDecodeUptoRow.domain false) (((Rows.OpenSpec.upto Rows.codeDecodeSpec).at F).post enc Tryz.prog Tryz.f6 false true false false):=by
  refine returnsInHanded_of_cond (C:=Tryz.checked) (s:=Rows.OpenSpec.upto Rows.codeDecodeSpec) (k:=Rows.uptoSmall) rfl own started (by kernel_rfl) func6
    (OpenSpec.witness (enc:=enc) (C:=Tryz.checked) (s:=Rows.OpenSpec.upto Rows.codeDecodeSpec) (k:=Rows.uptoSmall) rfl false ⟨#[],#[.agg #[.string .empty,.slice none 0 0,.slice none 0 0,.slice none 0 0,.slice none 0 0],.string .empty],[]⟩ 8 (by kernel_rfl) (by kernel_rfl) (by kernel_rfl)
      (x:=([.agg [.lit (.string []),.nil,.nil,.nil,.nil],.lit (.string [])],[],[])) (by kernel_rfl) rfl (by kernel_rfl)) ?_
  intro W base args ds gs before hval0 hW _ hk _
  have hval:∀ (j:Nat) t v,Tryz.f6.params[j]?=some t→args[j]?=some v→Value.okWide Tryz.prog W .any base t v:=hval0
  have hW':=hW
  obtain ⟨p,q,hA0,hV,rfl,hfz,hnd⟩:=hW
  have hA:DataW.TrodAll enc Tryz.prog W 0 (fun _=>true) true Tryz.f6.params.toList args.toList ds p:=hA0
  rw [Tryz.params6] at hA hval
  obtain ⟨v0,vs0,d0,ds0,p0,q0,hargs,rfl,rfl,h0,r0⟩:=trodAll_cons hA
  obtain ⟨v1,vs1,d1,ds1,p1,q1,rfl,rfl,rfl,h1,r1⟩:=trodAll_cons r0
  obtain ⟨rfl,rfl,rfl⟩:=trodAll_nil r1
  obtain rfl:args=#[v0,v1]:=by cases args;simp_all
  obtain ⟨rfl,rfl⟩:=trodVars_none hV
  have hk2:=of_decide_eq_true hk
  simp only [List.append_nil,Rows.uptoBulkAll] at hk2
  obtain ⟨cs0,rfl,cz0⟩:=okWide_struct underlying27 (hval 0 27 v0 rfl rfl)
  have k0:=h0
  have lt0:∀ x ∈ p0,x.block<W.heap.size:=by obtain ⟨m,hm⟩:=k0;exact DataW.trod_lt m _ _ _ hm
  obtain ⟨y0,b0,w0,rd0⟩:∃ y,(Ut (W9 Vf (W9 (X7 Vf) (W9 (X7 (X7 Vf)) (W9 (X7 (X7 Wy)) (X7 (X7 (Ut (W9 (Ut (W9 Wy (X7 Wy))) (X7 Wy)))))))))) y≤Rows.uptoBulk d0∧(Tu (fun _=>True) (Tu (Ve (fun _=>True)) (Tu (Ve (Ve (fun _=>True))) (Tu (Ve (Ve (Zbb .i64))) (Ve (Ve (Tu (Tu (fun _=>True) (Ve (Zbb .u32))) (Ve (Zbb .u32))))))))) y∧(Za.pair Za.str (Za.pair (Za.slice Za.str) (Za.pair (Za.slice (Za.slice Za.str)) (Za.pair (Za.slice (Za.slice (Za.int .i64))) (Za.slice (Za.slice (Za.pair (Za.pair Za.bool (Za.slice (Za.int .u32))) (Za.slice (Za.int .u32))))))))).rd (fun _=>0) W cs0.toList y []:=by
    obtain ⟨fuel,hf⟩:=h0
    obtain ⟨y,h1,h2⟩:=(Y0.struct (r:=(Za.pair Za.str (Za.pair (Za.slice Za.str) (Za.pair (Za.slice (Za.slice Za.str)) (Za.pair (Za.slice (Za.slice (Za.int .i64))) (Za.slice (Za.slice (Za.pair (Za.pair Za.bool (Za.slice (Za.int .u32))) (Za.slice (Za.int .u32)))))))))) (R:=(@Y3 _ _ @T4 (@Y3 _ _ (@RL ByteArray @T4) (@Y3 _ _ (@RL Ra (@RL ByteArray @T4)) (@Y3 _ _ (@RL R2 (@RL Int (@Yu .i64))) (@Wf _ (@RL Re (@RL R0 (@Vt _ (@Y3 _ _ (@Vt _ (@Y3 _ _ @T3 (@Wf _ (@RL Int (@Yu .u32))))) (@Wf _ (@RL Int (@Yu .u32))))))))))))) underlying27 (by kernel_rfl) (Ur.cons (r:=Za.str) (R:=@T4) (s:=(Za.pair (Za.slice Za.str) (Za.pair (Za.slice (Za.slice Za.str)) (Za.pair (Za.slice (Za.slice (Za.int .i64))) (Za.slice (Za.slice (Za.pair (Za.pair Za.bool (Za.slice (Za.int .u32))) (Za.slice (Za.int .u32))))))))) (S:=(@Y3 _ _ (@RL ByteArray @T4) (@Y3 _ _ (@RL Ra (@RL ByteArray @T4)) (@Y3 _ _ (@RL R2 (@RL Int (@Yu .i64))) (@Wf _ (@RL Re (@RL R0 (@Vt _ (@Y3 _ _ (@Vt _ (@Y3 _ _ @T3 (@Wf _ (@RL Int (@Yu .u32))))) (@Wf _ (@RL Int (@Yu .u32)))))))))))) rfl (by kernel_rfl) (Y0.str underlying9) (Ur.cons (r:=(Za.slice Za.str)) (R:=(@RL ByteArray @T4)) (s:=(Za.pair (Za.slice (Za.slice Za.str)) (Za.pair (Za.slice (Za.slice (Za.int .i64))) (Za.slice (Za.slice (Za.pair (Za.pair Za.bool (Za.slice (Za.int .u32))) (Za.slice (Za.int .u32)))))))) (S:=(@Y3 _ _ (@RL Ra (@RL ByteArray @T4)) (@Y3 _ _ (@RL R2 (@RL Int (@Yu .i64))) (@Wf _ (@RL Re (@RL R0 (@Vt _ (@Y3 _ _ (@Vt _ (@Y3 _ _ @T3 (@Wf _ (@RL Int (@Yu .u32))))) (@Wf _ (@RL Int (@Yu .u32))))))))))) rfl (by kernel_rfl) (Y0.slice (e:=9) (r:=Za.str) (R:=@T4) underlying22 (by kernel_rfl) (Y0.str underlying9)) (Ur.cons (r:=(Za.slice (Za.slice Za.str))) (R:=(@RL Ra (@RL ByteArray @T4))) (s:=(Za.pair (Za.slice (Za.slice (Za.int .i64))) (Za.slice (Za.slice (Za.pair (Za.pair Za.bool (Za.slice (Za.int .u32))) (Za.slice (Za.int .u32))))))) (S:=(@Y3 _ _ (@RL R2 (@RL Int (@Yu .i64))) (@Wf _ (@RL Re (@RL R0 (@Vt _ (@Y3 _ _ (@Vt _ (@Y3 _ _ @T3 (@Wf _ (@RL Int (@Yu .u32))))) (@Wf _ (@RL Int (@Yu .u32)))))))))) rfl (by kernel_rfl) (Y0.slice (e:=22) (r:=(Za.slice Za.str)) (R:=(@RL ByteArray @T4)) underlying23 (by kernel_rfl) (Y0.slice (e:=9) (r:=Za.str) (R:=@T4) underlying22 (by kernel_rfl) (Y0.str underlying9))) (Ur.cons (r:=(Za.slice (Za.slice (Za.int .i64)))) (R:=(@RL R2 (@RL Int (@Yu .i64)))) (s:=(Za.slice (Za.slice (Za.pair (Za.pair Za.bool (Za.slice (Za.int .u32))) (Za.slice (Za.int .u32)))))) (S:=(@Wf _ (@RL Re (@RL R0 (@Vt _ (@Y3 _ _ (@Vt _ (@Y3 _ _ @T3 (@Wf _ (@RL Int (@Yu .u32))))) (@Wf _ (@RL Int (@Yu .u32))))))))) rfl (by kernel_rfl) (Y0.slice (e:=40) (r:=(Za.slice (Za.int .i64))) (R:=(@RL Int (@Yu .i64))) underlying24 (by kernel_rfl) (Y0.slice (e:=3) (r:=(Za.int .i64)) (R:=(@Yu .i64)) underlying40 (by kernel_rfl) (Y0.int underlying3))) (Ur.one (r:=(Za.slice (Za.slice (Za.pair (Za.pair Za.bool (Za.slice (Za.int .u32))) (Za.slice (Za.int .u32)))))) (R:=(@RL Re (@RL R0 (@Vt _ (@Y3 _ _ (@Vt _ (@Y3 _ _ @T3 (@Wf _ (@RL Int (@Yu .u32))))) (@Wf _ (@RL Int (@Yu .u32)))))))) rfl (by kernel_rfl) (Y0.slice (e:=56) (r:=(Za.slice (Za.pair (Za.pair Za.bool (Za.slice (Za.int .u32))) (Za.slice (Za.int .u32))))) (R:=(@RL R0 (@Vt _ (@Y3 _ _ (@Vt _ (@Y3 _ _ @T3 (@Wf _ (@RL Int (@Yu .u32))))) (@Wf _ (@RL Int (@Yu .u32))))))) underlying25 (by kernel_rfl) (Y0.slice (e:=47) (r:=(Za.pair (Za.pair Za.bool (Za.slice (Za.int .u32))) (Za.slice (Za.int .u32)))) (R:=(@Vt _ (@Y3 _ _ (@Vt _ (@Y3 _ _ @T3 (@Wf _ (@RL Int (@Yu .u32))))) (@Wf _ (@RL Int (@Yu .u32)))))) underlying56 (by kernel_rfl) (Y0.struct (r:=(Za.pair (Za.pair Za.bool (Za.slice (Za.int .u32))) (Za.slice (Za.int .u32)))) (R:=(@Y3 _ _ (@Vt _ (@Y3 _ _ @T3 (@Wf _ (@RL Int (@Yu .u32))))) (@Wf _ (@RL Int (@Yu .u32))))) underlying47 (by kernel_rfl) (Ur.cons (r:=(Za.pair Za.bool (Za.slice (Za.int .u32)))) (R:=(@Vt _ (@Y3 _ _ @T3 (@Wf _ (@RL Int (@Yu .u32)))))) (s:=(Za.slice (Za.int .u32))) (S:=(@Wf _ (@RL Int (@Yu .u32)))) rfl (by kernel_rfl) (Y0.struct (r:=(Za.pair Za.bool (Za.slice (Za.int .u32)))) (R:=(@Y3 _ _ @T3 (@Wf _ (@RL Int (@Yu .u32))))) underlying45 (by kernel_rfl) (Ur.cons (r:=Za.bool) (R:=@T3) (s:=(Za.slice (Za.int .u32))) (S:=(@Wf _ (@RL Int (@Yu .u32)))) rfl (by kernel_rfl) (Y0.bool underlying4) (Ur.one (r:=(Za.slice (Za.int .u32))) (R:=(@RL Int (@Yu .u32))) rfl (by kernel_rfl) (Y0.slice (e:=79) (r:=(Za.int .u32)) (R:=(@Yu .u32)) underlying43 (by kernel_rfl) (Y0.int underlying79))))) (Ur.one (r:=(Za.slice (Za.int .u32))) (R:=(@RL Int (@Yu .u32))) rfl (by kernel_rfl) (Y0.slice (e:=79) (r:=(Za.int .u32)) (R:=(@Yu .u32)) underlying43 (by kernel_rfl) (Y0.int underlying79))))))))))))) hf
    obtain ⟨h5,h6⟩:=(BQ.agg (Uo.cons BQ.str (Uo.cons (BQ.slice BQ.str) (Uo.cons (BQ.slice (BQ.slice BQ.str)) (Uo.cons (BQ.slice (BQ.slice BQ.int)) (Uo.one (BQ.slice (BQ.slice (BQ.agg (Uo.cons (BQ.agg (Uo.cons BQ.bool (Uo.one (BQ.slice BQ.int)))) (Uo.one (BQ.slice BQ.int)))))))))))) y d0 h2
    exact ⟨y,h5,h6,h1⟩
  obtain ⟨_,_,_,_,x0_0,_,u0_0,v0_0⟩:=rd0
  obtain ⟨e0_1,_⟩:=u0_0
  obtain ⟨_,_,_,_,x0_2,_,u0_2,v0_2⟩:=v0_0
  obtain ⟨⟨a0_3,cap0_3,e0_3,s0_3⟩,_⟩:=u0_2
  obtain ⟨_,_,_,_,x0_4,_,u0_4,v0_4⟩:=v0_2
  obtain ⟨⟨a0_5,cap0_5,e0_5,s0_5⟩,_⟩:=u0_4
  obtain ⟨_,_,_,_,x0_6,_,u0_6,v0_6⟩:=v0_4
  obtain ⟨⟨a0_7,cap0_7,e0_7,s0_7⟩,_⟩:=u0_6
  obtain ⟨⟨a0_8,cap0_8,e0_8,s0_8⟩,_⟩:=v0_6
  obtain rfl:cs0=#[.string y0.1,.slice a0_3 y0.2.1.length cap0_3,.slice a0_5 y0.2.2.1.length cap0_5,.slice a0_7 y0.2.2.2.1.length cap0_7,.slice a0_8 y0.2.2.2.2.length cap0_8]:=by apply Array.toList_inj.1;simp only [x0_0,e0_1,x0_2,e0_3,x0_4,e0_5,x0_6,e0_7,e0_8];rfl
  obtain ⟨a1,rfl,rfl,rfl,w1⟩:=open_string underlying9 (hval 1 9 v1 rfl rfl) h1
  have b1:Vf a1≤Rows.uptoBulk (DataW.lit (H:=H) (.string a1.data.toList)):=by simp only [Vf,Rows.uptoBulk,Array.length_toList];exact Nat.le_refl _
  clear hA0 hval0
  simp only [List.append_nil] at hW'
  have hb:(Ut (W9 Vf (W9 (X7 Vf) (W9 (X7 (X7 Vf)) (W9 (X7 (X7 Wy)) (X7 (X7 (Ut (W9 (Ut (W9 Wy (X7 Wy))) (X7 Wy)))))))))) y0+Vf a1≤1048576:=by omega
  refine (walk y0 a0_3 cap0_3 a0_5 cap0_5 a0_7 cap0_7 a0_8 cap0_8 a1 W hb w0 s0_3 s0_5 s0_7 s0_8 w1).mono fun e W' ⟨he,bel⟩=>?_
  subst he
  exact ⟨_,rfl,_,_,_,[],_,[],hW',trodAll_mk1 (shut_bool underlying4 _),(trodAll_cons_mk (Below.trod Z05 (by kernel_rfl) (of_decide_eq_true (by kernel_rfl)) k0 bel lt0) (trodAll_cons_mk (shut_string underlying9 w1) trodAll_mk0)),rfl,bel.frame _,fun h=>by cases h⟩

theorem Zw6 {a b:Bool} (ha:a=true) (hb:b=true):(a&&b)=true:=by rw [ha,hb];rfl
theorem wrapper:Tryz.f6.isWrapper Tryz.pinned.checked.prog Rows.codeDecodeUptoRow.wrapper Rows.codeDecodeUptoRow.mainSum:=by unfold Func.isWrapper;first | (rw [if_pos (by decide+kernel)];kernel_rfl) | (rw [if_neg (by decide+kernel)];exact ⟨rfl,rfl⟩)
theorem inst:Tryz.f6.isInstance Tryz.pinned.checked.prog Rows.codeDecodeUptoRow.origin Rows.codeDecodeUptoRow.targs:=of_decide_eq_true (by kernel_rfl)
theorem Z1u:Tryz.pinned.checked.prog.funcNamed Rows.codeDecodeUptoRow.func=some 6:=by kernel_rfl
set_option maxHeartbeats 20000000 in
theorem Zzi:joinedFacts Tryz.pinned.checked.prog 6 Tryz.f6 (Rows.OpenSpec.upto Rows.codeDecodeSpec).bare Rows.codeDecodeUptoRow=true:=by
  unfold joinedFacts
  repeat' with_reducible apply Zw6
  all_goals as_aux_lemma=>kernel_rfl
theorem proved:Rows.CodeDecodeUptoSaid:=
  OpenClaim.holds_of_cond 6 Tryz.f6 rfl rfl rfl rfl rfl rfl rfl ⟨rfl,rfl,rfl,rfl,rfl⟩ rfl rfl rfl rfl rfl Z1u func6 Zzi
    inst wrapper (fun os started H enc _ F=>Z1b os started H enc F)
#print axioms proved
end Go.Proofs.YtbmjpjhbankpoaaGreat.codeDecode
