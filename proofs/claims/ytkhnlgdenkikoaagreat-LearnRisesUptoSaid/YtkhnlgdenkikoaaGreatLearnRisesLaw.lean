/-
  'LearnRises' (credence/credencelaw28.LearnRises), where what it reads is of bulk at most 1048576: the call returns true and the arguments read afterwards as before.
-/
import Derived.Test.YtkhnlgdenkikoaaGreatRows
import Derived.Test.YtkhnlgdenkikoaaGreatLearnRisesBBulk
import Derived.Test.YtkhnlgdenkikoaaGreatLearnRisesF6
import Derived.WalkKit
import Derived.ProofKit
import Derived.OpenShut
import Derived.ShutString
import Derived.ChangeOld
import Derived.Below
import Derived.JoinedCond
namespace Go.Proofs.YtkhnlgdenkikoaaGreat.learnRises
open Go Go.ChangeShapes Go.WideShapes Go.ChangeAt Go.RowKit
open Go.IntKind (i8 i16 i32 i64 u8 u16 u32 u64)
open Go.Proofs.Tryz
open Go.ChangeMaps (open_string shut_string)
set_option linter.unusedVariables false

theorem own:ownKnob prog.godebug=none:=by kernel_rfl
theorem Zwp:laidOutB prog=true:=by kernel_rfl

theorem walk (y0:Zp) (a1:Option Addr) (c1:Nat) (a2:Option Addr) (c2:Nat) (a3:Option Addr) (c3:Nat) (a4:Option Addr) (c4:Nat) (y1:List R2) (a5:Option Addr) (c5:Nat) (y2:Bool) (w:World)
    (hb:Zgc y0+(X0 (X0 Vg)) y1≤1048576) (q0:Zy6 y0)
    (s1:Sl Za.str (fun _=>0) w a1 c1 y0.2.1) (s2:Sl (Za.slice Za.str) (fun _=>0) w a2 c2 y0.2.2.1) (s3:Sl (Za.slice (Za.int .i64)) (fun _=>0) w a3 c3 y0.2.2.2.1) (s4:Sl (Za.slice (Za.pair (Za.pair Za.bool (Za.slice (Za.int .u32))) (Za.slice (Za.int .u32)))) (fun _=>0) w a4 c4 y0.2.2.2.2)
    (q1:(Vk (Vk (Qz .i64))) y1) (s5:Sl (Za.slice (Za.int .i64)) (fun _=>0) w a5 c5 y1):
    Calls prog 6 #[.agg #[.string y0.1,.slice a1 y0.2.1.length c1,.slice a2 y0.2.2.1.length c2,.slice a3 y0.2.2.2.1.length c3,.slice a4 y0.2.2.2.2.length c4],.slice a5 y1.length c5,.bool y2] w
      fun e w'=>e= .returned (.bool true)∧Below w.heap.size w w':=by
  have hn:Zgc y0≤1048576:=by omega
  obtain ⟨h1,h2⟩:=Z70 hn q0
  have h3:∀ l ∈ y1,∀ x ∈ l,-9223372036854775808≤x∧x≤9223372036854775807:=fun l hl x hx=>by
    have:=q1 l hl x hx
    simp [Qz,Lit.wf,IntKind.min,IntKind.max,IntKind.signed,IntKind.bits] at this
    omega
  exact Z3p 4611686018427387904 (fun _=>0) w a1 c1 a2 c2 a3 c3 a4 c4 y0 a5 c5 y1 y2 s1 s2 s3 s4 s5 true (Z24 h1 h2 (Z7z hn) (by rw [Z9];decide) h3)

set_option maxRecDepth 100000 in
theorem Z7h (os:Os) (started:os.Started) (H:Type) (enc:TypeId×Value→H) (F:Stop.Interp):
    ReturnsInHanded {} Tryz.checked os 6 .any ((Rows.OpenSpec.upto Rows.learnRisesSpec).pre6 enc prog Tryz.f6 Rows.learnRisesUptoRow.domain false) (((Rows.OpenSpec.upto Rows.learnRisesSpec).at F).post enc prog Tryz.f6 false true false false):=by
  refine returnsInHanded_of_cond (C:=Tryz.checked) (s:=Rows.OpenSpec.upto Rows.learnRisesSpec) (k:=Rows.uptoSmall) rfl own started (by kernel_rfl) func6
    (OpenSpec.witness (enc:=enc) (C:=Tryz.checked) (s:=Rows.OpenSpec.upto Rows.learnRisesSpec) (k:=Rows.uptoSmall) rfl false ⟨#[],#[.agg #[.string .empty,.slice none 0 0,.slice none 0 0,.slice none 0 0,.slice none 0 0],.slice none 0 0,.bool false],[]⟩ 8 (by kernel_rfl) (by kernel_rfl) (by kernel_rfl)
      (x:=([.agg [.lit (.string []),.nil,.nil,.nil,.nil],.nil,.lit (.bool false)],[],[])) (by kernel_rfl) rfl (by kernel_rfl)) ?_
  intro W base args ds gs before hval0 hW _ hk _
  have hval:∀ (j:Nat) t v,Tryz.f6.params[j]?=some t→args[j]?=some v→Value.okWide prog W .any base t v:=hval0
  have hW':=hW
  obtain ⟨p,q,hA0,hV,rfl,hfz,hnd⟩:=hW
  have hA:DataW.TrodAll enc prog W 0 (fun _=>true) true Tryz.f6.params.toList args.toList ds p:=hA0
  rw [Tryz.params6] at hA hval
  obtain ⟨v0,vs0,d0,ds0,p0,q0,hargs,rfl,rfl,h0,r0⟩:=trodAll_cons hA
  obtain ⟨v1,vs1,d1,ds1,p1,q1,rfl,rfl,rfl,h1,r1⟩:=trodAll_cons r0
  obtain ⟨v2,vs2,d2,ds2,p2,q2,rfl,rfl,rfl,h2,r2⟩:=trodAll_cons r1
  obtain ⟨rfl,rfl,rfl⟩:=trodAll_nil r2
  obtain rfl:args=#[v0,v1,v2]:=by cases args;simp_all
  obtain ⟨rfl,rfl⟩:=trodVars_none hV
  have hk2:=of_decide_eq_true hk
  simp only [List.append_nil,Rows.uptoBulkAll] at hk2
  obtain ⟨cs0,rfl,cz0⟩:=okWide_struct underlying27 (hval 0 27 v0 rfl rfl)
  have k0:=h0
  have lt0:∀ x ∈ p0,x.block<W.heap.size:=by obtain ⟨m,hm⟩:=k0;exact DataW.trod_lt m _ _ _ hm
  obtain ⟨y0,b0,w0,rd0⟩:∃ y,(U9 (Vp U0 (Vp (X0 U0) (Vp (X0 (X0 U0)) (Vp (X0 (X0 Vg)) (X0 (X0 (U9 (Vp (U9 (Vp Vg (X0 Vg))) (X0 Vg)))))))))) y≤Rows.uptoBulk d0∧(S0 (fun _=>True) (S0 (Vk (fun _=>True)) (S0 (Vk (Vk (fun _=>True))) (S0 (Vk (Vk (Qz .i64))) (Vk (Vk (S0 (S0 (fun _=>True) (Vk (Qz .u32))) (Vk (Qz .u32))))))))) y∧(Za.pair Za.str (Za.pair (Za.slice Za.str) (Za.pair (Za.slice (Za.slice Za.str)) (Za.pair (Za.slice (Za.slice (Za.int .i64))) (Za.slice (Za.slice (Za.pair (Za.pair Za.bool (Za.slice (Za.int .u32))) (Za.slice (Za.int .u32))))))))).rd (fun _=>0) W cs0.toList y []:=by
    obtain ⟨fuel,hf⟩:=h0
    obtain ⟨y,h1,h2⟩:=(Wd.struct (r:=(Za.pair Za.str (Za.pair (Za.slice Za.str) (Za.pair (Za.slice (Za.slice Za.str)) (Za.pair (Za.slice (Za.slice (Za.int .i64))) (Za.slice (Za.slice (Za.pair (Za.pair Za.bool (Za.slice (Za.int .u32))) (Za.slice (Za.int .u32)))))))))) (R:=(@Ww _ _ @S7 (@Ww _ _ (@RL ByteArray @S7) (@Ww _ _ (@RL R3 (@RL ByteArray @S7)) (@Ww _ _ (@RL R2 (@RL Int (@We .i64))) (@Va _ (@RL R4 (@RL R1 (@Uc _ (@Ww _ _ (@Uc _ (@Ww _ _ @S6 (@Va _ (@RL Int (@We .u32))))) (@Va _ (@RL Int (@We .u32))))))))))))) underlying27 (by kernel_rfl) (To.cons (r:=Za.str) (R:=@S7) (s:=(Za.pair (Za.slice Za.str) (Za.pair (Za.slice (Za.slice Za.str)) (Za.pair (Za.slice (Za.slice (Za.int .i64))) (Za.slice (Za.slice (Za.pair (Za.pair Za.bool (Za.slice (Za.int .u32))) (Za.slice (Za.int .u32))))))))) (S:=(@Ww _ _ (@RL ByteArray @S7) (@Ww _ _ (@RL R3 (@RL ByteArray @S7)) (@Ww _ _ (@RL R2 (@RL Int (@We .i64))) (@Va _ (@RL R4 (@RL R1 (@Uc _ (@Ww _ _ (@Uc _ (@Ww _ _ @S6 (@Va _ (@RL Int (@We .u32))))) (@Va _ (@RL Int (@We .u32)))))))))))) rfl (by kernel_rfl) (Wd.str underlying9) (To.cons (r:=(Za.slice Za.str)) (R:=(@RL ByteArray @S7)) (s:=(Za.pair (Za.slice (Za.slice Za.str)) (Za.pair (Za.slice (Za.slice (Za.int .i64))) (Za.slice (Za.slice (Za.pair (Za.pair Za.bool (Za.slice (Za.int .u32))) (Za.slice (Za.int .u32)))))))) (S:=(@Ww _ _ (@RL R3 (@RL ByteArray @S7)) (@Ww _ _ (@RL R2 (@RL Int (@We .i64))) (@Va _ (@RL R4 (@RL R1 (@Uc _ (@Ww _ _ (@Uc _ (@Ww _ _ @S6 (@Va _ (@RL Int (@We .u32))))) (@Va _ (@RL Int (@We .u32))))))))))) rfl (by kernel_rfl) (Wd.slice (e:=9) (r:=Za.str) (R:=@S7) underlying22 (by kernel_rfl) (Wd.str underlying9)) (To.cons (r:=(Za.slice (Za.slice Za.str))) (R:=(@RL R3 (@RL ByteArray @S7))) (s:=(Za.pair (Za.slice (Za.slice (Za.int .i64))) (Za.slice (Za.slice (Za.pair (Za.pair Za.bool (Za.slice (Za.int .u32))) (Za.slice (Za.int .u32))))))) (S:=(@Ww _ _ (@RL R2 (@RL Int (@We .i64))) (@Va _ (@RL R4 (@RL R1 (@Uc _ (@Ww _ _ (@Uc _ (@Ww _ _ @S6 (@Va _ (@RL Int (@We .u32))))) (@Va _ (@RL Int (@We .u32)))))))))) rfl (by kernel_rfl) (Wd.slice (e:=22) (r:=(Za.slice Za.str)) (R:=(@RL ByteArray @S7)) underlying23 (by kernel_rfl) (Wd.slice (e:=9) (r:=Za.str) (R:=@S7) underlying22 (by kernel_rfl) (Wd.str underlying9))) (To.cons (r:=(Za.slice (Za.slice (Za.int .i64)))) (R:=(@RL R2 (@RL Int (@We .i64)))) (s:=(Za.slice (Za.slice (Za.pair (Za.pair Za.bool (Za.slice (Za.int .u32))) (Za.slice (Za.int .u32)))))) (S:=(@Va _ (@RL R4 (@RL R1 (@Uc _ (@Ww _ _ (@Uc _ (@Ww _ _ @S6 (@Va _ (@RL Int (@We .u32))))) (@Va _ (@RL Int (@We .u32))))))))) rfl (by kernel_rfl) (Wd.slice (e:=33) (r:=(Za.slice (Za.int .i64))) (R:=(@RL Int (@We .i64))) underlying24 (by kernel_rfl) (Wd.slice (e:=3) (r:=(Za.int .i64)) (R:=(@We .i64)) underlying33 (by kernel_rfl) (Wd.int underlying3))) (To.one (r:=(Za.slice (Za.slice (Za.pair (Za.pair Za.bool (Za.slice (Za.int .u32))) (Za.slice (Za.int .u32)))))) (R:=(@RL R4 (@RL R1 (@Uc _ (@Ww _ _ (@Uc _ (@Ww _ _ @S6 (@Va _ (@RL Int (@We .u32))))) (@Va _ (@RL Int (@We .u32)))))))) rfl (by kernel_rfl) (Wd.slice (e:=114) (r:=(Za.slice (Za.pair (Za.pair Za.bool (Za.slice (Za.int .u32))) (Za.slice (Za.int .u32))))) (R:=(@RL R1 (@Uc _ (@Ww _ _ (@Uc _ (@Ww _ _ @S6 (@Va _ (@RL Int (@We .u32))))) (@Va _ (@RL Int (@We .u32))))))) underlying25 (by kernel_rfl) (Wd.slice (e:=39) (r:=(Za.pair (Za.pair Za.bool (Za.slice (Za.int .u32))) (Za.slice (Za.int .u32)))) (R:=(@Uc _ (@Ww _ _ (@Uc _ (@Ww _ _ @S6 (@Va _ (@RL Int (@We .u32))))) (@Va _ (@RL Int (@We .u32)))))) underlying114 (by kernel_rfl) (Wd.struct (r:=(Za.pair (Za.pair Za.bool (Za.slice (Za.int .u32))) (Za.slice (Za.int .u32)))) (R:=(@Ww _ _ (@Uc _ (@Ww _ _ @S6 (@Va _ (@RL Int (@We .u32))))) (@Va _ (@RL Int (@We .u32))))) underlying39 (by kernel_rfl) (To.cons (r:=(Za.pair Za.bool (Za.slice (Za.int .u32)))) (R:=(@Uc _ (@Ww _ _ @S6 (@Va _ (@RL Int (@We .u32)))))) (s:=(Za.slice (Za.int .u32))) (S:=(@Va _ (@RL Int (@We .u32)))) rfl (by kernel_rfl) (Wd.struct (r:=(Za.pair Za.bool (Za.slice (Za.int .u32)))) (R:=(@Ww _ _ @S6 (@Va _ (@RL Int (@We .u32))))) underlying37 (by kernel_rfl) (To.cons (r:=Za.bool) (R:=@S6) (s:=(Za.slice (Za.int .u32))) (S:=(@Va _ (@RL Int (@We .u32)))) rfl (by kernel_rfl) (Wd.bool underlying4) (To.one (r:=(Za.slice (Za.int .u32))) (R:=(@RL Int (@We .u32))) rfl (by kernel_rfl) (Wd.slice (e:=95) (r:=(Za.int .u32)) (R:=(@We .u32)) underlying35 (by kernel_rfl) (Wd.int underlying95))))) (To.one (r:=(Za.slice (Za.int .u32))) (R:=(@RL Int (@We .u32))) rfl (by kernel_rfl) (Wd.slice (e:=95) (r:=(Za.int .u32)) (R:=(@We .u32)) underlying35 (by kernel_rfl) (Wd.int underlying95))))))))))))) hf
    obtain ⟨h5,h6⟩:=(BQ.agg (Tn.cons BQ.str (Tn.cons (BQ.slice BQ.str) (Tn.cons (BQ.slice (BQ.slice BQ.str)) (Tn.cons (BQ.slice (BQ.slice BQ.int)) (Tn.one (BQ.slice (BQ.slice (BQ.agg (Tn.cons (BQ.agg (Tn.cons BQ.bool (Tn.one (BQ.slice BQ.int)))) (Tn.one (BQ.slice BQ.int)))))))))))) y d0 h2
    exact ⟨y,h5,h6,h1⟩
  obtain ⟨_,_,_,_,x0_0,_,u0_0,v0_0⟩:=rd0
  obtain ⟨e0_1,_⟩:=u0_0
  obtain ⟨_,_,_,_,x0_2,_,u0_2,v0_2⟩:=v0_0
  obtain ⟨⟨a0_3,cap0_3,e0_3,s0_3⟩,_⟩:=u0_2
  obtain ⟨_,_,_,_,x0_4,_,u0_4,v0_4⟩:=v0_2
  obtain ⟨⟨a0_5,cap0_5,e0_5,s0_5⟩,_⟩:=u0_4
  obtain ⟨_,_,_,_,x0_6,_,u0_6,v0_6⟩:=v0_4
  obtain ⟨⟨a0_7,cap0_7,e0_7,s0_7⟩,_⟩:=u0_6
  obtain ⟨⟨a0_8,cap0_8,e0_8,s0_8⟩,_⟩:=v0_6
  obtain rfl:cs0=#[.string y0.1,.slice a0_3 y0.2.1.length cap0_3,.slice a0_5 y0.2.2.1.length cap0_5,.slice a0_7 y0.2.2.2.1.length cap0_7,.slice a0_8 y0.2.2.2.2.length cap0_8]:=by apply Array.toList_inj.1;simp only [x0_0,e0_1,x0_2,e0_3,x0_4,e0_5,x0_6,e0_7,e0_8];rfl
  obtain ⟨a1,len1,cap1,rfl⟩:=okWide_slice underlying50 (hval 1 50 v1 rfl rfl)
  have k1:=h1
  have lt1:∀ x ∈ p1,x.block<W.heap.size:=by obtain ⟨m,hm⟩:=k1;exact DataW.trod_lt m _ _ _ hm
  obtain ⟨y1,b1,w1,e1,s1⟩:∃ y,(X0 (X0 Vg)) y≤Rows.uptoBulk d1∧(Vk (Vk (Qz .i64))) y∧len1=y.length∧Sl (Za.slice (Za.int .i64)) (fun _=>0) W a1 cap1 y:=by
    obtain ⟨fuel,hf⟩:=h1
    obtain ⟨y,h1,h2⟩:=(Wd.slice (e:=33) (r:=(Za.slice (Za.int .i64))) (R:=(@RL Int (@We .i64))) underlying50 (by kernel_rfl) (Wd.slice (e:=3) (r:=(Za.int .i64)) (R:=(@We .i64)) underlying33 (by kernel_rfl) (Wd.int underlying3))) hf
    obtain ⟨⟨a,cap,h3,h4⟩,_⟩:=h1
    simp [Value.cells] at h3
    obtain ⟨rfl,rfl,rfl⟩:=h3
    obtain ⟨h5,h6⟩:=(BQ.slice (BQ.slice BQ.int)) y d1 h2
    exact ⟨y,h5,h6,rfl,h4⟩
  subst e1
  obtain ⟨a2,rfl,rfl,rfl⟩:=open_bool underlying4 (hval 2 4 v2 rfl rfl) h2
  clear hA0 hval0
  simp only [List.append_nil] at hW'
  have hb:(U9 (Vp U0 (Vp (X0 U0) (Vp (X0 (X0 U0)) (Vp (X0 (X0 Vg)) (X0 (X0 (U9 (Vp (U9 (Vp Vg (X0 Vg))) (X0 Vg)))))))))) y0+(X0 (X0 Vg)) y1≤1048576:=by omega
  refine (walk y0 a0_3 cap0_3 a0_5 cap0_5 a0_7 cap0_7 a0_8 cap0_8 y1 a1 cap1 a2 W hb w0 s0_3 s0_5 s0_7 s0_8 w1 s1).mono fun e W' ⟨he,bel⟩=>?_
  subst he
  exact ⟨_,rfl,_,_,_,[],_,[],hW',trodAll_mk1 (shut_bool underlying4 _),(trodAll_cons_mk (Below.trod Zwp (by kernel_rfl) (of_decide_eq_true (by kernel_rfl)) k0 bel lt0) (trodAll_cons_mk (Below.trod Zwp (by kernel_rfl) (of_decide_eq_true (by kernel_rfl)) k1 bel lt1) (trodAll_cons_mk (shut_bool underlying4 _) trodAll_mk0))),rfl,bel.frame _,fun h=>by cases h⟩

theorem Z27 {a b:Bool} (ha:a=true) (hb:b=true):(a&&b)=true:=by rw [ha,hb];rfl
theorem wrapper:Tryz.f6.isWrapper Tryz.pinned.checked.prog Rows.learnRisesUptoRow.wrapper Rows.learnRisesUptoRow.mainSum:=by unfold Func.isWrapper;first | (rw [if_pos (by decide+kernel)];kernel_rfl) | (rw [if_neg (by decide+kernel)];exact ⟨rfl,rfl⟩)
theorem inst:Tryz.f6.isInstance Tryz.pinned.checked.prog Rows.learnRisesUptoRow.origin Rows.learnRisesUptoRow.targs:=of_decide_eq_true (by kernel_rfl)
theorem Z7y:Tryz.pinned.checked.prog.funcNamed Rows.learnRisesUptoRow.func=some 6:=by kernel_rfl
set_option maxHeartbeats 20000000 in
theorem Z5l:joinedFacts Tryz.pinned.checked.prog 6 Tryz.f6 (Rows.OpenSpec.upto Rows.learnRisesSpec).bare Rows.learnRisesUptoRow=true:=by
  unfold joinedFacts
  repeat' with_reducible apply Z27
  all_goals as_aux_lemma=>kernel_rfl
theorem proved:Rows.LearnRisesUptoSaid:=
  OpenClaim.holds_of_cond 6 Tryz.f6 rfl rfl rfl rfl rfl rfl rfl ⟨rfl,rfl,rfl,rfl,rfl⟩ rfl rfl rfl rfl rfl Z7y func6 Z5l
    inst wrapper (fun os started H enc _ F=>Z7h os started H enc F)
#print axioms proved
end Go.Proofs.YtkhnlgdenkikoaaGreat.learnRises
