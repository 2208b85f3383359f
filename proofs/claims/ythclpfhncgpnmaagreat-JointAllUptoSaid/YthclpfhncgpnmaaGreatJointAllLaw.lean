/-
  'JointAll' (credence/credencelaw20.JointAll), where what it reads is of bulk at most 1048576: the call returns true and the arguments read afterwards as before.
-/
import Derived.Test.YthclpfhncgpnmaaGreatRows
import Derived.Test.YthclpfhncgpnmaaGreatJointAllBBulk
import Derived.Test.YthclpfhncgpnmaaGreatJointAllF6
import Derived.WalkKit
import Derived.ProofKit
import Derived.OpenShut
import Derived.ShutString
import Derived.ChangeOld
import Derived.Below
import Derived.JoinedCond
namespace Go.Proofs.YthclpfhncgpnmaaGreat.jointAll
open Go Go.ChangeShapes Go.WideShapes Go.ChangeAt Go.RowKit
open Go.IntKind (i8 i16 i32 i64 u8 u16 u32 u64)
open Go.Proofs.Tryz
open Go.ChangeMaps (open_string shut_string)
set_option linter.unusedVariables false

theorem Zki:ownKnob prog.godebug=none:=by kernel_rfl
theorem Z3b:laidOutB prog=true:=by kernel_rfl

theorem walk (y0:Z6) (a1:Option Addr) (c1:Nat) (a2:Option Addr) (c2:Nat) (a3:Option Addr) (c3:Nat) (a4:Option Addr) (c4:Nat) (most:Int) (w:World)
    (hn:Ziq y0≤1048576) (q0:Zpc y0)
    (s1:Sl Za.str (fun _=>0) w a1 c1 y0.2.1) (s2:Sl (Za.slice Za.str) (fun _=>0) w a2 c2 y0.2.2.1) (s3:Sl (Za.slice (Za.int .i64)) (fun _=>0) w a3 c3 y0.2.2.2.1) (s4:Sl (Za.slice (Za.pair (Za.pair Za.bool (Za.slice (Za.int .u32))) (Za.slice (Za.int .u32)))) (fun _=>0) w a4 c4 y0.2.2.2.2)
    (q1:Zai .i64 most):
    Calls prog 3 #[.agg #[.string y0.1,.slice a1 y0.2.1.length c1,.slice a2 y0.2.2.1.length c2,.slice a3 y0.2.2.2.1.length c3,.slice a4 y0.2.2.2.2.length c4],.int .i64 most] w
      fun e w'=>e= .returned (.bool true)∧Below w.heap.size w w':=by
  obtain ⟨h1,h2⟩:=Z3y hn q0
  exact Zzi 4611686018427387904 (fun _=>0) w a1 c1 a2 c2 a3 c3 a4 c4 y0 most s1 s2 s3 s4 true (Zyt (K:=1074792465) h1 h2 (Z3x hn q0) (by rw [Xa];decide) (by decide) (by decide) (by decide))

set_option maxRecDepth 100000 in
theorem Z3h (os:Os) (started:os.Started) (H:Type) (enc:TypeId×Value→H) (F:Stop.Interp):
    ReturnsInHanded {} Tryz.checked os 3 .any ((Rows.OpenSpec.upto Rows.jointAllSpec).pre6 enc prog Tryz.f3 Rows.jointAllUptoRow.domain false) (((Rows.OpenSpec.upto Rows.jointAllSpec).at F).post enc prog Tryz.f3 false true false false):=by
  refine returnsInHanded_of_cond (C:=Tryz.checked) (s:=Rows.OpenSpec.upto Rows.jointAllSpec) (k:=Rows.uptoSmall) rfl Zki started (by kernel_rfl) func3
    (OpenSpec.witness (enc:=enc) (C:=Tryz.checked) (s:=Rows.OpenSpec.upto Rows.jointAllSpec) (k:=Rows.uptoSmall) rfl false ⟨#[],#[.agg #[.string .empty,.slice none 0 0,.slice none 0 0,.slice none 0 0,.slice none 0 0],.int .i64 0],[]⟩ 8 (by kernel_rfl) (by kernel_rfl) (by kernel_rfl)
      (x:=([.agg [.lit (.string []),.nil,.nil,.nil,.nil],.lit (.int .i64 0)],[],[])) (by kernel_rfl) rfl (by kernel_rfl)) ?_
  intro W base args ds gs before hval0 hW _ hk _
  have hval:∀ (j:Nat) t v,Tryz.f3.params[j]?=some t→args[j]?=some v→Value.okWide prog W .any base t v:=hval0
  have hW':=hW
  obtain ⟨p,q,hA0,hV,rfl,hfz,hnd⟩:=hW
  have hA:DataW.TrodAll enc prog W 0 (fun _=>true) true Tryz.f3.params.toList args.toList ds p:=hA0
  rw [Tryz.params3] at hA hval
  obtain ⟨v0,vs0,d0,ds0,p0,q0,hargs,rfl,rfl,h0,r0⟩:=trodAll_cons hA
  obtain ⟨v1,vs1,d1,ds1,p1,q1,rfl,rfl,rfl,h1,r1⟩:=trodAll_cons r0
  obtain ⟨rfl,rfl,rfl⟩:=trodAll_nil r1
  obtain rfl:args=#[v0,v1]:=by cases args;simp_all
  obtain ⟨rfl,rfl⟩:=trodVars_none hV
  have hk2:=of_decide_eq_true hk
  simp only [List.append_nil,Rows.uptoBulkAll] at hk2
  obtain ⟨cs0,rfl,cz0⟩:=okWide_struct underlying27 (hval 0 27 v0 rfl rfl)
  have k0:=h0
  have lt0:∀ x ∈ p0,x.block<W.heap.size:=by obtain ⟨m,hm⟩:=k0;exact DataW.trod_lt m _ _ _ hm
  obtain ⟨y0,b0,w0,rd0⟩:∃ y,(Ub (W4 V5 (W4 (Xx V5) (W4 (Xx (Xx V5)) (W4 (Xx (Xx W0)) (Xx (Xx (Ub (W4 (Ub (W4 W0 (Xx W0))) (Xx W0)))))))))) y≤Rows.uptoBulk d0∧(Tl (fun _=>True) (Tl (Ve (fun _=>True)) (Tl (Ve (Ve (fun _=>True))) (Tl (Ve (Ve (Zai .i64))) (Ve (Ve (Tl (Tl (fun _=>True) (Ve (Zai .u32))) (Ve (Zai .u32))))))))) y∧(Za.pair Za.str (Za.pair (Za.slice Za.str) (Za.pair (Za.slice (Za.slice Za.str)) (Za.pair (Za.slice (Za.slice (Za.int .i64))) (Za.slice (Za.slice (Za.pair (Za.pair Za.bool (Za.slice (Za.int .u32))) (Za.slice (Za.int .u32))))))))).rd (fun _=>0) W cs0.toList y []:=by
    obtain ⟨fuel,hf⟩:=h0
    obtain ⟨y,h1,h2⟩:=(Y5.struct (r:=(Za.pair Za.str (Za.pair (Za.slice Za.str) (Za.pair (Za.slice (Za.slice Za.str)) (Za.pair (Za.slice (Za.slice (Za.int .i64))) (Za.slice (Za.slice (Za.pair (Za.pair Za.bool (Za.slice (Za.int .u32))) (Za.slice (Za.int .u32)))))))))) (R:=(@Y7 _ _ @Tp (@Y7 _ _ (@RL ByteArray @Tp) (@Y7 _ _ (@RL R4 (@RL ByteArray @Tp)) (@Y7 _ _ (@RL R2 (@RL Int (@Y2 .i64))) (@Wj _ (@RL R8 (@RL R1 (@Vp _ (@Y7 _ _ (@Vp _ (@Y7 _ _ @To (@Wj _ (@RL Int (@Y2 .u32))))) (@Wj _ (@RL Int (@Y2 .u32))))))))))))) underlying27 (by kernel_rfl) (Un.cons (r:=Za.str) (R:=@Tp) (s:=(Za.pair (Za.slice Za.str) (Za.pair (Za.slice (Za.slice Za.str)) (Za.pair (Za.slice (Za.slice (Za.int .i64))) (Za.slice (Za.slice (Za.pair (Za.pair Za.bool (Za.slice (Za.int .u32))) (Za.slice (Za.int .u32))))))))) (S:=(@Y7 _ _ (@RL ByteArray @Tp) (@Y7 _ _ (@RL R4 (@RL ByteArray @Tp)) (@Y7 _ _ (@RL R2 (@RL Int (@Y2 .i64))) (@Wj _ (@RL R8 (@RL R1 (@Vp _ (@Y7 _ _ (@Vp _ (@Y7 _ _ @To (@Wj _ (@RL Int (@Y2 .u32))))) (@Wj _ (@RL Int (@Y2 .u32)))))))))))) rfl (by kernel_rfl) (Y5.str underlying9) (Un.cons (r:=(Za.slice Za.str)) (R:=(@RL ByteArray @Tp)) (s:=(Za.pair (Za.slice (Za.slice Za.str)) (Za.pair (Za.slice (Za.slice (Za.int .i64))) (Za.slice (Za.slice (Za.pair (Za.pair Za.bool (Za.slice (Za.int .u32))) (Za.slice (Za.int .u32)))))))) (S:=(@Y7 _ _ (@RL R4 (@RL ByteArray @Tp)) (@Y7 _ _ (@RL R2 (@RL Int (@Y2 .i64))) (@Wj _ (@RL R8 (@RL R1 (@Vp _ (@Y7 _ _ (@Vp _ (@Y7 _ _ @To (@Wj _ (@RL Int (@Y2 .u32))))) (@Wj _ (@RL Int (@Y2 .u32))))))))))) rfl (by kernel_rfl) (Y5.slice (e:=9) (r:=Za.str) (R:=@Tp) underlying22 (by kernel_rfl) (Y5.str underlying9)) (Un.cons (r:=(Za.slice (Za.slice Za.str))) (R:=(@RL R4 (@RL ByteArray @Tp))) (s:=(Za.pair (Za.slice (Za.slice (Za.int .i64))) (Za.slice (Za.slice (Za.pair (Za.pair Za.bool (Za.slice (Za.int .u32))) (Za.slice (Za.int .u32))))))) (S:=(@Y7 _ _ (@RL R2 (@RL Int (@Y2 .i64))) (@Wj _ (@RL R8 (@RL R1 (@Vp _ (@Y7 _ _ (@Vp _ (@Y7 _ _ @To (@Wj _ (@RL Int (@Y2 .u32))))) (@Wj _ (@RL Int (@Y2 .u32)))))))))) rfl (by kernel_rfl) (Y5.slice (e:=22) (r:=(Za.slice Za.str)) (R:=(@RL ByteArray @Tp)) underlying23 (by kernel_rfl) (Y5.slice (e:=9) (r:=Za.str) (R:=@Tp) underlying22 (by kernel_rfl) (Y5.str underlying9))) (Un.cons (r:=(Za.slice (Za.slice (Za.int .i64)))) (R:=(@RL R2 (@RL Int (@Y2 .i64)))) (s:=(Za.slice (Za.slice (Za.pair (Za.pair Za.bool (Za.slice (Za.int .u32))) (Za.slice (Za.int .u32)))))) (S:=(@Wj _ (@RL R8 (@RL R1 (@Vp _ (@Y7 _ _ (@Vp _ (@Y7 _ _ @To (@Wj _ (@RL Int (@Y2 .u32))))) (@Wj _ (@RL Int (@Y2 .u32))))))))) rfl (by kernel_rfl) (Y5.slice (e:=36) (r:=(Za.slice (Za.int .i64))) (R:=(@RL Int (@Y2 .i64))) underlying24 (by kernel_rfl) (Y5.slice (e:=3) (r:=(Za.int .i64)) (R:=(@Y2 .i64)) underlying36 (by kernel_rfl) (Y5.int underlying3))) (Un.one (r:=(Za.slice (Za.slice (Za.pair (Za.pair Za.bool (Za.slice (Za.int .u32))) (Za.slice (Za.int .u32)))))) (R:=(@RL R8 (@RL R1 (@Vp _ (@Y7 _ _ (@Vp _ (@Y7 _ _ @To (@Wj _ (@RL Int (@Y2 .u32))))) (@Wj _ (@RL Int (@Y2 .u32)))))))) rfl (by kernel_rfl) (Y5.slice (e:=29) (r:=(Za.slice (Za.pair (Za.pair Za.bool (Za.slice (Za.int .u32))) (Za.slice (Za.int .u32))))) (R:=(@RL R1 (@Vp _ (@Y7 _ _ (@Vp _ (@Y7 _ _ @To (@Wj _ (@RL Int (@Y2 .u32))))) (@Wj _ (@RL Int (@Y2 .u32))))))) underlying25 (by kernel_rfl) (Y5.slice (e:=42) (r:=(Za.pair (Za.pair Za.bool (Za.slice (Za.int .u32))) (Za.slice (Za.int .u32)))) (R:=(@Vp _ (@Y7 _ _ (@Vp _ (@Y7 _ _ @To (@Wj _ (@RL Int (@Y2 .u32))))) (@Wj _ (@RL Int (@Y2 .u32)))))) underlying29 (by kernel_rfl) (Y5.struct (r:=(Za.pair (Za.pair Za.bool (Za.slice (Za.int .u32))) (Za.slice (Za.int .u32)))) (R:=(@Y7 _ _ (@Vp _ (@Y7 _ _ @To (@Wj _ (@RL Int (@Y2 .u32))))) (@Wj _ (@RL Int (@Y2 .u32))))) underlying42 (by kernel_rfl) (Un.cons (r:=(Za.pair Za.bool (Za.slice (Za.int .u32)))) (R:=(@Vp _ (@Y7 _ _ @To (@Wj _ (@RL Int (@Y2 .u32)))))) (s:=(Za.slice (Za.int .u32))) (S:=(@Wj _ (@RL Int (@Y2 .u32)))) rfl (by kernel_rfl) (Y5.struct (r:=(Za.pair Za.bool (Za.slice (Za.int .u32)))) (R:=(@Y7 _ _ @To (@Wj _ (@RL Int (@Y2 .u32))))) underlying40 (by kernel_rfl) (Un.cons (r:=Za.bool) (R:=@To) (s:=(Za.slice (Za.int .u32))) (S:=(@Wj _ (@RL Int (@Y2 .u32)))) rfl (by kernel_rfl) (Y5.bool underlying4) (Un.one (r:=(Za.slice (Za.int .u32))) (R:=(@RL Int (@Y2 .u32))) rfl (by kernel_rfl) (Y5.slice (e:=45) (r:=(Za.int .u32)) (R:=(@Y2 .u32)) underlying38 (by kernel_rfl) (Y5.int underlying45))))) (Un.one (r:=(Za.slice (Za.int .u32))) (R:=(@RL Int (@Y2 .u32))) rfl (by kernel_rfl) (Y5.slice (e:=45) (r:=(Za.int .u32)) (R:=(@Y2 .u32)) underlying38 (by kernel_rfl) (Y5.int underlying45))))))))))))) hf
    obtain ⟨h5,h6⟩:=(BQ.agg (Ul.cons BQ.str (Ul.cons (BQ.slice BQ.str) (Ul.cons (BQ.slice (BQ.slice BQ.str)) (Ul.cons (BQ.slice (BQ.slice BQ.int)) (Ul.one (BQ.slice (BQ.slice (BQ.agg (Ul.cons (BQ.agg (Ul.cons BQ.bool (Ul.one (BQ.slice BQ.int)))) (Ul.one (BQ.slice BQ.int)))))))))))) y d0 h2
    exact ⟨y,h5,h6,h1⟩
  obtain ⟨_,_,_,_,x0_0,_,u0_0,v0_0⟩:=rd0
  obtain ⟨e0_1,_⟩:=u0_0
  obtain ⟨_,_,_,_,x0_2,_,u0_2,v0_2⟩:=v0_0
  obtain ⟨⟨a0_3,cap0_3,e0_3,s0_3⟩,_⟩:=u0_2
  obtain ⟨_,_,_,_,x0_4,_,u0_4,v0_4⟩:=v0_2
  obtain ⟨⟨a0_5,cap0_5,e0_5,s0_5⟩,_⟩:=u0_4
  obtain ⟨_,_,_,_,x0_6,_,u0_6,v0_6⟩:=v0_4
  obtain ⟨⟨a0_7,cap0_7,e0_7,s0_7⟩,_⟩:=u0_6
  obtain ⟨⟨a0_8,cap0_8,e0_8,s0_8⟩,_⟩:=v0_6
  obtain rfl:cs0=#[.string y0.1,.slice a0_3 y0.2.1.length cap0_3,.slice a0_5 y0.2.2.1.length cap0_5,.slice a0_7 y0.2.2.2.1.length cap0_7,.slice a0_8 y0.2.2.2.2.length cap0_8]:=by apply Array.toList_inj.1;simp only [x0_0,e0_1,x0_2,e0_3,x0_4,e0_5,x0_6,e0_7,e0_8];rfl
  obtain ⟨a1,rfl,rfl,rfl,w1⟩:=open_int underlying3 (hval 1 3 v1 rfl rfl) h1
  clear hA0 hval0
  simp only [List.append_nil] at hW'
  have hb:(Ub (W4 V5 (W4 (Xx V5) (W4 (Xx (Xx V5)) (W4 (Xx (Xx W0)) (Xx (Xx (Ub (W4 (Ub (W4 W0 (Xx W0))) (Xx W0)))))))))) y0≤1048576:=by omega
  refine (walk y0 a0_3 cap0_3 a0_5 cap0_5 a0_7 cap0_7 a0_8 cap0_8 a1 W hb w0 s0_3 s0_5 s0_7 s0_8 w1).mono fun e W' ⟨he,bel⟩=>?_
  subst he
  exact ⟨_,rfl,_,_,_,[],_,[],hW',trodAll_mk1 (shut_bool underlying4 _),(trodAll_cons_mk (Below.trod Z3b (by kernel_rfl) (of_decide_eq_true (by kernel_rfl)) k0 bel lt0) (trodAll_cons_mk (shut_int underlying3 w1) trodAll_mk0)),rfl,bel.frame _,fun h=>by cases h⟩

theorem Zyw {a b:Bool} (ha:a=true) (hb:b=true):(a&&b)=true:=by rw [ha,hb];rfl
theorem wrapper:Tryz.f3.isWrapper Tryz.pinned.checked.prog Rows.jointAllUptoRow.wrapper Rows.jointAllUptoRow.mainSum:=by unfold Func.isWrapper;first | (rw [if_pos (by decide+kernel)];kernel_rfl) | (rw [if_neg (by decide+kernel)];exact ⟨rfl,rfl⟩)
theorem inst:Tryz.f3.isInstance Tryz.pinned.checked.prog Rows.jointAllUptoRow.origin Rows.jointAllUptoRow.targs:=of_decide_eq_true (by kernel_rfl)
theorem Z3w:Tryz.pinned.checked.prog.funcNamed Rows.jointAllUptoRow.func=some 3:=by kernel_rfl
set_option maxHeartbeats 20000000 in
theorem Z1i:joinedFacts Tryz.pinned.checked.prog 3 Tryz.f3 (Rows.OpenSpec.upto Rows.jointAllSpec).bare Rows.jointAllUptoRow=true:=by
  unfold joinedFacts
  repeat' with_reducible apply Zyw
  all_goals as_aux_lemma=>kernel_rfl
theorem proved:Rows.JointAllUptoSaid:=
  OpenClaim.holds_of_cond 3 Tryz.f3 rfl rfl rfl rfl rfl rfl rfl ⟨rfl,rfl,rfl,rfl,rfl⟩ rfl rfl rfl rfl rfl Z3w func3 Z1i
    inst wrapper (fun os started H enc _ F=>Z3h os started H enc F)
#print axioms proved
end Go.Proofs.YthclpfhncgpnmaaGreat.jointAll
