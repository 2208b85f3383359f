/-
  'LearnStep' (credence/credencelaw28.LearnStep), where what it reads is of bulk at most 1048576: the call returns true and the arguments read afterwards as before.
-/
import Derived.Test.YthclpfhncgpnmaaGreatRows
import Derived.Test.YthclpfhncgpnmaaGreatLearnStepBBulk
import Derived.Test.YthclpfhncgpnmaaGreatLearnStepF7
import Derived.WalkKit
import Derived.ProofKit
import Derived.OpenShut
import Derived.ShutString
import Derived.ChangeOld
import Derived.Below
import Derived.JoinedCond
namespace Go.Proofs.YthclpfhncgpnmaaGreat.learnStep
open Go Go.ChangeShapes Go.WideShapes Go.ChangeAt Go.RowKit
open Go.IntKind (i8 i16 i32 i64 u8 u16 u32 u64)
open Go.Proofs.Tryz
open Go.ChangeMaps (open_string shut_string)
set_option linter.unusedVariables false

theorem Zno:ownKnob prog.godebug=none:=by kernel_rfl
theorem Zx3:laidOutB prog=true:=by kernel_rfl

theorem walk (y0:Zq) (a1:Option Addr) (c1:Nat) (a2:Option Addr) (c2:Nat) (a3:Option Addr) (c3:Nat) (a4:Option Addr) (c4:Nat) (y1:List R2) (a5:Option Addr) (c5:Nat) (w:World)
    (hb:Zin y0+(X1 (X1 Ww)) y1≤1048576) (q0:Zz1 y0)
    (s1:Sl Za.str (fun _=>0) w a1 c1 y0.2.1) (s2:Sl (Za.slice Za.str) (fun _=>0) w a2 c2 y0.2.2.1) (s3:Sl (Za.slice (Za.int .i64)) (fun _=>0) w a3 c3 y0.2.2.2.1) (s4:Sl (Za.slice (Za.pair (Za.pair Za.bool (Za.slice (Za.int .u32))) (Za.slice (Za.int .u32)))) (fun _=>0) w a4 c4 y0.2.2.2.2)
    (q1:(Vi (Vi (Za9 .i64))) y1) (s5:Sl (Za.slice (Za.int .i64)) (fun _=>0) w a5 c5 y1):
    Calls prog 4 #[.agg #[.string y0.1,.slice a1 y0.2.1.length c1,.slice a2 y0.2.2.1.length c2,.slice a3 y0.2.2.2.1.length c3,.slice a4 y0.2.2.2.2.length c4],.slice a5 y1.length c5] w
      fun e w'=>e= .returned (.bool true)∧Below w.heap.size w w':=by
  have hn:Zin y0≤1048576:=by omega
  obtain ⟨h1,h2⟩:=Z90 hn q0
  have h3:=Zai (b:=X1 Ww) Zoc y1
  have h5:∀ l ∈ y1,l.length≤1048576:=fun l hl=>by
    have g1:=Zni (b:=X1 Ww) hl
    have g2:=Zai (b:=Ww) Zob l
    omega
  exact Z47 4611686018427387904 (fun _=>0) w a1 c1 a2 c2 a3 c3 a4 c4 y0 a5 c5 y1 s1 s2 s3 s4 s5 true (Z4k h1 h2 (by rw [Z3];decide) (Z9z hn) (by omega) h5)

set_option maxRecDepth 100000 in
theorem Z9f (os:Os) (started:os.Started) (H:Type) (enc:TypeId×Value→H) (F:Stop.Interp):
    ReturnsInHanded {} Tryz.checked os 4 .any ((Rows.OpenSpec.upto Rows.learnStepSpec).pre6 enc prog Tryz.f4 Rows.learnStepUptoRow.domain false) (((Rows.OpenSpec.upto Rows.learnStepSpec).at F).post enc prog Tryz.f4 false true false false):=by
  refine returnsInHanded_of_cond (C:=Tryz.checked) (s:=Rows.OpenSpec.upto Rows.learnStepSpec) (k:=Rows.uptoSmall) rfl Zno started (by kernel_rfl) func4
    (OpenSpec.witness (enc:=enc) (C:=Tryz.checked) (s:=Rows.OpenSpec.upto Rows.learnStepSpec) (k:=Rows.uptoSmall) rfl false ⟨#[],#[.agg #[.string .empty,.slice none 0 0,.slice none 0 0,.slice none 0 0,.slice none 0 0],.slice none 0 0],[]⟩ 8 (by kernel_rfl) (by kernel_rfl) (by kernel_rfl)
      (x:=([.agg [.lit (.string []),.nil,.nil,.nil,.nil],.nil],[],[])) (by kernel_rfl) rfl (by kernel_rfl)) ?_
  intro W base args ds gs before hval0 hW _ hk _
  have hval:∀ (j:Nat) t v,Tryz.f4.params[j]?=some t→args[j]?=some v→Value.okWide prog W .any base t v:=hval0
  have hW':=hW
  obtain ⟨p,q,hA0,hV,rfl,hfz,hnd⟩:=hW
  have hA:DataW.TrodAll enc prog W 0 (fun _=>true) true Tryz.f4.params.toList args.toList ds p:=hA0
  rw [Tryz.params4] at hA hval
  obtain ⟨v0,vs0,d0,ds0,p0,q0,hargs,rfl,rfl,h0,r0⟩:=trodAll_cons hA
  obtain ⟨v1,vs1,d1,ds1,p1,q1,rfl,rfl,rfl,h1,r1⟩:=trodAll_cons r0
  obtain ⟨rfl,rfl,rfl⟩:=trodAll_nil r1
  obtain rfl:args=#[v0,v1]:=by cases args;simp_all
  obtain ⟨rfl,rfl⟩:=trodVars_none hV
  have hk2:=of_decide_eq_true hk
  simp only [List.append_nil,Rows.uptoBulkAll] at hk2
  obtain ⟨cs0,rfl,cz0⟩:=okWide_struct underlying27 (hval 0 27 v0 rfl rfl)
  have k0:=h0
  have lt0:∀ x ∈ p0,x.block<W.heap.size:=by obtain ⟨m,hm⟩:=k0;exact DataW.trod_lt m _ _ _ hm
  obtain ⟨y0,b0,w0,rd0⟩:∃ y,(Tb (Vs U3 (Vs (X1 U3) (Vs (X1 (X1 U3)) (Vs (X1 (X1 Ww)) (X1 (X1 (Tb (Vs (Tb (Vs Ww (X1 Ww))) (X1 Ww)))))))))) y≤Rows.uptoBulk d0∧(S7 (fun _=>True) (S7 (Vi (fun _=>True)) (S7 (Vi (Vi (fun _=>True))) (S7 (Vi (Vi (Za9 .i64))) (Vi (Vi (S7 (S7 (fun _=>True) (Vi (Za9 .u32))) (Vi (Za9 .u32))))))))) y∧(Za.pair Za.str (Za.pair (Za.slice Za.str) (Za.pair (Za.slice (Za.slice Za.str)) (Za.pair (Za.slice (Za.slice (Za.int .i64))) (Za.slice (Za.slice (Za.pair (Za.pair Za.bool (Za.slice (Za.int .u32))) (Za.slice (Za.int .u32))))))))).rd (fun _=>0) W cs0.toList y []:=by
    obtain ⟨fuel,hf⟩:=h0
    obtain ⟨y,h1,h2⟩:=(Wd.struct (r:=(Za.pair Za.str (Za.pair (Za.slice Za.str) (Za.pair (Za.slice (Za.slice Za.str)) (Za.pair (Za.slice (Za.slice (Za.int .i64))) (Za.slice (Za.slice (Za.pair (Za.pair Za.bool (Za.slice (Za.int .u32))) (Za.slice (Za.int .u32)))))))))) (R:=(@Wu _ _ @Qe (@Wu _ _ (@RL ByteArray @Qe) (@Wu _ _ (@RL R3 (@RL ByteArray @Qe)) (@Wu _ _ (@RL R2 (@RL Int (@We .i64))) (@W4 _ (@RL R4 (@RL R1 (@Ug _ (@Wu _ _ (@Ug _ (@Wu _ _ @Qd (@W4 _ (@RL Int (@We .u32))))) (@W4 _ (@RL Int (@We .u32))))))))))))) underlying27 (by kernel_rfl) (Tp.cons (r:=Za.str) (R:=@Qe) (s:=(Za.pair (Za.slice Za.str) (Za.pair (Za.slice (Za.slice Za.str)) (Za.pair (Za.slice (Za.slice (Za.int .i64))) (Za.slice (Za.slice (Za.pair (Za.pair Za.bool (Za.slice (Za.int .u32))) (Za.slice (Za.int .u32))))))))) (S:=(@Wu _ _ (@RL ByteArray @Qe) (@Wu _ _ (@RL R3 (@RL ByteArray @Qe)) (@Wu _ _ (@RL R2 (@RL Int (@We .i64))) (@W4 _ (@RL R4 (@RL R1 (@Ug _ (@Wu _ _ (@Ug _ (@Wu _ _ @Qd (@W4 _ (@RL Int (@We .u32))))) (@W4 _ (@RL Int (@We .u32)))))))))))) rfl (by kernel_rfl) (Wd.str underlying9) (Tp.cons (r:=(Za.slice Za.str)) (R:=(@RL ByteArray @Qe)) (s:=(Za.pair (Za.slice (Za.slice Za.str)) (Za.pair (Za.slice (Za.slice (Za.int .i64))) (Za.slice (Za.slice (Za.pair (Za.pair Za.bool (Za.slice (Za.int .u32))) (Za.slice (Za.int .u32)))))))) (S:=(@Wu _ _ (@RL R3 (@RL ByteArray @Qe)) (@Wu _ _ (@RL R2 (@RL Int (@We .i64))) (@W4 _ (@RL R4 (@RL R1 (@Ug _ (@Wu _ _ (@Ug _ (@Wu _ _ @Qd (@W4 _ (@RL Int (@We .u32))))) (@W4 _ (@RL Int (@We .u32))))))))))) rfl (by kernel_rfl) (Wd.slice (e:=9) (r:=Za.str) (R:=@Qe) underlying22 (by kernel_rfl) (Wd.str underlying9)) (Tp.cons (r:=(Za.slice (Za.slice Za.str))) (R:=(@RL R3 (@RL ByteArray @Qe))) (s:=(Za.pair (Za.slice (Za.slice (Za.int .i64))) (Za.slice (Za.slice (Za.pair (Za.pair Za.bool (Za.slice (Za.int .u32))) (Za.slice (Za.int .u32))))))) (S:=(@Wu _ _ (@RL R2 (@RL Int (@We .i64))) (@W4 _ (@RL R4 (@RL R1 (@Ug _ (@Wu _ _ (@Ug _ (@Wu _ _ @Qd (@W4 _ (@RL Int (@We .u32))))) (@W4 _ (@RL Int (@We .u32)))))))))) rfl (by kernel_rfl) (Wd.slice (e:=22) (r:=(Za.slice Za.str)) (R:=(@RL ByteArray @Qe)) underlying23 (by kernel_rfl) (Wd.slice (e:=9) (r:=Za.str) (R:=@Qe) underlying22 (by kernel_rfl) (Wd.str underlying9))) (Tp.cons (r:=(Za.slice (Za.slice (Za.int .i64)))) (R:=(@RL R2 (@RL Int (@We .i64)))) (s:=(Za.slice (Za.slice (Za.pair (Za.pair Za.bool (Za.slice (Za.int .u32))) (Za.slice (Za.int .u32)))))) (S:=(@W4 _ (@RL R4 (@RL R1 (@Ug _ (@Wu _ _ (@Ug _ (@Wu _ _ @Qd (@W4 _ (@RL Int (@We .u32))))) (@W4 _ (@RL Int (@We .u32))))))))) rfl (by kernel_rfl) (Wd.slice (e:=36) (r:=(Za.slice (Za.int .i64))) (R:=(@RL Int (@We .i64))) underlying24 (by kernel_rfl) (Wd.slice (e:=3) (r:=(Za.int .i64)) (R:=(@We .i64)) underlying36 (by kernel_rfl) (Wd.int underlying3))) (Tp.one (r:=(Za.slice (Za.slice (Za.pair (Za.pair Za.bool (Za.slice (Za.int .u32))) (Za.slice (Za.int .u32)))))) (R:=(@RL R4 (@RL R1 (@Ug _ (@Wu _ _ (@Ug _ (@Wu _ _ @Qd (@W4 _ (@RL Int (@We .u32))))) (@W4 _ (@RL Int (@We .u32)))))))) rfl (by kernel_rfl) (Wd.slice (e:=29) (r:=(Za.slice (Za.pair (Za.pair Za.bool (Za.slice (Za.int .u32))) (Za.slice (Za.int .u32))))) (R:=(@RL R1 (@Ug _ (@Wu _ _ (@Ug _ (@Wu _ _ @Qd (@W4 _ (@RL Int (@We .u32))))) (@W4 _ (@RL Int (@We .u32))))))) underlying25 (by kernel_rfl) (Wd.slice (e:=42) (r:=(Za.pair (Za.pair Za.bool (Za.slice (Za.int .u32))) (Za.slice (Za.int .u32)))) (R:=(@Ug _ (@Wu _ _ (@Ug _ (@Wu _ _ @Qd (@W4 _ (@RL Int (@We .u32))))) (@W4 _ (@RL Int (@We .u32)))))) underlying29 (by kernel_rfl) (Wd.struct (r:=(Za.pair (Za.pair Za.bool (Za.slice (Za.int .u32))) (Za.slice (Za.int .u32)))) (R:=(@Wu _ _ (@Ug _ (@Wu _ _ @Qd (@W4 _ (@RL Int (@We .u32))))) (@W4 _ (@RL Int (@We .u32))))) underlying42 (by kernel_rfl) (Tp.cons (r:=(Za.pair Za.bool (Za.slice (Za.int .u32)))) (R:=(@Ug _ (@Wu _ _ @Qd (@W4 _ (@RL Int (@We .u32)))))) (s:=(Za.slice (Za.int .u32))) (S:=(@W4 _ (@RL Int (@We .u32)))) rfl (by kernel_rfl) (Wd.struct (r:=(Za.pair Za.bool (Za.slice (Za.int .u32)))) (R:=(@Wu _ _ @Qd (@W4 _ (@RL Int (@We .u32))))) underlying40 (by kernel_rfl) (Tp.cons (r:=Za.bool) (R:=@Qd) (s:=(Za.slice (Za.int .u32))) (S:=(@W4 _ (@RL Int (@We .u32)))) rfl (by kernel_rfl) (Wd.bool underlying4) (Tp.one (r:=(Za.slice (Za.int .u32))) (R:=(@RL Int (@We .u32))) rfl (by kernel_rfl) (Wd.slice (e:=45) (r:=(Za.int .u32)) (R:=(@We .u32)) underlying38 (by kernel_rfl) (Wd.int underlying45))))) (Tp.one (r:=(Za.slice (Za.int .u32))) (R:=(@RL Int (@We .u32))) rfl (by kernel_rfl) (Wd.slice (e:=45) (r:=(Za.int .u32)) (R:=(@We .u32)) underlying38 (by kernel_rfl) (Wd.int underlying45))))))))))))) hf
    obtain ⟨h5,h6⟩:=(BQ.agg (Tn.cons BQ.str (Tn.cons (BQ.slice BQ.str) (Tn.cons (BQ.slice (BQ.slice BQ.str)) (Tn.cons (BQ.slice (BQ.slice BQ.int)) (Tn.one (BQ.slice (BQ.slice (BQ.agg (Tn.cons (BQ.agg (Tn.cons BQ.bool (Tn.one (BQ.slice BQ.int)))) (Tn.one (BQ.slice BQ.int)))))))))))) y d0 h2
    exact ⟨y,h5,h6,h1⟩
  obtain ⟨_,_,_,_,x0_0,_,u0_0,v0_0⟩:=rd0
  obtain ⟨e0_1,_⟩:=u0_0
  obtain ⟨_,_,_,_,x0_2,_,u0_2,v0_2⟩:=v0_0
  obtain ⟨⟨a0_3,cap0_3,e0_3,s0_3⟩,_⟩:=u0_2
  obtain ⟨_,_,_,_,x0_4,_,u0_4,v0_4⟩:=v0_2
  obtain ⟨⟨a0_5,cap0_5,e0_5,s0_5⟩,_⟩:=u0_4
  obtain ⟨_,_,_,_,x0_6,_,u0_6,v0_6⟩:=v0_4
  obtain ⟨⟨a0_7,cap0_7,e0_7,s0_7⟩,_⟩:=u0_6
  obtain ⟨⟨a0_8,cap0_8,e0_8,s0_8⟩,_⟩:=v0_6
  obtain rfl:cs0=#[.string y0.1,.slice a0_3 y0.2.1.length cap0_3,.slice a0_5 y0.2.2.1.length cap0_5,.slice a0_7 y0.2.2.2.1.length cap0_7,.slice a0_8 y0.2.2.2.2.length cap0_8]:=by apply Array.toList_inj.1;simp only [x0_0,e0_1,x0_2,e0_3,x0_4,e0_5,x0_6,e0_7,e0_8];rfl
  obtain ⟨a1,len1,cap1,rfl⟩:=okWide_slice underlying49 (hval 1 49 v1 rfl rfl)
  have k1:=h1
  have lt1:∀ x ∈ p1,x.block<W.heap.size:=by obtain ⟨m,hm⟩:=k1;exact DataW.trod_lt m _ _ _ hm
  obtain ⟨y1,b1,w1,e1,s1⟩:∃ y,(X1 (X1 Ww)) y≤Rows.uptoBulk d1∧(Vi (Vi (Za9 .i64))) y∧len1=y.length∧Sl (Za.slice (Za.int .i64)) (fun _=>0) W a1 cap1 y:=by
    obtain ⟨fuel,hf⟩:=h1
    obtain ⟨y,h1,h2⟩:=(Wd.slice (e:=36) (r:=(Za.slice (Za.int .i64))) (R:=(@RL Int (@We .i64))) underlying49 (by kernel_rfl) (Wd.slice (e:=3) (r:=(Za.int .i64)) (R:=(@We .i64)) underlying36 (by kernel_rfl) (Wd.int underlying3))) hf
    obtain ⟨⟨a,cap,h3,h4⟩,_⟩:=h1
    simp [Value.cells] at h3
    obtain ⟨rfl,rfl,rfl⟩:=h3
    obtain ⟨h5,h6⟩:=(BQ.slice (BQ.slice BQ.int)) y d1 h2
    exact ⟨y,h5,h6,rfl,h4⟩
  subst e1
  clear hA0 hval0
  simp only [List.append_nil] at hW'
  have hb:(Tb (Vs U3 (Vs (X1 U3) (Vs (X1 (X1 U3)) (Vs (X1 (X1 Ww)) (X1 (X1 (Tb (Vs (Tb (Vs Ww (X1 Ww))) (X1 Ww)))))))))) y0+(X1 (X1 Ww)) y1≤1048576:=by omega
  refine (walk y0 a0_3 cap0_3 a0_5 cap0_5 a0_7 cap0_7 a0_8 cap0_8 y1 a1 cap1 W hb w0 s0_3 s0_5 s0_7 s0_8 w1 s1).mono fun e W' ⟨he,bel⟩=>?_
  subst he
  exact ⟨_,rfl,_,_,_,[],_,[],hW',trodAll_mk1 (shut_bool underlying4 _),(trodAll_cons_mk (Below.trod Zx3 (by kernel_rfl) (of_decide_eq_true (by kernel_rfl)) k0 bel lt0) (trodAll_cons_mk (Below.trod Zx3 (by kernel_rfl) (of_decide_eq_true (by kernel_rfl)) k1 bel lt1) trodAll_mk0)),rfl,bel.frame _,fun h=>by cases h⟩

theorem Z4n {a b:Bool} (ha:a=true) (hb:b=true):(a&&b)=true:=by rw [ha,hb];rfl
theorem wrapper:Tryz.f4.isWrapper Tryz.pinned.checked.prog Rows.learnStepUptoRow.wrapper Rows.learnStepUptoRow.mainSum:=by unfold Func.isWrapper;first | (rw [if_pos (by decide+kernel)];kernel_rfl) | (rw [if_neg (by decide+kernel)];exact ⟨rfl,rfl⟩)
theorem inst:Tryz.f4.isInstance Tryz.pinned.checked.prog Rows.learnStepUptoRow.origin Rows.learnStepUptoRow.targs:=of_decide_eq_true (by kernel_rfl)
theorem Z9x:Tryz.pinned.checked.prog.funcNamed Rows.learnStepUptoRow.func=some 4:=by kernel_rfl
set_option maxHeartbeats 20000000 in
theorem Z7f:joinedFacts Tryz.pinned.checked.prog 4 Tryz.f4 (Rows.OpenSpec.upto Rows.learnStepSpec).bare Rows.learnStepUptoRow=true:=by
  unfold joinedFacts
  repeat' with_reducible apply Z4n
  all_goals as_aux_lemma=>kernel_rfl
theorem proved:Rows.LearnStepUptoSaid:=
  OpenClaim.holds_of_cond 4 Tryz.f4 rfl rfl rfl rfl rfl rfl rfl ⟨rfl,rfl,rfl,rfl,rfl⟩ rfl rfl rfl rfl rfl Z9x func4 Z7f
    inst wrapper (fun os started H enc _ F=>Z9f os started H enc F)
#print axioms proved
end Go.Proofs.YthclpfhncgpnmaaGreat.learnStep
