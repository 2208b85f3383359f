/-
  'JointTable' (credence/credencelaw20.JointTable), where what it reads is of bulk at most 1048576: the call returns true and the arguments read afterwards as before.
-/
import Derived.Test.YthclpfhncgpnmaaGreatRows
import Derived.Test.YthclpfhncgpnmaaGreatJointTableBBulk
import Derived.Test.YthclpfhncgpnmaaGreatJointTableF7
import Derived.WalkKit
import Derived.ProofKit
import Derived.OpenShut
import Derived.ShutString
import Derived.ChangeOld
import Derived.Below
import Derived.JoinedCond
namespace Go.Proofs.YthclpfhncgpnmaaGreat.jointTable
open Go Go.ChangeShapes Go.WideShapes Go.ChangeAt Go.RowKit
open Go.IntKind (i8 i16 i32 i64 u8 u16 u32 u64)
open Go.Proofs.Tryz
open Go.ChangeMaps (open_string shut_string)
set_option linter.unusedVariables false

theorem Zl5:ownKnob prog.godebug=none:=by kernel_rfl
theorem Zq3:laidOutB prog=true:=by kernel_rfl

theorem walk (y0:Xa) (a1:Option Addr) (c1:Nat) (a2:Option Addr) (c2:Nat) (a3:Option Addr) (c3:Nat) (a4:Option Addr) (c4:Nat) (y1:List Int) (a5:Option Addr) (c5:Nat) (y2:List R5) (a6:Option Addr) (c6:Nat) (w:World)
    (hb:Zha y0+(Xw Y9) y1+(Xw (Vy (Ws Y9 Y9))) y2≤1048576) (q0:Zro y0)
    (s1:Sl Za.str (fun _=>0) w a1 c1 y0.2.1) (s2:Sl (Za.slice Za.str) (fun _=>0) w a2 c2 y0.2.2.1) (s3:Sl (Za.slice (Za.int .i64)) (fun _=>0) w a3 c3 y0.2.2.2.1) (s4:Sl (Za.slice (Za.pair (Za.pair Za.bool (Za.slice (Za.int .u32))) (Za.slice (Za.int .u32)))) (fun _=>0) w a4 c4 y0.2.2.2.2)
    (q1:(Vd (Tj .i64)) y1) (s5:Sl (Za.int .i64) (fun _=>0) w a5 c5 y1)
    (q2:(Vd fun x=>(Tj .i64) x.1∧(Tj .i64) x.2) y2) (s6:Sl (Za.pair (Za.int .i64) (Za.int .i64)) (fun _=>0) w a6 c6 y2):
    Calls prog 5 #[.agg #[.string y0.1,.slice a1 y0.2.1.length c1,.slice a2 y0.2.2.1.length c2,.slice a3 y0.2.2.2.1.length c3,.slice a4 y0.2.2.2.2.length c4],.slice a5 y1.length c5,.slice a6 y2.length c6] w
      fun e w'=>e= .returned (.bool true)∧Below w.heap.size w w':=by
  have hn:Zha y0≤1048576:=by omega
  obtain ⟨h1,h2⟩:=Z72 hn q0
  have h3:=Qv (b:=Y9) Zmx y1
  have h5:=Qv (b:=Vy (Ws Y9 Y9)) Zpw y2
  have h4:=Zpw (b:=(Ws Vz (Ws (Xw Vz) (Ws (Xw (Xw Vz)) (Ws (Xw (Xw Y9)) (Xw (Xw Qn))))))) y0
  exact Z21 4611686018427387904 (fun _=>0) w a1 c1 a2 c2 a3 c3 a4 c4 y0 a5 c5 y1 a6 c6 y2 s1 s2 s3 s4 s5 s6 true (Z2d (K:=1074792465) h1 h2 (Z71 hn q0) (by omega) (by omega) (by rw [Xg];decide) (by decide) (by decide) (by decide))

set_option maxRecDepth 100000 in
theorem Z7j (os:Os) (started:os.Started) (H:Type) (enc:TypeId×Value→H) (F:Stop.Interp):
    ReturnsInHanded {} Tryz.checked os 5 .any ((Rows.OpenSpec.upto Rows.jointTableSpec).pre6 enc prog Tryz.f5 Rows.jointTableUptoRow.domain false) (((Rows.OpenSpec.upto Rows.jointTableSpec).at F).post enc prog Tryz.f5 false true false false):=by
  refine returnsInHanded_of_cond (C:=Tryz.checked) (s:=Rows.OpenSpec.upto Rows.jointTableSpec) (k:=Rows.uptoSmall) rfl Zl5 started (by kernel_rfl) func5
    (OpenSpec.witness (enc:=enc) (C:=Tryz.checked) (s:=Rows.OpenSpec.upto Rows.jointTableSpec) (k:=Rows.uptoSmall) rfl false ⟨#[],#[.agg #[.string .empty,.slice none 0 0,.slice none 0 0,.slice none 0 0,.slice none 0 0],.slice none 0 0,.slice none 0 0],[]⟩ 8 (by kernel_rfl) (by kernel_rfl) (by kernel_rfl)
      (x:=([.agg [.lit (.string []),.nil,.nil,.nil,.nil],.nil,.nil],[],[])) (by kernel_rfl) rfl (by kernel_rfl)) ?_
  intro W base args ds gs before hval0 hW _ hk _
  have hval:∀ (j:Nat) t v,Tryz.f5.params[j]?=some t→args[j]?=some v→Value.okWide prog W .any base t v:=hval0
  have hW':=hW
  obtain ⟨p,q,hA0,hV,rfl,hfz,hnd⟩:=hW
  have hA:DataW.TrodAll enc prog W 0 (fun _=>true) true Tryz.f5.params.toList args.toList ds p:=hA0
  rw [Tryz.params5] at hA hval
  obtain ⟨v0,vs0,d0,ds0,p0,q0,hargs,rfl,rfl,h0,r0⟩:=trodAll_cons hA
  obtain ⟨v1,vs1,d1,ds1,p1,q1,rfl,rfl,rfl,h1,r1⟩:=trodAll_cons r0
  obtain ⟨v2,vs2,d2,ds2,p2,q2,rfl,rfl,rfl,h2,r2⟩:=trodAll_cons r1
  obtain ⟨rfl,rfl,rfl⟩:=trodAll_nil r2
  obtain rfl:args=#[v0,v1,v2]:=by cases args;simp_all
  obtain ⟨rfl,rfl⟩:=trodVars_none hV
  have hk2:=of_decide_eq_true hk
  simp only [List.append_nil,Rows.uptoBulkAll] at hk2
  obtain ⟨cs0,rfl,cz0⟩:=okWide_struct underlying27 (hval 0 27 v0 rfl rfl)
  have k0:=h0
  have lt0:∀ x ∈ p0,x.block<W.heap.size:=by obtain ⟨m,hm⟩:=k0;exact DataW.trod_lt m _ _ _ hm
  obtain ⟨y0,b0,w0,rd0⟩:∃ y,(Vy (Ws Vz (Ws (Xw Vz) (Ws (Xw (Xw Vz)) (Ws (Xw (Xw Y9)) (Xw (Xw (Vy (Ws (Vy (Ws Y9 (Xw Y9))) (Xw Y9)))))))))) y≤Rows.uptoBulk d0∧(Tv (fun _=>True) (Tv (Vd (fun _=>True)) (Tv (Vd (Vd (fun _=>True))) (Tv (Vd (Vd (Tj .i64))) (Vd (Vd (Tv (Tv (fun _=>True) (Vd (Tj .u32))) (Vd (Tj .u32))))))))) y∧(Za.pair Za.str (Za.pair (Za.slice Za.str) (Za.pair (Za.slice (Za.slice Za.str)) (Za.pair (Za.slice (Za.slice (Za.int .i64))) (Za.slice (Za.slice (Za.pair (Za.pair Za.bool (Za.slice (Za.int .u32))) (Za.slice (Za.int .u32))))))))).rd (fun _=>0) W cs0.toList y []:=by
    obtain ⟨fuel,hf⟩:=h0
    obtain ⟨y,h1,h2⟩:=(Y5.struct (r:=(Za.pair Za.str (Za.pair (Za.slice Za.str) (Za.pair (Za.slice (Za.slice Za.str)) (Za.pair (Za.slice (Za.slice (Za.int .i64))) (Za.slice (Za.slice (Za.pair (Za.pair Za.bool (Za.slice (Za.int .u32))) (Za.slice (Za.int .u32)))))))))) (R:=(@Wm _ _ @Sm (@Wm _ _ (@RL ByteArray @Sm) (@Wm _ _ (@RL R8 (@RL ByteArray @Sm)) (@Wm _ _ (@RL R2 (@RL Int (@Ys .i64))) (@Wr _ (@RL R6 (@RL R1 (@Vx _ (@Wm _ _ (@Vx _ (@Wm _ _ @Sk (@Wr _ (@RL Int (@Ys .u32))))) (@Wr _ (@RL Int (@Ys .u32))))))))))))) underlying27 (by kernel_rfl) (Ul.cons (r:=Za.str) (R:=@Sm) (s:=(Za.pair (Za.slice Za.str) (Za.pair (Za.slice (Za.slice Za.str)) (Za.pair (Za.slice (Za.slice (Za.int .i64))) (Za.slice (Za.slice (Za.pair (Za.pair Za.bool (Za.slice (Za.int .u32))) (Za.slice (Za.int .u32))))))))) (S:=(@Wm _ _ (@RL ByteArray @Sm) (@Wm _ _ (@RL R8 (@RL ByteArray @Sm)) (@Wm _ _ (@RL R2 (@RL Int (@Ys .i64))) (@Wr _ (@RL R6 (@RL R1 (@Vx _ (@Wm _ _ (@Vx _ (@Wm _ _ @Sk (@Wr _ (@RL Int (@Ys .u32))))) (@Wr _ (@RL Int (@Ys .u32)))))))))))) rfl (by kernel_rfl) (Y5.str underlying9) (Ul.cons (r:=(Za.slice Za.str)) (R:=(@RL ByteArray @Sm)) (s:=(Za.pair (Za.slice (Za.slice Za.str)) (Za.pair (Za.slice (Za.slice (Za.int .i64))) (Za.slice (Za.slice (Za.pair (Za.pair Za.bool (Za.slice (Za.int .u32))) (Za.slice (Za.int .u32)))))))) (S:=(@Wm _ _ (@RL R8 (@RL ByteArray @Sm)) (@Wm _ _ (@RL R2 (@RL Int (@Ys .i64))) (@Wr _ (@RL R6 (@RL R1 (@Vx _ (@Wm _ _ (@Vx _ (@Wm _ _ @Sk (@Wr _ (@RL Int (@Ys .u32))))) (@Wr _ (@RL Int (@Ys .u32))))))))))) rfl (by kernel_rfl) (Y5.slice (e:=9) (r:=Za.str) (R:=@Sm) underlying22 (by kernel_rfl) (Y5.str underlying9)) (Ul.cons (r:=(Za.slice (Za.slice Za.str))) (R:=(@RL R8 (@RL ByteArray @Sm))) (s:=(Za.pair (Za.slice (Za.slice (Za.int .i64))) (Za.slice (Za.slice (Za.pair (Za.pair Za.bool (Za.slice (Za.int .u32))) (Za.slice (Za.int .u32))))))) (S:=(@Wm _ _ (@RL R2 (@RL Int (@Ys .i64))) (@Wr _ (@RL R6 (@RL R1 (@Vx _ (@Wm _ _ (@Vx _ (@Wm _ _ @Sk (@Wr _ (@RL Int (@Ys .u32))))) (@Wr _ (@RL Int (@Ys .u32)))))))))) rfl (by kernel_rfl) (Y5.slice (e:=22) (r:=(Za.slice Za.str)) (R:=(@RL ByteArray @Sm)) underlying23 (by kernel_rfl) (Y5.slice (e:=9) (r:=Za.str) (R:=@Sm) underlying22 (by kernel_rfl) (Y5.str underlying9))) (Ul.cons (r:=(Za.slice (Za.slice (Za.int .i64)))) (R:=(@RL R2 (@RL Int (@Ys .i64)))) (s:=(Za.slice (Za.slice (Za.pair (Za.pair Za.bool (Za.slice (Za.int .u32))) (Za.slice (Za.int .u32)))))) (S:=(@Wr _ (@RL R6 (@RL R1 (@Vx _ (@Wm _ _ (@Vx _ (@Wm _ _ @Sk (@Wr _ (@RL Int (@Ys .u32))))) (@Wr _ (@RL Int (@Ys .u32))))))))) rfl (by kernel_rfl) (Y5.slice (e:=36) (r:=(Za.slice (Za.int .i64))) (R:=(@RL Int (@Ys .i64))) underlying24 (by kernel_rfl) (Y5.slice (e:=3) (r:=(Za.int .i64)) (R:=(@Ys .i64)) underlying36 (by kernel_rfl) (Y5.int underlying3))) (Ul.one (r:=(Za.slice (Za.slice (Za.pair (Za.pair Za.bool (Za.slice (Za.int .u32))) (Za.slice (Za.int .u32)))))) (R:=(@RL R6 (@RL R1 (@Vx _ (@Wm _ _ (@Vx _ (@Wm _ _ @Sk (@Wr _ (@RL Int (@Ys .u32))))) (@Wr _ (@RL Int (@Ys .u32)))))))) rfl (by kernel_rfl) (Y5.slice (e:=29) (r:=(Za.slice (Za.pair (Za.pair Za.bool (Za.slice (Za.int .u32))) (Za.slice (Za.int .u32))))) (R:=(@RL R1 (@Vx _ (@Wm _ _ (@Vx _ (@Wm _ _ @Sk (@Wr _ (@RL Int (@Ys .u32))))) (@Wr _ (@RL Int (@Ys .u32))))))) underlying25 (by kernel_rfl) (Y5.slice (e:=42) (r:=(Za.pair (Za.pair Za.bool (Za.slice (Za.int .u32))) (Za.slice (Za.int .u32)))) (R:=(@Vx _ (@Wm _ _ (@Vx _ (@Wm _ _ @Sk (@Wr _ (@RL Int (@Ys .u32))))) (@Wr _ (@RL Int (@Ys .u32)))))) underlying29 (by kernel_rfl) (Y5.struct (r:=(Za.pair (Za.pair Za.bool (Za.slice (Za.int .u32))) (Za.slice (Za.int .u32)))) (R:=(@Wm _ _ (@Vx _ (@Wm _ _ @Sk (@Wr _ (@RL Int (@Ys .u32))))) (@Wr _ (@RL Int (@Ys .u32))))) underlying42 (by kernel_rfl) (Ul.cons (r:=(Za.pair Za.bool (Za.slice (Za.int .u32)))) (R:=(@Vx _ (@Wm _ _ @Sk (@Wr _ (@RL Int (@Ys .u32)))))) (s:=(Za.slice (Za.int .u32))) (S:=(@Wr _ (@RL Int (@Ys .u32)))) rfl (by kernel_rfl) (Y5.struct (r:=(Za.pair Za.bool (Za.slice (Za.int .u32)))) (R:=(@Wm _ _ @Sk (@Wr _ (@RL Int (@Ys .u32))))) underlying40 (by kernel_rfl) (Ul.cons (r:=Za.bool) (R:=@Sk) (s:=(Za.slice (Za.int .u32))) (S:=(@Wr _ (@RL Int (@Ys .u32)))) rfl (by kernel_rfl) (Y5.bool underlying4) (Ul.one (r:=(Za.slice (Za.int .u32))) (R:=(@RL Int (@Ys .u32))) rfl (by kernel_rfl) (Y5.slice (e:=45) (r:=(Za.int .u32)) (R:=(@Ys .u32)) underlying38 (by kernel_rfl) (Y5.int underlying45))))) (Ul.one (r:=(Za.slice (Za.int .u32))) (R:=(@RL Int (@Ys .u32))) rfl (by kernel_rfl) (Y5.slice (e:=45) (r:=(Za.int .u32)) (R:=(@Ys .u32)) underlying38 (by kernel_rfl) (Y5.int underlying45))))))))))))) hf
    obtain ⟨h5,h6⟩:=(BQ.agg (Uk.cons BQ.str (Uk.cons (BQ.slice BQ.str) (Uk.cons (BQ.slice (BQ.slice BQ.str)) (Uk.cons (BQ.slice (BQ.slice BQ.int)) (Uk.one (BQ.slice (BQ.slice (BQ.agg (Uk.cons (BQ.agg (Uk.cons BQ.bool (Uk.one (BQ.slice BQ.int)))) (Uk.one (BQ.slice BQ.int)))))))))))) y d0 h2
    exact ⟨y,h5,h6,h1⟩
  obtain ⟨_,_,_,_,x0_0,_,u0_0,v0_0⟩:=rd0
  obtain ⟨e0_1,_⟩:=u0_0
  obtain ⟨_,_,_,_,x0_2,_,u0_2,v0_2⟩:=v0_0
  obtain ⟨⟨a0_3,cap0_3,e0_3,s0_3⟩,_⟩:=u0_2
  obtain ⟨_,_,_,_,x0_4,_,u0_4,v0_4⟩:=v0_2
  obtain ⟨⟨a0_5,cap0_5,e0_5,s0_5⟩,_⟩:=u0_4
  obtain ⟨_,_,_,_,x0_6,_,u0_6,v0_6⟩:=v0_4
  obtain ⟨⟨a0_7,cap0_7,e0_7,s0_7⟩,_⟩:=u0_6
  obtain ⟨⟨a0_8,cap0_8,e0_8,s0_8⟩,_⟩:=v0_6
  obtain rfl:cs0=#[.string y0.1,.slice a0_3 y0.2.1.length cap0_3,.slice a0_5 y0.2.2.1.length cap0_5,.slice a0_7 y0.2.2.2.1.length cap0_7,.slice a0_8 y0.2.2.2.2.length cap0_8]:=by apply Array.toList_inj.1;simp only [x0_0,e0_1,x0_2,e0_3,x0_4,e0_5,x0_6,e0_7,e0_8];rfl
  obtain ⟨a1,len1,cap1,rfl⟩:=okWide_slice underlying36 (hval 1 36 v1 rfl rfl)
  have k1:=h1
  have lt1:∀ x ∈ p1,x.block<W.heap.size:=by obtain ⟨m,hm⟩:=k1;exact DataW.trod_lt m _ _ _ hm
  obtain ⟨y1,b1,w1,e1,s1⟩:∃ y,(Xw Y9) y≤Rows.uptoBulk d1∧(Vd (Tj .i64)) y∧len1=y.length∧Sl (Za.int .i64) (fun _=>0) W a1 cap1 y:=by
    obtain ⟨fuel,hf⟩:=h1
    obtain ⟨y,h1,h2⟩:=(Y5.slice (e:=3) (r:=(Za.int .i64)) (R:=(@Ys .i64)) underlying36 (by kernel_rfl) (Y5.int underlying3)) hf
    obtain ⟨⟨a,cap,h3,h4⟩,_⟩:=h1
    simp [Value.cells] at h3
    obtain ⟨rfl,rfl,rfl⟩:=h3
    obtain ⟨h5,h6⟩:=(BQ.slice BQ.int) y d1 h2
    exact ⟨y,h5,h6,rfl,h4⟩
  subst e1
  obtain ⟨a2,len2,cap2,rfl⟩:=okWide_slice underlying56 (hval 2 56 v2 rfl rfl)
  have k2:=h2
  have lt2:∀ x ∈ p2,x.block<W.heap.size:=by obtain ⟨m,hm⟩:=k2;exact DataW.trod_lt m _ _ _ hm
  obtain ⟨y2,b2,w2,e2,s2⟩:∃ y,(Xw (Vy (Ws Y9 Y9))) y≤Rows.uptoBulk d2∧(Vd (Tv (Tj .i64) (Tj .i64))) y∧len2=y.length∧Sl (Za.pair (Za.int .i64) (Za.int .i64)) (fun _=>0) W a2 cap2 y:=by
    obtain ⟨fuel,hf⟩:=h2
    obtain ⟨y,h1,h2⟩:=(Y5.slice (e:=66) (r:=(Za.pair (Za.int .i64) (Za.int .i64))) (R:=(@Vx _ (@Wm _ _ (@Ys .i64) (@Wr _ (@Ys .i64))))) underlying56 (by kernel_rfl) (Y5.struct (r:=(Za.pair (Za.int .i64) (Za.int .i64))) (R:=(@Wm _ _ (@Ys .i64) (@Wr _ (@Ys .i64)))) underlying66 (by kernel_rfl) (Ul.cons (r:=(Za.int .i64)) (R:=(@Ys .i64)) (s:=(Za.int .i64)) (S:=(@Wr _ (@Ys .i64))) rfl (by kernel_rfl) (Y5.int underlying3) (Ul.one (r:=(Za.int .i64)) (R:=(@Ys .i64)) rfl (by kernel_rfl) (Y5.int underlying3))))) hf
    obtain ⟨⟨a,cap,h3,h4⟩,_⟩:=h1
    simp [Value.cells] at h3
    obtain ⟨rfl,rfl,rfl⟩:=h3
    obtain ⟨h5,h6⟩:=(BQ.slice (BQ.agg (Uk.cons BQ.int (Uk.one BQ.int)))) y d2 h2
    exact ⟨y,h5,h6,rfl,h4⟩
  subst e2
  clear hA0 hval0
  simp only [List.append_nil] at hW'
  have hb:(Vy (Ws Vz (Ws (Xw Vz) (Ws (Xw (Xw Vz)) (Ws (Xw (Xw Y9)) (Xw (Xw (Vy (Ws (Vy (Ws Y9 (Xw Y9))) (Xw Y9)))))))))) y0+(Xw Y9) y1+(Xw (Vy (Ws Y9 Y9))) y2≤1048576:=by omega
  refine (walk y0 a0_3 cap0_3 a0_5 cap0_5 a0_7 cap0_7 a0_8 cap0_8 y1 a1 cap1 y2 a2 cap2 W hb w0 s0_3 s0_5 s0_7 s0_8 w1 s1 w2 s2).mono fun e W' ⟨he,bel⟩=>?_
  subst he
  exact ⟨_,rfl,_,_,_,[],_,[],hW',trodAll_mk1 (shut_bool underlying4 _),(trodAll_cons_mk (Below.trod Zq3 (by kernel_rfl) (of_decide_eq_true (by kernel_rfl)) k0 bel lt0) (trodAll_cons_mk (Below.trod Zq3 (by kernel_rfl) (of_decide_eq_true (by kernel_rfl)) k1 bel lt1) (trodAll_cons_mk (Below.trod Zq3 (by kernel_rfl) (of_decide_eq_true (by kernel_rfl)) k2 bel lt2) trodAll_mk0))),rfl,bel.frame _,fun h=>by cases h⟩

theorem Z2g {a b:Bool} (ha:a=true) (hb:b=true):(a&&b)=true:=by rw [ha,hb];rfl
theorem wrapper:Tryz.f5.isWrapper Tryz.pinned.checked.prog Rows.jointTableUptoRow.wrapper Rows.jointTableUptoRow.mainSum:=by unfold Func.isWrapper;first | (rw [if_pos (by decide+kernel)];kernel_rfl) | (rw [if_neg (by decide+kernel)];exact ⟨rfl,rfl⟩)
theorem inst:Tryz.f5.isInstance Tryz.pinned.checked.prog Rows.jointTableUptoRow.origin Rows.jointTableUptoRow.targs:=of_decide_eq_true (by kernel_rfl)
theorem Z70:Tryz.pinned.checked.prog.funcNamed Rows.jointTableUptoRow.func=some 5:=by kernel_rfl
set_option maxHeartbeats 20000000 in
theorem Z5c:joinedFacts Tryz.pinned.checked.prog 5 Tryz.f5 (Rows.OpenSpec.upto Rows.jointTableSpec).bare Rows.jointTableUptoRow=true:=by
  unfold joinedFacts
  repeat' with_reducible apply Z2g
  all_goals as_aux_lemma=>kernel_rfl
theorem proved:Rows.JointTableUptoSaid:=
  OpenClaim.holds_of_cond 5 Tryz.f5 rfl rfl rfl rfl rfl rfl rfl ⟨rfl,rfl,rfl,rfl,rfl⟩ rfl rfl rfl rfl rfl Z70 func5 Z5c
    inst wrapper (fun os started H enc _ F=>Z7j os started H enc F)
#print axioms proved
end Go.Proofs.YthclpfhncgpnmaaGreat.jointTable
