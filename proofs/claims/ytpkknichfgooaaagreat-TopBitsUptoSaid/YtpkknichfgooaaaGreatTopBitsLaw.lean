/-
  'TopBits' (credence/credencetop.TopBits), where what it reads is of bulk at most 1048576: the call returns true and the arguments read afterwards as before.
-/
import Derived.Test.YtpkknichfgooaaaGreatRows
import Derived.Test.YtpkknichfgooaaaGreatTopBitsBBulk
import Derived.Test.YtpkknichfgooaaaGreatTopBitsF7
import Derived.WalkKit
import Derived.ProofKit
import Derived.OpenShut
import Derived.ShutString
import Derived.ChangeOld
import Derived.Below
import Derived.JoinedCond
namespace Go.Proofs.YtpkknichfgooaaaGreat.topBits
open Go Go.ChangeShapes Go.WideShapes Go.ChangeAt Go.RowKit
open Go.IntKind (i8 i16 i32 i64 u8 u16 u32 u64)
open Go.Proofs.Tryz
open Go.ChangeMaps (open_string shut_string)
set_option linter.unusedVariables false

theorem own:ownKnob prog.godebug=none:=by kernel_rfl
theorem Zx3:laidOutB prog=true:=by kernel_rfl

theorem walk (y0:Z4) (a1:Option Addr) (c1:Nat) (a2:Option Addr) (c2:Nat) (a3:Option Addr) (c3:Nat) (a4:Option Addr) (c4:Nat) (y1:List Int) (a5:Option Addr) (c5:Nat) (w:World)
    (hb:Zhc y0+(X6 W5) y1≤1048576) (q0:Zsy y0)
    (s1:Sl Zc.str (fun _=>0) w a1 c1 y0.2.1) (s2:Sl (Zc.slice Zc.str) (fun _=>0) w a2 c2 y0.2.2.1) (s3:Sl (Zc.slice (Zc.int .i64)) (fun _=>0) w a3 c3 y0.2.2.2.1) (s4:Sl (Zc.slice (Zc.pair (Zc.pair Zc.bool (Zc.slice (Zc.int .u32))) (Zc.slice (Zc.int .u32)))) (fun _=>0) w a4 c4 y0.2.2.2.2)
    (q1:(Vu (Zav .i64)) y1) (s5:Sl (Zc.int .i64) (fun _=>0) w a5 c5 y1):
    Calls prog 3 #[.agg #[.string y0.1,.slice a1 y0.2.1.length c1,.slice a2 y0.2.2.1.length c2,.slice a3 y0.2.2.2.1.length c3,.slice a4 y0.2.2.2.2.length c4],.slice a5 y1.length c5] w
      fun e w'=>e= .returned (.bool true)∧Below w.heap.size w w':=by
  have hn:Zhc y0≤1048576:=by omega
  obtain ⟨h1,h2⟩:=Z8u hn q0
  have h3:=Za6 (b:=W5) Znv y1
  exact Z3l 4611686018427387904 (fun _=>0) w a1 c1 a2 c2 a3 c3 a4 c4 y0 a5 c5 y1 s1 s2 s3 s4 s5 true (Z2p h1 h2 (Z8t hn q0) (by rw [Z8];decide) (by decide) (by omega))

set_option maxRecDepth 100000 in
theorem Z8c (os:Os) (started:os.Started) (H:Type) (enc:TypeId×Value→H) (F:Stop.Interp):
    ReturnsInHanded {} Tryz.checked os 3 .any ((Rows.OpenSpec.upto Rows.topBitsSpec).pre6 enc prog Tryz.f3 Rows.topBitsUptoRow.domain false) (((Rows.OpenSpec.upto Rows.topBitsSpec).at F).post enc prog Tryz.f3 false true false false):=by
  refine returnsInHanded_of_cond (C:=Tryz.checked) (s:=Rows.OpenSpec.upto Rows.topBitsSpec) (k:=Rows.uptoSmall) rfl own started (by kernel_rfl) func3
    (OpenSpec.witness (enc:=enc) (C:=Tryz.checked) (s:=Rows.OpenSpec.upto Rows.topBitsSpec) (k:=Rows.uptoSmall) rfl false ⟨#[],#[.agg #[.string .empty,.slice none 0 0,.slice none 0 0,.slice none 0 0,.slice none 0 0],.slice none 0 0],[]⟩ 8 (by kernel_rfl) (by kernel_rfl) (by kernel_rfl)
      (x:=([.agg [.lit (.string []),.nil,.nil,.nil,.nil],.nil],[],[])) (by kernel_rfl) rfl (by kernel_rfl)) ?_
  intro W base args ds gs before hval0 hW _ hk _
  have hval:∀ (j:Nat) t v,Tryz.f3.params[j]?=some t→args[j]?=some v→Value.okWide prog W .any base t v:=hval0
  have hW':=hW
  obtain ⟨p,q,hA0,hV,rfl,hfz,hnd⟩:=hW
  have hA:DataW.TrodAll enc prog W 0 (fun _=>true) true Tryz.f3.params.toList args.toList ds p:=hA0
  rw [Tryz.params3] at hA hval
  obtain ⟨v0,vs0,d0,ds0,p0,q0,hargs,rfl,rfl,h0,r0⟩:=trodAll_cons hA
  obtain ⟨v1,vs1,d1,ds1,p1,q1,rfl,rfl,rfl,h1,r1⟩:=trodAll_cons r0
  obtain ⟨rfl,rfl,rfl⟩:=trodAll_nil r1
  obtain rfl:args=#[v0,v1]:=by cases args;simp_all
  obtain ⟨rfl,rfl⟩:=trodVars_none hV
  have hk2:=of_decide_eq_true hk
  simp only [List.append_nil,Rows.uptoBulkAll] at hk2
  obtain ⟨cs0,rfl,cz0⟩:=okWide_struct underlying27 (hval 0 27 v0 rfl rfl)
  have k0:=h0
  have lt0:∀ x ∈ p0,x.block<W.heap.size:=by obtain ⟨m,hm⟩:=k0;exact DataW.trod_lt m _ _ _ hm
  obtain ⟨y0,b0,w0,rd0⟩:∃ y,(Tm (Vv Ta (Vv (X6 Ta) (Vv (X6 (X6 Ta)) (Vv (X6 (X6 W5)) (X6 (X6 (Tm (Vv (Tm (Vv W5 (X6 W5))) (X6 W5)))))))))) y≤Rows.uptoBulk d0∧(Qe (fun _=>True) (Qe (Vu (fun _=>True)) (Qe (Vu (Vu (fun _=>True))) (Qe (Vu (Vu (Zav .i64))) (Vu (Vu (Qe (Qe (fun _=>True) (Vu (Zav .u32))) (Vu (Zav .u32))))))))) y∧(Zc.pair Zc.str (Zc.pair (Zc.slice Zc.str) (Zc.pair (Zc.slice (Zc.slice Zc.str)) (Zc.pair (Zc.slice (Zc.slice (Zc.int .i64))) (Zc.slice (Zc.slice (Zc.pair (Zc.pair Zc.bool (Zc.slice (Zc.int .u32))) (Zc.slice (Zc.int .u32))))))))).rd (fun _=>0) W cs0.toList y []:=by
    obtain ⟨fuel,hf⟩:=h0
    obtain ⟨y,h1,h2⟩:=(Wh.struct (r:=(Zc.pair Zc.str (Zc.pair (Zc.slice Zc.str) (Zc.pair (Zc.slice (Zc.slice Zc.str)) (Zc.pair (Zc.slice (Zc.slice (Zc.int .i64))) (Zc.slice (Zc.slice (Zc.pair (Zc.pair Zc.bool (Zc.slice (Zc.int .u32))) (Zc.slice (Zc.int .u32)))))))))) (R:=(@Wo _ _ @Ql (@Wo _ _ (@RL ByteArray @Ql) (@Wo _ _ (@RL R4 (@RL ByteArray @Ql)) (@Wo _ _ (@RL R2 (@RL Int (@Wi .i64))) (@W4 _ (@RL R6 (@RL R0 (@Uq _ (@Wo _ _ (@Uq _ (@Wo _ _ @Qk (@W4 _ (@RL Int (@Wi .u32))))) (@W4 _ (@RL Int (@Wi .u32))))))))))))) underlying27 (by kernel_rfl) (T4.cons (r:=Zc.str) (R:=@Ql) (s:=(Zc.pair (Zc.slice Zc.str) (Zc.pair (Zc.slice (Zc.slice Zc.str)) (Zc.pair (Zc.slice (Zc.slice (Zc.int .i64))) (Zc.slice (Zc.slice (Zc.pair (Zc.pair Zc.bool (Zc.slice (Zc.int .u32))) (Zc.slice (Zc.int .u32))))))))) (S:=(@Wo _ _ (@RL ByteArray @Ql) (@Wo _ _ (@RL R4 (@RL ByteArray @Ql)) (@Wo _ _ (@RL R2 (@RL Int (@Wi .i64))) (@W4 _ (@RL R6 (@RL R0 (@Uq _ (@Wo _ _ (@Uq _ (@Wo _ _ @Qk (@W4 _ (@RL Int (@Wi .u32))))) (@W4 _ (@RL Int (@Wi .u32)))))))))))) rfl (by kernel_rfl) (Wh.str underlying9) (T4.cons (r:=(Zc.slice Zc.str)) (R:=(@RL ByteArray @Ql)) (s:=(Zc.pair (Zc.slice (Zc.slice Zc.str)) (Zc.pair (Zc.slice (Zc.slice (Zc.int .i64))) (Zc.slice (Zc.slice (Zc.pair (Zc.pair Zc.bool (Zc.slice (Zc.int .u32))) (Zc.slice (Zc.int .u32)))))))) (S:=(@Wo _ _ (@RL R4 (@RL ByteArray @Ql)) (@Wo _ _ (@RL R2 (@RL Int (@Wi .i64))) (@W4 _ (@RL R6 (@RL R0 (@Uq _ (@Wo _ _ (@Uq _ (@Wo _ _ @Qk (@W4 _ (@RL Int (@Wi .u32))))) (@W4 _ (@RL Int (@Wi .u32))))))))))) rfl (by kernel_rfl) (Wh.slice (e:=9) (r:=Zc.str) (R:=@Ql) underlying22 (by kernel_rfl) (Wh.str underlying9)) (T4.cons (r:=(Zc.slice (Zc.slice Zc.str))) (R:=(@RL R4 (@RL ByteArray @Ql))) (s:=(Zc.pair (Zc.slice (Zc.slice (Zc.int .i64))) (Zc.slice (Zc.slice (Zc.pair (Zc.pair Zc.bool (Zc.slice (Zc.int .u32))) (Zc.slice (Zc.int .u32))))))) (S:=(@Wo _ _ (@RL R2 (@RL Int (@Wi .i64))) (@W4 _ (@RL R6 (@RL R0 (@Uq _ (@Wo _ _ (@Uq _ (@Wo _ _ @Qk (@W4 _ (@RL Int (@Wi .u32))))) (@W4 _ (@RL Int (@Wi .u32)))))))))) rfl (by kernel_rfl) (Wh.slice (e:=22) (r:=(Zc.slice Zc.str)) (R:=(@RL ByteArray @Ql)) underlying23 (by kernel_rfl) (Wh.slice (e:=9) (r:=Zc.str) (R:=@Ql) underlying22 (by kernel_rfl) (Wh.str underlying9))) (T4.cons (r:=(Zc.slice (Zc.slice (Zc.int .i64)))) (R:=(@RL R2 (@RL Int (@Wi .i64)))) (s:=(Zc.slice (Zc.slice (Zc.pair (Zc.pair Zc.bool (Zc.slice (Zc.int .u32))) (Zc.slice (Zc.int .u32)))))) (S:=(@W4 _ (@RL R6 (@RL R0 (@Uq _ (@Wo _ _ (@Uq _ (@Wo _ _ @Qk (@W4 _ (@RL Int (@Wi .u32))))) (@W4 _ (@RL Int (@Wi .u32))))))))) rfl (by kernel_rfl) (Wh.slice (e:=28) (r:=(Zc.slice (Zc.int .i64))) (R:=(@RL Int (@Wi .i64))) underlying24 (by kernel_rfl) (Wh.slice (e:=3) (r:=(Zc.int .i64)) (R:=(@Wi .i64)) underlying28 (by kernel_rfl) (Wh.int underlying3))) (T4.one (r:=(Zc.slice (Zc.slice (Zc.pair (Zc.pair Zc.bool (Zc.slice (Zc.int .u32))) (Zc.slice (Zc.int .u32)))))) (R:=(@RL R6 (@RL R0 (@Uq _ (@Wo _ _ (@Uq _ (@Wo _ _ @Qk (@W4 _ (@RL Int (@Wi .u32))))) (@W4 _ (@RL Int (@Wi .u32)))))))) rfl (by kernel_rfl) (Wh.slice (e:=58) (r:=(Zc.slice (Zc.pair (Zc.pair Zc.bool (Zc.slice (Zc.int .u32))) (Zc.slice (Zc.int .u32))))) (R:=(@RL R0 (@Uq _ (@Wo _ _ (@Uq _ (@Wo _ _ @Qk (@W4 _ (@RL Int (@Wi .u32))))) (@W4 _ (@RL Int (@Wi .u32))))))) underlying25 (by kernel_rfl) (Wh.slice (e:=42) (r:=(Zc.pair (Zc.pair Zc.bool (Zc.slice (Zc.int .u32))) (Zc.slice (Zc.int .u32)))) (R:=(@Uq _ (@Wo _ _ (@Uq _ (@Wo _ _ @Qk (@W4 _ (@RL Int (@Wi .u32))))) (@W4 _ (@RL Int (@Wi .u32)))))) underlying58 (by kernel_rfl) (Wh.struct (r:=(Zc.pair (Zc.pair Zc.bool (Zc.slice (Zc.int .u32))) (Zc.slice (Zc.int .u32)))) (R:=(@Wo _ _ (@Uq _ (@Wo _ _ @Qk (@W4 _ (@RL Int (@Wi .u32))))) (@W4 _ (@RL Int (@Wi .u32))))) underlying42 (by kernel_rfl) (T4.cons (r:=(Zc.pair Zc.bool (Zc.slice (Zc.int .u32)))) (R:=(@Uq _ (@Wo _ _ @Qk (@W4 _ (@RL Int (@Wi .u32)))))) (s:=(Zc.slice (Zc.int .u32))) (S:=(@W4 _ (@RL Int (@Wi .u32)))) rfl (by kernel_rfl) (Wh.struct (r:=(Zc.pair Zc.bool (Zc.slice (Zc.int .u32)))) (R:=(@Wo _ _ @Qk (@W4 _ (@RL Int (@Wi .u32))))) underlying40 (by kernel_rfl) (T4.cons (r:=Zc.bool) (R:=@Qk) (s:=(Zc.slice (Zc.int .u32))) (S:=(@W4 _ (@RL Int (@Wi .u32)))) rfl (by kernel_rfl) (Wh.bool underlying4) (T4.one (r:=(Zc.slice (Zc.int .u32))) (R:=(@RL Int (@Wi .u32))) rfl (by kernel_rfl) (Wh.slice (e:=119) (r:=(Zc.int .u32)) (R:=(@Wi .u32)) underlying38 (by kernel_rfl) (Wh.int underlying119))))) (T4.one (r:=(Zc.slice (Zc.int .u32))) (R:=(@RL Int (@Wi .u32))) rfl (by kernel_rfl) (Wh.slice (e:=119) (r:=(Zc.int .u32)) (R:=(@Wi .u32)) underlying38 (by kernel_rfl) (Wh.int underlying119))))))))))))) hf
    obtain ⟨h5,h6⟩:=(BQ.agg (T0.cons BQ.str (T0.cons (BQ.slice BQ.str) (T0.cons (BQ.slice (BQ.slice BQ.str)) (T0.cons (BQ.slice (BQ.slice BQ.int)) (T0.one (BQ.slice (BQ.slice (BQ.agg (T0.cons (BQ.agg (T0.cons BQ.bool (T0.one (BQ.slice BQ.int)))) (T0.one (BQ.slice BQ.int)))))))))))) y d0 h2
    exact ⟨y,h5,h6,h1⟩
  obtain ⟨_,_,_,_,x0_0,_,u0_0,v0_0⟩:=rd0
  obtain ⟨e0_1,_⟩:=u0_0
  obtain ⟨_,_,_,_,x0_2,_,u0_2,v0_2⟩:=v0_0
  obtain ⟨⟨a0_3,cap0_3,e0_3,s0_3⟩,_⟩:=u0_2
  obtain ⟨_,_,_,_,x0_4,_,u0_4,v0_4⟩:=v0_2
  obtain ⟨⟨a0_5,cap0_5,e0_5,s0_5⟩,_⟩:=u0_4
  obtain ⟨_,_,_,_,x0_6,_,u0_6,v0_6⟩:=v0_4
  obtain ⟨⟨a0_7,cap0_7,e0_7,s0_7⟩,_⟩:=u0_6
  obtain ⟨⟨a0_8,cap0_8,e0_8,s0_8⟩,_⟩:=v0_6
  obtain rfl:cs0=#[.string y0.1,.slice a0_3 y0.2.1.length cap0_3,.slice a0_5 y0.2.2.1.length cap0_5,.slice a0_7 y0.2.2.2.1.length cap0_7,.slice a0_8 y0.2.2.2.2.length cap0_8]:=by apply Array.toList_inj.1;simp only [x0_0,e0_1,x0_2,e0_3,x0_4,e0_5,x0_6,e0_7,e0_8];rfl
  obtain ⟨a1,len1,cap1,rfl⟩:=okWide_slice underlying28 (hval 1 28 v1 rfl rfl)
  have k1:=h1
  have lt1:∀ x ∈ p1,x.block<W.heap.size:=by obtain ⟨m,hm⟩:=k1;exact DataW.trod_lt m _ _ _ hm
  obtain ⟨y1,b1,w1,e1,s1⟩:∃ y,(X6 W5) y≤Rows.uptoBulk d1∧(Vu (Zav .i64)) y∧len1=y.length∧Sl (Zc.int .i64) (fun _=>0) W a1 cap1 y:=by
    obtain ⟨fuel,hf⟩:=h1
    obtain ⟨y,h1,h2⟩:=(Wh.slice (e:=3) (r:=(Zc.int .i64)) (R:=(@Wi .i64)) underlying28 (by kernel_rfl) (Wh.int underlying3)) hf
    obtain ⟨⟨a,cap,h3,h4⟩,_⟩:=h1
    simp [Value.cells] at h3
    obtain ⟨rfl,rfl,rfl⟩:=h3
    obtain ⟨h5,h6⟩:=(BQ.slice BQ.int) y d1 h2
    exact ⟨y,h5,h6,rfl,h4⟩
  subst e1
  clear hA0 hval0
  simp only [List.append_nil] at hW'
  have hb:(Tm (Vv Ta (Vv (X6 Ta) (Vv (X6 (X6 Ta)) (Vv (X6 (X6 W5)) (X6 (X6 (Tm (Vv (Tm (Vv W5 (X6 W5))) (X6 W5)))))))))) y0+(X6 W5) y1≤1048576:=by omega
  refine (walk y0 a0_3 cap0_3 a0_5 cap0_5 a0_7 cap0_7 a0_8 cap0_8 y1 a1 cap1 W hb w0 s0_3 s0_5 s0_7 s0_8 w1 s1).mono fun e W' ⟨he,bel⟩=>?_
  subst he
  exact ⟨_,rfl,_,_,_,[],_,[],hW',trodAll_mk1 (shut_bool underlying4 _),(trodAll_cons_mk (Below.trod Zx3 (by kernel_rfl) (of_decide_eq_true (by kernel_rfl)) k0 bel lt0) (trodAll_cons_mk (Below.trod Zx3 (by kernel_rfl) (of_decide_eq_true (by kernel_rfl)) k1 bel lt1) trodAll_mk0)),rfl,bel.frame _,fun h=>by cases h⟩

theorem Z2v {a b:Bool} (ha:a=true) (hb:b=true):(a&&b)=true:=by rw [ha,hb];rfl
theorem wrapper:Tryz.f3.isWrapper Tryz.pinned.checked.prog Rows.topBitsUptoRow.wrapper Rows.topBitsUptoRow.mainSum:=by unfold Func.isWrapper;first | (rw [if_pos (by decide+kernel)];kernel_rfl) | (rw [if_neg (by decide+kernel)];exact ⟨rfl,rfl⟩)
theorem inst:Tryz.f3.isInstance Tryz.pinned.checked.prog Rows.topBitsUptoRow.origin Rows.topBitsUptoRow.targs:=of_decide_eq_true (by kernel_rfl)
theorem Z8s:Tryz.pinned.checked.prog.funcNamed Rows.topBitsUptoRow.func=some 3:=by kernel_rfl
set_option maxHeartbeats 20000000 in
theorem Z5x:joinedFacts Tryz.pinned.checked.prog 3 Tryz.f3 (Rows.OpenSpec.upto Rows.topBitsSpec).bare Rows.topBitsUptoRow=true:=by
  unfold joinedFacts
  repeat' with_reducible apply Z2v
  all_goals as_aux_lemma=>kernel_rfl
theorem proved:Rows.TopBitsUptoSaid:=
  OpenClaim.holds_of_cond 3 Tryz.f3 rfl rfl rfl rfl rfl rfl rfl ⟨rfl,rfl,rfl,rfl,rfl⟩ rfl rfl rfl rfl rfl Z8s func3 Z5x
    inst wrapper (fun os started H enc _ F=>Z8c os started H enc F)
#print axioms proved
end Go.Proofs.YtpkknichfgooaaaGreat.topBits
