/-
  'QueryCheck' (credence/credencelaw23.QueryCheck), where what it reads is of bulk at most 1048576: the call returns true and the arguments read afterwards as before.
-/
import Derived.Test.YtbmjpjhbankpoaaGreatRows
import Derived.Test.YtbmjpjhbankpoaaGreatQueryCheckBBulk
import Derived.Test.YtbmjpjhbankpoaaGreatQueryCheckF6
import Derived.WalkKit
import Derived.ProofKit
import Derived.OpenShut
import Derived.ShutString
import Derived.ChangeOld
import Derived.Below
import Derived.JoinedCond
namespace Go.Proofs.YtbmjpjhbankpoaaGreat.queryCheck
open Go Go.ChangeShapes Go.WideShapes Go.ChangeAt Go.RowKit
open Go.IntKind (i8 i16 i32 i64 u8 u16 u32 u64)
open Go.Proofs.Tryz
open Go.ChangeMaps (open_string shut_string)
set_option linter.unusedVariables false

theorem own:ownKnob Tryz.prog.godebug=none:=by kernel_rfl
theorem Zpn:laidOutB Tryz.prog=true:=by kernel_rfl

theorem walk (y0:W2) (a1:Option Addr) (c1:Nat) (a2:Option Addr) (c2:Nat) (a3:Option Addr) (c3:Nat) (a4:Option Addr) (c4:Nat) (y1:Sz) (a5:Option Addr) (c5:Nat) (a6:Option Addr) (c6:Nat) (a7:Option Addr) (c7:Nat) (w:World)
    (hb:Zgu y0+(Wj (Yg Wc (Yg (X9 (Wj (Yg Wb Wb))) (Yg (X9 (Wj (Yg Wb Wb))) (Yg Wc (Yg (X9 Wb) (Wj (Yg Wc Wc)))))))) y1≤1048576) (q0:Zrh y0)
    (s1:Sl Za.str (fun _=>0) w a1 c1 y0.2.1) (s2:Sl (Za.slice Za.str) (fun _=>0) w a2 c2 y0.2.2.1) (s3:Sl (Za.slice (Za.int .i64)) (fun _=>0) w a3 c3 y0.2.2.2.1) (s4:Sl (Za.slice (Za.pair (Za.pair Za.bool (Za.slice (Za.int .u32))) (Za.slice (Za.int .u32)))) (fun _=>0) w a4 c4 y0.2.2.2.2)
    (q1:(Ws (U8 .i8) (Ws (W3 (Ws (fun _=>True) (fun _=>True))) (Ws (W3 (Ws (fun _=>True) (fun _=>True))) (Ws (U8 .i8) (Ws (W3 (fun _=>True)) (Ws (fun _=>True) (fun _=>True))))))) y1)
    (s5:Sl (Za.pair Za.str Za.str) (fun _=>0) w a5 c5 y1.2.1) (s6:Sl (Za.pair Za.str Za.str) (fun _=>0) w a6 c6 y1.2.2.1) (s7:Sl Za.str (fun _=>0) w a7 c7 y1.2.2.2.2.1):
    Calls Tryz.prog 3 #[.agg #[.string y0.1,.slice a1 y0.2.1.length c1,.slice a2 y0.2.2.1.length c2,.slice a3 y0.2.2.2.1.length c3,.slice a4 y0.2.2.2.2.length c4],.agg #[.int .i8 y1.1,.slice a5 y1.2.1.length c5,.slice a6 y1.2.2.1.length c6,.int .i8 y1.2.2.2.1,.slice a7 y1.2.2.2.2.1.length c7,.bool y1.2.2.2.2.2.1,.bool y1.2.2.2.2.2.2]] w
      fun e w'=>e= .returned (.bool true)∧Below w.heap.size w w':=by
  have hn:Zgu y0≤1048576:=by omega
  obtain ⟨h1,h2⟩:=Zx2 hn q0
  have hk:-128≤y1.2.2.2.1∧y1.2.2.2.1≤127:=by
    have h:=q1.2.2.2.1
    simp [U8,Lit.wf,IntKind.min,IntKind.max,IntKind.signed,IntKind.bits] at h
    exact h
  have h3:Zan y1:=by
    have a1:=Tp (b:=Wj (Yg Wb Wb)) Zk6 y1.2.1
    have a2:=Tp (b:=Wj (Yg Wb Wb)) Zk6 y1.2.2.1
    have a3:=Tp (b:=Wb) Zix y1.2.2.2.2.1
    generalize Zgu y0=b0 at hb
    rw [Wj,Yg,Yg,Yg,Yg,Yg] at hb
    exact ⟨by omega,by omega,by omega,hk⟩
  exact Zuj 4611686018427387904 (fun _=>0) w a1 c1 a2 c2 a3 c3 a4 c4 y0 a5 c5 a6 c6 a7 c7 y1 s1 s2 s3 s4 s5 s6 s7 true (Ztz h1 h2 h3 Zx1 (by decide))


set_option maxRecDepth 100000 in
theorem Zxi (os:Os) (started:os.Started) (H:Type) (enc:TypeId×Value→H) (F:Stop.Interp):
    ReturnsInHanded {} Tryz.checked os 3 .any ((Rows.OpenSpec.upto Rows.queryCheckSpec).pre6 enc Tryz.prog Tryz.f3 Rows.queryCheckUptoRow.domain false) (((Rows.OpenSpec.upto Rows.queryCheckSpec).at F).post enc Tryz.prog Tryz.f3 false true false false):=by
  refine returnsInHanded_of_cond (C:=Tryz.checked) (s:=Rows.OpenSpec.upto Rows.queryCheckSpec) (k:=Rows.uptoSmall) rfl own started (by kernel_rfl) func3
    (OpenSpec.witness (enc:=enc) (C:=Tryz.checked) (s:=Rows.OpenSpec.upto Rows.queryCheckSpec) (k:=Rows.uptoSmall) rfl false ⟨#[],#[.agg #[.string .empty,.slice none 0 0,.slice none 0 0,.slice none 0 0,.slice none 0 0],.agg #[.int .i8 0,.slice none 0 0,.slice none 0 0,.int .i8 0,.slice none 0 0,.bool false,.bool false]],[]⟩ 8 (by kernel_rfl) (by kernel_rfl) (by kernel_rfl)
      (x:=([.agg [.lit (.string []),.nil,.nil,.nil,.nil],.agg [.lit (.int .i8 0),.nil,.nil,.lit (.int .i8 0),.nil,.agg [.lit (.bool false),.lit (.bool false)]]],[],[])) (by kernel_rfl) rfl (by kernel_rfl)) ?_
  intro W base args ds gs before hval0 hW _ hk _
  have hval:∀ (j:Nat) t v,Tryz.f3.params[j]?=some t→args[j]?=some v→Value.okWide Tryz.prog W .any base t v:=hval0
  have hW':=hW
  obtain ⟨p,q,hA0,hV,rfl,hfz,hnd⟩:=hW
  have hA:DataW.TrodAll enc Tryz.prog W 0 (fun _=>true) true Tryz.f3.params.toList args.toList ds p:=hA0
  rw [Tryz.params3] at hA hval
  obtain ⟨v0,vs0,d0,ds0,p0,q0,hargs,rfl,rfl,h0,r0⟩:=trodAll_cons hA
  obtain ⟨v1,vs1,d1,ds1,p1,q1,rfl,rfl,rfl,h1,r1⟩:=trodAll_cons r0
  obtain ⟨rfl,rfl,rfl⟩:=trodAll_nil r1
  obtain rfl:args=#[v0,v1]:=by cases args;simp_all
  obtain ⟨rfl,rfl⟩:=trodVars_none hV
  have hk2:=of_decide_eq_true hk
  simp only [List.append_nil,Rows.uptoBulkAll] at hk2
  obtain ⟨cs0,rfl,cz0⟩:=okWide_struct underlying27 (hval 0 27 v0 rfl rfl)
  have k0:=h0
  have lt0:∀ x ∈ p0,x.block<W.heap.size:=by obtain ⟨m,hm⟩:=k0;exact DataW.trod_lt m _ _ _ hm
  obtain ⟨y0,b0,w0,rd0⟩:∃ y,(Wj (Yg Wb (Yg (X9 Wb) (Yg (X9 (X9 Wb)) (Yg (X9 (X9 Wc)) (X9 (X9 (Wj (Yg (Wj (Yg Wc (X9 Wc))) (X9 Wc)))))))))) y≤Rows.uptoBulk d0∧(Ws (fun _=>True) (Ws (W3 (fun _=>True)) (Ws (W3 (W3 (fun _=>True))) (Ws (W3 (W3 (U8 .i64))) (W3 (W3 (Ws (Ws (fun _=>True) (W3 (U8 .u32))) (W3 (U8 .u32))))))))) y∧(Za.pair Za.str (Za.pair (Za.slice Za.str) (Za.pair (Za.slice (Za.slice Za.str)) (Za.pair (Za.slice (Za.slice (Za.int .i64))) (Za.slice (Za.slice (Za.pair (Za.pair Za.bool (Za.slice (Za.int .u32))) (Za.slice (Za.int .u32))))))))).rd (fun _=>0) W cs0.toList y []:=by
    obtain ⟨fuel,hf⟩:=h0
    obtain ⟨y,h1,h2⟩:=(Yj.struct (r:=(Za.pair Za.str (Za.pair (Za.slice Za.str) (Za.pair (Za.slice (Za.slice Za.str)) (Za.pair (Za.slice (Za.slice (Za.int .i64))) (Za.slice (Za.slice (Za.pair (Za.pair Za.bool (Za.slice (Za.int .u32))) (Za.slice (Za.int .u32)))))))))) (R:=(@Yd _ _ @Yp (@Yd _ _ (@RL ByteArray @Yp) (@Yd _ _ (@RL (List ByteArray) (@RL ByteArray @Yp)) (@Yd _ _ (@RL (List Int) (@RL Int (@Y5 .i64))) (@Yo _ (@RL (List ((Bool×List Int)×List Int)) (@RL ((Bool×List Int)×List Int) (@W0 _ (@Yd _ _ (@W0 _ (@Yd _ _ @Vu (@Yo _ (@RL Int (@Y5 .u32))))) (@Yo _ (@RL Int (@Y5 .u32))))))))))))) underlying27 (by kernel_rfl) (W8.cons (r:=Za.str) (R:=@Yp) (s:=(Za.pair (Za.slice Za.str) (Za.pair (Za.slice (Za.slice Za.str)) (Za.pair (Za.slice (Za.slice (Za.int .i64))) (Za.slice (Za.slice (Za.pair (Za.pair Za.bool (Za.slice (Za.int .u32))) (Za.slice (Za.int .u32))))))))) (S:=(@Yd _ _ (@RL ByteArray @Yp) (@Yd _ _ (@RL (List ByteArray) (@RL ByteArray @Yp)) (@Yd _ _ (@RL (List Int) (@RL Int (@Y5 .i64))) (@Yo _ (@RL (List ((Bool×List Int)×List Int)) (@RL ((Bool×List Int)×List Int) (@W0 _ (@Yd _ _ (@W0 _ (@Yd _ _ @Vu (@Yo _ (@RL Int (@Y5 .u32))))) (@Yo _ (@RL Int (@Y5 .u32)))))))))))) rfl (by kernel_rfl) (Yj.str underlying9) (W8.cons (r:=(Za.slice Za.str)) (R:=(@RL ByteArray @Yp)) (s:=(Za.pair (Za.slice (Za.slice Za.str)) (Za.pair (Za.slice (Za.slice (Za.int .i64))) (Za.slice (Za.slice (Za.pair (Za.pair Za.bool (Za.slice (Za.int .u32))) (Za.slice (Za.int .u32)))))))) (S:=(@Yd _ _ (@RL (List ByteArray) (@RL ByteArray @Yp)) (@Yd _ _ (@RL (List Int) (@RL Int (@Y5 .i64))) (@Yo _ (@RL (List ((Bool×List Int)×List Int)) (@RL ((Bool×List Int)×List Int) (@W0 _ (@Yd _ _ (@W0 _ (@Yd _ _ @Vu (@Yo _ (@RL Int (@Y5 .u32))))) (@Yo _ (@RL Int (@Y5 .u32))))))))))) rfl (by kernel_rfl) (Yj.slice (e:=9) (r:=Za.str) (R:=@Yp) underlying22 (by kernel_rfl) (Yj.str underlying9)) (W8.cons (r:=(Za.slice (Za.slice Za.str))) (R:=(@RL (List ByteArray) (@RL ByteArray @Yp))) (s:=(Za.pair (Za.slice (Za.slice (Za.int .i64))) (Za.slice (Za.slice (Za.pair (Za.pair Za.bool (Za.slice (Za.int .u32))) (Za.slice (Za.int .u32))))))) (S:=(@Yd _ _ (@RL (List Int) (@RL Int (@Y5 .i64))) (@Yo _ (@RL (List ((Bool×List Int)×List Int)) (@RL ((Bool×List Int)×List Int) (@W0 _ (@Yd _ _ (@W0 _ (@Yd _ _ @Vu (@Yo _ (@RL Int (@Y5 .u32))))) (@Yo _ (@RL Int (@Y5 .u32)))))))))) rfl (by kernel_rfl) (Yj.slice (e:=22) (r:=(Za.slice Za.str)) (R:=(@RL ByteArray @Yp)) underlying23 (by kernel_rfl) (Yj.slice (e:=9) (r:=Za.str) (R:=@Yp) underlying22 (by kernel_rfl) (Yj.str underlying9))) (W8.cons (r:=(Za.slice (Za.slice (Za.int .i64)))) (R:=(@RL (List Int) (@RL Int (@Y5 .i64)))) (s:=(Za.slice (Za.slice (Za.pair (Za.pair Za.bool (Za.slice (Za.int .u32))) (Za.slice (Za.int .u32)))))) (S:=(@Yo _ (@RL (List ((Bool×List Int)×List Int)) (@RL ((Bool×List Int)×List Int) (@W0 _ (@Yd _ _ (@W0 _ (@Yd _ _ @Vu (@Yo _ (@RL Int (@Y5 .u32))))) (@Yo _ (@RL Int (@Y5 .u32))))))))) rfl (by kernel_rfl) (Yj.slice (e:=40) (r:=(Za.slice (Za.int .i64))) (R:=(@RL Int (@Y5 .i64))) underlying24 (by kernel_rfl) (Yj.slice (e:=3) (r:=(Za.int .i64)) (R:=(@Y5 .i64)) underlying40 (by kernel_rfl) (Yj.int underlying3))) (W8.one (r:=(Za.slice (Za.slice (Za.pair (Za.pair Za.bool (Za.slice (Za.int .u32))) (Za.slice (Za.int .u32)))))) (R:=(@RL (List ((Bool×List Int)×List Int)) (@RL ((Bool×List Int)×List Int) (@W0 _ (@Yd _ _ (@W0 _ (@Yd _ _ @Vu (@Yo _ (@RL Int (@Y5 .u32))))) (@Yo _ (@RL Int (@Y5 .u32)))))))) rfl (by kernel_rfl) (Yj.slice (e:=56) (r:=(Za.slice (Za.pair (Za.pair Za.bool (Za.slice (Za.int .u32))) (Za.slice (Za.int .u32))))) (R:=(@RL ((Bool×List Int)×List Int) (@W0 _ (@Yd _ _ (@W0 _ (@Yd _ _ @Vu (@Yo _ (@RL Int (@Y5 .u32))))) (@Yo _ (@RL Int (@Y5 .u32))))))) underlying25 (by kernel_rfl) (Yj.slice (e:=47) (r:=(Za.pair (Za.pair Za.bool (Za.slice (Za.int .u32))) (Za.slice (Za.int .u32)))) (R:=(@W0 _ (@Yd _ _ (@W0 _ (@Yd _ _ @Vu (@Yo _ (@RL Int (@Y5 .u32))))) (@Yo _ (@RL Int (@Y5 .u32)))))) underlying56 (by kernel_rfl) (Yj.struct (r:=(Za.pair (Za.pair Za.bool (Za.slice (Za.int .u32))) (Za.slice (Za.int .u32)))) (R:=(@Yd _ _ (@W0 _ (@Yd _ _ @Vu (@Yo _ (@RL Int (@Y5 .u32))))) (@Yo _ (@RL Int (@Y5 .u32))))) underlying47 (by kernel_rfl) (W8.cons (r:=(Za.pair Za.bool (Za.slice (Za.int .u32)))) (R:=(@W0 _ (@Yd _ _ @Vu (@Yo _ (@RL Int (@Y5 .u32)))))) (s:=(Za.slice (Za.int .u32))) (S:=(@Yo _ (@RL Int (@Y5 .u32)))) rfl (by kernel_rfl) (Yj.struct (r:=(Za.pair Za.bool (Za.slice (Za.int .u32)))) (R:=(@Yd _ _ @Vu (@Yo _ (@RL Int (@Y5 .u32))))) underlying45 (by kernel_rfl) (W8.cons (r:=Za.bool) (R:=@Vu) (s:=(Za.slice (Za.int .u32))) (S:=(@Yo _ (@RL Int (@Y5 .u32)))) rfl (by kernel_rfl) (Yj.bool underlying4) (W8.one (r:=(Za.slice (Za.int .u32))) (R:=(@RL Int (@Y5 .u32))) rfl (by kernel_rfl) (Yj.slice (e:=79) (r:=(Za.int .u32)) (R:=(@Y5 .u32)) underlying43 (by kernel_rfl) (Yj.int underlying79))))) (W8.one (r:=(Za.slice (Za.int .u32))) (R:=(@RL Int (@Y5 .u32))) rfl (by kernel_rfl) (Yj.slice (e:=79) (r:=(Za.int .u32)) (R:=(@Y5 .u32)) underlying43 (by kernel_rfl) (Yj.int underlying79))))))))))))) hf
    obtain ⟨h5,h6⟩:=(BQ.agg (W7.cons BQ.str (W7.cons (BQ.slice BQ.str) (W7.cons (BQ.slice (BQ.slice BQ.str)) (W7.cons (BQ.slice (BQ.slice BQ.int)) (W7.one (BQ.slice (BQ.slice (BQ.agg (W7.cons (BQ.agg (W7.cons BQ.bool (W7.one (BQ.slice BQ.int)))) (W7.one (BQ.slice BQ.int)))))))))))) y d0 h2
    exact ⟨y,h5,h6,h1⟩
  obtain ⟨_,_,_,_,x0_0,_,u0_0,v0_0⟩:=rd0
  obtain ⟨e0_1,_⟩:=u0_0
  obtain ⟨_,_,_,_,x0_2,_,u0_2,v0_2⟩:=v0_0
  obtain ⟨⟨a0_3,cap0_3,e0_3,s0_3⟩,_⟩:=u0_2
  obtain ⟨_,_,_,_,x0_4,_,u0_4,v0_4⟩:=v0_2
  obtain ⟨⟨a0_5,cap0_5,e0_5,s0_5⟩,_⟩:=u0_4
  obtain ⟨_,_,_,_,x0_6,_,u0_6,v0_6⟩:=v0_4
  obtain ⟨⟨a0_7,cap0_7,e0_7,s0_7⟩,_⟩:=u0_6
  obtain ⟨⟨a0_8,cap0_8,e0_8,s0_8⟩,_⟩:=v0_6
  obtain rfl:cs0=#[.string y0.1,.slice a0_3 y0.2.1.length cap0_3,.slice a0_5 y0.2.2.1.length cap0_5,.slice a0_7 y0.2.2.2.1.length cap0_7,.slice a0_8 y0.2.2.2.2.length cap0_8]:=by apply Array.toList_inj.1;simp only [x0_0,e0_1,x0_2,e0_3,x0_4,e0_5,x0_6,e0_7,e0_8];rfl
  obtain ⟨cs1,rfl,cz1⟩:=okWide_struct underlying32 (hval 1 32 v1 rfl rfl)
  have k1:=h1
  have lt1:∀ x ∈ p1,x.block<W.heap.size:=by obtain ⟨m,hm⟩:=k1;exact DataW.trod_lt m _ _ _ hm
  obtain ⟨y1,b1,w1,rd1⟩:∃ y,(Wj (Yg Wc (Yg (X9 (Wj (Yg Wb Wb))) (Yg (X9 (Wj (Yg Wb Wb))) (Yg Wc (Yg (X9 Wb) (Wj (Yg Wc Wc)))))))) y≤Rows.uptoBulk d1∧(Ws (U8 .i8) (Ws (W3 (Ws (fun _=>True) (fun _=>True))) (Ws (W3 (Ws (fun _=>True) (fun _=>True))) (Ws (U8 .i8) (Ws (W3 (fun _=>True)) (Ws (fun _=>True) (fun _=>True))))))) y∧(Za.pair (Za.int .i8) (Za.pair (Za.slice (Za.pair Za.str Za.str)) (Za.pair (Za.slice (Za.pair Za.str Za.str)) (Za.pair (Za.int .i8) (Za.pair (Za.slice Za.str) (Za.pair Za.bool Za.bool)))))).rd (fun _=>0) W cs1.toList y []:=by
    obtain ⟨fuel,hf⟩:=h1
    obtain ⟨y,h1,h2⟩:=(Yj.struct (r:=(Za.pair (Za.int .i8) (Za.pair (Za.slice (Za.pair Za.str Za.str)) (Za.pair (Za.slice (Za.pair Za.str Za.str)) (Za.pair (Za.int .i8) (Za.pair (Za.slice Za.str) (Za.pair Za.bool Za.bool))))))) (R:=(@Yd _ _ (@Y5 .i8) (@Yd _ _ (@RL (ByteArray×ByteArray) (@W0 _ (@Yd _ _ @Yp (@Yo _ @Yp)))) (@Yd _ _ (@RL (ByteArray×ByteArray) (@W0 _ (@Yd _ _ @Yp (@Yo _ @Yp)))) (@Yd _ _ (@Y5 .i8) (@Yd _ _ (@RL ByteArray @Yp) (@Yo _ (@Zam _ @Vu)))))))) underlying32 (by kernel_rfl) (W8.cons (r:=(Za.int .i8)) (R:=(@Y5 .i8)) (s:=(Za.pair (Za.slice (Za.pair Za.str Za.str)) (Za.pair (Za.slice (Za.pair Za.str Za.str)) (Za.pair (Za.int .i8) (Za.pair (Za.slice Za.str) (Za.pair Za.bool Za.bool)))))) (S:=(@Yd _ _ (@RL (ByteArray×ByteArray) (@W0 _ (@Yd _ _ @Yp (@Yo _ @Yp)))) (@Yd _ _ (@RL (ByteArray×ByteArray) (@W0 _ (@Yd _ _ @Yp (@Yo _ @Yp)))) (@Yd _ _ (@Y5 .i8) (@Yd _ _ (@RL ByteArray @Yp) (@Yo _ (@Zam _ @Vu))))))) rfl (by kernel_rfl) (Yj.int underlying28) (W8.cons (r:=(Za.slice (Za.pair Za.str Za.str))) (R:=(@RL (ByteArray×ByteArray) (@W0 _ (@Yd _ _ @Yp (@Yo _ @Yp))))) (s:=(Za.pair (Za.slice (Za.pair Za.str Za.str)) (Za.pair (Za.int .i8) (Za.pair (Za.slice Za.str) (Za.pair Za.bool Za.bool))))) (S:=(@Yd _ _ (@RL (ByteArray×ByteArray) (@W0 _ (@Yd _ _ @Yp (@Yo _ @Yp)))) (@Yd _ _ (@Y5 .i8) (@Yd _ _ (@RL ByteArray @Yp) (@Yo _ (@Zam _ @Vu)))))) rfl (by kernel_rfl) (Yj.slice (e:=109) (r:=(Za.pair Za.str Za.str)) (R:=(@W0 _ (@Yd _ _ @Yp (@Yo _ @Yp)))) underlying29 (by kernel_rfl) (Yj.struct (r:=(Za.pair Za.str Za.str)) (R:=(@Yd _ _ @Yp (@Yo _ @Yp))) underlying109 (by kernel_rfl) (W8.cons (r:=Za.str) (R:=@Yp) (s:=Za.str) (S:=(@Yo _ @Yp)) rfl (by kernel_rfl) (Yj.str underlying9) (W8.one (r:=Za.str) (R:=@Yp) rfl (by kernel_rfl) (Yj.str underlying9))))) (W8.cons (r:=(Za.slice (Za.pair Za.str Za.str))) (R:=(@RL (ByteArray×ByteArray) (@W0 _ (@Yd _ _ @Yp (@Yo _ @Yp))))) (s:=(Za.pair (Za.int .i8) (Za.pair (Za.slice Za.str) (Za.pair Za.bool Za.bool)))) (S:=(@Yd _ _ (@Y5 .i8) (@Yd _ _ (@RL ByteArray @Yp) (@Yo _ (@Zam _ @Vu))))) rfl (by kernel_rfl) (Yj.slice (e:=109) (r:=(Za.pair Za.str Za.str)) (R:=(@W0 _ (@Yd _ _ @Yp (@Yo _ @Yp)))) underlying29 (by kernel_rfl) (Yj.struct (r:=(Za.pair Za.str Za.str)) (R:=(@Yd _ _ @Yp (@Yo _ @Yp))) underlying109 (by kernel_rfl) (W8.cons (r:=Za.str) (R:=@Yp) (s:=Za.str) (S:=(@Yo _ @Yp)) rfl (by kernel_rfl) (Yj.str underlying9) (W8.one (r:=Za.str) (R:=@Yp) rfl (by kernel_rfl) (Yj.str underlying9))))) (W8.cons (r:=(Za.int .i8)) (R:=(@Y5 .i8)) (s:=(Za.pair (Za.slice Za.str) (Za.pair Za.bool Za.bool))) (S:=(@Yd _ _ (@RL ByteArray @Yp) (@Yo _ (@Zam _ @Vu)))) rfl (by kernel_rfl) (Yj.int underlying28) (W8.cons (r:=(Za.slice Za.str)) (R:=(@RL ByteArray @Yp)) (s:=(Za.pair Za.bool Za.bool)) (S:=(@Yo _ (@Zam _ @Vu))) rfl (by kernel_rfl) (Yj.slice (e:=9) (r:=Za.str) (R:=@Yp) underlying22 (by kernel_rfl) (Yj.str underlying9)) (W8.one (r:=(Za.pair Za.bool Za.bool)) (R:=(@Zam _ @Vu)) rfl (by kernel_rfl) (Yj.array2 (r:=Za.bool) (R:=@Vu) underlying30 (by kernel_rfl) (by kernel_rfl) (Yj.bool underlying4))))))))) hf
    obtain ⟨h5,h6⟩:=(BQ.agg (W7.cons BQ.int (W7.cons (BQ.slice (BQ.agg (W7.cons BQ.str (W7.one BQ.str)))) (W7.cons (BQ.slice (BQ.agg (W7.cons BQ.str (W7.one BQ.str)))) (W7.cons BQ.int (W7.cons (BQ.slice BQ.str) (W7.one (BQ.two BQ.bool)))))))) y d1 h2
    exact ⟨y,h5,h6,h1⟩
  obtain ⟨_,_,_,_,x1_0,_,u1_0,v1_0⟩:=rd1
  obtain ⟨e1_1,_⟩:=u1_0
  obtain ⟨_,_,_,_,x1_2,_,u1_2,v1_2⟩:=v1_0
  obtain ⟨⟨a1_3,cap1_3,e1_3,s1_3⟩,_⟩:=u1_2
  obtain ⟨_,_,_,_,x1_4,_,u1_4,v1_4⟩:=v1_2
  obtain ⟨⟨a1_5,cap1_5,e1_5,s1_5⟩,_⟩:=u1_4
  obtain ⟨_,_,_,_,x1_6,_,u1_6,v1_6⟩:=v1_4
  obtain ⟨e1_7,_⟩:=u1_6
  obtain ⟨_,_,_,_,x1_8,_,u1_8,v1_8⟩:=v1_6
  obtain ⟨⟨a1_9,cap1_9,e1_9,s1_9⟩,_⟩:=u1_8
  obtain ⟨_,_,_,_,x1_11,_,u1_11,v1_11⟩:=v1_8
  obtain ⟨e1_12,_⟩:=u1_11
  obtain ⟨e1_13,_⟩:=v1_11
  obtain rfl:cs1=#[.int .i8 y1.1,.slice a1_3 y1.2.1.length cap1_3,.slice a1_5 y1.2.2.1.length cap1_5,.int .i8 y1.2.2.2.1,.slice a1_9 y1.2.2.2.2.1.length cap1_9,.bool y1.2.2.2.2.2.1,.bool y1.2.2.2.2.2.2]:=by apply Array.toList_inj.1;simp only [x1_0,e1_1,x1_2,e1_3,x1_4,e1_5,x1_6,e1_7,x1_8,e1_9,x1_11,e1_12,e1_13];rfl
  clear hA0 hval0
  simp only [List.append_nil] at hW'
  have hb:(Wj (Yg Wb (Yg (X9 Wb) (Yg (X9 (X9 Wb)) (Yg (X9 (X9 Wc)) (X9 (X9 (Wj (Yg (Wj (Yg Wc (X9 Wc))) (X9 Wc)))))))))) y0+(Wj (Yg Wc (Yg (X9 (Wj (Yg Wb Wb))) (Yg (X9 (Wj (Yg Wb Wb))) (Yg Wc (Yg (X9 Wb) (Wj (Yg Wc Wc)))))))) y1≤1048576:=by omega
  refine (walk y0 a0_3 cap0_3 a0_5 cap0_5 a0_7 cap0_7 a0_8 cap0_8 y1 a1_3 cap1_3 a1_5 cap1_5 a1_9 cap1_9 W hb w0 s0_3 s0_5 s0_7 s0_8 w1 s1_3 s1_5 s1_9).mono fun e W' ⟨he,bel⟩=>?_
  subst he
  exact ⟨_,rfl,_,_,_,[],_,[],hW',trodAll_mk1 (shut_bool underlying4 _),(trodAll_cons_mk (Below.trod Zpn (by kernel_rfl) (of_decide_eq_true (by kernel_rfl)) k0 bel lt0) (trodAll_cons_mk (Below.trod Zpn (by kernel_rfl) (of_decide_eq_true (by kernel_rfl)) k1 bel lt1) trodAll_mk0)),rfl,bel.frame _,fun h=>by cases h⟩

theorem Zt2 {a b:Bool} (ha:a=true) (hb:b=true):(a&&b)=true:=by rw [ha,hb];rfl
theorem wrapper:Tryz.f3.isWrapper Tryz.pinned.checked.prog Rows.queryCheckUptoRow.wrapper Rows.queryCheckUptoRow.mainSum:=by unfold Func.isWrapper;first | (rw [if_pos (by decide+kernel)];kernel_rfl) | (rw [if_neg (by decide+kernel)];exact ⟨rfl,rfl⟩)
theorem inst:Tryz.f3.isInstance Tryz.pinned.checked.prog Rows.queryCheckUptoRow.origin Rows.queryCheckUptoRow.targs:=of_decide_eq_true (by kernel_rfl)
theorem Zxz:Tryz.pinned.checked.prog.funcNamed Rows.queryCheckUptoRow.func=some 3:=by kernel_rfl
set_option maxHeartbeats 20000000 in
theorem Zv8:joinedFacts Tryz.pinned.checked.prog 3 Tryz.f3 (Rows.OpenSpec.upto Rows.queryCheckSpec).bare Rows.queryCheckUptoRow=true:=by
  unfold joinedFacts
  repeat' with_reducible apply Zt2
  all_goals as_aux_lemma=>kernel_rfl
theorem proved:Rows.QueryCheckUptoSaid:=
  OpenClaim.holds_of_cond 3 Tryz.f3 rfl rfl rfl rfl rfl rfl rfl ⟨rfl,rfl,rfl,rfl,rfl⟩ rfl rfl rfl rfl rfl Zxz func3 Zv8
    inst wrapper (fun os started H enc _ F=>Zxi os started H enc F)
#print axioms proved
end Go.Proofs.YtbmjpjhbankpoaaGreat.queryCheck
