/-
  'QueryAsk' (credence/credencelaw23.QueryAsk), where what it reads is of bulk at most 1048576: the call returns true and the arguments read afterwards as before.
-/
import Derived.Test.YtdpdogdkolblnaaGreatDoorRows
import Derived.Test.YtdpdogdkolblnaaGreatDoorQueryAskBBulk
import Derived.Test.YtdpdogdkolblnaaGreatDoorQueryAskF5
import Derived.WalkKit
import Derived.ProofKit
import Derived.OpenShut
import Derived.ShutString
import Derived.ChangeOld
import Derived.Below
import Derived.JoinedCond
import Derived.Test.YtdpdogdkolblnaaGreatDoorQueryAskBDoor
namespace Go.Proofs.YtdpdogdkolblnaaGreatDoor.queryAsk
open Go Go.ChangeShapes Go.WideShapes Go.ChangeAt Go.RowKit
open Go.IntKind (i8 i16 i32 i64 u8 u16 u32 u64)
open Go.Proofs.Tryz
open Go.ChangeMaps (open_string shut_string)
set_option linter.unusedVariables false

theorem Zld:ownKnob prog.godebug=none:=by kernel_rfl
theorem Zro:laidOutB prog=true:=by kernel_rfl

theorem Zvj (y0:Wn) (a1:Option Addr) (c1:Nat) (a2:Option Addr) (c2:Nat) (a3:Option Addr) (c3:Nat) (a4:Option Addr) (c4:Nat) (y1:Vb) (a5:Option Addr) (c5:Nat) (a6:Option Addr) (c6:Nat) (a7:Option Addr) (c7:Nat) (y2:Int) (w:World)
    (hb:Zfx y0+(Yz (Xq Yp (Xq (Xk (Yz (Xq Ym Ym))) (Xq (Xk (Yz (Xq Ym Ym))) (Xq Yp (Xq (Xk Ym) (Yz (Xq Yp Yp)))))))) y1≤1048576) (q0:Ztj y0)
    (s1:Sl Za.str (fun _=>0) w a1 c1 y0.2.1) (s2:Sl (Za.slice Za.str) (fun _=>0) w a2 c2 y0.2.2.1) (s3:Sl (Za.slice (Za.int .i64)) (fun _=>0) w a3 c3 y0.2.2.2.1) (s4:Sl (Za.slice (Za.pair (Za.pair Za.bool (Za.slice (Za.int .u32))) (Za.slice (Za.int .u32)))) (fun _=>0) w a4 c4 y0.2.2.2.2)
    (q1:(Y2 (U2 .i8) (Y2 (Wi (Y2 (fun _=>True) (fun _=>True))) (Y2 (Wi (Y2 (fun _=>True) (fun _=>True))) (Y2 (U2 .i8) (Y2 (Wi (fun _=>True)) (Y2 (fun _=>True) (fun _=>True))))))) y1)
    (s5:Sl (Za.pair Za.str Za.str) (fun _=>0) w a5 c5 y1.2.1) (s6:Sl (Za.pair Za.str Za.str) (fun _=>0) w a6 c6 y1.2.2.1) (s7:Sl Za.str (fun _=>0) w a7 c7 y1.2.2.2.2.1) (q2:(Lit.int .i64 y2).wf=true) (hgl:Gl (.iface 141 (.agg #[.pointer (some ⟨4,24,none⟩)])) (fun _=>0) w):
    Calls prog 6 #[.agg #[.string y0.1,.slice a1 y0.2.1.length c1,.slice a2 y0.2.2.1.length c2,.slice a3 y0.2.2.2.1.length c3,.slice a4 y0.2.2.2.2.length c4],.agg #[.int .i8 y1.1,.slice a5 y1.2.1.length c5,.slice a6 y1.2.2.1.length c6,.int .i8 y1.2.2.2.1,.slice a7 y1.2.2.2.2.1.length c7,.bool y1.2.2.2.2.2.1,.bool y1.2.2.2.2.2.2],.int .i64 y2] w
      fun e w'=>e= .returned (.bool true)∧Below w.heap.size w w':=by
  have hn:Zfx y0≤1048576:=by omega
  obtain ⟨h1,h2⟩:=Z1t hn q0
  have hk:-128≤y1.2.2.2.1∧y1.2.2.2.1≤127:=by
    have h:=q1.2.2.2.1
    simp [U2,Lit.wf,IntKind.min,IntKind.max,IntKind.signed,IntKind.bits] at h
    exact h
  have h3:Zc5 y1:=by
    have a1:=Tl (b:=Yz (Xq Ym Ym)) Zmh y1.2.1
    have a2:=Tl (b:=Yz (Xq Ym Ym)) Zmh y1.2.2.1
    have a3:=Tl (b:=Ym) Zis y1.2.2.2.2.1
    generalize Zfx y0=b0 at hb
    rw [Yz,Xq,Xq,Xq,Xq,Xq] at hb
    exact ⟨by omega,by omega,by omega,hk⟩
  exact Zxa 4611686018427387904 (fun _=>0) w a1 c1 a2 c2 a3 c3 a4 c4 y0 a5 c5 a6 c6 a7 c7 y1 y2 s1 s2 s3 s4 s5 s6 s7 hgl true (Z2m Zvt h1 h2 h3 Z1s (by decide) y2)

theorem Zif (os:Os) {H:Type} (enc:TypeId×Value→H):∃ places,DataW.whole enc prog ((door os).forCall (fun _ _=>0) ⟨#[],#[.agg #[.string .empty,.slice none 0 0,.slice none 0 0,.slice none 0 0,.slice none 0 0],.agg #[.int .i8 0,.slice none 0 0,.slice none 0 0,.int .i8 0,.slice none 0 0,.bool false,.bool false],.int .i64 0],[]⟩).memory Tryz.f6.params.toList Rows.queryAskSpec.vars false #[.agg #[.string .empty,.slice none 0 0,.slice none 0 0,.slice none 0 0,.slice none 0 0],.agg #[.int .i8 0,.slice none 0 0,.slice none 0 0,.int .i8 0,.slice none 0 0,.bool false,.bool false],.int .i64 0].toList 8=some ([.agg [.lit (.string []),.nil,.nil,.nil,.nil],.agg [.lit (.int .i8 0),.nil,.nil,.lit (.int .i8 0),.nil,.agg [.lit (.bool false),.lit (.bool false)]],.lit (.int .i64 0)],[],places):=
  ⟨[],by kernel_rfl⟩
set_option maxRecDepth 100000 in
theorem Z09 (os:Os) (started:os.Started) (H:Type) (enc:TypeId×Value→H) (F:Stop.Interp):
    ReturnsInHanded {} Tryz.checked os 6 .any ((Rows.OpenSpec.upto Rows.queryAskSpec).preRow enc prog Tryz.f6 Rows.queryAskUptoRow.domain false Rows.queryAskUptoRow.laid) (((Rows.OpenSpec.upto Rows.queryAskSpec).at F).post enc prog Tryz.f6 false true false false):=by
  obtain ⟨places,hx⟩:=Zif os enc
  refine returnsInHanded_of_row (C:=Tryz.checked) (s:=Rows.OpenSpec.upto Rows.queryAskSpec) Zld started (by kernel_rfl) func6
    (witness_row_at (enc:=enc) (C:=Tryz.checked) false (door os) #[.agg #[.string .empty,.slice none 0 0,.slice none 0 0,.slice none 0 0,.slice none 0 0],.agg #[.int .i8 0,.slice none 0 0,.slice none 0 0,.int .i8 0,.slice none 0 0,.bool false,.bool false],.int .i64 0] (Zzm os) (by kernel_rfl) (by kernel_rfl) (by kernel_rfl)
      (OpenSpec.preRow_of_cond 8 hx (by kernel_rfl) (fun k hk=>by cases hk;kernel_rfl) (by kernel_rfl) (Z04 os _))) ?_
  intro W base args ds gs before hval0 hW _ hcond _ hL hS _
  have hk:=hcond _ rfl
  have hgl:=Z0q hL hS
  have hval:∀ (j:Nat) t v,Tryz.f6.params[j]?=some t→args[j]?=some v→Value.okWide prog W .any base t v:=hval0
  have hW':=hW
  obtain ⟨p,q,hA0,hV,rfl,hfz,hnd⟩:=hW
  have hA:DataW.TrodAll enc prog W 0 (fun _=>true) true Tryz.f6.params.toList args.toList ds p:=hA0
  rw [Tryz.params6] at hA hval
  obtain ⟨v0,vs0,d0,ds0,p0,q0,hargs,rfl,rfl,h0,r0⟩:=trodAll_cons hA
  obtain ⟨v1,vs1,d1,ds1,p1,q1,rfl,rfl,rfl,h1,r1⟩:=trodAll_cons r0
  obtain ⟨v2,vs2,d2,ds2,p2,q2,rfl,rfl,rfl,h2,r2⟩:=trodAll_cons r1
  obtain ⟨rfl,rfl,rfl⟩:=trodAll_nil r2
  obtain rfl:args=#[v0,v1,v2]:=by cases args;simp_all
  obtain ⟨rfl,rfl⟩:=trodVars_none hV
  have hk2:=of_decide_eq_true hk
  simp only [List.append_nil,Rows.uptoBulkAll] at hk2
  obtain ⟨cs0,rfl,cz0⟩:=okWide_struct underlying45 (hval 0 45 v0 rfl rfl)
  have k0:=h0
  have lt0:∀ x ∈ p0,x.block<W.heap.size:=by obtain ⟨m,hm⟩:=k0;exact DataW.trod_lt m _ _ _ hm
  obtain ⟨y0,b0,w0,rd0⟩:∃ y,(Yz (Xq Ym (Xq (Xk Ym) (Xq (Xk (Xk Ym)) (Xq (Xk (Xk Yp)) (Xk (Xk (Yz (Xq (Yz (Xq Yp (Xk Yp))) (Xk Yp)))))))))) y≤Rows.uptoBulk d0∧(Y2 (fun _=>True) (Y2 (Wi (fun _=>True)) (Y2 (Wi (Wi (fun _=>True))) (Y2 (Wi (Wi (U2 .i64))) (Wi (Wi (Y2 (Y2 (fun _=>True) (Wi (U2 .u32))) (Wi (U2 .u32))))))))) y∧(Za.pair Za.str (Za.pair (Za.slice Za.str) (Za.pair (Za.slice (Za.slice Za.str)) (Za.pair (Za.slice (Za.slice (Za.int .i64))) (Za.slice (Za.slice (Za.pair (Za.pair Za.bool (Za.slice (Za.int .u32))) (Za.slice (Za.int .u32))))))))).rd (fun _=>0) W cs0.toList y []:=by
    obtain ⟨fuel,hf⟩:=h0
    obtain ⟨y,h1,h2⟩:=(Xy.struct (r:=(Za.pair Za.str (Za.pair (Za.slice Za.str) (Za.pair (Za.slice (Za.slice Za.str)) (Za.pair (Za.slice (Za.slice (Za.int .i64))) (Za.slice (Za.slice (Za.pair (Za.pair Za.bool (Za.slice (Za.int .u32))) (Za.slice (Za.int .u32)))))))))) (R:=(@Xm _ _ @X4 (@Xm _ _ (@RL ByteArray @X4) (@Xm _ _ (@RL (List ByteArray) (@RL ByteArray @X4)) (@Xm _ _ (@RL (List Int) (@RL Int (@Yf .i64))) (@X3 _ (@RL (List ((Bool×List Int)×List Int)) (@RL ((Bool×List Int)×List Int) (@Wd _ (@Xm _ _ (@Wd _ (@Xm _ _ @Vh (@X3 _ (@RL Int (@Yf .u32))))) (@X3 _ (@RL Int (@Yf .u32))))))))))))) underlying45 (by kernel_rfl) (Ws.cons (r:=Za.str) (R:=@X4) (s:=(Za.pair (Za.slice Za.str) (Za.pair (Za.slice (Za.slice Za.str)) (Za.pair (Za.slice (Za.slice (Za.int .i64))) (Za.slice (Za.slice (Za.pair (Za.pair Za.bool (Za.slice (Za.int .u32))) (Za.slice (Za.int .u32))))))))) (S:=(@Xm _ _ (@RL ByteArray @X4) (@Xm _ _ (@RL (List ByteArray) (@RL ByteArray @X4)) (@Xm _ _ (@RL (List Int) (@RL Int (@Yf .i64))) (@X3 _ (@RL (List ((Bool×List Int)×List Int)) (@RL ((Bool×List Int)×List Int) (@Wd _ (@Xm _ _ (@Wd _ (@Xm _ _ @Vh (@X3 _ (@RL Int (@Yf .u32))))) (@X3 _ (@RL Int (@Yf .u32)))))))))))) rfl (by kernel_rfl) (Xy.str underlying9) (Ws.cons (r:=(Za.slice Za.str)) (R:=(@RL ByteArray @X4)) (s:=(Za.pair (Za.slice (Za.slice Za.str)) (Za.pair (Za.slice (Za.slice (Za.int .i64))) (Za.slice (Za.slice (Za.pair (Za.pair Za.bool (Za.slice (Za.int .u32))) (Za.slice (Za.int .u32)))))))) (S:=(@Xm _ _ (@RL (List ByteArray) (@RL ByteArray @X4)) (@Xm _ _ (@RL (List Int) (@RL Int (@Yf .i64))) (@X3 _ (@RL (List ((Bool×List Int)×List Int)) (@RL ((Bool×List Int)×List Int) (@Wd _ (@Xm _ _ (@Wd _ (@Xm _ _ @Vh (@X3 _ (@RL Int (@Yf .u32))))) (@X3 _ (@RL Int (@Yf .u32))))))))))) rfl (by kernel_rfl) (Xy.slice (e:=9) (r:=Za.str) (R:=@X4) underlying40 (by kernel_rfl) (Xy.str underlying9)) (Ws.cons (r:=(Za.slice (Za.slice Za.str))) (R:=(@RL (List ByteArray) (@RL ByteArray @X4))) (s:=(Za.pair (Za.slice (Za.slice (Za.int .i64))) (Za.slice (Za.slice (Za.pair (Za.pair Za.bool (Za.slice (Za.int .u32))) (Za.slice (Za.int .u32))))))) (S:=(@Xm _ _ (@RL (List Int) (@RL Int (@Yf .i64))) (@X3 _ (@RL (List ((Bool×List Int)×List Int)) (@RL ((Bool×List Int)×List Int) (@Wd _ (@Xm _ _ (@Wd _ (@Xm _ _ @Vh (@X3 _ (@RL Int (@Yf .u32))))) (@X3 _ (@RL Int (@Yf .u32)))))))))) rfl (by kernel_rfl) (Xy.slice (e:=40) (r:=(Za.slice Za.str)) (R:=(@RL ByteArray @X4)) underlying41 (by kernel_rfl) (Xy.slice (e:=9) (r:=Za.str) (R:=@X4) underlying40 (by kernel_rfl) (Xy.str underlying9))) (Ws.cons (r:=(Za.slice (Za.slice (Za.int .i64)))) (R:=(@RL (List Int) (@RL Int (@Yf .i64)))) (s:=(Za.slice (Za.slice (Za.pair (Za.pair Za.bool (Za.slice (Za.int .u32))) (Za.slice (Za.int .u32)))))) (S:=(@X3 _ (@RL (List ((Bool×List Int)×List Int)) (@RL ((Bool×List Int)×List Int) (@Wd _ (@Xm _ _ (@Wd _ (@Xm _ _ @Vh (@X3 _ (@RL Int (@Yf .u32))))) (@X3 _ (@RL Int (@Yf .u32))))))))) rfl (by kernel_rfl) (Xy.slice (e:=58) (r:=(Za.slice (Za.int .i64))) (R:=(@RL Int (@Yf .i64))) underlying42 (by kernel_rfl) (Xy.slice (e:=3) (r:=(Za.int .i64)) (R:=(@Yf .i64)) underlying58 (by kernel_rfl) (Xy.int underlying3))) (Ws.one (r:=(Za.slice (Za.slice (Za.pair (Za.pair Za.bool (Za.slice (Za.int .u32))) (Za.slice (Za.int .u32)))))) (R:=(@RL (List ((Bool×List Int)×List Int)) (@RL ((Bool×List Int)×List Int) (@Wd _ (@Xm _ _ (@Wd _ (@Xm _ _ @Vh (@X3 _ (@RL Int (@Yf .u32))))) (@X3 _ (@RL Int (@Yf .u32)))))))) rfl (by kernel_rfl) (Xy.slice (e:=126) (r:=(Za.slice (Za.pair (Za.pair Za.bool (Za.slice (Za.int .u32))) (Za.slice (Za.int .u32))))) (R:=(@RL ((Bool×List Int)×List Int) (@Wd _ (@Xm _ _ (@Wd _ (@Xm _ _ @Vh (@X3 _ (@RL Int (@Yf .u32))))) (@X3 _ (@RL Int (@Yf .u32))))))) underlying43 (by kernel_rfl) (Xy.slice (e:=124) (r:=(Za.pair (Za.pair Za.bool (Za.slice (Za.int .u32))) (Za.slice (Za.int .u32)))) (R:=(@Wd _ (@Xm _ _ (@Wd _ (@Xm _ _ @Vh (@X3 _ (@RL Int (@Yf .u32))))) (@X3 _ (@RL Int (@Yf .u32)))))) underlying126 (by kernel_rfl) (Xy.struct (r:=(Za.pair (Za.pair Za.bool (Za.slice (Za.int .u32))) (Za.slice (Za.int .u32)))) (R:=(@Xm _ _ (@Wd _ (@Xm _ _ @Vh (@X3 _ (@RL Int (@Yf .u32))))) (@X3 _ (@RL Int (@Yf .u32))))) underlying124 (by kernel_rfl) (Ws.cons (r:=(Za.pair Za.bool (Za.slice (Za.int .u32)))) (R:=(@Wd _ (@Xm _ _ @Vh (@X3 _ (@RL Int (@Yf .u32)))))) (s:=(Za.slice (Za.int .u32))) (S:=(@X3 _ (@RL Int (@Yf .u32)))) rfl (by kernel_rfl) (Xy.struct (r:=(Za.pair Za.bool (Za.slice (Za.int .u32)))) (R:=(@Xm _ _ @Vh (@X3 _ (@RL Int (@Yf .u32))))) underlying122 (by kernel_rfl) (Ws.cons (r:=Za.bool) (R:=@Vh) (s:=(Za.slice (Za.int .u32))) (S:=(@X3 _ (@RL Int (@Yf .u32)))) rfl (by kernel_rfl) (Xy.bool underlying4) (Ws.one (r:=(Za.slice (Za.int .u32))) (R:=(@RL Int (@Yf .u32))) rfl (by kernel_rfl) (Xy.slice (e:=200) (r:=(Za.int .u32)) (R:=(@Yf .u32)) underlying120 (by kernel_rfl) (Xy.int underlying200))))) (Ws.one (r:=(Za.slice (Za.int .u32))) (R:=(@RL Int (@Yf .u32))) rfl (by kernel_rfl) (Xy.slice (e:=200) (r:=(Za.int .u32)) (R:=(@Yf .u32)) underlying120 (by kernel_rfl) (Xy.int underlying200))))))))))))) hf
    obtain ⟨h5,h6⟩:=(BQ.agg (Wr.cons BQ.str (Wr.cons (BQ.slice BQ.str) (Wr.cons (BQ.slice (BQ.slice BQ.str)) (Wr.cons (BQ.slice (BQ.slice BQ.int)) (Wr.one (BQ.slice (BQ.slice (BQ.agg (Wr.cons (BQ.agg (Wr.cons BQ.bool (Wr.one (BQ.slice BQ.int)))) (Wr.one (BQ.slice BQ.int)))))))))))) y d0 h2
    exact ⟨y,h5,h6,h1⟩
  obtain ⟨_,_,_,_,x0_0,_,u0_0,v0_0⟩:=rd0
  obtain ⟨e0_1,_⟩:=u0_0
  obtain ⟨_,_,_,_,x0_2,_,u0_2,v0_2⟩:=v0_0
  obtain ⟨⟨a0_3,cap0_3,e0_3,s0_3⟩,_⟩:=u0_2
  obtain ⟨_,_,_,_,x0_4,_,u0_4,v0_4⟩:=v0_2
  obtain ⟨⟨a0_5,cap0_5,e0_5,s0_5⟩,_⟩:=u0_4
  obtain ⟨_,_,_,_,x0_6,_,u0_6,v0_6⟩:=v0_4
  obtain ⟨⟨a0_7,cap0_7,e0_7,s0_7⟩,_⟩:=u0_6
  obtain ⟨⟨a0_8,cap0_8,e0_8,s0_8⟩,_⟩:=v0_6
  obtain rfl:cs0=#[.string y0.1,.slice a0_3 y0.2.1.length cap0_3,.slice a0_5 y0.2.2.1.length cap0_5,.slice a0_7 y0.2.2.2.1.length cap0_7,.slice a0_8 y0.2.2.2.2.length cap0_8]:=by apply Array.toList_inj.1;simp only [x0_0,e0_1,x0_2,e0_3,x0_4,e0_5,x0_6,e0_7,e0_8];rfl
  obtain ⟨cs1,rfl,cz1⟩:=okWide_struct underlying50 (hval 1 50 v1 rfl rfl)
  have k1:=h1
  have lt1:∀ x ∈ p1,x.block<W.heap.size:=by obtain ⟨m,hm⟩:=k1;exact DataW.trod_lt m _ _ _ hm
  obtain ⟨y1,b1,w1,rd1⟩:∃ y,(Yz (Xq Yp (Xq (Xk (Yz (Xq Ym Ym))) (Xq (Xk (Yz (Xq Ym Ym))) (Xq Yp (Xq (Xk Ym) (Yz (Xq Yp Yp)))))))) y≤Rows.uptoBulk d1∧(Y2 (U2 .i8) (Y2 (Wi (Y2 (fun _=>True) (fun _=>True))) (Y2 (Wi (Y2 (fun _=>True) (fun _=>True))) (Y2 (U2 .i8) (Y2 (Wi (fun _=>True)) (Y2 (fun _=>True) (fun _=>True))))))) y∧(Za.pair (Za.int .i8) (Za.pair (Za.slice (Za.pair Za.str Za.str)) (Za.pair (Za.slice (Za.pair Za.str Za.str)) (Za.pair (Za.int .i8) (Za.pair (Za.slice Za.str) (Za.pair Za.bool Za.bool)))))).rd (fun _=>0) W cs1.toList y []:=by
    obtain ⟨fuel,hf⟩:=h1
    obtain ⟨y,h1,h2⟩:=(Xy.struct (r:=(Za.pair (Za.int .i8) (Za.pair (Za.slice (Za.pair Za.str Za.str)) (Za.pair (Za.slice (Za.pair Za.str Za.str)) (Za.pair (Za.int .i8) (Za.pair (Za.slice Za.str) (Za.pair Za.bool Za.bool))))))) (R:=(@Xm _ _ (@Yf .i8) (@Xm _ _ (@RL (ByteArray×ByteArray) (@Wd _ (@Xm _ _ @X4 (@X3 _ @X4)))) (@Xm _ _ (@RL (ByteArray×ByteArray) (@Wd _ (@Xm _ _ @X4 (@X3 _ @X4)))) (@Xm _ _ (@Yf .i8) (@Xm _ _ (@RL ByteArray @X4) (@X3 _ (@Zaa _ @Vh)))))))) underlying50 (by kernel_rfl) (Ws.cons (r:=(Za.int .i8)) (R:=(@Yf .i8)) (s:=(Za.pair (Za.slice (Za.pair Za.str Za.str)) (Za.pair (Za.slice (Za.pair Za.str Za.str)) (Za.pair (Za.int .i8) (Za.pair (Za.slice Za.str) (Za.pair Za.bool Za.bool)))))) (S:=(@Xm _ _ (@RL (ByteArray×ByteArray) (@Wd _ (@Xm _ _ @X4 (@X3 _ @X4)))) (@Xm _ _ (@RL (ByteArray×ByteArray) (@Wd _ (@Xm _ _ @X4 (@X3 _ @X4)))) (@Xm _ _ (@Yf .i8) (@Xm _ _ (@RL ByteArray @X4) (@X3 _ (@Zaa _ @Vh))))))) rfl (by kernel_rfl) (Xy.int underlying46) (Ws.cons (r:=(Za.slice (Za.pair Za.str Za.str))) (R:=(@RL (ByteArray×ByteArray) (@Wd _ (@Xm _ _ @X4 (@X3 _ @X4))))) (s:=(Za.pair (Za.slice (Za.pair Za.str Za.str)) (Za.pair (Za.int .i8) (Za.pair (Za.slice Za.str) (Za.pair Za.bool Za.bool))))) (S:=(@Xm _ _ (@RL (ByteArray×ByteArray) (@Wd _ (@Xm _ _ @X4 (@X3 _ @X4)))) (@Xm _ _ (@Yf .i8) (@Xm _ _ (@RL ByteArray @X4) (@X3 _ (@Zaa _ @Vh)))))) rfl (by kernel_rfl) (Xy.slice (e:=56) (r:=(Za.pair Za.str Za.str)) (R:=(@Wd _ (@Xm _ _ @X4 (@X3 _ @X4)))) underlying47 (by kernel_rfl) (Xy.struct (r:=(Za.pair Za.str Za.str)) (R:=(@Xm _ _ @X4 (@X3 _ @X4))) underlying56 (by kernel_rfl) (Ws.cons (r:=Za.str) (R:=@X4) (s:=Za.str) (S:=(@X3 _ @X4)) rfl (by kernel_rfl) (Xy.str underlying9) (Ws.one (r:=Za.str) (R:=@X4) rfl (by kernel_rfl) (Xy.str underlying9))))) (Ws.cons (r:=(Za.slice (Za.pair Za.str Za.str))) (R:=(@RL (ByteArray×ByteArray) (@Wd _ (@Xm _ _ @X4 (@X3 _ @X4))))) (s:=(Za.pair (Za.int .i8) (Za.pair (Za.slice Za.str) (Za.pair Za.bool Za.bool)))) (S:=(@Xm _ _ (@Yf .i8) (@Xm _ _ (@RL ByteArray @X4) (@X3 _ (@Zaa _ @Vh))))) rfl (by kernel_rfl) (Xy.slice (e:=56) (r:=(Za.pair Za.str Za.str)) (R:=(@Wd _ (@Xm _ _ @X4 (@X3 _ @X4)))) underlying47 (by kernel_rfl) (Xy.struct (r:=(Za.pair Za.str Za.str)) (R:=(@Xm _ _ @X4 (@X3 _ @X4))) underlying56 (by kernel_rfl) (Ws.cons (r:=Za.str) (R:=@X4) (s:=Za.str) (S:=(@X3 _ @X4)) rfl (by kernel_rfl) (Xy.str underlying9) (Ws.one (r:=Za.str) (R:=@X4) rfl (by kernel_rfl) (Xy.str underlying9))))) (Ws.cons (r:=(Za.int .i8)) (R:=(@Yf .i8)) (s:=(Za.pair (Za.slice Za.str) (Za.pair Za.bool Za.bool))) (S:=(@Xm _ _ (@RL ByteArray @X4) (@X3 _ (@Zaa _ @Vh)))) rfl (by kernel_rfl) (Xy.int underlying46) (Ws.cons (r:=(Za.slice Za.str)) (R:=(@RL ByteArray @X4)) (s:=(Za.pair Za.bool Za.bool)) (S:=(@X3 _ (@Zaa _ @Vh))) rfl (by kernel_rfl) (Xy.slice (e:=9) (r:=Za.str) (R:=@X4) underlying40 (by kernel_rfl) (Xy.str underlying9)) (Ws.one (r:=(Za.pair Za.bool Za.bool)) (R:=(@Zaa _ @Vh)) rfl (by kernel_rfl) (Xy.array2 (r:=Za.bool) (R:=@Vh) underlying48 (by kernel_rfl) (by kernel_rfl) (Xy.bool underlying4))))))))) hf
    obtain ⟨h5,h6⟩:=(BQ.agg (Wr.cons BQ.int (Wr.cons (BQ.slice (BQ.agg (Wr.cons BQ.str (Wr.one BQ.str)))) (Wr.cons (BQ.slice (BQ.agg (Wr.cons BQ.str (Wr.one BQ.str)))) (Wr.cons BQ.int (Wr.cons (BQ.slice BQ.str) (Wr.one (BQ.two BQ.bool)))))))) y d1 h2
    exact ⟨y,h5,h6,h1⟩
  obtain ⟨_,_,_,_,x1_0,_,u1_0,v1_0⟩:=rd1
  obtain ⟨e1_1,_⟩:=u1_0
  obtain ⟨_,_,_,_,x1_2,_,u1_2,v1_2⟩:=v1_0
  obtain ⟨⟨a1_3,cap1_3,e1_3,s1_3⟩,_⟩:=u1_2
  obtain ⟨_,_,_,_,x1_4,_,u1_4,v1_4⟩:=v1_2
  obtain ⟨⟨a1_5,cap1_5,e1_5,s1_5⟩,_⟩:=u1_4
  obtain ⟨_,_,_,_,x1_6,_,u1_6,v1_6⟩:=v1_4
  obtain ⟨e1_7,_⟩:=u1_6
  obtain ⟨_,_,_,_,x1_8,_,u1_8,v1_8⟩:=v1_6
  obtain ⟨⟨a1_9,cap1_9,e1_9,s1_9⟩,_⟩:=u1_8
  obtain ⟨_,_,_,_,x1_11,_,u1_11,v1_11⟩:=v1_8
  obtain ⟨e1_12,_⟩:=u1_11
  obtain ⟨e1_13,_⟩:=v1_11
  obtain rfl:cs1=#[.int .i8 y1.1,.slice a1_3 y1.2.1.length cap1_3,.slice a1_5 y1.2.2.1.length cap1_5,.int .i8 y1.2.2.2.1,.slice a1_9 y1.2.2.2.2.1.length cap1_9,.bool y1.2.2.2.2.2.1,.bool y1.2.2.2.2.2.2]:=by apply Array.toList_inj.1;simp only [x1_0,e1_1,x1_2,e1_3,x1_4,e1_5,x1_6,e1_7,x1_8,e1_9,x1_11,e1_12,e1_13];rfl
  obtain ⟨a2,rfl,rfl,rfl,w2⟩:=open_int underlying3 (hval 2 3 v2 rfl rfl) h2
  clear hA0 hval0
  simp only [List.append_nil] at hW'
  have hb:(Yz (Xq Ym (Xq (Xk Ym) (Xq (Xk (Xk Ym)) (Xq (Xk (Xk Yp)) (Xk (Xk (Yz (Xq (Yz (Xq Yp (Xk Yp))) (Xk Yp)))))))))) y0+(Yz (Xq Yp (Xq (Xk (Yz (Xq Ym Ym))) (Xq (Xk (Yz (Xq Ym Ym))) (Xq Yp (Xq (Xk Ym) (Yz (Xq Yp Yp)))))))) y1≤1048576:=by omega
  refine (Zvj y0 a0_3 cap0_3 a0_5 cap0_5 a0_7 cap0_7 a0_8 cap0_8 y1 a1_3 cap1_3 a1_5 cap1_5 a1_9 cap1_9 a2 W hb w0 s0_3 s0_5 s0_7 s0_8 w1 s1_3 s1_5 s1_9 w2 hgl).mono fun e W' ⟨he,bel⟩=>?_
  subst he
  exact ⟨_,rfl,_,_,_,[],_,[],hW',trodAll_mk1 (shut_bool underlying4 _),(trodAll_cons_mk (Below.trod Zro (by kernel_rfl) (of_decide_eq_true (by kernel_rfl)) k0 bel lt0) (trodAll_cons_mk (Below.trod Zro (by kernel_rfl) (of_decide_eq_true (by kernel_rfl)) k1 bel lt1) (trodAll_cons_mk (shut_int underlying3 w2) trodAll_mk0))),rfl,bel.frame _,fun h=>by cases h⟩

theorem Zvu {a b:Bool} (ha:a=true) (hb:b=true):(a&&b)=true:=by rw [ha,hb];rfl
theorem wrapper:Tryz.f6.isWrapper Tryz.pinned.checked.prog Rows.queryAskUptoRow.wrapper Rows.queryAskUptoRow.mainSum:=by unfold Func.isWrapper;first | (rw [if_pos (by decide+kernel)];kernel_rfl) | (rw [if_neg (by decide+kernel)];exact ⟨rfl,rfl⟩)
theorem inst:Tryz.f6.isInstance Tryz.pinned.checked.prog Rows.queryAskUptoRow.origin Rows.queryAskUptoRow.targs:=of_decide_eq_true (by kernel_rfl)
theorem Z1q:Tryz.pinned.checked.prog.funcNamed Rows.queryAskUptoRow.func=some 6:=by kernel_rfl
set_option maxHeartbeats 20000000 in
theorem Zy5:joinedFacts Tryz.pinned.checked.prog 6 Tryz.f6 (Rows.OpenSpec.upto Rows.queryAskSpec).bare Rows.queryAskUptoRow=true:=by
  unfold joinedFacts
  repeat' with_reducible apply Zvu
  all_goals as_aux_lemma=>kernel_rfl
theorem proved:Rows.QueryAskUptoSaid:=
  OpenClaim.holds_of_cond 6 Tryz.f6 rfl rfl rfl rfl rfl rfl rfl ⟨rfl,rfl,rfl,rfl,rfl⟩ rfl rfl rfl rfl rfl Z1q func6 Zy5
    inst wrapper (fun os started H enc _ F=>by rw [OpenClaim.pre_eq_preRow];exact Z09 os started H enc F)
theorem Zcu (f:FuncId) (fn:Func) (hf:Tryz.pinned.checked.prog.funcNamed "credence/credencelaw23.QueryAsk"=some f) (hfn:Tryz.pinned.checked.prog.funcs[f]?=some fn):
    true=Tryz.pinned.checked.prog.looks []∧∀ (j:Nat) t,fn.params[j]?=some t→Tryz.pinned.checked.prog.wantsStandIn t=false:=by
  obtain rfl:f=6:=Option.some.inj ((show prog.funcNamed "credence/credencelaw23.QueryAsk"=some 6 by kernel_rfl).symm.trans hf) |>.symm
  obtain rfl:fn=Tryz.f6:=(Option.some.inj (func6.symm.trans hfn)).symm
  refine ⟨by kernel_rfl,fun j t ht=>?_⟩
  rw [Tryz.params6] at ht
  have hm:=Array.mem_of_getElem? ht
  have hall:∀ t ∈ (#[45,50,3]:Array Nat),prog.wantsStandIn t=false:=by
    intro t ht
    simp only [List.mem_toArray,List.mem_cons,List.not_mem_nil,or_false] at ht
    rcases ht with rfl | rfl | rfl <;> kernel_rfl
  exact hall t hm
theorem card:Rows.QueryAskUptoCardSaid:=
  Claim7.holds_tied_plain_at .later [] _ _ _ _ proved (fun _ h=>by cases h) (by kernel_rfl) (fun _ h=>by cases h) queryAskUpto_row_tie rfl ⟨rfl,rfl⟩ (by kernel_rfl) rfl Zcu (by kernel_rfl)
#print axioms card
end Go.Proofs.YtdpdogdkolblnaaGreatDoor.queryAsk
