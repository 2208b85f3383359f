/-
  'CodeBack' (credence/credencelaw26.CodeBack), where what it reads is of bulk at most 1048576: the call returns true and the arguments read afterwards as before.
-/
import Derived.Test.YtlchacnggnhhbaaGreatRows
import Derived.Test.YtlchacnggnhhbaaGreatCodeBackBBulk
import Derived.Test.YtlchacnggnhhbaaGreatCodeBackF5
import Derived.WalkKit
import Derived.ProofKit
import Derived.OpenShut
import Derived.ShutString
import Derived.ChangeOld
import Derived.Below
import Derived.JoinedCond
namespace Go.Proofs.YtlchacnggnhhbaaGreat.codeBack
open Go Go.ChangeShapes Go.WideShapes Go.ChangeAt Go.RowKit
open Go.IntKind (i8 i16 i32 i64 u8 u16 u32 u64)
open Go.Proofs.Tryz
open Go.ChangeMaps (open_string shut_string)
set_option linter.unusedVariables false

theorem own:ownKnob Tryz.prog.godebug=none:=by kernel_rfl
theorem Zt6:laidOutB Tryz.prog=true:=by kernel_rfl

theorem walk (y0:Z8) (a1:Option Addr) (c1:Nat) (a2:Option Addr) (c2:Nat) (a3:Option Addr) (c3:Nat) (a4:Option Addr) (c4:Nat) (y1:List R2) (a5:Option Addr) (c5:Nat) (y2:ByteArray) (w:World)
    (hb:Zka y0+(Xu (Xu Wj)) y1+W8 y2≤1048576) (q0:Zv6 y0)
    (s1:Sl Za.str (fun _=>0) w a1 c1 y0.2.1) (s2:Sl (Za.slice Za.str) (fun _=>0) w a2 c2 y0.2.2.1) (s3:Sl (Za.slice (Za.int .i64)) (fun _=>0) w a3 c3 y0.2.2.2.1) (s4:Sl (Za.slice (Za.pair (Za.pair Za.bool (Za.slice (Za.int .u32))) (Za.slice (Za.int .u32)))) (fun _=>0) w a4 c4 y0.2.2.2.2)
    (q1:(W0 (W0 (Qx .i64))) y1) (s5:Sl (Za.slice (Za.int .i64)) (fun _=>0) w a5 c5 y1) (q2:y2.size≤maxLen):
    Calls Tryz.prog 3 #[.agg #[.string y0.1,.slice a1 y0.2.1.length c1,.slice a2 y0.2.2.1.length c2,.slice a3 y0.2.2.2.1.length c3,.slice a4 y0.2.2.2.2.length c4],.slice a5 y1.length c5,.string y2] w
      fun e w'=>e= .returned (.bool true)∧Below w.heap.size w w':=by
  have hn:Zka y0≤1048576:=by omega
  obtain ⟨h1,h2⟩:=Z29 hn q0
  have h3:=Q5 (b:=Xu Wj) Zkb y1
  have h4:y2.size≤W8 y2:=by simp only [W8];omega
  exact Zzn 4611686018427387904 (fun _=>0) w a1 c1 a2 c2 a3 c3 a4 c4 y0 a5 c5 y1 y2 s1 s2 s3 s4 s5 true (Zyp (K:=1074792465) (B:=805308097) h1 h2 (by rw [Z4];decide) (by decide) (by decide) (by decide) (by omega) (by omega))

set_option maxRecDepth 100000 in
theorem Z2o (os:Os) (started:os.Started) (H:Type) (enc:TypeId×Value→H) (F:Stop.Interp):
    ReturnsInHanded {} Tryz.checked os 3 .any ((Rows.OpenSpec.upto Rows.codeBackSpec).pre6 enc Tryz.prog Tryz.f3 Rows.codeBackUptoRow.domain false) (((Rows.OpenSpec.upto Rows.codeBackSpec).at F).post enc Tryz.prog Tryz.f3 false true false false):=by
  refine returnsInHanded_of_cond (C:=Tryz.checked) (s:=Rows.OpenSpec.upto Rows.codeBackSpec) (k:=Rows.uptoSmall) rfl own started (by kernel_rfl) func3
    (OpenSpec.witness (enc:=enc) (C:=Tryz.checked) (s:=Rows.OpenSpec.upto Rows.codeBackSpec) (k:=Rows.uptoSmall) rfl false ⟨#[],#[.agg #[.string .empty,.slice none 0 0,.slice none 0 0,.slice none 0 0,.slice none 0 0],.slice none 0 0,.string .empty],[]⟩ 8 (by kernel_rfl) (by kernel_rfl) (by kernel_rfl)
      (x:=([.agg [.lit (.string []),.nil,.nil,.nil,.nil],.nil,.lit (.string [])],[],[])) (by kernel_rfl) rfl (by kernel_rfl)) ?_
  intro W base args ds gs before hval0 hW _ hk _
  have hval:∀ (j:Nat) t v,Tryz.f3.params[j]?=some t→args[j]?=some v→Value.okWide Tryz.prog W .any base t v:=hval0
  have hW':=hW
  obtain ⟨p,q,hA0,hV,rfl,hfz,hnd⟩:=hW
  have hA:DataW.TrodAll enc Tryz.prog W 0 (fun _=>true) true Tryz.f3.params.toList args.toList ds p:=hA0
  rw [Tryz.params3] at hA hval
  obtain ⟨v0,vs0,d0,ds0,p0,q0,hargs,rfl,rfl,h0,r0⟩:=trodAll_cons hA
  obtain ⟨v1,vs1,d1,ds1,p1,q1,rfl,rfl,rfl,h1,r1⟩:=trodAll_cons r0
  obtain ⟨v2,vs2,d2,ds2,p2,q2,rfl,rfl,rfl,h2,r2⟩:=trodAll_cons r1
  obtain ⟨rfl,rfl,rfl⟩:=trodAll_nil r2
  obtain rfl:args=#[v0,v1,v2]:=by cases args;simp_all
  obtain ⟨rfl,rfl⟩:=trodVars_none hV
  have hk2:=of_decide_eq_true hk
  simp only [List.append_nil,Rows.uptoBulkAll] at hk2
  obtain ⟨cs0,rfl,cz0⟩:=okWide_struct underlying27 (hval 0 27 v0 rfl rfl)
  have k0:=h0
  have lt0:∀ x ∈ p0,x.block<W.heap.size:=by obtain ⟨m,hm⟩:=k0;exact DataW.trod_lt m _ _ _ hm
  obtain ⟨y0,b0,w0,rd0⟩:∃ y,(U6 (Vj W8 (Vj (Xu W8) (Vj (Xu (Xu W8)) (Vj (Xu (Xu Wj)) (Xu (Xu (U6 (Vj (U6 (Vj Wj (Xu Wj))) (Xu Wj)))))))))) y≤Rows.uptoBulk d0∧(Si (fun _=>True) (Si (W0 (fun _=>True)) (Si (W0 (W0 (fun _=>True))) (Si (W0 (W0 (Qx .i64))) (W0 (W0 (Si (Si (fun _=>True) (W0 (Qx .u32))) (W0 (Qx .u32))))))))) y∧(Za.pair Za.str (Za.pair (Za.slice Za.str) (Za.pair (Za.slice (Za.slice Za.str)) (Za.pair (Za.slice (Za.slice (Za.int .i64))) (Za.slice (Za.slice (Za.pair (Za.pair Za.bool (Za.slice (Za.int .u32))) (Za.slice (Za.int .u32))))))))).rd (fun _=>0) W cs0.toList y []:=by
    obtain ⟨fuel,hf⟩:=h0
    obtain ⟨y,h1,h2⟩:=(Yy.struct (r:=(Za.pair Za.str (Za.pair (Za.slice Za.str) (Za.pair (Za.slice (Za.slice Za.str)) (Za.pair (Za.slice (Za.slice (Za.int .i64))) (Za.slice (Za.slice (Za.pair (Za.pair Za.bool (Za.slice (Za.int .u32))) (Za.slice (Za.int .u32)))))))))) (R:=(@Wa _ _ @Sr (@Wa _ _ (@RL ByteArray @Sr) (@Wa _ _ (@RL R5 (@RL ByteArray @Sr)) (@Wa _ _ (@RL R2 (@RL Int (@Yz .i64))) (@Wi _ (@RL R9 (@RL R0 (@V2 _ (@Wa _ _ (@V2 _ (@Wa _ _ @Sq (@Wi _ (@RL Int (@Yz .u32))))) (@Wi _ (@RL Int (@Yz .u32))))))))))))) underlying27 (by kernel_rfl) (U5.cons (r:=Za.str) (R:=@Sr) (s:=(Za.pair (Za.slice Za.str) (Za.pair (Za.slice (Za.slice Za.str)) (Za.pair (Za.slice (Za.slice (Za.int .i64))) (Za.slice (Za.slice (Za.pair (Za.pair Za.bool (Za.slice (Za.int .u32))) (Za.slice (Za.int .u32))))))))) (S:=(@Wa _ _ (@RL ByteArray @Sr) (@Wa _ _ (@RL R5 (@RL ByteArray @Sr)) (@Wa _ _ (@RL R2 (@RL Int (@Yz .i64))) (@Wi _ (@RL R9 (@RL R0 (@V2 _ (@Wa _ _ (@V2 _ (@Wa _ _ @Sq (@Wi _ (@RL Int (@Yz .u32))))) (@Wi _ (@RL Int (@Yz .u32)))))))))))) rfl (by kernel_rfl) (Yy.str underlying9) (U5.cons (r:=(Za.slice Za.str)) (R:=(@RL ByteArray @Sr)) (s:=(Za.pair (Za.slice (Za.slice Za.str)) (Za.pair (Za.slice (Za.slice (Za.int .i64))) (Za.slice (Za.slice (Za.pair (Za.pair Za.bool (Za.slice (Za.int .u32))) (Za.slice (Za.int .u32)))))))) (S:=(@Wa _ _ (@RL R5 (@RL ByteArray @Sr)) (@Wa _ _ (@RL R2 (@RL Int (@Yz .i64))) (@Wi _ (@RL R9 (@RL R0 (@V2 _ (@Wa _ _ (@V2 _ (@Wa _ _ @Sq (@Wi _ (@RL Int (@Yz .u32))))) (@Wi _ (@RL Int (@Yz .u32))))))))))) rfl (by kernel_rfl) (Yy.slice (e:=9) (r:=Za.str) (R:=@Sr) underlying22 (by kernel_rfl) (Yy.str underlying9)) (U5.cons (r:=(Za.slice (Za.slice Za.str))) (R:=(@RL R5 (@RL ByteArray @Sr))) (s:=(Za.pair (Za.slice (Za.slice (Za.int .i64))) (Za.slice (Za.slice (Za.pair (Za.pair Za.bool (Za.slice (Za.int .u32))) (Za.slice (Za.int .u32))))))) (S:=(@Wa _ _ (@RL R2 (@RL Int (@Yz .i64))) (@Wi _ (@RL R9 (@RL R0 (@V2 _ (@Wa _ _ (@V2 _ (@Wa _ _ @Sq (@Wi _ (@RL Int (@Yz .u32))))) (@Wi _ (@RL Int (@Yz .u32)))))))))) rfl (by kernel_rfl) (Yy.slice (e:=22) (r:=(Za.slice Za.str)) (R:=(@RL ByteArray @Sr)) underlying23 (by kernel_rfl) (Yy.slice (e:=9) (r:=Za.str) (R:=@Sr) underlying22 (by kernel_rfl) (Yy.str underlying9))) (U5.cons (r:=(Za.slice (Za.slice (Za.int .i64)))) (R:=(@RL R2 (@RL Int (@Yz .i64)))) (s:=(Za.slice (Za.slice (Za.pair (Za.pair Za.bool (Za.slice (Za.int .u32))) (Za.slice (Za.int .u32)))))) (S:=(@Wi _ (@RL R9 (@RL R0 (@V2 _ (@Wa _ _ (@V2 _ (@Wa _ _ @Sq (@Wi _ (@RL Int (@Yz .u32))))) (@Wi _ (@RL Int (@Yz .u32))))))))) rfl (by kernel_rfl) (Yy.slice (e:=39) (r:=(Za.slice (Za.int .i64))) (R:=(@RL Int (@Yz .i64))) underlying24 (by kernel_rfl) (Yy.slice (e:=3) (r:=(Za.int .i64)) (R:=(@Yz .i64)) underlying39 (by kernel_rfl) (Yy.int underlying3))) (U5.one (r:=(Za.slice (Za.slice (Za.pair (Za.pair Za.bool (Za.slice (Za.int .u32))) (Za.slice (Za.int .u32)))))) (R:=(@RL R9 (@RL R0 (@V2 _ (@Wa _ _ (@V2 _ (@Wa _ _ @Sq (@Wi _ (@RL Int (@Yz .u32))))) (@Wi _ (@RL Int (@Yz .u32)))))))) rfl (by kernel_rfl) (Yy.slice (e:=71) (r:=(Za.slice (Za.pair (Za.pair Za.bool (Za.slice (Za.int .u32))) (Za.slice (Za.int .u32))))) (R:=(@RL R0 (@V2 _ (@Wa _ _ (@V2 _ (@Wa _ _ @Sq (@Wi _ (@RL Int (@Yz .u32))))) (@Wi _ (@RL Int (@Yz .u32))))))) underlying25 (by kernel_rfl) (Yy.slice (e:=35) (r:=(Za.pair (Za.pair Za.bool (Za.slice (Za.int .u32))) (Za.slice (Za.int .u32)))) (R:=(@V2 _ (@Wa _ _ (@V2 _ (@Wa _ _ @Sq (@Wi _ (@RL Int (@Yz .u32))))) (@Wi _ (@RL Int (@Yz .u32)))))) underlying71 (by kernel_rfl) (Yy.struct (r:=(Za.pair (Za.pair Za.bool (Za.slice (Za.int .u32))) (Za.slice (Za.int .u32)))) (R:=(@Wa _ _ (@V2 _ (@Wa _ _ @Sq (@Wi _ (@RL Int (@Yz .u32))))) (@Wi _ (@RL Int (@Yz .u32))))) underlying35 (by kernel_rfl) (U5.cons (r:=(Za.pair Za.bool (Za.slice (Za.int .u32)))) (R:=(@V2 _ (@Wa _ _ @Sq (@Wi _ (@RL Int (@Yz .u32)))))) (s:=(Za.slice (Za.int .u32))) (S:=(@Wi _ (@RL Int (@Yz .u32)))) rfl (by kernel_rfl) (Yy.struct (r:=(Za.pair Za.bool (Za.slice (Za.int .u32)))) (R:=(@Wa _ _ @Sq (@Wi _ (@RL Int (@Yz .u32))))) underlying33 (by kernel_rfl) (U5.cons (r:=Za.bool) (R:=@Sq) (s:=(Za.slice (Za.int .u32))) (S:=(@Wi _ (@RL Int (@Yz .u32)))) rfl (by kernel_rfl) (Yy.bool underlying4) (U5.one (r:=(Za.slice (Za.int .u32))) (R:=(@RL Int (@Yz .u32))) rfl (by kernel_rfl) (Yy.slice (e:=77) (r:=(Za.int .u32)) (R:=(@Yz .u32)) underlying31 (by kernel_rfl) (Yy.int underlying77))))) (U5.one (r:=(Za.slice (Za.int .u32))) (R:=(@RL Int (@Yz .u32))) rfl (by kernel_rfl) (Yy.slice (e:=77) (r:=(Za.int .u32)) (R:=(@Yz .u32)) underlying31 (by kernel_rfl) (Yy.int underlying77))))))))))))) hf
    obtain ⟨h5,h6⟩:=(BQ.agg (U2.cons BQ.str (U2.cons (BQ.slice BQ.str) (U2.cons (BQ.slice (BQ.slice BQ.str)) (U2.cons (BQ.slice (BQ.slice BQ.int)) (U2.one (BQ.slice (BQ.slice (BQ.agg (U2.cons (BQ.agg (U2.cons BQ.bool (U2.one (BQ.slice BQ.int)))) (U2.one (BQ.slice BQ.int)))))))))))) y d0 h2
    exact ⟨y,h5,h6,h1⟩
  obtain ⟨_,_,_,_,x0_0,_,u0_0,v0_0⟩:=rd0
  obtain ⟨e0_1,_⟩:=u0_0
  obtain ⟨_,_,_,_,x0_2,_,u0_2,v0_2⟩:=v0_0
  obtain ⟨⟨a0_3,cap0_3,e0_3,s0_3⟩,_⟩:=u0_2
  obtain ⟨_,_,_,_,x0_4,_,u0_4,v0_4⟩:=v0_2
  obtain ⟨⟨a0_5,cap0_5,e0_5,s0_5⟩,_⟩:=u0_4
  obtain ⟨_,_,_,_,x0_6,_,u0_6,v0_6⟩:=v0_4
  obtain ⟨⟨a0_7,cap0_7,e0_7,s0_7⟩,_⟩:=u0_6
  obtain ⟨⟨a0_8,cap0_8,e0_8,s0_8⟩,_⟩:=v0_6
  obtain rfl:cs0=#[.string y0.1,.slice a0_3 y0.2.1.length cap0_3,.slice a0_5 y0.2.2.1.length cap0_5,.slice a0_7 y0.2.2.2.1.length cap0_7,.slice a0_8 y0.2.2.2.2.length cap0_8]:=by apply Array.toList_inj.1;simp only [x0_0,e0_1,x0_2,e0_3,x0_4,e0_5,x0_6,e0_7,e0_8];rfl
  obtain ⟨a1,len1,cap1,rfl⟩:=okWide_slice underlying24 (hval 1 24 v1 rfl rfl)
  have k1:=h1
  have lt1:∀ x ∈ p1,x.block<W.heap.size:=by obtain ⟨m,hm⟩:=k1;exact DataW.trod_lt m _ _ _ hm
  obtain ⟨y1,b1,w1,e1,s1⟩:∃ y,(Xu (Xu Wj)) y≤Rows.uptoBulk d1∧(W0 (W0 (Qx .i64))) y∧len1=y.length∧Sl (Za.slice (Za.int .i64)) (fun _=>0) W a1 cap1 y:=by
    obtain ⟨fuel,hf⟩:=h1
    obtain ⟨y,h1,h2⟩:=(Yy.slice (e:=39) (r:=(Za.slice (Za.int .i64))) (R:=(@RL Int (@Yz .i64))) underlying24 (by kernel_rfl) (Yy.slice (e:=3) (r:=(Za.int .i64)) (R:=(@Yz .i64)) underlying39 (by kernel_rfl) (Yy.int underlying3))) hf
    obtain ⟨⟨a,cap,h3,h4⟩,_⟩:=h1
    simp [Value.cells] at h3
    obtain ⟨rfl,rfl,rfl⟩:=h3
    obtain ⟨h5,h6⟩:=(BQ.slice (BQ.slice BQ.int)) y d1 h2
    exact ⟨y,h5,h6,rfl,h4⟩
  subst e1
  obtain ⟨a2,rfl,rfl,rfl,w2⟩:=open_string underlying9 (hval 2 9 v2 rfl rfl) h2
  have b2:W8 a2≤Rows.uptoBulk (DataW.lit (H:=H) (.string a2.data.toList)):=by simp only [W8,Rows.uptoBulk,Array.length_toList];exact Nat.le_refl _
  clear hA0 hval0
  simp only [List.append_nil] at hW'
  have hb:(U6 (Vj W8 (Vj (Xu W8) (Vj (Xu (Xu W8)) (Vj (Xu (Xu Wj)) (Xu (Xu (U6 (Vj (U6 (Vj Wj (Xu Wj))) (Xu Wj)))))))))) y0+(Xu (Xu Wj)) y1+W8 a2≤1048576:=by omega
  refine (walk y0 a0_3 cap0_3 a0_5 cap0_5 a0_7 cap0_7 a0_8 cap0_8 y1 a1 cap1 a2 W hb w0 s0_3 s0_5 s0_7 s0_8 w1 s1 w2).mono fun e W' ⟨he,bel⟩=>?_
  subst he
  exact ⟨_,rfl,_,_,_,[],_,[],hW',trodAll_mk1 (shut_bool underlying4 _),(trodAll_cons_mk (Below.trod Zt6 (by kernel_rfl) (of_decide_eq_true (by kernel_rfl)) k0 bel lt0) (trodAll_cons_mk (Below.trod Zt6 (by kernel_rfl) (of_decide_eq_true (by kernel_rfl)) k1 bel lt1) (trodAll_cons_mk (shut_string underlying9 w2) trodAll_mk0))),rfl,bel.frame _,fun h=>by cases h⟩

theorem Zyt {a b:Bool} (ha:a=true) (hb:b=true):(a&&b)=true:=by rw [ha,hb];rfl
theorem wrapper:Tryz.f3.isWrapper Tryz.pinned.checked.prog Rows.codeBackUptoRow.wrapper Rows.codeBackUptoRow.mainSum:=by unfold Func.isWrapper;first | (rw [if_pos (by decide+kernel)];kernel_rfl) | (rw [if_neg (by decide+kernel)];exact ⟨rfl,rfl⟩)
theorem inst:Tryz.f3.isInstance Tryz.pinned.checked.prog Rows.codeBackUptoRow.origin Rows.codeBackUptoRow.targs:=of_decide_eq_true (by kernel_rfl)
theorem Z27:Tryz.pinned.checked.prog.funcNamed Rows.codeBackUptoRow.func=some 3:=by kernel_rfl
set_option maxHeartbeats 20000000 in
theorem Z0v:joinedFacts Tryz.pinned.checked.prog 3 Tryz.f3 (Rows.OpenSpec.upto Rows.codeBackSpec).bare Rows.codeBackUptoRow=true:=by
  unfold joinedFacts
  repeat' with_reducible apply Zyt
  all_goals as_aux_lemma=>kernel_rfl
theorem proved:Rows.CodeBackUptoSaid:=
  OpenClaim.holds_of_cond 3 Tryz.f3 rfl rfl rfl rfl rfl rfl rfl ⟨rfl,rfl,rfl,rfl,rfl⟩ rfl rfl rfl rfl rfl Z27 func3 Z0v
    inst wrapper (fun os started H enc _ F=>Z2o os started H enc F)
#print axioms proved
end Go.Proofs.YtlchacnggnhhbaaGreat.codeBack
