/-
  What functions of the program compute, as plain Lean functions (m_..), and proofs that they compute it (c_..). Printed by a program of the author; no conditions.
-/
import Derived.Test.YtdpdogdkolblnaaGreatDoorQueryNamesBFloat
import Derived.Test.YtdpdogdkolblnaaGreatDoorProg
import Derived.Test.YtdpdogdkolblnaaGreatDoorQueryNamesBAsP
import Derived.Test.YtdpdogdkolblnaaGreatDoorQueryNamesBBld
import Derived.Test.YtdpdogdkolblnaaGreatDoorQueryNamesBBrief
import Derived.Test.YtdpdogdkolblnaaGreatDoorQueryNamesBErr
import Derived.Test.YtdpdogdkolblnaaGreatDoorQueryNamesBLexP
import Derived.Test.YtdpdogdkolblnaaGreatDoorQueryNamesBMixD
set_option linter.unusedVariables false
set_option linter.unusedSectionVars false
set_option maxRecDepth 100000
set_option maxHeartbeats 2000000
namespace Go.Proofs.YtdpdogdkolblnaaGreatDoor
open Go Go.RowKit
open Go.IntKind (i8 i16 i32 i64 u8 u16 u32 u64)
open Go.Proofs.Tryz
theorem O {α:Sort _} {a:α}:a=a:=rfl

theorem Yh {x:Int} (h:-9223372036854775808≤x∧x≤9223372036854775807):i64.wrap x=x:=by rw [IntKind.wrap_i64];omega
theorem Xo {α:Type} {c:Prop} [Decidable c] {x:Option α} (h:c):Zp c x=x:=if_pos h
theorem Zph (col:Zc) (w0:World) (p0_s:ByteArray) (p1_prefix:ByteArray) (r:Bool) (hm:Q7 p0_s p1_prefix=some r):
    Calls prog 107 #[.string p0_s,.string p1_prefix] w0 (fun e w'=>e= .returned ((.bool r))∧Below w0.heap.size w0 w'):=
  Zy1 col w0 p0_s p1_prefix r hm
theorem Zld (col:Zc) (w0:World) (p0_s:ByteArray) (p1_c:Int) (r:Int) (hm:T8 p0_s p1_c=some r):
    Calls prog 89 #[.string p0_s,.int .u8 p1_c] w0 (fun e w'=>e= .returned ((.int .i64 r))∧Below w0.heap.size w0 w'):=
  Zxi col w0 p0_s p1_c r hm
def Zc8 (kk_L1:(ByteArray→Int→Int→Int→Option (ByteArray×Int×Int×Int))) (r_27:ByteArray) (r_28:Int) (r_29:Int) (r_30:Int):Option (ByteArray×Int×Int×Int):=
  kk_L1 r_27 r_28 r_29 r_30
def Sd (p1_n:Int):List Int→ByteArray→Int→Int→Int→Option (ByteArray×Int×Int×Int)
  | [],r_15,r_16,r_17,r_18=>some (r_15,i64.wrap (r_16+p1_n),r_17,r_18)
  | x_19 :: l_20,r_15,r_16,r_17,r_18=>if (decide (x_19=10))=true then (Zc8 (Sd p1_n l_20) r_15 r_16 (i64.wrap (r_17+1)) 1) else (Zc8 (Sd p1_n l_20) r_15 r_16 r_17 (i64.wrap (r_18+1)))
termination_by structural x=>x
def Q1 (p0_r:(ByteArray×Int×Int×Int)) (p1_n:Int):Option (ByteArray×Int×Int×Int):=
  Zp ((0:Int)≤p0_r.2.1∧p0_r.2.1≤(i64.wrap (p0_r.2.1+p1_n))∧(i64.wrap (p0_r.2.1+p1_n))≤(p0_r.1.size:Int)) (Zp ((p0_r.1.extract (Int.toNat p0_r.2.1) (Int.toNat (i64.wrap (p0_r.2.1+p1_n)))).size≤maxLen) (Sd p1_n (Zg (p0_r.1.extract (Int.toNat p0_r.2.1) (Int.toNat (i64.wrap (p0_r.2.1+p1_n))))) p0_r.1 p0_r.2.1 p0_r.2.2.1 p0_r.2.2.2))
theorem Zg4 {g0:Nat} {col:Zc} {w0:World} {p0_r:(ByteArray×Int×Int×Int)} {p1_n:Int} {r:(ByteArray×Int×Int×Int)} (qc0:Nat) (hm:Q1 p0_r p1_n=some r) (hd:X9 [qc0]=true) (hb0:Zd 137 qc0 col w0 g0 #[.string p0_r.1,.int .i64 p0_r.2.1,.int .i64 p0_r.2.2.1,.int .i64 p0_r.2.2.2]):
    Calls prog 90 #[.pointer (some ⟨g0,0,none⟩),.int .i64 p1_n] w0 (fun e w'=>∃ (col':Zc),e= .returned (.tuple #[])∧Zo (pS [qc0]) col w0 col' w'∧Zd 137 qc0 col' w' g0 #[.string r.1,.int .i64 r.2.1,.int .i64 r.2.2.1,.int .i64 r.2.2.2]):=by
 refine Qm (m:=56) (args:=[.pointer (some ⟨g0,0,none⟩),.int .i64 p1_n]) func90 O O O O ?_;rw [Q1.eq_1] at hm;have hst:=St.startL (l:=[qc0]) O col w0;replace hb0:=hb0.startL (X5 hd 0 O) (X4 hd 0 O);refine go ?_;refine Vm (col:=(Zu [qc0] col)) [(0,1),(1,1),(2,1),(3,0),(4,1),(5,1),(6,1),(7,0),(8,1),(9,1),(10,1),(11,0),(12,1),(13,1),(14,1),(17,1),(15,3),(16,1)] (by kernel_rfl) (by kernel_rfl)<|xu O O (fun _=>Ud O) ?_;refine xu (v:=(.pointer (some ⟨g0,0,none⟩))) O O (fun _=>Z2 O) ?_;refine xF ⟨_,_,O⟩ ?_;refine xW (fun _ hC=>((hb0.atN).nth (q:=0) O).gr (hC.bl (Zu [qc0] col))) ?_;refine xu O O (fun _=>Ud O) ?_;refine xu (v:=(.pointer (some ⟨g0,0,none⟩))) O O (fun _=>Z2 O) ?_;refine xF ⟨_,_,O⟩ ?_;refine xW (fun _ hC=>((hb0.atN).nth (q:=1) O).gr (hC.bl (Zu [qc0] col))) ?_;refine xu O O (fun _=>Ud O) ?_;refine xu (v:=(.pointer (some ⟨g0,0,none⟩))) O O (fun _=>Z2 O) ?_;refine xF ⟨_,_,O⟩ ?_;refine xW (fun _ hC=>((hb0.atN).nth (q:=1) O).gr (hC.bl (Zu [qc0] col))) ?_;refine xu O O (fun _=>W6 O) ?_;refine xu O O (fun _=>Tl _ _ O O) ?_;obtain ⟨hb_1,hm⟩:=Zs hm;refine xu (v:=(.string (p0_r.1.extract (Int.toNat p0_r.2.1) (Int.toNat (i64.wrap (p0_r.2.1+p1_n)))))) O O (fun _=>Zrr underlying9 O O O hb_1) ?_;refine xu O O (fun _=>W6 O) ?_;refine xe O O ?_;intro w_2 hC0;have hC:=hC0.bl (Zu [qc0] col);obtain ⟨hb_3,hm⟩:=Zs hm;refine Zxs (col:=(Zu [qc0] col)) (s:=p0_r.1.extract (Int.toNat p0_r.2.1) (Int.toNat (i64.wrap (p0_r.2.1+p1_n)))) underlying9 underlying80 underlying5 O O hb_3 ?_;intro a_4 cap_5 w_6 col_7 hg_8 h_9;refine Zh<|Wm col_7 hC0 hg_8<|xu O O (fun _=>Zb7 underlying80 O) ?_;refine Wz ?_;replace hb0:=(hb0.gr hC).gr hg_8;replace hst:=(hst.grow hC).grow hg_8;intro w_10 hC;replace hC:=hC.bl col_7;refine Zas ?_;replace h_9:=h_9.gr hC;replace hb0:=hb0.gr hC;replace hst:=hst.grow hC;refine Z3 [0,1,21,22,1000000] (fun n f w_13=>∃ col_14 r_15 r_16 r_17 r_18 k_11 l_12,n=l_12.length∧(Zg (p0_r.1.extract (Int.toNat p0_r.2.1) (Int.toNat (i64.wrap (p0_r.2.1+p1_n))))).drop k_11=l_12∧Sd p1_n l_12 r_15 r_16 r_17 r_18=some r∧St w0 (Zu [qc0] col) col_14 w_13∧Zd 137 440 col_14 w_13 g0 #[.string r_15,.int .i64 r_16,.int .i64 r_17,.int .i64 r_18]∧Sl (Za.int .u8) col_14 w_13 a_4 cap_5 (Zg (p0_r.1.extract (Int.toNat p0_r.2.1) (Int.toNat (i64.wrap (p0_r.2.1+p1_n)))))∧[23].map f=[.int .i64 k_11]) (Zg (p0_r.1.extract (Int.toNat p0_r.2.1) (Int.toNat (i64.wrap (p0_r.2.1+p1_n))))).length ⟨_,_,_,_,_,0,_,O,O,hm,hst,hb0,h_9,O⟩ ?_;clear hm;intro n f w_13 hI
 obtain ⟨col_14,r_15,r_16,r_17,r_18,k_11,l_12,hn,hl,hm,hst,hb0,h_9,hs⟩:=hI;subst hn;refine .lL [23] hs ?_
 cases l_12 with
 | nil=>
  have hk:¬ ((k_11:Int)<((Zg (p0_r.1.extract (Int.toNat p0_r.2.1) (Int.toNat (i64.wrap (p0_r.2.1+p1_n))))).length:Int)):=by have:=List.drop_eq_nil_iff.1 hl;omega
  have hkb:=decide_eq_false hk;rw [Sd.eq_1] at hm;refine go ?_;refine X6 (congrArg Value.bool hkb)<|go ?_;refine lV (.pointer (some ⟨g0,0,none⟩)) (Z2 O)<|Z6 hb0 ?_;refine go ?_;refine lV (.pointer (some ⟨g0,0,none⟩)) (Z2 O)<|Z8 ⟨_,_,O⟩ ?_;refine X3 (off:=1) (v:=(.int .i64 (i64.wrap (r_16+p1_n)))) hb0 sizeOf3 O O (by intro u hu;simp only [Value.cells,List.mem_cons,List.not_mem_nil,or_false] at hu;subst hu;rfl) O O ?_;intro w_21 hk_22 hs_23 hb_24;replace hb_24:Zd 137 440 col_14 w_21 g0 #[.string r_15,.int .i64 (i64.wrap (r_16+p1_n)),.int .i64 r_17,.int .i64 r_18]:=hb_24;refine Zh ?_;cases hm;replace hst:=hst.kp hk_22 hs_23;exact ⟨O,Xt w0.heap.size [qc0] col col_14 (fun n=>bif Nat.beq n 440 then qc0 else 0),O,hst.finL O (fun n=>bif Nat.beq n 440 then qc0 else 0),hst.finBoxL (g:=(fun n=>bif Nat.beq n 440 then qc0 else 0)) hb_24 (by decide) (by decide) O⟩
 | cons x_19 l_20=>
  obtain ⟨hat,hl2_L1,hlt_L1⟩:=Yk hl;have hk:(k_11:Int)<((Zg (p0_r.1.extract (Int.toNat p0_r.2.1) (Int.toNat (i64.wrap (p0_r.2.1+p1_n))))).length:Int):=by omega
  have hkb:=decide_eq_true hk;rw [Sd.eq_2] at hm;refine go ?_;refine X0 (congrArg Value.bool hkb)<|Zx<|Zm ?_;refine Wp.cutK [0,1,21,22,23,1000000] (fun f w_25=>∃ col_26 r_27 r_28 r_29 r_30,Zc8 (Sd p1_n l_20) r_27 r_28 r_29 r_30=some r∧St w0 (Zu [qc0] col) col_26 w_25∧Zd 137 440 col_26 w_25 g0 #[.string r_27,.int .i64 r_28,.int .i64 r_29,.int .i64 r_30]∧Sl (Za.int .u8) col_26 w_25 a_4 cap_5 (Zg (p0_r.1.extract (Int.toNat p0_r.2.1) (Int.toNat (i64.wrap (p0_r.2.1+p1_n)))))) ?_ ?_
  ·intro f w_25 hJ;obtain ⟨col_26,r_27,r_28,r_29,r_30,hm,hst,hb0,h_9⟩:=hJ;rw [Zc8.eq_1] at hm;refine go ?_;exact ⟨l_20.length,by simp,O,⟨_,_,_,_,_,_,_,O,hl2_L1,hm,hst,hb0,h_9,(Ys (congrArg (Value.int .i64) (Yn (Nat.lt_of_lt_of_le hlt_L1 h_9.1.1))) O)⟩⟩
  refine go ?_;refine lI hat (h_9.addr hat)<|lW (h_9.atInt hat) ?_;refine go ?_;refine lV (.pointer (some ⟨g0,0,none⟩)) (Z2 O)<|Z6 hb0 ?_;refine go ?_;refine lV (.pointer (some ⟨g0,0,none⟩)) (Z2 O)<|Z8 ⟨_,_,O⟩ ?_;refine X3 (off:=3) (v:=(.int .i64 (i64.wrap (r_18+1)))) hb0 sizeOf3 O O (by intro u hu;simp only [Value.cells,List.mem_cons,List.not_mem_nil,or_false] at hu;subst hu;rfl) O O ?_;intro w_31 hk_32 hs_33 hb_34;replace hb_34:Zd 137 440 col_14 w_31 g0 #[.string r_15,.int .i64 r_16,.int .i64 r_17,.int .i64 (i64.wrap (r_18+1))]:=hb_34;refine go ?_;replace h_9:=h_9.kp hk_32;replace hst:=hst.kp hk_32 hs_33;refine Zl hm (fun hb hm=>go ?_) fun hb hm=>?_
  ·refine lV (.pointer (some ⟨g0,0,none⟩)) (Z2 O)<|Z6 hb_34 ?_;refine go ?_;refine lV (.pointer (some ⟨g0,0,none⟩)) (Z2 O)<|Z8 ⟨_,_,O⟩ ?_;refine X3 (off:=2) (v:=(.int .i64 (i64.wrap (r_17+1)))) hb_34 sizeOf3 O O (by intro u hu;simp only [Value.cells,List.mem_cons,List.not_mem_nil,or_false] at hu;subst hu;rfl) O O ?_;intro w_35 hk_36 hs_37 hb_38;replace hb_38:Zd 137 440 col_14 w_35 g0 #[.string r_15,.int .i64 r_16,.int .i64 (i64.wrap (r_17+1)),.int .i64 (i64.wrap (r_18+1))]:=hb_38;refine lV (.pointer (some ⟨g0,0,none⟩)) (Z2 O)<|Z8 ⟨_,_,O⟩ ?_;refine X3 (off:=3) (v:=(.int .i64 1)) hb_38 sizeOf3 O O (by intro u hu;simp only [Value.cells,List.mem_cons,List.not_mem_nil,or_false] at hu;subst hu;rfl) O O ?_;intro w_39 hk_40 hs_41 hb_42;replace hb_42:Zd 137 440 col_14 w_39 g0 #[.string r_15,.int .i64 r_16,.int .i64 (i64.wrap (r_17+1)),.int .i64 1]:=hb_42;refine Zh ?_;replace h_9:=(h_9.kp hk_36).kp hk_40;replace hst:=(hst.kp hk_36 hs_37).kp hk_40 hs_41;exact ⟨O,_,_,_,_,1,hm,hst,hb_42,h_9⟩
  refine Zx ?_;exact ⟨O,_,_,_,_,_,hm,hst,hb_34,h_9⟩
theorem Zv1 (col:Zc) (w0:World) (p0_s:ByteArray) (p1_substr:ByteArray) (hgl:Gl (.iface 141 (.agg #[.pointer (some ⟨4,24,none⟩)])) col w0) (r:Int) (hm:Zcy p0_s p1_substr=some r):
    Calls prog 108 #[.string p0_s,.string p1_substr] w0 (fun e w'=>e= .returned ((.int .i64 r))∧Below w0.heap.size w0 w'):=
  Zxh col w0 p0_s p1_substr hgl r hm
def Zc7 (r_4:ByteArray) (r_5:Int) (r_6:Int) (r_7:Int) (kk_L1:(ByteArray→Int→Int→Int→Option (Bool×(ByteArray×Int×Int×Int)))) (end_20:Int):Option (Bool×(ByteArray×Int×Int×Int)):=
  (Q1 (r_4,r_5,r_6,r_7) end_20).bind fun r_21=>kk_L1 r_21.1 r_21.2.1 r_21.2.2.1 r_21.2.2.2
def Uq (N:Nat):Nat→ByteArray→Int→Int→Int→Option (Bool×(ByteArray×Int×Int×Int))
  | 0,_,_,_,_=>none
  | n_1+1,r_4,r_5,r_6,r_7=>Zp ((0:Int)≤r_5∧r_5≤(r_4.size:Int)∧(r_4.size:Int)≤(r_4.size:Int)) (if (decide ((r_4.extract (Int.toNat r_5) (Int.toNat (r_4.size:Int)))=(⟨#[]⟩)))=true then (some (true,(r_4,r_5,r_6,r_7))) else ((Q7 (r_4.extract (Int.toNat r_5) (Int.toNat (r_4.size:Int))) (⟨#[47,47]⟩)).bind fun r_10=>if r_10=true then ((T8 (r_4.extract (Int.toNat r_5) (Int.toNat (r_4.size:Int))) 10).bind fun r_14=>if (decide (r_14<0))=true then (Zc7 r_4 r_5 r_6 r_7 (Uq N n_1) ((r_4.extract (Int.toNat r_5) (Int.toNat (r_4.size:Int))).size:Int)) else (Zc7 r_4 r_5 r_6 r_7 (Uq N n_1) r_14)) else ((Q7 (r_4.extract (Int.toNat r_5) (Int.toNat (r_4.size:Int))) (⟨#[47,42]⟩)).bind fun r_27=>if r_27=true then (Zp ((0:Int)≤2∧2≤((r_4.extract (Int.toNat r_5) (Int.toNat (r_4.size:Int))).size:Int)∧((r_4.extract (Int.toNat r_5) (Int.toNat (r_4.size:Int))).size:Int)≤((r_4.extract (Int.toNat r_5) (Int.toNat (r_4.size:Int))).size:Int)) ((Zcy ((r_4.extract (Int.toNat r_5) (Int.toNat (r_4.size:Int))).extract (Int.toNat 2) (Int.toNat ((r_4.extract (Int.toNat r_5) (Int.toNat (r_4.size:Int))).size:Int))) (⟨#[42,47]⟩)).bind fun r_32=>if (decide (r_32<0))=true then (some (false,(r_4,r_5,r_6,r_7))) else ((Q1 (r_4,r_5,r_6,r_7) (i64.wrap (r_32+4))).bind fun r_36=>(Uq N n_1) r_36.1 r_36.2.1 r_36.2.2.1 r_36.2.2.2))) else ((Y4 (r_4.extract (Int.toNat r_5) (Int.toNat (r_4.size:Int))) 0).bind fun e_42=>(T8 (⟨#[32,9,10,13]⟩) e_42).bind fun r_44=>if (decide (0≤r_44))=true then ((Q1 (r_4,r_5,r_6,r_7) 1).bind fun r_48=>(Uq N n_1) r_48.1 r_48.2.1 r_48.2.2.1 r_48.2.2.2) else (some (true,(r_4,r_5,r_6,r_7)))))))
termination_by structural x=>x
def Zfc (N:Nat) (p0_r:(ByteArray×Int×Int×Int)):Option (Bool×(ByteArray×Int×Int×Int)):=
  Uq N N p0_r.1 p0_r.2.1 p0_r.2.2.1 p0_r.2.2.2
theorem Zuv {N g0:Nat} {col:Zc} {w0:World} {p0_r:(ByteArray×Int×Int×Int)} {r:(Bool×(ByteArray×Int×Int×Int))} (qc0:Nat) (hm:Zfc N p0_r=some r) (hd:X9 [qc0]=true) (hb0:Zd 137 qc0 col w0 g0 #[.string p0_r.1,.int .i64 p0_r.2.1,.int .i64 p0_r.2.2.1,.int .i64 p0_r.2.2.2]) (hgl:Gl (.iface 141 (.agg #[.pointer (some ⟨4,24,none⟩)])) col w0):
    Calls prog 83 #[.pointer (some ⟨g0,0,none⟩)] w0 (fun e w'=>∃ (col':Zc),e= .returned ((.bool r.1))∧Zo (pS [qc0]) col w0 col' w'∧Zd 137 qc0 col' w' g0 #[.string r.2.1,.int .i64 r.2.2.1,.int .i64 r.2.2.2.1,.int .i64 r.2.2.2.2]):=by
 refine Z1 2 (m:=49) func83 O O O O O ?_;rw [Zfc.eq_1] at hm;have hst:=St.startL (l:=[qc0]) O col w0;replace hb0:=hb0.startL (X5 hd 0 O) (X4 hd 0 O);refine go ?_;replace hgl:=hgl.keep (Zk.startL [qc0] col w0);refine Z3 [0,1000000] (fun n f w_2=>∃ col_3 r_4 r_5 r_6 r_7 n_1,n_1=n∧Uq N n_1 r_4 r_5 r_6 r_7=some r∧St w0 (Zu [qc0] col) col_3 w_2∧Zd 137 440 col_3 w_2 g0 #[.string r_4,.int .i64 r_5,.int .i64 r_6,.int .i64 r_7]∧Gl (.iface 141 (.agg #[.pointer (some ⟨4,24,none⟩)])) col_3 w_2) N ⟨_,_,_,_,_,_,O,hm,hst,hb0,hgl⟩ ?_;clear hm;intro n f w_2 hI;obtain ⟨col_3,r_4,r_5,r_6,r_7,n_1,hn,hm,hst,hb0,hgl⟩:=hI;subst hn
 cases n_1 with
 | zero=>rw [Uq.eq_1] at hm;cases hm
 | succ n_1=>
  rw [Uq.eq_2] at hm;refine go ?_;refine Vx (col:=col_3) (by kernel_rfl) (by kernel_rfl)<|go ?_;refine qv (v:=(.pointer (some ⟨g0,0,none⟩))) O (fun _ hC=>Z2 O) ?_;refine qF ⟨_,_,O⟩ ?_;refine qW (fun _ hC=>((hb0.atN).nth (q:=0) O).gr (hC.bl col_3)) ?_;refine go ?_;refine qv (v:=(.pointer (some ⟨g0,0,none⟩))) O (fun _ hC=>Z2 O) ?_;refine qF ⟨_,_,O⟩ ?_;refine qW (fun _ hC=>((hb0.atN).nth (q:=1) O).gr (hC.bl col_3)) ?_;obtain ⟨hb_8,hm⟩:=Zs hm;refine qv (v:=(.string (r_4.extract (Int.toNat r_5) (Int.toNat (r_4.size:Int))))) O (fun _ hC=>Zn9 underlying9 O O hb_8) ?_;refine go ?_;refine Wi ?_;intro w_9 hC;replace hC:=hC.bl col_3;refine go ?_;replace hgl:=hgl.gr hC;replace hb0:=hb0.gr hC;replace hst:=hst.grow hC;refine Zl hm (fun hb hm=>go ?_) fun hb hm=>go ?_
  ·cases hm;exact ⟨O,Xt w0.heap.size [qc0] col col_3 (fun n=>bif Nat.beq n 440 then qc0 else 0),O,hst.finL O (fun n=>bif Nat.beq n 440 then qc0 else 0),hst.finBoxL (g:=(fun n=>bif Nat.beq n 440 then qc0 else 0)) hb0 (by decide) (by decide) O⟩
  obtain ⟨r_10,hr_11,hm⟩:=bZ hm;refine Ze (Zph col_3 _ (r_4.extract (Int.toNat r_5) (Int.toNat (r_4.size:Int))) (⟨#[47,47]⟩) r_10 hr_11) ?_;rintro _ w_12 ⟨rfl,hg_13⟩;refine ⟨_,O,?_⟩;replace hg_13:Zf col_3 w_9 col_3 w_12:=.of_below hg_13;refine go ?_;replace hgl:=hgl.gr hg_13;replace hb0:=hb0.gr hg_13;replace hst:=hst.grow hg_13;refine Zl hm (fun hb hm=>go ?_) fun hb hm=>go ?_
  ·obtain ⟨r_14,hr_15,hm⟩:=bZ hm;refine Ze (Zld col_3 _ (r_4.extract (Int.toNat r_5) (Int.toNat (r_4.size:Int))) 10 r_14 hr_15) ?_;rintro _ w_16 ⟨rfl,hg_17⟩;refine ⟨_,O,?_⟩;replace hg_17:Zf col_3 w_12 col_3 w_16:=.of_below hg_17;refine Ye O<|Zh<|Zm ?_;replace hgl:=hgl.gr hg_17;replace hb0:=hb0.gr hg_17;replace hst:=hst.grow hg_17;refine Wp.cutK [0,1000000] (fun f w_18=>∃ col_19 end_20,Zc7 r_4 r_5 r_6 r_7 (Uq N n_1) end_20=some r∧St w0 (Zu [qc0] col) col_19 w_18∧Zd 137 440 col_19 w_18 g0 #[.string r_4,.int .i64 r_5,.int .i64 r_6,.int .i64 r_7]∧Gl (.iface 141 (.agg #[.pointer (some ⟨4,24,none⟩)])) col_19 w_18∧[4].map f=[.int .i64 end_20]) ?_ ?_
   ·intro f w_18 hJ;obtain ⟨col_19,end_20,hm,hst,hb0,hgl,hs⟩:=hJ;rw [Zc7.eq_1] at hm;refine .lL [4] hs<|go ?_;obtain ⟨r_21,hr_22,hm⟩:=bZ hm;refine Ze (Zg4 440 hr_22 O hb0) ?_;rintro _ w_24 ⟨col_26,rfl,hg_25,ohb_23⟩;refine ⟨_,O,?_⟩;refine Zh ?_;replace hgl:=hgl.kpp hg_25;replace hst:=hst.kpp hg_25;exact ⟨n_1,by omega,O,⟨_,_,_,_,_,_,O,hm,hst,ohb_23,hgl⟩⟩
   refine go ?_;refine Zl hm (fun hb hm=>go ?_) fun hb hm=>?_
   ·exact ⟨O,_,_,hm,hst,hb0,hgl,O⟩
   refine Zx ?_;exact ⟨O,_,_,hm,hst,hb0,hgl,O⟩
  obtain ⟨r_27,hr_28,hm⟩:=bZ hm;refine Ze (Zph col_3 _ (r_4.extract (Int.toNat r_5) (Int.toNat (r_4.size:Int))) (⟨#[47,42]⟩) r_27 hr_28) ?_;rintro _ w_29 ⟨rfl,hg_30⟩;refine ⟨_,O,?_⟩;replace hg_30:Zf col_3 w_12 col_3 w_29:=.of_below hg_30;refine go ?_;replace hgl:=hgl.gr hg_30;replace hb0:=hb0.gr hg_30;replace hst:=hst.grow hg_30;refine Zl hm (fun hb hm=>go ?_) fun hb hm=>go ?_
  ·obtain ⟨hb_31,hm⟩:=Zs hm;refine lV (.string ((r_4.extract (Int.toNat r_5) (Int.toNat (r_4.size:Int))).extract (Int.toNat 2) (Int.toNat ((r_4.extract (Int.toNat r_5) (Int.toNat (r_4.size:Int))).size:Int)))) (Zn9 underlying9 O O hb_31) ?_;obtain ⟨r_32,hr_33,hm⟩:=bZ hm;refine Ze (Zv1 col_3 _ ((r_4.extract (Int.toNat r_5) (Int.toNat (r_4.size:Int))).extract (Int.toNat 2) (Int.toNat ((r_4.extract (Int.toNat r_5) (Int.toNat (r_4.size:Int))).size:Int))) (⟨#[42,47]⟩) hgl r_32 hr_33) ?_;rintro _ w_34 ⟨rfl,hg_35⟩;refine ⟨_,O,?_⟩;replace hg_35:Zf col_3 w_29 col_3 w_34:=.of_below hg_35;refine go ?_;replace hgl:=hgl.gr hg_35;replace hb0:=hb0.gr hg_35;replace hst:=hst.grow hg_35;refine Zl hm (fun hb hm=>go ?_) fun hb hm=>go ?_
   ·cases hm;exact ⟨O,Xt w0.heap.size [qc0] col col_3 (fun n=>bif Nat.beq n 440 then qc0 else 0),O,hst.finL O (fun n=>bif Nat.beq n 440 then qc0 else 0),hst.finBoxL (g:=(fun n=>bif Nat.beq n 440 then qc0 else 0)) hb0 (by decide) (by decide) O⟩
   obtain ⟨r_36,hr_37,hm⟩:=bZ hm;refine Ze (Zg4 440 hr_37 O hb0) ?_;rintro _ w_39 ⟨col_41,rfl,hg_40,ohb_38⟩;refine ⟨_,O,?_⟩;refine Zh ?_;replace hgl:=hgl.kpp hg_40;replace hst:=hst.kpp hg_40;exact ⟨n_1,by omega,O,⟨_,_,_,_,_,_,O,hm,hst,ohb_38,hgl⟩⟩
  obtain ⟨e_42,hj_43,hm⟩:=bZ hm;refine lV (.int .u8 e_42) (Vh (s:=(r_4.extract (Int.toNat r_5) (Int.toNat (r_4.size:Int)))) underlying9 O O hj_43) ?_;obtain ⟨r_44,hr_45,hm⟩:=bZ hm;refine Ze (Zld col_3 _ (⟨#[32,9,10,13]⟩) e_42 r_44 hr_45) ?_;rintro _ w_46 ⟨rfl,hg_47⟩;refine ⟨_,O,?_⟩;replace hg_47:Zf col_3 w_29 col_3 w_46:=.of_below hg_47;refine go ?_;replace hgl:=hgl.gr hg_47;replace hb0:=hb0.gr hg_47;replace hst:=hst.grow hg_47;refine Zl hm (fun hb hm=>go ?_) fun hb hm=>go ?_
  ·obtain ⟨r_48,hr_49,hm⟩:=bZ hm;refine Ze (Zg4 440 hr_49 O hb0) ?_;rintro _ w_51 ⟨col_53,rfl,hg_52,ohb_50⟩;refine ⟨_,O,?_⟩;refine Zh ?_;replace hgl:=hgl.kpp hg_52;replace hst:=hst.kpp hg_52;exact ⟨n_1,by omega,O,⟨_,_,_,_,_,_,O,hm,hst,ohb_50,hgl⟩⟩
  cases hm;exact ⟨O,Xt w0.heap.size [qc0] col col_3 (fun n=>bif Nat.beq n 440 then qc0 else 0),O,hst.finL O (fun n=>bif Nat.beq n 440 then qc0 else 0),hst.finBoxL (g:=(fun n=>bif Nat.beq n 440 then qc0 else 0)) hb0 (by decide) (by decide) O⟩
theorem Zeg (col:Zc) (w0:World) (qc2:Nat) (hqqc2:qc2≠0) (p0_code:Int) (p1_word:ByteArray) (g2:Nat) (p2_v:(Int×ByteArray×Int×Int)) (hb2:Zd 63 qc2 col w0 g2 #[.int .i8 p2_v.1,.string p2_v.2.1,.int .i64 p2_v.2.2.1,.int .i64 p2_v.2.2.2]) (r:((Int×ByteArray×Int×Int)×(Option (Int×Int×Int×ByteArray)))) (hm:Tc p0_code p1_word p2_v=some r):
    Calls prog 84 #[.int .i64 p0_code,.string p1_word,.pointer (some ⟨g2,0,none⟩)] w0 (fun e w'=>∃ (col':Zc) (rv1:Value),e= .returned (.tuple #[(.agg #[.int .i8 r.1.1,.string r.1.2.1,.int .i64 r.1.2.2.1,.int .i64 r.1.2.2.2]),rv1])∧Zf col w0 col' w'∧Rd (Za.err 72 29 (Za.pair (Za.int .i64) (Za.pair (Za.int .i64) (Za.pair (Za.int .i64) Za.str)))) col' w' [rv1] r.2):=
  Zw6 col w0 qc2 hqqc2 p0_code p1_word g2 p2_v hb2 r hm
def Zh3:Option Bool:=
  some false
def Zc3 (v_23:Bool):Option Bool:=
  if v_23=true then (some true) else Zh3
def Ze9 (p0_c:Int) (v_32:Bool):Option Bool:=
  if v_32=true then (Zc3 v_32) else (Zc3 (decide (p0_c=95)))
def Ze8 (p0_c:Int) (v_28:Bool):Option Bool:=
  if v_28=true then (Zc3 v_28) else (if (decide (97≤p0_c))=true then (Ze9 p0_c (decide (p0_c≤122))) else (Ze9 p0_c false))
def Sy (p0_c:Int):Option Bool:=
  if (decide (65≤p0_c))=true then (Ze8 p0_c (decide (p0_c≤90))) else (Ze8 p0_c false)
theorem Zg3 {col:Zc} {w0:World} {p0_c:Int} {r:Bool} (hm:Sy p0_c=some r):
    Calls prog 70 #[.int .u8 p0_c] w0 (fun e w'=>e= .returned ((.bool r))∧Below w0.heap.size w0 w'):=by
 refine Z1 2 (m:=18) func70 O O O O O ?_;rw [Sy.eq_1] at hm;have hst:=St.start col w0;refine Zm<|Yb<|Qt O<|Zh<|Zm ?_;refine Wp.cutK [1000000] (fun f w_1=>∃ col_2,Zh3=some r∧St w0 (Zi col) col_2 w_1) ?_ ?_
 ·intro f w_1 hJ;obtain ⟨col_2,hm,hst⟩:=hJ;rw [Zh3.eq_1] at hm;refine go ?_;cases hm;exact ⟨O,O,hst.below⟩
 refine Zas<|Zm ?_;refine Wp.cutK [1000000] (fun f w_21=>∃ col_22 v_23,Zc3 v_23=some r∧St w0 (Zi col) col_22 w_21∧[3].map f=[.bool v_23]) ?_ ?_
 ·intro f w_21 hJ;obtain ⟨col_22,v_23,hm,hst,hs⟩:=hJ;rw [Zc3.eq_1] at hm;refine .lL [3] hs ?_;refine Zl hm (fun hb hm=>go ?_) fun hb hm=>?_
  ·cases hm;exact ⟨O,O,hst.below⟩
  refine Zx ?_;exact ⟨O,_,hm,hst⟩
 refine Zm ?_;refine Wp.cutK [0,1000000] (fun f w_26=>∃ col_27 v_28,Ze8 p0_c v_28=some r∧St w0 (Zi col) col_27 w_26∧[3].map f=[.bool v_28]) ?_ ?_
 ·intro f w_26 hJ;obtain ⟨col_27,v_28,hm,hst,hs⟩:=hJ;rw [Ze8.eq_1] at hm;refine .lL [3] hs ?_;refine Zl hm (fun hb hm=>?_) fun hb hm=>?_
  ·refine Zx ?_;exact ⟨O,_,_,hm,hst,O⟩
  refine Zm ?_;refine Wp.cutK [0,1000000] (fun f w_30=>∃ col_31 v_32,Ze9 p0_c v_32=some r∧St w0 (Zi col) col_31 w_30∧[3].map f=[.bool v_32]) ?_ ?_
  ·intro f w_30 hJ;obtain ⟨col_31,v_32,hm,hst,hs⟩:=hJ;rw [Ze9.eq_1] at hm;refine .lL [3] hs ?_;refine Zl hm (fun hb hm=>?_) fun hb hm=>go ?_
   ·refine Zx ?_;exact ⟨O,_,_,hm,hst,O⟩
   exact ⟨O,_,_,hm,hst,O⟩
  refine go ?_;refine Z4 hm (fun hg_33 hm=>go ?_) fun hg_33 hm=>go ?_
  ·refine lV (.bool (decide (p0_c≤122))) (Zv (congrArg Value.bool hg_33) O)<|go ?_;exact ⟨O,_,_,hm,hst,O⟩
  refine lV (.bool false) (Zq (congrArg Value.bool hg_33) O)<|go ?_;exact ⟨O,_,_,hm,hst,O⟩
 refine go ?_;refine Z4 hm (fun hg_34 hm=>go ?_) fun hg_34 hm=>go ?_
 ·refine lV (.bool (decide (p0_c≤90))) (Zv (congrArg Value.bool hg_34) O)<|go ?_;exact ⟨O,_,_,hm,hst,O⟩
 refine lV (.bool false) (Zq (congrArg Value.bool hg_34) O)<|go ?_;exact ⟨O,_,_,hm,hst,O⟩
def Ze6 (v_5:Bool):Option Bool:=
  some v_5
def Zbj (p0_c:Int):Option Bool:=
  if (decide (48≤p0_c))=true then (Ze6 (decide (p0_c≤57))) else (Ze6 false)
theorem Zkz {col:Zc} {w0:World} {p0_c:Int} {r:Bool} (hm:Zbj p0_c=some r):
    Calls prog 85 #[.int .u8 p0_c] w0 (fun e w'=>e= .returned ((.bool r))∧Below w0.heap.size w0 w'):=by
 refine Z1 2 (m:=9) func85 O O O O O ?_;rw [Zbj.eq_1] at hm;have hst:=St.start col w0;refine Zm<|Yb<|Qt O<|Zh<|Zm ?_;refine Wp.cutK [1000000] (fun f w_3=>∃ col_4 v_5,Ze6 v_5=some r∧St w0 (Zi col) col_4 w_3∧[2].map f=[.bool v_5]) ?_ ?_
 ·intro f w_3 hJ;obtain ⟨col_4,v_5,hm,hst,hs⟩:=hJ;rw [Ze6.eq_1] at hm;refine .lL [2] hs<|Wv ?_;cases hm;exact ⟨O,O,hst.below⟩
 refine go ?_;refine Z4 hm (fun hg_6 hm=>go ?_) fun hg_6 hm=>go ?_
 ·refine lV (.bool (decide (p0_c≤57))) (Zv (congrArg Value.bool hg_6) O)<|go ?_;exact ⟨O,_,_,hm,hst,O⟩
 refine lV (.bool false) (Zq (congrArg Value.bool hg_6) O)<|go ?_;exact ⟨O,_,_,hm,hst,O⟩
def Zc1 (v_21:Bool):Option Bool:=
  some v_21
def Ze7 (p0_c:Int):Option Bool:=
  (Sy p0_c).bind fun r_22=>if r_22=true then (Zc1 true) else ((Zbj p0_c).bind fun r_27=>Zc1 r_27)
theorem Zur {col:Zc} {w0:World} {p0_c:Int} {r:Bool} (hm:Ze7 p0_c=some r):
    Calls prog 72 #[.int .u8 p0_c] w0 (fun e w'=>e= .returned ((.bool r))∧Below w0.heap.size w0 w'):=by
 refine Z1 2 (m:=9) func72 O O O O O ?_;rw [Ze7.eq_1] at hm;have hst:=St.start col w0;refine Zm<|Yb<|Qt O<|Zh<|Zm ?_;refine Wp.cutK [1000000] (fun f w_19=>∃ col_20 v_21,Zc1 v_21=some r∧St w0 (Zi col) col_20 w_19∧[2].map f=[.bool v_21]) ?_ ?_
 ·intro f w_19 hJ;obtain ⟨col_20,v_21,hm,hst,hs⟩:=hJ;rw [Zc1.eq_1] at hm;refine .lL [2] hs<|Wv ?_;cases hm;exact ⟨O,O,hst.below⟩
 refine go ?_;obtain ⟨r_22,hr_23,hm⟩:=bZ hm;refine Ze (Zg3 (col:=(Zi col)) hr_23) ?_;rintro _ w_24 ⟨rfl,hg_25⟩;refine ⟨_,O,?_⟩;replace hg_25:Zf (Zi col) w0 (Zi col) w_24:=.of_below hg_25;refine Z0 O ?_;replace hst:=hst.grow hg_25;refine Z4 hm (fun hg_26 hm=>go ?_) fun hg_26 hm=>go ?_
 ·refine lV (.bool true) (Zv (congrArg Value.bool hg_26) O)<|go ?_;exact ⟨O,_,_,hm,hst,O⟩
 obtain ⟨r_27,hr_28,hm⟩:=bZ hm;refine Ze (Zkz (col:=(Zi col)) hr_28) ?_;rintro _ w_29 ⟨rfl,hg_30⟩;refine ⟨_,O,?_⟩;replace hg_30:Zf (Zi col) w_24 (Zi col) w_29:=.of_below hg_30;refine lV (.bool r_27) (Zq (congrArg Value.bool hg_26) O)<|go ?_;replace hst:=hst.grow hg_30;exact ⟨O,_,_,hm,hst,O⟩
def Zc9 (n_4:Int) (kk_L1:(Int→Option Int)) (v_21:Bool):Option Int:=
  if v_21=true then (kk_L1 (i64.wrap (n_4+1))) else (some n_4)
def S2 (N:Nat) (p0_s:ByteArray) (p1_at:Int):Nat→Int→Option Int
  | 0,_=>none
  | n_1+1,n_4=>if (decide ((i64.wrap (p1_at+n_4))<(p0_s.size:Int)))=true then ((Y4 p0_s (i64.wrap (p1_at+n_4))).bind fun e_23=>(Ze7 e_23).bind fun r_25=>Zc9 n_4 (S2 N p0_s p1_at n_1) r_25) else (Zc9 n_4 (S2 N p0_s p1_at n_1) false)
termination_by structural x=>x
def Q2 (N:Nat) (p0_s:ByteArray) (p1_at:Int):Option Int:=
  S2 N p0_s p1_at N 0
theorem Zk0 {N:Nat} {col:Zc} {w0:World} {p0_s:ByteArray} {p1_at r:Int} (hm:Q2 N p0_s p1_at=some r):
    Calls prog 71 #[.string p0_s,.int .i64 p1_at,(.func (.func 72) #[] #[])] w0 (fun e w'=>e= .returned ((.int .i64 r))∧Below w0.heap.size w0 w'):=by
 refine Z1 6 (m:=26) func71 O O O O O ?_;rw [Q2.eq_1] at hm;have hst:=St.start col w0;refine go ?_;refine Z3 [0,1,2,1000000] (fun n f w_2=>∃ col_3 n_4 n_1,n_1=n∧S2 N p0_s p1_at n_1 n_4=some r∧St w0 (Zi col) col_3 w_2∧[7].map f=[.int .i64 n_4]) N ⟨_,0,_,O,hm,hst,O⟩ ?_;clear hm;intro n f w_2 hI;obtain ⟨col_3,n_4,n_1,hn,hm,hst,hs⟩:=hI;subst hn;refine .lL [7] hs ?_
 cases n_1 with
 | zero=>rw [S2.eq_1] at hm;cases hm
 | succ n_1=>
  rw [S2.eq_2] at hm;refine Zm<|Zm ?_;refine Wp.cutK [0,1,2,7,1000000] (fun f w_19=>∃ col_20 v_21,Zc9 n_4 (S2 N p0_s p1_at n_1) v_21=some r∧St w0 (Zi col) col_20 w_19∧[22].map f=[.bool v_21]) ?_ ?_
  ·intro f w_19 hJ;obtain ⟨col_20,v_21,hm,hst,hs⟩:=hJ;rw [Zc9.eq_1] at hm;refine .lL [22] hs ?_;refine Zl hm (fun hb hm=>go ?_) fun hb hm=>go ?_
   ·exact ⟨n_1,by omega,O,⟨_,_,_,O,hm,hst,O⟩⟩
   cases hm;exact ⟨O,O,hst.below⟩
  refine go ?_;refine Z4 hm (fun hg_22 hm=>go ?_) fun hg_22 hm=>go ?_
  ·refine lM (.func (.func 72) #[] #[])<|go ?_;obtain ⟨e_23,hj_24,hm⟩:=bZ hm;refine lV (.int .u8 e_23) (Vh (s:=p0_s) underlying9 O O hj_24)<|go ?_;obtain ⟨r_25,hr_26,hm⟩:=bZ hm;refine lc O O (Znz call72 O O) (Zur (col:=col_3) hr_26:) ?_;rintro _ w_27 ⟨rfl,hg_28⟩;refine ⟨_,O,?_⟩;replace hg_28:Zf col_3 w_2 col_3 w_27:=.of_below hg_28;refine lV (.bool r_25) (Zv (congrArg Value.bool hg_22) O)<|Zh ?_;replace hst:=hst.grow hg_28;exact ⟨O,_,_,hm,hst,O⟩
  refine lV (.bool false) (Zq (congrArg Value.bool hg_22) O)<|Zh ?_;exact ⟨O,_,_,hm,hst,O⟩
def Zda (n_4:Int) (kk_L1:(Int→Option Int)) (v_21:Bool):Option Int:=
  if v_21=true then (kk_L1 (i64.wrap (n_4+1))) else (some n_4)
def S3 (N:Nat) (p0_s:ByteArray) (p1_at:Int):Nat→Int→Option Int
  | 0,_=>none
  | n_1+1,n_4=>if (decide ((i64.wrap (p1_at+n_4))<(p0_s.size:Int)))=true then ((Y4 p0_s (i64.wrap (p1_at+n_4))).bind fun e_23=>(Zbj e_23).bind fun r_25=>Zda n_4 (S3 N p0_s p1_at n_1) r_25) else (Zda n_4 (S3 N p0_s p1_at n_1) false)
termination_by structural x=>x
def Zbm (N:Nat) (p0_s:ByteArray) (p1_at:Int):Option Int:=
  S3 N p0_s p1_at N 0
theorem Zk1 {N:Nat} {col:Zc} {w0:World} {p0_s:ByteArray} {p1_at r:Int} (hm:Zbm N p0_s p1_at=some r):
    Calls prog 71 #[.string p0_s,.int .i64 p1_at,(.func (.func 85) #[] #[])] w0 (fun e w'=>e= .returned ((.int .i64 r))∧Below w0.heap.size w0 w'):=by
 refine Z1 6 (m:=26) func71 O O O O O ?_;rw [Zbm.eq_1] at hm;have hst:=St.start col w0;refine go ?_;refine Z3 [0,1,2,1000000] (fun n f w_2=>∃ col_3 n_4 n_1,n_1=n∧S3 N p0_s p1_at n_1 n_4=some r∧St w0 (Zi col) col_3 w_2∧[7].map f=[.int .i64 n_4]) N ⟨_,0,_,O,hm,hst,O⟩ ?_;clear hm;intro n f w_2 hI;obtain ⟨col_3,n_4,n_1,hn,hm,hst,hs⟩:=hI;subst hn;refine .lL [7] hs ?_
 cases n_1 with
 | zero=>rw [S3.eq_1] at hm;cases hm
 | succ n_1=>
  rw [S3.eq_2] at hm;refine Zm<|Zm ?_;refine Wp.cutK [0,1,2,7,1000000] (fun f w_19=>∃ col_20 v_21,Zda n_4 (S3 N p0_s p1_at n_1) v_21=some r∧St w0 (Zi col) col_20 w_19∧[22].map f=[.bool v_21]) ?_ ?_
  ·intro f w_19 hJ;obtain ⟨col_20,v_21,hm,hst,hs⟩:=hJ;rw [Zda.eq_1] at hm;refine .lL [22] hs ?_;refine Zl hm (fun hb hm=>go ?_) fun hb hm=>go ?_
   ·exact ⟨n_1,by omega,O,⟨_,_,_,O,hm,hst,O⟩⟩
   cases hm;exact ⟨O,O,hst.below⟩
  refine go ?_;refine Z4 hm (fun hg_22 hm=>go ?_) fun hg_22 hm=>go ?_
  ·refine lM (.func (.func 85) #[] #[])<|go ?_;obtain ⟨e_23,hj_24,hm⟩:=bZ hm;refine lV (.int .u8 e_23) (Vh (s:=p0_s) underlying9 O O hj_24)<|go ?_;obtain ⟨r_25,hr_26,hm⟩:=bZ hm;refine lc O O (Znz call85 O O) (Zkz (col:=col_3) hr_26:) ?_;rintro _ w_27 ⟨rfl,hg_28⟩;refine ⟨_,O,?_⟩;replace hg_28:Zf col_3 w_2 col_3 w_27:=.of_below hg_28;refine lV (.bool r_25) (Zv (congrArg Value.bool hg_22) O)<|Zh ?_;replace hst:=hst.grow hg_28;exact ⟨O,_,_,hm,hst,O⟩
  refine lV (.bool false) (Zq (congrArg Value.bool hg_22) O)<|Zh ?_;exact ⟨O,_,_,hm,hst,O⟩
def Zc5 (n_7:Int):Option (Int×ByteArray):=
  some (n_7,⟨#[]⟩)
def Zc6 (N:Nat) (p0_s:ByteArray) (n_7:Int) (k_27:Int):Option (Int×ByteArray):=
  (Zbm N p0_s k_27).bind fun r_28=>if (decide (0<r_28))=true then (Zp ((0:Int)≤k_27∧k_27≤(i64.wrap (k_27+r_28))∧(i64.wrap (k_27+r_28))≤(p0_s.size:Int)) (some (i64.wrap (k_27+r_28),p0_s.extract (Int.toNat k_27) (Int.toNat (i64.wrap (k_27+r_28)))))) else (Zc5 n_7)
def Qz (N:Nat) (p0_s:ByteArray) (n_7:Int) (v_48:Bool):Option (Int×ByteArray):=
  if v_48=true then (Zc6 N p0_s n_7 (i64.wrap ((i64.wrap (n_7+1))+1))) else (Zc6 N p0_s n_7 (i64.wrap (n_7+1)))
def S0 (N:Nat) (p0_s:ByteArray) (n_7:Int) (v_24:Bool):Option (Int×ByteArray):=
  if v_24=true then (if (decide ((i64.wrap (n_7+1))<(p0_s.size:Int)))=true then ((Y4 p0_s (i64.wrap (n_7+1))).bind fun e_50=>if (decide (e_50=43))=true then (Qz N p0_s n_7 true) else ((Y4 p0_s (i64.wrap (n_7+1))).bind fun e_53=>Qz N p0_s n_7 (decide (e_53=45)))) else (Qz N p0_s n_7 false)) else (Zc5 n_7)
def Zbk (N:Nat) (p0_s:ByteArray) (n_7:Int):Option (Int×ByteArray):=
  if (decide (n_7<(p0_s.size:Int)))=true then ((Y4 p0_s n_7).bind fun e_56=>if (decide (e_56=101))=true then (S0 N p0_s n_7 true) else ((Y4 p0_s n_7).bind fun e_59=>S0 N p0_s n_7 (decide (e_59=69)))) else (S0 N p0_s n_7 false)
def Zbl (N:Nat) (p0_s:ByteArray) (r_1:Int) (v_69:Bool):Option (Int×ByteArray):=
  if v_69=true then ((Zbm N p0_s (i64.wrap (r_1+1))).bind fun r_70=>if (decide (0<r_70))=true then (Zbk N p0_s (i64.wrap (r_1+(i64.wrap (1+r_70))))) else (Zbk N p0_s r_1)) else (Zbk N p0_s r_1)
def Zfb (N:Nat) (p0_s:ByteArray):Option (Int×ByteArray):=
  (Zbm N p0_s 0).bind fun r_1=>if (decide (r_1<(p0_s.size:Int)))=true then ((Y4 p0_s r_1).bind fun e_75=>Zbl N p0_s r_1 (decide (e_75=46))) else (Zbl N p0_s r_1 false)
theorem Zuu {N:Nat} {col:Zc} {w0:World} {p0_s:ByteArray} {r:(Int×ByteArray)} (hm:Zfb N p0_s=some r):
    Calls prog 86 #[.string p0_s] w0 (fun e w'=>e= .returned (.tuple #[.int .i64 r.1,.string r.2])∧Below w0.heap.size w0 w'):=by
 refine Za1 2 3 (m:=81) (args:=[.string p0_s]) func86 O O O O O ?_;rw [Zfb.eq_1] at hm;have hst:=St.start col w0;refine go ?_;obtain ⟨r_1,hr_2,hm⟩:=bZ hm;refine Ze (Zk1 (col:=(Zi col)) hr_2) ?_;rintro _ w_3 ⟨rfl,hg_4⟩;refine ⟨_,O,?_⟩;replace hg_4:Zf (Zi col) w0 (Zi col) w_3:=.of_below hg_4;refine Ye O<|Zh<|Zm ?_;replace hst:=hst.grow hg_4;refine Wp.cutK [0,1000000] (fun f w_5=>∃ col_6 n_7,Zbk N p0_s n_7=some r∧St w0 (Zi col) col_6 w_5∧[4].map f=[.int .i64 n_7]) ?_ ?_
 ·intro f w_5 hJ;obtain ⟨col_6,n_7,hm,hst,hs⟩:=hJ;rw [Zbk.eq_1] at hm;refine .lL [4] hs<|Zm ?_;refine Wp.cutK [4,1000000] (fun f w_8=>∃ col_9,Zc5 n_7=some r∧St w0 (Zi col) col_9 w_8) ?_ ?_
  ·intro f w_8 hJ;obtain ⟨col_9,hm,hst⟩:=hJ;rw [Zc5.eq_1] at hm;refine go ?_;cases hm;exact ⟨O,O,hst.below⟩
  refine Zm ?_;refine Wp.cutK [0,4,1000000] (fun f w_22=>∃ col_23 v_24,S0 N p0_s n_7 v_24=some r∧St w0 (Zi col) col_23 w_22∧[45].map f=[.bool v_24]) ?_ ?_
  ·intro f w_22 hJ;obtain ⟨col_23,v_24,hm,hst,hs⟩:=hJ;rw [S0.eq_1] at hm;refine .lL [45] hs ?_;refine Zl hm (fun hb hm=>?_) fun hb hm=>?_
   ·refine Zm<|Yb<|Yw O<|lV _ (Tl _ _ O O)<|Ye O<|Zh<|Zm ?_;refine Wp.cutK [0,4,1000000] (fun f w_25=>∃ col_26 k_27,Zc6 N p0_s n_7 k_27=some r∧St w0 (Zi col) col_26 w_25∧[6].map f=[.int .i64 k_27]) ?_ ?_
    ·intro f w_25 hJ;obtain ⟨col_26,k_27,hm,hst,hs⟩:=hJ;rw [Zc6.eq_1] at hm;refine .lL [6] hs<|go ?_;obtain ⟨r_28,hr_29,hm⟩:=bZ hm;refine Ze (Zk1 (col:=col_26) hr_29) ?_;rintro _ w_30 ⟨rfl,hg_31⟩;refine ⟨_,O,?_⟩;replace hg_31:Zf col_26 w_25 col_26 w_30:=.of_below hg_31;refine go ?_;replace hst:=hst.grow hg_31;refine Zl hm (fun hb hm=>?_) fun hb hm=>?_
     ·refine Zm<|Vx (col:=col_26) (by kernel_rfl) (by kernel_rfl)<|go ?_;obtain ⟨hb_32,hm⟩:=Zs hm;refine qv (v:=(.string (p0_s.extract (Int.toNat k_27) (Int.toNat (i64.wrap (k_27+r_28)))))) O (fun _ hC=>Zrr underlying9 O O O hb_32) ?_;refine go ?_;refine Wi ?_;intro w_33 hC;replace hC:=hC.bl col_26;refine Wv ?_;cases hm;replace hst:=hst.grow hC;exact ⟨O,O,hst.below⟩
     refine Zx ?_;exact ⟨O,_,hm,hst⟩
    refine Zm ?_;refine Wp.cutK [0,4,6,1000000] (fun f w_46=>∃ col_47 v_48,Qz N p0_s n_7 v_48=some r∧St w0 (Zi col) col_47 w_46∧[63].map f=[.bool v_48]) ?_ ?_
    ·intro f w_46 hJ;obtain ⟨col_47,v_48,hm,hst,hs⟩:=hJ;rw [Qz.eq_1] at hm;refine .lL [63] hs ?_;refine Zl hm (fun hb hm=>go ?_) fun hb hm=>?_
     ·exact ⟨O,_,_,hm,hst,O⟩
     refine Zx ?_;exact ⟨O,_,_,hm,hst,O⟩
    refine go ?_;refine Z4 hm (fun hg_49 hm=>go ?_) fun hg_49 hm=>go ?_
    ·obtain ⟨e_50,hj_51,hm⟩:=bZ hm;refine lV (.int .u8 e_50) (Vh (s:=p0_s) underlying9 O O hj_51)<|go ?_;refine Z4 hm (fun hg_52 hm=>go ?_) fun hg_52 hm=>go ?_
     ·refine lV (.bool true) (Zv (congrArg Value.bool hg_52) O)<|lV (.bool true) (Zv (congrArg Value.bool hg_49) O)<|Zh ?_;exact ⟨O,_,_,hm,hst,O⟩
     obtain ⟨e_53,hj_54,hm⟩:=bZ hm;refine lV (.int .u8 e_53) (Vh (s:=p0_s) underlying9 O O hj_54)<|go ?_;refine lV (.bool (decide (e_53=45))) (Zq (congrArg Value.bool hg_52) O)<|lV (.bool (decide (e_53=45))) (Zv (congrArg Value.bool hg_49) O)<|Zh ?_;exact ⟨O,_,_,hm,hst,O⟩
    refine Wr 57 O O O O<|Wr 57 O O O O<|Wr 57 O O O O<|Wr 57 O O O O<|go ?_;refine lV (.bool false) (Zq (congrArg Value.bool hg_49) O)<|Zh ?_;exact ⟨O,_,_,hm,hst,O⟩
   refine Zx ?_;exact ⟨O,_,hm,hst⟩
  refine go ?_;refine Z4 hm (fun hg_55 hm=>go ?_) fun hg_55 hm=>go ?_
  ·obtain ⟨e_56,hj_57,hm⟩:=bZ hm;refine lV (.int .u8 e_56) (Vh (s:=p0_s) underlying9 O O hj_57)<|go ?_;refine Z4 hm (fun hg_58 hm=>go ?_) fun hg_58 hm=>go ?_
   ·refine lV (.bool true) (Zv (congrArg Value.bool hg_58) O)<|lV (.bool true) (Zv (congrArg Value.bool hg_55) O)<|Zh ?_;exact ⟨O,_,_,hm,hst,O⟩
   obtain ⟨e_59,hj_60,hm⟩:=bZ hm;refine lV (.int .u8 e_59) (Vh (s:=p0_s) underlying9 O O hj_60)<|go ?_;refine lV (.bool (decide (e_59=69))) (Zq (congrArg Value.bool hg_58) O)<|lV (.bool (decide (e_59=69))) (Zv (congrArg Value.bool hg_55) O)<|Zh ?_;exact ⟨O,_,_,hm,hst,O⟩
  refine Wr 39 O O O O<|Wr 39 O O O O<|Wr 39 O O O O<|Wr 39 O O O O<|go ?_;refine lV (.bool false) (Zq (congrArg Value.bool hg_55) O)<|Zh ?_;exact ⟨O,_,_,hm,hst,O⟩
 refine Zm ?_;refine Wp.cutK [0,4,1000000] (fun f w_67=>∃ col_68 v_69,Zbl N p0_s r_1 v_69=some r∧St w0 (Zi col) col_68 w_67∧[19].map f=[.bool v_69]) ?_ ?_
 ·intro f w_67 hJ;obtain ⟨col_68,v_69,hm,hst,hs⟩:=hJ;rw [Zbl.eq_1] at hm;refine .lL [19] hs ?_;refine Zl hm (fun hb hm=>go ?_) fun hb hm=>?_
  ·obtain ⟨r_70,hr_71,hm⟩:=bZ hm;refine Ze (Zk1 (col:=col_68) hr_71) ?_;rintro _ w_72 ⟨rfl,hg_73⟩;refine ⟨_,O,?_⟩;replace hg_73:Zf col_68 w_67 col_68 w_72:=.of_below hg_73;refine go ?_;replace hst:=hst.grow hg_73;refine Zl hm (fun hb hm=>go ?_) fun hb hm=>?_
   ·exact ⟨O,_,_,hm,hst,O⟩
   refine Zx ?_;exact ⟨O,_,_,hm,hst,O⟩
  refine Zx ?_;exact ⟨O,_,_,hm,hst,O⟩
 refine go ?_;refine Z4 hm (fun hg_74 hm=>go ?_) fun hg_74 hm=>go ?_
 ·obtain ⟨e_75,hj_76,hm⟩:=bZ hm;refine lV (.int .u8 e_75) (Vh (s:=p0_s) underlying9 O O hj_76)<|go ?_;refine lV (.bool (decide (e_75=46))) (Zv (congrArg Value.bool hg_74) O)<|Zh ?_;exact ⟨O,_,_,hm,hst,O⟩
 refine lV (.bool false) (Zq (congrArg Value.bool hg_74) O)<|Zh ?_;exact ⟨O,_,_,hm,hst,O⟩
theorem Zv2 (col:Zc) (w0:World) (p0_s:ByteArray) (p1_cutset:ByteArray) (r:ByteArray) (hm:Zge p0_s p1_cutset=some r):
    Calls prog 109 #[.string p0_s,.string p1_cutset] w0 (fun e w'=>e= .returned ((.string r))∧Below w0.heap.size w0 w'):=
  Z0c col w0 p0_s p1_cutset r hm
def Sb (v_11:Bool):Option Bool:=
  some v_11
def Zc2 (p0_digits:ByteArray):Option Bool:=
  (Zge p0_digits (⟨#[48]⟩)).bind fun r_1=>if (decide (4<(r_1.size:Int)))=true then (Sb true) else (if (decide ((r_1.size:Int)=4))=true then (Sb (Za5 r_1 (⟨#[49,48,48,48]⟩))) else (Sb false))
theorem Zus {col:Zc} {w0:World} {p0_digits:ByteArray} {r:Bool} (hm:Zc2 p0_digits=some r):
    Calls prog 87 #[.string p0_digits] w0 (fun e w'=>e= .returned ((.bool r))∧Below w0.heap.size w0 w'):=by
 refine Z1 2 (m:=17) func87 O O O O O ?_;rw [Zc2.eq_1] at hm;have hst:=St.start col w0;refine go ?_;obtain ⟨r_1,hr_2,hm⟩:=bZ hm;refine Ze (Zv2 (Zi col) _ p0_digits (⟨#[48]⟩) r_1 hr_2) ?_;rintro _ w_3 ⟨rfl,hg_4⟩;refine ⟨_,O,?_⟩;replace hg_4:Zf (Zi col) w0 (Zi col) w_3:=.of_below hg_4;refine Zer O<|Zh<|Zm ?_;replace hst:=hst.grow hg_4;refine Wp.cutK [1000000] (fun f w_9=>∃ col_10 v_11,Sb v_11=some r∧St w0 (Zi col) col_10 w_9∧[2].map f=[.bool v_11]) ?_ ?_
 ·intro f w_9 hJ;obtain ⟨col_10,v_11,hm,hst,hs⟩:=hJ;rw [Sb.eq_1] at hm;refine .lL [2] hs<|Wv ?_;cases hm;exact ⟨O,O,hst.below⟩
 refine go ?_;refine Z4 hm (fun hg_12 hm=>go ?_) fun hg_12 hm=>go ?_
 ·refine Wr 12 O O O O<|Wr 12 O O O O<|go ?_;refine lV (.bool true) (Zv (congrArg Value.bool hg_12) O)<|go ?_;exact ⟨O,_,_,hm,hst,O⟩
 refine Z4 hm (fun hg_13 hm=>go ?_) fun hg_13 hm=>go ?_
 ·refine lV (.bool (Za5 r_1 (⟨#[49,48,48,48]⟩))) (Zza O O)<|go ?_;refine lV (.bool (Za5 r_1 (⟨#[49,48,48,48]⟩))) (Zv (congrArg Value.bool hg_13) O)<|lV (.bool (Za5 r_1 (⟨#[49,48,48,48]⟩))) (Zq (congrArg Value.bool hg_12) O)<|go ?_;exact ⟨O,_,_,hm,hst,O⟩
 refine lV (.bool false) (Zq (congrArg Value.bool hg_13) O)<|lV (.bool false) (Zq (congrArg Value.bool hg_12) O)<|go ?_;exact ⟨O,_,_,hm,hst,O⟩
theorem Zvw (col:Zc) (w0:World) (qc0:Nat) (qc0_1:Nat) (hd:X9 [qc0,qc0_1]=true) (g0:Nat) (p0_b:(Bool×List Int)) (a0_2:Option Addr) (cap0_2:Nat) (h0_2:Zb (Za.int .u8) 5 qc0_1 col w0 a0_2 cap0_2 p0_b.2) (hb0:Zd 82 qc0 col w0 g0 #[.pointer (bif p0_b.1 then some ⟨g0,0,none⟩ else none),.slice a0_2 p0_b.2.length cap0_2]) (r:ByteArray) (hm:Zhr p0_b=some r):
    Calls prog 36 #[.pointer (some ⟨g0,0,none⟩)] w0 (fun e w'=>∃ (col':Zc),e= .returned ((.string r))∧Zo (pS [qc0,qc0_1]) col w0 col' w'):=
  Zt7 col w0 qc0 qc0_1 hd g0 p0_b a0_2 cap0_2 h0_2 hb0 r hm
theorem Zvz (col:Zc) (w0:World) (qc0:Nat) (qc0_1:Nat) (hd:X9 [qc0,qc0_1]=true) (g0:Nat) (p0_b:(Bool×List Int)) (a0_2:Option Addr) (cap0_2:Nat) (h0_2:Zb (Za.int .u8) 5 qc0_1 col w0 a0_2 cap0_2 p0_b.2) (hb0:Zd 82 qc0 col w0 g0 #[.pointer (bif p0_b.1 then some ⟨g0,0,none⟩ else none),.slice a0_2 p0_b.2.length cap0_2]) (r:(Bool×List Int)) (hm:Zhp p0_b=some r):
    Calls prog 68 #[.pointer (some ⟨g0,0,none⟩)] w0 (fun e w'=>∃ (col':Zc) (oa1:Option Addr) (oc2:Nat),e= .returned (.tuple #[])∧Zo (pS [qc0,qc0_1]) col w0 col' w'∧Zb (Za.int .u8) 5 qc0_1 col' w' oa1 oc2 r.2∧Zd 82 qc0 col' w' g0 #[.pointer (bif r.1 then some ⟨g0,0,none⟩ else none),.slice oa1 r.2.length oc2]):=
  Ztx col w0 qc0 qc0_1 hd g0 p0_b a0_2 cap0_2 h0_2 hb0 r hm
theorem Zwv:Wg prog 5 1 1:=⟨Tryz.t5,_,rfl,rfl,rfl,rfl,rfl⟩
def Zdp (p0_b:(Bool×List Int)) (p1_c:Int):Option ((Option (Int×Int×Int×ByteArray))×(Bool×List Int)):=
  (Zhp (p0_b.1,p0_b.2)).bind fun r_1=>Zp ((r_1.2.length+[p1_c].length) * 1≤140737488355328∧r_1.2.length+[p1_c].length≤maxLen) (some ((none:(Option (Int×Int×Int×ByteArray))),(r_1.1,r_1.2++[p1_c])))
theorem Zpg {g0 cap0_2:Nat} {a0_2:Option Addr} {col:Zc} {w0:World} {p0_b:(Bool×List Int)} {p1_c:Int} {r:((Option (Int×Int×Int×ByteArray))×(Bool×List Int))} (qc0 qc0_1:Nat) (hm:Zdp p0_b p1_c=some r) (hd:X9 [qc0,qc0_1]=true) (h0_2:Zb (Za.int .u8) 5 qc0_1 col w0 a0_2 cap0_2 p0_b.2) (hb0:Zd 82 qc0 col w0 g0 #[.pointer (bif p0_b.1 then some ⟨g0,0,none⟩ else none),.slice a0_2 p0_b.2.length cap0_2]):
    Calls prog 110 #[.pointer (some ⟨g0,0,none⟩),.int .u8 p1_c] w0 (fun e w'=>∃ (col':Zc) (rv1:Value) (oa3:Option Addr) (oc4:Nat),e= .returned (rv1)∧Zo (pS [qc0,qc0_1]) col w0 col' w'∧Rd (Za.err 72 29 (Za.pair (Za.int .i64) (Za.pair (Za.int .i64) (Za.pair (Za.int .i64) Za.str)))) col' w' [rv1] r.1∧Zb (Za.int .u8) 5 qc0_1 col' w' oa3 oc4 r.2.2∧Zd 82 qc0 col' w' g0 #[.pointer (bif r.2.1 then some ⟨g0,0,none⟩ else none),.slice oa3 r.2.2.length oc4]):=by
 refine Z1 4 (m:=17) func110 O O O O O ?_;rw [Zdp.eq_1] at hm;have hst:=St.startL (l:=[qc0,qc0_1]) O col w0;replace hb0:=hb0.startL (X5 hd 0 O) (X4 hd 0 O);replace h0_2:=h0_2.startL (X5 hd 1 O) (X4 hd 1 O);refine go ?_;refine lv (v:=.nilIface) O O (Yt O)<|go ?_;obtain ⟨r_1,hr_2,hm⟩:=bZ hm;refine Ze (Zvz (Zu [qc0,qc0_1] col) _ 440 441 O g0 (p0_b.1,p0_b.2) a0_2 cap0_2 h0_2 hb0 r_1 hr_2) ?_;rintro _ w_7 ⟨col_9,oa_3,oc_4,rfl,hg_8,oh_5,ohb_6⟩;refine ⟨_,O,go ?_⟩;refine lV (.pointer (some ⟨g0,0,none⟩)) (Z2 O)<|Z6 ohb_6<|Yw O<|U1 (col:=col_9) [p1_c] 1 ?_;intro a_10 w_11 col_12 hg_13 h_14;obtain ⟨hb_15,hm⟩:=Zs hm;replace oh_5:=oh_5.gr hg_13;refine Zeu (col:=col_12) (w:=w_11) (r:=(Za.int .u8)) (c:=441) (c2:=441) (oh_5.ex) (h_14.srcN (NB.int (k:=.u8))) O underlying80 Zwv O O O hb_15.1 hb_15.2 (by decide) ?_;intro a_16 cap_17 w_18 col_19 hk_20 h_21;refine lV (.pointer (some ⟨g0,0,none⟩)) (Z2 O)<|Z8 ⟨_,_,O⟩ ?_;replace ohb_6:=(ohb_6.gr hg_13).kpp hk_20;refine X3 (off:=1) (v:=(.slice a_16 ((r_1.2++[p1_c]).length) cap_17)) ohb_6 sizeOf80 O O (by intro u hu;simp only [Value.cells,List.mem_cons,List.not_mem_nil,or_false] at hu;subst hu;rfl) O O ?_;intro w_22 hk_23 hs_24 hb_25;replace hb_25:Zd 82 440 col_19 w_22 g0 #[.pointer (bif r_1.1 then some ⟨g0,0,none⟩ else none),.slice a_16 ((r_1.2++[p1_c]).length) cap_17]:=hb_25;replace h_21:=h_21.kp hk_23;have h_26:=h_21.new;refine go ?_;refine lv (v:=.nilIface) O O (Yt O)<|go ?_;cases hm;replace hst:=(((hst.kpp hg_8).grow hg_13).kpp hk_20).kp hk_23 hs_24;exact ⟨O,Xt w0.heap.size [qc0,qc0_1] col col_19 (fun n=>bif Nat.beq n 441 then qc0_1 else bif Nat.beq n 440 then qc0 else 0),.nilIface,a_16,cap_17,O,hst.finL O (fun n=>bif Nat.beq n 441 then qc0_1 else bif Nat.beq n 440 then qc0 else 0),Zgo,hst.finOwnL (g:=(fun n=>bif Nat.beq n 441 then qc0_1 else bif Nat.beq n 440 then qc0 else 0)) O h_26 (by decide) (by decide) O,hst.finBoxL (g:=(fun n=>bif Nat.beq n 441 then qc0_1 else bif Nat.beq n 440 then qc0 else 0)) hb_25 (by decide) (by decide) O⟩
def Zc4 (kk_L1:(Bool→(List Int)→Int→Option (ByteArray×Int×Bool))) (b_17:Bool) (b_18:List Int) (i_22:Int):Option (ByteArray×Int×Bool):=
  kk_L1 b_17 b_18 (i64.wrap (i_22+1))
def Zh4 (p0_s:ByteArray) (b_9:Bool) (b_10:List Int) (i_14:Int) (kk_L1:(Bool→(List Int)→Int→Option (ByteArray×Int×Bool))):Option (ByteArray×Int×Bool):=
  (Y4 p0_s (i64.wrap (i_14+1))).bind fun e_32=>(Zdp (b_9,b_10) e_32).bind fun r_34=>Zc4 kk_L1 r_34.2.1 r_34.2.2 (i64.wrap (i_14+1))
def Sz (p0_s:ByteArray) (b_9:Bool) (b_10:List Int) (i_14:Int) (kk_L1:(Bool→(List Int)→Int→Option (ByteArray×Int×Bool))) (v_59:Bool):Option (ByteArray×Int×Bool):=
  if v_59=true then (some (⟨#[]⟩,0,false)) else (Zh4 p0_s b_9 b_10 i_14 kk_L1)
def Up (N:Nat) (p0_s:ByteArray):Nat→Bool→(List Int)→Int→Option (ByteArray×Int×Bool)
  | 0,_,_,_=>none
  | n_6+1,b_9,b_10,i_14=>if (decide (i_14<(p0_s.size:Int)))=true then ((Y4 p0_s i_14).bind fun e_23=>if (decide (e_23=34))=true then ((Zhr (b_9,b_10)).bind fun r_25=>some (r_25,i64.wrap (i_14+1),true)) else (if (decide (e_23=10))=true then (some (⟨#[]⟩,0,false)) else (if (decide (e_23=92))=true then (if (decide ((i64.wrap (i_14+1))=(p0_s.size:Int)))=true then (Sz p0_s b_9 b_10 i_14 (Up N p0_s n_6) true) else ((Y4 p0_s (i64.wrap (i_14+1))).bind fun e_61=>if (!decide (e_61=34))=true then ((Y4 p0_s (i64.wrap (i_14+1))).bind fun e_64=>Sz p0_s b_9 b_10 i_14 (Up N p0_s n_6) (!decide (e_64=92))) else (Sz p0_s b_9 b_10 i_14 (Up N p0_s n_6) false))) else ((Zdp (b_9,b_10) e_23).bind fun r_66=>Zc4 (Up N p0_s n_6) r_66.2.1 r_66.2.2 i_14)))) else (some (⟨#[]⟩,0,false))
termination_by structural x=>x
def Zfa (N:Nat) (p0_s:ByteArray):Option (ByteArray×Int×Bool):=
  Up N p0_s N false ([]:List Int) 1
theorem Zut {N:Nat} {col:Zc} {w0:World} {p0_s:ByteArray} {r:(ByteArray×Int×Bool)} (hm:Zfa N p0_s=some r):
    Calls prog 88 #[.string p0_s] w0 (fun e w'=>e= .returned (.tuple #[.string r.1,.int .i64 r.2.1,.bool r.2.2])∧Below w0.heap.size w0 w'):=by
 refine Zlf 2 3 4 (m:=51) (args:=[.string p0_s]) func88 O O O O O ?_;rw [Zfa.eq_1] at hm;have hst:=St.start col w0;refine go ?_;refine Xs (col:=(Zi col)) #[.pointer none,.slice none (([]:List Int).length) 0] 1 zeroValue82 ?_;intro g_1 w_2 col_3 hg_4 hb_5;refine go ?_;replace hst:=hst.grow hg_4;refine Z3 [0,5,1000000] (fun n f w_7=>∃ col_8 b_9 a_11 cap_12 b_10 i_14 n_6,n_6=n∧Up N p0_s n_6 b_9 b_10 i_14=some r∧St w0 (Zi col) col_8 w_7∧Zb (Za.int .u8) 5 2 col_8 w_7 a_11 cap_12 b_10∧Zd 82 1 col_8 w_7 g_1 #[.pointer (bif b_9 then some ⟨g_1,0,none⟩ else none),.slice a_11 b_10.length cap_12]∧[6].map f=[.int .i64 i_14]) N ⟨_,_,none,0,_,1,_,O,hm,hst,Zb.nil,hb_5,O⟩ ?_;clear hm;intro n f w_7 hI;obtain ⟨col_8,b_9,a_11,cap_12,b_10,i_14,n_6,hn,hm,hst,h_13,hb_5,hs⟩:=hI;subst hn;refine .lL [6] hs ?_
 cases n_6 with
 | zero=>rw [Up.eq_1] at hm;cases hm
 | succ n_6=>
  rw [Up.eq_2] at hm;refine go ?_;refine Zl hm (fun hb hm=>?_) fun hb hm=>go ?_
  ·refine Zx<|Zm ?_;refine Wp.cutK [0,5,1000000] (fun f w_15=>∃ col_16 b_17 a_19 cap_20 b_18 i_22,Zc4 (Up N p0_s n_6) b_17 b_18 i_22=some r∧St w0 (Zi col) col_16 w_15∧Zb (Za.int .u8) 5 2 col_16 w_15 a_19 cap_20 b_18∧Zd 82 1 col_16 w_15 g_1 #[.pointer (bif b_17 then some ⟨g_1,0,none⟩ else none),.slice a_19 b_18.length cap_20]∧[6].map f=[.int .i64 i_22]) ?_ ?_
   ·intro f w_15 hJ;obtain ⟨col_16,b_17,a_19,cap_20,b_18,i_22,hm,hst,h_21,hb_5,hs⟩:=hJ;rw [Zc4.eq_1] at hm;refine .lL [6] hs<|go ?_;exact ⟨n_6,by omega,O,⟨_,_,_,_,_,_,_,O,hm,hst,h_21,hb_5,O⟩⟩
   refine go ?_;obtain ⟨e_23,hj_24,hm⟩:=bZ hm;refine lV (.int .u8 e_23) (Vh (s:=p0_s) underlying9 O O hj_24)<|go ?_;refine Zl hm (fun hb hm=>go ?_) fun hb hm=>go ?_
   ·obtain ⟨r_25,hr_26,hm⟩:=bZ hm;refine Ze (Zvw col_8 _ 1 2 O g_1 (b_9,b_10) a_11 cap_12 h_13 hb_5 r_25 hr_26) ?_;rintro _ w_27 ⟨col_29,rfl,hg_28⟩;refine ⟨_,O,go ?_⟩;cases hm;replace hst:=hst.kpp hg_28;exact ⟨O,O,hst.below⟩
   refine Zl hm (fun hb hm=>go ?_) fun hb hm=>go ?_
   ·cases hm;exact ⟨O,O,hst.below⟩
   refine Zl hm (fun hb hm=>?_) fun hb hm=>go ?_
   ·refine Zm<|Yb<|Yw O<|lV _ (Tl _ _ O O)<|Ye O<|Zh<|Zm ?_;refine Wp.cutK [0,5,6,1000000] (fun f w_30=>∃ col_31,Zh4 p0_s b_9 b_10 i_14 (Up N p0_s n_6)=some r∧St w0 (Zi col) col_31 w_30∧Zb (Za.int .u8) 5 2 col_31 w_30 a_11 cap_12 b_10∧Zd 82 1 col_31 w_30 g_1 #[.pointer (bif b_9 then some ⟨g_1,0,none⟩ else none),.slice a_11 b_10.length cap_12]) ?_ ?_
    ·intro f w_30 hJ;obtain ⟨col_31,hm,hst,h_13,hb_5⟩:=hJ;rw [Zh4.eq_1] at hm;refine go ?_;obtain ⟨e_32,hj_33,hm⟩:=bZ hm;refine lV (.int .u8 e_32) (Vh (s:=p0_s) underlying9 O O hj_33) ?_;obtain ⟨r_34,hr_35,hm⟩:=bZ hm;refine Ze (Zpg 1 2 hr_35 O h_13 hb_5) ?_;rintro _ w_42 ⟨col_44,rv_36,oa_38,oc_39,rfl,hg_43,rh_37,oh_40,ohb_41⟩;refine ⟨_,O,?_⟩;refine Zh ?_;replace hst:=hst.kpp hg_43;exact ⟨O,_,_,_,_,_,_,hm,hst,oh_40,ohb_41,O⟩
    refine Zm ?_;refine Wp.cutK [0,5,6,1000000] (fun f w_57=>∃ col_58 v_59,Sz p0_s b_9 b_10 i_14 (Up N p0_s n_6) v_59=some r∧St w0 (Zi col) col_58 w_57∧Zb (Za.int .u8) 5 2 col_58 w_57 a_11 cap_12 b_10∧Zd 82 1 col_58 w_57 g_1 #[.pointer (bif b_9 then some ⟨g_1,0,none⟩ else none),.slice a_11 b_10.length cap_12]∧[46].map f=[.bool v_59]) ?_ ?_
    ·intro f w_57 hJ;obtain ⟨col_58,v_59,hm,hst,h_13,hb_5,hs⟩:=hJ;rw [Sz.eq_1] at hm;refine .lL [46] hs ?_;refine Zl hm (fun hb hm=>go ?_) fun hb hm=>?_
     ·cases hm;exact ⟨O,O,hst.below⟩
     refine Zx ?_;exact ⟨O,_,hm,hst,h_13,hb_5⟩
    refine go ?_;refine Z4 hm (fun hg_60 hm=>go ?_) fun hg_60 hm=>go ?_
    ·refine Wr 40 O O O O<|Wr 40 O O O O<|Wr 40 O O O O<|Wr 40 O O O O<|go ?_;refine lV (.bool true) (Zv (congrArg Value.bool hg_60) O)<|Zh ?_;exact ⟨O,_,_,hm,hst,h_13,hb_5,O⟩
    obtain ⟨e_61,hj_62,hm⟩:=bZ hm;refine lV (.int .u8 e_61) (Vh (s:=p0_s) underlying9 O O hj_62)<|go ?_;refine Z4 hm (fun hg_63 hm=>go ?_) fun hg_63 hm=>go ?_
    ·obtain ⟨e_64,hj_65,hm⟩:=bZ hm;refine lV (.int .u8 e_64) (Vh (s:=p0_s) underlying9 O O hj_65)<|go ?_;refine lV (.bool (!decide (e_64=92))) (Zv (congrArg Value.bool hg_63) O)<|lV (.bool (!decide (e_64=92))) (Zq (congrArg Value.bool hg_60) O)<|Zh ?_;exact ⟨O,_,_,hm,hst,h_13,hb_5,O⟩
    refine lV (.bool false) (Zq (congrArg Value.bool hg_63) O)<|lV (.bool false) (Zq (congrArg Value.bool hg_60) O)<|Zh ?_;exact ⟨O,_,_,hm,hst,h_13,hb_5,O⟩
   obtain ⟨r_66,hr_67,hm⟩:=bZ hm;refine Ze (Zpg 1 2 hr_67 O h_13 hb_5) ?_;rintro _ w_74 ⟨col_76,rv_68,oa_70,oc_71,rfl,hg_75,rh_69,oh_72,ohb_73⟩;refine ⟨_,O,?_⟩;refine Zh ?_;replace hst:=hst.kpp hg_75;exact ⟨O,_,_,_,_,_,_,hm,hst,oh_72,ohb_73,O⟩
  cases hm;exact ⟨O,O,hst.below⟩
def Q0 (r_6:(Bool×(ByteArray×Int×Int×Int))) (v_39:Int) (v_40:ByteArray) (v_41:Int) (v_42:Int) (t_43:Int) (t_44:ByteArray) (t_45:Int) (t_46:Int) (n_47:Int):Option ((Int×ByteArray×Int×Int)×(Option (Int×Int×Int×ByteArray))×(ByteArray×Int×Int×Int)):=
  (Q1 (r_6.2.1,r_6.2.2.1,r_6.2.2.2.1,r_6.2.2.2.2) n_47).bind fun r_48=>some ((t_43,t_44,t_45,t_46),(none:(Option (Int×Int×Int×ByteArray))),(r_48.1,r_48.2.1,r_48.2.2.1,r_48.2.2.2))
def Sc (N:Nat) (r_6:(Bool×(ByteArray×Int×Int×Int))) (r_102:(Int×ByteArray)) (v_132:Bool):Option ((Int×ByteArray×Int×Int)×(Option (Int×Int×Int×ByteArray))×(ByteArray×Int×Int×Int)):=
  if v_132=true then ((Q2 N (r_6.2.1.extract (Int.toNat r_6.2.2.1) (Int.toNat (r_6.2.1.size:Int))) r_102.1).bind fun r_133=>Zp ((0:Int)≤0∧0≤(i64.wrap (r_102.1+r_133))∧(i64.wrap (r_102.1+r_133))≤((r_6.2.1.extract (Int.toNat r_6.2.2.1) (Int.toNat (r_6.2.1.size:Int))).size:Int)) ((Tc 22 ((r_6.2.1.extract (Int.toNat r_6.2.2.1) (Int.toNat (r_6.2.1.size:Int))).extract (Int.toNat 0) (Int.toNat (i64.wrap (r_102.1+r_133)))) (2,(r_6.2.1.extract (Int.toNat r_6.2.2.1) (Int.toNat (r_6.2.1.size:Int))).extract (Int.toNat 0) (Int.toNat r_102.1),r_6.2.2.2.1,r_6.2.2.2.2)).bind fun r_138=>some ((r_138.1.1,r_138.1.2.1,r_138.1.2.2.1,r_138.1.2.2.2),r_138.2,(r_6.2.1,r_6.2.2.1,r_6.2.2.2.1,r_6.2.2.2.2)))) else (Q0 r_6 0 (⟨#[]⟩) 0 0 2 ((r_6.2.1.extract (Int.toNat r_6.2.2.1) (Int.toNat (r_6.2.1.size:Int))).extract (Int.toNat 0) (Int.toNat r_102.1)) r_6.2.2.2.1 r_6.2.2.2.2 r_102.1)
def S1 (N:Nat) (p0_r:(ByteArray×Int×Int×Int)):Option ((Int×ByteArray×Int×Int)×(Option (Int×Int×Int×ByteArray))×(ByteArray×Int×Int×Int)):=
  (Zfc N (p0_r.1,p0_r.2.1,p0_r.2.2.1,p0_r.2.2.2)).bind fun r_6=>if (!r_6.1)=true then ((Tc 21 (⟨#[47,42]⟩) (0,⟨#[]⟩,r_6.2.2.2.1,r_6.2.2.2.2)).bind fun r_24=>some ((r_24.1.1,r_24.1.2.1,r_24.1.2.2.1,r_24.1.2.2.2),r_24.2,(r_6.2.1,r_6.2.2.1,r_6.2.2.2.1,r_6.2.2.2.2))) else (Zp ((0:Int)≤r_6.2.2.1∧r_6.2.2.1≤(r_6.2.1.size:Int)∧(r_6.2.1.size:Int)≤(r_6.2.1.size:Int)) (if (decide ((r_6.2.1.extract (Int.toNat r_6.2.2.1) (Int.toNat (r_6.2.1.size:Int)))=(⟨#[]⟩)))=true then (some ((0,⟨#[]⟩,r_6.2.2.2.1,r_6.2.2.2.2),(none:(Option (Int×Int×Int×ByteArray))),(r_6.2.1,r_6.2.2.1,r_6.2.2.2.1,r_6.2.2.2.2))) else ((Y4 (r_6.2.1.extract (Int.toNat r_6.2.2.1) (Int.toNat (r_6.2.1.size:Int))) 0).bind fun e_62=>(Sy e_62).bind fun r_64=>if r_64=true then ((Q2 N (r_6.2.1.extract (Int.toNat r_6.2.2.1) (Int.toNat (r_6.2.1.size:Int))) 0).bind fun r_68=>Zp ((0:Int)≤0∧0≤r_68∧r_68≤((r_6.2.1.extract (Int.toNat r_6.2.2.1) (Int.toNat (r_6.2.1.size:Int))).size:Int)) (if (decide (64<r_68))=true then (Zp ((0:Int)≤0∧0≤r_68∧r_68≤((r_6.2.1.extract (Int.toNat r_6.2.2.1) (Int.toNat (r_6.2.1.size:Int))).size:Int)) ((Tc 20 ((r_6.2.1.extract (Int.toNat r_6.2.2.1) (Int.toNat (r_6.2.1.size:Int))).extract (Int.toNat 0) (Int.toNat r_68)) (1,(r_6.2.1.extract (Int.toNat r_6.2.2.1) (Int.toNat (r_6.2.1.size:Int))).extract (Int.toNat 0) (Int.toNat r_68),r_6.2.2.2.1,r_6.2.2.2.2)).bind fun r_85=>some ((r_85.1.1,r_85.1.2.1,r_85.1.2.2.1,r_85.1.2.2.2),r_85.2,(r_6.2.1,r_6.2.2.1,r_6.2.2.2.1,r_6.2.2.2.2)))) else (Q0 r_6 0 (⟨#[]⟩) 0 0 1 ((r_6.2.1.extract (Int.toNat r_6.2.2.1) (Int.toNat (r_6.2.1.size:Int))).extract (Int.toNat 0) (Int.toNat r_68)) r_6.2.2.2.1 r_6.2.2.2.2 r_68))) else ((Y4 (r_6.2.1.extract (Int.toNat r_6.2.2.1) (Int.toNat (r_6.2.1.size:Int))) 0).bind fun e_96=>(Zbj e_96).bind fun r_98=>if r_98=true then ((Zfb N (r_6.2.1.extract (Int.toNat r_6.2.2.1) (Int.toNat (r_6.2.1.size:Int)))).bind fun r_102=>Zp ((0:Int)≤0∧0≤r_102.1∧r_102.1≤((r_6.2.1.extract (Int.toNat r_6.2.2.1) (Int.toNat (r_6.2.1.size:Int))).size:Int)) ((Zc2 r_102.2).bind fun r_149=>if r_149=true then (Sc N r_6 r_102 true) else (if (decide (r_102.1<((r_6.2.1.extract (Int.toNat r_6.2.2.1) (Int.toNat (r_6.2.1.size:Int))).size:Int)))=true then ((Y4 (r_6.2.1.extract (Int.toNat r_6.2.2.1) (Int.toNat (r_6.2.1.size:Int))) r_102.1).bind fun e_155=>(Sy e_155).bind fun r_157=>Sc N r_6 r_102 r_157) else (Sc N r_6 r_102 false)))) else ((Y4 (r_6.2.1.extract (Int.toNat r_6.2.2.1) (Int.toNat (r_6.2.1.size:Int))) 0).bind fun e_161=>if (decide (e_161=34))=true then ((Zfa N (r_6.2.1.extract (Int.toNat r_6.2.2.1) (Int.toNat (r_6.2.1.size:Int)))).bind fun r_167=>if (!r_167.2.2)=true then (Zp ((0:Int)≤0∧0≤(1:Int)∧1≤((r_6.2.1.extract (Int.toNat r_6.2.2.1) (Int.toNat (r_6.2.1.size:Int))).size:Int)) ((Tc 21 ((r_6.2.1.extract (Int.toNat r_6.2.2.1) (Int.toNat (r_6.2.1.size:Int))).extract (Int.toNat 0) (Int.toNat 1)) (3,r_167.1,r_6.2.2.2.1,r_6.2.2.2.2)).bind fun r_176=>some ((r_176.1.1,r_176.1.2.1,r_176.1.2.2.1,r_176.1.2.2.2),r_176.2,(r_6.2.1,r_6.2.2.1,r_6.2.2.2.1,r_6.2.2.2.2)))) else (Q0 r_6 0 (⟨#[]⟩) 0 0 3 r_167.1 r_6.2.2.2.1 r_6.2.2.2.2 r_167.2.1)) else ((Y4 (r_6.2.1.extract (Int.toNat r_6.2.2.1) (Int.toNat (r_6.2.1.size:Int))) 0).bind fun e_187=>(T8 (⟨#[123,125,40,41,91,93,44,59,124,61,43,45,42,47]⟩) e_187).bind fun r_189=>if (decide (0≤r_189))=true then (Zp ((0:Int)≤0∧0≤(1:Int)∧1≤((r_6.2.1.extract (Int.toNat r_6.2.2.1) (Int.toNat (r_6.2.1.size:Int))).size:Int)) (Q0 r_6 0 (⟨#[]⟩) 0 0 4 ((r_6.2.1.extract (Int.toNat r_6.2.2.1) (Int.toNat (r_6.2.1.size:Int))).extract (Int.toNat 0) (Int.toNat 1)) r_6.2.2.2.1 r_6.2.2.2.2 1)) else (Zp ((0:Int)≤0∧0≤(1:Int)∧1≤((r_6.2.1.extract (Int.toNat r_6.2.2.1) (Int.toNat (r_6.2.1.size:Int))).size:Int)) ((Tc 20 ((r_6.2.1.extract (Int.toNat r_6.2.2.1) (Int.toNat (r_6.2.1.size:Int))).extract (Int.toNat 0) (Int.toNat 1)) (0,⟨#[]⟩,r_6.2.2.2.1,r_6.2.2.2.2)).bind fun r_206=>some ((r_206.1.1,r_206.1.2.1,r_206.1.2.2.1,r_206.1.2.2.2),r_206.2,(r_6.2.1,r_6.2.2.1,r_6.2.2.2.1,r_6.2.2.2.2))))))))))
theorem Zuw {N g0:Nat} {col:Zc} {w0:World} {p0_r:(ByteArray×Int×Int×Int)} {r:((Int×ByteArray×Int×Int)×(Option (Int×Int×Int×ByteArray))×(ByteArray×Int×Int×Int))} (qc0:Nat) (hm:S1 N p0_r=some r) (hd:X9 [qc0]=true) (hb0:Zd 137 qc0 col w0 g0 #[.string p0_r.1,.int .i64 p0_r.2.1,.int .i64 p0_r.2.2.1,.int .i64 p0_r.2.2.2]) (hgl:Gl (.iface 141 (.agg #[.pointer (some ⟨4,24,none⟩)])) col w0):
    Calls prog 64 #[.pointer (some ⟨g0,0,none⟩)] w0 (fun e w'=>∃ (col':Zc) (rv1:Value),e= .returned (.tuple #[(.agg #[.int .i8 r.1.1,.string r.1.2.1,.int .i64 r.1.2.2.1,.int .i64 r.1.2.2.2]),rv1])∧Zo (pS [qc0]) col w0 col' w'∧Rd (Za.err 72 29 (Za.pair (Za.int .i64) (Za.pair (Za.int .i64) (Za.pair (Za.int .i64) Za.str)))) col' w' [rv1] r.2.1∧Zd 137 qc0 col' w' g0 #[.string r.2.2.1,.int .i64 r.2.2.2.1,.int .i64 r.2.2.2.2.1,.int .i64 r.2.2.2.2.2]):=by
 refine Wk (m:=140) func64 O O O ?_;rw [S1.eq_1] at hm;have hst:=St.startL (l:=[qc0]) O col w0;replace hb0:=hb0.startL (X5 hd 0 O) (X4 hd 0 O);refine go ?_;refine Xs (col:=(Zu [qc0] col)) #[.int .i8 0,.string (⟨#[]⟩),.int .i64 0,.int .i64 0] 1 zeroValue63 ?_;intro g_1 w_2 col_3 hg_4 hb_5;refine lv (v:=.nilIface) O O (Yt O)<|go ?_;obtain ⟨r_6,hr_7,hm⟩:=bZ hm;replace hgl:=(hgl.keep (Zk.startL [qc0] col w0)).gr hg_4;replace hb0:=hb0.gr hg_4;refine Ze (Zuv 440 hr_7 O hb0 hgl) ?_;rintro _ w_9 ⟨col_11,rfl,hg_10,ohb_8⟩;refine ⟨_,O,go ?_⟩;refine Vm (col:=col_11) [(0,1),(1,1),(2,1),(3,0),(4,1),(5,1),(6,1),(7,0),(8,1),(9,3),(10,2)] (by kernel_rfl) (by kernel_rfl)<|xu O O (fun _=>Ud O) ?_;refine xu (v:=(.pointer (some ⟨g0,0,none⟩))) O O (fun _=>Z2 O) ?_;refine xF ⟨_,_,O⟩ ?_;refine xW (fun _ hC=>((ohb_8.atN).nth (q:=2) O).gr (hC.bl col_11)) ?_;refine xu O O (fun _=>Ud O) ?_;refine xu (v:=(.pointer (some ⟨g0,0,none⟩))) O O (fun _=>Z2 O) ?_;refine xF ⟨_,_,O⟩ ?_;refine xW (fun _ hC=>((ohb_8.atN).nth (q:=3) O).gr (hC.bl col_11)) ?_;refine xu (v:=(.agg #[.int .i8 0,.string (⟨#[]⟩),.int .i64 r_6.2.2.2.1,.int .i64 r_6.2.2.2.2])) O O (fun _=>Yy (l:=[_,_,_,_]) (qs:=[(0,1),(1,1),(2,1),(3,1)]) underlying63 zeroValue63 ⟨O,sizeOf46,O,sizeOf9,O,sizeOf3,O,sizeOf3,trivial⟩ O) ?_;refine xe O O ?_;intro w_12 hC0;have hC:=hC0.bl col_11;refine Xs (col:=col_11) #[.int .i8 0,.string (⟨#[]⟩),.int .i64 0,.int .i64 0] 2 zeroValue63 ?_;intro g_13 w_14 col_15 hg_16 hb_17;refine Zh<|Wm col_15 hC0 hg_16<|xe O O ?_;intro w_18 hC0;replace hst:=(((hst.grow hg_4).kpp hg_10).grow hC).grow hg_16;replace hgl:=((hgl.kpp hg_10).gr hC).gr hg_16;replace hb_5:=((hb_5.kpp hg_10).gr hC).gr hg_16;replace ohb_8:=(ohb_8.gr hC).gr hg_16;have hC:=hC0.bl col_15;replace hb_17:=hb_17.gr hC;refine Xa hb_17 ?_;intro w_19 hk_20 hs_21 hb_22;refine Zh<|xk col_15<|Wz ?_;replace hgl:=(hgl.gr hC).kp hk_20;replace ohb_8:=(ohb_8.gr hC).kp hk_20;replace hb_5:=(hb_5.gr hC).kp hk_20;replace hst:=(hst.grow hC).kp hk_20 hs_21;intro w_23 hC;replace hC:=hC.bl col_15;refine go ?_;refine lV (.func (.func 84) #[] #[.pointer (some ⟨g_13,0,none⟩)]) (Zrg O)<|lA (.func (.func 84) #[] #[.pointer (some ⟨g_13,0,none⟩)])<|go ?_;replace hgl:=hgl.gr hC;replace ohb_8:=ohb_8.gr hC;replace hb_5:=hb_5.gr hC;replace hb_22:=hb_22.gr hC;replace hst:=hst.grow hC;refine Zl hm (fun hb hm=>go ?_) fun hb hm=>go ?_
 ·refine lM (.func (.func 84) #[] #[.pointer (some ⟨g_13,0,none⟩)]) ?_;obtain ⟨r_24,hr_25,hm⟩:=bZ hm;refine lc O O (Zgl call84 O O O) (Zeg col_15 _ 2 (by decide) 21 (⟨#[47,42]⟩) g_13 (0,⟨#[]⟩,r_6.2.2.2.1,r_6.2.2.2.2) hb_22 r_24 hr_25) ?_;rintro _ w_28 ⟨col_30,rv_26,rfl,hg_29,rh_27⟩;refine ⟨_,O,?_⟩;refine lV (.agg #[.int .i8 r_24.1.1,.string r_24.1.2.1,.int .i64 r_24.1.2.2.1,.int .i64 r_24.1.2.2.2]) (Z9 O O)<|lv (v:=rv_26) O O (Z9 O O) ?_;replace hb_5:=hb_5.gr hg_29;refine Xa hb_5 ?_;intro w_31 hk_32 hs_33 hb_34;refine lv (v:=rv_26) O O (Yt O)<|go ?_;cases hm;replace ohb_8:=(ohb_8.gr hg_29).kp hk_32;replace hst:=(hst.grow hg_29).kp hk_32 hs_33;replace rh_27:=rh_27.kp hk_32;exact ⟨O,_,Zam O O isAgg63 sizeOf63 O O hb_34.atN O O,Xt w0.heap.size [qc0] col col_30 (fun n=>bif Nat.beq n 440 then qc0 else 0),rv_26,O,hst.finL O (fun n=>bif Nat.beq n 440 then qc0 else 0),hst.finRdL (g:=(fun n=>bif Nat.beq n 440 then qc0 else 0)) O rh_27,hst.finBoxL (g:=(fun n=>bif Nat.beq n 440 then qc0 else 0)) ohb_8 (by decide) (by decide) O⟩
 refine Vx (col:=col_15) (by kernel_rfl) (by kernel_rfl)<|go ?_;refine qv (v:=(.pointer (some ⟨g0,0,none⟩))) O (fun _ hC=>Z2 O) ?_;refine qF ⟨_,_,O⟩ ?_;refine qW (fun _ hC=>((ohb_8.atN).nth (q:=0) O).gr (hC.bl col_15)) ?_;refine go ?_;refine qv (v:=(.pointer (some ⟨g0,0,none⟩))) O (fun _ hC=>Z2 O) ?_;refine qF ⟨_,_,O⟩ ?_;refine qW (fun _ hC=>((ohb_8.atN).nth (q:=1) O).gr (hC.bl col_15)) ?_;obtain ⟨hb_35,hm⟩:=Zs hm;refine qv (v:=(.string (r_6.2.1.extract (Int.toNat r_6.2.2.1) (Int.toNat (r_6.2.1.size:Int))))) O (fun _ hC=>Zn9 underlying9 O O hb_35) ?_;refine go ?_;refine Wi ?_;intro w_36 hC;replace hC:=hC.bl col_15;refine Zm<|Yb<|Ye O<|Zh<|Zm ?_;replace hgl:=hgl.gr hC;replace ohb_8:=ohb_8.gr hC;replace hb_5:=hb_5.gr hC;replace hb_22:=hb_22.gr hC;replace hst:=hst.grow hC;refine Wp.cutK [0,2,5,1000000] (fun f w_37=>∃ col_38 v_39 v_40 v_41 v_42 t_43 t_44 t_45 t_46 n_47,Q0 r_6 v_39 v_40 v_41 v_42 t_43 t_44 t_45 t_46 n_47=some r∧St w0 (Zu [qc0] col) col_38 w_37∧Zd 137 440 col_38 w_37 g0 #[.string r_6.2.1,.int .i64 r_6.2.2.1,.int .i64 r_6.2.2.2.1,.int .i64 r_6.2.2.2.2]∧Zd 63 1 col_38 w_37 g_1 #[.int .i8 v_39,.string v_40,.int .i64 v_41,.int .i64 v_42]∧Zd 63 2 col_38 w_37 g_13 #[.int .i8 t_43,.string t_44,.int .i64 t_45,.int .i64 t_46]∧Gl (.iface 141 (.agg #[.pointer (some ⟨4,24,none⟩)])) col_38 w_37∧[8].map f=[.int .i64 n_47]) ?_ ?_
 ·intro f w_37 hJ;obtain ⟨col_38,v_39,v_40,v_41,v_42,t_43,t_44,t_45,t_46,n_47,hm,hst,ohb_8,hb_5,hb_22,hgl,hs⟩:=hJ;rw [Q0.eq_1] at hm;refine .lL [8] hs<|go ?_;obtain ⟨r_48,hr_49,hm⟩:=bZ hm;refine Ze (Zg4 440 hr_49 O ohb_8) ?_;rintro _ w_51 ⟨col_53,rfl,hg_52,ohb_50⟩;refine ⟨_,O,go ?_⟩;replace hb_22:=hb_22.kpp hg_52;refine lV _ (Yr isAgg63 sizeOf63 hb_22) ?_;replace hb_5:=hb_5.kpp hg_52;refine Xa hb_5 ?_;intro w_54 hk_55 hs_56 hb_57;refine lv (v:=.nilIface) O O (Yt O)<|go ?_;cases hm;replace hst:=(hst.kpp hg_52).kp hk_55 hs_56;replace ohb_50:=ohb_50.kp hk_55;exact ⟨O,_,Zam O O isAgg63 sizeOf63 O O hb_57.atN O O,Xt w0.heap.size [qc0] col col_53 (fun n=>bif Nat.beq n 440 then qc0 else 0),.nilIface,O,hst.finL O (fun n=>bif Nat.beq n 440 then qc0 else 0),Zgo,hst.finBoxL (g:=(fun n=>bif Nat.beq n 440 then qc0 else 0)) ohb_50 (by decide) (by decide) O⟩
 refine go ?_;refine Zl hm (fun hb hm=>go ?_) fun hb hm=>go ?_
 ·refine lV _ (Yr isAgg63 sizeOf63 hb_22)<|Xa hb_5 ?_;intro w_58 hk_59 hs_60 hb_61;refine lv (v:=.nilIface) O O (Yt O)<|go ?_;cases hm;replace ohb_8:=ohb_8.kp hk_59;replace hst:=hst.kp hk_59 hs_60;exact ⟨O,_,Zam O O isAgg63 sizeOf63 O O hb_61.atN O O,Xt w0.heap.size [qc0] col col_15 (fun n=>bif Nat.beq n 440 then qc0 else 0),.nilIface,O,hst.finL O (fun n=>bif Nat.beq n 440 then qc0 else 0),Zgo,hst.finBoxL (g:=(fun n=>bif Nat.beq n 440 then qc0 else 0)) ohb_8 (by decide) (by decide) O⟩
 obtain ⟨e_62,hj_63,hm⟩:=bZ hm;refine lV (.int .u8 e_62) (Vh (s:=(r_6.2.1.extract (Int.toNat r_6.2.2.1) (Int.toNat (r_6.2.1.size:Int)))) underlying9 O O hj_63) ?_;obtain ⟨r_64,hr_65,hm⟩:=bZ hm;refine Ze (Zg3 (col:=col_15) hr_65) ?_;rintro _ w_66 ⟨rfl,hg_67⟩;refine ⟨_,O,?_⟩;replace hg_67:Zf col_15 w_36 col_15 w_66:=.of_below hg_67;refine go ?_;replace hgl:=hgl.gr hg_67;replace ohb_8:=ohb_8.gr hg_67;replace hb_5:=hb_5.gr hg_67;replace hb_22:=hb_22.gr hg_67;replace hst:=hst.grow hg_67;refine Zl hm (fun hb hm=>go ?_) fun hb hm=>go ?_
 ·obtain ⟨r_68,hr_69,hm⟩:=bZ hm;refine Ze (Zk0 (col:=col_15) hr_69) ?_;rintro _ w_70 ⟨rfl,hg_71⟩;refine ⟨_,O,?_⟩;replace hg_71:Zf col_15 w_66 col_15 w_70:=.of_below hg_71;refine go ?_;refine Vm (col:=col_15) [(0,1),(1,1),(2,1),(3,1),(4,2),(5,1),(6,2)] (by kernel_rfl) (by kernel_rfl)<|xu O O (fun _=>Zn4 O) ?_;refine xu O O (fun _=>W6 O) ?_;obtain ⟨hb_72,hm⟩:=Zs hm;refine xu (v:=(.string ((r_6.2.1.extract (Int.toNat r_6.2.2.1) (Int.toNat (r_6.2.1.size:Int))).extract (Int.toNat 0) (Int.toNat r_68)))) O O (fun _=>Zb9 underlying9 O O hb_72) ?_;refine xF ⟨_,_,O⟩ ?_;refine xe O O ?_;intro w_73 hC0;have hC:=hC0.bl col_15;replace hb_22:=(hb_22.gr hg_71).gr hC;refine X3 (off:=0) (v:=(.int .i8 1)) hb_22 sizeOf46 O O (by intro u hu;simp only [Value.cells,List.mem_cons,List.not_mem_nil,or_false] at hu;subst hu;rfl) O O ?_;intro w_74 hk_75 hs_76 hb_77;replace hb_77:Zd 63 2 col_15 w_74 g_13 #[.int .i8 1,.string (⟨#[]⟩),.int .i64 r_6.2.2.2.1,.int .i64 r_6.2.2.2.2]:=hb_77;refine Zh<|xk col_15<|xF ⟨_,_,O⟩ ?_;refine xe O O ?_;intro w_78 hC0;replace hgl:=((hgl.gr hg_71).gr hC).kp hk_75;replace ohb_8:=((ohb_8.gr hg_71).gr hC).kp hk_75;replace hb_5:=((hb_5.gr hg_71).gr hC).kp hk_75;replace hst:=((hst.grow hg_71).grow hC).kp hk_75 hs_76;have hC:=hC0.bl col_15;replace hb_77:=hb_77.gr hC;refine X3 (off:=1) (v:=(.string ((r_6.2.1.extract (Int.toNat r_6.2.2.1) (Int.toNat (r_6.2.1.size:Int))).extract (Int.toNat 0) (Int.toNat r_68)))) hb_77 sizeOf9 O O (by intro u hu;simp only [Value.cells,List.mem_cons,List.not_mem_nil,or_false] at hu;subst hu;rfl) O O ?_;intro w_79 hk_80 hs_81 hb_82;replace hb_82:Zd 63 2 col_15 w_79 g_13 #[.int .i8 1,(.string ((r_6.2.1.extract (Int.toNat r_6.2.2.1) (Int.toNat (r_6.2.1.size:Int))).extract (Int.toNat 0) (Int.toNat r_68))),.int .i64 r_6.2.2.2.1,.int .i64 r_6.2.2.2.2]:=hb_82;refine Zh<|xk col_15<|Wz ?_;replace hgl:=(hgl.gr hC).kp hk_80;replace ohb_8:=(ohb_8.gr hC).kp hk_80;replace hb_5:=(hb_5.gr hC).kp hk_80;replace hst:=(hst.grow hC).kp hk_80 hs_81;intro w_83 hC;replace hC:=hC.bl col_15;refine go ?_;replace hgl:=hgl.gr hC;replace ohb_8:=ohb_8.gr hC;replace hb_5:=hb_5.gr hC;replace hb_82:=hb_82.gr hC;replace hst:=hst.grow hC;refine Zl hm (fun hb hm=>go ?_) fun hb hm=>?_
  ·refine lM (.func (.func 84) #[] #[.pointer (some ⟨g_13,0,none⟩)])<|go ?_;obtain ⟨hb_84,hm⟩:=Zs hm;refine lV (.string ((r_6.2.1.extract (Int.toNat r_6.2.2.1) (Int.toNat (r_6.2.1.size:Int))).extract (Int.toNat 0) (Int.toNat r_68))) (Zb9 underlying9 O O hb_84) ?_;obtain ⟨r_85,hr_86,hm⟩:=bZ hm;refine lc O O (Zgl call84 O O O) (Zeg col_15 _ 2 (by decide) 20 ((r_6.2.1.extract (Int.toNat r_6.2.2.1) (Int.toNat (r_6.2.1.size:Int))).extract (Int.toNat 0) (Int.toNat r_68)) g_13 (1,(r_6.2.1.extract (Int.toNat r_6.2.2.1) (Int.toNat (r_6.2.1.size:Int))).extract (Int.toNat 0) (Int.toNat r_68),r_6.2.2.2.1,r_6.2.2.2.2) hb_82 r_85 hr_86) ?_;rintro _ w_89 ⟨col_91,rv_87,rfl,hg_90,rh_88⟩;refine ⟨_,O,?_⟩;refine lV (.agg #[.int .i8 r_85.1.1,.string r_85.1.2.1,.int .i64 r_85.1.2.2.1,.int .i64 r_85.1.2.2.2]) (Z9 O O)<|lv (v:=rv_87) O O (Z9 O O) ?_;replace hb_5:=hb_5.gr hg_90;refine Xa hb_5 ?_;intro w_92 hk_93 hs_94 hb_95;refine lv (v:=rv_87) O O (Yt O)<|go ?_;cases hm;replace ohb_8:=(ohb_8.gr hg_90).kp hk_93;replace hst:=(hst.grow hg_90).kp hk_93 hs_94;replace rh_88:=rh_88.kp hk_93;exact ⟨O,_,Zam O O isAgg63 sizeOf63 O O hb_95.atN O O,Xt w0.heap.size [qc0] col col_91 (fun n=>bif Nat.beq n 440 then qc0 else 0),rv_87,O,hst.finL O (fun n=>bif Nat.beq n 440 then qc0 else 0),hst.finRdL (g:=(fun n=>bif Nat.beq n 440 then qc0 else 0)) O rh_88,hst.finBoxL (g:=(fun n=>bif Nat.beq n 440 then qc0 else 0)) ohb_8 (by decide) (by decide) O⟩
  refine Zx ?_;exact ⟨kf,_,0,_,0,0,1,_,_,_,_,hm,hst,ohb_8,hb_5,hb_82,hgl,O⟩
 obtain ⟨e_96,hj_97,hm⟩:=bZ hm;refine lV (.int .u8 e_96) (Vh (s:=(r_6.2.1.extract (Int.toNat r_6.2.2.1) (Int.toNat (r_6.2.1.size:Int)))) underlying9 O O hj_97) ?_;obtain ⟨r_98,hr_99,hm⟩:=bZ hm;refine Ze (Zkz (col:=col_15) hr_99) ?_;rintro _ w_100 ⟨rfl,hg_101⟩;refine ⟨_,O,?_⟩;replace hg_101:Zf col_15 w_66 col_15 w_100:=.of_below hg_101;refine go ?_;replace hgl:=hgl.gr hg_101;replace ohb_8:=ohb_8.gr hg_101;replace hb_5:=hb_5.gr hg_101;replace hb_22:=hb_22.gr hg_101;replace hst:=hst.grow hg_101;refine Zl hm (fun hb hm=>go ?_) fun hb hm=>go ?_
 ·obtain ⟨r_102,hr_103,hm⟩:=bZ hm;refine Ze (Zuu (col:=col_15) hr_103) ?_;rintro _ w_104 ⟨rfl,hg_105⟩;refine ⟨_,O,?_⟩;replace hg_105:Zf col_15 w_100 col_15 w_104:=.of_below hg_105;refine lM (.tuple #[.int .i64 r_102.1,.string r_102.2])<|lV (.int .i64 r_102.1) (Z9 O O)<|lV (.string r_102.2) (Z9 O O)<|go ?_;refine Vm (col:=col_15) [(0,1),(1,1),(2,1),(3,1),(4,2),(5,1),(6,2)] (by kernel_rfl) (by kernel_rfl)<|xu O O (fun _=>Zn4 O) ?_;refine xu O O (fun _=>W6 O) ?_;obtain ⟨hb_106,hm⟩:=Zs hm;refine xu (v:=(.string ((r_6.2.1.extract (Int.toNat r_6.2.2.1) (Int.toNat (r_6.2.1.size:Int))).extract (Int.toNat 0) (Int.toNat r_102.1)))) O O (fun _=>Zb9 underlying9 O O hb_106) ?_;refine xF ⟨_,_,O⟩ ?_;refine xe O O ?_;intro w_107 hC0;have hC:=hC0.bl col_15;replace hb_22:=(hb_22.gr hg_105).gr hC;refine X3 (off:=0) (v:=(.int .i8 2)) hb_22 sizeOf46 O O (by intro u hu;simp only [Value.cells,List.mem_cons,List.not_mem_nil,or_false] at hu;subst hu;rfl) O O ?_;intro w_108 hk_109 hs_110 hb_111;replace hb_111:Zd 63 2 col_15 w_108 g_13 #[.int .i8 2,.string (⟨#[]⟩),.int .i64 r_6.2.2.2.1,.int .i64 r_6.2.2.2.2]:=hb_111;refine Zh<|xk col_15<|xF ⟨_,_,O⟩ ?_;refine xe O O ?_;intro w_112 hC0;replace hgl:=((hgl.gr hg_105).gr hC).kp hk_109;replace ohb_8:=((ohb_8.gr hg_105).gr hC).kp hk_109;replace hb_5:=((hb_5.gr hg_105).gr hC).kp hk_109;replace hst:=((hst.grow hg_105).grow hC).kp hk_109 hs_110;have hC:=hC0.bl col_15;replace hb_111:=hb_111.gr hC;refine X3 (off:=1) (v:=(.string ((r_6.2.1.extract (Int.toNat r_6.2.2.1) (Int.toNat (r_6.2.1.size:Int))).extract (Int.toNat 0) (Int.toNat r_102.1)))) hb_111 sizeOf9 O O (by intro u hu;simp only [Value.cells,List.mem_cons,List.not_mem_nil,or_false] at hu;subst hu;rfl) O O ?_;intro w_113 hk_114 hs_115 hb_116;replace hb_116:Zd 63 2 col_15 w_113 g_13 #[.int .i8 2,(.string ((r_6.2.1.extract (Int.toNat r_6.2.2.1) (Int.toNat (r_6.2.1.size:Int))).extract (Int.toNat 0) (Int.toNat r_102.1))),.int .i64 r_6.2.2.2.1,.int .i64 r_6.2.2.2.2]:=hb_116;refine Zh<|xk col_15<|Wz ?_;replace hgl:=(hgl.gr hC).kp hk_114;replace ohb_8:=(ohb_8.gr hC).kp hk_114;replace hb_5:=(hb_5.gr hC).kp hk_114;replace hst:=(hst.grow hC).kp hk_114 hs_115;intro w_117 hC;replace hC:=hC.bl col_15;refine Zm ?_;replace hgl:=hgl.gr hC;replace ohb_8:=ohb_8.gr hC;replace hb_5:=hb_5.gr hC;replace hb_116:=hb_116.gr hC;replace hst:=hst.grow hC
  refine Wp.cutK [0,2,5,6,7,8,1000000] (fun f w_130=>∃ col_131 v_132,Sc N r_6 r_102 v_132=some r∧St w0 (Zu [qc0] col) col_131 w_130∧Zd 137 440 col_131 w_130 g0 #[.string r_6.2.1,.int .i64 r_6.2.2.1,.int .i64 r_6.2.2.2.1,.int .i64 r_6.2.2.2.2]∧Zd 63 1 col_131 w_130 g_1 #[.int .i8 0,.string (⟨#[]⟩),.int .i64 0,.int .i64 0]∧Zd 63 2 col_131 w_130 g_13 #[.int .i8 2,(.string ((r_6.2.1.extract (Int.toNat r_6.2.2.1) (Int.toNat (r_6.2.1.size:Int))).extract (Int.toNat 0) (Int.toNat r_102.1))),.int .i64 r_6.2.2.2.1,.int .i64 r_6.2.2.2.2]∧Gl (.iface 141 (.agg #[.pointer (some ⟨4,24,none⟩)])) col_131 w_130∧[95].map f=[.bool v_132]) ?_ ?_
  ·intro f w_130 hJ;obtain ⟨col_131,v_132,hm,hst,ohb_8,hb_5,hb_116,hgl,hs⟩:=hJ;rw [Sc.eq_1] at hm;refine .lL [95] hs ?_;refine Zl hm (fun hb hm=>go ?_) fun hb hm=>?_
   ·refine lM (.func (.func 84) #[] #[.pointer (some ⟨g_13,0,none⟩)])<|go ?_;obtain ⟨r_133,hr_134,hm⟩:=bZ hm;refine Ze (Zk0 (col:=col_131) hr_134) ?_;rintro _ w_135 ⟨rfl,hg_136⟩;refine ⟨_,O,?_⟩;replace hg_136:Zf col_131 w_130 col_131 w_135:=.of_below hg_136;refine go ?_;obtain ⟨hb_137,hm⟩:=Zs hm;refine lV (.string ((r_6.2.1.extract (Int.toNat r_6.2.2.1) (Int.toNat (r_6.2.1.size:Int))).extract (Int.toNat 0) (Int.toNat (i64.wrap (r_102.1+r_133))))) (Zb9 underlying9 O O hb_137) ?_;obtain ⟨r_138,hr_139,hm⟩:=bZ hm;replace hb_116:=hb_116.gr hg_136;refine lc O O (Zgl call84 O O O) (Zeg col_131 _ 2 (by decide) 22 ((r_6.2.1.extract (Int.toNat r_6.2.2.1) (Int.toNat (r_6.2.1.size:Int))).extract (Int.toNat 0) (Int.toNat (i64.wrap (r_102.1+r_133)))) g_13 (2,(r_6.2.1.extract (Int.toNat r_6.2.2.1) (Int.toNat (r_6.2.1.size:Int))).extract (Int.toNat 0) (Int.toNat r_102.1),r_6.2.2.2.1,r_6.2.2.2.2) hb_116 r_138 hr_139) ?_;rintro _ w_142 ⟨col_144,rv_140,rfl,hg_143,rh_141⟩;refine ⟨_,O,?_⟩;refine lV (.agg #[.int .i8 r_138.1.1,.string r_138.1.2.1,.int .i64 r_138.1.2.2.1,.int .i64 r_138.1.2.2.2]) (Z9 O O)<|lv (v:=rv_140) O O (Z9 O O) ?_;replace hb_5:=(hb_5.gr hg_136).gr hg_143;refine Xa hb_5 ?_;intro w_145 hk_146 hs_147 hb_148;refine lv (v:=rv_140) O O (Yt O)<|go ?_;cases hm;replace ohb_8:=((ohb_8.gr hg_136).gr hg_143).kp hk_146;replace hst:=((hst.grow hg_136).grow hg_143).kp hk_146 hs_147;replace rh_141:=rh_141.kp hk_146;exact ⟨O,_,Zam O O isAgg63 sizeOf63 O O hb_148.atN O O,Xt w0.heap.size [qc0] col col_144 (fun n=>bif Nat.beq n 440 then qc0 else 0),rv_140,O,hst.finL O (fun n=>bif Nat.beq n 440 then qc0 else 0),hst.finRdL (g:=(fun n=>bif Nat.beq n 440 then qc0 else 0)) O rh_141,hst.finBoxL (g:=(fun n=>bif Nat.beq n 440 then qc0 else 0)) ohb_8 (by decide) (by decide) O⟩
   refine Zx ?_;exact ⟨kf,_,0,_,0,0,2,_,_,_,_,hm,hst,ohb_8,hb_5,hb_116,hgl,O⟩
  refine go ?_;obtain ⟨r_149,hr_150,hm⟩:=bZ hm;refine Ze (Zus (col:=col_15) hr_150) ?_;rintro _ w_151 ⟨rfl,hg_152⟩;refine ⟨_,O,?_⟩;replace hg_152:Zf col_15 w_117 col_15 w_151:=.of_below hg_152;refine Z0 O ?_;replace hgl:=hgl.gr hg_152;replace ohb_8:=ohb_8.gr hg_152;replace hb_5:=hb_5.gr hg_152;replace hb_116:=hb_116.gr hg_152;replace hst:=hst.grow hg_152;refine Z4 hm (fun hg_153 hm=>go ?_) fun hg_153 hm=>go ?_
  ·refine Wr 89 O O O O<|Wr 89 O O O O<|Wr 89 O O O O<|Wr 89 O O O O<|go ?_;refine lV (.bool true) (Zv (congrArg Value.bool hg_153) O)<|Zh ?_;exact ⟨kf,_,_,hm,hst,ohb_8,hb_5,hb_116,hgl,O⟩
  refine Z4 hm (fun hg_154 hm=>go ?_) fun hg_154 hm=>go ?_
  ·obtain ⟨e_155,hj_156,hm⟩:=bZ hm;refine lV (.int .u8 e_155) (Vh (s:=(r_6.2.1.extract (Int.toNat r_6.2.2.1) (Int.toNat (r_6.2.1.size:Int)))) underlying9 O O hj_156)<|go ?_;obtain ⟨r_157,hr_158,hm⟩:=bZ hm;refine Ze (Zg3 (col:=col_15) hr_158) ?_;rintro _ w_159 ⟨rfl,hg_160⟩;refine ⟨_,O,?_⟩;replace hg_160:Zf col_15 w_151 col_15 w_159:=.of_below hg_160;refine go ?_;refine lV (.bool r_157) (Zv (congrArg Value.bool hg_154) O)<|lV (.bool r_157) (Zq (congrArg Value.bool hg_153) O)<|Zh ?_;replace hgl:=hgl.gr hg_160;replace ohb_8:=ohb_8.gr hg_160;replace hb_5:=hb_5.gr hg_160;replace hb_116:=hb_116.gr hg_160;replace hst:=hst.grow hg_160;exact ⟨kf,_,_,hm,hst,ohb_8,hb_5,hb_116,hgl,O⟩
  refine lV (.bool false) (Zq (congrArg Value.bool hg_154) O)<|lV (.bool false) (Zq (congrArg Value.bool hg_153) O)<|Zh ?_;exact ⟨kf,_,_,hm,hst,ohb_8,hb_5,hb_116,hgl,O⟩
 obtain ⟨e_161,hj_162,hm⟩:=bZ hm;refine lV (.int .u8 e_161) (Vh (s:=(r_6.2.1.extract (Int.toNat r_6.2.2.1) (Int.toNat (r_6.2.1.size:Int)))) underlying9 O O hj_162)<|go ?_;refine Zl hm (fun hb hm=>go ?_) fun hb hm=>go ?_
 ·refine Z8 ⟨_,_,O⟩ ?_;refine X3 (off:=0) (v:=(.int .i8 3)) hb_22 sizeOf46 O O (by intro u hu;simp only [Value.cells,List.mem_cons,List.not_mem_nil,or_false] at hu;subst hu;rfl) O O ?_;intro w_163 hk_164 hs_165 hb_166;replace hb_166:Zd 63 2 col_15 w_163 g_13 #[.int .i8 3,.string (⟨#[]⟩),.int .i64 r_6.2.2.2.1,.int .i64 r_6.2.2.2.2]:=hb_166;refine go ?_;obtain ⟨r_167,hr_168,hm⟩:=bZ hm;refine Ze (Zut (col:=col_15) hr_168) ?_;rintro _ w_169 ⟨rfl,hg_170⟩;refine ⟨_,O,?_⟩;replace hg_170:Zf col_15 w_163 col_15 w_169:=.of_below hg_170;refine lM (.tuple #[.string r_167.1,.int .i64 r_167.2.1,.bool r_167.2.2])<|lV (.string r_167.1) (Z9 O O)<|lV (.int .i64 r_167.2.1) (Z9 O O)<|lV (.bool r_167.2.2) (Z9 O O)<|Z8 ⟨_,_,O⟩ ?_;replace hb_166:=hb_166.gr hg_170;refine X3 (off:=1) (v:=(.string r_167.1)) hb_166 sizeOf9 O O (by intro u hu;simp only [Value.cells,List.mem_cons,List.not_mem_nil,or_false] at hu;subst hu;rfl) O O ?_;intro w_171 hk_172 hs_173 hb_174;replace hb_174:Zd 63 2 col_15 w_171 g_13 #[.int .i8 3,.string r_167.1,.int .i64 r_6.2.2.2.1,.int .i64 r_6.2.2.2.2]:=hb_174;refine go ?_;replace hgl:=((hgl.kp hk_164).gr hg_170).kp hk_172;replace ohb_8:=((ohb_8.kp hk_164).gr hg_170).kp hk_172;replace hb_5:=((hb_5.kp hk_164).gr hg_170).kp hk_172;replace hst:=((hst.kp hk_164 hs_165).grow hg_170).kp hk_172 hs_173;refine Zl hm (fun hb hm=>go ?_) fun hb hm=>?_
  ·refine lM (.func (.func 84) #[] #[.pointer (some ⟨g_13,0,none⟩)])<|Zes O ?_;obtain ⟨hb_175,hm⟩:=Zs hm;refine lV (.string ((r_6.2.1.extract (Int.toNat r_6.2.2.1) (Int.toNat (r_6.2.1.size:Int))).extract (Int.toNat 0) (Int.toNat 1))) (Zb9 underlying9 O O hb_175) ?_;obtain ⟨r_176,hr_177,hm⟩:=bZ hm;refine lc O O (Zgl call84 O O O) (Zeg col_15 _ 2 (by decide) 21 ((r_6.2.1.extract (Int.toNat r_6.2.2.1) (Int.toNat (r_6.2.1.size:Int))).extract (Int.toNat 0) (Int.toNat 1)) g_13 (3,r_167.1,r_6.2.2.2.1,r_6.2.2.2.2) hb_174 r_176 hr_177) ?_;rintro _ w_180 ⟨col_182,rv_178,rfl,hg_181,rh_179⟩;refine ⟨_,O,?_⟩;refine lV (.agg #[.int .i8 r_176.1.1,.string r_176.1.2.1,.int .i64 r_176.1.2.2.1,.int .i64 r_176.1.2.2.2]) (Z9 O O)<|lv (v:=rv_178) O O (Z9 O O) ?_;replace hb_5:=hb_5.gr hg_181;refine Xa hb_5 ?_;intro w_183 hk_184 hs_185 hb_186;refine lv (v:=rv_178) O O (Yt O)<|go ?_;cases hm;replace ohb_8:=(ohb_8.gr hg_181).kp hk_184;replace hst:=(hst.grow hg_181).kp hk_184 hs_185;replace rh_179:=rh_179.kp hk_184;exact ⟨O,_,Zam O O isAgg63 sizeOf63 O O hb_186.atN O O,Xt w0.heap.size [qc0] col col_182 (fun n=>bif Nat.beq n 440 then qc0 else 0),rv_178,O,hst.finL O (fun n=>bif Nat.beq n 440 then qc0 else 0),hst.finRdL (g:=(fun n=>bif Nat.beq n 440 then qc0 else 0)) O rh_179,hst.finBoxL (g:=(fun n=>bif Nat.beq n 440 then qc0 else 0)) ohb_8 (by decide) (by decide) O⟩
  refine Zx ?_;exact ⟨kf,_,0,_,0,0,3,_,_,_,_,hm,hst,ohb_8,hb_5,hb_174,hgl,O⟩
 obtain ⟨e_187,hj_188,hm⟩:=bZ hm;refine lV (.int .u8 e_187) (Vh (s:=(r_6.2.1.extract (Int.toNat r_6.2.2.1) (Int.toNat (r_6.2.1.size:Int)))) underlying9 O O hj_188) ?_;obtain ⟨r_189,hr_190,hm⟩:=bZ hm;refine Ze (Zld col_15 _ (⟨#[123,125,40,41,91,93,44,59,124,61,43,45,42,47]⟩) e_187 r_189 hr_190) ?_;rintro _ w_191 ⟨rfl,hg_192⟩;refine ⟨_,O,?_⟩;replace hg_192:Zf col_15 w_100 col_15 w_191:=.of_below hg_192;refine go ?_;replace hgl:=hgl.gr hg_192;replace ohb_8:=ohb_8.gr hg_192;replace hb_5:=hb_5.gr hg_192;replace hb_22:=hb_22.gr hg_192;replace hst:=hst.grow hg_192;refine Zl hm (fun hb hm=>?_) fun hb hm=>go ?_
 ·refine Vm (col:=col_15) [(0,1),(1,1),(2,1),(3,2),(4,1),(5,2)] (by kernel_rfl) (by kernel_rfl)<|xu O O (fun _=>Zn4 O) ?_;obtain ⟨hb_193,hm⟩:=Zs hm;refine xu (v:=(.string ((r_6.2.1.extract (Int.toNat r_6.2.2.1) (Int.toNat (r_6.2.1.size:Int))).extract (Int.toNat 0) (Int.toNat 1)))) O O (fun _=>Zb9 underlying9 O O hb_193) ?_;refine xF ⟨_,_,O⟩ ?_;refine xe O O ?_;intro w_194 hC0;have hC:=hC0.bl col_15;replace hb_22:=hb_22.gr hC;refine X3 (off:=0) (v:=(.int .i8 4)) hb_22 sizeOf46 O O (by intro u hu;simp only [Value.cells,List.mem_cons,List.not_mem_nil,or_false] at hu;subst hu;rfl) O O ?_;intro w_195 hk_196 hs_197 hb_198;replace hb_198:Zd 63 2 col_15 w_195 g_13 #[.int .i8 4,.string (⟨#[]⟩),.int .i64 r_6.2.2.2.1,.int .i64 r_6.2.2.2.2]:=hb_198;refine Zh<|xk col_15<|xF ⟨_,_,O⟩ ?_;refine xe O O ?_;intro w_199 hC0;replace hgl:=(hgl.gr hC).kp hk_196;replace ohb_8:=(ohb_8.gr hC).kp hk_196;replace hb_5:=(hb_5.gr hC).kp hk_196;replace hst:=(hst.grow hC).kp hk_196 hs_197;have hC:=hC0.bl col_15;replace hb_198:=hb_198.gr hC;refine X3 (off:=1) (v:=(.string ((r_6.2.1.extract (Int.toNat r_6.2.2.1) (Int.toNat (r_6.2.1.size:Int))).extract (Int.toNat 0) (Int.toNat 1)))) hb_198 sizeOf9 O O (by intro u hu;simp only [Value.cells,List.mem_cons,List.not_mem_nil,or_false] at hu;subst hu;rfl) O O ?_;intro w_200 hk_201 hs_202 hb_203;replace hb_203:Zd 63 2 col_15 w_200 g_13 #[.int .i8 4,(.string ((r_6.2.1.extract (Int.toNat r_6.2.2.1) (Int.toNat (r_6.2.1.size:Int))).extract (Int.toNat 0) (Int.toNat 1))),.int .i64 r_6.2.2.2.1,.int .i64 r_6.2.2.2.2]:=hb_203;refine Zh<|xk col_15<|Wz ?_;replace hgl:=(hgl.gr hC).kp hk_201;replace ohb_8:=(ohb_8.gr hC).kp hk_201;replace hb_5:=(hb_5.gr hC).kp hk_201;replace hst:=(hst.grow hC).kp hk_201 hs_202;intro w_204 hC;replace hC:=hC.bl col_15;replace hgl:=hgl.gr hC;replace ohb_8:=ohb_8.gr hC;replace hb_5:=hb_5.gr hC;replace hb_203:=hb_203.gr hC;replace hst:=hst.grow hC;exact ⟨kf,_,0,_,0,0,4,_,_,_,1,hm,hst,ohb_8,hb_5,hb_203,hgl,O⟩
 refine lM (.func (.func 84) #[] #[.pointer (some ⟨g_13,0,none⟩)])<|Zes O ?_;obtain ⟨hb_205,hm⟩:=Zs hm;refine lV (.string ((r_6.2.1.extract (Int.toNat r_6.2.2.1) (Int.toNat (r_6.2.1.size:Int))).extract (Int.toNat 0) (Int.toNat 1))) (Zb9 underlying9 O O hb_205) ?_;obtain ⟨r_206,hr_207,hm⟩:=bZ hm;refine lc O O (Zgl call84 O O O) (Zeg col_15 _ 2 (by decide) 20 ((r_6.2.1.extract (Int.toNat r_6.2.2.1) (Int.toNat (r_6.2.1.size:Int))).extract (Int.toNat 0) (Int.toNat 1)) g_13 (0,⟨#[]⟩,r_6.2.2.2.1,r_6.2.2.2.2) hb_22 r_206 hr_207) ?_;rintro _ w_210 ⟨col_212,rv_208,rfl,hg_211,rh_209⟩;refine ⟨_,O,?_⟩;refine lV (.agg #[.int .i8 r_206.1.1,.string r_206.1.2.1,.int .i64 r_206.1.2.2.1,.int .i64 r_206.1.2.2.2]) (Z9 O O)<|lv (v:=rv_208) O O (Z9 O O) ?_;replace hb_5:=hb_5.gr hg_211;refine Xa hb_5 ?_;intro w_213 hk_214 hs_215 hb_216;refine lv (v:=rv_208) O O (Yt O)<|go ?_;cases hm;replace ohb_8:=(ohb_8.gr hg_211).kp hk_214;replace hst:=(hst.grow hg_211).kp hk_214 hs_215;replace rh_209:=rh_209.kp hk_214;exact ⟨O,_,Zam O O isAgg63 sizeOf63 O O hb_216.atN O O,Xt w0.heap.size [qc0] col col_212 (fun n=>bif Nat.beq n 440 then qc0 else 0),rv_208,O,hst.finL O (fun n=>bif Nat.beq n 440 then qc0 else 0),hst.finRdL (g:=(fun n=>bif Nat.beq n 440 then qc0 else 0)) O rh_209,hst.finBoxL (g:=(fun n=>bif Nat.beq n 440 then qc0 else 0)) ohb_8 (by decide) (by decide) O⟩
def T9 (N:Nat):Nat→ByteArray→Int→Int→Int→Option (List ((Int×ByteArray×Int×Int)×(Option (Int×Int×Int×ByteArray))))
  | 0,_,_,_,_=>none
  | n_10+1,r_13,r_14,r_15,r_16=>(S1 N (r_13,r_14,r_15,r_16)).bind fun r_17=>(if r_17.2.1.isSome=true then (some []) else (if (decide (r_17.1.1=0))=true then (some []) else ((T9 N n_10) r_17.2.2.1 r_17.2.2.2.1 r_17.2.2.2.2.1 r_17.2.2.2.2.2))).bind fun r_34=>some (((r_17.1.1,r_17.1.2.1,r_17.1.2.2.1,r_17.1.2.2.2),r_17.2.1) :: r_34)
termination_by structural x=>x
def Zh2 (N:Nat) (v0_v:ByteArray):Option (List ((Int×ByteArray×Int×Int)×(Option (Int×Int×Int×ByteArray)))):=
  T9 N N v0_v 0 1 1
theorem Zup (N:Nat) (col:Zc) (w0:World) (g0:Nat) (v0_v:ByteArray) (hb0:Zd 9 0 col w0 g0 #[.string v0_v]) (hgl:Gl (.iface 141 (.agg #[.pointer (some ⟨4,24,none⟩)])) col w0) (r:List ((Int×ByteArray×Int×Int)×(Option (Int×Int×Int×ByteArray)))) (hm:Zh2 N v0_v=some r):
    Zku prog 1 63 [.pointer (some ⟨g0,0,none⟩)] (fun (y:(Int×ByteArray×Int×Int)×(Option (Int×Int×Int×ByteArray))) (col:Zc) (w:World) (args:List Value)=>∃ (v1:Value),args=[(.agg #[.int .i8 y.1.1,.string y.1.2.1,.int .i64 y.1.2.2.1,.int .i64 y.1.2.2.2]),v1]∧Rd (Za.err 72 29 (Za.pair (Za.int .i64) (Za.pair (Za.int .i64) (Za.pair (Za.int .i64) Za.str)))) col w [v1] y.2) r col w0:=by
 intro l J X hjs hxs hy hst;refine Qm (m:=26) (args:=[.func (.yield l) #[] #[],.pointer (some ⟨g0,0,none⟩)]) func63 O O O O ?_;rw [Zh2.eq_1] at hm;refine go ?_;refine lW hb0.at1<|lV (.agg #[.string v0_v,.int .i64 0,.int .i64 1,.int .i64 1]) (Yy (l:=[_,_,_,_]) (qs:=[(0,1),(1,1),(2,1),(3,1)]) underlying137 zeroValue137 ⟨O,sizeOf9,O,sizeOf3,O,sizeOf3,O,sizeOf3,trivial⟩ O)<|Xs (col:=col) #[.string (⟨#[]⟩),.int .i64 0,.int .i64 0,.int .i64 0] 501 zeroValue137 ?_;intro g_1 w_2 col_3 hg_4 hb_5;replace hgl:=hgl.gr hg_4;replace hb0:=hb0.gr hg_4;replace hst:=hjs _ _ _ _ _ hst hg_4.toP;refine Xa hb_5 ?_;intro w_6 hk_7 hs_8 hb_9;replace hgl:=hgl.kp hk_7;replace hb0:=hb0.kp hk_7;replace hst:=hjs _ _ _ _ _ hst (hk_7.toP hs_8 O);refine go ?_;refine Z3 [0,3,1000000] (fun n f w_11=>∃ col_12 r r_13 r_14 r_15 r_16 n_10,n_10=n∧T9 N n_10 r_13 r_14 r_15 r_16=some r∧J r col_12 w_11∧Zd 137 501 col_12 w_11 g_1 #[.string r_13,.int .i64 r_14,.int .i64 r_15,.int .i64 r_16]∧Gl (.iface 141 (.agg #[.pointer (some ⟨4,24,none⟩)])) col_12 w_11∧Zd 9 0 col_12 w_11 g0 #[.string v0_v]) N ⟨_,_,_,0,1,1,_,O,hm,hst,hb_9,hgl,hb0⟩ ?_;clear hm;intro n f w_11 hI;obtain ⟨col_12,r,r_13,r_14,r_15,r_16,n_10,hn,hm,hst,hb_9,hgl,hb0⟩:=hI;subst hn
 cases n_10 with
 | zero=>rw [T9.eq_1] at hm;cases hm
 | succ n_10=>
  rw [T9.eq_2] at hm;refine go ?_;obtain ⟨r_17,hr_18,hm⟩:=bZ hm;refine Ze (Zuw 501 hr_18 O hb_9 hgl) ?_;rintro _ w_22 ⟨col_24,rv_19,rfl,hg_23,rh_20,ohb_21⟩;refine ⟨_,O,?_⟩;replace hgl:=hgl.kpp hg_23;replace hb0:=hb0.kpp hg_23;replace hst:=hjs _ _ _ _ _ hst (hg_23.mono (by first | exact fun _ h=>h | exact Zqz O | exact pCo_p1 O | exact Zq0 O | exact fun _ _=>O));refine lM (.tuple #[(.agg #[.int .i8 r_17.1.1,.string r_17.1.2.1,.int .i64 r_17.1.2.2.1,.int .i64 r_17.1.2.2.2]),rv_19])<|lV (.agg #[.int .i8 r_17.1.1,.string r_17.1.2.1,.int .i64 r_17.1.2.2.1,.int .i64 r_17.1.2.2.2]) (Z9 O O)<|lv (v:=rv_19) O O (Z9 O O)<|Xs (col:=col_24) #[.int .i8 0,.string (⟨#[]⟩),.int .i64 0,.int .i64 0] 502 zeroValue63 ?_;intro g_25 w_26 col_27 hg_28 hb_29;replace hgl:=hgl.gr hg_28;replace rh_20:=rh_20.gr hg_28;replace ohb_21:=ohb_21.gr hg_28;replace hb0:=hb0.gr hg_28;replace hst:=hjs _ _ _ _ _ hst hg_28.toP;refine Xa hb_29 ?_;intro w_30 hk_31 hs_32 hb_33;replace hgl:=hgl.kp hk_31;replace rh_20:=rh_20.kp hk_31;replace ohb_21:=ohb_21.kp hk_31;replace hb0:=hb0.kp hk_31;replace hst:=hjs _ _ _ _ _ hst (hk_31.toP hs_32 O);refine lv (v:=rv_19) O O (Yt O)<|go ?_;refine lM (.func (.yield l) #[] #[])<|lV _ (Yr isAgg63 sizeOf63 hb_33)<|lv (v:=rv_19) O O (Yz O) ?_;obtain ⟨r_34,hc_35m,hc_35⟩:=bZ hm;cases hc_35;have hm:=hc_35m;refine ly2 O O O O (hy _ _ _ _ [(.agg #[.int .i8 r_17.1.1,.string r_17.1.2.1,.int .i64 r_17.1.2.2.1,.int .i64 r_17.1.2.2.2]),rv_19] hst ⟨rv_19,O,rh_20⟩) ?_;rintro _ w_36 ⟨col_37,hk_38,⟨rfl,hJ⟩ | ⟨rfl,hX⟩⟩
  ·refine ⟨_,O,?_⟩;have hst:=hJ;refine go ?_;refine lG 17 O O<|lv (v:=rv_19) O O (Yz O)<|lG 17 O O ?_;replace rh_20:=rh_20.kpp hk_38;refine lV (.bool r_17.2.1.isSome) (Zro rh_20 underlying24 O)<|lV (.bool r_17.2.1.isSome) (Zq O O)<|Z0 O ?_;replace hgl:=hgl.kpp hk_38;replace ohb_21:=ohb_21.kpp hk_38;replace hb0:=hb0.kpp hk_38;replace hb_33:=hb_33.kpp hk_38;refine Z4 hm (fun hg_39 hm=>go ?_) fun hg_39 hm=>go ?_
   ·refine lV (.bool true) (Zv (congrArg Value.bool hg_39) O)<|Zh<|X0 O<|Wv ?_;cases hm;exact ⟨O,⟨_,O⟩,_,.inl hst⟩
   refine Z8 ⟨_,_,O⟩ ?_;refine go ?_;refine lW ((hb_33.atN).nth (q:=0) O)<|go ?_;refine lV (.bool (decide (r_17.1.1=0))) (Zq (congrArg Value.bool hg_39) O)<|Zh ?_;refine Zl hm (fun hb hm=>?_) fun hb hm=>?_
   ·refine Wv ?_;cases hm;exact ⟨O,⟨_,O⟩,_,.inl hst⟩
   refine Zx ?_;exact ⟨n_10,by omega,O,⟨_,_,_,_,_,_,_,O,hm,hst,ohb_21,hgl,hb0⟩⟩
  refine ⟨_,O,?_⟩;have hst:=hX;refine go ?_;refine lP 17 O O<|lP 17 O O<|lV (.bool true) (Zv O O)<|Z0 O<|lP 21 O O<|lP 21 O O<|lP 21 O O<|lV (.bool true) (Zv O O)<|Zh<|X0 O<|Wv ?_;exact ⟨O,⟨_,O⟩,_,.inr hst⟩
def Ze4 (N:Nat) (p0_text:ByteArray):Option (List ((Int×ByteArray×Int×Int)×(Option (Int×Int×Int×ByteArray)))):=
  Zh2 N p0_text
theorem Zuo {N:Nat} {col:Zc} {w0:World} {p0_text:ByteArray} {r:(List ((Int×ByteArray×Int×Int)×(Option (Int×Int×Int×ByteArray))))} (hm:Ze4 N p0_text=some r) (hgl:Gl (.iface 141 (.agg #[.pointer (some ⟨4,24,none⟩)])) col w0):
    Calls prog 43 #[.string p0_text] w0 (fun e w'=>∃ (col':Zc) (rv1:Value),e= .returned (rv1)∧Zf col w0 col' w'∧It prog 1 rv1 (fun (y:(Int×ByteArray×Int×Int)×(Option (Int×Int×Int×ByteArray))) (col:Zc) (w:World) (args:List Value)=>∃ (v1:Value),args=[(.agg #[.int .i8 y.1.1,.string y.1.2.1,.int .i64 y.1.2.2.1,.int .i64 y.1.2.2.2]),v1]∧Rd (Za.err 72 29 (Za.pair (Za.int .i64) (Za.pair (Za.int .i64) (Za.pair (Za.int .i64) Za.str)))) col w [v1] y.2) r qz col' w'):=by
 refine Z1 2 (m:=4) func43 O O O O O ?_;rw [Ze4.eq_1] at hm;have hst:=St.start col w0;refine go ?_;refine Zhj (col:=(Zi col)) (v:=(.string p0_text)) 1 O O ?_;intro g_1 w_2 col_3 hg_4 hb_5;replace hb_5:Zd 9 1 col_3 w_2 g_1 #[.string p0_text]:=hb_5;refine lv (v:=_) O O (Yt O)<|go ?_;refine lV (.func (.func 63) #[] #[.pointer (some ⟨g_1,0,none⟩)]) (Zrg O)<|lA (.func (.func 63) #[] #[.pointer (some ⟨g_1,0,none⟩)])<|go ?_;replace hst:=hst.grow hg_4;have hb_5f:=hst.finBox (G:=(fun n=>bif Nat.beq n 1 then 0 else 0)) hb_5 (by decide) (by decide) (show (fun n=>bif Nat.beq n 1 then 0 else 0) 1=0 from O);replace hgl:=(hgl.keep (Zk.start col w0)).gr hg_4;have hglf:=hst.finGl (g:=(fun n=>bif Nat.beq n 1 then 0 else 0)) O hgl;refine ⟨O,Vo w0.heap.size col col_3 (fun n=>bif Nat.beq n 1 then 0 else 0),_,O,hst.fin (fun n=>bif Nat.beq n 1 then 0 else 0),63,[.pointer (some ⟨g_1,0,none⟩)],O,call63,?_⟩;intro col9 w9 hs9 hk9;replace hb_5f:=hb_5f.itk hs9 hk9 O;replace hglf:=hglf.itk hs9 hk9 O;exact Zup N col9 w9 g_1 p0_text hb_5f hglf r hm
theorem Zap (a b:ByteArray):Zg (a++b)=Zg a++Zg b:=by
 rw [Zg,Zg,Zg,ByteArray.toList_data_append,List.map_append]
theorem Zcd {s:ByteArray} {x:Int} (h:x ∈ Zg s):0≤x∧x<256:=by
 obtain ⟨b,_,rfl⟩:=List.mem_map.1 h
 have:=b.toNat_lt
 omega
theorem Zef (s:ByteArray):W1 (Zg s)=s:=by
 rw [Zky]
 have h:Tn (Zg s)=s.data.toList:=by
  rw [Tn,Zg,List.map_map]
  conv=>rhs;rw [← List.map_id s.data.toList]
  refine List.map_congr_left fun b _=>?_
  simp
 rw [h]
theorem Zg1 (s:ByteArray) (i:Nat):Y4 s (i:Int)=(Zg s)[i]?:=by
 unfold Y4 Zg
 rw [if_pos (by omega),Int.toNat_natCast,List.getElem?_map,Array.getElem?_toList]
 by_cases h:i<s.size
 ·rw [getElem?_pos s i h,getElem?_pos s.data i h];rfl
 ·rw [getElem?_neg s i h,getElem?_neg s.data i h]
theorem Zcg {s:ByteArray} {i:Nat} (h:i<s.size):Y4 s (i:Int)=some ((Zg s)[i]'(by rw [Xp];exact h)):=by
 rw [Zg1,List.getElem?_eq_getElem]
theorem Zzw {s:ByteArray} (h:s.size=0):s=⟨#[]⟩:=by
 apply ByteArray.ext
 exact Array.eq_empty_of_size_eq_zero h
theorem Zjn (b:ByteArray):(⟨#[]⟩:ByteArray)++b=b:=ByteArray.empty_append
theorem Zs9 (b:ByteArray):b++(⟨#[]⟩:ByteArray)=b:=ByteArray.append_empty
def Vu (c:Int):Bool:=decide (65≤c∧c≤90∨97≤c∧c≤122∨c=95)
def Xz (c:Int):Bool:=decide (48≤c∧c≤57)
def Yv (c:Int):Bool:=Vu c||Xz c
theorem Zhn (c:Int):Sy c=some (Vu c):=by
 by_cases h1:65≤c <;> by_cases h2:c≤90 <;> by_cases h3:97≤c <;> by_cases h4:c≤122 <;> by_cases h5:c=95 <;>
  simp [Sy,Zh3,Zc3,Ze8,Ze9,Vu, *]
theorem Zlu (c:Int):Zbj c=some (Xz c):=by
 by_cases h1:48≤c <;> by_cases h2:c≤57 <;> simp [Zbj,Ze6,Xz, *]
theorem Zxl (c:Int):Ze7 c=some (Yv c):=by
 rw [Ze7,Zhn,Option.bind_some]
 cases h:Vu c with
 | true=>rw [if_pos rfl,Zc1,Yv,h];rfl
 | false=>rw [if_neg (by decide),Zlu,Option.bind_some,Zc1,Yv,h];rfl
def Xi (B:Int→Bool) (l:List Int):Nat:=(l.takeWhile B).length
theorem Zcb (B:Int→Bool) (c:Int) (l:List Int):Xi B (c :: l)=if B c=true then Xi B l+1 else 0:=by
 unfold Xi
 rw [List.takeWhile_cons]
 split <;> simp
theorem Zkd (B:Int→Bool) (l:List Int):Xi B l≤l.length:=(List.takeWhile_prefix B).length_le
section
variable {N:Nat} {s:ByteArray} (hs:s.size≤1099511627776)
include hs
theorem Zqc (at_:Nat) (ha:at_≤s.size):∀ (f k:Nat),at_+k≤s.size→s.size<f+at_+k→
  S2 N s (at_:Int) f (k:Int)=some ((k+Xi Yv ((Zg s).drop (at_+k)):Nat):Int)
 | 0,k,h1,h2=>by omega
 | f+1,k,h1,h2=>by
  have hl:=Xp s
  rw [S2.eq_2,Yh (by omega)]
  rw [show (at_:Int)+(k:Int)=((at_+k:Nat):Int) by omega]
  by_cases hk:at_+k<s.size
  ·rw [if_pos (decide_eq_true (by omega)),Zcg hk,Option.bind_some,Zxl,Option.bind_some,Zc9,List.drop_eq_getElem_cons (by omega),Zcb]
   by_cases hw:Yv ((Zg s)[at_+k]'(by omega))=true
   ·rw [if_pos hw,if_pos hw,Yh (by omega)]
    have ih:=Zqc at_ ha f (k+1) (by omega) (by omega)
    rw [show (k:Int)+1=((k+1:Nat):Int) by omega,ih,← Nat.add_assoc]
    congr 2;omega
   ·rw [if_neg hw,if_neg hw,Nat.add_zero]
  ·rw [if_neg (by rw [decide_eq_false (by omega)];decide),Zc9,if_neg (by decide),List.drop_eq_nil_of_le (by omega)]
   rfl
theorem Zlw {at_:Nat} (ha:at_≤s.size) (hN:s.size<N):Q2 N s (at_:Int)=some ((Xi Yv ((Zg s).drop at_):Nat):Int):=by
 have:=Zqc hs (N:=N) at_ ha N 0 (by omega) (by omega)
 rw [Q2]
 rw [Nat.zero_add] at this
 exact this
theorem Zqa (at_:Nat) (ha:at_≤s.size):∀ (f k:Nat),at_+k≤s.size→s.size<f+at_+k→
  S3 N s (at_:Int) f (k:Int)=some ((k+Xi Xz ((Zg s).drop (at_+k)):Nat):Int)
 | 0,k,h1,h2=>by omega
 | f+1,k,h1,h2=>by
  have hl:=Xp s
  rw [S3.eq_2,Yh (by omega)]
  rw [show (at_:Int)+(k:Int)=((at_+k:Nat):Int) by omega]
  by_cases hk:at_+k<s.size
  ·rw [if_pos (decide_eq_true (by omega)),Zcg hk,Option.bind_some,Zlu,Option.bind_some,Zda,List.drop_eq_getElem_cons (by omega),Zcb]
   by_cases hw:Xz ((Zg s)[at_+k]'(by omega))=true
   ·rw [if_pos hw,if_pos hw,Yh (by omega)]
    have ih:=Zqa at_ ha f (k+1) (by omega) (by omega)
    rw [show (k:Int)+1=((k+1:Nat):Int) by omega,ih,← Nat.add_assoc]
    congr 2;omega
   ·rw [if_neg hw,if_neg hw,Nat.add_zero]
  ·rw [if_neg (by rw [decide_eq_false (by omega)];decide),Zda,if_neg (by decide),List.drop_eq_nil_of_le (by omega)]
   rfl
theorem Zlt {at_:Nat} (ha:at_≤s.size) (hN:s.size<N):Zbm N s (at_:Int)=some ((Xi Xz ((Zg s).drop at_):Nat):Int):=by
 have:=Zqa hs (N:=N) at_ ha N 0 (by omega) (by omega)
 rw [Zbm]
 rw [Nat.zero_add] at this
 exact this
end
/-! ### bytes that are looked at -/
theorem nd {p:Prop} [Decidable p] (h:¬ p):¬ decide p=true:=fun e=>h (of_decide_eq_true e)
theorem Zgs (s:ByteArray) (a b:Nat):Zg (s.extract a b)=((Zg s).take b).drop a:=by
 rw [Zg,Zg,ByteArray.data_extract,Array.toList_extract,← List.map_take,← List.map_drop,List.extract_eq_take_drop]
 congr 1
 rw [List.drop_take]
theorem Zzv (s:ByteArray) (b:Nat):Zg (s.extract 0 b)=(Zg s).take b:=by rw [Zgs,List.drop_zero]
theorem Qf (s:ByteArray) (a:Nat):Zg (s.extract a s.size)=(Zg s).drop a:=by
 rw [Zgs,List.take_of_length_le (by rw [Xp];omega)]
theorem Zlk {a b:ByteArray} (h:Zg a=Zg b):a=b:=by rw [← Zef a,h,Zef]
theorem Zzu {xs:List Int} (h:∀ x ∈ xs,0≤x∧x<256):Zg (W1 xs)=xs:=by
 rw [Zky,Zg,Tn]
 show List.map _ (List.map _ xs).toArray.toList=xs
 rw [List.map_map]
 conv=>rhs;rw [← List.map_id xs]
 refine List.map_congr_left fun x hx=>?_
 have:=h x hx
 simp
 omega
section
variable {β:Type} (s:ByteArray) (n:Nat) (c d:Int) (K:Bool→Option β)
theorem bchk:(if (decide ((n:Int)<(s.size:Int)))=true then ((Y4 s (n:Int)).bind fun e=>K (decide (e=c))) else K false)=K (decide ((Zg s)[n]?=some c)):=by
 have hl:=Xp s
 by_cases h:n<s.size
 ·rw [if_pos (decide_eq_true (by omega)),Zg1,List.getElem?_eq_getElem (by omega),Option.bind_some]
  congr 1
  exact decide_eq_decide.2 ⟨fun h=>by rw [h],fun h=>by cases h;rfl⟩
 ·rw [if_neg (by rw [decide_eq_false (by omega)];decide),List.getElem?_eq_none (by omega)];rfl
theorem Zov:(if (decide ((n:Int)<(s.size:Int)))=true then ((Y4 s (n:Int)).bind fun e=>if (decide (e=c))=true then K true else ((Y4 s (n:Int)).bind fun e=>K (decide (e=d)))) else K false)=K (decide ((Zg s)[n]?=some c∨(Zg s)[n]?=some d)):=by
 have hl:=Xp s
 by_cases h:n<s.size
 ·rw [if_pos (decide_eq_true (by omega)),Zg1,List.getElem?_eq_getElem (by omega),Option.bind_some,Option.bind_some]
  by_cases hc:(Zg s)[n]'(by omega)=c
  ·rw [if_pos (decide_eq_true hc),decide_eq_true (.inl (by rw [hc]))]
  ·rw [if_neg (by rw [decide_eq_false hc];decide)]
   congr 1
   exact decide_eq_decide.2 ⟨fun h=>.inr (by rw [h]),fun h=>by rcases h with h | h <;> cases h;exact absurd rfl hc;rfl⟩
 ·rw [if_neg (by rw [decide_eq_false (by omega)];decide),List.getElem?_eq_none (by omega),decide_eq_false (by rintro (h | h) <;> cases h)]
end
/-! ### exponents above the limit -/
def U5 (v:Int) (ds:List Int):Int:=ds.foldl (fun v d=>10 * v+(d - 48)) v
def Zed (ds:List Int):Bool:=decide (1000<U5 0 ds)
theorem Zsq:∀ {ds:List Int} {v:Int},(∀ d ∈ ds,Xz d=true)→0≤v→v≤U5 v ds
 | [],v,_,_=>Int.le_refl _
 | d :: ds,v,h,hv=>by
  have hd:=of_decide_eq_true (h d List.mem_cons_self)
  have:=Zsq (v:=10 * v+(d - 48)) (fun x hx=>h x (List.mem_cons_of_mem _ hx)) (by omega)
  rw [U5,List.foldl_cons]
  rw [U5] at this
  omega
theorem Zsr:∀ (l:List UInt8),U5 0 (l.map fun b=>(b.toNat:Int))=U5 0 ((l.dropWhile (· ==48)).map fun b=>(b.toNat:Int))
 | []=>rfl
 | b :: l=>by
  rw [List.dropWhile_cons]
  by_cases h:(b==48)=true
  ·rw [if_pos h,← Zsr l]
   have:b=48:=by simpa using h
   subst this;rfl
  ·rw [if_neg h]
theorem Zx3 {s:ByteArray} (hd:∀ x ∈ Zg s,Xz x=true):Zc2 s=some (Zed (Zg s)):=by
 rw [Zc2,Zge,if_pos rfl,Option.bind_some,Zed,Zg,Zsr]
 rw [show Lib.trimLeftB s.data.toList 48=s.data.toList.dropWhile (· ==48) from rfl]
 have hh:∀ b ∈ s.data.toList.dropWhile (· ==48),48≤b.toNat∧b.toNat≤57:=fun b hb=>by
  have hb2:b ∈ s.data.toList:=(List.dropWhile_suffix _).subset hb
  have:=of_decide_eq_true (hd (b.toNat:Int) (List.mem_map.2 ⟨b,hb2,rfl⟩))
  omega
 have hz:∀ b,(s.data.toList.dropWhile (· ==48)).head?=some b→b≠48:=fun b hb e=>by
  have:=List.head?_dropWhile_not (fun b:UInt8=>b==48) s.data.toList
  rw [hb] at this
  subst e
  exact absurd this (by decide)
 generalize s.data.toList.dropWhile (· ==48)=t at hh hz
 have nn:∀ (b:UInt8),b≠48→b.toNat≠48:=fun b h e=>h (UInt8.toNat_inj.1 e)
 match t,hh,hz with
 | [],_,_=>rfl
 | [a],hh,hz=>
  have ha:=hh a (by simp)
  rw [if_neg (nd (by show ¬ (4:Int)<((1:Nat):Int);decide)),if_neg (nd (by show ¬ ((1:Nat):Int)=4;decide)),Sb]
  simp [U5];omega
 | [a,b],hh,hz=>
  have ha:=hh a (by simp);have hb:=hh b (by simp)
  rw [if_neg (nd (by show ¬ (4:Int)<((2:Nat):Int);decide)),if_neg (nd (by show ¬ ((2:Nat):Int)=4;decide)),Sb]
  simp [U5];omega
 | [a,b,c],hh,hz=>
  have ha:=hh a (by simp);have hb:=hh b (by simp);have hc:=hh c (by simp)
  rw [if_neg (nd (by show ¬ (4:Int)<((3:Nat):Int);decide)),if_neg (nd (by show ¬ ((3:Nat):Int)=4;decide)),Sb]
  simp [U5];omega
 | [a,b,c,d],hh,hz=>
  have ha:=hh a (by simp);have hb:=hh b (by simp);have hc:=hh c (by simp);have hd:=hh d (by simp)
  have h1:=nn a (hz a rfl)
  rw [if_neg (nd (by show ¬ (4:Int)<((4:Nat):Int);decide)),if_pos (decide_eq_true (by show ((4:Nat):Int)=4;decide)),Sb,Za5,ByteArray.toList_eq,ByteArray.toList_eq]
  have l1:¬ a<49:=by rw [UInt8.lt_iff_toNat_lt];show ¬ a.toNat<49;omega
  have l2:¬ b<48:=by rw [UInt8.lt_iff_toNat_lt];show ¬ b.toNat<48;omega
  have l3:¬ c<48:=by rw [UInt8.lt_iff_toNat_lt];show ¬ c.toNat<48;omega
  have l4:¬ d<48:=by rw [UInt8.lt_iff_toNat_lt];show ¬ d.toNat<48;omega
  simp only [Op.bytesLess,U5,List.map_cons,List.map_nil,List.foldl_cons,List.foldl_nil,l1,l2,l3,l4,decide_false,Bool.false_or,Bool.and_false]
  congr 1
  have e0:([a,b,c,d]==[49,48,48,48])=decide (a.toNat=49∧b.toNat=48∧c.toNat=48∧d.toNat=48):=by
   rw [Bool.eq_iff_iff,beq_iff_eq,decide_eq_true_iff]
   simp only [List.cons.injEq,and_true,← UInt8.toNat_inj]
   rfl
  rw [e0,← decide_not]
  refine decide_eq_decide.2 ⟨fun h=>?_,fun h=>?_⟩ <;> omega
 | a :: b :: c :: d :: e :: r,hh,hz=>
  have ha:=hh a (by simp);have hb:=hh b (by simp);have hc:=hh c (by simp);have hd:=hh d (by simp);have he:=hh e (by simp)
  have h1:=nn a (hz a rfl)
  have hr:∀ x ∈ r.map (fun b:UInt8=>(b.toNat:Int)),Xz x=true:=fun x hx=>by
   obtain ⟨y,hy,rfl⟩:=List.mem_map.1 hx
   have:=hh y (by simp [hy])
   exact decide_eq_true (by omega)
  have:=Zsq (v:=10 * (10 * (10 * (10 * (10 * 0+((a.toNat:Int) - 48))+((b.toNat:Int) - 48))+((c.toNat:Int) - 48))+((d.toNat:Int) - 48))+((e.toNat:Int) - 48)) hr (by omega)
  rw [if_pos (decide_eq_true (by show (4:Int)<(((a :: b :: c :: d :: e :: r).toArray.size:Nat):Int);simp;omega)),Sb]
  congr 1
  symm
  refine decide_eq_true ?_
  show 1000<U5 _ _
  simp only [U5,List.map_cons,List.foldl_cons]
  simp only [U5] at this
  omega
/-! ### numbers -/
def Vp (xs:List Int):Nat:=if xs[Xi Xz xs]?=some 46∧0<Xi Xz (xs.drop (Xi Xz xs+1)) then Xi Xz xs+(1+Xi Xz (xs.drop (Xi Xz xs+1))) else Xi Xz xs
def W2 (xs:List Int) (n:Nat):Nat:=if xs[n+1]?=some 43∨xs[n+1]?=some 45 then n+2 else n+1
def W3 (xs:List Int) (n:Nat):Nat×List Int:=
 if (xs[n]?=some 101∨xs[n]?=some 69)∧0<Xi Xz (xs.drop (W2 xs n)) then (W2 xs n+Xi Xz (xs.drop (W2 xs n)),(xs.drop (W2 xs n)).takeWhile Xz) else (n,[])
theorem Zrx (B:Int→Bool) (l:List Int):l.take (Xi B l)=l.takeWhile B:=((List.prefix_iff_eq_take.1 (List.takeWhile_prefix (l:=l) B))).symm
theorem Qr {xs:List Int} {n:Nat} {c:Int} (h:xs[n]?=some c):n<xs.length:=by
 rcases Nat.lt_or_ge n xs.length with h1 | h1
 ·exact h1
 ·rw [List.getElem?_eq_none h1] at h;cases h
theorem Zgq (B:Int→Bool) (l:List Int) (k:Nat):Xi B (l.drop k)≤l.length - k:=by
 have:=Zkd B (l.drop k);rwa [List.length_drop] at this
theorem Zlq (xs:List Int):Vp xs≤xs.length:=by
 rw [Vp]
 have h0:=Zkd Xz xs
 split
 ·rename_i h
  have:=Qr h.1
  have:=Zgq Xz xs (Xi Xz xs+1)
  omega
 ·exact h0
theorem Zps (xs:List Int) {n:Nat} (h:n≤xs.length):(W3 xs n).1≤xs.length:=by
 rw [W3]
 split
 ·rename_i h
  have:=Zgq Xz xs (W2 xs n)
  show W2 xs n+_≤_
  omega
 ·exact h
theorem Zw3 (xs:List Int) (n:Nat):∀ x ∈ (W3 xs n).2,Xz x=true:=by
 rw [W3]
 split
 ·exact fun x hx=>List.all_eq_true.1 (List.all_takeWhile) x hx
 ·intro x hx;cases hx
section
variable {N:Nat} {s:ByteArray} (hs:s.size≤1099511627776) (hN:s.size<N)
include hs hN
theorem Zx2 (n:Nat) (hn:n≤s.size):∃ D,S0 N s (n:Int) (decide ((Zg s)[n]?=some 101∨(Zg s)[n]?=some 69))=some ((((W3 (Zg s) n).1:Nat):Int),D)∧Zg D=(W3 (Zg s) n).2:=by
 have hl:=Xp s
 by_cases h:(Zg s)[n]?=some 101∨(Zg s)[n]?=some 69
 ·have hlt:n<s.size:=by rcases h with h | h <;> have:=Qr h <;> omega
  rw [decide_eq_true h,S0,if_pos rfl,Yh (by omega),show (n:Int)+1=((n+1:Nat):Int) by omega]
  rw [Zov s (n+1) 43 45 (Qz N s (n:Int))]
  have hk:W2 (Zg s) n≤s.size:=by
   rw [W2]
   split
   ·rename_i h2
    rcases h2 with h2 | h2 <;> have:=Qr h2 <;> omega
   ·omega
  have e:Qz N s (n:Int) (decide ((Zg s)[n+1]?=some 43∨(Zg s)[n+1]?=some 45))=Zc6 N s (n:Int) ((W2 (Zg s) n:Nat):Int):=by
   rw [Qz,W2]
   by_cases h2:(Zg s)[n+1]?=some 43∨(Zg s)[n+1]?=some 45
   ·rw [if_pos (decide_eq_true h2),if_pos h2,Yh (x:=(n:Int)+1) (by omega),Yh (by omega)]
    congr 1
   ·rw [if_neg (nd h2),if_neg h2,Yh (by omega)];rfl
  rw [e,Zc6,Zlt hs hk hN,Option.bind_some,W3]
  have hr:=Zgq Xz (Zg s) (W2 (Zg s) n)
  by_cases h0:0<Xi Xz ((Zg s).drop (W2 (Zg s) n))
  ·rw [if_pos (decide_eq_true (by omega)),if_pos ⟨h,h0⟩,Yh (by omega),Xo (by omega)]
   refine ⟨_,rfl,?_⟩
   rw [← Zrx,show Int.toNat ((W2 (Zg s) n:Nat):Int)=W2 (Zg s) n from rfl,show Int.toNat (((W2 (Zg s) n:Nat):Int)+((Xi Xz ((Zg s).drop (W2 (Zg s) n)):Nat):Int))=W2 (Zg s) n+Xi Xz ((Zg s).drop (W2 (Zg s) n)) by omega,Zgs,List.drop_take]
   congr 1;omega
  ·rw [if_neg (nd (by omega)),if_neg (fun e=>h0 e.2),Zc5]
   exact ⟨_,rfl,rfl⟩
 ·rw [decide_eq_false h,S0,if_neg (by decide),W3,if_neg (fun e=>h e.1),Zc5]
  exact ⟨_,rfl,rfl⟩
theorem Zx6:∃ D,Zfb N s=some ((((W3 (Zg s) (Vp (Zg s))).1:Nat):Int),D)∧Zg D=(W3 (Zg s) (Vp (Zg s))).2:=by
 have hl:=Xp s
 have h0:=Zlt (N:=N) hs (at_:=0) (by omega) hN
 rw [List.drop_zero] at h0
 rw [Zfb,show (0:Int)=((0:Nat):Int) from rfl,h0,Option.bind_some,bchk s (Xi Xz (Zg s)) 46 (Zbl N s _)]
 have e:Zbl N s ((Xi Xz (Zg s):Nat):Int) (decide ((Zg s)[Xi Xz (Zg s)]?=some 46))=Zbk N s ((Vp (Zg s):Nat):Int):=by
  rw [Zbl,Vp]
  by_cases h:(Zg s)[Xi Xz (Zg s)]?=some 46
  ·have hlt:=Qr h
   rw [if_pos (decide_eq_true h),Yh (by omega),show ((Xi Xz (Zg s):Nat):Int)+1=((Xi Xz (Zg s)+1:Nat):Int) by omega,Zlt hs (by omega) hN,Option.bind_some]
   have hr:=Zgq Xz (Zg s) (Xi Xz (Zg s)+1)
   by_cases h1:0<Xi Xz ((Zg s).drop (Xi Xz (Zg s)+1))
   ·rw [if_pos (decide_eq_true (by omega)),if_pos ⟨h,h1⟩,Yh (x:=1+_) (by omega),Yh (by omega)]
    congr 1
   ·rw [if_neg (nd (by omega)),if_neg (fun e=>h1 e.2)]
  ·rw [if_neg (nd h),if_neg (fun e=>h e.1)]
 rw [e,Zbk,Zov s (Vp (Zg s)) 101 69 (S0 N s _)]
 exact Zx2 hs hN _ (by have:=Zlq (Zg s);omega)
end
/-! ### quoted texts -/
def Vg:List Int→Option (Nat×List Int)
 | []=>none
 | c :: r=>if c=34 then some (1,[]) else if c=10 then none else if c=92 then (match r with
   | []=>none
   | d :: r2=>if d=34∨d=92 then (Vg r2).map fun p=>(p.1+2,d :: p.2) else none)
  else (Vg r).map fun p=>(p.1+1,c :: p.2)
theorem Zj4:∀ (xs:List Int) (p:Nat×List Int),(∀ x ∈ xs,0≤x∧x<256)→Vg xs=some p→(∀ x ∈ p.2,0≤x∧x<256)∧p.1≤xs.length∧p.2.length≤xs.length∧1≤p.1
 | [],p,_,h=>by rw [Vg] at h;cases h
 | c :: [],p,hr,h=>by
  rw [Vg] at h
  split at h
  ·cases h;exact ⟨fun x hx=>(List.not_mem_nil hx).elim,by simp,by simp,by simp⟩
  ·split at h
   ·cases h
   ·split at h
    ·cases h
    ·rw [Vg] at h;cases h
 | c :: d :: r,p,hr,h=>by
  rw [Vg] at h
  split at h
  ·cases h;exact ⟨fun x hx=>(List.not_mem_nil hx).elim,by simp,by simp,by simp⟩
  ·split at h
   ·cases h
   ·split at h
    ·split at h
     ·obtain ⟨q,hq,rfl⟩:=Option.map_eq_some_iff.1 h
      obtain ⟨h1,h2,h3,h4⟩:=Zj4 r q (fun x hx=>hr x (List.mem_cons_of_mem _ (List.mem_cons_of_mem _ hx))) hq
      refine ⟨fun x hx=>?_,by simp;omega,by simp;omega,by simp⟩
      rcases List.mem_cons.1 hx with rfl | hx
      ·exact hr _ (List.mem_cons_of_mem _ List.mem_cons_self)
      ·exact h1 x hx
     ·cases h
    ·obtain ⟨q,hq,rfl⟩:=Option.map_eq_some_iff.1 h
     obtain ⟨h1,h2,h3,h4⟩:=Zj4 (d :: r) q (fun x hx=>hr x (List.mem_cons_of_mem _ hx)) hq
     refine ⟨fun x hx=>?_,by simp at h2 ⊢;omega,by simp at h3 ⊢;omega,by simp⟩
     rcases List.mem_cons.1 hx with rfl | hx
     ·exact hr _ List.mem_cons_self
     ·exact h1 x hx
/-! ### quoted texts -/
def Sp (i:Nat) (b:List Int):Option (Nat×List Int)→ByteArray×Int×Bool
 | none=>(⟨#[]⟩,0,false)
 | some p=>(W1 (b++p.2),((i+p.1:Nat):Int),true)
theorem Znw (i:Nat) (b:List Int) (c:Int) (o:Option (Nat×List Int)) (k:Nat):Sp i b (o.map fun p=>(p.1+k,c :: p.2))=Sp (i+k) (b++[c]) o:=by
 cases o with
 | none=>rfl
 | some p=>simp only [Option.map_some,Sp,List.append_assoc,List.singleton_append];rw [Nat.add_right_comm,Nat.add_assoc i p.1 k]
theorem Zy2 (c:Int) (r:List Int):Vg (c :: r)=if c=34 then some (1,[]) else if c=10 then none else if c=92 then (match r with
   | []=>none
   | d :: r2=>if d=34∨d=92 then (Vg r2).map fun p=>(p.1+2,d :: p.2) else none)
  else (Vg r).map fun p=>(p.1+1,c :: p.2):=by
 cases r with
 | nil=>conv=>lhs;rw [Vg]
 | cons d r=>conv=>lhs;rw [Vg]
theorem Zlj {xs:List Int} {i:Nat} (h:i<xs.length):xs.drop i=xs[i] :: xs.drop (i+1):=List.drop_eq_getElem_cons h
section
variable {N:Nat} {s:ByteArray} (hs:s.size≤1099511627776)
include hs
omit hs in
theorem Zsy (b9:Bool) (b10:List Int) (c:Int) (hb:b10.length≤1099511627776):Zdp (b9,b10) c=some (none,(true,b10++[c])):=by
 rw [Zdp,Zhp,Option.bind_some,Xo]
 have:([c]:List Int).length=1:=rfl
 simp only [this,maxLen]
 omega
theorem Zlv:∀ (f i:Nat) (b9:Bool) (b10:List Int),(∀ x ∈ b10,0≤x∧x<256)→s.size+2≤f+i→b10.length≤i→i≤s.size+1→
  Up N s f b9 b10 (i:Int)=some (Sp i b10 (Vg ((Zg s).drop i)))
 | 0,i,b9,b10,hb,h1,h2,h3=>by
  have hl:=Xp s
  omega
 | f+1,i,b9,b10,hb,h1,h2,h3=>by
  have hl:=Xp s
  rw [Up.eq_2]
  by_cases hk:i<s.size
  ·have hm:=Zcd (List.getElem_mem (show i<(Zg s).length by omega))
   rw [if_pos (decide_eq_true (by omega)),Zcg hk,Option.bind_some,Zlj (by omega),Zy2]
   generalize hx:(Zg s)[i]'(by omega)=x at hm
   by_cases c34:x=34
   ·rw [if_pos (decide_eq_true c34),if_pos c34,Zhr,Xo hb,Option.bind_some,Yh (by omega),Sp,List.append_nil];rfl
   ·rw [if_neg (nd c34),if_neg c34]
    by_cases c10:x=10
    ·rw [if_pos (decide_eq_true c10),if_pos c10];rfl
    ·rw [if_neg (nd c10),if_neg c10]
     by_cases c92:x=92
     ·rw [if_pos (decide_eq_true c92),if_pos c92,Yh (by omega),show (i:Int)+1=((i+1:Nat):Int) by omega]
      by_cases he:i+1=s.size
      ·rw [if_pos (decide_eq_true (by omega)),Sz,if_pos rfl,List.drop_eq_nil_of_le (by omega)];rfl
      ·have hm2:=Zcd (List.getElem_mem (show i+1<(Zg s).length by omega))
       rw [if_neg (nd (by omega)),Zcg (by omega),Option.bind_some,Zlj (by omega)]
       generalize hx2:(Zg s)[i+1]'(by omega)=y at hm2
       have good:Sz s b9 b10 (i:Int) (Up N s f) false=some (Sp (i+2) (b10++[y]) (Vg ((Zg s).drop (i+2)))):=by
        rw [Sz,if_neg (by decide),Zh4,Yh (x:=(i:Int)+1) (by omega),show (i:Int)+1=((i+1:Nat):Int) by omega,Zcg (by omega),Option.bind_some,hx2,Zsy _ _ _ (by omega),Option.bind_some,Zc4,Yh (by omega),show ((i+1:Nat):Int)+1=((i+2:Nat):Int) by omega]
        refine Zlv f (i+2) _ _ (fun z hz=>?_) (by omega) (by rw [List.length_append];simp;omega) (by omega)
        rcases List.mem_append.1 hz with hz | hz
        ·exact hb z hz
        ·rw [List.mem_singleton.1 hz];exact hm2
       show _=some (Sp i b10 (if y=34∨y=92 then (Vg ((Zg s).drop (i+1+1))).map fun p=>(p.1+2,y :: p.2) else none))
       by_cases d34:y=34
       ·rw [if_neg (by rw [decide_eq_true d34];decide),if_pos (.inl d34),Znw];exact good
       ·rw [if_pos (by rw [decide_eq_false d34];decide),Option.bind_some]
        by_cases d92:y=92
        ·rw [decide_eq_true d92,if_pos (.inr d92),Znw];exact good
        ·rw [decide_eq_false d92,Sz,if_pos (by decide),if_neg (by rintro (h | h);exact d34 h;exact d92 h)];rfl
     ·rw [if_neg (nd c92),if_neg c92,Zsy _ _ _ (by omega),Option.bind_some,Zc4,Yh (by omega),show (i:Int)+1=((i+1:Nat):Int) by omega,Znw]
      refine Zlv f (i+1) _ _ (fun z hz=>?_) (by omega) (by rw [List.length_append];simp;omega) (by omega)
      rcases List.mem_append.1 hz with hz | hz
      ·exact hb z hz
      ·rw [List.mem_singleton.1 hz];exact hm
  ·rw [if_neg (nd (by omega)),List.drop_eq_nil_of_le (by omega)];rfl
theorem Zx4 (hN:s.size<N):Zfa N s=some (Sp 1 [] (Vg ((Zg s).drop 1))):=by
 rw [Zfa]
 exact Zlv hs N 1 false [] (by simp) (by omega) (by simp) (by omega)
omit hs in
theorem Zw5 {i:Nat} (h:i<s.size):s.extract i (i+1)=W1 [(Zg s)[i]'(by rw [Xp];exact h)]:=by
 have hl:=Xp s
 apply Zlk
 rw [Zgs,Zzu,List.take_add_one,List.getElem?_eq_getElem (by omega),List.drop_append,List.drop_eq_nil_of_le (by rw [List.length_take];omega)]
 ·rw [List.length_take,Nat.min_eq_left (by omega),Nat.sub_self];rfl
 ·intro x hx
  rw [List.mem_singleton.1 hx]
  exact Zcd (List.getElem_mem _)
end
def Tf (c:Int):Bool:=!decide (c=10)
def Zrz:List Int:=[123,125,40,41,91,93,44,59,124,61,43,45,42,47]
def Zcc (c:Int):Bool:=decide (c ∈ Zrz)
def V7 (c:Int):Bool:=decide (c ∈ ([32,9,10,13]:List Int))
def Sx:List Int→Option Nat
 | []=>none
 | c :: r=>if c=42∧r[0]?=some 47 then some 2 else (Sx r).map (· +1)
def Tz (xs:List Int):Option Nat:=
 if xs[0]?=some 47∧xs[1]?=some 47 then some (Xi Tf xs)
 else if xs[0]?=some 47∧xs[1]?=some 42 then (Sx (xs.drop 2)).map (· +2)
 else if V7 (xs.headD 0)=true then some 1 else some 0
theorem Zlh:∀ (xs:List Int) (k:Nat),Sx xs=some k→k≤xs.length∧2≤k
 | [],k,h=>by rw [Sx] at h;cases h
 | c :: r,k,h=>by
  rw [Sx] at h
  split at h
  ·rename_i hc
   cases h
   have:=Qr hc.2
   simp;omega
  ·obtain ⟨q,hq,rfl⟩:=Option.map_eq_some_iff.1 h
   have:=Zlh r q hq
   simp;omega
theorem Zzq {B:Int→Bool} {xs:List Int} {i:Nat} {c:Int} (h:xs[i]?=some c) (hB:B c=true):Xi B (xs.drop i)=Xi B (xs.drop (i+1))+1:=by
 have hlt:=Qr h
 rw [Zlj hlt,Zcb,if_pos]
 rw [List.getElem?_eq_getElem hlt] at h
 rw [Option.some.inj h];exact hB
def Vk (s:ByteArray):Nat×(Int×ByteArray)×(Int×ByteArray):=
 if Vu ((Zg s).headD 0)=true then (if 64<Xi Yv (Zg s) then (0,(0,⟨#[]⟩),(20,s.extract 0 (Xi Yv (Zg s)))) else (Xi Yv (Zg s),(1,s.extract 0 (Xi Yv (Zg s))),(0,⟨#[]⟩)))
 else if Xz ((Zg s).headD 0)=true then (if Zed (W3 (Zg s) (Vp (Zg s))).2=true∨Vu (((Zg s)[(W3 (Zg s) (Vp (Zg s))).1]?).getD 0)=true
   then (0,(0,⟨#[]⟩),(22,s.extract 0 ((W3 (Zg s) (Vp (Zg s))).1+Xi Yv ((Zg s).drop (W3 (Zg s) (Vp (Zg s))).1))))
   else ((W3 (Zg s) (Vp (Zg s))).1,(2,s.extract 0 (W3 (Zg s) (Vp (Zg s))).1),(0,⟨#[]⟩)))
 else if (Zg s).headD 0=34 then (match Vg ((Zg s).drop 1) with | none=>(0,(0,⟨#[]⟩),(21,⟨#[34]⟩)) | some p=>(1+p.1,(3,W1 p.2),(0,⟨#[]⟩)))
 else if Zcc ((Zg s).headD 0)=true then (1,(4,s.extract 0 1),(0,⟨#[]⟩)) else (0,(0,⟨#[]⟩),(20,s.extract 0 1))
theorem Zhh {s:ByteArray} (h:1≤s.size):Y4 s 0=some ((Zg s).headD 0):=by
 have hl:=Xp s
 rw [show (0:Int)=((0:Nat):Int) from rfl,Zg1]
 cases hc:Zg s with
 | nil=>rw [hc] at hl;simp at hl;omega
 | cons a l=>rfl
/-! ### what the library finds -/
def bi (b:UInt8):Int:=(b.toNat:Int)
theorem Zci {a b:UInt8}:bi a=bi b↔a=b:=⟨fun h=>UInt8.toNat_inj.1 (Int.ofNat.inj h),fun h=>by rw [h]⟩
theorem Zra (s:ByteArray) (a b:UInt8):Q7 s ⟨#[a,b]⟩=some (decide ((Zg s)[0]?=some (bi a)∧(Zg s)[1]?=some (bi b))):=by
 rw [Q7,Zg]
 show some (Lib.hasPrefix s.data.toList [a,b])=_
 generalize s.data.toList=L
 congr 1
 match L with
 | []=>rfl
 | [x]=>simp [Lib.hasPrefix,List.isPrefixOf]
 | x :: y :: r=>
  simp only [Lib.hasPrefix,List.isPrefixOf,List.map_cons,List.getElem?_cons_zero,List.getElem?_cons_succ,Option.some.injEq,Bool.and_true]
  rw [Bool.eq_iff_iff,Bool.and_eq_true,beq_iff_eq,beq_iff_eq,decide_eq_true_iff]
  exact ⟨fun h=>⟨by rw [h.1];rfl,by rw [h.2];rfl⟩,fun h=>⟨(Zci.1 h.1).symm,(Zci.1 h.2).symm⟩⟩
theorem Zj2 (s:ByteArray):Q7 s ⟨#[47,47]⟩=some (decide ((Zg s)[0]?=some 47∧(Zg s)[1]?=some 47)):=Zra s 47 47
theorem Zj3 (s:ByteArray):Q7 s ⟨#[47,42]⟩=some (decide ((Zg s)[0]?=some 47∧(Zg s)[1]?=some 42)):=Zra s 47 42
theorem Zp1:∀ (L:List UInt8),Lib.indexByte L 10=if Xi Tf (L.map bi)<L.length then ((Xi Tf (L.map bi):Nat):Int) else -1
 | []=>rfl
 | b :: L=>by
  rw [Lib.indexByte,List.map_cons,Zcb,Zp1 L,List.length_cons]
  by_cases h:b=10
  ·subst h;rw [if_pos (by decide),if_neg (show ¬ Tf (bi 10)=true by decide),if_pos (by omega)];rfl
  ·have hb:Tf (bi b)=true:=by
    rw [Tf,decide_eq_false]
    ·rfl
    ·intro e;exact h (Zci.1 (e.trans (show (10:Int)=bi 10 from rfl)))
   rw [if_neg (by simpa using h),if_pos hb]
   by_cases hr:Xi Tf (L.map bi)<L.length
   ·rw [if_pos hr,if_neg (by simp <;> omega),if_pos (show Xi Tf (L.map bi)+1<L.length+1 by omega)];omega
   ·rw [if_neg hr,if_pos (by decide),if_neg (show ¬ Xi Tf (L.map bi)+1<L.length+1 by omega)]
theorem Zxj (s:ByteArray):T8 s 10=some (if Xi Tf (Zg s)<s.size then ((Xi Tf (Zg s):Nat):Int) else -1):=by
 rw [T8]
 have:=Zp1 s.data.toList
 rw [Array.length_toList] at this
 exact congrArg some this
theorem Zp0:∀ (L:List UInt8) (b:UInt8),decide (0≤Lib.indexByte L b)=decide (b ∈ L)
 | [],b=>by simp [Lib.indexByte]
 | c :: L,b=>by
  rw [Lib.indexByte]
  by_cases h:c=b
  ·subst h;simp
  ·have ih:=Zp0 L b
   have hg:=Lib.indexByte_ge L b
   rw [if_neg (by simpa using h)]
   have h2:(b ∈ c :: L)↔b ∈ L:=⟨fun e=>(List.mem_cons.1 e).resolve_left (fun e=>h e.symm),List.mem_cons_of_mem _⟩
   rw [decide_eq_decide.2 h2,← ih]
   by_cases e:Lib.indexByte L b= -1
   ·rw [if_pos (by rw [e];rfl),e]
   ·rw [if_neg (by simpa using e)]
    exact decide_eq_decide.2 ⟨fun _=>by omega,fun _=>by omega⟩
theorem Zp3 (s:ByteArray) (c:Int) (hc:0≤c∧c<256):∃ r,T8 s c=some r∧decide (0≤r)=decide (c ∈ Zg s):=by
 refine ⟨_,rfl,?_⟩
 rw [Zp0]
 have e:bi c.toNat.toUInt8=c:=by
  show ((c.toNat.toUInt8.toNat:Nat):Int)=c
  rw [UInt8.toNat_ofNat']
  omega
 refine decide_eq_decide.2 ⟨fun h=>?_,fun h=>?_⟩
 ·rw [← e];exact List.mem_map_of_mem h
 ·obtain ⟨b,hb,h2⟩:=List.mem_map.1 h
  have:b=c.toNat.toUInt8:=Zci.1 (by rw [e];exact h2)
  rwa [← this]
theorem Zp2 (c:Int) (hc:0≤c∧c<256):∃ r,T8 ⟨#[32,9,10,13]⟩ c=some r∧decide (0≤r)=V7 c:=Zp3 _ c hc
theorem Zxk (c:Int) (hc:0≤c∧c<256):∃ r,T8 ⟨#[123,125,40,41,91,93,44,59,124,61,43,45,42,47]⟩ c=some r∧decide (0≤r)=Zcc c:=Zp3 _ c hc
theorem Zlo (s:ByteArray):0≤(Zg s).headD 0∧(Zg s).headD 0<256:=by
 cases hc:Zg s with
 | nil=>decide
 | cons c l=>exact Zcd (s:=s) (by rw [hc];exact List.mem_cons_self)
theorem Zpy:∀ (L:List UInt8),Lib.index L [42,47]=match Sx (L.map bi) with | none=> -1 | some k=>(k:Int) - 2
 | []=>rfl
 | b :: L=>by
  rw [Lib.index,List.map_cons,Sx,Zpy L]
  have hp:(([42,47]:List UInt8).isPrefixOf (b :: L)=true)↔(bi b=42∧(L.map bi)[0]?=some 47):=by
   cases L with
   | nil=>simp [List.isPrefixOf]
   | cons d r=>
    simp only [List.isPrefixOf,List.map_cons,List.getElem?_cons_zero,Option.some.injEq,Bool.and_true]
    rw [Bool.and_eq_true,beq_iff_eq,beq_iff_eq]
    exact ⟨fun h=>⟨by rw [← h.1];rfl,by rw [← h.2];rfl⟩,fun h=>⟨(Zci.1 (h.1.trans (show (42:Int)=bi 42 from rfl))).symm,(Zci.1 (h.2.trans (show (47:Int)=bi 47 from rfl))).symm⟩⟩
  by_cases h:bi b=42∧(L.map bi)[0]?=some 47
  ·rw [if_pos (hp.2 h),if_pos h];rfl
  ·rw [if_neg (fun e=>h (hp.1 e)),if_neg h]
   cases hc:Sx (L.map bi) with
   | none=>rfl
   | some k=>
    have:=Zlh _ _ hc
    simp only [Option.map_some]
    rw [if_neg (by simp;omega)]
    show (k:Int) - 2+1=((k+1:Nat):Int) - 2
    omega
theorem Zpz (s:ByteArray) (hs:s.size≤33554432):Zcy s ⟨#[42,47]⟩=some (match Sx (Zg s) with | none=> -1 | some k=>(k:Int) - 2):=by
 rw [Zcy,Xo (by omega)]
 exact congrArg some (Zpy _)
/-! ### passing over bytes -/
def plc (xs:List Int) (p:Int×Int):Int×Int:=xs.foldl (fun p x=>if x=10 then (p.1+1,1) else (p.1,p.2+1)) p
theorem Znv (x:Int) (xs:List Int) (p:Int×Int):plc (x :: xs) p=plc xs (if x=10 then (p.1+1,1) else (p.1,p.2+1)):=rfl
theorem Zq8 (a b:List Int) (p:Int×Int):plc (a++b) p=plc b (plc a p):=List.foldl_append
def Bd (p:Int×Int) (k:Nat):Prop:=0≤p.1∧p.1≤(k:Int)+1∧0≤p.2∧p.2≤(k:Int)+1
theorem Bd.plc:∀ {xs:List Int} {p:Int×Int} {k:Nat},Bd p k→Bd (plc xs p) (k+xs.length)
 | [],p,k,h=>h
 | x :: xs,p,k,h=>by
  rw [Znv,List.length_cons,show k+(xs.length+1)=(k+1)+xs.length by omega]
  refine Bd.plc ?_
  obtain ⟨h1,h2,h3,h4⟩:=h
  split <;> refine ⟨?_,?_,?_,?_⟩ <;> dsimp only <;> omega
theorem Zq6 (n:Int) (text:ByteArray) (a:Int):∀ (xs:List Int) (p:Int×Int) (k:Nat),Bd p k→k+xs.length≤1099511627776→
  Sd n xs text a p.1 p.2=some (text,i64.wrap (a+n),(plc xs p).1,(plc xs p).2)
 | [],p,k,_,_=>by rw [Sd.eq_1];rfl
 | x :: xs,p,k,hb,hk=>by
  rw [List.length_cons] at hk
  have hb1:Bd (if x=10 then (p.1+1,1) else (p.1,p.2+1)) (k+1):=Bd.plc (xs:=[x]) hb
  have ih:=Zq6 n text a xs _ (k+1) hb1 (by omega)
  obtain ⟨h1,h2,h3,h4⟩:=hb
  rw [Sd.eq_2,Znv,← ih]
  by_cases h:x=10
  ·rw [if_pos (decide_eq_true h),if_pos h,Zc8,Yh (by omega)]
  ·rw [if_neg (nd h),if_neg h,Zc8,Yh (by omega)]
section
variable {N:Nat} {t:ByteArray} (ht:t.size≤33554432)
include ht
theorem Zq7 {a n:Nat} {p:Int×Int} (hb:Bd p a) (hn:a+n≤t.size):
  Q1 (t,(a:Int),p.1,p.2) (n:Int)=some (t,((a+n:Nat):Int),(plc (((Zg t).drop a).take n) p).1,(plc (((Zg t).drop a).take n) p).2):=by
 have e:Zg (t.extract a (a+n))=((Zg t).drop a).take n:=by rw [Zgs,List.drop_take];congr 1;omega
 have hz:(t.extract a (a+n)).size=n:=by rw [← Xp,e,List.length_take,List.length_drop,Xp];omega
 rw [Q1]
 dsimp only
 rw [Yh (by omega),Xo (by omega),show Int.toNat (a:Int)=a from rfl,show Int.toNat ((a:Int)+(n:Int))=a+n by omega,Xo (by rw [hz];simp only [maxLen];omega),e]
 rw [Zq6 (n:Int) t (a:Int) _ p a hb (by rw [← e,Xp,hz];omega),Yh (by omega)]
 rfl
end
inductive Wd (t:ByteArray):Nat→Int×Int→Bool→Nat→Int×Int→Prop
 | fin {a p}:t.size=a→Wd t a p true a p
 | done {a p}:a<t.size→Tz ((Zg t).drop a)=some 0→Wd t a p true a p
 | opn {a p}:a<t.size→Tz ((Zg t).drop a)=none→Wd t a p false a p
 | skip {a p k ok a' p'}:a<t.size→Tz ((Zg t).drop a)=some k→0<k→a+k≤t.size→Wd t (a+k) (plc (((Zg t).drop a).take k) p) ok a' p'→Wd t a p ok a' p'
theorem Wd.le {t:ByteArray} {a a':Nat} {p p':Int×Int} {ok:Bool} (h:Wd t a p ok a' p'):a'≤t.size∧a≤a'∧(Bd p a→Bd p' a'):=by
 induction h with
 | fin h=>exact ⟨by omega,Nat.le_refl _,id⟩
 | done h _=>exact ⟨by omega,Nat.le_refl _,id⟩
 | opn h _=>exact ⟨by omega,Nat.le_refl _,id⟩
 | @skip a p k ok a' p' h1 h2 h3 h4 _ ih=>
  refine ⟨ih.1,by omega,fun hb=>ih.2.2 ?_⟩
  have:=hb.plc (xs:=((Zg t).drop a).take k)
  rwa [List.length_take,List.length_drop,Xp,Nat.min_eq_left (by omega)] at this
section
variable {N:Nat} {t:ByteArray} (ht:t.size≤33554432)
include ht
theorem Zt2 {a a':Nat} {p p':Int×Int} {ok:Bool} (h:Wd t a p ok a' p') (hb:Bd p a):∀ f,t.size<f+a→Uq N f t (a:Int) p.1 p.2=some (ok,(t,(a':Int),p'.1,p'.2)):=by
 induction h with
 | @fin a p h=>
  intro f hf
  obtain ⟨f,rfl⟩:∃ g,f=g+1:=⟨f - 1,by omega⟩
  have he:t.extract a t.size=⟨#[]⟩:=Zlk (by rw [Qf,List.drop_eq_nil_of_le (by rw [Xp];omega)];rfl)
  rw [Uq.eq_2,Xo (by omega),show Int.toNat (a:Int)=a from rfl,show Int.toNat (t.size:Int)=t.size from rfl,if_pos (decide_eq_true he)]
 | @done a p h1 h2=>
  intro f hf
  obtain ⟨f,rfl⟩:∃ g,f=g+1:=⟨f - 1,by omega⟩
  have hl:=Xp (t.extract a t.size)
  have hx:=Qf t a
  have hz:(t.extract a t.size).size=t.size - a:=by rw [← hl,hx,List.length_drop,Xp]
  rw [Uq.eq_2,Xo (by omega),show Int.toNat (a:Int)=a from rfl,show Int.toNat (t.size:Int)=t.size from rfl,if_neg (nd (fun e=>by rw [e] at hz;change (0:Nat)=_ at hz;omega))]
  rw [← hx] at h2
  have hm:=Zp2 ((Zg (t.extract a t.size)).headD 0) (Zlo _)
  obtain ⟨r,hr,hr2⟩:=hm
  rw [Tz] at h2
  split at h2
  ·rename_i h47
   have h0:=Zzq (B:=Tf) (i:=0) h47.1 rfl
   rw [List.drop_zero] at h0
   have:=Option.some.inj h2
   omega
  ·rename_i h47
   rw [Zj2,Option.bind_some,if_neg (nd h47)]
   split at h2
   ·obtain ⟨k,_,e⟩:=Option.map_eq_some_iff.1 h2
    omega
   ·rename_i h42
    rw [Zj3,Option.bind_some,if_neg (nd h42),Zhh (by omega),Option.bind_some,hr,Option.bind_some]
    split at h2
    ·cases h2
    ·rename_i hbk
     rw [hr2,if_neg (fun e=>hbk e)]
 | @opn a p h1 h2=>
  intro f hf
  obtain ⟨f,rfl⟩:∃ g,f=g+1:=⟨f - 1,by omega⟩
  have hl:=Xp (t.extract a t.size)
  have hx:=Qf t a
  have hz:(t.extract a t.size).size=t.size - a:=by rw [← hl,hx,List.length_drop,Xp]
  rw [Uq.eq_2,Xo (by omega),show Int.toNat (a:Int)=a from rfl,show Int.toNat (t.size:Int)=t.size from rfl,if_neg (nd (fun e=>by rw [e] at hz;change (0:Nat)=_ at hz;omega))]
  rw [← hx] at h2
  rw [Tz] at h2
  split at h2
  ·cases h2
  ·rename_i h47
   rw [Zj2,Option.bind_some,if_neg (nd h47)]
   split at h2
   ·rename_i h42
    have:=Qr h42.2
    have hq:Zg ((t.extract a t.size).extract 2 (t.extract a t.size).size)=(Zg (t.extract a t.size)).drop 2:=Qf _ _
    have hq2:((t.extract a t.size).extract 2 (t.extract a t.size).size).size≤33554432:=by rw [ByteArray.size_extract];omega
    rw [Zj3,Option.bind_some,if_pos (decide_eq_true h42),Xo (by omega),show Int.toNat 2=2 from rfl,show Int.toNat ((t.extract a t.size).size:Int)=(t.extract a t.size).size from rfl,Zpz _ hq2,hq,Option.map_eq_none_iff.1 h2,Option.bind_some,if_pos (by decide)]
   ·split at h2 <;> cases h2
 | @skip a p k ok a' p' h1 h2 h3 h4 _ ih=>
  intro f hf
  obtain ⟨f,rfl⟩:∃ g,f=g+1:=⟨f - 1,by omega⟩
  have hl:=Xp (t.extract a t.size)
  have hx:=Qf t a
  have hz:(t.extract a t.size).size=t.size - a:=by rw [← hl,hx,List.length_drop,Xp]
  have hb1:Bd (plc (((Zg t).drop a).take k) p) (a+k):=by
   have:=hb.plc (xs:=((Zg t).drop a).take k)
   rwa [List.length_take,List.length_drop,Xp,Nat.min_eq_left (by omega)] at this
  have hp:=Zq7 ht hb h4
  have hgo:=ih hb1 f (by omega)
  rw [Uq.eq_2,Xo (by omega),show Int.toNat (a:Int)=a from rfl,show Int.toNat (t.size:Int)=t.size from rfl,if_neg (nd (fun e=>by rw [e] at hz;change (0:Nat)=_ at hz;omega))]
  rw [← hx] at h2
  have hm:=Zp2 ((Zg (t.extract a t.size)).headD 0) (Zlo _)
  obtain ⟨r,hr,hr2⟩:=hm
  rw [Tz] at h2
  split at h2
  ·rename_i h47
   have hk:=Option.some.inj h2
   rw [Zj2,Option.bind_some,if_pos (decide_eq_true h47),Zxj,Option.bind_some,hk]
   by_cases hlt:k<(t.extract a t.size).size
   ·rw [if_pos hlt,if_neg (nd (by omega)),Zc7,hp,Option.bind_some];exact hgo
   ·rw [if_neg hlt,if_pos (by decide),Zc7,show (t.extract a t.size).size=k by omega,hp,Option.bind_some];exact hgo
  ·rename_i h47
   rw [Zj2,Option.bind_some,if_neg (nd h47)]
   split at h2
   ·rename_i h42
    have:=Qr h42.2
    obtain ⟨q,hq1,rfl⟩:=Option.map_eq_some_iff.1 h2
    have hq2':=Zlh _ _ hq1
    have hq:Zg ((t.extract a t.size).extract 2 (t.extract a t.size).size)=(Zg (t.extract a t.size)).drop 2:=Qf _ _
    have hq2:((t.extract a t.size).extract 2 (t.extract a t.size).size).size≤33554432:=by rw [ByteArray.size_extract];omega
    have hi:Zcy ((t.extract a t.size).extract 2 (t.extract a t.size).size) ⟨#[42,47]⟩=some ((q:Int) - 2):=by rw [Zpz _ hq2,hq,hq1]
    rw [Zj3,Option.bind_some,if_pos (decide_eq_true h42),Xo (by omega),show Int.toNat 2=2 from rfl,show Int.toNat ((t.extract a t.size).size:Int)=(t.extract a t.size).size from rfl,hi,Option.bind_some,if_neg (nd (by omega)),Yh (by omega),show (q:Int) - 2+4=((q+2:Nat):Int) by omega,hp,Option.bind_some]
    exact hgo
   ·rename_i h42
    rw [Zj3,Option.bind_some,if_neg (nd h42),Zhh (by omega),Option.bind_some,hr,Option.bind_some]
    split at h2
    ·rename_i hbk
     have:=Option.some.inj h2
     subst this
     rw [hr2,if_pos hbk,show (1:Int)=((1:Nat):Int) from rfl,hp,Option.bind_some];exact hgo
    ·have:=Option.some.inj h2;omega
theorem Zkx {a a':Nat} {p p':Int×Int} {ok:Bool} (h:Wd t a p ok a' p') (hb:Bd p a) (hN:t.size<N):Zfc N (t,(a:Int),p.1,p.2)=some (ok,(t,(a':Int),p'.1,p'.2)):=by
 rw [Zfc]
 exact Zt2 ht h hb N (by omega)
end
theorem Zxg:∀ (xs:List Int) (h:0<xs.length),xs[0]'h=xs.headD 0
 | c :: r,_=>rfl
theorem Zxm (xs:List Int):Xi Xz xs≤Vp xs:=by
 rw [Vp];split <;> omega
theorem Zw2 (xs:List Int) (n:Nat):n<W2 xs n:=by
 rw [W2];split <;> omega
theorem Zw4 (xs:List Int) (n:Nat):n≤(W3 xs n).1:=by
 rw [W3]
 split
 ·have:=Zw2 xs n
  show n≤W2 xs n+_
  omega
 ·exact Nat.le_refl _
theorem Zlp {B:Int→Bool} {xs:List Int} (h:B (xs.headD 0)=true) (h0:xs≠[]):1≤Xi B xs:=by
 cases xs with
 | nil=>exact absurd rfl h0
 | cons c r=>rw [Zcb,if_pos (show B c=true from h)];omega
theorem Zsg {s:ByteArray} (h0:1≤s.size) (hc:(Vk s).2.2.1=0):(Vk s).1≤s.size∧1≤(Vk s).1∧(Vk s).2.1.1≠0:=by
 have hl:=Xp s
 have hne:Zg s≠[]:=fun e=>by rw [e] at hl;simp at hl;omega
 rw [Vk] at hc ⊢
 split at hc
 ·rename_i c1
  have:=Zlp c1 hne
  have:=Zkd Yv (Zg s)
  have h2:1≤Xi Yv (Zg s):=Zlp (by rw [Yv,c1];rfl) hne
  rw [if_pos c1]
  split at hc
  ·cases hc
  ·rename_i c2
   rw [if_neg c2];exact ⟨by show Xi _ _≤_;omega,h2,by show (1:Int)≠0;decide⟩
 ·rename_i c1
  rw [if_neg c1]
  split at hc
  ·rename_i c2
   rw [if_pos c2]
   have h1:=Zlp c2 hne
   have h2:=Zxm (Zg s)
   have h3:=Zw4 (Zg s) (Vp (Zg s))
   have h4:=Zps (Zg s) (Zlq (Zg s))
   split at hc
   ·cases hc
   ·rename_i c3
    rw [if_neg c3];exact ⟨by show (W3 _ _).1≤_;omega,by show 1≤(W3 _ _).1;omega,by show (2:Int)≠0;decide⟩
  ·rename_i c2
   rw [if_neg c2]
   split at hc
   ·rename_i c3
    rw [if_pos c3]
    cases hq:Vg ((Zg s).drop 1) with
    | none=>rw [hq] at hc;cases hc
    | some p=>
     have:=Zj4 _ p (fun x hx=>Zcd (List.mem_of_mem_drop hx)) hq
     rw [List.length_drop] at this
     exact ⟨by show 1+p.1≤_;omega,by show 1≤1+p.1;omega,by show (3:Int)≠0;decide⟩
   ·rename_i c3
    rw [if_neg c3]
    split at hc
    ·rename_i c4
     rw [if_pos c4];exact ⟨h0,Nat.le_refl 1,by show (4:Int)≠0;decide⟩
    ·cases hc
def Zah (t:ByteArray) (a:Nat) (p:Int×Int) (T:Nat×(Int×ByteArray)×(Int×ByteArray)):(Int×ByteArray×Int×Int)×(Option (Int×Int×Int×ByteArray))×(ByteArray×Int×Int×Int):=
 if T.2.2.1=0 then ((T.2.1.1,T.2.1.2,p.1,p.2),none,(t,((a+T.1:Nat):Int),(plc (((Zg t).drop a).take T.1) p).1,(plc (((Zg t).drop a).take T.1) p).2))
 else ((0,⟨#[]⟩,0,0),some (T.2.2.1,p.1,p.2,T.2.2.2),(t,(a:Int),p.1,p.2))
section
variable {N:Nat} {t:ByteArray} (ht:t.size≤33554432) (hN:t.size<N)
include ht hN
theorem Zym {a a':Nat} {p p':Int×Int} (h:Wd t a p false a' p') (hb:Bd p a):
  S1 N (t,(a:Int),p.1,p.2)=some ((0,⟨#[]⟩,0,0),some (21,p'.1,p'.2,⟨#[47,42]⟩),(t,(a':Int),p'.1,p'.2)):=by
 rw [S1]
 dsimp only
 rw [Zkx ht h hb hN,Option.bind_some,if_pos (by rfl),Tc,Option.bind_some]
theorem Zyl {a:Nat} {p p':Int×Int} (h:Wd t a p true t.size p') (hb:Bd p a):
  S1 N (t,(a:Int),p.1,p.2)=some ((0,⟨#[]⟩,p'.1,p'.2),none,(t,(t.size:Int),p'.1,p'.2)):=by
 have he:t.extract t.size t.size=⟨#[]⟩:=Zlk (by rw [Qf,List.drop_eq_nil_of_le (by rw [Xp];omega)];rfl)
 rw [S1]
 dsimp only
 rw [Zkx ht h hb hN,Option.bind_some]
 dsimp only
 rw [if_neg (by decide),Xo (by omega),show Int.toNat (t.size:Int)=t.size from rfl,if_pos (decide_eq_true he)]
theorem Zqp {a a':Nat} {p p':Int×Int} (h:Wd t a p true a' p') (hb:Bd p a) (hlt:a'<t.size):
  S1 N (t,(a:Int),p.1,p.2)=some (Zah t a' p' (Vk (t.extract a' t.size))):=by
 have hb':=h.le.2.2 hb
 have hz:(t.extract a' t.size).size=t.size - a':=by rw [ByteArray.size_extract];omega
 rw [S1]
 dsimp only
 rw [Zkx ht h hb hN,Option.bind_some]
 dsimp only
 rw [if_neg (by decide),Xo (by omega),show Int.toNat (a':Int)=a' from rfl,show Int.toNat (t.size:Int)=t.size from rfl,if_neg (nd (fun e=>by rw [e] at hz;change (0:Nat)=_ at hz;omega))]
 have hs:(t.extract a' t.size).size≤1099511627776:=by omega
 have hNs:(t.extract a' t.size).size<N:=by omega
 have h1s:1≤(t.extract a' t.size).size:=by omega
 have hx:(t.extract a' t.size)=t.extract (Int.toNat (a':Int)) (Int.toNat (t.size:Int)):=rfl
 have hJ:∀ (k:Nat) (kd:Int) (tx:ByteArray),a'+k≤t.size→Q0 (true,(t,(a':Int),p'.1,p'.2)) 0 (⟨#[]⟩) 0 0 kd tx p'.1 p'.2 (k:Int)=some (Zah t a' p' (k,(kd,tx),(0,⟨#[]⟩))):=by
  intro k kd tx hk
  rw [Q0]
  dsimp only
  rw [Zq7 ht hb' hk,Option.bind_some,Zah,if_pos rfl]
 have hB:∀ (k:Nat) (kd c:Int) (tx w:ByteArray),c≠0→some (Zah t a' p' (k,(kd,tx),(c,w)))=some ((0,⟨#[]⟩,0,0),some (c,p'.1,p'.2,w),(t,(a':Int),p'.1,p'.2)):=by
  intro k kd c tx w hc
  rw [Zah,if_neg hc]
 have hJ2:∀ (b:Bool) (n:Nat) (D:ByteArray),a'+n≤t.size→Sc N (true,(t,(a':Int),p'.1,p'.2)) ((n:Int),D) b=some (Zah t a' p' (if b=true then (0,(0,⟨#[]⟩),(22,(t.extract a' t.size).extract 0 (n+Xi Yv ((Zg (t.extract a' t.size)).drop n)))) else (n,(2,(t.extract a' t.size).extract 0 n),(0,⟨#[]⟩)))):=by
  intro b n D hn
  rw [Sc]
  dsimp only
  rw [← hx]
  cases b with
  | true=>
   have:=Zgq Yv (Zg (t.extract a' t.size)) n
   rw [Xp] at this
   rw [if_pos rfl,if_pos rfl,Zlw hs (by omega) hNs,Option.bind_some,Yh (by omega),Xo (by omega),Tc,Option.bind_some,hB _ _ _ _ _ (by decide)];rfl
  | false=>rw [if_neg (by decide),if_neg (by decide)];exact hJ n _ _ hn
 generalize t.extract a' t.size=s at hz hs hNs h1s hJ2
 have hl:=Xp s
 have hw:Q2 N s 0=some ((Xi Yv (Zg s):Nat):Int):=Zlw (N:=N) hs (at_:=0) (by omega) hNs
 have hr:=Zkd Yv (Zg s)
 rw [Zhh h1s,Option.bind_some,Option.bind_some,Option.bind_some,Option.bind_some,Zhn,Option.bind_some,Zlu,Option.bind_some]
 rw [Vk]
 by_cases c1:Vu ((Zg s).headD 0)=true
 ·rw [if_pos c1,if_pos c1,hw,Option.bind_some]
  by_cases c2:64<Xi Yv (Zg s)
  ·rw [if_pos c2,Xo (by omega),if_pos (decide_eq_true (by omega)),Xo (by omega),Tc,Option.bind_some,hB _ _ _ _ _ (by decide)];rfl
  ·rw [if_neg c2,Xo (by omega),if_neg (nd (by omega))]
   exact hJ _ _ _ (by omega)
 ·rw [if_neg c1,if_neg c1]
  by_cases c2:Xz ((Zg s).headD 0)=true
  ·rw [if_pos c2,if_pos c2]
   obtain ⟨D,hD,hD2⟩:=Zx6 hs hNs
   have hn:=Zps (Zg s) (Zlq (Zg s))
   have hdg:=Zw3 (Zg s) (Vp (Zg s))
   rw [hD,Option.bind_some]
   generalize W3 (Zg s) (Vp (Zg s))=e at hn hdg hD2
   have hlg:Zc2 D=some (Zed e.2):=by rw [Zx3 (by rw [hD2];exact hdg),hD2]
   rw [Xo (by dsimp only;omega),hlg,Option.bind_some]
   dsimp only
   by_cases c3:Zed e.2=true
   ·rw [if_pos c3,if_pos (.inl c3),hJ2 true e.1 D (by omega),if_pos rfl]
   ·rw [if_neg c3]
    have hc4:(if (decide ((e.1:Int)<(s.size:Int)))=true then ((Y4 s (e.1:Int)).bind fun e_155=>(Sy e_155).bind fun r_157=>Sc N (true,(t,(a':Int),p'.1,p'.2)) ((e.1:Int),D) r_157) else (Sc N (true,(t,(a':Int),p'.1,p'.2)) ((e.1:Int),D) false))=Sc N (true,(t,(a':Int),p'.1,p'.2)) ((e.1:Int),D) (Vu (((Zg s)[e.1]?).getD 0)):=by
     by_cases hlt2:e.1<s.size
     ·rw [if_pos (decide_eq_true (by omega)),Zcg hlt2,Option.bind_some,Zhn,Option.bind_some,List.getElem?_eq_getElem (by omega)];rfl
     ·rw [if_neg (nd (by omega)),List.getElem?_eq_none (by omega)];rfl
    refine hc4.trans ?_
    rw [hJ2 _ e.1 D (by omega)]
    by_cases c4:Vu (((Zg s)[e.1]?).getD 0)=true
    ·rw [if_pos c4,if_pos (.inr c4)]
    ·rw [if_neg c4,if_neg (by rintro (h | h);exact c3 h;exact c4 h)]
  ·rw [if_neg c2,if_neg c2]
   by_cases c3:(Zg s).headD 0=34
   ·rw [if_pos (decide_eq_true c3),if_pos c3,Zx4 hs hNs,Option.bind_some]
    cases hq:Vg ((Zg s).drop 1) with
    | none=>
     have h34:s.extract 0 1=⟨#[34]⟩:=by
      have:=Zw5 (s:=s) (i:=0) (by omega)
      rw [this]
      have e0:(Zg s)[0]'(by omega)=34:=by
       rw [← c3];exact Zxg _ _
      rw [e0];rfl
     rw [Sp,if_pos (by rfl),Xo (by omega),Tc,Option.bind_some,hB _ _ _ _ _ (by decide),show Int.toNat 0=0 from rfl,show Int.toNat 1=1 from rfl,h34]
    | some q=>
     have:=Zj4 _ q (fun x hx=>Zcd (List.mem_of_mem_drop hx)) hq
     rw [List.length_drop] at this
     rw [Sp]
     dsimp only
     rw [if_neg (by decide),List.nil_append]
     exact hJ (1+q.1) _ _ (by omega)
   ·rw [if_neg (nd c3),if_neg c3]
    obtain ⟨r,hr1,hr2⟩:=Zxk ((Zg s).headD 0) (Zlo s)
    rw [hr1,Option.bind_some,hr2]
    by_cases c4:Zcc ((Zg s).headD 0)=true
    ·rw [if_pos c4,if_pos c4,Xo (by omega)]
     exact hJ 1 _ _ (by omega)
    ·rw [if_neg c4,if_neg c4,Xo (by omega),Tc,Option.bind_some,hB _ _ _ _ _ (by decide)];rfl
end
abbrev Yi:=Int×ByteArray×Int×Int
abbrev Yc:=Int×Int×Int×ByteArray
inductive V5 (t:ByteArray):Nat→Int×Int→List Yi→Option Yc→Prop
 | fin {a p p'}:Wd t a p true t.size p'→V5 t a p [(0,⟨#[]⟩,p'.1,p'.2)] none
 | opn {a p a' p'}:Wd t a p false a' p'→V5 t a p [] (some (21,p'.1,p'.2,⟨#[47,42]⟩))
 | bad {a p a' p'}:Wd t a p true a' p'→a'<t.size→(Vk (t.extract a' t.size)).2.2.1≠0→V5 t a p [] (some ((Vk (t.extract a' t.size)).2.2.1,p'.1,p'.2,(Vk (t.extract a' t.size)).2.2.2))
 | tok {a p a' p' l f}:Wd t a p true a' p'→a'<t.size→(Vk (t.extract a' t.size)).2.2.1=0→
   V5 t (a'+(Vk (t.extract a' t.size)).1) (plc (((Zg t).drop a').take (Vk (t.extract a' t.size)).1) p') l f→
   V5 t a p (((Vk (t.extract a' t.size)).2.1.1,(Vk (t.extract a' t.size)).2.1.2,p'.1,p'.2) :: l) f
theorem V5.facts {t:ByteArray} {a:Nat} {p:Int×Int} {l:List Yi} {f:Option Yc} (h:V5 t a p l f) (ha:a≤t.size):
  l.length≤t.size - a+1∧(f=none→∃ x,l.getLast?=some x∧x.1=0)∧(∀ e,f=some e→e.1≠0):=by
 induction h with
 | fin h=>exact ⟨by simp,fun _=>⟨_,rfl,rfl⟩,fun e he=>by cases he⟩
 | opn h=>exact ⟨by simp,fun e=>(by cases e),fun e he=>(by cases he;show (21:Int)≠0;decide)⟩
 | bad h h1 h2=>exact ⟨by simp,fun e=>(by cases e),fun e he=>(by cases he;exact h2)⟩
 | @tok a p a' p' l f h1 h2 h3 h4 ih=>
  have hz:(t.extract a' t.size).size=t.size - a':=by rw [ByteArray.size_extract];omega
  have hk:=Zsg (s:=t.extract a' t.size) (by omega) h3
  have hle:=h1.le
  obtain ⟨i1,i2,i3⟩:=ih (by omega)
  refine ⟨by rw [List.length_cons];omega,fun e=>?_,i3⟩
  obtain ⟨x,hx,hx2⟩:=i2 e
  refine ⟨x,?_,hx2⟩
  rw [List.getLast?_cons,hx];rfl
section
variable {N:Nat} {t:ByteArray} (ht:t.size≤33554432) (hN:t.size<N) (hN2:15≤N)
include ht hN hN2
def Zco:Option Yc→List (Yi×Option Yc)
 | none=>[]
 | some e=>[((0,⟨#[]⟩,0,0),some e)]
def Zll (f:Option Yc):Yc:=f.getD (0,0,0,⟨#[]⟩)
theorem Zwo {a:Nat} {p:Int×Int} {l:List Yi} {f:Option Yc} (h:V5 t a p l f) (ha:a≤t.size):Bd p a→∀ g,t.size+1<g+a→
  T9 N g t (a:Int) p.1 p.2=some (l.map (fun x=>(x,none))++Zco f):=by
 induction h with
 | @fin a p p' h=>
  intro hb g hg
  obtain ⟨g,rfl⟩:∃ k,g=k+1:=⟨g - 1,by omega⟩
  rw [T9.eq_2,Zyl ht hN h hb,Option.bind_some]
  rfl
 | @opn a p a' p' h=>
  intro hb g hg
  obtain ⟨g,rfl⟩:∃ k,g=k+1:=⟨g - 1,by omega⟩
  rw [T9.eq_2,Zym ht hN h hb,Option.bind_some]
  rfl
 | @bad a p a' p' h hlt hc=>
  intro hb g hg
  obtain ⟨g,rfl⟩:∃ k,g=k+1:=⟨g - 1,by omega⟩
  rw [T9.eq_2,Zqp ht hN h hb hlt,Option.bind_some,Zah,if_neg hc]
  rfl
 | @tok a p a' p' l f h hlt hc hr ih=>
  intro hb g hg
  obtain ⟨g,rfl⟩:∃ k,g=k+1:=⟨g - 1,by omega⟩
  have hz:(t.extract a' t.size).size=t.size - a':=by rw [ByteArray.size_extract];omega
  have hk:=Zsg (s:=t.extract a' t.size) (by omega) hc
  have hle:=h.le
  have hb2:=(hle.2.2 hb).plc (xs:=((Zg t).drop a').take (Vk (t.extract a' t.size)).1)
  rw [List.length_take,List.length_drop,Xp,Nat.min_eq_left (by omega)] at hb2
  have:=ih (by omega) hb2 g (by omega)
  rw [T9.eq_2,Zqp ht hN h hb hlt,Option.bind_some,Zah,if_pos hc]
  dsimp only
  rw [if_neg (by decide),if_neg (nd hk.2.2),this,Option.bind_some];rfl
theorem Zqb {l:List Yi} {f:Option Yc} (h:V5 t 0 (1,1) l f) (hN3:t.size+1<N):Ze4 N t=some (l.map (fun x=>(x,none))++Zco f):=by
 rw [Ze4,Zh2]
 exact Zwo ht hN hN2 h (by omega) ⟨by decide,by decide,by decide,by decide⟩ N (by omega)
end
theorem Zww:Wg prog 63 4 40:=⟨Tryz.t63,_,rfl,rfl,rfl,rfl,rfl⟩
def Zmy (v_27:List (Int×ByteArray×Int×Int)) (v_32:(Option (Int×Int×Int×ByteArray))) (v_34:Int) (v_36:(Option (Int×Int×Int×ByteArray))):Option (Option ((List (Int×ByteArray×Int×Int))×(Option (Int×Int×Int×ByteArray))×Int×(Option (Int×Int×Int×ByteArray)))):=
  some (some (v_27,v_32,v_34,v_36))
def Sk:List ((Int×ByteArray×Int×Int)×(Option (Int×Int×Int×ByteArray)))→(List (Int×ByteArray×Int×Int))→(Option (Int×Int×Int×ByteArray))→Int→(Option (Int×Int×Int×ByteArray))→Option (Option ((List (Int×ByteArray×Int×Int))×(Option (Int×Int×Int×ByteArray))×Int×(Option (Int×Int×Int×ByteArray))))
  | [],v_27,v_32,v_34,v_36=>some (some (v_27,v_32,v_34,v_36))
  | y_38 :: l_39,v_27,v_32,v_34,v_36=>Zgi (y_38.2) (Zp ((v_27.length+[(y_38.1.1,y_38.1.2.1,y_38.1.2.2.1,y_38.1.2.2.2)].length) * 40≤140737488355328∧v_27.length+[(y_38.1.1,y_38.1.2.1,y_38.1.2.2.1,y_38.1.2.2.2)].length≤maxLen) ((Sk l_39) (v_27++[(y_38.1.1,y_38.1.2.1,y_38.1.2.2.1,y_38.1.2.2.2)]) v_32 v_34 v_36)) (fun f_66=>Zmy v_27 (some f_66) v_34 v_36)
termination_by structural x=>x
def Zfz (N:Nat) (p0_text:ByteArray):Option (Option ((List (Int×ByteArray×Int×Int))×(Option (Int×Int×Int×ByteArray))×Int×(Option (Int×Int×Int×ByteArray)))):=
  (Ze4 N p0_text).bind fun r_15=>Sk r_15 ([]:List (Int×ByteArray×Int×Int)) (none:(Option (Int×Int×Int×ByteArray))) 0 (none:(Option (Int×Int×Int×ByteArray)))
theorem Zvd {N:Nat} {col:Zc} {w0:World} {p0_text:ByteArray} {r:(Option ((List (Int×ByteArray×Int×Int))×(Option (Int×Int×Int×ByteArray))×Int×(Option (Int×Int×Int×ByteArray))))} (c1 c2:Nat) (hm:Zfz N p0_text=some r) (hgl:Gl (.iface 141 (.agg #[.pointer (some ⟨4,24,none⟩)])) col w0):
    Calls prog 21 #[.string p0_text] w0 (fun e w'=>∃ (col':Zc) (rv1:Value),e= .returned (rv1)∧Zf col w0 col' w'∧Zjv rv1 r (fun (d:((List (Int×ByteArray×Int×Int))×(Option (Int×Int×Int×ByteArray))×Int×(Option (Int×Int×Int×ByteArray))))=>∃ (g9:Nat) (a9:Option Addr) (cap9:Nat) (v9:Value) (v9x:Value),rv1= .pointer (some ⟨g9,0,none⟩)∧Zd 74 c1 col' w' g9 #[.slice a9 d.1.length cap9,v9,.int .i64 d.2.2.1,v9x]∧Zb (Za.pair (Za.int .i8) (Za.pair Za.str (Za.pair (Za.int .i64) (Za.int .i64)))) 63 c2 col' w' a9 cap9 d.1∧Rd (Za.fptr 29 (Za.pair (Za.int .i64) (Za.pair (Za.int .i64) (Za.pair (Za.int .i64) Za.str)))) col' w' [v9] d.2.1∧Rd (Za.fptr 29 (Za.pair (Za.int .i64) (Za.pair (Za.int .i64) (Za.pair (Za.int .i64) Za.str)))) col' w' [v9x] d.2.2.2)):=by
 refine Zv7 2 (mc:=499) (m:=28) (args:=[.string p0_text]) func21 O O O O O ?_;rw [Zfz.eq_1] at hm;have hst:=St.start col w0;replace hgl:=hgl.keep (Zk.start col w0);have hmk:Y2 499 (Zi col) w0 []:=.nil;refine go ?_;refine Xs (col:=(Zi col)) #[.slice none (([]:List (Int×ByteArray×Int×Int)).length) 0,.pointer none,.int .i64 0,.pointer none] 1 zeroValue74 ?_;intro g_1 w_2 col_3 hg_4 hb_5;refine Zet (col:=col_3) (v:=(.pointer none)) 2 O zeroValue65 ?_;intro g_6 w_7 col_8 hg_9 hb_10;replace hb_10:Zd 65 2 col_8 w_7 g_6 #[.pointer none]:=hb_10;refine Zcu (v:=(.pointer (some ⟨g_1,0,none⟩))) hb_10 sizeOf65 O O (by intro u hu;simp only [Value.cells,List.mem_cons,List.not_mem_nil,or_false] at hu;subst hu;rfl) O O ?_;intro w_11 hk_12 hs_13 hb_14;replace hb_14:Zd 65 2 col_8 w_11 g_6 #[.pointer (some ⟨g_1,0,none⟩)]:=hb_14;refine go ?_;obtain ⟨r_15,hr_16,hm⟩:=bZ hm;replace hgl:=((hgl.gr hg_4).gr hg_9).kp hk_12;refine Ze (Zuo hr_16 hgl) ?_;rintro _ w_19 ⟨col_21,rv_17,rfl,hg_20,rh_18⟩;refine ⟨_,O,go ?_⟩;replace hmk:=(((hmk.gr hg_4).gr hg_9).kp hk_12).gr hg_20;replace hst:=(((hst.grow hg_4).grow hg_9).kp hk_12 hs_13).grow hg_20;replace hb_5:=((hb_5.gr hg_9).kp hk_12).gr hg_20;replace hgl:=hgl.gr hg_20;replace hb_14:=hb_14.gr hg_20
 refine Zs5 (psl:=[9,10]) (arr:=(fun (y:(Int×ByteArray×Int×Int)×(Option (Int×Int×Int×ByteArray))) (col:Zc) (w:World) (args:List Value)=>∃ (v1:Value),args=[(.agg #[.int .i8 y.1.1,.string y.1.2.1,.int .i64 y.1.2.2.1,.int .i64 y.1.2.2.2]),v1]∧Rd (Za.err 72 29 (Za.pair (Za.int .i64) (Za.pair (Za.int .i64) (Za.pair (Za.int .i64) Za.str)))) col w [v1] y.2)) (ys:=r_15) (col:=col_21) 498 O rh_18 O hmk O O (by rintro _ _ _ _ ⟨_,rfl,_⟩;rfl) (fun ys_ col_23 w_22=>∃ (g_25:Nat) (a_28:Option Addr) (cap_29:Nat) (v_27:List (Int×ByteArray×Int×Int)) (v_31:Value) (v_32:(Option (Int×Int×Int×ByteArray))) (v_34:Int) (v_35:Value) (v_36:(Option (Int×Int×Int×ByteArray))),Sk ys_ v_27 v_32 v_34 v_36=some r∧St w0 (Zi col) col_23 w_22∧Zb (Za.pair (Za.int .i8) (Za.pair Za.str (Za.pair (Za.int .i64) (Za.int .i64)))) 63 3 col_23 w_22 a_28 cap_29 v_27∧Rd (Za.fptr 29 (Za.pair (Za.int .i64) (Za.pair (Za.int .i64) (Za.pair (Za.int .i64) Za.str)))) col_23 w_22 [v_31] v_32∧Rd (Za.fptr 29 (Za.pair (Za.int .i64) (Za.pair (Za.int .i64) (Za.pair (Za.int .i64) Za.str)))) col_23 w_22 [v_35] v_36∧Zd 74 1 col_23 w_22 g_25 #[.slice a_28 v_27.length cap_29,v_31,.int .i64 v_34,v_35]∧Zd 65 2 col_23 w_22 g_6 #[.pointer (some ⟨g_25,0,none⟩)]∧Gl (.iface 141 (.agg #[.pointer (some ⟨4,24,none⟩)])) col_23 w_22) (fun c_ col_23 w_22=>(c_= .exit 0∧∃ (g_25:Nat) (a_28:Option Addr) (cap_29:Nat) (v_27:List (Int×ByteArray×Int×Int)) (v_31:Value) (v_32:(Option (Int×Int×Int×ByteArray))) (v_34:Int) (v_35:Value) (v_36:(Option (Int×Int×Int×ByteArray))),Zmy v_27 v_32 v_34 v_36=some r∧St w0 (Zi col) col_23 w_22∧Zb (Za.pair (Za.int .i8) (Za.pair Za.str (Za.pair (Za.int .i64) (Za.int .i64)))) 63 3 col_23 w_22 a_28 cap_29 v_27∧Rd (Za.fptr 29 (Za.pair (Za.int .i64) (Za.pair (Za.int .i64) (Za.pair (Za.int .i64) Za.str)))) col_23 w_22 [v_31] v_32∧Rd (Za.fptr 29 (Za.pair (Za.int .i64) (Za.pair (Za.int .i64) (Za.pair (Za.int .i64) Za.str)))) col_23 w_22 [v_35] v_36∧Zd 74 1 col_23 w_22 g_25 #[.slice a_28 v_27.length cap_29,v_31,.int .i64 v_34,v_35]∧Zd 65 2 col_23 w_22 g_6 #[.pointer (some ⟨g_25,0,none⟩)]∧Gl (.iface 141 (.agg #[.pointer (some ⟨4,24,none⟩)])) col_23 w_22)) ?_ ?_ ⟨g_1,none,0,([]:List (Int×ByteArray×Int×Int)),.pointer none,(none:(Option (Int×Int×Int×ByteArray))),0,.pointer none,(none:(Option (Int×Int×Int×ByteArray))),hm,hst,Zb.nil,Zob,Zob,hb_5,hb_14,hgl⟩ ?_ ?_ ?_
 ·intro ys_ col_23 w_22 col2_ w2_ hJ hk;obtain ⟨g_25,a_28,cap_29,v_27,v_31,v_32,v_34,v_35,v_36,hm,hst,h_30,h_33,h_37,hb_26,hb_14,hgl⟩:=hJ;exact ⟨g_25,a_28,cap_29,v_27,v_31,v_32,v_34,v_35,v_36,hm,hst.kpp hk O O,h_30.kpp hk O O,h_33.kpp hk O,h_37.kpp hk O,hb_26.kpp hk O,hb_14.kpp hk O,hgl.kpp hk O⟩
 ·intro c_ col_23 w_22 col2_ w2_ hX hk;obtain ⟨rfl,hX⟩:=hX;obtain ⟨g_25,a_28,cap_29,v_27,v_31,v_32,v_34,v_35,v_36,hm,hst,h_30,h_33,h_37,hb_26,hb_14,hgl⟩:=hX;exact ⟨O,⟨g_25,a_28,cap_29,v_27,v_31,v_32,v_34,v_35,v_36,hm,hst.kpp hk O O,h_30.kpp hk O O,h_33.kpp hk O,h_37.kpp hk O,hb_26.kpp hk O,hb_14.kpp hk O,hgl.kpp hk O⟩⟩
 ·intro l_44 rc_45 ds_46 y_38 l_39 col_23 w_22 args hJ hrec hmk harr;obtain ⟨g_25,a_28,cap_29,v_27,v_31,v_32,v_34,v_35,v_36,hm,hst,h_30,h_33,h_37,hb_26,hb_14,hgl⟩:=hJ;rw [Sk.eq_2] at hm;have hki:=Zo.refl (pC 1) col_23 w_22;obtain ⟨v_47,rfl,h_48⟩:=harr;refine go ?_;refine Xs (col:=col_23) #[.int .i8 0,.string (⟨#[]⟩),.int .i64 0,.int .i64 0] 4 zeroValue63 ?_;intro g_53 w_54 col_55 hg_56 hb_57;refine Xa hb_57 ?_;intro w_58 hk_59 hs_60 hb_61;refine go ?_;refine lv (v:=v_47) O O (Yt O)<|Zh ?_;replace hrec:=(hrec.gr hg_56).kp hk_59;refine ⟨_,hrec,?_⟩;intro w_62 rc_63 hk_64 hs_65 hrec2;have hrec:=hrec2;refine go ?_;refine lv (v:=v_47) O O (Yz O) ?_;replace hb_14:=((hb_14.gr hg_56).kp hk_59).kp hk_64;refine lW hb_14.at1<|lV (.pointer (some ⟨g_25,0,none⟩)) (Z2 O)<|Z8 ⟨_,_,O⟩ ?_;replace h_30:=((h_30.gr hg_56).kp hk_59).kp hk_64;replace h_33:=((h_33.gr hg_56).kp hk_59).kp hk_64;replace h_37:=((h_37.gr hg_56).kp hk_59).kp hk_64;replace hgl:=((hgl.gr hg_56).kp hk_59).kp hk_64;replace h_48:=((h_48.gr hg_56).kp hk_59).kp hk_64;replace hb_26:=((hb_26.gr hg_56).kp hk_59).kp hk_64;replace hmk:=((hmk.gr hg_56).kp hk_59).kp hk_64;replace hki:=((hki.gr hg_56).kp hk_59 hs_60 O).kp hk_64 hs_65 O;replace hst:=((hst.grow hg_56).kp hk_59 hs_60).kp hk_64 hs_65;replace hb_61:=hb_61.kp hk_64;refine lV (.iface 77 (.pointer ((some (⟨g_25,0,none⟩:Addr)).map (·.add 1)))) (Zn5 underlying77 O) ?_
  cases hx_67:y_38.2 with
  | none=>
   rw [hx_67] at hm h_48;replace hm:=Znp hm;obtain rfl:=h_48.eN;refine lc O O (Zb6 call30 O O) (Zor _ _) ?_;rintro _ w_68 ⟨rfl,hg_69⟩;refine ⟨_,O,?_⟩;replace hg_69:Zf col_55 w_62 col_55 w_68:=.of_below hg_69;refine Zh<|X6 O<|Zx<|Zkl (col:=col_55) (pS [3]) [(0,5),(1,0),(2,1),(3,1),(4,0),(5,0),(6,3),(7,4),(8,1),(9,1),(10,2)] (by kernel_rfl) (by kernel_rfl) ?_;replace hb_14:=hb_14.gr hg_69;refine Zkp (v:=(.pointer (some ⟨g_25,0,none⟩))) O O (fun _ hC=>Uc isAgg65 O (hb_14.dk hC O O).at1) ?_;refine Zd9 (v:=(.pointer (some ⟨g_25,0,none⟩))) O O (fun _ hC=>Uc isAgg65 O (hb_14.at1.gr (hC.bl col_55))) ?_;refine Wf (v:=(.pointer (some ⟨g_25,0,none⟩))) O O (fun _=>Z2 O) ?_;refine Wf (v:=(.pointer ((some (⟨g_25,0,none⟩:Addr)).map (·.add 0)))) O O (fun _=>Uv (sz:=1) (off:=0) underlying74 O sizeOf59 (by decide) O O ⟨_,_,O⟩) ?_;replace hb_26:=hb_26.gr hg_69;refine Zd9 (v:=(.slice a_28 v_27.length cap_29)) O O (fun _ hC=>Uc isAgg59 O (((hb_26.atN).nth (q:=0) (v:=(.slice a_28 v_27.length cap_29)) O).gr (hC.bl col_55))) ?_;replace hb_61:=hb_61.gr hg_69;refine Zd9 (v:=(.agg #[.int .i8 y_38.1.1,.string y_38.1.2.1,.int .i64 y_38.1.2.2.1,.int .i64 y_38.1.2.2.2])) O O (fun _ hC=>W5 isAgg63 sizeOf63 O O (hb_61.atN.gr (hC.bl col_55))) ?_;refine U6 O O ?_;intro w_70 hC0;have hC:=hC0.bl col_55;replace h_30:=(h_30.gr hg_69).gr hC;replace h_33:=(h_33.gr hg_69).gr hC;replace h_37:=(h_37.gr hg_69).gr hC;replace hgl:=(hgl.gr hg_69).gr hC;replace hrec:=(hrec.gr hg_69).gr hC;replace hmk:=(hmk.gr hg_69).gr hC;replace hki:=(hki.gr hg_69).gr hC;replace hst:=(hst.grow hg_69).grow hC;replace hb_14:=hb_14.gr hC;replace hb_26:=hb_26.gr hC;have hkd_71:Zo (pS [3]) col_55 w_68 col_55 w_70:=hC.toP;refine Tb (col:=col_55) (r:=(Za.pair (Za.int .i8) (Za.pair Za.str (Za.pair (Za.int .i64) (Za.int .i64))))) (xs:=[(y_38.1.1,y_38.1.2.1,y_38.1.2.2.1,y_38.1.2.2.2)]) [(.agg #[.int .i8 y_38.1.1,.string y_38.1.2.1,.int .i64 y_38.1.2.2.1,.int .i64 y_38.1.2.2.2])] 5 (Yp.ofF (Rows.consF (r:=(Za.pair (Za.int .i8) (Za.pair Za.str (Za.pair (Za.int .i64) (Za.int .i64))))) (x:=(y_38.1.1,y_38.1.2.1,y_38.1.2.2.1,y_38.1.2.2.2)) (cs:=[.int .i8 y_38.1.1,.string y_38.1.2.1,.int .i64 y_38.1.2.2.1,.int .i64 y_38.1.2.2.2]) (Wl (Wt .i8 y_38.1.1) (Wl (Sq y_38.1.2.1) (Wl (Wt .i64 y_38.1.2.2.1) (Wt .i64 y_38.1.2.2.2)))) Rows.nil0)) ?_;intro a_72 w_73 col_74 hg_75 h_76;replace hkd_71:=hkd_71.gr hg_75;refine Zh ?_;refine ⟨fun w'=>Zf col_74 w_73 col_74 w',fun w'=>∃ c',Zo (pS [3]) col_74 w_73 c' w',Zf.refl _ _,fun _ h=>⟨_,h.toP⟩,fun _ _ h=>Qn hC0 hg_75 h,fun _ _ ⟨c9,h⟩=>⟨c9,hkd_71.trans h⟩,?_⟩;refine U6 O O ?_
   intro w_77 hC0;have hC:=hC0.bl col_74;replace h_30:=(h_30.gr hg_75).gr hC;replace h_33:=(h_33.gr hg_75).gr hC;replace h_37:=(h_37.gr hg_75).gr hC;replace hgl:=(hgl.gr hg_75).gr hC;replace hb_14:=(hb_14.gr hg_75).gr hC;replace hb_26:=(hb_26.gr hg_75).gr hC;replace hrec:=(hrec.gr hg_75).gr hC;replace hmk:=(hmk.gr hg_75).gr hC;replace hki:=(hki.gr hg_75).gr hC;replace hst:=(hst.grow hg_75).grow hC;replace h_76:=h_76.gr hC;have hkd_78:Zo (pS [3]) col_74 w_73 col_74 w_77:=hC.toP;obtain ⟨hb_79,hm⟩:=Zs hm;refine Zeu (col:=col_74) (w:=w_77) (r:=(Za.pair (Za.int .i8) (Za.pair Za.str (Za.pair (Za.int .i64) (Za.int .i64))))) (c:=3) (c2:=3) (h_30.ex) (h_76.srcN (NB.pair (NB.int (k:=.i8)) (NB.pair NB.str (NB.pair (NB.int (k:=.i64)) (NB.int (k:=.i64)))))) O underlying59 Zww O O O hb_79.1 hb_79.2 (by decide) ?_;intro a_80 cap_81 w_82 col_83 hk_84 h_85;replace h_33:=h_33.kpp hk_84;replace h_37:=h_37.kpp hk_84;replace hgl:=hgl.kpp hk_84;replace hb_14:=hb_14.kpp hk_84;replace hb_26:=hb_26.kpp hk_84;replace hrec:=hrec.kpp hk_84;replace hmk:=hmk.kpp hk_84;replace hki:=hki.trans (hk_84.mono (by first | exact Zqz O | exact pCo_p1 O | exact Zq0 O | exact fun _=>Zyx | exact fun _ h=>h | exact fun _ _=>O));replace hkd_78:=hkd_78.trans (hk_84.mono (by first | exact Zjx O | exact pS_p1 O | exact Zjy O));refine Zh ?_;refine ⟨fun w'=>Zf col_83 w_82 col_83 w',fun w'=>∃ c',Zo (pS [3]) col_83 w_82 c' w',Zf.refl _ _,fun _ h=>⟨_,h.toP⟩,fun h=>absurd h (by decide),fun _ _ ⟨c9,h⟩=>⟨c9,hkd_78.trans h⟩,?_⟩;refine Wf (v:=(.pointer (some ⟨g_25,0,none⟩))) O O (fun _=>Z2 O) ?_;refine Wf (v:=(.pointer ((some (⟨g_25,0,none⟩:Addr)).map (·.add 0)))) O O (fun _=>Uv (sz:=1) (off:=0) underlying74 O sizeOf59 (by decide) O O ⟨_,_,O⟩) ?_;refine U6 O O ?_;intro w_86 hC0;have hC:=hC0.bl col_83;replace hb_26:=hb_26.gr hC;refine X3 (off:=0) (v:=(.slice a_80 ((v_27++[(y_38.1.1,y_38.1.2.1,y_38.1.2.2.1,y_38.1.2.2.2)]).length) cap_81)) hb_26 sizeOf59 O O (by intro u hu;simp only [Value.cells,List.mem_cons,List.not_mem_nil,or_false] at hu;subst hu;rfl) O O ?_;intro w_87 hk_88 hs_89 hb_90;replace hb_90:Zd 74 1 col_83 w_87 g_25 #[.slice a_80 ((v_27++[(y_38.1.1,y_38.1.2.1,y_38.1.2.2.1,y_38.1.2.2.2)]).length) cap_81,v_31,.int .i64 v_34,v_35]:=hb_90;refine Zh ?_;refine ⟨fun w'=>Zf col_83 w_87 col_83 w',fun w'=>∃ c',Zo (pS [3]) col_83 w_87 c' w',Zf.refl _ _,fun _ h=>⟨_,h.toP⟩,fun h=>absurd h (by decide),fun h=>absurd h (by decide),?_⟩;replace h_85:=(h_85.gr hC).kp hk_88;have h_91:=h_85.new;refine Zko ?_;replace hst:=((hst.kpp hk_84).grow hC).kp hk_88 hs_89;replace h_33:=(h_33.gr hC).kp hk_88;replace h_37:=(h_37.gr hC).kp hk_88;replace hgl:=(hgl.gr hC).kp hk_88
   replace hb_14:=(hb_14.gr hC).kp hk_88;replace hrec:=(hrec.gr hC).kp hk_88;replace hmk:=(hmk.gr hC).kp hk_88;replace hki:=(hki.gr hC).kp hk_88 hs_89 O;intro w_92 hC;replace hC:=hC.bl col_83;replace h_91:=h_91.gr hC;replace h_33:=h_33.gr hC;replace h_37:=h_37.gr hC;replace hgl:=hgl.gr hC;replace hb_14:=hb_14.gr hC;replace hb_90:=hb_90.gr hC;replace hrec:=hrec.gr hC;replace hmk:=hmk.gr hC;replace hki:=hki.gr hC;replace hst:=hst.grow hC;exact ⟨_,hki,⟨g_25,a_80,cap_81,(v_27++[(y_38.1.1,y_38.1.2.1,y_38.1.2.2.1,y_38.1.2.2.2)]),v_31,v_32,v_34,v_35,v_36,hm,hst,h_91,h_33,h_37,hb_90,hb_14,hgl⟩,hrec,hmk⟩
  | some f_66=>
   rw [hx_67] at hm h_48;replace hm:=Znq hm;refine lc O O (Zb6 call30 O O) (Zot hgl h_48 hb_26 (k:=1) O O) ?_;rintro _ w_93 ⟨col_94,b_99,rfl,hk_95,hs_96,hb_97,hP_98⟩;refine ⟨_,O,?_⟩;replace hb_97:Zd 74 1 col_94 w_93 g_25 #[.slice a_28 v_27.length cap_29,.pointer (some ⟨b_99,0,none⟩),.int .i64 v_34,v_35]:=hb_97;refine Zh<|X0 O ?_;refine Qh (Zep O (?_));replace h_30:=h_30.kp hk_95;replace h_37:=h_37.kp hk_95;replace hgl:=hgl.kp hk_95;replace hb_14:=hb_14.kp hk_95;replace hrec:=hrec.kp hk_95;replace hmk:=hmk.kp hk_95;replace hki:=hki.kp hk_95 hs_96 O;replace hst:=hst.kp hk_95 hs_96;exact ⟨_,hki,⟨O,⟨g_25,a_28,cap_29,v_27,.pointer (some ⟨b_99,0,none⟩),(some f_66),v_34,v_35,v_36,hm,hst,h_30,hP_98,h_37,hb_97,hb_14,hgl⟩⟩,hrec,hmk⟩
 ·intro D_40 col_23 w_22 hJ hmk;obtain ⟨g_25,a_28,cap_29,v_27,v_31,v_32,v_34,v_35,v_36,hm,hst,h_30,h_33,h_37,hb_26,hb_14,hgl⟩:=hJ;rw [Sk.eq_1] at hm;refine go ?_;refine lW hb_14.at1<|go ?_;cases hm;refine ⟨_,(D_40 :: []),O,hmk,?_⟩;intro w_41 hk_42 hs_43;replace h_30:=h_30.kp hk_42;replace h_33:=h_33.kp hk_42;replace h_37:=h_37.kp hk_42;replace hb_26:=hb_26.kp hk_42;replace hst:=hst.kp hk_42 hs_43;exact ⟨Vo w0.heap.size col col_23 (fun n=>bif Nat.beq n 1 then c1 else bif Nat.beq n 3 then c2 else 0),.pointer (some ⟨g_25,0,none⟩),O,hst.fin (fun n=>bif Nat.beq n 1 then c1 else bif Nat.beq n 3 then c2 else 0),Zqx ⟨g_25,a_28,cap_29,v_31,v_35,O,hst.finBox (G:=(fun n=>bif Nat.beq n 1 then c1 else bif Nat.beq n 3 then c2 else 0)) hb_26 (by decide) (by decide) O,hst.finOwn (g:=(fun n=>bif Nat.beq n 1 then c1 else bif Nat.beq n 3 then c2 else 0)) O h_30 (by decide) (by decide) O,hst.finRd (g:=(fun n=>bif Nat.beq n 1 then c1 else bif Nat.beq n 3 then c2 else 0)) O h_33,hst.finRd (g:=(fun n=>bif Nat.beq n 1 then c1 else bif Nat.beq n 3 then c2 else 0)) O h_37⟩⟩
 intro c_ D_49 col_23 w_22 hX hmk;obtain ⟨rfl,hX⟩:=hX;obtain ⟨g_25,a_28,cap_29,v_27,v_31,v_32,v_34,v_35,v_36,hm,hst,h_30,h_33,h_37,hb_26,hb_14,hgl⟩:=hX;rw [Zmy.eq_1] at hm;refine go ?_;refine lW hb_14.at1<|go ?_;cases hm;refine ⟨_,(D_49 :: []),O,hmk,?_⟩;intro w_50 hk_51 hs_52;replace h_30:=h_30.kp hk_51;replace h_33:=h_33.kp hk_51;replace h_37:=h_37.kp hk_51;replace hb_26:=hb_26.kp hk_51;replace hst:=hst.kp hk_51 hs_52;exact ⟨Vo w0.heap.size col col_23 (fun n=>bif Nat.beq n 1 then c1 else bif Nat.beq n 3 then c2 else 0),.pointer (some ⟨g_25,0,none⟩),O,hst.fin (fun n=>bif Nat.beq n 1 then c1 else bif Nat.beq n 3 then c2 else 0),Zqx ⟨g_25,a_28,cap_29,v_31,v_35,O,hst.finBox (G:=(fun n=>bif Nat.beq n 1 then c1 else bif Nat.beq n 3 then c2 else 0)) hb_26 (by decide) (by decide) O,hst.finOwn (g:=(fun n=>bif Nat.beq n 1 then c1 else bif Nat.beq n 3 then c2 else 0)) O h_30 (by decide) (by decide) O,hst.finRd (g:=(fun n=>bif Nat.beq n 1 then c1 else bif Nat.beq n 3 then c2 else 0)) O h_33,hst.finRd (g:=(fun n=>bif Nat.beq n 1 then c1 else bif Nat.beq n 3 then c2 else 0)) O h_37⟩⟩
def Ziw (r_14:List (Int×ByteArray×Int×Int)) (r_19:(Option (Int×Int×Int×ByteArray))) (r_21:Int) (r_23:(Option (Int×Int×Int×ByteArray))):Option ((Int×ByteArray×Int×Int)×((List (Int×ByteArray×Int×Int))×(Option (Int×Int×Int×ByteArray))×Int×(Option (Int×Int×Int×ByteArray)))):=
  some (((-1),⟨#[]⟩,0,0),(r_14,r_19,r_21,r_23))
def Ziv (p0_r:((List (Int×ByteArray×Int×Int))×(Option (Int×Int×Int×ByteArray))×Int×(Option (Int×Int×Int×ByteArray)))) (v_8:Int) (v_9:ByteArray) (v_10:Int) (v_11:Int):Option ((Int×ByteArray×Int×Int)×((List (Int×ByteArray×Int×Int))×(Option (Int×Int×Int×ByteArray))×Int×(Option (Int×Int×Int×ByteArray)))):=
  if (!p0_r.2.2.2.isSome)=true then (p0_r.2.1.bind fun f_29=>Ziw p0_r.1 (some f_29) p0_r.2.2.1 (some (50,f_29.2.1,f_29.2.2.1,f_29.2.2.2))) else (Ziw p0_r.1 p0_r.2.1 p0_r.2.2.1 p0_r.2.2.2)
def Zdl (p0_r:((List (Int×ByteArray×Int×Int))×(Option (Int×Int×Int×ByteArray))×Int×(Option (Int×Int×Int×ByteArray)))) (v_78:Bool):Option ((Int×ByteArray×Int×Int)×((List (Int×ByteArray×Int×Int))×(Option (Int×Int×Int×ByteArray))×Int×(Option (Int×Int×Int×ByteArray)))):=
  if v_78=true then ((Zt p0_r.1 p0_r.2.2.1).bind fun e_79=>some ((e_79.1,e_79.2.1,e_79.2.2.1,e_79.2.2.2),(p0_r.1,p0_r.2.1,p0_r.2.2.1,p0_r.2.2.2))) else (Ziv p0_r 0 (⟨#[]⟩) 0 0)
def Sh (p0_r:((List (Int×ByteArray×Int×Int))×(Option (Int×Int×Int×ByteArray))×Int×(Option (Int×Int×Int×ByteArray)))):Option ((Int×ByteArray×Int×Int)×((List (Int×ByteArray×Int×Int))×(Option (Int×Int×Int×ByteArray))×Int×(Option (Int×Int×Int×ByteArray)))):=
  if (!p0_r.2.2.2.isSome)=true then (Zdl p0_r (decide (p0_r.2.2.1<(p0_r.1.length:Int)))) else (Zdl p0_r false)
theorem Zei {g0 cap0_2:Nat} {a0_2:Option Addr} {col:Zc} {w0:World} {p0_r:((List (Int×ByteArray×Int×Int))×(Option (Int×Int×Int×ByteArray))×Int×(Option (Int×Int×Int×ByteArray)))} {ve0_4 ve0_5:Value} {r:((Int×ByteArray×Int×Int)×((List (Int×ByteArray×Int×Int))×(Option (Int×Int×Int×ByteArray))×Int×(Option (Int×Int×Int×ByteArray))))} (qc0 qc0_1:Nat) (hm:Sh p0_r=some r) (hd:X9 [qc0,qc0_1]=true) (h0_2:Zb (Za.pair (Za.int .i8) (Za.pair Za.str (Za.pair (Za.int .i64) (Za.int .i64)))) 63 qc0_1 col w0 a0_2 cap0_2 p0_r.1) (he0_4:Rd (Za.fptr 29 (Za.pair (Za.int .i64) (Za.pair (Za.int .i64) (Za.pair (Za.int .i64) Za.str)))) col w0 [ve0_4] p0_r.2.1) (he0_5:Rd (Za.fptr 29 (Za.pair (Za.int .i64) (Za.pair (Za.int .i64) (Za.pair (Za.int .i64) Za.str)))) col w0 [ve0_5] p0_r.2.2.2) (hb0:Zd 74 qc0 col w0 g0 #[.slice a0_2 p0_r.1.length cap0_2,ve0_4,.int .i64 p0_r.2.2.1,ve0_5]):
    Calls prog 22 #[.pointer (some ⟨g0,0,none⟩)] w0 (fun e w'=>∃ (col':Zc) (oa1:Option Addr) (oc2:Nat) (ov4:Value) (ov6:Value),e= .returned ((.agg #[.int .i8 r.1.1,.string r.1.2.1,.int .i64 r.1.2.2.1,.int .i64 r.1.2.2.2]))∧Zo (pS [qc0,qc0_1]) col w0 col' w'∧Zb (Za.pair (Za.int .i8) (Za.pair Za.str (Za.pair (Za.int .i64) (Za.int .i64)))) 63 qc0_1 col' w' oa1 oc2 r.2.1∧Rd (Za.fptr 29 (Za.pair (Za.int .i64) (Za.pair (Za.int .i64) (Za.pair (Za.int .i64) Za.str)))) col' w' [ov4] r.2.2.1∧Rd (Za.fptr 29 (Za.pair (Za.int .i64) (Za.pair (Za.int .i64) (Za.pair (Za.int .i64) Za.str)))) col' w' [ov6] r.2.2.2.2∧Zd 74 qc0 col' w' g0 #[.slice oa1 r.2.1.length oc2,ov4,.int .i64 r.2.2.2.1,ov6]):=by
 refine Wk (m:=62) func22 O O O ?_;rw [Sh.eq_1] at hm;have hst:=St.startL (l:=[qc0,qc0_1]) O col w0;replace hb0:=hb0.startL (X5 hd 0 O) (X4 hd 0 O);replace h0_2:=h0_2.startL (X5 hd 1 O) (X4 hd 1 O);refine go ?_;refine Xs (col:=(Zu [qc0,qc0_1] col)) #[.int .i8 0,.string (⟨#[]⟩),.int .i64 0,.int .i64 0] 1 zeroValue63 ?_;intro g_1 w_2 col_3 hg_4 hb_5;refine Zh<|Zm ?_;replace he0_4:=(he0_4.keep (Zk.startL [qc0,qc0_1] col w0)).gr hg_4;replace he0_5:=(he0_5.keep (Zk.startL [qc0,qc0_1] col w0)).gr hg_4;replace h0_2:=h0_2.gr hg_4;replace hb0:=hb0.gr hg_4;replace hst:=hst.grow hg_4;refine Wp.cutK [0,2,1000000] (fun f w_6=>∃ col_7 v_8 v_9 v_10 v_11,Ziv p0_r v_8 v_9 v_10 v_11=some r∧St w0 (Zu [qc0,qc0_1] col) col_7 w_6∧Zb (Za.pair (Za.int .i8) (Za.pair Za.str (Za.pair (Za.int .i64) (Za.int .i64)))) 63 441 col_7 w_6 a0_2 cap0_2 p0_r.1∧Rd (Za.fptr 29 (Za.pair (Za.int .i64) (Za.pair (Za.int .i64) (Za.pair (Za.int .i64) Za.str)))) col_7 w_6 [ve0_4] p0_r.2.1∧Rd (Za.fptr 29 (Za.pair (Za.int .i64) (Za.pair (Za.int .i64) (Za.pair (Za.int .i64) Za.str)))) col_7 w_6 [ve0_5] p0_r.2.2.2∧Zd 74 440 col_7 w_6 g0 #[.slice a0_2 p0_r.1.length cap0_2,ve0_4,.int .i64 p0_r.2.2.1,ve0_5]∧Zd 63 1 col_7 w_6 g_1 #[.int .i8 v_8,.string v_9,.int .i64 v_10,.int .i64 v_11]) ?_ ?_
 ·intro f w_6 hJ;obtain ⟨col_7,v_8,v_9,v_10,v_11,hm,hst,h0_2,he0_4,he0_5,hb0,hb_5⟩:=hJ;rw [Ziv.eq_1] at hm;refine Zm ?_;refine Wp.cutK [2,1000000] (fun f w_12=>∃ col_13 a_15 cap_16 r_14 v_18 r_19 r_21 v_22 r_23,Ziw r_14 r_19 r_21 r_23=some r∧St w0 (Zu [qc0,qc0_1] col) col_13 w_12∧Zd 63 1 col_13 w_12 g_1 #[.int .i8 v_8,.string v_9,.int .i64 v_10,.int .i64 v_11]∧Zb (Za.pair (Za.int .i8) (Za.pair Za.str (Za.pair (Za.int .i64) (Za.int .i64)))) 63 441 col_13 w_12 a_15 cap_16 r_14∧Rd (Za.fptr 29 (Za.pair (Za.int .i64) (Za.pair (Za.int .i64) (Za.pair (Za.int .i64) Za.str)))) col_13 w_12 [v_18] r_19∧Rd (Za.fptr 29 (Za.pair (Za.int .i64) (Za.pair (Za.int .i64) (Za.pair (Za.int .i64) Za.str)))) col_13 w_12 [v_22] r_23∧Zd 74 440 col_13 w_12 g0 #[.slice a_15 r_14.length cap_16,v_18,.int .i64 r_21,v_22]) ?_ ?_
  ·intro f w_12 hJ;obtain ⟨col_13,a_15,cap_16,r_14,v_18,r_19,r_21,v_22,r_23,hm,hst,hb_5,h_17,h_20,h_24,hb0⟩:=hJ;rw [Ziw.eq_1] at hm;refine go ?_;refine lV (.agg #[.int .i8 (-1),.string (⟨#[]⟩),.int .i64 0,.int .i64 0]) (Yy (l:=[_,_,_,_]) (qs:=[(0,1),(1,1),(2,1),(3,1)]) underlying63 zeroValue63 ⟨O,sizeOf46,O,sizeOf9,O,sizeOf3,O,sizeOf3,trivial⟩ O)<|Xa hb_5 ?_;intro w_25 hk_26 hs_27 hb_28;refine go ?_;cases hm;replace h_17:=h_17.kp hk_26;replace h_20:=h_20.kp hk_26;replace h_24:=h_24.kp hk_26;replace hb0:=hb0.kp hk_26;replace hst:=hst.kp hk_26 hs_27;exact ⟨O,_,Zoc O O isAgg63 sizeOf63 O O hb_28.atN,Xt w0.heap.size [qc0,qc0_1] col col_13 (fun n=>bif Nat.beq n 441 then qc0_1 else bif Nat.beq n 440 then qc0 else 0),a_15,cap_16,v_18,v_22,O,hst.finL O (fun n=>bif Nat.beq n 441 then qc0_1 else bif Nat.beq n 440 then qc0 else 0),hst.finOwnL (g:=(fun n=>bif Nat.beq n 441 then qc0_1 else bif Nat.beq n 440 then qc0 else 0)) O h_17 (by decide) (by decide) O,hst.finRdL (g:=(fun n=>bif Nat.beq n 441 then qc0_1 else bif Nat.beq n 440 then qc0 else 0)) O h_20,hst.finRdL (g:=(fun n=>bif Nat.beq n 441 then qc0_1 else bif Nat.beq n 440 then qc0 else 0)) O h_24,hst.finBoxL (g:=(fun n=>bif Nat.beq n 441 then qc0_1 else bif Nat.beq n 440 then qc0 else 0)) hb0 (by decide) (by decide) O⟩
  refine go ?_;refine lV (.pointer (some ⟨g0,0,none⟩)) (Z2 O)<|Z6 hb0<|lV (.bool (!p0_r.2.2.2.isSome)) (Zdy he0_5 underlying72 O)<|Zh ?_;refine Zl hm (fun hb hm=>?_) fun hb hm=>?_
  ·refine Vm (col:=col_7) [(0,1),(1,1),(2,1),(3,1),(4,0),(5,1),(6,1),(7,0),(8,1),(9,1),(10,1),(11,0),(12,1),(13,1),(14,0),(15,1),(16,1),(17,1),(18,0),(19,1),(20,1),(21,0),(22,1),(23,3),(24,1),(25,1),(26,2)] (by kernel_rfl) (by kernel_rfl)<|xu O O (fun _=>Ud O) ?_;refine xu O O (fun _=>Ud O) ?_;refine xu (v:=(.pointer (some ⟨g0,0,none⟩))) O O (fun _=>Z2 O) ?_;refine xF ⟨_,_,O⟩ ?_;refine xW (fun _ hC=>((hb0.atN).nth (q:=1) O).gr (hC.bl col_7)) ?_;obtain ⟨f_29,hf_30,hm⟩:=bZ hm;rw [hf_30] at he0_4;obtain ⟨b_31,_,rfl,hF_32,hr_33⟩:=he0_4.pS;obtain ⟨_,_,rfl,hp_34,hp_35⟩:=We hr_33;obtain ⟨rfl,_⟩:=hp_34;obtain ⟨_,_,rfl,hp_36,hp_37⟩:=We hp_35;obtain ⟨rfl,_⟩:=hp_36;obtain ⟨_,_,rfl,hp_38,hp_39⟩:=We hp_37;obtain ⟨rfl,_⟩:=hp_38;obtain ⟨rfl,_⟩:=hp_39;replace hF_32:Y0 29 col_7 w_6 b_31 [.int .i64 f_29.1,.int .i64 f_29.2.1,.int .i64 f_29.2.2.1,.string f_29.2.2.2]:=hF_32;refine xu (v:=(.pointer (some ⟨b_31,0,none⟩))) O O (fun _=>Z2 O) ?_;refine xF ⟨_,_,O⟩ ?_;refine xW (fun _ hC=>(hF_32.gr (hC.bl col_7)).atN.nth (q:=1) O) ?_;refine xu O O (fun _=>Ud O) ?_;refine xu (v:=(.pointer (some ⟨g0,0,none⟩))) O O (fun _=>Z2 O) ?_;refine xF ⟨_,_,O⟩ ?_;refine xW (fun _ hC=>((hb0.atN).nth (q:=1) O).gr (hC.bl col_7)) ?_;obtain ⟨_,_,hq9,hF_41,hr_42⟩:=he0_4.pS;cases hq9;obtain ⟨_,_,rfl,hp_43,hp_44⟩:=We hr_42;obtain ⟨rfl,_⟩:=hp_43;obtain ⟨_,_,rfl,hp_45,hp_46⟩:=We hp_44;obtain ⟨rfl,_⟩:=hp_45;obtain ⟨_,_,rfl,hp_47,hp_48⟩:=We hp_46;obtain ⟨rfl,_⟩:=hp_47;obtain ⟨rfl,_⟩:=hp_48;replace hF_41:Y0 29 col_7 w_6 b_31 [.int .i64 f_29.1,.int .i64 f_29.2.1,.int .i64 f_29.2.2.1,.string f_29.2.2.2]:=hF_41;refine xu (v:=(.pointer (some ⟨b_31,0,none⟩))) O O (fun _=>Z2 O) ?_;refine xF ⟨_,_,O⟩ ?_;refine xW (fun _ hC=>(hF_41.gr (hC.bl col_7)).atN.nth (q:=2) O) ?_;refine xu O O (fun _=>Ud O) ?_;refine xu (v:=(.pointer (some ⟨g0,0,none⟩))) O O (fun _=>Z2 O) ?_;refine xF ⟨_,_,O⟩ ?_;refine xW (fun _ hC=>((hb0.atN).nth (q:=1) O).gr (hC.bl col_7)) ?_;obtain ⟨_,_,hq9,hF_50,hr_51⟩:=he0_4.pS;cases hq9;obtain ⟨_,_,rfl,hp_52,hp_53⟩:=We hr_51;obtain ⟨rfl,_⟩:=hp_52;obtain ⟨_,_,rfl,hp_54,hp_55⟩:=We hp_53;obtain ⟨rfl,_⟩:=hp_54;obtain ⟨_,_,rfl,hp_56,hp_57⟩:=We hp_55;obtain ⟨rfl,_⟩:=hp_56;obtain ⟨rfl,_⟩:=hp_57;replace hF_50:Y0 29 col_7 w_6 b_31 [.int .i64 f_29.1,.int .i64 f_29.2.1,.int .i64 f_29.2.2.1,.string f_29.2.2.2]:=hF_50;refine xu (v:=(.pointer (some ⟨b_31,0,none⟩))) O O (fun _=>Z2 O) ?_;refine xF ⟨_,_,O⟩ ?_;refine xW (fun _ hC=>(hF_50.gr (hC.bl col_7)).atN.nth (q:=3) O) ?_
   refine xu (v:=(.agg #[.int .i64 50,.int .i64 f_29.2.1,.int .i64 f_29.2.2.1,.string f_29.2.2.2])) O O (fun _=>Yy (l:=[_,_,_,_]) (qs:=[(0,1),(1,1),(2,1),(3,1)]) underlying29 zeroValue29 ⟨O,sizeOf27,O,sizeOf3,O,sizeOf3,O,sizeOf9,trivial⟩ O) ?_;refine xe O O ?_;intro w_58 hC0;have hC:=hC0.bl col_7;refine Yq (col:=col_7) 2 O ?_;intro g_59 w_60 col_61 hg_62 hb_63;refine Zh<|Wm col_61 hC0 hg_62<|xu (v:=(.pointer (some ⟨g0,0,none⟩))) O O (fun _=>Z2 O) ?_;refine xF ⟨_,_,O⟩ ?_;refine xe O O ?_;intro w_64 hC0;replace h0_2:=(h0_2.gr hC).gr hg_62;replace he0_4:=(he0_4.gr hC).gr hg_62;replace hb0:=(hb0.gr hC).gr hg_62;replace hb_5:=(hb_5.gr hC).gr hg_62;replace hst:=(hst.grow hC).grow hg_62;have hC:=hC0.bl col_61;replace hb0:=hb0.gr hC;refine X3 (off:=3) (v:=(.pointer (some ⟨g_59,0,none⟩))) hb0 sizeOf72 O O (by intro u hu;simp only [Value.cells,List.mem_cons,List.not_mem_nil,or_false] at hu;subst hu;rfl) O O ?_;intro w_65 hk_66 hs_67 hb_68;replace hb_68:Zd 74 440 col_61 w_65 g0 #[.slice a0_2 p0_r.1.length cap0_2,.pointer (some ⟨b_31,0,none⟩),.int .i64 p0_r.2.2.1,.pointer (some ⟨g_59,0,none⟩)]:=hb_68;refine Zh<|xk col_61<|Wz ?_;replace h0_2:=(h0_2.gr hC).kp hk_66;replace he0_4:=(he0_4.gr hC).kp hk_66;replace hb_5:=(hb_5.gr hC).kp hk_66;replace hb_63:=(hb_63.gr hC).kp hk_66;replace hst:=(hst.grow hC).kp hk_66 hs_67;intro w_69 hC;replace hC:=hC.bl col_61;replace h0_2:=h0_2.gr hC;replace h0_2:=h0_2.froz 2 (by decide);replace he0_4:=he0_4.gr hC;replace he0_4:=he0_4.froz 2;replace hb_68:=hb_68.gr hC;replace hb_68:=hb_68.froz 2 (by decide);replace hb_5:=hb_5.gr hC;replace hb_5:=hb_5.froz 2 (by decide);replace hst:=hst.grow hC;replace hst:=hst.froz 2 (by decide) (by decide);replace hb_63:=hb_63.gr hC;have hF_70:Y0 29 (Yd 2 col_61) w_69 g_59 [.int .i64 50,.int .i64 f_29.2.1,.int .i64 f_29.2.2.1,.string f_29.2.2.2]:=Zd.fz hb_63;have hP_72:Rd (Za.fptr 29 (Za.pair (Za.int .i64) (Za.pair (Za.int .i64) (Za.pair (Za.int .i64) Za.str)))) (Yd 2 col_61) w_69 [.pointer (some ⟨g_59,0,none⟩)] (some (50,f_29.2.1,f_29.2.2.1,f_29.2.2.2)):=Y0.ptr hF_70 (Wl (Wt .i64 50) (Wl (Wt .i64 f_29.2.1) (Wl (Wt .i64 f_29.2.2.1) (Sq f_29.2.2.2))));exact ⟨O,_,_,_,_,_,_,_,_,_,hm,hst,hb_5,h0_2,he0_4,hP_72,hb_68⟩
  refine Zx ?_;exact ⟨O,_,_,_,_,_,_,_,_,_,hm,hst,hb_5,h0_2,he0_4,he0_5,hb0⟩
 refine Zm ?_;refine Wp.cutK [0,2,1000000] (fun f w_76=>∃ col_77 v_78,Zdl p0_r v_78=some r∧St w0 (Zu [qc0,qc0_1] col) col_77 w_76∧Zb (Za.pair (Za.int .i8) (Za.pair Za.str (Za.pair (Za.int .i64) (Za.int .i64)))) 63 441 col_77 w_76 a0_2 cap0_2 p0_r.1∧Rd (Za.fptr 29 (Za.pair (Za.int .i64) (Za.pair (Za.int .i64) (Za.pair (Za.int .i64) Za.str)))) col_77 w_76 [ve0_4] p0_r.2.1∧Rd (Za.fptr 29 (Za.pair (Za.int .i64) (Za.pair (Za.int .i64) (Za.pair (Za.int .i64) Za.str)))) col_77 w_76 [ve0_5] p0_r.2.2.2∧Zd 74 440 col_77 w_76 g0 #[.slice a0_2 p0_r.1.length cap0_2,ve0_4,.int .i64 p0_r.2.2.1,ve0_5]∧Zd 63 1 col_77 w_76 g_1 #[.int .i8 0,.string (⟨#[]⟩),.int .i64 0,.int .i64 0]∧[19].map f=[.bool v_78]) ?_ ?_
 ·intro f w_76 hJ;obtain ⟨col_77,v_78,hm,hst,h0_2,he0_4,he0_5,hb0,hb_5,hs⟩:=hJ;rw [Zdl.eq_1] at hm;refine .lL [19] hs ?_;refine Zl hm (fun hb hm=>?_) fun hb hm=>?_
  ·refine Zm<|Vm (col:=col_77) [(0,1),(1,1),(2,1),(3,0),(4,1),(5,1),(6,1),(7,0),(8,1),(9,0),(10,2)] (by kernel_rfl) (by kernel_rfl)<|xu O O (fun _=>Ud O) ?_;refine xu (v:=(.pointer (some ⟨g0,0,none⟩))) O O (fun _=>Z2 O) ?_;refine xF ⟨_,_,O⟩ ?_;refine xW (fun _ hC=>((hb0.atN).nth (q:=0) O).gr (hC.bl col_77)) ?_;refine xu O O (fun _=>Ud O) ?_;refine xu (v:=(.pointer (some ⟨g0,0,none⟩))) O O (fun _=>Z2 O) ?_;refine xF ⟨_,_,O⟩ ?_;refine xW (fun _ hC=>((hb0.atN).nth (q:=2) O).gr (hC.bl col_77)) ?_;obtain ⟨e_79,hj_80,hm⟩:=bZ hm;refine xu O O (fun _=>Vv underlying59 sizeOf63 O O (X7 hj_80).1 (X7 hj_80).2.1 (h0_2.addr hj_80)) ?_;obtain ⟨_,hr_81,hA_82⟩:=h0_2.atN hj_80;obtain ⟨_,_,rfl,hp_83,hp_84⟩:=hr_81.parts;obtain rfl:=hp_83.int;obtain ⟨_,_,rfl,hp_85,hp_86⟩:=hp_84.parts;obtain rfl:=hp_85.str;obtain ⟨_,_,rfl,hp_87,hp_88⟩:=hp_86.parts;obtain rfl:=hp_87.int;obtain rfl:=hp_88.int;refine xv (v:=(.agg #[.int .i8 e_79.1,.string e_79.2.1,.int .i64 e_79.2.2.1,.int .i64 e_79.2.2.2])) O O (fun _ hC=>W5 isAgg63 sizeOf63 O O (hA_82.gr (hC.bl col_77))) ?_;refine xe O O ?_;intro w_89 hC0;have hC:=hC0.bl col_77;replace hb_5:=hb_5.gr hC;refine Xa hb_5 ?_;intro w_90 hk_91 hs_92 hb_93;refine Zh<|xk col_77<|Wz ?_;replace h0_2:=(h0_2.gr hC).kp hk_91;replace he0_4:=(he0_4.gr hC).kp hk_91;replace he0_5:=(he0_5.gr hC).kp hk_91;replace hb0:=(hb0.gr hC).kp hk_91;replace hst:=(hst.grow hC).kp hk_91 hs_92;intro w_94 hC;replace hC:=hC.bl col_77;refine Wv ?_;cases hm;replace h0_2:=h0_2.gr hC;replace he0_4:=he0_4.gr hC;replace he0_5:=he0_5.gr hC;replace hb0:=hb0.gr hC;replace hb_93:=hb_93.gr hC;replace hst:=hst.grow hC;exact ⟨O,_,Zoc O O isAgg63 sizeOf63 O O hb_93.atN,Xt w0.heap.size [qc0,qc0_1] col col_77 (fun n=>bif Nat.beq n 441 then qc0_1 else bif Nat.beq n 440 then qc0 else 0),a0_2,cap0_2,ve0_4,ve0_5,O,hst.finL O (fun n=>bif Nat.beq n 441 then qc0_1 else bif Nat.beq n 440 then qc0 else 0),hst.finOwnL (g:=(fun n=>bif Nat.beq n 441 then qc0_1 else bif Nat.beq n 440 then qc0 else 0)) O h0_2 (by decide) (by decide) O,hst.finRdL (g:=(fun n=>bif Nat.beq n 441 then qc0_1 else bif Nat.beq n 440 then qc0 else 0)) O he0_4,hst.finRdL (g:=(fun n=>bif Nat.beq n 441 then qc0_1 else bif Nat.beq n 440 then qc0 else 0)) O he0_5,hst.finBoxL (g:=(fun n=>bif Nat.beq n 441 then qc0_1 else bif Nat.beq n 440 then qc0 else 0)) hb0 (by decide) (by decide) O⟩
  refine Zx ?_;exact ⟨O,_,0,_,0,0,hm,hst,h0_2,he0_4,he0_5,hb0,hb_5⟩
 refine Vx (col:=col_3) (by kernel_rfl) (by kernel_rfl)<|go ?_;refine qv (v:=(.pointer (some ⟨g0,0,none⟩))) O (fun _ hC=>Z2 O) ?_;refine qF ⟨_,_,O⟩ ?_;refine qW (fun _ hC=>((hb0.atN).nth (q:=3) O).gr (hC.bl col_3)) ?_;refine qv (v:=(.bool (!p0_r.2.2.2.isSome))) O (fun _ hC=>Zdy he0_5 underlying72 O) ?_;refine go ?_;refine Z4 hm (fun hg_95 hm=>go ?_) fun hg_95 hm=>go ?_
 ·refine qv (v:=(.pointer (some ⟨g0,0,none⟩))) O (fun _ hC=>Z2 O) ?_;refine go ?_;refine qF ⟨_,_,O⟩ ?_;refine go ?_;refine qW (fun _ hC=>((hb0.atN).nth (q:=2) O).gr (hC.bl col_3)) ?_;refine go ?_;refine qv (v:=(.pointer (some ⟨g0,0,none⟩))) O (fun _ hC=>Z2 O) ?_;refine go ?_;refine qF ⟨_,_,O⟩ ?_;refine go ?_;refine qW (fun _ hC=>((hb0.atN).nth (q:=0) O).gr (hC.bl col_3)) ?_;refine go ?_;refine qv (v:=(.bool (decide (p0_r.2.2.1<(p0_r.1.length:Int))))) O (fun _ hC=>Zv (congrArg Value.bool hg_95) O) ?_;refine Wi ?_;intro w_96 hC;replace hC:=hC.bl col_3;replace h0_2:=h0_2.gr hC;replace he0_4:=he0_4.gr hC;replace he0_5:=he0_5.gr hC;replace hb0:=hb0.gr hC;replace hb_5:=hb_5.gr hC;replace hst:=hst.grow hC;exact ⟨O,_,_,hm,hst,h0_2,he0_4,he0_5,hb0,hb_5,O⟩
 refine qv (v:=(.bool false)) O (fun _ hC=>Zq (congrArg Value.bool hg_95) O) ?_;refine Wi ?_;intro w_97 hC;replace hC:=hC.bl col_3;replace h0_2:=h0_2.gr hC;replace he0_4:=he0_4.gr hC;replace he0_5:=he0_5.gr hC;replace hb0:=hb0.gr hC;replace hb_5:=hb_5.gr hC;replace hst:=hst.grow hC;exact ⟨O,_,_,hm,hst,h0_2,he0_4,he0_5,hb0,hb_5,O⟩
theorem Zwx:Wg prog 9 1 16:=⟨Tryz.t9,_,rfl,rfl,rfl,rfl,rfl⟩
def Zgc (p0_s:List ByteArray):Option (List ByteArray):=
  Zp ((([]:List ByteArray).length+p0_s.length) * 16≤140737488355328∧([]:List ByteArray).length+p0_s.length≤maxLen) (some (([]:List ByteArray)++p0_s))
theorem Zvs {cap0:Nat} {a0:Option Addr} {col:Zc} {w0:World} {p0_s r:(List ByteArray)} (c1:Nat) (hm:Zgc p0_s=some r) (h0:Sl Za.str col w0 a0 cap0 p0_s):
    Calls prog 24 #[.slice a0 p0_s.length cap0] w0 (fun e w'=>∃ (col':Zc) (ra1:Option Addr) (rc2:Nat),e= .returned ((.slice ra1 r.length rc2))∧Zf col w0 col' w'∧Zb Za.str 9 c1 col' w' ra1 rc2 r):=by
 refine Z1 2 (m:=8) func24 O O O O O ?_;rw [Zgc.eq_1] at hm;have hst:=St.start col w0;refine go ?_;replace h0:=h0.keep (Zk.start col w0);rcases Znn h0 with hn_1 | hn_1
 ·replace hm:some ([]:List ByteArray)=some r:=by have h0:=hn_1.2;subst h0;simpa [Zp,maxLen] using hm
  refine lv (v:=.bool a0.isNone) O O (Zdx underlying40 O)<|.ld (d:=4) (v:=.bool true) (congrArg Value.bool hn_1.1)<|Zh<|X0 O<|go ?_;cases hm;exact ⟨O,_,none,0,O,hst.fin (cm []),Zb.nil⟩
 refine lv (v:=.bool a0.isNone) O O (Zdx underlying40 O)<|.ld (d:=4) (v:=.bool false) (congrArg Value.bool hn_1)<|Zh<|X6 O<|go ?_;refine Zhk (col:=(Zi col)) (r:=Za.str) 1 O underlying40 Zwx O ?_;intro a_2 w_3 col_4 hg_5 h_6;refine Wq O ?_;obtain ⟨hb_7,hm⟩:=Zs hm;replace h0:=h0.gr hg_5;refine V9 h_6 h0.srcC hb_7 ?_;intro a_8 cap_9 w_10 col_11 hk_12 h_13;refine go ?_;cases hm;replace hst:=(hst.grow hg_5).kpp hk_12;exact ⟨O,_,_,_,O,hst.fin (cm [(1,c1)]),hst.fo h_13⟩
def Zaa (r_1:((Int×ByteArray×Int×Int)×((List (Int×ByteArray×Int×Int))×(Option (Int×Int×Int×ByteArray))×Int×(Option (Int×Int×Int×ByteArray))))) (v_26:Bool):Option (Bool×((List (Int×ByteArray×Int×Int))×(Option (Int×Int×Int×ByteArray))×Int×(Option (Int×Int×Int×ByteArray)))):=
  if v_26=true then (some (false,(r_1.2.1,r_1.2.2.1,r_1.2.2.2.1,r_1.2.2.2.2))) else (some (true,(r_1.2.1,r_1.2.2.1,i64.wrap (r_1.2.2.2.1+1),r_1.2.2.2.2)))
def Sj (p0_r:((List (Int×ByteArray×Int×Int))×(Option (Int×Int×Int×ByteArray))×Int×(Option (Int×Int×Int×ByteArray)))) (p1_s:ByteArray):Option (Bool×((List (Int×ByteArray×Int×Int))×(Option (Int×Int×Int×ByteArray))×Int×(Option (Int×Int×Int×ByteArray)))):=
  (Sh (p0_r.1,p0_r.2.1,p0_r.2.2.1,p0_r.2.2.2)).bind fun r_1=>if (!decide (r_1.1.1=4))=true then (Zaa r_1 true) else (Zaa r_1 (!decide (r_1.1.2.1=p1_s)))
theorem Zej {g0 cap0_2:Nat} {a0_2:Option Addr} {col:Zc} {w0:World} {p0_r:((List (Int×ByteArray×Int×Int))×(Option (Int×Int×Int×ByteArray))×Int×(Option (Int×Int×Int×ByteArray)))} {ve0_4 ve0_5:Value} {p1_s:ByteArray} {r:(Bool×((List (Int×ByteArray×Int×Int))×(Option (Int×Int×Int×ByteArray))×Int×(Option (Int×Int×Int×ByteArray))))} (qc0 qc0_1:Nat) (hm:Sj p0_r p1_s=some r) (hd:X9 [qc0,qc0_1]=true) (h0_2:Zb (Za.pair (Za.int .i8) (Za.pair Za.str (Za.pair (Za.int .i64) (Za.int .i64)))) 63 qc0_1 col w0 a0_2 cap0_2 p0_r.1) (he0_4:Rd (Za.fptr 29 (Za.pair (Za.int .i64) (Za.pair (Za.int .i64) (Za.pair (Za.int .i64) Za.str)))) col w0 [ve0_4] p0_r.2.1) (he0_5:Rd (Za.fptr 29 (Za.pair (Za.int .i64) (Za.pair (Za.int .i64) (Za.pair (Za.int .i64) Za.str)))) col w0 [ve0_5] p0_r.2.2.2) (hb0:Zd 74 qc0 col w0 g0 #[.slice a0_2 p0_r.1.length cap0_2,ve0_4,.int .i64 p0_r.2.2.1,ve0_5]):
    Calls prog 44 #[.pointer (some ⟨g0,0,none⟩),.string p1_s] w0 (fun e w'=>∃ (col':Zc) (oa1:Option Addr) (oc2:Nat) (ov4:Value) (ov6:Value),e= .returned ((.bool r.1))∧Zo (pS [qc0,qc0_1]) col w0 col' w'∧Zb (Za.pair (Za.int .i8) (Za.pair Za.str (Za.pair (Za.int .i64) (Za.int .i64)))) 63 qc0_1 col' w' oa1 oc2 r.2.1∧Rd (Za.fptr 29 (Za.pair (Za.int .i64) (Za.pair (Za.int .i64) (Za.pair (Za.int .i64) Za.str)))) col' w' [ov4] r.2.2.1∧Rd (Za.fptr 29 (Za.pair (Za.int .i64) (Za.pair (Za.int .i64) (Za.pair (Za.int .i64) Za.str)))) col' w' [ov6] r.2.2.2.2∧Zd 74 qc0 col' w' g0 #[.slice oa1 r.2.1.length oc2,ov4,.int .i64 r.2.2.2.1,ov6]):=by
 refine Z1 4 (m:=24) func44 O O O O O ?_;rw [Sj.eq_1] at hm;have hst:=St.startL (l:=[qc0,qc0_1]) O col w0;replace hb0:=hb0.startL (X5 hd 0 O) (X4 hd 0 O);replace h0_2:=h0_2.startL (X5 hd 1 O) (X4 hd 1 O);refine go ?_;obtain ⟨r_1,hr_2,hm⟩:=bZ hm;replace he0_4:=he0_4.keep (Zk.startL [qc0,qc0_1] col w0);replace he0_5:=he0_5.keep (Zk.startL [qc0,qc0_1] col w0);refine Ze (Zei 440 441 hr_2 O h0_2 he0_4 he0_5 hb0) ?_;rintro _ w_11 ⟨col_13,oa_3,oc_4,ov_6,ov_8,rfl,hg_12,oh_5,oh_7,oh_9,ohb_10⟩;refine ⟨_,O,?_⟩;refine Xs (col:=col_13) #[.int .i8 0,.string (⟨#[]⟩),.int .i64 0,.int .i64 0] 1 zeroValue63 ?_;intro g_14 w_15 col_16 hg_17 hb_18;refine Xa hb_18 ?_;intro w_19 hk_20 hs_21 hb_22;refine Zh<|Zm<|Zm ?_;replace hst:=((hst.kpp hg_12).grow hg_17).kp hk_20 hs_21;replace oh_5:=(oh_5.gr hg_17).kp hk_20;replace oh_7:=(oh_7.gr hg_17).kp hk_20;replace oh_9:=(oh_9.gr hg_17).kp hk_20;replace ohb_10:=(ohb_10.gr hg_17).kp hk_20;refine Wp.cutK [0,1000000] (fun f w_24=>∃ col_25 v_26,Zaa r_1 v_26=some r∧St w0 (Zu [qc0,qc0_1] col) col_25 w_24∧Zb (Za.pair (Za.int .i8) (Za.pair Za.str (Za.pair (Za.int .i64) (Za.int .i64)))) 63 441 col_25 w_24 oa_3 oc_4 r_1.2.1∧Rd (Za.fptr 29 (Za.pair (Za.int .i64) (Za.pair (Za.int .i64) (Za.pair (Za.int .i64) Za.str)))) col_25 w_24 [ov_6] r_1.2.2.1∧Rd (Za.fptr 29 (Za.pair (Za.int .i64) (Za.pair (Za.int .i64) (Za.pair (Za.int .i64) Za.str)))) col_25 w_24 [ov_8] r_1.2.2.2.2∧Zd 74 440 col_25 w_24 g0 #[.slice oa_3 r_1.2.1.length oc_4,ov_6,.int .i64 r_1.2.2.2.1,ov_8]∧[16].map f=[.bool v_26]) ?_ ?_
 ·intro f w_24 hJ;obtain ⟨col_25,v_26,hm,hst,oh_5,oh_7,oh_9,ohb_10,hs⟩:=hJ;rw [Zaa.eq_1] at hm;refine .lL [16] hs ?_;refine Zl hm (fun hb hm=>go ?_) fun hb hm=>go ?_
  ·cases hm;exact ⟨O,Xt w0.heap.size [qc0,qc0_1] col col_25 (fun n=>bif Nat.beq n 441 then qc0_1 else bif Nat.beq n 440 then qc0 else 0),oa_3,oc_4,ov_6,ov_8,O,hst.finL O (fun n=>bif Nat.beq n 441 then qc0_1 else bif Nat.beq n 440 then qc0 else 0),hst.finOwnL (g:=(fun n=>bif Nat.beq n 441 then qc0_1 else bif Nat.beq n 440 then qc0 else 0)) O oh_5 (by decide) (by decide) O,hst.finRdL (g:=(fun n=>bif Nat.beq n 441 then qc0_1 else bif Nat.beq n 440 then qc0 else 0)) O oh_7,hst.finRdL (g:=(fun n=>bif Nat.beq n 441 then qc0_1 else bif Nat.beq n 440 then qc0 else 0)) O oh_9,hst.finBoxL (g:=(fun n=>bif Nat.beq n 441 then qc0_1 else bif Nat.beq n 440 then qc0 else 0)) ohb_10 (by decide) (by decide) O⟩
  refine lV (.pointer (some ⟨g0,0,none⟩)) (Z2 O)<|Z6 ohb_10 ?_;refine go ?_;refine lV (.pointer (some ⟨g0,0,none⟩)) (Z2 O)<|Z8 ⟨_,_,O⟩ ?_;refine X3 (off:=2) (v:=(.int .i64 (i64.wrap (r_1.2.2.2.1+1)))) ohb_10 sizeOf3 O O (by intro u hu;simp only [Value.cells,List.mem_cons,List.not_mem_nil,or_false] at hu;subst hu;rfl) O O ?_;intro w_27 hk_28 hs_29 hb_30;replace hb_30:Zd 74 440 col_25 w_27 g0 #[.slice oa_3 r_1.2.1.length oc_4,ov_6,.int .i64 (i64.wrap (r_1.2.2.2.1+1)),ov_8]:=hb_30;refine go ?_;cases hm;replace oh_5:=oh_5.kp hk_28;replace oh_7:=oh_7.kp hk_28;replace oh_9:=oh_9.kp hk_28;replace hst:=hst.kp hk_28 hs_29;exact ⟨O,Xt w0.heap.size [qc0,qc0_1] col col_25 (fun n=>bif Nat.beq n 441 then qc0_1 else bif Nat.beq n 440 then qc0 else 0),oa_3,oc_4,ov_6,ov_8,O,hst.finL O (fun n=>bif Nat.beq n 441 then qc0_1 else bif Nat.beq n 440 then qc0 else 0),hst.finOwnL (g:=(fun n=>bif Nat.beq n 441 then qc0_1 else bif Nat.beq n 440 then qc0 else 0)) O oh_5 (by decide) (by decide) O,hst.finRdL (g:=(fun n=>bif Nat.beq n 441 then qc0_1 else bif Nat.beq n 440 then qc0 else 0)) O oh_7,hst.finRdL (g:=(fun n=>bif Nat.beq n 441 then qc0_1 else bif Nat.beq n 440 then qc0 else 0)) O oh_9,hst.finBoxL (g:=(fun n=>bif Nat.beq n 441 then qc0_1 else bif Nat.beq n 440 then qc0 else 0)) hb_30 (by decide) (by decide) O⟩
 refine Yb<|Z6 hb_22 ?_;refine go ?_;refine Z4 hm (fun hg_31 hm=>go ?_) fun hg_31 hm=>go ?_
 ·refine lV (.bool true) (Zv (congrArg Value.bool hg_31) O)<|Zh ?_;exact ⟨O,_,_,hm,hst,oh_5,oh_7,oh_9,ohb_10,O⟩
 refine Z8 ⟨_,_,O⟩ ?_;refine go ?_;refine lW ((hb_22.atN).nth (q:=1) O)<|go ?_;refine lV (.bool (!decide (r_1.1.2.1=p1_s))) (Zq (congrArg Value.bool hg_31) O)<|Zh ?_;exact ⟨O,_,_,hm,hst,oh_5,oh_7,oh_9,ohb_10,O⟩
def Zbt (p0_r:((List (Int×ByteArray×Int×Int))×(Option (Int×Int×Int×ByteArray))×Int×(Option (Int×Int×Int×ByteArray)))):Option ((List (Int×ByteArray×Int×Int))×(Option (Int×Int×Int×ByteArray))×Int×(Option (Int×Int×Int×ByteArray))):=
  (Sh (p0_r.1,p0_r.2.1,p0_r.2.2.1,p0_r.2.2.2)).bind fun r_1=>if (!r_1.2.2.2.2.isSome)=true then (some (r_1.2.1,r_1.2.2.1,r_1.2.2.2.1,(some (50,r_1.1.2.2.1,r_1.1.2.2.2,r_1.1.2.1)))) else (some (r_1.2.1,r_1.2.2.1,r_1.2.2.2.1,r_1.2.2.2.2))
theorem Zk7 {g0 cap0_2:Nat} {a0_2:Option Addr} {col:Zc} {w0:World} {p0_r:((List (Int×ByteArray×Int×Int))×(Option (Int×Int×Int×ByteArray))×Int×(Option (Int×Int×Int×ByteArray)))} {ve0_4 ve0_5:Value} {r:((List (Int×ByteArray×Int×Int))×(Option (Int×Int×Int×ByteArray))×Int×(Option (Int×Int×Int×ByteArray)))} (qc0 qc0_1:Nat) (hm:Zbt p0_r=some r) (hd:X9 [qc0,qc0_1]=true) (h0_2:Zb (Za.pair (Za.int .i8) (Za.pair Za.str (Za.pair (Za.int .i64) (Za.int .i64)))) 63 qc0_1 col w0 a0_2 cap0_2 p0_r.1) (he0_4:Rd (Za.fptr 29 (Za.pair (Za.int .i64) (Za.pair (Za.int .i64) (Za.pair (Za.int .i64) Za.str)))) col w0 [ve0_4] p0_r.2.1) (he0_5:Rd (Za.fptr 29 (Za.pair (Za.int .i64) (Za.pair (Za.int .i64) (Za.pair (Za.int .i64) Za.str)))) col w0 [ve0_5] p0_r.2.2.2) (hb0:Zd 74 qc0 col w0 g0 #[.slice a0_2 p0_r.1.length cap0_2,ve0_4,.int .i64 p0_r.2.2.1,ve0_5]):
    Calls prog 23 #[.pointer (some ⟨g0,0,none⟩)] w0 (fun e w'=>∃ (col':Zc) (oa1:Option Addr) (oc2:Nat) (ov4:Value) (ov6:Value),e= .returned (.tuple #[])∧Zo (pS [qc0,qc0_1]) col w0 col' w'∧Zb (Za.pair (Za.int .i8) (Za.pair Za.str (Za.pair (Za.int .i64) (Za.int .i64)))) 63 qc0_1 col' w' oa1 oc2 r.1∧Rd (Za.fptr 29 (Za.pair (Za.int .i64) (Za.pair (Za.int .i64) (Za.pair (Za.int .i64) Za.str)))) col' w' [ov4] r.2.1∧Rd (Za.fptr 29 (Za.pair (Za.int .i64) (Za.pair (Za.int .i64) (Za.pair (Za.int .i64) Za.str)))) col' w' [ov6] r.2.2.2∧Zd 74 qc0 col' w' g0 #[.slice oa1 r.1.length oc2,ov4,.int .i64 r.2.2.1,ov6]):=by
 refine Qm (m:=21) (args:=[.pointer (some ⟨g0,0,none⟩)]) func23 O O O O ?_;rw [Zbt.eq_1] at hm;have hst:=St.startL (l:=[qc0,qc0_1]) O col w0;replace hb0:=hb0.startL (X5 hd 0 O) (X4 hd 0 O);replace h0_2:=h0_2.startL (X5 hd 1 O) (X4 hd 1 O);refine go ?_;obtain ⟨r_1,hr_2,hm⟩:=bZ hm;replace he0_4:=he0_4.keep (Zk.startL [qc0,qc0_1] col w0);replace he0_5:=he0_5.keep (Zk.startL [qc0,qc0_1] col w0);refine Ze (Zei 440 441 hr_2 O h0_2 he0_4 he0_5 hb0) ?_;rintro _ w_11 ⟨col_13,oa_3,oc_4,ov_6,ov_8,rfl,hg_12,oh_5,oh_7,oh_9,ohb_10⟩;refine ⟨_,O,?_⟩;refine Xs (col:=col_13) #[.int .i8 0,.string (⟨#[]⟩),.int .i64 0,.int .i64 0] 1 zeroValue63 ?_;intro g_14 w_15 col_16 hg_17 hb_18;refine Xa hb_18 ?_;intro w_19 hk_20 hs_21 hb_22;refine go ?_;refine lV (.pointer (some ⟨g0,0,none⟩)) (Z2 O)<|Z8 ⟨_,_,O⟩ ?_;replace ohb_10:=(ohb_10.gr hg_17).kp hk_20;refine lv (v:=ov_8) O O (Uc isAgg72 O ((ohb_10.atN).nth (q:=3) (v:=ov_8) O)) ?_;replace oh_9:=(oh_9.gr hg_17).kp hk_20;refine lV (.bool (!r_1.2.2.2.2.isSome)) (Zdy oh_9 underlying72 O)<|Zh ?_;replace hst:=((hst.kpp hg_12).grow hg_17).kp hk_20 hs_21;replace oh_5:=(oh_5.gr hg_17).kp hk_20;replace oh_7:=(oh_7.gr hg_17).kp hk_20;refine Zl hm (fun hb hm=>go ?_) fun hb hm=>?_
 ·refine Z6 hb_22<|Z6 hb_22<|Z6 hb_22<|lV (.agg #[.int .i64 50,.int .i64 r_1.1.2.2.1,.int .i64 r_1.1.2.2.2,.string r_1.1.2.1]) (Yy (l:=[_,_,_,_]) (qs:=[(0,1),(1,1),(2,1),(3,1)]) underlying29 zeroValue29 ⟨O,sizeOf27,O,sizeOf3,O,sizeOf3,O,sizeOf9,trivial⟩ O)<|Yq (col:=col_16) 2 O ?_;intro g_23 w_24 col_25 hg_26 hb_27;refine lV (.pointer (some ⟨g0,0,none⟩)) (Z2 O)<|Z8 ⟨_,_,O⟩ ?_;replace ohb_10:=ohb_10.gr hg_26;refine X3 (off:=3) (v:=(.pointer (some ⟨g_23,0,none⟩))) ohb_10 sizeOf72 O O (by intro u hu;simp only [Value.cells,List.mem_cons,List.not_mem_nil,or_false] at hu;subst hu;rfl) O O ?_;intro w_28 hk_29 hs_30 hb_31;replace hb_31:Zd 74 440 col_25 w_28 g0 #[.slice oa_3 r_1.2.1.length oc_4,ov_6,.int .i64 r_1.2.2.2.1,.pointer (some ⟨g_23,0,none⟩)]:=hb_31;refine Zh ?_;replace oh_5:=(oh_5.gr hg_26).kp hk_29;replace oh_5:=oh_5.froz 2 (by decide);replace oh_7:=(oh_7.gr hg_26).kp hk_29;replace oh_7:=oh_7.froz 2;replace hb_31:=hb_31.froz 2 (by decide);replace hst:=(hst.grow hg_26).kp hk_29 hs_30;replace hst:=hst.froz 2 (by decide) (by decide);replace hb_27:=hb_27.kp hk_29;have hF_32:Y0 29 (Yd 2 col_25) w_28 g_23 [.int .i64 50,.int .i64 r_1.1.2.2.1,.int .i64 r_1.1.2.2.2,.string r_1.1.2.1]:=Zd.fz hb_27;have hP_34:Rd (Za.fptr 29 (Za.pair (Za.int .i64) (Za.pair (Za.int .i64) (Za.pair (Za.int .i64) Za.str)))) (Yd 2 col_25) w_28 [.pointer (some ⟨g_23,0,none⟩)] (some (50,r_1.1.2.2.1,r_1.1.2.2.2,r_1.1.2.1)):=Y0.ptr hF_32 (Wl (Wt .i64 50) (Wl (Wt .i64 r_1.1.2.2.1) (Wl (Wt .i64 r_1.1.2.2.2) (Sq r_1.1.2.1))));cases hm;exact ⟨O,Xt w0.heap.size [qc0,qc0_1] col (Yd 2 col_25) (fun n=>bif Nat.beq n 441 then qc0_1 else bif Nat.beq n 440 then qc0 else 0),oa_3,oc_4,ov_6,.pointer (some ⟨g_23,0,none⟩),O,hst.finL O (fun n=>bif Nat.beq n 441 then qc0_1 else bif Nat.beq n 440 then qc0 else 0),hst.finOwnL (g:=(fun n=>bif Nat.beq n 441 then qc0_1 else bif Nat.beq n 440 then qc0 else 0)) O oh_5 (by decide) (by decide) O,hst.finRdL (g:=(fun n=>bif Nat.beq n 441 then qc0_1 else bif Nat.beq n 440 then qc0 else 0)) O oh_7,hst.finRdL (g:=(fun n=>bif Nat.beq n 441 then qc0_1 else bif Nat.beq n 440 then qc0 else 0)) O hP_34,hst.finBoxL (g:=(fun n=>bif Nat.beq n 441 then qc0_1 else bif Nat.beq n 440 then qc0 else 0)) hb_31 (by decide) (by decide) O⟩
 refine Zx ?_;cases hm;exact ⟨O,Xt w0.heap.size [qc0,qc0_1] col col_16 (fun n=>bif Nat.beq n 441 then qc0_1 else bif Nat.beq n 440 then qc0 else 0),oa_3,oc_4,ov_6,ov_8,O,hst.finL O (fun n=>bif Nat.beq n 441 then qc0_1 else bif Nat.beq n 440 then qc0 else 0),hst.finOwnL (g:=(fun n=>bif Nat.beq n 441 then qc0_1 else bif Nat.beq n 440 then qc0 else 0)) O oh_5 (by decide) (by decide) O,hst.finRdL (g:=(fun n=>bif Nat.beq n 441 then qc0_1 else bif Nat.beq n 440 then qc0 else 0)) O oh_7,hst.finRdL (g:=(fun n=>bif Nat.beq n 441 then qc0_1 else bif Nat.beq n 440 then qc0 else 0)) O oh_9,hst.finBoxL (g:=(fun n=>bif Nat.beq n 441 then qc0_1 else bif Nat.beq n 440 then qc0 else 0)) ohb_10 (by decide) (by decide) O⟩
def U2 (p0_r:((List (Int×ByteArray×Int×Int))×(Option (Int×Int×Int×ByteArray))×Int×(Option (Int×Int×Int×ByteArray)))) (p1_s:ByteArray):Option ((List (Int×ByteArray×Int×Int))×(Option (Int×Int×Int×ByteArray))×Int×(Option (Int×Int×Int×ByteArray))):=
  (Sj (p0_r.1,p0_r.2.1,p0_r.2.2.1,p0_r.2.2.2) p1_s).bind fun r_1=>if (!r_1.1)=true then ((Zbt (r_1.2.1,r_1.2.2.1,r_1.2.2.2.1,r_1.2.2.2.2)).bind fun r_14=>some (r_14.1,r_14.2.1,r_14.2.2.1,r_14.2.2.2)) else (some (r_1.2.1,r_1.2.2.1,r_1.2.2.2.1,r_1.2.2.2.2))
theorem Zax {g0 cap0_2:Nat} {a0_2:Option Addr} {col:Zc} {w0:World} {p0_r:((List (Int×ByteArray×Int×Int))×(Option (Int×Int×Int×ByteArray))×Int×(Option (Int×Int×Int×ByteArray)))} {ve0_4 ve0_5:Value} {p1_s:ByteArray} {r:((List (Int×ByteArray×Int×Int))×(Option (Int×Int×Int×ByteArray))×Int×(Option (Int×Int×Int×ByteArray)))} (qc0 qc0_1:Nat) (hm:U2 p0_r p1_s=some r) (hd:X9 [qc0,qc0_1]=true) (h0_2:Zb (Za.pair (Za.int .i8) (Za.pair Za.str (Za.pair (Za.int .i64) (Za.int .i64)))) 63 qc0_1 col w0 a0_2 cap0_2 p0_r.1) (he0_4:Rd (Za.fptr 29 (Za.pair (Za.int .i64) (Za.pair (Za.int .i64) (Za.pair (Za.int .i64) Za.str)))) col w0 [ve0_4] p0_r.2.1) (he0_5:Rd (Za.fptr 29 (Za.pair (Za.int .i64) (Za.pair (Za.int .i64) (Za.pair (Za.int .i64) Za.str)))) col w0 [ve0_5] p0_r.2.2.2) (hb0:Zd 74 qc0 col w0 g0 #[.slice a0_2 p0_r.1.length cap0_2,ve0_4,.int .i64 p0_r.2.2.1,ve0_5]):
    Calls prog 27 #[.pointer (some ⟨g0,0,none⟩),.string p1_s] w0 (fun e w'=>∃ (col':Zc) (oa1:Option Addr) (oc2:Nat) (ov4:Value) (ov6:Value),e= .returned (.tuple #[])∧Zo (pS [qc0,qc0_1]) col w0 col' w'∧Zb (Za.pair (Za.int .i8) (Za.pair Za.str (Za.pair (Za.int .i64) (Za.int .i64)))) 63 qc0_1 col' w' oa1 oc2 r.1∧Rd (Za.fptr 29 (Za.pair (Za.int .i64) (Za.pair (Za.int .i64) (Za.pair (Za.int .i64) Za.str)))) col' w' [ov4] r.2.1∧Rd (Za.fptr 29 (Za.pair (Za.int .i64) (Za.pair (Za.int .i64) (Za.pair (Za.int .i64) Za.str)))) col' w' [ov6] r.2.2.2∧Zd 74 qc0 col' w' g0 #[.slice oa1 r.1.length oc2,ov4,.int .i64 r.2.2.1,ov6]):=by
 refine Qm (m:=10) (args:=[.pointer (some ⟨g0,0,none⟩),.string p1_s]) func27 O O O O ?_;rw [U2.eq_1] at hm;have hst:=St.startL (l:=[qc0,qc0_1]) O col w0;replace hb0:=hb0.startL (X5 hd 0 O) (X4 hd 0 O);replace h0_2:=h0_2.startL (X5 hd 1 O) (X4 hd 1 O);refine go ?_;obtain ⟨r_1,hr_2,hm⟩:=bZ hm;replace he0_4:=he0_4.keep (Zk.startL [qc0,qc0_1] col w0);replace he0_5:=he0_5.keep (Zk.startL [qc0,qc0_1] col w0);refine Ze (Zej 440 441 hr_2 O h0_2 he0_4 he0_5 hb0) ?_;rintro _ w_11 ⟨col_13,oa_3,oc_4,ov_6,ov_8,rfl,hg_12,oh_5,oh_7,oh_9,ohb_10⟩;refine ⟨_,O,go ?_⟩;replace hst:=hst.kpp hg_12;refine Zl hm (fun hb hm=>go ?_) fun hb hm=>?_
 ·obtain ⟨r_14,hr_15,hm⟩:=bZ hm;refine Ze (Zk7 440 441 hr_15 O oh_5 oh_7 oh_9 ohb_10) ?_;rintro _ w_24 ⟨col_26,oa_16,oc_17,ov_19,ov_21,rfl,hg_25,oh_18,oh_20,oh_22,ohb_23⟩;refine ⟨_,O,?_⟩;refine Zh ?_;cases hm;replace hst:=hst.kpp hg_25;exact ⟨O,Xt w0.heap.size [qc0,qc0_1] col col_26 (fun n=>bif Nat.beq n 441 then qc0_1 else bif Nat.beq n 440 then qc0 else 0),oa_16,oc_17,ov_19,ov_21,O,hst.finL O (fun n=>bif Nat.beq n 441 then qc0_1 else bif Nat.beq n 440 then qc0 else 0),hst.finOwnL (g:=(fun n=>bif Nat.beq n 441 then qc0_1 else bif Nat.beq n 440 then qc0 else 0)) O oh_18 (by decide) (by decide) O,hst.finRdL (g:=(fun n=>bif Nat.beq n 441 then qc0_1 else bif Nat.beq n 440 then qc0 else 0)) O oh_20,hst.finRdL (g:=(fun n=>bif Nat.beq n 441 then qc0_1 else bif Nat.beq n 440 then qc0 else 0)) O oh_22,hst.finBoxL (g:=(fun n=>bif Nat.beq n 441 then qc0_1 else bif Nat.beq n 440 then qc0 else 0)) ohb_23 (by decide) (by decide) O⟩
 refine Zx ?_;cases hm;exact ⟨O,Xt w0.heap.size [qc0,qc0_1] col col_13 (fun n=>bif Nat.beq n 441 then qc0_1 else bif Nat.beq n 440 then qc0 else 0),oa_3,oc_4,ov_6,ov_8,O,hst.finL O (fun n=>bif Nat.beq n 441 then qc0_1 else bif Nat.beq n 440 then qc0 else 0),hst.finOwnL (g:=(fun n=>bif Nat.beq n 441 then qc0_1 else bif Nat.beq n 440 then qc0 else 0)) O oh_5 (by decide) (by decide) O,hst.finRdL (g:=(fun n=>bif Nat.beq n 441 then qc0_1 else bif Nat.beq n 440 then qc0 else 0)) O oh_7,hst.finRdL (g:=(fun n=>bif Nat.beq n 441 then qc0_1 else bif Nat.beq n 440 then qc0 else 0)) O oh_9,hst.finBoxL (g:=(fun n=>bif Nat.beq n 441 then qc0_1 else bif Nat.beq n 440 then qc0 else 0)) ohb_10 (by decide) (by decide) O⟩
def Zb1 (p1_v:ByteArray):List ByteArray→Nat→Option Int
  | [],k_1=>some (-1)
  | x_5 :: l_6,k_1=>if (decide (p1_v=x_5))=true then (some (k_1:Int)) else ((Zb1 p1_v l_6) (k_1+1))
termination_by structural x=>x
def Zjf (p0_s:List ByteArray) (p1_v:ByteArray):Option Int:=
  Zb1 p1_v p0_s 0
theorem Zvv {cap0:Nat} {a0:Option Addr} {col:Zc} {w0:World} {p0_s:(List ByteArray)} {p1_v:ByteArray} {r:Int} (hm:Zjf p0_s p1_v=some r) (h0:Sl Za.str col w0 a0 cap0 p0_s):
    Calls prog 62 #[.slice a0 p0_s.length cap0,.string p1_v] w0 (fun e w'=>e= .returned ((.int .i64 r))∧Below w0.heap.size w0 w'):=by
 refine Z1 4 (m:=19) func62 O O O O O ?_;rw [Zjf.eq_1] at hm;have hst:=St.start col w0;refine go ?_;refine Z3 [0,1,7,1000000] (fun n f w_3=>∃ col_4 k_1 l_2,n=l_2.length∧p0_s.drop k_1=l_2∧Zb1 p1_v l_2 k_1=some r∧St w0 (Zi col) col_4 w_3∧[8].map f=[.int .i64 k_1]) p0_s.length ⟨_,0,_,O,O,hm,hst,O⟩ ?_;clear hm;intro n f w_3 hI;obtain ⟨col_4,k_1,l_2,hn,hl,hm,hst,hs⟩:=hI;subst hn;refine .lL [8] hs ?_;replace h0:=h0.keep (Zk.start col w0)
 cases l_2 with
 | nil=>
  have hk:¬ ((k_1:Int)<(p0_s.length:Int)):=by have:=List.drop_eq_nil_iff.1 hl;omega
  have hkb:=decide_eq_false hk;rw [Zb1.eq_1] at hm;refine go ?_;refine X6 (congrArg Value.bool hkb)<|go ?_;cases hm;exact ⟨O,O,hst.below⟩
 | cons x_5 l_6=>
  obtain ⟨hat,hl2_L1,hlt_L1⟩:=Yk hl;have hk:(k_1:Int)<(p0_s.length:Int):=by omega
  have hkb:=decide_eq_true hk;rw [Zb1.eq_2] at hm;refine go ?_;refine X0 (congrArg Value.bool hkb)<|go ?_;refine lI hat ((h0.ks hst).addr hat)<|lW ((h0.ks hst).atStr hat) ?_;refine go ?_;refine Zl hm (fun hb hm=>go ?_) fun hb hm=>go ?_
  ·cases hm;exact ⟨O,O,hst.below⟩
  exact ⟨l_6.length,by simp,O,⟨_,_,_,O,hl2_L1,hm,hst,(Ys (congrArg (Value.int .i64) (Yn (Nat.lt_of_lt_of_le hlt_L1 (h0.ks hst).1.1))) O)⟩⟩
def Zb0 (p0_s:List ByteArray) (p1_v:ByteArray):Option Bool:=
  (Zjf p0_s p1_v).bind fun r_1=>some (decide (0≤r_1))
theorem Zlc {cap0:Nat} {a0:Option Addr} {col:Zc} {w0:World} {p0_s:(List ByteArray)} {p1_v:ByteArray} {r:Bool} (hm:Zb0 p0_s p1_v=some r) (h0:Sl Za.str col w0 a0 cap0 p0_s):
    Calls prog 42 #[.slice a0 p0_s.length cap0,.string p1_v] w0 (fun e w'=>e= .returned ((.bool r))∧Below w0.heap.size w0 w'):=by
 refine Z1 4 (m:=9) func42 O O O O O ?_;rw [Zb0.eq_1] at hm;have hst:=St.start col w0;refine go ?_;obtain ⟨r_1,hr_2,hm⟩:=bZ hm;replace h0:=h0.keep (Zk.start col w0);refine Ze (Zvv hr_2 (h0.ks hst)) ?_;rintro _ w_3 ⟨rfl,hg_4⟩;refine ⟨_,O,?_⟩;replace hg_4:Zf (Zi col) w0 (Zi col) w_3:=.of_below hg_4;refine go ?_;cases hm;replace hst:=hst.grow hg_4;exact ⟨O,O,hst.below⟩
def Zix (r_1:((Int×ByteArray×Int×Int)×((List (Int×ByteArray×Int×Int))×(Option (Int×Int×Int×ByteArray))×Int×(Option (Int×Int×Int×ByteArray))))) (r_25:List (Int×ByteArray×Int×Int)) (r_30:(Option (Int×Int×Int×ByteArray))) (r_32:Int) (r_34:(Option (Int×Int×Int×ByteArray))):Option (ByteArray×((List (Int×ByteArray×Int×Int))×(Option (Int×Int×Int×ByteArray))×Int×(Option (Int×Int×Int×ByteArray)))):=
  some (r_1.1.2.1,(r_25,r_30,i64.wrap (r_32+1),r_34))
def Si (r_1:((Int×ByteArray×Int×Int)×((List (Int×ByteArray×Int×Int))×(Option (Int×Int×Int×ByteArray))×Int×(Option (Int×Int×Int×ByteArray))))) (v_48:Bool):Option (ByteArray×((List (Int×ByteArray×Int×Int))×(Option (Int×Int×Int×ByteArray))×Int×(Option (Int×Int×Int×ByteArray)))):=
  if v_48=true then ((Zbt (r_1.2.1,r_1.2.2.1,r_1.2.2.2.1,r_1.2.2.2.2)).bind fun r_49=>some (⟨#[]⟩,(r_49.1,r_49.2.1,r_49.2.2.1,r_49.2.2.2))) else (Zix r_1 r_1.2.1 r_1.2.2.1 r_1.2.2.2.1 r_1.2.2.2.2)
def V2 (p0_r:((List (Int×ByteArray×Int×Int))×(Option (Int×Int×Int×ByteArray))×Int×(Option (Int×Int×Int×ByteArray)))) (p1_of:List ByteArray):Option (ByteArray×((List (Int×ByteArray×Int×Int))×(Option (Int×Int×Int×ByteArray))×Int×(Option (Int×Int×Int×ByteArray)))):=
  (Sh (p0_r.1,p0_r.2.1,p0_r.2.2.1,p0_r.2.2.2)).bind fun r_1=>if (!decide (r_1.1.1=1))=true then (Si r_1 true) else (if (decide (0<(p1_of.length:Int)))=true then ((Zb0 p1_of r_1.1.2.1).bind fun r_64=>Si r_1 (!r_64)) else (Si r_1 false))
theorem T7 {g0 cap0_2 cap1:Nat} {a0_2 a1:Option Addr} {col:Zc} {w0:World} {p0_r:((List (Int×ByteArray×Int×Int))×(Option (Int×Int×Int×ByteArray))×Int×(Option (Int×Int×Int×ByteArray)))} {ve0_4 ve0_5:Value} {p1_of:(List ByteArray)} {r:(ByteArray×((List (Int×ByteArray×Int×Int))×(Option (Int×Int×Int×ByteArray))×Int×(Option (Int×Int×Int×ByteArray))))} (qc0 qc0_1:Nat) (hm:V2 p0_r p1_of=some r) (hd:X9 [qc0,qc0_1]=true) (h0_2:Zb (Za.pair (Za.int .i8) (Za.pair Za.str (Za.pair (Za.int .i64) (Za.int .i64)))) 63 qc0_1 col w0 a0_2 cap0_2 p0_r.1) (he0_4:Rd (Za.fptr 29 (Za.pair (Za.int .i64) (Za.pair (Za.int .i64) (Za.pair (Za.int .i64) Za.str)))) col w0 [ve0_4] p0_r.2.1) (he0_5:Rd (Za.fptr 29 (Za.pair (Za.int .i64) (Za.pair (Za.int .i64) (Za.pair (Za.int .i64) Za.str)))) col w0 [ve0_5] p0_r.2.2.2) (hb0:Zd 74 qc0 col w0 g0 #[.slice a0_2 p0_r.1.length cap0_2,ve0_4,.int .i64 p0_r.2.2.1,ve0_5]) (h1:Sl Za.str col w0 a1 cap1 p1_of):
    Calls prog 25 #[.pointer (some ⟨g0,0,none⟩),.slice a1 p1_of.length cap1] w0 (fun e w'=>∃ (col':Zc) (oa1:Option Addr) (oc2:Nat) (ov4:Value) (ov6:Value),e= .returned ((.string r.1))∧Zo (pS [qc0,qc0_1]) col w0 col' w'∧Zb (Za.pair (Za.int .i8) (Za.pair Za.str (Za.pair (Za.int .i64) (Za.int .i64)))) 63 qc0_1 col' w' oa1 oc2 r.2.1∧Rd (Za.fptr 29 (Za.pair (Za.int .i64) (Za.pair (Za.int .i64) (Za.pair (Za.int .i64) Za.str)))) col' w' [ov4] r.2.2.1∧Rd (Za.fptr 29 (Za.pair (Za.int .i64) (Za.pair (Za.int .i64) (Za.pair (Za.int .i64) Za.str)))) col' w' [ov6] r.2.2.2.2∧Zd 74 qc0 col' w' g0 #[.slice oa1 r.2.1.length oc2,ov4,.int .i64 r.2.2.2.1,ov6]):=by
 refine Z1 4 (m:=34) func25 O O O O O ?_;rw [V2.eq_1] at hm;have hst:=St.startL (l:=[qc0,qc0_1]) O col w0;replace hb0:=hb0.startL (X5 hd 0 O) (X4 hd 0 O);replace h0_2:=h0_2.startL (X5 hd 1 O) (X4 hd 1 O);refine go ?_;obtain ⟨r_1,hr_2,hm⟩:=bZ hm;replace he0_4:=he0_4.keep (Zk.startL [qc0,qc0_1] col w0);replace he0_5:=he0_5.keep (Zk.startL [qc0,qc0_1] col w0);refine Ze (Zei 440 441 hr_2 O h0_2 he0_4 he0_5 hb0) ?_;rintro _ w_11 ⟨col_13,oa_3,oc_4,ov_6,ov_8,rfl,hg_12,oh_5,oh_7,oh_9,ohb_10⟩;refine ⟨_,O,?_⟩;refine Xs (col:=col_13) #[.int .i8 0,.string (⟨#[]⟩),.int .i64 0,.int .i64 0] 1 zeroValue63 ?_;intro g_14 w_15 col_16 hg_17 hb_18;refine Xa hb_18 ?_;intro w_19 hk_20 hs_21 hb_22;refine Zh<|Zm ?_;replace h1:=h1.keep (Zk.startL [qc0,qc0_1] col w0);replace hst:=((hst.kpp hg_12).grow hg_17).kp hk_20 hs_21;replace oh_5:=(oh_5.gr hg_17).kp hk_20;replace oh_7:=(oh_7.gr hg_17).kp hk_20;replace oh_9:=(oh_9.gr hg_17).kp hk_20;replace ohb_10:=(ohb_10.gr hg_17).kp hk_20;refine Wp.cutK [0,5,1000000] (fun f w_23=>∃ col_24 a_26 cap_27 r_25 v_29 r_30 r_32 v_33 r_34,Zix r_1 r_25 r_30 r_32 r_34=some r∧St w0 (Zu [qc0,qc0_1] col) col_24 w_23∧Zb (Za.pair (Za.int .i8) (Za.pair Za.str (Za.pair (Za.int .i64) (Za.int .i64)))) 63 441 col_24 w_23 a_26 cap_27 r_25∧Rd (Za.fptr 29 (Za.pair (Za.int .i64) (Za.pair (Za.int .i64) (Za.pair (Za.int .i64) Za.str)))) col_24 w_23 [v_29] r_30∧Rd (Za.fptr 29 (Za.pair (Za.int .i64) (Za.pair (Za.int .i64) (Za.pair (Za.int .i64) Za.str)))) col_24 w_23 [v_33] r_34∧Zd 74 440 col_24 w_23 g0 #[.slice a_26 r_25.length cap_27,v_29,.int .i64 r_32,v_33]∧Zd 63 1 col_24 w_23 g_14 #[.int .i8 r_1.1.1,.string r_1.1.2.1,.int .i64 r_1.1.2.2.1,.int .i64 r_1.1.2.2.2]) ?_ ?_
 ·intro f w_23 hJ;obtain ⟨col_24,a_26,cap_27,r_25,v_29,r_30,r_32,v_33,r_34,hm,hst,h_28,h_31,h_35,ohb_10,hb_22⟩:=hJ;rw [Zix.eq_1] at hm;refine go ?_;refine lV (.pointer (some ⟨g0,0,none⟩)) (Z2 O)<|Z6 ohb_10 ?_;refine go ?_;refine lV (.pointer (some ⟨g0,0,none⟩)) (Z2 O)<|Z8 ⟨_,_,O⟩ ?_;refine X3 (off:=2) (v:=(.int .i64 (i64.wrap (r_32+1)))) ohb_10 sizeOf3 O O (by intro u hu;simp only [Value.cells,List.mem_cons,List.not_mem_nil,or_false] at hu;subst hu;rfl) O O ?_;intro w_36 hk_37 hs_38 hb_39;replace hb_39:Zd 74 440 col_24 w_36 g0 #[.slice a_26 r_25.length cap_27,v_29,.int .i64 (i64.wrap (r_32+1)),v_33]:=hb_39;refine go ?_;refine Z8 ⟨_,_,O⟩ ?_;replace hb_22:=hb_22.kp hk_37;refine lW ((hb_22.atN).nth (q:=1) O)<|go ?_;cases hm;replace h_28:=h_28.kp hk_37;replace h_31:=h_31.kp hk_37;replace h_35:=h_35.kp hk_37;replace hst:=hst.kp hk_37 hs_38;exact ⟨O,Xt w0.heap.size [qc0,qc0_1] col col_24 (fun n=>bif Nat.beq n 441 then qc0_1 else bif Nat.beq n 440 then qc0 else 0),a_26,cap_27,v_29,v_33,O,hst.finL O (fun n=>bif Nat.beq n 441 then qc0_1 else bif Nat.beq n 440 then qc0 else 0),hst.finOwnL (g:=(fun n=>bif Nat.beq n 441 then qc0_1 else bif Nat.beq n 440 then qc0 else 0)) O h_28 (by decide) (by decide) O,hst.finRdL (g:=(fun n=>bif Nat.beq n 441 then qc0_1 else bif Nat.beq n 440 then qc0 else 0)) O h_31,hst.finRdL (g:=(fun n=>bif Nat.beq n 441 then qc0_1 else bif Nat.beq n 440 then qc0 else 0)) O h_35,hst.finBoxL (g:=(fun n=>bif Nat.beq n 441 then qc0_1 else bif Nat.beq n 440 then qc0 else 0)) hb_39 (by decide) (by decide) O⟩
 refine Zm ?_;refine Wp.cutK [0,5,1000000] (fun f w_46=>∃ col_47 v_48,Si r_1 v_48=some r∧St w0 (Zu [qc0,qc0_1] col) col_47 w_46∧Zb (Za.pair (Za.int .i8) (Za.pair Za.str (Za.pair (Za.int .i64) (Za.int .i64)))) 63 441 col_47 w_46 oa_3 oc_4 r_1.2.1∧Rd (Za.fptr 29 (Za.pair (Za.int .i64) (Za.pair (Za.int .i64) (Za.pair (Za.int .i64) Za.str)))) col_47 w_46 [ov_6] r_1.2.2.1∧Rd (Za.fptr 29 (Za.pair (Za.int .i64) (Za.pair (Za.int .i64) (Za.pair (Za.int .i64) Za.str)))) col_47 w_46 [ov_8] r_1.2.2.2.2∧Zd 74 440 col_47 w_46 g0 #[.slice oa_3 r_1.2.1.length oc_4,ov_6,.int .i64 r_1.2.2.2.1,ov_8]∧Zd 63 1 col_47 w_46 g_14 #[.int .i8 r_1.1.1,.string r_1.1.2.1,.int .i64 r_1.1.2.2.1,.int .i64 r_1.1.2.2.2]∧[22].map f=[.bool v_48]) ?_ ?_
 ·intro f w_46 hJ;obtain ⟨col_47,v_48,hm,hst,oh_5,oh_7,oh_9,ohb_10,hb_22,hs⟩:=hJ;rw [Si.eq_1] at hm;refine .lL [22] hs ?_;refine Zl hm (fun hb hm=>go ?_) fun hb hm=>?_
  ·obtain ⟨r_49,hr_50,hm⟩:=bZ hm;refine Ze (Zk7 440 441 hr_50 O oh_5 oh_7 oh_9 ohb_10) ?_;rintro _ w_59 ⟨col_61,oa_51,oc_52,ov_54,ov_56,rfl,hg_60,oh_53,oh_55,oh_57,ohb_58⟩;refine ⟨_,O,go ?_⟩;cases hm;replace hst:=hst.kpp hg_60;exact ⟨O,Xt w0.heap.size [qc0,qc0_1] col col_61 (fun n=>bif Nat.beq n 441 then qc0_1 else bif Nat.beq n 440 then qc0 else 0),oa_51,oc_52,ov_54,ov_56,O,hst.finL O (fun n=>bif Nat.beq n 441 then qc0_1 else bif Nat.beq n 440 then qc0 else 0),hst.finOwnL (g:=(fun n=>bif Nat.beq n 441 then qc0_1 else bif Nat.beq n 440 then qc0 else 0)) O oh_53 (by decide) (by decide) O,hst.finRdL (g:=(fun n=>bif Nat.beq n 441 then qc0_1 else bif Nat.beq n 440 then qc0 else 0)) O oh_55,hst.finRdL (g:=(fun n=>bif Nat.beq n 441 then qc0_1 else bif Nat.beq n 440 then qc0 else 0)) O oh_57,hst.finBoxL (g:=(fun n=>bif Nat.beq n 441 then qc0_1 else bif Nat.beq n 440 then qc0 else 0)) ohb_58 (by decide) (by decide) O⟩
  refine Zx ?_;exact ⟨O,_,_,_,_,_,_,_,_,_,hm,hst,oh_5,oh_7,oh_9,ohb_10,hb_22⟩
 refine Yb<|Z6 hb_22 ?_;refine go ?_;refine Z4 hm (fun hg_62 hm=>go ?_) fun hg_62 hm=>go ?_
 ·refine Wr 15 O O O O<|Wr 15 O O O O<|Wr 15 O O O O<|Wr 15 O O O O<|Wr 15 O O O O<|go ?_;refine lV (.bool true) (Zv (congrArg Value.bool hg_62) O)<|Zh ?_;exact ⟨O,_,_,hm,hst,oh_5,oh_7,oh_9,ohb_10,hb_22,O⟩
 refine Z4 hm (fun hg_63 hm=>go ?_) fun hg_63 hm=>go ?_
 ·refine Z8 ⟨_,_,O⟩ ?_;refine go ?_;refine lW ((hb_22.atN).nth (q:=1) O)<|go ?_;obtain ⟨r_64,hr_65,hm⟩:=bZ hm;refine Ze (Zlc hr_65 (h1.ks hst)) ?_;rintro _ w_66 ⟨rfl,hg_67⟩;refine ⟨_,O,?_⟩;replace hg_67:Zf col_16 w_19 col_16 w_66:=.of_below hg_67;refine go ?_;refine lV (.bool (!r_64)) (Zv (congrArg Value.bool hg_63) O)<|lV (.bool (!r_64)) (Zq (congrArg Value.bool hg_62) O)<|Zh ?_;replace oh_5:=oh_5.gr hg_67;replace oh_7:=oh_7.gr hg_67;replace oh_9:=oh_9.gr hg_67;replace ohb_10:=ohb_10.gr hg_67;replace hb_22:=hb_22.gr hg_67;replace hst:=hst.grow hg_67;exact ⟨O,_,_,hm,hst,oh_5,oh_7,oh_9,ohb_10,hb_22,O⟩
 refine lV (.bool false) (Zq (congrArg Value.bool hg_63) O)<|lV (.bool false) (Zq (congrArg Value.bool hg_62) O)<|Zh ?_;exact ⟨O,_,_,hm,hst,oh_5,oh_7,oh_9,ohb_10,hb_22,O⟩
def Zbu (N:Nat):Nat→(List (Int×ByteArray×Int×Int))→(Option (Int×Int×Int×ByteArray))→Int→(Option (Int×Int×Int×ByteArray))→(List ByteArray)→Option (List ByteArray×((List (Int×ByteArray×Int×Int))×(Option (Int×Int×Int×ByteArray))×Int×(Option (Int×Int×Int×ByteArray))))
  | 0,_,_,_,_,_=>none
  | n_45+1,r_48,r_53,r_55,r_57,l_59=>(Sj (r_48,r_53,r_55,r_57) (⟨#[44]⟩)).bind fun r_63=>if r_63.1=true then ((V2 (r_63.2.1,r_63.2.2.1,r_63.2.2.2.1,r_63.2.2.2.2) ([]:List ByteArray)).bind fun r_76=>Zp ((l_59.length+([r_76.1]:List ByteArray).length) * 16≤140737488355328∧l_59.length+([r_76.1]:List ByteArray).length≤maxLen) ((Zbu N n_45) r_76.2.1 r_76.2.2.1 r_76.2.2.2.1 r_76.2.2.2.2 (l_59++([r_76.1]:List ByteArray)))) else ((U2 (r_63.2.1,r_63.2.2.1,r_63.2.2.2.1,r_63.2.2.2.2) (⟨#[41]⟩)).bind fun r_101=>some (l_59,(r_101.1,r_101.2.1,r_101.2.2.1,r_101.2.2.2)))
termination_by structural x=>x
def Zfy (N:Nat) (p0_r:((List (Int×ByteArray×Int×Int))×(Option (Int×Int×Int×ByteArray))×Int×(Option (Int×Int×Int×ByteArray)))):Option (List ByteArray×((List (Int×ByteArray×Int×Int))×(Option (Int×Int×Int×ByteArray))×Int×(Option (Int×Int×Int×ByteArray)))):=
  (U2 (p0_r.1,p0_r.2.1,p0_r.2.2.1,p0_r.2.2.2) (⟨#[40]⟩)).bind fun r_1=>(Sj (r_1.1,r_1.2.1,r_1.2.2.1,r_1.2.2.2) (⟨#[41]⟩)).bind fun r_14=>if r_14.1=true then (some (([]:List ByteArray),(r_14.2.1,r_14.2.2.1,r_14.2.2.2.1,r_14.2.2.2.2))) else ((V2 (r_14.2.1,r_14.2.2.1,r_14.2.2.2.1,r_14.2.2.2.2) ([]:List ByteArray)).bind fun r_27=>Zbu N N r_27.2.1 r_27.2.2.1 r_27.2.2.2.1 r_27.2.2.2.2 ([r_27.1]:List ByteArray))
theorem Zvc {N g0 cap0_2:Nat} {a0_2:Option Addr} {col:Zc} {w0:World} {p0_r:((List (Int×ByteArray×Int×Int))×(Option (Int×Int×Int×ByteArray))×Int×(Option (Int×Int×Int×ByteArray)))} {ve0_4 ve0_5:Value} {r:(List ByteArray×((List (Int×ByteArray×Int×Int))×(Option (Int×Int×Int×ByteArray))×Int×(Option (Int×Int×Int×ByteArray))))} (c1 qc0 qc0_1:Nat) (hm:Zfy N p0_r=some r) (hd:X9 [qc0,qc0_1]=true) (h0_2:Zb (Za.pair (Za.int .i8) (Za.pair Za.str (Za.pair (Za.int .i64) (Za.int .i64)))) 63 qc0_1 col w0 a0_2 cap0_2 p0_r.1) (he0_4:Rd (Za.fptr 29 (Za.pair (Za.int .i64) (Za.pair (Za.int .i64) (Za.pair (Za.int .i64) Za.str)))) col w0 [ve0_4] p0_r.2.1) (he0_5:Rd (Za.fptr 29 (Za.pair (Za.int .i64) (Za.pair (Za.int .i64) (Za.pair (Za.int .i64) Za.str)))) col w0 [ve0_5] p0_r.2.2.2) (hb0:Zd 74 qc0 col w0 g0 #[.slice a0_2 p0_r.1.length cap0_2,ve0_4,.int .i64 p0_r.2.2.1,ve0_5]):
    Calls prog 26 #[.pointer (some ⟨g0,0,none⟩)] w0 (fun e w'=>∃ (col':Zc) (ra1:Option Addr) (rc2:Nat) (oa4:Option Addr) (oc5:Nat) (ov7:Value) (ov9:Value),e= .returned ((.slice ra1 r.1.length rc2))∧Zo (pS [qc0,qc0_1]) col w0 col' w'∧Zb Za.str 9 c1 col' w' ra1 rc2 r.1∧Zb (Za.pair (Za.int .i8) (Za.pair Za.str (Za.pair (Za.int .i64) (Za.int .i64)))) 63 qc0_1 col' w' oa4 oc5 r.2.1∧Rd (Za.fptr 29 (Za.pair (Za.int .i64) (Za.pair (Za.int .i64) (Za.pair (Za.int .i64) Za.str)))) col' w' [ov7] r.2.2.1∧Rd (Za.fptr 29 (Za.pair (Za.int .i64) (Za.pair (Za.int .i64) (Za.pair (Za.int .i64) Za.str)))) col' w' [ov9] r.2.2.2.2∧Zd 74 qc0 col' w' g0 #[.slice oa4 r.2.1.length oc5,ov7,.int .i64 r.2.2.2.1,ov9]):=by
 refine Z1 2 (m:=21) func26 O O O O O ?_;rw [Zfy.eq_1] at hm;have hst:=St.startL (l:=[qc0,qc0_1]) O col w0;replace hb0:=hb0.startL (X5 hd 0 O) (X4 hd 0 O);replace h0_2:=h0_2.startL (X5 hd 1 O) (X4 hd 1 O);refine go ?_;obtain ⟨r_1,hr_2,hm⟩:=bZ hm;replace he0_4:=he0_4.keep (Zk.startL [qc0,qc0_1] col w0);replace he0_5:=he0_5.keep (Zk.startL [qc0,qc0_1] col w0);refine Ze (Zax 440 441 hr_2 O h0_2 he0_4 he0_5 hb0) ?_;rintro _ w_11 ⟨col_13,oa_3,oc_4,ov_6,ov_8,rfl,hg_12,oh_5,oh_7,oh_9,ohb_10⟩;refine ⟨_,O,go ?_⟩;obtain ⟨r_14,hr_15,hm⟩:=bZ hm;refine Ze (Zej 440 441 hr_15 O oh_5 oh_7 oh_9 ohb_10) ?_;rintro _ w_24 ⟨col_26,oa_16,oc_17,ov_19,ov_21,rfl,hg_25,oh_18,oh_20,oh_22,ohb_23⟩;refine ⟨_,O,?_⟩;refine Zh ?_;replace hst:=(hst.kpp hg_12).kpp hg_25;refine Zl hm (fun hb hm=>go ?_) fun hb hm=>go ?_
 ·cases hm;exact ⟨O,Xt w0.heap.size [qc0,qc0_1] col col_26 (fun n=>bif Nat.beq n 441 then qc0_1 else bif Nat.beq n 440 then qc0 else 0),none,0,oa_16,oc_17,ov_19,ov_21,O,hst.finL O (fun n=>bif Nat.beq n 441 then qc0_1 else bif Nat.beq n 440 then qc0 else 0),Zb.nil,hst.finOwnL (g:=(fun n=>bif Nat.beq n 441 then qc0_1 else bif Nat.beq n 440 then qc0 else 0)) O oh_18 (by decide) (by decide) O,hst.finRdL (g:=(fun n=>bif Nat.beq n 441 then qc0_1 else bif Nat.beq n 440 then qc0 else 0)) O oh_20,hst.finRdL (g:=(fun n=>bif Nat.beq n 441 then qc0_1 else bif Nat.beq n 440 then qc0 else 0)) O oh_22,hst.finBoxL (g:=(fun n=>bif Nat.beq n 441 then qc0_1 else bif Nat.beq n 440 then qc0 else 0)) ohb_23 (by decide) (by decide) O⟩
 obtain ⟨r_27,hr_28,hm⟩:=bZ hm;refine Ze (T7 440 441 hr_28 O oh_18 oh_20 oh_22 ohb_23 Sl.nil) ?_;rintro _ w_37 ⟨col_39,oa_29,oc_30,ov_32,ov_34,rfl,hg_38,oh_31,oh_33,oh_35,ohb_36⟩;refine ⟨_,O,?_⟩;refine Tq (col:=col_39) ([r_27.1]:List ByteArray) 1 ?_;intro a_40 w_41 col_42 hg_43 h_44;refine go ?_;replace hst:=(hst.kpp hg_38).grow hg_43;replace oh_31:=oh_31.gr hg_43;replace oh_33:=oh_33.gr hg_43;replace oh_35:=oh_35.gr hg_43;replace ohb_36:=ohb_36.gr hg_43;refine Z3 [0,1000000] (fun n f w_46=>∃ col_47 a_49 cap_50 r_48 v_52 r_53 r_55 v_56 r_57 a_60 cap_61 l_59 n_45,n_45=n∧Zbu N n_45 r_48 r_53 r_55 r_57 l_59=some r∧St w0 (Zu [qc0,qc0_1] col) col_47 w_46∧Zb (Za.pair (Za.int .i8) (Za.pair Za.str (Za.pair (Za.int .i64) (Za.int .i64)))) 63 441 col_47 w_46 a_49 cap_50 r_48∧Rd (Za.fptr 29 (Za.pair (Za.int .i64) (Za.pair (Za.int .i64) (Za.pair (Za.int .i64) Za.str)))) col_47 w_46 [v_52] r_53∧Rd (Za.fptr 29 (Za.pair (Za.int .i64) (Za.pair (Za.int .i64) (Za.pair (Za.int .i64) Za.str)))) col_47 w_46 [v_56] r_57∧Zd 74 440 col_47 w_46 g0 #[.slice a_49 r_48.length cap_50,v_52,.int .i64 r_55,v_56]∧Zb Za.str 9 1 col_47 w_46 a_60 cap_61 l_59∧[3].map f=[.slice a_60 l_59.length cap_61]) N ⟨_,_,_,_,_,_,_,_,_,_,1,_,_,O,hm,hst,oh_31,oh_33,oh_35,ohb_36,h_44,O⟩ ?_;clear hm;intro n f w_46 hI;obtain ⟨col_47,a_49,cap_50,r_48,v_52,r_53,r_55,v_56,r_57,a_60,cap_61,l_59,n_45,hn,hm,hst,h_51,h_54,h_58,ohb_36,h_62,hs⟩:=hI;subst hn;refine .lL [3] hs ?_
 cases n_45 with
 | zero=>rw [Zbu.eq_1] at hm;cases hm
 | succ n_45=>
  rw [Zbu.eq_2] at hm;refine go ?_;obtain ⟨r_63,hr_64,hm⟩:=bZ hm;refine Ze (Zej 440 441 hr_64 O h_51 h_54 h_58 ohb_36) ?_;rintro _ w_73 ⟨col_75,oa_65,oc_66,ov_68,ov_70,rfl,hg_74,oh_67,oh_69,oh_71,ohb_72⟩;refine ⟨_,O,?_⟩;refine Zh ?_;replace h_62:=h_62.kpp hg_74;replace hst:=hst.kpp hg_74;refine Zl hm (fun hb hm=>go ?_) fun hb hm=>go ?_
  ·obtain ⟨r_76,hr_77,hm⟩:=bZ hm;refine Ze (T7 440 441 hr_77 O oh_67 oh_69 oh_71 ohb_72 Sl.nil) ?_;rintro _ w_86 ⟨col_88,oa_78,oc_79,ov_81,ov_83,rfl,hg_87,oh_80,oh_82,oh_84,ohb_85⟩;refine ⟨_,O,?_⟩;refine Tq (col:=col_88) ([r_76.1]:List ByteArray) 2 ?_;intro a_89 w_90 col_91 hg_92 h_93;obtain ⟨hb_94,hm⟩:=Zs hm;replace h_62:=(h_62.kpp hg_87).gr hg_92;refine V9 h_62 (h_93.srcN NB.str) hb_94 ?_;intro a_95 cap_96 w_97 col_98 hk_99 h_100;refine go ?_;replace hst:=((hst.kpp hg_87).grow hg_92).kpp hk_99;replace oh_80:=(oh_80.gr hg_92).kpp hk_99;replace oh_82:=(oh_82.gr hg_92).kpp hk_99;replace oh_84:=(oh_84.gr hg_92).kpp hk_99;replace ohb_85:=(ohb_85.gr hg_92).kpp hk_99;exact ⟨n_45,by omega,O,⟨_,_,_,_,_,_,_,_,_,_,_,_,_,O,hm,hst,oh_80,oh_82,oh_84,ohb_85,h_100,O⟩⟩
  obtain ⟨r_101,hr_102,hm⟩:=bZ hm;refine Ze (Zax 440 441 hr_102 O oh_67 oh_69 oh_71 ohb_72) ?_;rintro _ w_111 ⟨col_113,oa_103,oc_104,ov_106,ov_108,rfl,hg_112,oh_105,oh_107,oh_109,ohb_110⟩;refine ⟨_,O,go ?_⟩;cases hm;replace h_62:=h_62.kpp hg_112;replace hst:=hst.kpp hg_112;exact ⟨O,Xt w0.heap.size [qc0,qc0_1] col col_113 (fun n=>bif Nat.beq n 1 then c1 else bif Nat.beq n 441 then qc0_1 else bif Nat.beq n 440 then qc0 else 0),a_60,cap_61,oa_103,oc_104,ov_106,ov_108,O,hst.finL O (fun n=>bif Nat.beq n 1 then c1 else bif Nat.beq n 441 then qc0_1 else bif Nat.beq n 440 then qc0 else 0),hst.finOwnL (g:=(fun n=>bif Nat.beq n 1 then c1 else bif Nat.beq n 441 then qc0_1 else bif Nat.beq n 440 then qc0 else 0)) O h_62 (by decide) (by decide) O,hst.finOwnL (g:=(fun n=>bif Nat.beq n 1 then c1 else bif Nat.beq n 441 then qc0_1 else bif Nat.beq n 440 then qc0 else 0)) O oh_105 (by decide) (by decide) O,hst.finRdL (g:=(fun n=>bif Nat.beq n 1 then c1 else bif Nat.beq n 441 then qc0_1 else bif Nat.beq n 440 then qc0 else 0)) O oh_107,hst.finRdL (g:=(fun n=>bif Nat.beq n 1 then c1 else bif Nat.beq n 441 then qc0_1 else bif Nat.beq n 440 then qc0 else 0)) O oh_109,hst.finBoxL (g:=(fun n=>bif Nat.beq n 1 then c1 else bif Nat.beq n 441 then qc0_1 else bif Nat.beq n 440 then qc0 else 0)) ohb_110 (by decide) (by decide) O⟩
def Zbv (N:Nat):Nat→(List (Int×ByteArray×Int×Int))→(Option (Int×Int×Int×ByteArray))→Int→(Option (Int×Int×Int×ByteArray))→(List (ByteArray×ByteArray))→Option ((List (ByteArray×ByteArray))×((List (Int×ByteArray×Int×Int))×(Option (Int×Int×Int×ByteArray))×Int×(Option (Int×Int×Int×ByteArray))))
  | 0,_,_,_,_,_=>none
  | n_1+1,r_4,r_9,r_11,r_13,l_15=>(V2 (r_4,r_9,r_11,r_13) ([]:List ByteArray)).bind fun r_19=>(U2 (r_19.2.1,r_19.2.2.1,r_19.2.2.2.1,r_19.2.2.2.2) (⟨#[61]⟩)).bind fun r_32=>(V2 (r_32.1,r_32.2.1,r_32.2.2.1,r_32.2.2.2) ([]:List ByteArray)).bind fun r_45=>Zp ((l_15.length+[(r_19.1,r_45.1)].length) * 32≤140737488355328∧l_15.length+[(r_19.1,r_45.1)].length≤maxLen) ((Sj (r_45.2.1,r_45.2.2.1,r_45.2.2.2.1,r_45.2.2.2.2) (⟨#[44]⟩)).bind fun r_70=>if (!r_70.1)=true then (some (l_15++[(r_19.1,r_45.1)],(r_70.2.1,r_70.2.2.1,r_70.2.2.2.1,r_70.2.2.2.2))) else ((Zbv N n_1) r_70.2.1 r_70.2.2.1 r_70.2.2.2.1 r_70.2.2.2.2 (l_15++[(r_19.1,r_45.1)])))
termination_by structural x=>x
def Q9 (N:Nat) (p0_r:((List (Int×ByteArray×Int×Int))×(Option (Int×Int×Int×ByteArray))×Int×(Option (Int×Int×Int×ByteArray)))):Option ((List (ByteArray×ByteArray))×((List (Int×ByteArray×Int×Int))×(Option (Int×Int×Int×ByteArray))×Int×(Option (Int×Int×Int×ByteArray)))):=
  Zbv N N p0_r.1 p0_r.2.1 p0_r.2.2.1 p0_r.2.2.2 ([]:List (ByteArray×ByteArray))
theorem Zk8 {N g0 cap0_2:Nat} {a0_2:Option Addr} {col:Zc} {w0:World} {p0_r:((List (Int×ByteArray×Int×Int))×(Option (Int×Int×Int×ByteArray))×Int×(Option (Int×Int×Int×ByteArray)))} {ve0_4 ve0_5:Value} {r:((List (ByteArray×ByteArray))×((List (Int×ByteArray×Int×Int))×(Option (Int×Int×Int×ByteArray))×Int×(Option (Int×Int×Int×ByteArray))))} (c1 qc0 qc0_1:Nat) (hm:Q9 N p0_r=some r) (hd:X9 [qc0,qc0_1]=true) (h0_2:Zb (Za.pair (Za.int .i8) (Za.pair Za.str (Za.pair (Za.int .i64) (Za.int .i64)))) 63 qc0_1 col w0 a0_2 cap0_2 p0_r.1) (he0_4:Rd (Za.fptr 29 (Za.pair (Za.int .i64) (Za.pair (Za.int .i64) (Za.pair (Za.int .i64) Za.str)))) col w0 [ve0_4] p0_r.2.1) (he0_5:Rd (Za.fptr 29 (Za.pair (Za.int .i64) (Za.pair (Za.int .i64) (Za.pair (Za.int .i64) Za.str)))) col w0 [ve0_5] p0_r.2.2.2) (hb0:Zd 74 qc0 col w0 g0 #[.slice a0_2 p0_r.1.length cap0_2,ve0_4,.int .i64 p0_r.2.2.1,ve0_5]):
    Calls prog 28 #[.pointer (some ⟨g0,0,none⟩)] w0 (fun e w'=>∃ (col':Zc) (ra1:Option Addr) (rc2:Nat) (oa4:Option Addr) (oc5:Nat) (ov7:Value) (ov9:Value),e= .returned ((.slice ra1 r.1.length rc2))∧Zo (pS [qc0,qc0_1]) col w0 col' w'∧Zb (Za.pair Za.str Za.str) 56 c1 col' w' ra1 rc2 r.1∧Zb (Za.pair (Za.int .i8) (Za.pair Za.str (Za.pair (Za.int .i64) (Za.int .i64)))) 63 qc0_1 col' w' oa4 oc5 r.2.1∧Rd (Za.fptr 29 (Za.pair (Za.int .i64) (Za.pair (Za.int .i64) (Za.pair (Za.int .i64) Za.str)))) col' w' [ov7] r.2.2.1∧Rd (Za.fptr 29 (Za.pair (Za.int .i64) (Za.pair (Za.int .i64) (Za.pair (Za.int .i64) Za.str)))) col' w' [ov9] r.2.2.2.2∧Zd 74 qc0 col' w' g0 #[.slice oa4 r.2.1.length oc5,ov7,.int .i64 r.2.2.2.1,ov9]):=by
 refine Z1 2 (m:=20) func28 O O O O O ?_;rw [Q9.eq_1] at hm;have hst:=St.startL (l:=[qc0,qc0_1]) O col w0;replace hb0:=hb0.startL (X5 hd 0 O) (X4 hd 0 O);replace h0_2:=h0_2.startL (X5 hd 1 O) (X4 hd 1 O);refine go ?_;replace he0_4:=he0_4.keep (Zk.startL [qc0,qc0_1] col w0);replace he0_5:=he0_5.keep (Zk.startL [qc0,qc0_1] col w0);refine Z3 [0,1000000] (fun n f w_2=>∃ col_3 a_5 cap_6 r_4 v_8 r_9 r_11 v_12 r_13 a_16 cap_17 l_15 n_1,n_1=n∧Zbv N n_1 r_4 r_9 r_11 r_13 l_15=some r∧St w0 (Zu [qc0,qc0_1] col) col_3 w_2∧Zb (Za.pair (Za.int .i8) (Za.pair Za.str (Za.pair (Za.int .i64) (Za.int .i64)))) 63 441 col_3 w_2 a_5 cap_6 r_4∧Rd (Za.fptr 29 (Za.pair (Za.int .i64) (Za.pair (Za.int .i64) (Za.pair (Za.int .i64) Za.str)))) col_3 w_2 [v_8] r_9∧Rd (Za.fptr 29 (Za.pair (Za.int .i64) (Za.pair (Za.int .i64) (Za.pair (Za.int .i64) Za.str)))) col_3 w_2 [v_12] r_13∧Zd 74 440 col_3 w_2 g0 #[.slice a_5 r_4.length cap_6,v_8,.int .i64 r_11,v_12]∧Zb (Za.pair Za.str Za.str) 56 1 col_3 w_2 a_16 cap_17 l_15∧[3].map f=[.slice a_16 l_15.length cap_17]) N ⟨_,_,_,_,_,_,_,_,_,none,0,_,_,O,hm,hst,h0_2,he0_4,he0_5,hb0,Zb.nil,O⟩ ?_;clear hm;intro n f w_2 hI;obtain ⟨col_3,a_5,cap_6,r_4,v_8,r_9,r_11,v_12,r_13,a_16,cap_17,l_15,n_1,hn,hm,hst,h_7,h_10,h_14,hb0,h_18,hs⟩:=hI;subst hn;refine .lL [3] hs ?_
 cases n_1 with
 | zero=>rw [Zbv.eq_1] at hm;cases hm
 | succ n_1=>
  rw [Zbv.eq_2] at hm;refine go ?_;obtain ⟨r_19,hr_20,hm⟩:=bZ hm;refine Ze (T7 440 441 hr_20 O h_7 h_10 h_14 hb0 Sl.nil) ?_;rintro _ w_29 ⟨col_31,oa_21,oc_22,ov_24,ov_26,rfl,hg_30,oh_23,oh_25,oh_27,ohb_28⟩;refine ⟨_,O,go ?_⟩;obtain ⟨r_32,hr_33,hm⟩:=bZ hm;refine Ze (Zax 440 441 hr_33 O oh_23 oh_25 oh_27 ohb_28) ?_;rintro _ w_42 ⟨col_44,oa_34,oc_35,ov_37,ov_39,rfl,hg_43,oh_36,oh_38,oh_40,ohb_41⟩;refine ⟨_,O,go ?_⟩;obtain ⟨r_45,hr_46,hm⟩:=bZ hm;refine Ze (T7 440 441 hr_46 O oh_36 oh_38 oh_40 ohb_41 Sl.nil) ?_;rintro _ w_55 ⟨col_57,oa_47,oc_48,ov_50,ov_52,rfl,hg_56,oh_49,oh_51,oh_53,ohb_54⟩;refine ⟨_,O,?_⟩;refine lV (.agg #[.string r_19.1,.string r_45.1]) (Yy (l:=[_,_]) (qs:=[(0,1),(1,1)]) underlying56 zeroValue56 ⟨O,sizeOf9,O,sizeOf9,trivial⟩ O)<|Tb (col:=col_57) (r:=(Za.pair Za.str Za.str)) (xs:=[(r_19.1,r_45.1)]) [(.agg #[.string r_19.1,.string r_45.1])] 2 (Yp.ofF (Rows.consF (r:=(Za.pair Za.str Za.str)) (x:=(r_19.1,r_45.1)) (cs:=[.string r_19.1,.string r_45.1]) (Wl (Sq r_19.1) (Sq r_45.1)) Rows.nil0)) ?_;intro a_58 w_59 col_60 hg_61 h_62;obtain ⟨hb_63,hm⟩:=Zs hm;replace h_18:=(((h_18.kpp hg_30).kpp hg_43).kpp hg_56).gr hg_61;refine V9 h_18 (h_62.srcN (NB.pair NB.str NB.str)) hb_63 ?_;intro a_64 cap_65 w_66 col_67 hk_68 h_69;refine go ?_;obtain ⟨r_70,hr_71,hm⟩:=bZ hm;replace oh_49:=(oh_49.gr hg_61).kpp hk_68;replace oh_51:=(oh_51.gr hg_61).kpp hk_68;replace oh_53:=(oh_53.gr hg_61).kpp hk_68;replace ohb_54:=(ohb_54.gr hg_61).kpp hk_68;refine Ze (Zej 440 441 hr_71 O oh_49 oh_51 oh_53 ohb_54) ?_;rintro _ w_80 ⟨col_82,oa_72,oc_73,ov_75,ov_77,rfl,hg_81,oh_74,oh_76,oh_78,ohb_79⟩;refine ⟨_,O,go ?_⟩;replace hst:=(((((hst.kpp hg_30).kpp hg_43).kpp hg_56).grow hg_61).kpp hk_68).kpp hg_81;replace h_69:=h_69.kpp hg_81;refine Zl hm (fun hb hm=>go ?_) fun hb hm=>?_
  ·cases hm;exact ⟨O,Xt w0.heap.size [qc0,qc0_1] col col_82 (fun n=>bif Nat.beq n 1 then c1 else bif Nat.beq n 441 then qc0_1 else bif Nat.beq n 440 then qc0 else 0),a_64,cap_65,oa_72,oc_73,ov_75,ov_77,O,hst.finL O (fun n=>bif Nat.beq n 1 then c1 else bif Nat.beq n 441 then qc0_1 else bif Nat.beq n 440 then qc0 else 0),hst.finOwnL (g:=(fun n=>bif Nat.beq n 1 then c1 else bif Nat.beq n 441 then qc0_1 else bif Nat.beq n 440 then qc0 else 0)) O h_69 (by decide) (by decide) O,hst.finOwnL (g:=(fun n=>bif Nat.beq n 1 then c1 else bif Nat.beq n 441 then qc0_1 else bif Nat.beq n 440 then qc0 else 0)) O oh_74 (by decide) (by decide) O,hst.finRdL (g:=(fun n=>bif Nat.beq n 1 then c1 else bif Nat.beq n 441 then qc0_1 else bif Nat.beq n 440 then qc0 else 0)) O oh_76,hst.finRdL (g:=(fun n=>bif Nat.beq n 1 then c1 else bif Nat.beq n 441 then qc0_1 else bif Nat.beq n 440 then qc0 else 0)) O oh_78,hst.finBoxL (g:=(fun n=>bif Nat.beq n 1 then c1 else bif Nat.beq n 441 then qc0_1 else bif Nat.beq n 440 then qc0 else 0)) ohb_79 (by decide) (by decide) O⟩
  refine Zx ?_;exact ⟨n_1,by omega,O,⟨_,_,_,_,_,_,_,_,_,_,_,_,_,O,hm,hst,oh_74,oh_76,oh_78,ohb_79,h_69,O⟩⟩
def Zdk (N:Nat) (p0_r:((List (Int×ByteArray×Int×Int))×(Option (Int×Int×Int×ByteArray))×Int×(Option (Int×Int×Int×ByteArray)))):Option ((List (ByteArray×ByteArray))×((List (Int×ByteArray×Int×Int))×(Option (Int×Int×Int×ByteArray))×Int×(Option (Int×Int×Int×ByteArray)))):=
  (Sj (p0_r.1,p0_r.2.1,p0_r.2.2.1,p0_r.2.2.2) (⟨#[124]⟩)).bind fun r_1=>if r_1.1=true then ((Q9 N (r_1.2.1,r_1.2.2.1,r_1.2.2.2.1,r_1.2.2.2.2)).bind fun r_14=>some (r_14.1,(r_14.2.1,r_14.2.2.1,r_14.2.2.2.1,r_14.2.2.2.2))) else (some (([]:List (ByteArray×ByteArray)),(r_1.2.1,r_1.2.2.1,r_1.2.2.2.1,r_1.2.2.2.2)))
theorem Zo9 {N g0 cap0_2:Nat} {a0_2:Option Addr} {col:Zc} {w0:World} {p0_r:((List (Int×ByteArray×Int×Int))×(Option (Int×Int×Int×ByteArray))×Int×(Option (Int×Int×Int×ByteArray)))} {ve0_4 ve0_5:Value} {r:((List (ByteArray×ByteArray))×((List (Int×ByteArray×Int×Int))×(Option (Int×Int×Int×ByteArray))×Int×(Option (Int×Int×Int×ByteArray))))} (c1 qc0 qc0_1:Nat) (hm:Zdk N p0_r=some r) (hd:X9 [qc0,qc0_1]=true) (h0_2:Zb (Za.pair (Za.int .i8) (Za.pair Za.str (Za.pair (Za.int .i64) (Za.int .i64)))) 63 qc0_1 col w0 a0_2 cap0_2 p0_r.1) (he0_4:Rd (Za.fptr 29 (Za.pair (Za.int .i64) (Za.pair (Za.int .i64) (Za.pair (Za.int .i64) Za.str)))) col w0 [ve0_4] p0_r.2.1) (he0_5:Rd (Za.fptr 29 (Za.pair (Za.int .i64) (Za.pair (Za.int .i64) (Za.pair (Za.int .i64) Za.str)))) col w0 [ve0_5] p0_r.2.2.2) (hb0:Zd 74 qc0 col w0 g0 #[.slice a0_2 p0_r.1.length cap0_2,ve0_4,.int .i64 p0_r.2.2.1,ve0_5]):
    Calls prog 29 #[.pointer (some ⟨g0,0,none⟩)] w0 (fun e w'=>∃ (col':Zc) (ra1:Option Addr) (rc2:Nat) (oa4:Option Addr) (oc5:Nat) (ov7:Value) (ov9:Value),e= .returned ((.slice ra1 r.1.length rc2))∧Zo (pS [qc0,qc0_1]) col w0 col' w'∧Zb (Za.pair Za.str Za.str) 56 c1 col' w' ra1 rc2 r.1∧Zb (Za.pair (Za.int .i8) (Za.pair Za.str (Za.pair (Za.int .i64) (Za.int .i64)))) 63 qc0_1 col' w' oa4 oc5 r.2.1∧Rd (Za.fptr 29 (Za.pair (Za.int .i64) (Za.pair (Za.int .i64) (Za.pair (Za.int .i64) Za.str)))) col' w' [ov7] r.2.2.1∧Rd (Za.fptr 29 (Za.pair (Za.int .i64) (Za.pair (Za.int .i64) (Za.pair (Za.int .i64) Za.str)))) col' w' [ov9] r.2.2.2.2∧Zd 74 qc0 col' w' g0 #[.slice oa4 r.2.1.length oc5,ov7,.int .i64 r.2.2.2.1,ov9]):=by
 refine Z1 2 (m:=7) func29 O O O O O ?_;rw [Zdk.eq_1] at hm;have hst:=St.startL (l:=[qc0,qc0_1]) O col w0;replace hb0:=hb0.startL (X5 hd 0 O) (X4 hd 0 O);replace h0_2:=h0_2.startL (X5 hd 1 O) (X4 hd 1 O);refine go ?_;obtain ⟨r_1,hr_2,hm⟩:=bZ hm;replace he0_4:=he0_4.keep (Zk.startL [qc0,qc0_1] col w0);replace he0_5:=he0_5.keep (Zk.startL [qc0,qc0_1] col w0);refine Ze (Zej 440 441 hr_2 O h0_2 he0_4 he0_5 hb0) ?_;rintro _ w_11 ⟨col_13,oa_3,oc_4,ov_6,ov_8,rfl,hg_12,oh_5,oh_7,oh_9,ohb_10⟩;refine ⟨_,O,?_⟩;refine Zh ?_;replace hst:=hst.kpp hg_12;refine Zl hm (fun hb hm=>go ?_) fun hb hm=>go ?_
 ·obtain ⟨r_14,hr_15,hm⟩:=bZ hm;refine Ze (Zk8 1 440 441 hr_15 O oh_5 oh_7 oh_9 ohb_10) ?_;rintro _ w_27 ⟨col_29,ra_16,rc_17,oa_19,oc_20,ov_22,ov_24,rfl,hg_28,rh_18,oh_21,oh_23,oh_25,ohb_26⟩;refine ⟨_,O,go ?_⟩;cases hm;replace hst:=hst.kpp hg_28;exact ⟨O,Xt w0.heap.size [qc0,qc0_1] col col_29 (fun n=>bif Nat.beq n 1 then c1 else bif Nat.beq n 441 then qc0_1 else bif Nat.beq n 440 then qc0 else 0),ra_16,rc_17,oa_19,oc_20,ov_22,ov_24,O,hst.finL O (fun n=>bif Nat.beq n 1 then c1 else bif Nat.beq n 441 then qc0_1 else bif Nat.beq n 440 then qc0 else 0),hst.finOwnL (g:=(fun n=>bif Nat.beq n 1 then c1 else bif Nat.beq n 441 then qc0_1 else bif Nat.beq n 440 then qc0 else 0)) O rh_18 (by decide) (by decide) O,hst.finOwnL (g:=(fun n=>bif Nat.beq n 1 then c1 else bif Nat.beq n 441 then qc0_1 else bif Nat.beq n 440 then qc0 else 0)) O oh_21 (by decide) (by decide) O,hst.finRdL (g:=(fun n=>bif Nat.beq n 1 then c1 else bif Nat.beq n 441 then qc0_1 else bif Nat.beq n 440 then qc0 else 0)) O oh_23,hst.finRdL (g:=(fun n=>bif Nat.beq n 1 then c1 else bif Nat.beq n 441 then qc0_1 else bif Nat.beq n 440 then qc0 else 0)) O oh_25,hst.finBoxL (g:=(fun n=>bif Nat.beq n 1 then c1 else bif Nat.beq n 441 then qc0_1 else bif Nat.beq n 440 then qc0 else 0)) ohb_26 (by decide) (by decide) O⟩
 cases hm;exact ⟨O,Xt w0.heap.size [qc0,qc0_1] col col_13 (fun n=>bif Nat.beq n 441 then qc0_1 else bif Nat.beq n 440 then qc0 else 0),none,0,oa_3,oc_4,ov_6,ov_8,O,hst.finL O (fun n=>bif Nat.beq n 441 then qc0_1 else bif Nat.beq n 440 then qc0 else 0),Zb.nil,hst.finOwnL (g:=(fun n=>bif Nat.beq n 441 then qc0_1 else bif Nat.beq n 440 then qc0 else 0)) O oh_5 (by decide) (by decide) O,hst.finRdL (g:=(fun n=>bif Nat.beq n 441 then qc0_1 else bif Nat.beq n 440 then qc0 else 0)) O oh_7,hst.finRdL (g:=(fun n=>bif Nat.beq n 441 then qc0_1 else bif Nat.beq n 440 then qc0 else 0)) O oh_9,hst.finBoxL (g:=(fun n=>bif Nat.beq n 441 then qc0_1 else bif Nat.beq n 440 then qc0 else 0)) ohb_10 (by decide) (by decide) O⟩

end Go.Proofs.YtdpdogdkolblnaaGreatDoor
