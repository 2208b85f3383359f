/-
  What functions of the program compute, as plain Lean functions (m_..), and proofs that they compute it (c_..). Printed by a program of the author; no conditions.
-/
import Derived.Test.YtdpdogdkolblnaaGreatDoorQueryBackBFloat
import Derived.Test.YtdpdogdkolblnaaGreatDoorProg
import Derived.Test.YtdpdogdkolblnaaGreatDoorQueryBackBArr
import Derived.Test.YtdpdogdkolblnaaGreatDoorQueryBackBBrief
import Derived.Test.YtdpdogdkolblnaaGreatDoorQueryBackBBulk
import Derived.Test.YtdpdogdkolblnaaGreatDoorQueryBackBEqs
import Derived.Test.YtdpdogdkolblnaaGreatDoorQueryBackBErr
import Derived.Test.YtdpdogdkolblnaaGreatDoorQueryBackF4
set_option linter.unusedVariables false
set_option linter.unusedSectionVars false
set_option maxRecDepth 100000
set_option maxHeartbeats 2000000
namespace Go.Proofs.YtdpdogdkolblnaaGreatDoor
open Go Go.RowKit
open Go.IntKind (i8 i16 i32 i64 u8 u16 u32 u64)
open Go.Proofs.Tryz

def Zhf (N:Nat) (p0_n:(ByteArray×List ByteArray×(List (List ByteArray))×(List (List Int))×(List (List ((Bool×List Int)×List Int))))):List (List ((Bool×List Int)×List Int))→Nat→Option Int
  | [],k_33=>some 0
  | x_37 :: l_38,k_33=>(Zq p0_n.2.2.1 (k_33:Int)).bind fun e_44=>(Zkf N x_37).bind fun r_52=>(Zoz N r_52 (e_44.length:Int)).bind fun r_61=>if (!r_61)=true then (some 46) else ((Zhf N p0_n l_38) (k_33+1))
termination_by structural x=>x
def Zhe (N:Nat) (p0_n:(ByteArray×List ByteArray×(List (List ByteArray))×(List (List Int))×(List (List ((Bool×List Int)×List Int))))):List (List ((Bool×List Int)×List Int))→Option Int
  | []=>Zhf N p0_n p0_n.2.2.2.2 0
  | x_31 :: l_32=>(Zkf N x_31).bind fun r_71=>(Zpx N r_71).bind fun r_79=>if r_79=true then (some 45) else (Zhe N p0_n l_32)
termination_by structural x=>x
def Zhd (N:Nat) (p0_n:(ByteArray×List ByteArray×(List (List ByteArray))×(List (List Int))×(List (List ((Bool×List Int)×List Int))))):List (List ((Bool×List Int)×List Int))→Nat→Option Int
  | [],k_21=>Zhe N p0_n p0_n.2.2.2.2
  | x_25 :: l_26,k_21=>(Zox (p0_n.1,p0_n.2.1,p0_n.2.2.1,p0_n.2.2.2.1,p0_n.2.2.2.2) (k_21:Int)).bind fun r_88=>(Zq p0_n.2.2.1 (k_21:Int)).bind fun e_90=>if (decide (65536<(i64.wrap (r_88 * (e_90.length:Int)))))=true then (some 4) else (if (!decide ((i64.wrap (r_88 * (e_90.length:Int)))=(x_25.length:Int)))=true then (some 60) else ((Zhd N p0_n l_26) (k_21+1)))
termination_by structural x=>x
def Zhc (N:Nat) (p0_n:(ByteArray×List ByteArray×(List (List ByteArray))×(List (List Int))×(List (List ((Bool×List Int)×List Int))))) (v_12:Bool):Option Int:=
  if v_12=true then (some 60) else (if (decide (1024<(p0_n.2.1.length:Int)))=true then (some 4) else ((Zov (p0_n.1,p0_n.2.1,p0_n.2.2.1,p0_n.2.2.2.1,p0_n.2.2.2.2)).bind fun r_13=>if (!decide (r_13=0))=true then (some r_13) else ((Zoh N p0_n.2.2.2.1).bind fun r_17=>if (!decide (r_17=0))=true then (some r_17) else (Zhd N p0_n p0_n.2.2.2.2 0))))
def Zot (N:Nat) (p0_n:(ByteArray×List ByteArray×(List (List ByteArray))×(List (List Int))×(List (List ((Bool×List Int)×List Int))))):Option Int:=
  if (!decide ((p0_n.2.2.1.length:Int)=(p0_n.2.1.length:Int)))=true then (Zhc N p0_n true) else (if (!decide ((p0_n.2.2.2.1.length:Int)=(p0_n.2.1.length:Int)))=true then (Zhc N p0_n true) else (Zhc N p0_n (!decide ((p0_n.2.2.2.2.length:Int)=(p0_n.2.1.length:Int)))))
theorem Zyg {N cap0_0 cap0_2 cap0_4 cap0_6:Nat} {a0_0 a0_2 a0_4 a0_6:Option Addr} {col:Zc} {w0:World} {p0_n:(ByteArray×List ByteArray×(List (List ByteArray))×(List (List Int))×(List (List ((Bool×List Int)×List Int))))} {r:Int} (hm:Zot N p0_n=some r) (h0_0:Sl Za.str col w0 a0_0 cap0_0 p0_n.2.1) (h0_2:Sl (Za.slice Za.str) col w0 a0_2 cap0_2 p0_n.2.2.1) (h0_4:Sl (Za.slice (Za.int .i64)) col w0 a0_4 cap0_4 p0_n.2.2.2.1) (h0_6:Sl (Za.slice (Za.pair (Za.pair Za.bool (Za.slice (Za.int .u32))) (Za.slice (Za.int .u32)))) col w0 a0_6 cap0_6 p0_n.2.2.2.2):
    Calls prog 40 #[(.agg #[.string p0_n.1,.slice a0_0 p0_n.2.1.length cap0_0,.slice a0_2 p0_n.2.2.1.length cap0_2,.slice a0_4 p0_n.2.2.2.1.length cap0_4,.slice a0_6 p0_n.2.2.2.2.length cap0_6])] w0 (fun e w'=>e= .returned ((.int .i64 r))∧Below w0.heap.size w0 w'):=by
 refine Z0 2 (m:=103) func40 O O O O O ?_;rw [Zot.eq_1] at hm;have hst:=St.start col w0;refine go ?_;refine Yl (col:=(Zh col)) 1 O ?_;intro g_1 w_2 col_3 hg_4 hb_5;refine go ?_;refine Zy hb_5<|lV _ (Zdr underlying40 O)<|Yn O<|Zi<|Zm<|Zm ?_;replace h0_0:=h0_0.keep (Zk.start col w0);replace h0_2:=h0_2.keep (Zk.start col w0);replace h0_4:=h0_4.keep (Zk.start col w0);replace h0_6:=h0_6.keep (Zk.start col w0);replace hst:=hst.grow hg_4;refine Wp.cutK [1,3,1000000] (fun f w_10=>∃ col_11 v_12,Zhc N p0_n v_12=some r∧St w0 (Zh col) col_11 w_10∧Zd 45 1 col_11 w_10 g_1 #[.string p0_n.1,.slice a0_0 p0_n.2.1.length cap0_0,.slice a0_2 p0_n.2.2.1.length cap0_2,.slice a0_4 p0_n.2.2.2.1.length cap0_4,.slice a0_6 p0_n.2.2.2.2.length cap0_6]∧[34].map f=[.bool v_12]) ?_ ?_
 ·intro f w_10 hJ;obtain ⟨col_11,v_12,hm,hst,hb_5,hs⟩:=hJ;rw [Zhc.eq_1] at hm;refine .lL [34] hs ?_;refine Zl hm (fun hb hm=>go ?_) fun hb hm=>go ?_
  ·cases hm;exact ⟨O,O,hst.below⟩
  refine Zl hm (fun hb hm=>go ?_) fun hb hm=>go ?_
  ·cases hm;exact ⟨O,O,hst.below⟩
  refine lV _ (Yr isAgg45 sizeOf45 hb_5) ?_;obtain ⟨r_13,hr_14,hm⟩:=bZ hm;refine Zf (Zyi hr_14 (h0_0.ks hst) (h0_2.ks hst) (h0_4.ks hst) (h0_6.ks hst)) ?_;rintro _ w_15 ⟨rfl,hg_16⟩;refine ⟨_,O,?_⟩;replace hg_16:Ze col_11 w_10 col_11 w_15:=.of_below hg_16;refine go ?_;replace hb_5:=hb_5.gr hg_16;replace hst:=hst.grow hg_16;refine Zl hm (fun hb hm=>go ?_) fun hb hm=>go ?_
  ·cases hm;exact ⟨O,O,hst.below⟩
  refine Zy hb_5 ?_;obtain ⟨r_17,hr_18,hm⟩:=bZ hm;refine Zf (Zxp hr_18 (h0_4.ks hst)) ?_;rintro _ w_19 ⟨rfl,hg_20⟩;refine ⟨_,O,?_⟩;replace hg_20:Ze col_11 w_15 col_11 w_19:=.of_below hg_20;refine go ?_;replace hb_5:=hb_5.gr hg_20;replace hst:=hst.grow hg_20;refine Zl hm (fun hb hm=>go ?_) fun hb hm=>go ?_
  ·cases hm;exact ⟨O,O,hst.below⟩
  refine Zy hb_5 ?_;refine go ?_;refine Z5 [1,49,50,1000000] (fun n f w_23=>∃ col_24 k_21 l_22,n=l_22.length∧p0_n.2.2.2.2.drop k_21=l_22∧Zhd N p0_n l_22 k_21=some r∧St w0 (Zh col) col_24 w_23∧Zd 45 1 col_24 w_23 g_1 #[.string p0_n.1,.slice a0_0 p0_n.2.1.length cap0_0,.slice a0_2 p0_n.2.2.1.length cap0_2,.slice a0_4 p0_n.2.2.2.1.length cap0_4,.slice a0_6 p0_n.2.2.2.2.length cap0_6]∧[51].map f=[.int .i64 k_21]) p0_n.2.2.2.2.length ⟨_,0,_,O,O,hm,hst,hb_5,O⟩ ?_;clear hm;intro n f w_23 hI;obtain ⟨col_24,k_21,l_22,hn,hl,hm,hst,hb_5,hs⟩:=hI;subst hn;refine .lL [51] hs ?_
  cases l_22 with
  | nil=>
   have hk:¬ ((k_21:Int)<(p0_n.2.2.2.2.length:Int)):=by have:=List.drop_eq_nil_iff.1 hl;omega
   have hkb:=decide_eq_false hk;rw [Zhd.eq_1] at hm;refine go ?_;refine Ye (congrArg Value.bool hkb)<|go ?_;refine Zy hb_5 ?_;refine go ?_;refine Z5 [1,74,75,1000000] (fun n f w_29=>∃ col_30 k_27 l_28,n=l_28.length∧p0_n.2.2.2.2.drop k_27=l_28∧Zhe N p0_n l_28=some r∧St w0 (Zh col) col_30 w_29∧Zd 45 1 col_30 w_29 g_1 #[.string p0_n.1,.slice a0_0 p0_n.2.1.length cap0_0,.slice a0_2 p0_n.2.2.1.length cap0_2,.slice a0_4 p0_n.2.2.2.1.length cap0_4,.slice a0_6 p0_n.2.2.2.2.length cap0_6]∧[76].map f=[.int .i64 k_27]) p0_n.2.2.2.2.length ⟨_,0,_,O,O,hm,hst,hb_5,O⟩ ?_;clear hm;intro n f w_29 hI;obtain ⟨col_30,k_27,l_28,hn,hl,hm,hst,hb_5,hs⟩:=hI;subst hn;refine .lL [76] hs ?_
   cases l_28 with
   | nil=>
    have hk:¬ ((k_27:Int)<(p0_n.2.2.2.2.length:Int)):=by have:=List.drop_eq_nil_iff.1 hl;omega
    have hkb:=decide_eq_false hk;rw [Zhe.eq_1] at hm;refine go ?_;refine Ye (congrArg Value.bool hkb)<|go ?_;refine Zy hb_5 ?_;refine go ?_;refine Z5 [1,85,86,1000000] (fun n f w_35=>∃ col_36 k_33 l_34,n=l_34.length∧p0_n.2.2.2.2.drop k_33=l_34∧Zhf N p0_n l_34 k_33=some r∧St w0 (Zh col) col_36 w_35∧Zd 45 1 col_36 w_35 g_1 #[.string p0_n.1,.slice a0_0 p0_n.2.1.length cap0_0,.slice a0_2 p0_n.2.2.1.length cap0_2,.slice a0_4 p0_n.2.2.2.1.length cap0_4,.slice a0_6 p0_n.2.2.2.2.length cap0_6]∧[87].map f=[.int .i64 k_33]) p0_n.2.2.2.2.length ⟨_,0,_,O,O,hm,hst,hb_5,O⟩ ?_;clear hm;intro n f w_35 hI;obtain ⟨col_36,k_33,l_34,hn,hl,hm,hst,hb_5,hs⟩:=hI;subst hn;refine .lL [87] hs ?_
    cases l_34 with
    | nil=>
     have hk:¬ ((k_33:Int)<(p0_n.2.2.2.2.length:Int)):=by have:=List.drop_eq_nil_iff.1 hl;omega
     have hkb:=decide_eq_false hk;rw [Zhf.eq_1] at hm;refine go ?_;refine Ye (congrArg Value.bool hkb)<|go ?_;cases hm;exact ⟨O,O,hst.below⟩
    | cons x_37 l_38=>
     obtain ⟨hat,hl2_L3,hlt_L3⟩:=Yt hl;have hk:(k_33:Int)<(p0_n.2.2.2.2.length:Int):=by omega
     have hkb:=decide_eq_true hk;rw [Zhf.eq_2] at hm;refine go ?_;refine X7 (congrArg Value.bool hkb)<|go ?_;refine lI hat ((h0_6.ks hst).addr hat) ?_;obtain ⟨_,hr_39,hA_40⟩:=(h0_6.ks hst).atN hat;obtain ⟨⟨a_41,cap_42,rfl,h_43⟩,_⟩:=hr_39;refine lW hA_40.one<|go ?_;refine Ud (col:=col_36) [(0,1),(2,1),(3,0),(4,1),(5,1),(6,0),(7,1),(1,3),(8,3),(9,1)] (by kernel_rfl) (by kernel_rfl)<|xu O O (fun _=>Zb8 O) ?_;refine xF ⟨_,_,O⟩ ?_;refine xW (fun _ hC=>((hb_5.atN).nth (q:=2) O).gr (hC.bl col_36)) ?_;refine xu O O (fun _=>Vo O) ?_;obtain ⟨e_44,hj_45,hm⟩:=bZ hm;refine xu O O (fun _=>Uu underlying41 sizeOf40 O O (Yf hj_45).1 (Yf hj_45).2.1 ((h0_2.ks hst).addr hj_45)) ?_;obtain ⟨_,hr_46,hA_47⟩:=(h0_2.ks hst).atN hj_45;obtain ⟨⟨a_48,cap_49,rfl,h_50⟩,_⟩:=hr_46;refine xW (fun _ hC=>hA_47.one.gr (hC.bl col_36)) ?_;refine xu O O (fun _=>Zdr underlying40 O) ?_;refine xe O O ?_;intro w_51 hC0;have hC:=hC0.bl col_36;obtain ⟨r_52,hr_53,hm⟩:=bZ hm;replace h_43:=h_43.gr hC;refine Zf (Zrk 2 hr_53 h_43) ?_;rintro _ w_57 ⟨col_59,ra_54,rc_55,rfl,hg_58,rh_56⟩;refine ⟨_,O,?_⟩;refine Zi<|W5 col_59 hC0 hg_58<|xe O O ?_;intro w_60 hC0;replace hb_5:=(hb_5.gr hC).gr hg_58;replace hst:=(hst.grow hC).grow hg_58;have hC:=hC0.bl col_59;obtain ⟨r_61,hr_62,hm⟩:=bZ hm;replace rh_56:=rh_56.gr hC;refine Zf (Zym hr_62 (rh_56.toSlF (Zj.pair (Zj.pair Zj.bool Zj.slice) Zj.slice))) ?_;rintro _ w_63 ⟨rfl,hg_64⟩;refine ⟨_,O,?_⟩;replace hg_64:Ze col_59 w_60 col_59 w_63:=.of_below hg_64;refine Zi<|W5 col_59 hC0 hg_64<|xu O O (fun _=>Zqm _ O) ?_;refine Vi ?_;replace hb_5:=(hb_5.gr hC).gr hg_64;replace hst:=(hst.grow hC).grow hg_64;intro w_65 hC;replace hC:=hC.bl col_59;replace hb_5:=hb_5.gr hC;replace hst:=hst.grow hC;refine Zl hm (fun hb hm=>go ?_) fun hb hm=>go ?_
     ·cases hm;exact ⟨O,O,hst.below⟩
     exact ⟨l_38.length,by simp,O,⟨_,_,_,O,hl2_L3,hm,hst,hb_5,(Yz (congrArg (Value.int .i64) (Yw (Nat.lt_of_lt_of_le hlt_L3 (h0_6.ks hst).1.1))) O)⟩⟩
   | cons x_31 l_32=>
    obtain ⟨hat,hl2_L2,hlt_L2⟩:=Yt hl;have hk:(k_27:Int)<(p0_n.2.2.2.2.length:Int):=by omega
    have hkb:=decide_eq_true hk;rw [Zhe.eq_2] at hm;refine go ?_;refine X7 (congrArg Value.bool hkb)<|go ?_;refine lI hat ((h0_6.ks hst).addr hat) ?_;obtain ⟨_,hr_66,hA_67⟩:=(h0_6.ks hst).atN hat;obtain ⟨⟨a_68,cap_69,rfl,h_70⟩,_⟩:=hr_66;refine lW hA_67.one<|go ?_;obtain ⟨r_71,hr_72,hm⟩:=bZ hm;refine Zf (Zrk 3 hr_72 h_70) ?_;rintro _ w_76 ⟨col_78,ra_73,rc_74,rfl,hg_77,rh_75⟩;refine ⟨_,O,?_⟩;obtain ⟨r_79,hr_80,hm⟩:=bZ hm;refine Zf (Zzd hr_80 (rh_75.toSlF (Zj.pair (Zj.pair Zj.bool Zj.slice) Zj.slice))) ?_;rintro _ w_81 ⟨rfl,hg_82⟩;refine ⟨_,O,?_⟩;replace hg_82:Ze col_78 w_76 col_78 w_81:=.of_below hg_82;refine Zi ?_;replace hb_5:=(hb_5.gr hg_77).gr hg_82;replace hst:=(hst.grow hg_77).grow hg_82;refine Zl hm (fun hb hm=>go ?_) fun hb hm=>go ?_
    ·cases hm;exact ⟨O,O,hst.below⟩
    exact ⟨l_32.length,by simp,O,⟨_,_,_,O,hl2_L2,hm,hst,hb_5,(Yz (congrArg (Value.int .i64) (Yw (Nat.lt_of_lt_of_le hlt_L2 (h0_6.ks hst).1.1))) O)⟩⟩
  | cons x_25 l_26=>
   obtain ⟨hat,hl2_L1,hlt_L1⟩:=Yt hl;have hk:(k_21:Int)<(p0_n.2.2.2.2.length:Int):=by omega
   have hkb:=decide_eq_true hk;rw [Zhd.eq_2] at hm;refine go ?_;refine X7 (congrArg Value.bool hkb)<|go ?_;refine lI hat ((h0_6.ks hst).addr hat) ?_;obtain ⟨_,hr_83,hA_84⟩:=(h0_6.ks hst).atN hat;obtain ⟨⟨a_85,cap_86,rfl,h_87⟩,_⟩:=hr_83;refine lW hA_84.one<|go ?_;refine Vq (col:=col_24) (by kernel_rfl) (by kernel_rfl)<|qv O (fun _ hC=>Yr isAgg45 sizeOf45 (hb_5.gr (hC.bl col_24))) ?_;refine go ?_;obtain ⟨r_88,hr_89,hm⟩:=bZ hm;refine qc (v:=(.int .i64 r_88)) O (fun _ hC=>⟨_,_,Zfx call57 O O,(Zyk hr_89 ((h0_0.ks hst).gr (hC.bl col_24)) ((h0_2.ks hst).gr (hC.bl col_24)) ((h0_4.ks hst).gr (hC.bl col_24)) ((h0_6.ks hst).gr (hC.bl col_24)):).mono fun _ _ h=>⟨h.1,hC.trans (.of_below h.2)⟩⟩) ?_;refine qF ⟨_,_,O⟩ ?_;refine qW (fun _ hC=>((hb_5.atN).nth (q:=2) O).gr (hC.bl col_24)) ?_;refine go ?_;obtain ⟨e_90,hj_91,hm⟩:=bZ hm;refine qI hj_91 ((h0_2.ks hst).addr hj_91) ?_;obtain ⟨_,hr_92,hA_93⟩:=(h0_2.ks hst).atN hj_91;obtain ⟨⟨a_94,cap_95,rfl,h_96⟩,_⟩:=hr_92;refine qW (fun _ hC=>hA_93.one.gr (hC.bl col_24)) ?_;refine go ?_;refine Wc ?_;intro w_97 hC;replace hC:=hC.bl col_24;refine go ?_;replace hb_5:=hb_5.gr hC;replace hst:=hst.grow hC;refine Zl hm (fun hb hm=>go ?_) fun hb hm=>go ?_
   ·cases hm;exact ⟨O,O,hst.below⟩
   refine Zl hm (fun hb hm=>go ?_) fun hb hm=>go ?_
   ·cases hm;exact ⟨O,O,hst.below⟩
   exact ⟨l_26.length,by simp,O,⟨_,_,_,O,hl2_L1,hm,hst,hb_5,(Yz (congrArg (Value.int .i64) (Yw (Nat.lt_of_lt_of_le hlt_L1 (h0_6.ks hst).1.1))) O)⟩⟩
 refine Yc<|Zy hb_5 ?_;refine go ?_;refine Z3 hm (fun hg_98 hm=>go ?_) fun hg_98 hm=>go ?_
 ·refine lV (.bool true) (Zv (congrArg Value.bool hg_98) O)<|Xo O<|lP 28 O O<|lP 28 O O<|lP 28 O O<|lP 28 O O<|lP 28 O O<|lV (.bool true) (Zv O O)<|Zi ?_;exact ⟨O,_,_,hm,hst,hb_5,O⟩
 refine Zt ⟨_,_,O⟩ ?_;refine go ?_;refine lW ((hb_5.atN).nth (q:=3) O)<|go ?_;refine lV (.bool (!decide ((p0_n.2.2.2.1.length:Int)=(p0_n.2.1.length:Int)))) (Zu (congrArg Value.bool hg_98) O)<|Xo O ?_;refine Z3 hm (fun hg_99 hm=>go ?_) fun hg_99 hm=>go ?_
 ·refine lV (.bool true) (Zv (congrArg Value.bool hg_99) O)<|Zi ?_;exact ⟨O,_,_,hm,hst,hb_5,O⟩
 refine Zt ⟨_,_,O⟩ ?_;refine go ?_;refine lW ((hb_5.atN).nth (q:=4) O)<|go ?_;refine lV (.bool (!decide ((p0_n.2.2.2.2.length:Int)=(p0_n.2.1.length:Int)))) (Zu (congrArg Value.bool hg_99) O)<|Zi ?_;exact ⟨O,_,_,hm,hst,hb_5,O⟩
theorem Z0f:Wm prog 56 2 32:=⟨Tryz.t56,_,rfl,rfl,rfl,rfl,rfl⟩
def Zpw (p0_s:(List (ByteArray×ByteArray))):Option (List (ByteArray×ByteArray)):=
  Zp ((([]:List (ByteArray×ByteArray)).length+p0_s.length) * 32≤140737488355328∧([]:List (ByteArray×ByteArray)).length+p0_s.length≤maxLen) (some (([]:List (ByteArray×ByteArray))++p0_s))
theorem Zzb {cap0:Nat} {a0:Option Addr} {col:Zc} {w0:World} {p0_s r:(List (ByteArray×ByteArray))} (c1:Nat) (hm:Zpw p0_s=some r) (h0:Sl (Za.pair Za.str Za.str) col w0 a0 cap0 p0_s):
    Calls prog 41 #[.slice a0 p0_s.length cap0] w0 (fun e w'=>∃ (col':Zc) (ra1:Option Addr) (rc2:Nat),e= .returned ((.slice ra1 r.length rc2))∧Ze col w0 col' w'∧Zb (Za.pair Za.str Za.str) 56 c1 col' w' ra1 rc2 r):=by
 refine Z0 2 (m:=8) func41 O O O O O ?_;rw [Zpw.eq_1] at hm;have hst:=St.start col w0;refine go ?_;replace h0:=h0.keep (Zk.start col w0);rcases Zp6 h0 with hn_1 | hn_1
 ·replace hm:some ([]:List (ByteArray×ByteArray))=some r:=by have h0:=hn_1.2;subst h0;simpa [Zp,maxLen] using hm
  refine lv (v:=.bool a0.isNone) O O (Zfy underlying47 O)<|.ld (d:=4) (v:=.bool true) (congrArg Value.bool hn_1.1)<|Zi<|X7 O<|go ?_;cases hm;exact ⟨O,_,none,0,O,hst.fin (cm []),Zb.nil⟩
 refine lv (v:=.bool a0.isNone) O O (Zfy underlying47 O)<|.ld (d:=4) (v:=.bool false) (congrArg Value.bool hn_1)<|Zi<|Ye O<|go ?_;refine Zjm (col:=(Zh col)) (r:=(Za.pair Za.str Za.str)) 1 O underlying47 Z0f O ?_;intro a_2 w_3 col_4 hg_5 h_6;refine W9 O ?_;obtain ⟨hb_7,hm⟩:=Zr hm;replace h0:=h0.gr hg_5;refine Ui h_6 h0.srcC hb_7 ?_;intro a_8 cap_9 w_10 col_11 hk_12 h_13;refine go ?_;cases hm;replace hst:=(hst.grow hg_5).kpp hk_12;exact ⟨O,_,_,_,O,hst.fin (cm [(1,c1)]),hst.fo h_13⟩
def Zky (left_67:Int) (taken_69:List (ByteArray×Int)) (kk_L3:(Int→(List (ByteArray×Int))→Option Int)) (x_71:ByteArray) (v_77:Bool):Option Int:=
  if v_77=true then (some 51) else ((some (Wo taken_69 x_71 1)).bind fun es_82=>kk_L3 (i64.wrap (left_67 - 1)) es_82)
def Zc7 (at_27:List (ByteArray×Int)):List ByteArray→Int→(List (ByteArray×Int))→Option Int
  | [],left_67,taken_69=>if (!decide (left_67=0))=true then (some 51) else (some 0)
  | x_71 :: l_72,left_67,taken_69=>if (!((X4 at_27 x_71).isSome))=true then (Zky left_67 taken_69 (Zc7 at_27 l_72) x_71 true) else (Zky left_67 taken_69 (Zc7 at_27 l_72) x_71 (decide (0<((X4 taken_69 x_71).getD 0))))
termination_by structural x=>x
def Zpf (k_54:Nat) (kk_L2:(Nat→(List (ByteArray×Int))→Option Int)) (taken_88:List (ByteArray×Int)):Option Int:=
  kk_L2 (k_54+1) taken_88
def Zpg (k_54:Nat) (taken_59:List (ByteArray×Int)) (kk_L2:(Nat→(List (ByteArray×Int))→Option Int)) (x_61:(ByteArray×ByteArray)):Option Int:=
  (some (Wo taken_59 x_61.1 1)).bind fun es_114=>Zpf k_54 kk_L2 es_114
def Ze9 (k_54:Nat) (taken_59:List (ByteArray×Int)) (kk_L2:(Nat→(List (ByteArray×Int))→Option Int)) (x_61:(ByteArray×ByteArray)) (v_150:Bool):Option Int:=
  if v_150=true then (some 50) else (Zpg k_54 taken_59 kk_L2 x_61)
def Zkz (p0_n:(ByteArray×List ByteArray×(List (List ByteArray))×(List (List Int))×(List (List ((Bool×List Int)×List Int))))) (at_27:List (ByteArray×Int)) (k_54:Nat) (taken_59:List (ByteArray×Int)) (kk_L2:(Nat→(List (ByteArray×Int))→Option Int)) (x_61:(ByteArray×ByteArray)) (free_107:Bool):Option Int:=
  if (!((X4 at_27 x_61.1).isSome))=true then (Ze9 k_54 taken_59 kk_L2 x_61 true) else (if (decide (0<((X4 taken_59 x_61.1).getD 0)))=true then (Ze9 k_54 taken_59 kk_L2 x_61 true) else (if (!free_107)=true then ((Zq p0_n.2.2.1 ((X4 at_27 x_61.1).getD 0)).bind fun e_156=>(Zdk e_156 x_61.2).bind fun r_163=>Ze9 k_54 taken_59 kk_L2 x_61 (!r_163)) else (Ze9 k_54 taken_59 kk_L2 x_61 false)))
def Qs (p0_n:(ByteArray×List ByteArray×(List (List ByteArray))×(List (List Int))×(List (List ((Bool×List Int)×List Int))))) (p1_q:(Int×(List (ByteArray×ByteArray))×(List (ByteArray×ByteArray))×Int×List ByteArray×(Bool×Bool))) (at_27:List (ByteArray×Int)):List (ByteArray×ByteArray)→Nat→(List (ByteArray×Int))→Option Int
  | [],k_54,taken_59=>if (!decide (p1_q.2.2.2.1=3))=true then (some 0) else (Zc7 at_27 p1_q.2.2.2.2.1 (i64.wrap ((p0_n.2.1.length:Int) - (taken_59.length:Int))) taken_59)
  | x_61 :: l_62,k_54,taken_59=>if (decide (p1_q.1=3))=true then (Zkz p0_n at_27 k_54 taken_59 (Qs p0_n p1_q at_27 l_62) x_61 (decide ((k_54:Int)=0))) else (Zkz p0_n at_27 k_54 taken_59 (Qs p0_n p1_q at_27 l_62) x_61 false)
termination_by structural x=>x
def Zhw (p0_n:(ByteArray×List ByteArray×(List (List ByteArray))×(List (List Int))×(List (List ((Bool×List Int)×List Int))))) (p1_q:(Int×(List (ByteArray×ByteArray))×(List (ByteArray×ByteArray))×Int×List ByteArray×(Bool×Bool))):List ByteArray→Nat→(List (ByteArray×Int))→Option Int
  | [],k_22,at_27=>(Zpw p1_q.2.1).bind fun r_37=>Zp ((r_37.length+p1_q.2.2.1.length) * 32≤140737488355328∧r_37.length+p1_q.2.2.1.length≤maxLen) (Qs p0_n p1_q at_27 (r_37++p1_q.2.2.1) 0 ([]:List (ByteArray×Int)))
  | x_29 :: l_30,k_22,at_27=>(some (Wo at_27 x_29 (k_22:Int))).bind fun es_172=>(Zhw p0_n p1_q l_30) (k_22+1) es_172
termination_by structural x=>x
def Zpe (p0_n:(ByteArray×List ByteArray×(List (List ByteArray))×(List (List Int))×(List (List ((Bool×List Int)×List Int))))) (p1_q:(Int×(List (ByteArray×ByteArray))×(List (ByteArray×ByteArray))×Int×List ByteArray×(Bool×Bool))):Option Int:=
  Zhw p0_n p1_q p0_n.2.1 0 ([]:List (ByteArray×Int))
def Zfa (p0_n:(ByteArray×List ByteArray×(List (List ByteArray))×(List (List Int))×(List (List ((Bool×List Int)×List Int))))) (p1_q:(Int×(List (ByteArray×ByteArray))×(List (ByteArray×ByteArray))×Int×List ByteArray×(Bool×Bool))) (v_206:Bool):Option Int:=
  if v_206=true then (some 50) else (Zpe p0_n p1_q)
def Zpd (N:Nat) (p0_n:(ByteArray×List ByteArray×(List (List ByteArray))×(List (List Int))×(List (List ((Bool×List Int)×List Int))))) (p1_q:(Int×(List (ByteArray×ByteArray))×(List (ByteArray×ByteArray))×Int×List ByteArray×(Bool×Bool))):Option Int:=
  (Zot N (p0_n.1,p0_n.2.1,p0_n.2.2.1,p0_n.2.2.2.1,p0_n.2.2.2.2)).bind fun r_11=>if (!decide (r_11=0))=true then (some r_11) else (if (!decide (p1_q.2.2.2.1=1))=true then (if (!decide (p1_q.2.2.2.1=2))=true then (if (!decide (p1_q.2.2.2.1=3))=true then (Zfa p0_n p1_q true) else ((Zaq (p1_q.1,p1_q.2.1,p1_q.2.2.1,p1_q.2.2.2.1,p1_q.2.2.2.2.1,(p1_q.2.2.2.2.2.1,p1_q.2.2.2.2.2.2))).bind fun r_210=>Zfa p0_n p1_q (!r_210))) else ((Zaq (p1_q.1,p1_q.2.1,p1_q.2.2.1,p1_q.2.2.2.1,p1_q.2.2.2.2.1,(p1_q.2.2.2.2.2.1,p1_q.2.2.2.2.2.2))).bind fun r_214=>Zfa p0_n p1_q (!r_214))) else ((Zaq (p1_q.1,p1_q.2.1,p1_q.2.2.1,p1_q.2.2.2.1,p1_q.2.2.2.2.1,(p1_q.2.2.2.2.2.1,p1_q.2.2.2.2.2.2))).bind fun r_218=>Zfa p0_n p1_q (!r_218)))
theorem Zyt {N cap0_0 cap0_2 cap0_4 cap0_6 cap1_0 cap1_2 cap1_4:Nat} {a0_0 a0_2 a0_4 a0_6 a1_0 a1_2 a1_4:Option Addr} {col:Zc} {w0:World} {p0_n:(ByteArray×List ByteArray×(List (List ByteArray))×(List (List Int))×(List (List ((Bool×List Int)×List Int))))} {p1_q:(Int×(List (ByteArray×ByteArray))×(List (ByteArray×ByteArray))×Int×List ByteArray×(Bool×Bool))} {r:Int} (hm:Zpd N p0_n p1_q=some r) (h0_0:Sl Za.str col w0 a0_0 cap0_0 p0_n.2.1) (h0_2:Sl (Za.slice Za.str) col w0 a0_2 cap0_2 p0_n.2.2.1) (h0_4:Sl (Za.slice (Za.int .i64)) col w0 a0_4 cap0_4 p0_n.2.2.2.1) (h0_6:Sl (Za.slice (Za.pair (Za.pair Za.bool (Za.slice (Za.int .u32))) (Za.slice (Za.int .u32)))) col w0 a0_6 cap0_6 p0_n.2.2.2.2) (h1_0:Sl (Za.pair Za.str Za.str) col w0 a1_0 cap1_0 p1_q.2.1) (h1_2:Sl (Za.pair Za.str Za.str) col w0 a1_2 cap1_2 p1_q.2.2.1) (h1_4:Sl Za.str col w0 a1_4 cap1_4 p1_q.2.2.2.2.1):
    Calls prog 17 #[(.agg #[.string p0_n.1,.slice a0_0 p0_n.2.1.length cap0_0,.slice a0_2 p0_n.2.2.1.length cap0_2,.slice a0_4 p0_n.2.2.2.1.length cap0_4,.slice a0_6 p0_n.2.2.2.2.length cap0_6]),(.agg #[.int .i8 p1_q.1,.slice a1_0 p1_q.2.1.length cap1_0,.slice a1_2 p1_q.2.2.1.length cap1_2,.int .i8 p1_q.2.2.2.1,.slice a1_4 p1_q.2.2.2.2.1.length cap1_4,.bool p1_q.2.2.2.2.2.1,.bool p1_q.2.2.2.2.2.2])] w0 (fun e w'=>e= .returned ((.int .i64 r))∧Below w0.heap.size w0 w'):=by
 refine Z0 4 (m:=151) func17 O O O O O ?_;rw [Zpd.eq_1] at hm;have hst:=St.start col w0;refine go ?_;refine Yl (col:=(Zh col)) 1 O ?_;intro g_1 w_2 col_3 hg_4 hb_5;refine Yl (col:=col_3) 2 O ?_;intro g_6 w_7 col_8 hg_9 hb_10;refine go ?_;replace hb_5:=hb_5.gr hg_9;refine lV _ (Yr isAgg45 sizeOf45 hb_5) ?_;obtain ⟨r_11,hr_12,hm⟩:=bZ hm;replace h0_0:=h0_0.keep (Zk.start col w0);replace h0_2:=h0_2.keep (Zk.start col w0);replace h0_4:=h0_4.keep (Zk.start col w0);replace h0_6:=h0_6.keep (Zk.start col w0);replace hst:=(hst.grow hg_4).grow hg_9;refine Zf (Zyg hr_12 (h0_0.ks hst) (h0_2.ks hst) (h0_4.ks hst) (h0_6.ks hst)) ?_;rintro _ w_13 ⟨rfl,hg_14⟩;refine ⟨_,O,?_⟩;replace hg_14:Ze col_8 w_7 col_8 w_13:=.of_below hg_14;refine go ?_;replace h1_0:=h1_0.keep (Zk.start col w0);replace h1_2:=h1_2.keep (Zk.start col w0);replace h1_4:=h1_4.keep (Zk.start col w0);replace hb_5:=hb_5.gr hg_14;replace hb_10:=hb_10.gr hg_14;replace hst:=hst.grow hg_14;refine Zl hm (fun hb hm=>go ?_) fun hb hm=>?_
 ·cases hm;exact ⟨O,O,hst.below⟩
 refine Zz<|Zm ?_;refine Wp.cutK [2,3,1000000] (fun f w_15=>∃ col_16,Zpe p0_n p1_q=some r∧St w0 (Zh col) col_16 w_15∧Zd 45 1 col_16 w_15 g_1 #[.string p0_n.1,.slice a0_0 p0_n.2.1.length cap0_0,.slice a0_2 p0_n.2.2.1.length cap0_2,.slice a0_4 p0_n.2.2.2.1.length cap0_4,.slice a0_6 p0_n.2.2.2.2.length cap0_6]∧Zd 50 2 col_16 w_15 g_6 #[.int .i8 p1_q.1,.slice a1_0 p1_q.2.1.length cap1_0,.slice a1_2 p1_q.2.2.1.length cap1_2,.int .i8 p1_q.2.2.2.1,.slice a1_4 p1_q.2.2.2.2.1.length cap1_4,.bool p1_q.2.2.2.2.2.1,.bool p1_q.2.2.2.2.2.2]) ?_ ?_
 ·intro f w_15 hJ;obtain ⟨col_16,hm,hst,hb_5,hb_10⟩:=hJ;rw [Zpe.eq_1] at hm;refine go ?_;refine Zy hb_5 ?_;refine go ?_;refine Zsv (col:=col_16) (fk:=Value.string) (fv:=(Value.int .i64)) 3 O underlying95 O ?_;intro g_17 w_18 col_19 hg_20 h_21;refine go ?_;refine Zt ⟨_,_,O⟩ ?_;replace hb_5:=hb_5.gr hg_20;refine lW ((hb_5.atN).nth (q:=1) O)<|go ?_;replace hb_10:=hb_10.gr hg_20;replace hst:=hst.grow hg_20;refine Z5 [2,3,48,49,1000000] (fun n f w_24=>∃ col_25 k_22 g_26 at_27 l_23,n=l_23.length∧p0_n.2.1.drop k_22=l_23∧Zhw p0_n p1_q l_23 k_22 at_27=some r∧St w0 (Zh col) col_25 w_24∧Zd 45 1 col_25 w_24 g_1 #[.string p0_n.1,.slice a0_0 p0_n.2.1.length cap0_0,.slice a0_2 p0_n.2.2.1.length cap0_2,.slice a0_4 p0_n.2.2.2.1.length cap0_4,.slice a0_6 p0_n.2.2.2.2.length cap0_6]∧Zd 50 2 col_25 w_24 g_6 #[.int .i8 p1_q.1,.slice a1_0 p1_q.2.1.length cap1_0,.slice a1_2 p1_q.2.2.1.length cap1_2,.int .i8 p1_q.2.2.2.1,.slice a1_4 p1_q.2.2.2.2.1.length cap1_4,.bool p1_q.2.2.2.2.2.1,.bool p1_q.2.2.2.2.2.2]∧Xu Value.string (Value.int .i64) 3 col_25 w_24 g_26 at_27∧[50,6].map f=[.int .i64 k_22,.map (some g_26)]) p0_n.2.1.length ⟨_,0,_,_,_,O,O,hm,hst,hb_5,hb_10,h_21,O⟩ ?_;clear hm;intro n f w_24 hI;obtain ⟨col_25,k_22,g_26,at_27,l_23,hn,hl,hm,hst,hb_5,hb_10,h_28,hs⟩:=hI;subst hn;refine .lL [50,6] hs ?_
  cases l_23 with
  | nil=>
   have hk:¬ ((k_22:Int)<(p0_n.2.1.length:Int)):=by have:=List.drop_eq_nil_iff.1 hl;omega
   have hkb:=decide_eq_false hk;rw [Zhw.eq_1] at hm;refine go ?_;refine Ye (congrArg Value.bool hkb)<|go ?_;refine Zjn (col:=col_25) (fk:=Value.string) (fv:=(Value.int .i64)) 4 O ?_;intro g_31 w_32 col_33 hg_34 h_35;refine go ?_;refine Ud (col:=col_33) [(0,1),(1,0),(3,1),(4,0),(7,1),(2,3),(5,2),(6,1)] (by kernel_rfl) (by kernel_rfl)<|xF ⟨_,_,O⟩ ?_;replace hb_10:=hb_10.gr hg_34;refine xW (fun _ hC=>((hb_10.atN).nth (q:=1) O).gr (hC.bl col_33)) ?_;refine xF ⟨_,_,O⟩ ?_;refine xW (fun _ hC=>((hb_10.atN).nth (q:=2) O).gr (hC.bl col_33)) ?_;refine xu O O (fun _=>Vo O) ?_;refine xe O O ?_;intro w_36 hC0;have hC:=hC0.bl col_33;obtain ⟨r_37,hr_38,hm⟩:=bZ hm;replace hst:=(hst.grow hg_34).grow hC;refine Zf (Zzb 5 hr_38 (h1_0.ks hst)) ?_;rintro _ w_42 ⟨col_44,ra_39,rc_40,rfl,hg_43,rh_41⟩;refine ⟨_,O,?_⟩;refine Zi<|W5 col_44 hC0 hg_43<|xe O O ?_;intro w_45 hC0;replace h_28:=((h_28.gr hg_34).gr hC).gr hg_43;replace hb_5:=((hb_5.gr hg_34).gr hC).gr hg_43;replace h_35:=(h_35.gr hC).gr hg_43;replace hb_10:=(hb_10.gr hC).gr hg_43;have hC:=hC0.bl col_44;obtain ⟨hb_46,hm⟩:=Zr hm;replace hst:=(hst.grow hg_43).grow hC;replace rh_41:=rh_41.gr hC;refine Ui rh_41 (h1_2.ks hst).srcC hb_46 ?_;intro a_47 cap_48 w_49 col_50 hk_51 h_52;refine Zi<|xk col_50<|xu O O (fun _=>Zdr underlying47 O) ?_;refine Vi ?_;replace h_28:=(h_28.gr hC).kpp hk_51;replace h_35:=(h_35.gr hC).kpp hk_51;replace hb_5:=(hb_5.gr hC).kpp hk_51;replace hb_10:=(hb_10.gr hC).kpp hk_51;intro w_53 hC;replace hC:=hC.bl col_50;refine Zch ?_;replace hst:=(hst.kpp hk_51).grow hC;replace h_28:=h_28.gr hC;replace h_35:=h_35.gr hC;replace h_52:=h_52.gr hC;replace hb_5:=hb_5.gr hC;replace hb_10:=hb_10.gr hC
   refine Z5 [2,3,6,65,66,1000000] (fun n f w_56=>∃ col_57 k_54 g_58 taken_59 l_55,n=l_55.length∧(r_37++p1_q.2.2.1).drop k_54=l_55∧Qs p0_n p1_q at_27 l_55 k_54 taken_59=some r∧St w0 (Zh col) col_57 w_56∧Zd 45 1 col_57 w_56 g_1 #[.string p0_n.1,.slice a0_0 p0_n.2.1.length cap0_0,.slice a0_2 p0_n.2.2.1.length cap0_2,.slice a0_4 p0_n.2.2.2.1.length cap0_4,.slice a0_6 p0_n.2.2.2.2.length cap0_6]∧Zd 50 2 col_57 w_56 g_6 #[.int .i8 p1_q.1,.slice a1_0 p1_q.2.1.length cap1_0,.slice a1_2 p1_q.2.2.1.length cap1_2,.int .i8 p1_q.2.2.2.1,.slice a1_4 p1_q.2.2.2.2.1.length cap1_4,.bool p1_q.2.2.2.2.2.1,.bool p1_q.2.2.2.2.2.2]∧Xu Value.string (Value.int .i64) 3 col_57 w_56 g_26 at_27∧Zb (Za.pair Za.str Za.str) 56 5 col_57 w_56 a_47 cap_48 (r_37++p1_q.2.2.1)∧Xu Value.string (Value.int .i64) 4 col_57 w_56 g_58 taken_59∧[67,9].map f=[.int .i64 k_54,.map (some g_58)]) (r_37++p1_q.2.2.1).length ⟨_,0,_,_,_,O,O,hm,hst,hb_5,hb_10,h_28,h_52,h_35,O⟩ ?_;clear hm;intro n f w_56 hI;obtain ⟨col_57,k_54,g_58,taken_59,l_55,hn,hl,hm,hst,hb_5,hb_10,h_28,h_52,h_60,hs⟩:=hI;subst hn;refine .lL [67,9] hs ?_
   cases l_55 with
   | nil=>
    have hk:¬ ((k_54:Int)<((r_37++p1_q.2.2.1).length:Int)):=by have:=List.drop_eq_nil_iff.1 hl;omega
    have hkb:=decide_eq_false hk;rw [Qs.eq_1] at hm;refine go ?_;refine Ye (congrArg Value.bool hkb)<|go ?_;refine Zy hb_10 ?_;refine go ?_;refine Zl hm (fun hb hm=>go ?_) fun hb hm=>go ?_
    ·cases hm;exact ⟨O,O,hst.below⟩
    refine Zy hb_5 ?_;refine go ?_;refine lV (.int .i64 taken_59.length) (Z25 h_60 underlying95 O)<|go ?_;refine Zy hb_10 ?_;refine go ?_;refine Z5 [124,125,6,1000000] (fun n f w_65=>∃ col_66 k_63 left_67 g_68 taken_69 l_64,n=l_64.length∧p1_q.2.2.2.2.1.drop k_63=l_64∧Zc7 at_27 l_64 left_67 taken_69=some r∧St w0 (Zh col) col_66 w_65∧Xu Value.string (Value.int .i64) 3 col_66 w_65 g_26 at_27∧Xu Value.string (Value.int .i64) 4 col_66 w_65 g_68 taken_69∧[126,15,9].map f=[.int .i64 k_63,.int .i64 left_67,.map (some g_68)]) p1_q.2.2.2.2.1.length ⟨_,0,_,_,_,_,O,O,hm,hst,h_28,h_60,O⟩ ?_;clear hm;intro n f w_65 hI;obtain ⟨col_66,k_63,left_67,g_68,taken_69,l_64,hn,hl,hm,hst,h_28,h_70,hs⟩:=hI;subst hn;refine .lL [126,15,9] hs ?_
    cases l_64 with
    | nil=>
     have hk:¬ ((k_63:Int)<(p1_q.2.2.2.2.1.length:Int)):=by have:=List.drop_eq_nil_iff.1 hl;omega
     have hkb:=decide_eq_false hk;rw [Zc7.eq_1] at hm;refine go ?_;refine Ye (congrArg Value.bool hkb)<|go ?_;refine Zl hm (fun hb hm=>go ?_) fun hb hm=>go ?_
     ·cases hm;exact ⟨O,O,hst.below⟩
     cases hm;exact ⟨O,O,hst.below⟩
    | cons x_71 l_72=>
     obtain ⟨hat,hl2_L3,hlt_L3⟩:=Yt hl;have hk:(k_63:Int)<(p1_q.2.2.2.2.1.length:Int):=by omega
     have hkb:=decide_eq_true hk;rw [Zc7.eq_2] at hm;refine go ?_;refine X7 (congrArg Value.bool hkb)<|go ?_;refine lI hat ((h1_4.ks hst).addr hat)<|lW ((h1_4.ks hst).atStr hat) ?_;refine go ?_;refine lV (.tuple #[.int .i64 ((X4 at_27 x_71).getD 0),.bool ((X4 at_27 x_71).isSome)]) (Zul Y6.str h_28 underlying95 underlying9 zeroValue3 O O)<|lM (.tuple #[.int .i64 ((X4 at_27 x_71).getD 0),.bool ((X4 at_27 x_71).isSome)])<|lV (.int .i64 ((X4 at_27 x_71).getD 0)) (Xd O O)<|lV (.bool ((X4 at_27 x_71).isSome)) (Xd O O)<|Yn O<|Zag O<|Zi<|Zm ?_;refine Wp.cutK [124,125,126,15,17,6,9,1000000] (fun f w_75=>∃ col_76 v_77,Zky left_67 taken_69 (Zc7 at_27 l_72) x_71 v_77=some r∧St w0 (Zh col) col_76 w_75∧Xu Value.string (Value.int .i64) 3 col_76 w_75 g_26 at_27∧Xu Value.string (Value.int .i64) 4 col_76 w_75 g_68 taken_69∧[143].map f=[.bool v_77]) ?_ ?_
     ·intro f w_75 hJ;obtain ⟨col_76,v_77,hm,hst,h_28,h_70,hs⟩:=hJ;rw [Zky.eq_1] at hm;refine .lL [143] hs ?_;refine Zl hm (fun hb hm=>go ?_) fun hb hm=>go ?_
      ·cases hm;exact ⟨O,O,hst.below⟩
      obtain ⟨es_82,hz_83,hm⟩:=bZ hm;have hz_83:es_82=Wo taken_69 x_71 1:=(Option.some.inj hz_83).symm;refine Zgq (k:=x_71) (v:=1) Y6.str h_70 underlying95 underlying9 O O O ?_;intro w_78 hk_79 hs_80 h_81;rw [← hz_83] at h_81;refine go ?_;replace h_28:=h_28.kp hk_79;replace hst:=hst.kp hk_79 hs_80;exact ⟨l_72.length,by simp,O,⟨_,_,_,_,_,_,O,hl2_L3,hm,hst,h_28,h_81,(Yz (congrArg (Value.int .i64) (Yw (Nat.lt_of_lt_of_le hlt_L3 (h1_4.ks hst).1.1))) O)⟩⟩
     refine go ?_;refine Z3 hm (fun hg_84 hm=>go ?_) fun hg_84 hm=>go ?_
     ·refine lV (.bool true) (Zv (congrArg Value.bool hg_84) O)<|Zi ?_;exact ⟨O,_,_,hm,hst,h_28,h_70,O⟩
     refine lV (.int .i64 ((X4 taken_69 x_71).getD 0)) (Zf0 Y6.str h_70 underlying95 underlying9 zeroValue3 O O)<|go ?_;refine lV (.bool (decide (0<((X4 taken_69 x_71).getD 0)))) (Zu (congrArg Value.bool hg_84) O)<|Zi ?_;exact ⟨O,_,_,hm,hst,h_28,h_70,O⟩
   | cons x_61 l_62=>
    obtain ⟨hat,hl2_L2,hlt_L2⟩:=Yt hl;have hk:(k_54:Int)<((r_37++p1_q.2.2.1).length:Int):=by omega
    have hkb:=decide_eq_true hk;rw [Qs.eq_2] at hm;refine go ?_;refine X7 (congrArg Value.bool hkb)<|Zz<|Zm ?_;refine Wp.cutK [2,3,6,65,66,67,1000000] (fun f w_85=>∃ col_86 g_87 taken_88,Zpf k_54 (Qs p0_n p1_q at_27 l_62) taken_88=some r∧St w0 (Zh col) col_86 w_85∧Zd 45 1 col_86 w_85 g_1 #[.string p0_n.1,.slice a0_0 p0_n.2.1.length cap0_0,.slice a0_2 p0_n.2.2.1.length cap0_2,.slice a0_4 p0_n.2.2.2.1.length cap0_4,.slice a0_6 p0_n.2.2.2.2.length cap0_6]∧Zd 50 2 col_86 w_85 g_6 #[.int .i8 p1_q.1,.slice a1_0 p1_q.2.1.length cap1_0,.slice a1_2 p1_q.2.2.1.length cap1_2,.int .i8 p1_q.2.2.2.1,.slice a1_4 p1_q.2.2.2.2.1.length cap1_4,.bool p1_q.2.2.2.2.2.1,.bool p1_q.2.2.2.2.2.2]∧Xu Value.string (Value.int .i64) 3 col_86 w_85 g_26 at_27∧Zb (Za.pair Za.str Za.str) 56 5 col_86 w_85 a_47 cap_48 (r_37++p1_q.2.2.1)∧Xu Value.string (Value.int .i64) 4 col_86 w_85 g_87 taken_88∧[9].map f=[.map (some g_87)]) ?_ ?_
    ·intro f w_85 hJ;obtain ⟨col_86,g_87,taken_88,hm,hst,hb_5,hb_10,h_28,h_52,h_89,hs⟩:=hJ;rw [Zpf.eq_1] at hm;refine .lL [9] hs<|go ?_;exact ⟨l_62.length,by simp,O,⟨_,_,_,_,_,O,hl2_L2,hm,hst,hb_5,hb_10,h_28,h_52,h_89,(Yz (congrArg (Value.int .i64) (Yw (Nat.lt_of_lt_of_le hlt_L2 h_52.len))) O)⟩⟩
    refine go ?_;refine lI hat (h_52.addr hat) ?_;obtain ⟨_,hr_90,hA_91⟩:=h_52.atN hat;obtain ⟨_,_,rfl,hp_92,hp_93⟩:=hr_90.parts;obtain rfl:=hp_92.str;obtain rfl:=hp_93.str;refine lV (.agg #[.string x_61.1,.string x_61.2]) (Wl isAgg56 sizeOf56 O O hA_91)<|Xs (col:=col_57) #[.string (⟨#[]⟩),.string (⟨#[]⟩)] 6 zeroValue56 ?_;intro g_94 w_95 col_96 hg_97 hb_98;refine Yn O<|Xb hb_98 ?_;intro w_99 hk_100 hs_101 hb_102;refine go ?_;refine Zy hb_102 ?_;replace h_28:=(h_28.gr hg_97).kp hk_100;refine lV (.tuple #[.int .i64 ((X4 at_27 x_61.1).getD 0),.bool ((X4 at_27 x_61.1).isSome)]) (Zul Y6.str h_28 underlying95 underlying9 zeroValue3 O O)<|lM (.tuple #[.int .i64 ((X4 at_27 x_61.1).getD 0),.bool ((X4 at_27 x_61.1).isSome)])<|lV (.int .i64 ((X4 at_27 x_61.1).getD 0)) (Xd O O)<|lV (.bool ((X4 at_27 x_61.1).isSome)) (Xd O O)<|Yn O<|Zag O<|Zi<|Zm ?_;replace h_52:=(h_52.gr hg_97).kp hk_100;replace h_60:=(h_60.gr hg_97).kp hk_100;replace hb_5:=(hb_5.gr hg_97).kp hk_100;replace hb_10:=(hb_10.gr hg_97).kp hk_100;replace hst:=(hst.grow hg_97).kp hk_100 hs_101;refine Wp.cutK [11,12,13,2,3,6,65,66,67,9,1000000] (fun f w_105=>∃ col_106 free_107,Zkz p0_n at_27 k_54 taken_59 (Qs p0_n p1_q at_27 l_62) x_61 free_107=some r∧St w0 (Zh col) col_106 w_105∧Zd 56 6 col_106 w_105 g_94 #[.string x_61.1,.string x_61.2]∧Zd 45 1 col_106 w_105 g_1 #[.string p0_n.1,.slice a0_0 p0_n.2.1.length cap0_0,.slice a0_2 p0_n.2.2.1.length cap0_2,.slice a0_4 p0_n.2.2.2.1.length cap0_4,.slice a0_6 p0_n.2.2.2.2.length cap0_6]∧Zd 50 2 col_106 w_105 g_6 #[.int .i8 p1_q.1,.slice a1_0 p1_q.2.1.length cap1_0,.slice a1_2 p1_q.2.2.1.length cap1_2,.int .i8 p1_q.2.2.2.1,.slice a1_4 p1_q.2.2.2.2.1.length cap1_4,.bool p1_q.2.2.2.2.2.1,.bool p1_q.2.2.2.2.2.2]∧Xu Value.string (Value.int .i64) 3 col_106 w_105 g_26 at_27∧Zb (Za.pair Za.str Za.str) 56 5 col_106 w_105 a_47 cap_48 (r_37++p1_q.2.2.1)∧Xu Value.string (Value.int .i64) 4 col_106 w_105 g_58 taken_59∧[14].map f=[.bool free_107]) ?_ ?_
    ·intro f w_105 hJ;obtain ⟨col_106,free_107,hm,hst,hb_102,hb_5,hb_10,h_28,h_52,h_60,hs⟩:=hJ;rw [Zkz.eq_1] at hm;refine .lL [14] hs<|Zm ?_;refine Wp.cutK [11,2,3,6,65,66,67,9,1000000] (fun f w_108=>∃ col_109,Zpg k_54 taken_59 (Qs p0_n p1_q at_27 l_62) x_61=some r∧St w0 (Zh col) col_109 w_108∧Zd 56 6 col_109 w_108 g_94 #[.string x_61.1,.string x_61.2]∧Zd 45 1 col_109 w_108 g_1 #[.string p0_n.1,.slice a0_0 p0_n.2.1.length cap0_0,.slice a0_2 p0_n.2.2.1.length cap0_2,.slice a0_4 p0_n.2.2.2.1.length cap0_4,.slice a0_6 p0_n.2.2.2.2.length cap0_6]∧Zd 50 2 col_109 w_108 g_6 #[.int .i8 p1_q.1,.slice a1_0 p1_q.2.1.length cap1_0,.slice a1_2 p1_q.2.2.1.length cap1_2,.int .i8 p1_q.2.2.2.1,.slice a1_4 p1_q.2.2.2.2.1.length cap1_4,.bool p1_q.2.2.2.2.2.1,.bool p1_q.2.2.2.2.2.2]∧Xu Value.string (Value.int .i64) 3 col_109 w_108 g_26 at_27∧Zb (Za.pair Za.str Za.str) 56 5 col_109 w_108 a_47 cap_48 (r_37++p1_q.2.2.1)∧Xu Value.string (Value.int .i64) 4 col_109 w_108 g_58 taken_59) ?_ ?_
     ·intro f w_108 hJ;obtain ⟨col_109,hm,hst,hb_102,hb_5,hb_10,h_28,h_52,h_60⟩:=hJ;rw [Zpg.eq_1] at hm;refine go ?_;refine Zy hb_102 ?_;obtain ⟨es_114,hz_115,hm⟩:=bZ hm;have hz_115:es_114=Wo taken_59 x_61.1 1:=(Option.some.inj hz_115).symm;refine Zgq (k:=x_61.1) (v:=1) Y6.str h_60 underlying95 underlying9 O O O ?_;intro w_110 hk_111 hs_112 h_113;rw [← hz_115] at h_113;refine Zi ?_;replace h_28:=h_28.kp hk_111;replace h_52:=h_52.kp hk_111;replace hb_5:=hb_5.kp hk_111;replace hb_10:=hb_10.kp hk_111;replace hst:=hst.kp hk_111 hs_112;exact ⟨O,_,_,_,hm,hst,hb_5,hb_10,h_28,h_52,h_113,O⟩
     refine Zm ?_;refine Wp.cutK [11,2,3,6,65,66,67,9,1000000] (fun f w_148=>∃ col_149 v_150,Ze9 k_54 taken_59 (Qs p0_n p1_q at_27 l_62) x_61 v_150=some r∧St w0 (Zh col) col_149 w_148∧Zd 56 6 col_149 w_148 g_94 #[.string x_61.1,.string x_61.2]∧Zd 45 1 col_149 w_148 g_1 #[.string p0_n.1,.slice a0_0 p0_n.2.1.length cap0_0,.slice a0_2 p0_n.2.2.1.length cap0_2,.slice a0_4 p0_n.2.2.2.1.length cap0_4,.slice a0_6 p0_n.2.2.2.2.length cap0_6]∧Zd 50 2 col_149 w_148 g_6 #[.int .i8 p1_q.1,.slice a1_0 p1_q.2.1.length cap1_0,.slice a1_2 p1_q.2.2.1.length cap1_2,.int .i8 p1_q.2.2.2.1,.slice a1_4 p1_q.2.2.2.2.1.length cap1_4,.bool p1_q.2.2.2.2.2.1,.bool p1_q.2.2.2.2.2.2]∧Xu Value.string (Value.int .i64) 3 col_149 w_148 g_26 at_27∧Zb (Za.pair Za.str Za.str) 56 5 col_149 w_148 a_47 cap_48 (r_37++p1_q.2.2.1)∧Xu Value.string (Value.int .i64) 4 col_149 w_148 g_58 taken_59∧[109].map f=[.bool v_150]) ?_ ?_
     ·intro f w_148 hJ;obtain ⟨col_149,v_150,hm,hst,hb_102,hb_5,hb_10,h_28,h_52,h_60,hs⟩:=hJ;rw [Ze9.eq_1] at hm;refine .lL [109] hs ?_;refine Zl hm (fun hb hm=>go ?_) fun hb hm=>?_
      ·cases hm;exact ⟨O,O,hst.below⟩
      refine Zz ?_;exact ⟨O,_,hm,hst,hb_102,hb_5,hb_10,h_28,h_52,h_60⟩
     refine Vq (col:=col_106) (by kernel_rfl) (by kernel_rfl)<|go ?_;refine Z3 hm (fun hg_151 hm=>go ?_) fun hg_151 hm=>go ?_
     ·refine qv (v:=(.bool true)) O (fun _ hC=>Zv (congrArg Value.bool hg_151) O) ?_;refine go ?_;refine qP 95 O O<|qP 95 O O<|qP 95 O O<|Yo 98 O O O O<|Yo 98 O O O O<|Yo 98 O O O O<|Yo 98 O O O O<|Yo 98 O O O O<|Yo 98 O O O O<|Yo 98 O O O O<|Yo 98 O O O O<|Yo 98 O O O O<|qP 95 O O<|qv (v:=(.bool true)) O (fun _ hC=>Zv O O) ?_;refine Wc ?_;intro w_152 hC;replace hC:=hC.bl col_106;replace h_28:=h_28.gr hC;replace h_52:=h_52.gr hC;replace h_60:=h_60.gr hC;replace hb_102:=hb_102.gr hC;replace hb_5:=hb_5.gr hC;replace hb_10:=hb_10.gr hC;replace hst:=hst.grow hC;exact ⟨O,_,_,hm,hst,hb_102,hb_5,hb_10,h_28,h_52,h_60,O⟩
     refine qF ⟨_,_,O⟩ ?_;refine go ?_;refine qW (fun _ hC=>((hb_102.atN).nth (q:=0) O).gr (hC.bl col_106)) ?_;refine go ?_;refine qv (v:=(.int .i64 ((X4 taken_59 x_61.1).getD 0))) O (fun _ hC=>Zf0 Y6.str (h_60.gr (hC.bl col_106)) underlying95 underlying9 zeroValue3 O O) ?_;refine go ?_;refine qv (v:=(.bool (decide (0<((X4 taken_59 x_61.1).getD 0))))) O (fun _ hC=>Zu (congrArg Value.bool hg_151) O) ?_;refine go ?_;refine Z3 hm (fun hg_153 hm=>go ?_) fun hg_153 hm=>go ?_
     ·refine Yo 98 O O O O<|Yo 98 O O O O<|Yo 98 O O O O<|Yo 98 O O O O<|Yo 98 O O O O<|Yo 98 O O O O<|Yo 98 O O O O<|Yo 98 O O O O<|Yo 98 O O O O<|go ?_;refine qv (v:=(.bool true)) O (fun _ hC=>Zv (congrArg Value.bool hg_153) O) ?_;refine Wc ?_;intro w_154 hC;replace hC:=hC.bl col_106;replace h_28:=h_28.gr hC;replace h_52:=h_52.gr hC;replace h_60:=h_60.gr hC;replace hb_102:=hb_102.gr hC;replace hb_5:=hb_5.gr hC;replace hb_10:=hb_10.gr hC;replace hst:=hst.grow hC;exact ⟨O,_,_,hm,hst,hb_102,hb_5,hb_10,h_28,h_52,h_60,O⟩
     refine Z3 hm (fun hg_155 hm=>go ?_) fun hg_155 hm=>go ?_
     ·refine qF ⟨_,_,O⟩ ?_;refine go ?_;refine qW (fun _ hC=>((hb_5.atN).nth (q:=2) O).gr (hC.bl col_106)) ?_;refine go ?_;obtain ⟨e_156,hj_157,hm⟩:=bZ hm;refine qI hj_157 ((h0_2.ks hst).addr hj_157) ?_;refine go ?_;obtain ⟨_,hr_158,hA_159⟩:=(h0_2.ks hst).atN hj_157;obtain ⟨⟨a_160,cap_161,rfl,h_162⟩,_⟩:=hr_158;refine qW (fun _ hC=>hA_159.one.gr (hC.bl col_106)) ?_;refine go ?_;refine qF ⟨_,_,O⟩ ?_;refine go ?_;refine qW (fun _ hC=>((hb_102.atN).nth (q:=1) O).gr (hC.bl col_106)) ?_;refine go ?_;obtain ⟨r_163,hr_164,hm⟩:=bZ hm;refine qc (v:=(.bool r_163)) O (fun _ hC=>⟨_,_,Zfx call42 O O,(Znw hr_164 (h_162.gr (hC.bl col_106)):).mono fun _ _ h=>⟨h.1,hC.trans (.of_below h.2)⟩⟩) ?_;refine go ?_;refine qv (v:=(.bool (!r_163))) O (fun _ hC=>Zv (congrArg Value.bool hg_155) O) ?_;refine qv (v:=(.bool (!r_163))) O (fun _ hC=>Zu (congrArg Value.bool hg_153) O) ?_;refine Wc ?_;intro w_165 hC;replace hC:=hC.bl col_106;replace h_28:=h_28.gr hC;replace h_52:=h_52.gr hC;replace h_60:=h_60.gr hC;replace hb_102:=hb_102.gr hC;replace hb_5:=hb_5.gr hC;replace hb_10:=hb_10.gr hC;replace hst:=hst.grow hC;exact ⟨O,_,_,hm,hst,hb_102,hb_5,hb_10,h_28,h_52,h_60,O⟩
     refine qv (v:=(.bool false)) O (fun _ hC=>Zu (congrArg Value.bool hg_155) O) ?_;refine qv (v:=(.bool false)) O (fun _ hC=>Zu (congrArg Value.bool hg_153) O) ?_;refine Wc ?_;intro w_166 hC;replace hC:=hC.bl col_106;replace h_28:=h_28.gr hC;replace h_52:=h_52.gr hC;replace h_60:=h_60.gr hC;replace hb_102:=hb_102.gr hC;replace hb_5:=hb_5.gr hC;replace hb_10:=hb_10.gr hC;replace hst:=hst.grow hC;exact ⟨O,_,_,hm,hst,hb_102,hb_5,hb_10,h_28,h_52,h_60,O⟩
    refine Yc<|Zy hb_10 ?_;refine go ?_;refine Z3 hm (fun hg_167 hm=>go ?_) fun hg_167 hm=>go ?_
    ·refine lV (.bool (decide ((k_54:Int)=0))) (Zv (congrArg Value.bool hg_167) O)<|go ?_;exact ⟨O,_,_,hm,hst,hb_102,hb_5,hb_10,h_28,h_52,h_60,O⟩
    refine lV (.bool false) (Zu (congrArg Value.bool hg_167) O)<|go ?_;exact ⟨O,_,_,hm,hst,hb_102,hb_5,hb_10,h_28,h_52,h_60,O⟩
  | cons x_29 l_30=>
   obtain ⟨hat,hl2_L1,hlt_L1⟩:=Yt hl;have hk:(k_22:Int)<(p0_n.2.1.length:Int):=by omega
   have hkb:=decide_eq_true hk;rw [Zhw.eq_2] at hm;refine go ?_;refine X7 (congrArg Value.bool hkb)<|go ?_;refine lI hat ((h0_0.ks hst).addr hat)<|lW ((h0_0.ks hst).atStr hat) ?_;refine go ?_;obtain ⟨es_172,hz_173,hm⟩:=bZ hm;have hz_173:es_172=Wo at_27 x_29 (k_22:Int):=(Option.some.inj hz_173).symm;refine Zgq (k:=x_29) (v:=(k_22:Int)) Y6.str h_28 underlying95 underlying9 O O O ?_;intro w_168 hk_169 hs_170 h_171;rw [← hz_173] at h_171;refine go ?_;replace hb_5:=hb_5.kp hk_169;replace hb_10:=hb_10.kp hk_169;replace hst:=hst.kp hk_169 hs_170;exact ⟨l_30.length,by simp,O,⟨_,_,_,_,_,O,hl2_L1,hm,hst,hb_5,hb_10,h_171,(Yz (congrArg (Value.int .i64) (Yw (Nat.lt_of_lt_of_le hlt_L1 (h0_0.ks hst).1.1))) O)⟩⟩
 refine Zm ?_;refine Wp.cutK [2,3,1000000] (fun f w_204=>∃ col_205 v_206,Zfa p0_n p1_q v_206=some r∧St w0 (Zh col) col_205 w_204∧Zd 45 1 col_205 w_204 g_1 #[.string p0_n.1,.slice a0_0 p0_n.2.1.length cap0_0,.slice a0_2 p0_n.2.2.1.length cap0_2,.slice a0_4 p0_n.2.2.2.1.length cap0_4,.slice a0_6 p0_n.2.2.2.2.length cap0_6]∧Zd 50 2 col_205 w_204 g_6 #[.int .i8 p1_q.1,.slice a1_0 p1_q.2.1.length cap1_0,.slice a1_2 p1_q.2.2.1.length cap1_2,.int .i8 p1_q.2.2.2.1,.slice a1_4 p1_q.2.2.2.2.1.length cap1_4,.bool p1_q.2.2.2.2.2.1,.bool p1_q.2.2.2.2.2.2]∧[42].map f=[.bool v_206]) ?_ ?_
 ·intro f w_204 hJ;obtain ⟨col_205,v_206,hm,hst,hb_5,hb_10,hs⟩:=hJ;rw [Zfa.eq_1] at hm;refine .lL [42] hs ?_;refine Zl hm (fun hb hm=>go ?_) fun hb hm=>?_
  ·cases hm;exact ⟨O,O,hst.below⟩
  refine Zz ?_;exact ⟨O,_,hm,hst,hb_5,hb_10⟩
 refine Yc<|Zy hb_10 ?_;refine go ?_;refine Z3 hm (fun hg_207 hm=>go ?_) fun hg_207 hm=>go ?_
 ·refine Zt ⟨_,_,O⟩ ?_;refine go ?_;refine lW ((hb_10.atN).nth (q:=3) O)<|go ?_;refine lV (.bool (!decide (p1_q.2.2.2.1=2))) (Zv (congrArg Value.bool hg_207) O)<|Xo O ?_;refine Z3 hm (fun hg_208 hm=>go ?_) fun hg_208 hm=>go ?_
  ·refine Zt ⟨_,_,O⟩ ?_;refine go ?_;refine lW ((hb_10.atN).nth (q:=3) O)<|go ?_;refine lV (.bool (!decide (p1_q.2.2.2.1=3))) (Zv (congrArg Value.bool hg_208) O)<|Xo O ?_;refine Z3 hm (fun hg_209 hm=>go ?_) fun hg_209 hm=>go ?_
   ·refine lV (.bool true) (Zv (congrArg Value.bool hg_209) O)<|Zi ?_;exact ⟨O,_,_,hm,hst,hb_5,hb_10,O⟩
   refine lV _ (Yr isAgg50 sizeOf50 hb_10)<|go ?_;obtain ⟨r_210,hr_211,hm⟩:=bZ hm;refine Zf (Zi4 hr_211 (h1_0.ks hst) (h1_2.ks hst) (h1_4.ks hst)) ?_;rintro _ w_212 ⟨rfl,hg_213⟩;refine ⟨_,O,?_⟩;replace hg_213:Ze col_8 w_13 col_8 w_212:=.of_below hg_213;refine go ?_;refine lV (.bool (!r_210)) (Zu (congrArg Value.bool hg_209) O)<|Zi ?_;replace hb_5:=hb_5.gr hg_213;replace hb_10:=hb_10.gr hg_213;replace hst:=hst.grow hg_213;exact ⟨O,_,_,hm,hst,hb_5,hb_10,O⟩
  refine lV (.bool false) (Zu (congrArg Value.bool hg_208) O)<|Xo O<|lG 38 O O<|lV _ (Yr isAgg50 sizeOf50 hb_10)<|lG 38 O O ?_;obtain ⟨r_214,hr_215,hm⟩:=bZ hm;refine Zf (Zi4 hr_215 (h1_0.ks hst) (h1_2.ks hst) (h1_4.ks hst)) ?_;rintro _ w_216 ⟨rfl,hg_217⟩;refine ⟨_,O,?_⟩;replace hg_217:Ze col_8 w_13 col_8 w_216:=.of_below hg_217;refine lG 38 O O<|go ?_;refine lV (.bool (!r_214)) (Zu O O)<|Zi ?_;replace hb_5:=hb_5.gr hg_217;replace hb_10:=hb_10.gr hg_217;replace hst:=hst.grow hg_217;exact ⟨O,_,_,hm,hst,hb_5,hb_10,O⟩
 refine lV (.bool false) (Zu (congrArg Value.bool hg_207) O)<|Xo O<|lP 33 O O<|lP 33 O O<|lP 33 O O<|lV (.bool false) (Zu O O)<|Xo O<|lG 38 O O<|lV _ (Yr isAgg50 sizeOf50 hb_10)<|lG 38 O O ?_;obtain ⟨r_218,hr_219,hm⟩:=bZ hm;refine Zf (Zi4 hr_219 (h1_0.ks hst) (h1_2.ks hst) (h1_4.ks hst)) ?_;rintro _ w_220 ⟨rfl,hg_221⟩;refine ⟨_,O,?_⟩;replace hg_221:Ze col_8 w_13 col_8 w_220:=.of_below hg_221;refine lG 38 O O<|go ?_;refine lV (.bool (!r_218)) (Zu O O)<|Zi ?_;replace hb_5:=hb_5.gr hg_221;replace hb_10:=hb_10.gr hg_221;replace hst:=hst.grow hg_221;exact ⟨O,_,_,hm,hst,hb_5,hb_10,O⟩
def Zg1 (v_304:Bool):Option Bool:=
  some v_304
def Zbi (N:Nat) (r_1:((List (Int×(List (ByteArray×ByteArray))×(List (ByteArray×ByteArray))×Int×List ByteArray×(Bool×Bool)))×(Option (Int×Int×Int×ByteArray)))) (v_227:Bool):Option Bool:=
  if v_227=true then (some false) else ((Zfd N r_1.1).bind fun r_228=>if (decide (r_228.2=0))=true then (if (decide (r_228.1=(⟨#[117,115,101,32,100,101,103,114,101,101,59,10,97,115,107,32,97,61,120,32,124,32,98,61,121,59,10,97,108,108,32,99,59,10]⟩)))=true then ((Zps N).bind fun r_308=>(Zpd N (r_308.1,r_308.2.1,r_308.2.2.1,r_308.2.2.2.1,r_308.2.2.2.2) (2,([(⟨#[103,114,97,115,115]⟩,⟨#[119,101,116]⟩)]:List (ByteArray×ByteArray)),([]:List (ByteArray×ByteArray)),1,([]:List ByteArray),(false,false))).bind fun r_326=>Zg1 (decide (r_326=0))) else (Zg1 false)) else (Zg1 false))
def Zg0 (N:Nat):Option Bool:=
  (Zc8 N (⟨#[117,115,101,32,100,101,103,114,101,101,59,32,97,115,107,32,97,61,120,32,124,32,98,61,121,59,32,97,108,108,32,99,59]⟩)).bind fun r_1=>if r_1.2.isSome=true then (Zbi N r_1 true) else (if (!decide ((r_1.1.length:Int)=2))=true then (Zbi N r_1 true) else ((Zq r_1.1 0).bind fun e_335=>if (!decide (e_335.2.2.2.1=2))=true then (Zbi N r_1 true) else (if (!decide ((e_335.2.2.1.length:Int)=1))=true then (Zbi N r_1 true) else ((Zq e_335.2.2.1 0).bind fun e_408=>if (!(decide (e_408.1=(⟨#[98]⟩))&&decide (e_408.2=(⟨#[121]⟩))))=true then (Zbi N r_1 true) else ((Zq r_1.1 1).bind fun e_415=>Zbi N r_1 (!decide (e_415.1=3)))))))
theorem Zx1 {N:Nat} {col:Zc} {w0:World} {r:Bool} (hm:Zg0 N=some r) (hgl:Gl (.iface 141 (.agg #[.pointer (some ⟨4,24,none⟩)])) col w0):
    Calls prog 12 #[] w0 (fun e w'=>e= .returned ((.bool r))∧Below w0.heap.size w0 w'):=by
 refine Z0 0 (m:=69) func12 O O O O O ?_;rw [Zg0.eq_1] at hm;have hst:=St.start col w0;refine go ?_;obtain ⟨r_1,hr_2,hm⟩:=bZ hm;replace hgl:=hgl.keep (Zk.start col w0);refine Zf (Zrq 1 hr_2 hgl) ?_;rintro _ w_8 ⟨col_10,ra_3,rc_4,rv_6,rfl,hg_9,rh_5,rh_7⟩;refine ⟨_,O,?_⟩;refine lM (.tuple #[.slice ra_3 r_1.1.length rc_4,rv_6])<|lV (.slice ra_3 r_1.1.length rc_4) (Xd O O)<|lv (v:=rv_6) O O (Xd O O)<|Zel O<|lv (v:=rv_6) O O (Y2 O)<|Zi<|Zm<|Zm ?_;replace hgl:=hgl.gr hg_9;replace hst:=hst.grow hg_9;refine Wp.cutK [1,1000000] (fun f w_225=>∃ col_226 v_227,Zbi N r_1 v_227=some r∧St w0 (Zh col) col_226 w_225∧Zb (Za.pair (Za.int .i8) (Za.pair (Za.row 56 (Za.pair Za.str Za.str)) (Za.pair (Za.row 56 (Za.pair Za.str Za.str)) (Za.pair (Za.int .i8) (Za.pair (Za.row 9 Za.str) (Za.pair Za.bool Za.bool)))))) 50 1 col_226 w_225 ra_3 rc_4 r_1.1∧Gl (.iface 141 (.agg #[.pointer (some ⟨4,24,none⟩)])) col_226 w_225∧[48].map f=[.bool v_227]) ?_ ?_
 ·intro f w_225 hJ;obtain ⟨col_226,v_227,hm,hst,rh_5,hgl,hs⟩:=hJ;rw [Zbi.eq_1] at hm;refine .lL [48] hs ?_;refine Zl hm (fun hb hm=>go ?_) fun hb hm=>go ?_
  ·cases hm;exact ⟨O,O,hst.below⟩
  obtain ⟨r_228,hr_229,hm⟩:=bZ hm;refine Zf (Znq hr_229 (rh_5.toSlF (Zj.pair (Zj.int .i8) (Zj.pair (Zj.row (Zj.pair Zj.str Zj.str)) (Zj.pair (Zj.row (Zj.pair Zj.str Zj.str)) (Zj.pair (Zj.int .i8) (Zj.pair (Zj.row Zj.str) (Zj.pair Zj.bool Zj.bool)))))))) ?_;rintro _ w_230 ⟨rfl,hg_231⟩;refine ⟨_,O,?_⟩;replace hg_231:Ze col_226 w_225 col_226 w_230:=.of_below hg_231;refine lM (.tuple #[.string r_228.1,.int .i64 r_228.2])<|lV (.string r_228.1) (Xd O O)<|lV (.int .i64 r_228.2) (Xd O O)<|go ?_;refine lV (.agg #[.string (⟨#[103,114,97,115,115]⟩),.string (⟨#[119,101,116]⟩)]) (Y4 (l:=[_,_]) (qs:=[(0,1),(1,1)]) underlying56 zeroValue56 ⟨O,sizeOf9,O,sizeOf9,trivial⟩ O)<|Tl (col:=col_226) (r:=(Za.pair Za.str Za.str)) (xs:=([(⟨#[103,114,97,115,115]⟩,⟨#[119,101,116]⟩)]:List (ByteArray×ByteArray))) [(.agg #[.string (⟨#[103,114,97,115,115]⟩),.string (⟨#[119,101,116]⟩)])] 2 (Yp.ofF (Rows.consF (r:=(Za.pair Za.str Za.str)) (x:=(⟨#[103,114,97,115,115]⟩,⟨#[119,101,116]⟩)) (cs:=[.string (⟨#[103,114,97,115,115]⟩),.string (⟨#[119,101,116]⟩)]) (W4 (Vw (⟨#[103,114,97,115,115]⟩)) (Vw (⟨#[119,101,116]⟩))) Rows.nil0)) ?_;intro a_232 w_233 col_234 hg_235 h_236;refine lV (.agg #[.int .i8 2,.slice a_232 (([(⟨#[103,114,97,115,115]⟩,⟨#[119,101,116]⟩)]:List (ByteArray×ByteArray)).length) 1,.slice none (([]:List (ByteArray×ByteArray)).length) 0,.int .i8 1,.slice none (([]:List ByteArray).length) 0,.bool false,.bool false]) (Y4 (l:=[_,_,_,_,_,_]) (qs:=[(0,1),(1,1),(2,1),(3,1),(4,1),(5,2)]) underlying50 zeroValue50 ⟨O,sizeOf46,O,sizeOf47,O,sizeOf47,O,sizeOf46,O,sizeOf40,O,sizeOf48,trivial⟩ O)<|Xs (col:=col_234) #[.int .i8 0,.slice none (([]:List (ByteArray×ByteArray)).length) 0,.slice none (([]:List (ByteArray×ByteArray)).length) 0,.int .i8 0,.slice none (([]:List ByteArray).length) 0,.bool false,.bool false] 3 zeroValue50 ?_;intro g_237 w_238 col_239 hg_240 hb_241;refine Xb hb_241 ?_;intro w_242 hk_243 hs_244 hb_245;refine Zi<|Zm ?_;replace hgl:=(((hgl.gr hg_231).gr hg_235).gr hg_240).kp hk_243;replace hst:=(((hst.grow hg_231).grow hg_235).grow hg_240).kp hk_243 hs_244;replace h_236:=(h_236.gr hg_240).kp hk_243;refine Wp.cutK [1000000] (fun f w_302=>∃ col_303 v_304,Zg1 v_304=some r∧St w0 (Zh col) col_303 w_302∧Gl (.iface 141 (.agg #[.pointer (some ⟨4,24,none⟩)])) col_303 w_302∧[0].map f=[.bool v_304]) ?_ ?_
  ·intro f w_302 hJ;obtain ⟨col_303,v_304,hm,hst,hgl,hs⟩:=hJ;rw [Zg1.eq_1] at hm;refine .lL [0] hs<|W1 ?_;cases hm;exact ⟨O,O,hst.below⟩
  refine Ud (col:=col_239) [(0,1),(1,1),(2,1),(3,1),(4,1),(5,1),(6,1),(8,0),(7,3),(9,3),(10,1),(11,1),(12,1)] (by kernel_rfl) (by kernel_rfl)<|xu O O (fun _=>Vo O) ?_;refine xu O O (fun _=>Zml _ _ O O) ?_;refine xu O O (fun _=>Zmm O) ?_;refine Z3 hm (fun hg_305 hm=>?_) fun hg_305 hm=>?_
  ·refine Zm8 (v:=(.string r_228.1)) (b:=decide (r_228.2=0)) 59 O O O O O (by rw [hg_305];rfl) (fun _=>Wq O) ?_;refine Zm8 (v:=(.bool (decide (r_228.1=(⟨#[117,115,101,32,100,101,103,114,101,101,59,10,97,115,107,32,97,61,120,32,124,32,98,61,121,59,10,97,108,108,32,99,59,10]⟩))))) (b:=decide (r_228.2=0)) 59 O O O O O (by rw [hg_305];rfl) (fun _=>Zqf r_228.1 (⟨#[117,115,101,32,100,101,103,114,101,101,59,10,97,115,107,32,97,61,120,32,124,32,98,61,121,59,10,97,108,108,32,99,59,10]⟩) underlying9 O O) ?_;refine xu (v:=(.bool (decide (r_228.1=(⟨#[117,115,101,32,100,101,103,114,101,101,59,10,97,115,107,32,97,61,120,32,124,32,98,61,121,59,10,97,108,108,32,99,59,10]⟩))))) O O (fun _=>Zv (congrArg Value.bool hg_305) O) ?_;refine xu O O (fun _=>Zmm O) ?_;refine Z3 hm (fun hg_306 hm=>?_) fun hg_306 hm=>?_
   ·refine Zwc (v:=(.agg #[.int .i8 2,.slice a_232 (([(⟨#[103,114,97,115,115]⟩,⟨#[119,101,116]⟩)]:List (ByteArray×ByteArray)).length) 1,.slice none (([]:List (ByteArray×ByteArray)).length) 0,.int .i8 1,.slice none (([]:List ByteArray).length) 0,.bool false,.bool false])) (b:=decide (r_228.1=(⟨#[117,115,101,32,100,101,103,114,101,101,59,10,97,115,107,32,97,61,120,32,124,32,98,61,121,59,10,97,108,108,32,99,59,10]⟩))) 63 O O O O O (by rw [hg_306];rfl) (fun _ hC=>Wl isAgg50 sizeOf50 O O (hb_245.atN.gr (hC.bl col_239))) ?_;refine xe O O ?_;intro w_307 hC0;have hC:=hC0.bl col_239;refine go ?_;obtain ⟨r_308,hr_309,hm⟩:=bZ hm;refine lc O O (Zij call37) (Zy6 (col:=col_239) 12 13 14 15 hr_309:) ?_;rintro _ w_322 ⟨col_324,ra_310,rc_311,ra_313,rc_314,ra_316,rc_317,ra_319,rc_320,rfl,hg_323,rh_312,rh_315,rh_318,rh_321⟩;refine ⟨_,O,?_⟩;refine Zi<|W5 col_324 hC0 hg_323<|xe O O ?_;intro w_325 hC0;replace hgl:=(hgl.gr hC).gr hg_323;replace h_236:=(h_236.gr hC).gr hg_323;replace hst:=(hst.grow hC).grow hg_323;have hC:=hC0.bl col_324;refine go ?_;obtain ⟨r_326,hr_327,hm⟩:=bZ hm;replace h_236:=h_236.gr hC;replace rh_312:=rh_312.gr hC;replace rh_315:=rh_315.gr hC;replace rh_318:=rh_318.gr hC;replace rh_321:=rh_321.gr hC;refine Zf (Zyt hr_327 (((((rh_312.toSlF Zj.str).froz 13).froz 14).froz 15).froz 2) (((((rh_315.froz 12 (by decide)).toSlF (Zj.row Zj.str)).froz 14).froz 15).froz 2) (((((rh_318.froz 12 (by decide)).froz 13 (by decide)).toSlF (Zj.row (Zj.int .i64))).froz 15).froz 2) (((((rh_321.froz 12 (by decide)).froz 13 (by decide)).froz 14 (by decide)).toSlF (Zj.row (Zj.pair (Zj.pair Zj.bool (Zj.row (Zj.int .u32))) (Zj.row (Zj.int .u32))))).froz 2) (((((h_236.froz 12 (by decide)).froz 13 (by decide)).froz 14 (by decide)).froz 15 (by decide)).toSlF (Zj.pair Zj.str Zj.str)) Sl.nil Sl.nil) ?_;rintro _ w_328 ⟨rfl,hg_329⟩;refine ⟨_,O,?_⟩;replace hg_329:Ze col_324 w_325 col_324 w_328:=.of_below hg_329;refine Zi<|W5 col_324 hC0 hg_329<|Zm8 (v:=(.bool (decide (r_326=0)))) (b:=decide (r_228.1=(⟨#[117,115,101,32,100,101,103,114,101,101,59,10,97,115,107,32,97,61,120,32,124,32,98,61,121,59,10,97,108,108,32,99,59,10]⟩))) 63 O O O O O (by rw [hg_306];rfl) (fun _=>Zml r_326 0 O O) ?_
    refine xu (v:=(.bool (decide (r_326=0)))) O O (fun _=>Zv (congrArg Value.bool hg_306) O) ?_;refine xu O O (fun _=>Zii O) ?_;refine Vi ?_;replace hgl:=(hgl.gr hC).gr hg_329;replace hst:=(hst.grow hC).grow hg_329;intro w_330 hC;replace hC:=hC.bl col_324;replace hgl:=hgl.gr hC;replace hst:=hst.grow hC;exact ⟨O,_,_,hm,hst,hgl,O⟩
   refine Tz (b:=decide (r_228.1=(⟨#[117,115,101,32,100,101,103,114,101,101,59,10,97,115,107,32,97,61,120,32,124,32,98,61,121,59,10,97,108,108,32,99,59,10]⟩))) 63 O O O O O (by rw [hg_306];rfl)<|Tz (b:=decide (r_228.1=(⟨#[117,115,101,32,100,101,103,114,101,101,59,10,97,115,107,32,97,61,120,32,124,32,98,61,121,59,10,97,108,108,32,99,59,10]⟩))) 63 O O O O O (by rw [hg_306];rfl)<|Tz (b:=decide (r_228.1=(⟨#[117,115,101,32,100,101,103,114,101,101,59,10,97,115,107,32,97,61,120,32,124,32,98,61,121,59,10,97,108,108,32,99,59,10]⟩))) 63 O O O O O (by rw [hg_306];rfl)<|Tz (b:=decide (r_228.1=(⟨#[117,115,101,32,100,101,103,114,101,101,59,10,97,115,107,32,97,61,120,32,124,32,98,61,121,59,10,97,108,108,32,99,59,10]⟩))) 63 O O O O O (by rw [hg_306];rfl)<|xu (v:=(.bool false)) O O (fun _=>Zu (congrArg Value.bool hg_306) O) ?_;refine xu O O (fun _=>Zii O) ?_;refine Vi ?_;intro w_331 hC;replace hC:=hC.bl col_239;replace hgl:=hgl.gr hC;replace hst:=hst.grow hC;exact ⟨O,_,_,hm,hst,hgl,O⟩
  refine Tz (b:=decide (r_228.2=0)) 59 O O O O O (by rw [hg_305];rfl)<|Tz (b:=decide (r_228.2=0)) 59 O O O O O (by rw [hg_305];rfl)<|xu (v:=(.bool false)) O O (fun _=>Zu (congrArg Value.bool hg_305) O) ?_;refine xu O O (fun _=>Zmm O) ?_;refine Tz (b:=false) 63 O O O O O O<|Tz (b:=false) 63 O O O O O O<|Tz (b:=false) 63 O O O O O O<|Tz (b:=false) 63 O O O O O O<|xu (v:=(.bool false)) O O (fun _=>Zu O O) ?_;refine xu O O (fun _=>Zii O) ?_;refine Vi ?_;intro w_332 hC;replace hC:=hC.bl col_239;replace hgl:=hgl.gr hC;replace hst:=hst.grow hC;exact ⟨O,_,_,hm,hst,hgl,O⟩
 refine Yc<|lv (v:=rv_6) O O (Wq O)<|lV (.bool r_1.2.isSome) (Zuq rh_7 underlying24 O)<|Xo O ?_;refine Z3 hm (fun hg_333 hm=>go ?_) fun hg_333 hm=>go ?_
 ·refine lV (.bool true) (Zv (congrArg Value.bool hg_333) O)<|Xo O<|lP 17 O O<|lP 17 O O<|lP 17 O O<|lP 17 O O<|lP 17 O O<|lV (.bool true) (Zv O O)<|Xo O<|lP 24 O O<|lP 24 O O<|lP 24 O O<|lP 24 O O<|lP 24 O O<|lP 24 O O<|lV (.bool true) (Zv O O)<|Xo O<|lP 32 O O<|lP 32 O O<|lP 32 O O<|lP 32 O O<|lP 32 O O<|lP 32 O O<|lP 32 O O<|lP 32 O O<|lV (.bool true) (Zv O O)<|Xo O<|lP 42 O O<|lP 42 O O<|lP 42 O O ?_;refine lP 42 O O<|lP 42 O O<|lV (.bool true) (Zv O O)<|Zi ?_;exact ⟨O,_,_,hm,hst,rh_5,hgl,O⟩
 refine lV (.bool (!decide ((r_1.1.length:Int)=2))) (Zu (congrArg Value.bool hg_333) O)<|Xo O ?_;refine Z3 hm (fun hg_334 hm=>go ?_) fun hg_334 hm=>go ?_
 ·refine lV (.bool true) (Zv (congrArg Value.bool hg_334) O)<|Xo O<|lP 24 O O<|lP 24 O O<|lP 24 O O<|lP 24 O O<|lP 24 O O<|lP 24 O O<|lV (.bool true) (Zv O O)<|Xo O<|lP 32 O O<|lP 32 O O<|lP 32 O O<|lP 32 O O<|lP 32 O O<|lP 32 O O<|lP 32 O O<|lP 32 O O<|lV (.bool true) (Zv O O)<|Xo O<|lP 42 O O<|lP 42 O O<|lP 42 O O<|lP 42 O O<|lP 42 O O<|lV (.bool true) (Zv O O)<|Zi ?_;exact ⟨O,_,_,hm,hst,rh_5,hgl,O⟩
 obtain ⟨e_335,hj_336,hm⟩:=bZ hm;refine lI hj_336 (rh_5.addr hj_336) ?_;refine go ?_;refine Zt (Tx (rh_5.addr hj_336)) ?_;refine go ?_;obtain ⟨_,hr_337,hA_338⟩:=rh_5.atN hj_336;obtain ⟨_,_,rfl,hp_339,hp_340⟩:=hr_337.parts;obtain rfl:=hp_339.int;obtain ⟨_,_,rfl,hp_341,hp_342⟩:=hp_340.parts;obtain ⟨a_343,cap_344,rfl,h_345⟩:=hp_341.row;obtain ⟨_,_,rfl,hp_346,hp_347⟩:=hp_342.parts;obtain ⟨a_348,cap_349,rfl,h_350⟩:=hp_346.row;obtain ⟨_,_,rfl,hp_351,hp_352⟩:=hp_347.parts;obtain rfl:=hp_351.int;obtain ⟨_,_,rfl,hp_353,hp_354⟩:=hp_352.parts;obtain ⟨a_355,cap_356,rfl,h_357⟩:=hp_353.row;obtain ⟨_,_,rfl,hp_358,hp_359⟩:=hp_354.parts;obtain rfl:=hp_358.bool;obtain rfl:=hp_359.bool;refine lW ((hA_338).nth (q:=3) O)<|go ?_;refine lV (.bool (!decide (e_335.2.2.2.1=2))) (Zu (congrArg Value.bool hg_334) O)<|Xo O ?_;refine Z3 hm (fun hg_360 hm=>go ?_) fun hg_360 hm=>go ?_
 ·refine lV (.bool true) (Zv (congrArg Value.bool hg_360) O)<|Xo O<|lP 32 O O<|lP 32 O O<|lP 32 O O<|lP 32 O O<|lP 32 O O<|lP 32 O O<|lP 32 O O<|lP 32 O O<|lV (.bool true) (Zv O O)<|Xo O<|lP 42 O O<|lP 42 O O<|lP 42 O O<|lP 42 O O<|lP 42 O O<|lV (.bool true) (Zv O O)<|Zi ?_;exact ⟨O,_,_,hm,hst,rh_5,hgl,O⟩
 refine lI hj_336 (rh_5.addr hj_336) ?_;refine go ?_;refine Zt (Tx (rh_5.addr hj_336)) ?_;refine go ?_;obtain ⟨_,hr_361,hA_362⟩:=rh_5.atN hj_336;obtain ⟨_,_,rfl,hp_363,hp_364⟩:=hr_361.parts;obtain rfl:=hp_363.int;obtain ⟨_,_,rfl,hp_365,hp_366⟩:=hp_364.parts;obtain ⟨a_367,cap_368,rfl,h_369⟩:=hp_365.row;obtain ⟨_,_,rfl,hp_370,hp_371⟩:=hp_366.parts;obtain ⟨a_372,cap_373,rfl,h_374⟩:=hp_370.row;obtain ⟨_,_,rfl,hp_375,hp_376⟩:=hp_371.parts;obtain rfl:=hp_375.int;obtain ⟨_,_,rfl,hp_377,hp_378⟩:=hp_376.parts;obtain ⟨a_379,cap_380,rfl,h_381⟩:=hp_377.row;obtain ⟨_,_,rfl,hp_382,hp_383⟩:=hp_378.parts;obtain rfl:=hp_382.bool;obtain rfl:=hp_383.bool;refine lW ((hA_362).nth (q:=2) O)<|go ?_;refine lV (.bool (!decide ((e_335.2.2.1.length:Int)=1))) (Zu (congrArg Value.bool hg_360) O)<|Xo O ?_;refine Z3 hm (fun hg_384 hm=>go ?_) fun hg_384 hm=>go ?_
 ·refine lV (.bool true) (Zv (congrArg Value.bool hg_384) O)<|Xo O<|lP 42 O O<|lP 42 O O<|lP 42 O O<|lP 42 O O<|lP 42 O O<|lV (.bool true) (Zv O O)<|Zi ?_;exact ⟨O,_,_,hm,hst,rh_5,hgl,O⟩
 refine lI hj_336 (rh_5.addr hj_336) ?_;refine go ?_;refine Zt (Tx (rh_5.addr hj_336)) ?_;refine go ?_;obtain ⟨_,hr_385,hA_386⟩:=rh_5.atN hj_336;obtain ⟨_,_,rfl,hp_387,hp_388⟩:=hr_385.parts;obtain rfl:=hp_387.int;obtain ⟨_,_,rfl,hp_389,hp_390⟩:=hp_388.parts;obtain ⟨a_391,cap_392,rfl,h_393⟩:=hp_389.row;obtain ⟨_,_,rfl,hp_394,hp_395⟩:=hp_390.parts;obtain ⟨a_396,cap_397,rfl,h_398⟩:=hp_394.row;obtain ⟨_,_,rfl,hp_399,hp_400⟩:=hp_395.parts;obtain rfl:=hp_399.int;obtain ⟨_,_,rfl,hp_401,hp_402⟩:=hp_400.parts;obtain ⟨a_403,cap_404,rfl,h_405⟩:=hp_401.row;obtain ⟨_,_,rfl,hp_406,hp_407⟩:=hp_402.parts;obtain rfl:=hp_406.bool;obtain rfl:=hp_407.bool;refine lW ((hA_386).nth (q:=2) O)<|go ?_;obtain ⟨e_408,hj_409,hm⟩:=bZ hm;refine lI hj_409 (h_398.addr hj_409) ?_;refine go ?_;obtain ⟨_,hr_410,hA_411⟩:=h_398.atN hj_409;obtain ⟨_,_,rfl,hp_412,hp_413⟩:=hr_410.parts;obtain rfl:=hp_412.str;obtain rfl:=hp_413.str;refine lV (.agg #[.string e_408.1,.string e_408.2]) (Wl isAgg56 sizeOf56 O O hA_411)<|go ?_;refine lV (.agg #[.string (⟨#[98]⟩),.string (⟨#[121]⟩)]) (Y4 (l:=[_,_]) (qs:=[(0,1),(1,1)]) underlying56 zeroValue56 ⟨O,sizeOf9,O,sizeOf9,trivial⟩ O)<|go ?_;refine lV (.bool (!(decide (e_408.1=(⟨#[98]⟩))&&decide (e_408.2=(⟨#[121]⟩))))) (Zqk O O (by decide+kernel) (Zsb underlying56 (by decide+kernel) (by decide) (by decide) (Tv isAgg9 O) (Tv isAgg9 O) (Tv isAgg9 O) (Tv isAgg9 O) (Zmc e_408.1 (⟨#[98]⟩) underlying9) (Zmc e_408.2 (⟨#[121]⟩) underlying9)))<|lV (.bool (!(decide (e_408.1=(⟨#[98]⟩))&&decide (e_408.2=(⟨#[121]⟩))))) (Zu (congrArg Value.bool hg_384) O)<|Xo O ?_;refine Z3 hm (fun hg_414 hm=>go ?_) fun hg_414 hm=>go ?_
 ·refine lV (.bool true) (Zv (congrArg Value.bool hg_414) O)<|Zi ?_;exact ⟨O,_,_,hm,hst,rh_5,hgl,O⟩
 obtain ⟨e_415,hj_416,hm⟩:=bZ hm;refine lI hj_416 (rh_5.addr hj_416) ?_;refine go ?_;refine Zt (Tx (rh_5.addr hj_416)) ?_;refine go ?_;obtain ⟨_,hr_417,hA_418⟩:=rh_5.atN hj_416;obtain ⟨_,_,rfl,hp_419,hp_420⟩:=hr_417.parts;obtain rfl:=hp_419.int;obtain ⟨_,_,rfl,hp_421,hp_422⟩:=hp_420.parts;obtain ⟨a_423,cap_424,rfl,h_425⟩:=hp_421.row;obtain ⟨_,_,rfl,hp_426,hp_427⟩:=hp_422.parts;obtain ⟨a_428,cap_429,rfl,h_430⟩:=hp_426.row;obtain ⟨_,_,rfl,hp_431,hp_432⟩:=hp_427.parts;obtain rfl:=hp_431.int;obtain ⟨_,_,rfl,hp_433,hp_434⟩:=hp_432.parts;obtain ⟨a_435,cap_436,rfl,h_437⟩:=hp_433.row;obtain ⟨_,_,rfl,hp_438,hp_439⟩:=hp_434.parts;obtain rfl:=hp_438.bool;obtain rfl:=hp_439.bool;refine lW ((hA_418).nth (q:=0) O)<|go ?_;refine lV (.bool (!decide (e_415.1=3))) (Zu (congrArg Value.bool hg_414) O)<|Zi ?_;exact ⟨O,_,_,hm,hst,rh_5,hgl,O⟩
def Zj7 (p_54:Int) (p_55:List (ByteArray×ByteArray)) (p_59:List (ByteArray×ByteArray)) (p_63:Int) (p_64:List ByteArray) (p_68:Bool) (p_69:Bool):Option (Int×(List (ByteArray×ByteArray))×(List (ByteArray×ByteArray))×Int×List ByteArray×(Bool×Bool)):=
  some (p_54,p_55,p_59,p_63,p_64,(p_68,p_69))
def Zew (p_36:Int) (p_37:List (ByteArray×ByteArray)) (p_41:List (ByteArray×ByteArray)) (p_45:Int) (p_46:List ByteArray) (p_50:Bool) (p_51:Bool) (v_78:Bool):Option (Int×(List (ByteArray×ByteArray))×(List (ByteArray×ByteArray))×Int×List ByteArray×(Bool×Bool)):=
  if v_78=true then ((Zq p_37 0).bind fun e_79=>Zj7 p_36 (p_37.set (Int.toNat 0) (e_79.1,⟨#[]⟩)) p_41 p_45 p_46 p_50 p_51) else (Zj7 p_36 p_37 p_41 p_45 p_46 p_50 p_51)
def Zev (p0_q:(Int×(List (ByteArray×ByteArray))×(List (ByteArray×ByteArray))×Int×List ByteArray×(Bool×Bool))) (p_36:Int) (p_37:List (ByteArray×ByteArray)) (p_41:List (ByteArray×ByteArray)) (p_45:Int) (p_46:List ByteArray) (p_50:Bool) (p_51:Bool):Option (Int×(List (ByteArray×ByteArray))×(List (ByteArray×ByteArray))×Int×List ByteArray×(Bool×Bool)):=
  if (decide (p0_q.1=3))=true then (Zew p_36 p_37 p_41 p_45 p_46 p_50 p_51 (decide ((p_37.length:Int)=1))) else (Zew p_36 p_37 p_41 p_45 p_46 p_50 p_51 false)
def Zeu (p0_q:(Int×(List (ByteArray×ByteArray))×(List (ByteArray×ByteArray))×Int×List ByteArray×(Bool×Bool))):Option (Int×(List (ByteArray×ByteArray))×(List (ByteArray×ByteArray))×Int×List ByteArray×(Bool×Bool)):=
  (Zex (p0_q.1,p0_q.2.1,p0_q.2.2.1,p0_q.2.2.2.1,p0_q.2.2.2.2.1,(p0_q.2.2.2.2.2.1,p0_q.2.2.2.2.2.2))).bind fun r_11=>if (!decide (p0_q.2.2.2.1=3))=true then (Zev p0_q r_11.1 (r_11.2.1.2.take r_11.2.1.1) (r_11.2.2.1.2.take r_11.2.2.1.1) r_11.2.2.2.1 ([]:List ByteArray) r_11.2.2.2.2.2.1 r_11.2.2.2.2.2.2) else (Zev p0_q r_11.1 (r_11.2.1.2.take r_11.2.1.1) (r_11.2.2.1.2.take r_11.2.2.1.1) r_11.2.2.2.1 (r_11.2.2.2.2.1.2.take r_11.2.2.2.2.1.1) r_11.2.2.2.2.2.1 r_11.2.2.2.2.2.2)
theorem Zx3 {cap0_0 cap0_2 cap0_4:Nat} {a0_0 a0_2 a0_4:Option Addr} {col:Zc} {w0:World} {p0_q r:(Int×(List (ByteArray×ByteArray))×(List (ByteArray×ByteArray))×Int×List ByteArray×(Bool×Bool))} (c1 c2 c3:Nat) (hm:Zeu p0_q=some r) (h0_0:Sl (Za.pair Za.str Za.str) col w0 a0_0 cap0_0 p0_q.2.1) (h0_2:Sl (Za.pair Za.str Za.str) col w0 a0_2 cap0_2 p0_q.2.2.1) (h0_4:Sl Za.str col w0 a0_4 cap0_4 p0_q.2.2.2.2.1):
    Calls prog 39 #[(.agg #[.int .i8 p0_q.1,.slice a0_0 p0_q.2.1.length cap0_0,.slice a0_2 p0_q.2.2.1.length cap0_2,.int .i8 p0_q.2.2.2.1,.slice a0_4 p0_q.2.2.2.2.1.length cap0_4,.bool p0_q.2.2.2.2.2.1,.bool p0_q.2.2.2.2.2.2])] w0 (fun e w'=>∃ (col':Zc) (ra1:Option Addr) (rc2:Nat) (ra4:Option Addr) (rc5:Nat) (ra7:Option Addr) (rc8:Nat),e= .returned ((.agg #[.int .i8 r.1,.slice ra1 r.2.1.length rc2,.slice ra4 r.2.2.1.length rc5,.int .i8 r.2.2.2.1,.slice ra7 r.2.2.2.2.1.length rc8,.bool r.2.2.2.2.2.1,.bool r.2.2.2.2.2.2]))∧Ze col w0 col' w'∧Zb (Za.pair Za.str Za.str) 56 c1 col' w' ra1 rc2 r.2.1∧Zb (Za.pair Za.str Za.str) 56 c2 col' w' ra4 rc5 r.2.2.1∧Zb Za.str 9 c3 col' w' ra7 rc8 r.2.2.2.2.1):=by
 refine Wx (m:=24) func39 O O O ?_;rw [Zeu.eq_1] at hm;have hst:=St.start col w0;refine go ?_;refine Yl (col:=(Zh col)) 1 O ?_;intro g_1 w_2 col_3 hg_4 hb_5;refine Xs (col:=col_3) #[.int .i8 0,.slice none (([]:List (ByteArray×ByteArray)).length) 0,.slice none (([]:List (ByteArray×ByteArray)).length) 0,.int .i8 0,.slice none (([]:List ByteArray).length) 0,.bool false,.bool false] 2 zeroValue50 ?_;intro g_6 w_7 col_8 hg_9 hb_10;refine go ?_;replace hb_5:=hb_5.gr hg_9;refine lV _ (Yr isAgg50 sizeOf50 hb_5) ?_;obtain ⟨r_11,hr_12,hm⟩:=bZ hm;replace h0_0:=h0_0.keep (Zk.start col w0);replace h0_2:=h0_2.keep (Zk.start col w0);replace h0_4:=h0_4.keep (Zk.start col w0);replace hst:=(hst.grow hg_4).grow hg_9;refine Zf (Zx5 3 4 5 hr_12 (h0_0.ks hst) (h0_2.ks hst) (h0_4.ks hst)) ?_;rintro _ w_22 ⟨col_24,ra_13,rc_14,ra_16,rc_17,ra_19,rc_20,rfl,hg_23,rh_15,rh_18,rh_21⟩;refine ⟨_,O,?_⟩;refine Xs (col:=col_24) #[.int .i8 0,.slice none (([]:List (ByteArray×ByteArray)).length) 0,.slice none (([]:List (ByteArray×ByteArray)).length) 0,.int .i8 0,.slice none (([]:List ByteArray).length) 0,.bool false,.bool false] 6 zeroValue50 ?_;intro g_25 w_26 col_27 hg_28 hb_29;refine Xb hb_29 ?_;intro w_30 hk_31 hs_32 hb_33;refine Zi<|Zm ?_;replace hb_5:=((hb_5.gr hg_23).gr hg_28).kp hk_31;replace hb_10:=((hb_10.gr hg_23).gr hg_28).kp hk_31;replace hst:=((hst.grow hg_23).grow hg_28).kp hk_31 hs_32;replace rh_15:=(rh_15.gr hg_28).kp hk_31;replace rh_18:=(rh_18.gr hg_28).kp hk_31;replace rh_21:=(rh_21.gr hg_28).kp hk_31
 refine Wp.cutK [1,2,3,1000000] (fun f w_34=>∃ col_35 p_36 a_38 cap_39 p_37 a_42 cap_43 p_41 p_45 a_47 cap_48 p_46 p_50 p_51,Zev p0_q p_36 p_37 p_41 p_45 p_46 p_50 p_51=some r∧St w0 (Zh col) col_35 w_34∧Zd 50 1 col_35 w_34 g_1 #[.int .i8 p0_q.1,.slice a0_0 p0_q.2.1.length cap0_0,.slice a0_2 p0_q.2.2.1.length cap0_2,.int .i8 p0_q.2.2.2.1,.slice a0_4 p0_q.2.2.2.2.1.length cap0_4,.bool p0_q.2.2.2.2.2.1,.bool p0_q.2.2.2.2.2.2]∧Zd 50 2 col_35 w_34 g_6 #[.int .i8 0,.slice none (([]:List (ByteArray×ByteArray)).length) 0,.slice none (([]:List (ByteArray×ByteArray)).length) 0,.int .i8 0,.slice none (([]:List ByteArray).length) 0,.bool false,.bool false]∧Zb (Za.pair Za.str Za.str) 56 3 col_35 w_34 a_38 cap_39 p_37∧Zb (Za.pair Za.str Za.str) 56 4 col_35 w_34 a_42 cap_43 p_41∧Zb Za.str 9 5 col_35 w_34 a_47 cap_48 p_46∧Zd 50 6 col_35 w_34 g_25 #[.int .i8 p_36,.slice a_38 p_37.length cap_39,.slice a_42 p_41.length cap_43,.int .i8 p_45,.slice a_47 p_46.length cap_48,.bool p_50,.bool p_51]) ?_ ?_
 ·intro f w_34 hJ;obtain ⟨col_35,p_36,a_38,cap_39,p_37,a_42,cap_43,p_41,p_45,a_47,cap_48,p_46,p_50,p_51,hm,hst,hb_5,hb_10,h_40,h_44,h_49,hb_33⟩:=hJ;rw [Zev.eq_1] at hm;refine Zm ?_;refine Wp.cutK [2,3,1000000] (fun f w_52=>∃ col_53 p_54 a_56 cap_57 p_55 a_60 cap_61 p_59 p_63 a_65 cap_66 p_64 p_68 p_69,Zj7 p_54 p_55 p_59 p_63 p_64 p_68 p_69=some r∧St w0 (Zh col) col_53 w_52∧Zd 50 2 col_53 w_52 g_6 #[.int .i8 0,.slice none (([]:List (ByteArray×ByteArray)).length) 0,.slice none (([]:List (ByteArray×ByteArray)).length) 0,.int .i8 0,.slice none (([]:List ByteArray).length) 0,.bool false,.bool false]∧Zb (Za.pair Za.str Za.str) 56 3 col_53 w_52 a_56 cap_57 p_55∧Zb (Za.pair Za.str Za.str) 56 4 col_53 w_52 a_60 cap_61 p_59∧Zb Za.str 9 5 col_53 w_52 a_65 cap_66 p_64∧Zd 50 6 col_53 w_52 g_25 #[.int .i8 p_54,.slice a_56 p_55.length cap_57,.slice a_60 p_59.length cap_61,.int .i8 p_63,.slice a_65 p_64.length cap_66,.bool p_68,.bool p_69]) ?_ ?_
  ·intro f w_52 hJ;obtain ⟨col_53,p_54,a_56,cap_57,p_55,a_60,cap_61,p_59,p_63,a_65,cap_66,p_64,p_68,p_69,hm,hst,hb_10,h_58,h_62,h_67,hb_33⟩:=hJ;rw [Zj7.eq_1] at hm;refine go ?_;refine lV _ (Yr isAgg50 sizeOf50 hb_33)<|Xb hb_10 ?_;intro w_70 hk_71 hs_72 hb_73;refine go ?_;cases hm;replace h_58:=h_58.kp hk_71;replace h_62:=h_62.kp hk_71;replace h_67:=h_67.kp hk_71;replace hst:=hst.kp hk_71 hs_72;exact ⟨O,_,ra hb_73.atN,_,_,_,_,_,_,_,O,hst.fin (cm [(3,c1),(4,c2),(5,c3)]),hst.fo h_58,hst.fo h_62,hst.fo h_67⟩
  refine Zm ?_;refine Wp.cutK [2,3,1000000] (fun f w_76=>∃ col_77 v_78,Zew p_36 p_37 p_41 p_45 p_46 p_50 p_51 v_78=some r∧St w0 (Zh col) col_77 w_76∧Zd 50 2 col_77 w_76 g_6 #[.int .i8 0,.slice none (([]:List (ByteArray×ByteArray)).length) 0,.slice none (([]:List (ByteArray×ByteArray)).length) 0,.int .i8 0,.slice none (([]:List ByteArray).length) 0,.bool false,.bool false]∧Zb (Za.pair Za.str Za.str) 56 3 col_77 w_76 a_38 cap_39 p_37∧Zb (Za.pair Za.str Za.str) 56 4 col_77 w_76 a_42 cap_43 p_41∧Zb Za.str 9 5 col_77 w_76 a_47 cap_48 p_46∧Zd 50 6 col_77 w_76 g_25 #[.int .i8 p_36,.slice a_38 p_37.length cap_39,.slice a_42 p_41.length cap_43,.int .i8 p_45,.slice a_47 p_46.length cap_48,.bool p_50,.bool p_51]∧[18].map f=[.bool v_78]) ?_ ?_
  ·intro f w_76 hJ;obtain ⟨col_77,v_78,hm,hst,hb_10,h_40,h_44,h_49,hb_33,hs⟩:=hJ;rw [Zew.eq_1] at hm;refine .lL [18] hs ?_;refine Zl hm (fun hb hm=>?_) fun hb hm=>?_
   ·refine Yc<|Zy hb_33 ?_;obtain ⟨e_79,hj_80,hm⟩:=bZ hm;refine lI hj_80 (h_40.addr hj_80)<|Zt (Tx (h_40.addr hj_80)) ?_;obtain ⟨_,col_87,hk_85,hH_86,hs_84⟩:=h_40.open_ 7 (by decide) hj_80;obtain ⟨_,_,rfl,hp_88,hp_89⟩:=hs_84.parts;obtain rfl:=hp_88.str;obtain rfl:=hp_89.str;replace hH_86:Yj (Za.pair Za.str Za.str) 56 3 col_87 w_76 a_38 cap_39 p_37 (Int.toNat 0) [.string e_79.1,.string e_79.2]:=hH_86;refine Z1h (v:=(.string (⟨#[]⟩))) 2 1 hH_86 O sizeOf9 O (Nat.le_of_ble_eq_true O) (by intro u hu;simp only [Value.cells,List.mem_cons,List.not_mem_nil,or_false] at hu;subst hu;rfl) O (fun _ _ h=>by rw [h];simp only [Option.map_some,Vf,Nat.add_assoc];try rfl) O (by decide) ?_;intro w_81 hk_82 hs_83 hH_90;replace hH_90:Yj (Za.pair Za.str Za.str) 56 3 col_87 w_81 a_38 cap_39 p_37 (Int.toNat 0) [.string e_79.1,.string (⟨#[]⟩)]:=hH_90;have h_91:=hH_90.closeF (W4 (Vw e_79.1) (Vw (⟨#[]⟩)));replace hb_33:=(hb_33.kpp hk_85).kp hk_82;replace hb_33:Zd 50 6 col_87 w_81 g_25 #[.int .i8 p_36,.slice a_38 ((p_37.set (Int.toNat 0) (e_79.1,⟨#[]⟩)).length) cap_39,.slice a_42 p_41.length cap_43,.int .i8 p_45,.slice a_47 p_46.length cap_48,.bool p_50,.bool p_51]:=by rw [← (show p_37.length=(p_37.set (Int.toNat 0) (e_79.1,⟨#[]⟩)).length by simp only [List.length_set])];exact hb_33
    refine Zi ?_;replace h_44:=(h_44.kpp hk_85).kp hk_82;replace h_49:=(h_49.kpp hk_85).kp hk_82;replace hb_10:=(hb_10.kpp hk_85).kp hk_82;replace hst:=(hst.kpp hk_85).kp hk_82 hs_83;exact ⟨O,_,_,_,_,_,_,_,_,_,_,_,_,_,_,hm,hst,hb_10,h_91,h_44,h_49,hb_33⟩
   refine Zz ?_;exact ⟨O,_,_,_,_,_,_,_,_,_,_,_,_,_,_,hm,hst,hb_10,h_40,h_44,h_49,hb_33⟩
  refine Yc<|Zy hb_5 ?_;refine go ?_;refine Z3 hm (fun hg_92 hm=>go ?_) fun hg_92 hm=>go ?_
  ·refine Zt ⟨_,_,O⟩ ?_;refine go ?_;refine lW ((hb_33.atN).nth (q:=1) O)<|go ?_;refine lV (.bool (decide ((p_37.length:Int)=1))) (Zv (congrArg Value.bool hg_92) O)<|Zi ?_;exact ⟨O,_,_,hm,hst,hb_10,h_40,h_44,h_49,hb_33,O⟩
  refine lV (.bool false) (Zu (congrArg Value.bool hg_92) O)<|Zi ?_;exact ⟨O,_,_,hm,hst,hb_10,h_40,h_44,h_49,hb_33,O⟩
 refine go ?_;refine Zy hb_5 ?_;refine go ?_;refine Zl hm (fun hb hm=>?_) fun hb hm=>?_
 ·refine Yc<|Zt ⟨_,_,O⟩ ?_;refine Xp (off:=4) (v:=(.slice none (([]:List ByteArray).length) 0)) hb_33 sizeOf40 O O (by intro u hu;simp only [Value.cells,List.mem_cons,List.not_mem_nil,or_false] at hu;subst hu;rfl) O O ?_;intro w_93 hk_94 hs_95 hb_96;replace hb_96:Zd 50 6 col_27 w_93 g_25 #[.int .i8 r_11.1,.slice ra_13 ((r_11.2.1.2.take r_11.2.1.1).length) rc_14,.slice ra_16 ((r_11.2.2.1.2.take r_11.2.2.1.1).length) rc_17,.int .i8 r_11.2.2.2.1,.slice none (([]:List ByteArray).length) 0,.bool r_11.2.2.2.2.2.1,.bool r_11.2.2.2.2.2.2]:=hb_96;refine Zi ?_;replace rh_15:=rh_15.kp hk_94;replace rh_18:=rh_18.kp hk_94;replace hb_5:=hb_5.kp hk_94;replace hb_10:=hb_10.kp hk_94;replace hst:=hst.kp hk_94 hs_95;exact ⟨O,_,_,_,_,_,_,_,_,_,none,0,_,_,_,hm,hst,hb_5,hb_10,(rh_15.take r_11.2.1.1),(rh_18.take r_11.2.2.1.1),Zb.nil,hb_96⟩
 refine Zz ?_;exact ⟨O,_,_,_,_,_,_,_,_,_,_,_,_,_,_,hm,hst,hb_5,hb_10,(rh_15.take r_11.2.1.1),(rh_18.take r_11.2.2.1.1),(rh_21.take r_11.2.2.2.2.1.1),hb_33⟩
def Zcy (N:Nat) (p0_l:(List (Int×(List (ByteArray×ByteArray))×(List (ByteArray×ByteArray))×Int×List ByteArray×(Bool×Bool)))):Nat→(List (Int×(List (ByteArray×ByteArray))×(List (ByteArray×ByteArray))×Int×List ByteArray×(Bool×Bool)))→Int→Option (List (Int×(List (ByteArray×ByteArray))×(List (ByteArray×ByteArray))×Int×List ByteArray×(Bool×Bool)))
  | 0,_,_=>none
  | n_1+1,m_4,i_8=>if (decide (i_8<(p0_l.length:Int)))=true then ((Zq p0_l i_8).bind fun e_9=>(Zeu (e_9.1,e_9.2.1,e_9.2.2.1,e_9.2.2.2.1,e_9.2.2.2.2.1,(e_9.2.2.2.2.2.1,e_9.2.2.2.2.2.2))).bind fun r_34=>Zp ((m_4.length+[(r_34.1,r_34.2.1,r_34.2.2.1,r_34.2.2.2.1,r_34.2.2.2.2.1,(r_34.2.2.2.2.2.1,r_34.2.2.2.2.2.2))].length) * 96≤140737488355328∧m_4.length+[(r_34.1,r_34.2.1,r_34.2.2.1,r_34.2.2.2.1,r_34.2.2.2.2.1,(r_34.2.2.2.2.2.1,r_34.2.2.2.2.2.2))].length≤maxLen) ((Zcy N p0_l n_1) (m_4++[(r_34.1,r_34.2.1,r_34.2.2.1,r_34.2.2.2.1,r_34.2.2.2.2.1,(r_34.2.2.2.2.2.1,r_34.2.2.2.2.2.2))]) (i64.wrap (i_8+1)))) else (some m_4)
termination_by structural x=>x
def Zg2 (N:Nat) (p0_l:(List (Int×(List (ByteArray×ByteArray))×(List (ByteArray×ByteArray))×Int×List ByteArray×(Bool×Bool)))):Option (List (Int×(List (ByteArray×ByteArray))×(List (ByteArray×ByteArray))×Int×List ByteArray×(Bool×Bool))):=
  Zcy N p0_l N ([]:List (Int×(List (ByteArray×ByteArray))×(List (ByteArray×ByteArray))×Int×List ByteArray×(Bool×Bool))) 0
theorem Zx4 {N cap0:Nat} {a0:Option Addr} {col:Zc} {w0:World} {p0_l r:(List (Int×(List (ByteArray×ByteArray))×(List (ByteArray×ByteArray))×Int×List ByteArray×(Bool×Bool)))} (c1:Nat) (hm:Zg2 N p0_l=some r) (h0:Sl (Za.pair (Za.int .i8) (Za.pair (Za.slice (Za.pair Za.str Za.str)) (Za.pair (Za.slice (Za.pair Za.str Za.str)) (Za.pair (Za.int .i8) (Za.pair (Za.slice Za.str) (Za.pair Za.bool Za.bool)))))) col w0 a0 cap0 p0_l):
    Calls prog 15 #[.slice a0 p0_l.length cap0] w0 (fun e w'=>∃ (col':Zc) (ra1:Option Addr) (rc2:Nat),e= .returned ((.slice ra1 r.length rc2))∧Ze col w0 col' w'∧Zb (Za.pair (Za.int .i8) (Za.pair (Za.row 56 (Za.pair Za.str Za.str)) (Za.pair (Za.row 56 (Za.pair Za.str Za.str)) (Za.pair (Za.int .i8) (Za.pair (Za.row 9 Za.str) (Za.pair Za.bool Za.bool)))))) 50 c1 col' w' ra1 rc2 r):=by
 refine Z0 2 (m:=20) func15 O O O O O ?_;rw [Zg2.eq_1] at hm;have hst:=St.start col w0;refine go ?_;refine Z5 [0,1000000] (fun n f w_2=>∃ col_3 a_5 cap_6 m_4 i_8 n_1,n_1=n∧Zcy N p0_l n_1 m_4 i_8=some r∧St w0 (Zh col) col_3 w_2∧Zb (Za.pair (Za.int .i8) (Za.pair (Za.row 56 (Za.pair Za.str Za.str)) (Za.pair (Za.row 56 (Za.pair Za.str Za.str)) (Za.pair (Za.int .i8) (Za.pair (Za.row 9 Za.str) (Za.pair Za.bool Za.bool)))))) 50 1 col_3 w_2 a_5 cap_6 m_4∧[3,4].map f=[.slice a_5 m_4.length cap_6,.int .i64 i_8]) N ⟨_,none,0,_,0,_,O,hm,hst,Zb.nil,O⟩ ?_;clear hm;intro n f w_2 hI;obtain ⟨col_3,a_5,cap_6,m_4,i_8,n_1,hn,hm,hst,h_7,hs⟩:=hI;subst hn;refine .lL [3,4] hs ?_;replace h0:=h0.keep (Zk.start col w0)
 cases n_1 with
 | zero=>rw [Zcy.eq_1] at hm;cases hm
 | succ n_1=>
  rw [Zcy.eq_2] at hm;refine go ?_;refine Zl hm (fun hb hm=>go ?_) fun hb hm=>go ?_
  ·obtain ⟨e_9,hj_10,hm⟩:=bZ hm;refine lI hj_10 ((h0.ks hst).addr hj_10) ?_;obtain ⟨_,hr_11,hA_12⟩:=(h0.ks hst).atN hj_10;obtain ⟨_,_,rfl,hp_13,hp_14⟩:=Xh hr_11;obtain ⟨rfl,_⟩:=hp_13;obtain ⟨_,_,rfl,hp_15,hp_16⟩:=Xh hp_14;obtain ⟨⟨a_17,cap_18,rfl,h_19⟩,_⟩:=hp_15;obtain ⟨_,_,rfl,hp_20,hp_21⟩:=Xh hp_16;obtain ⟨⟨a_22,cap_23,rfl,h_24⟩,_⟩:=hp_20;obtain ⟨_,_,rfl,hp_25,hp_26⟩:=Xh hp_21;obtain ⟨rfl,_⟩:=hp_25;obtain ⟨_,_,rfl,hp_27,hp_28⟩:=Xh hp_26;obtain ⟨⟨a_29,cap_30,rfl,h_31⟩,_⟩:=hp_27;obtain ⟨_,_,rfl,hp_32,hp_33⟩:=Xh hp_28;obtain ⟨rfl,_⟩:=hp_32;obtain ⟨rfl,_⟩:=hp_33;refine lV (.agg #[.int .i8 e_9.1,.slice a_17 e_9.2.1.length cap_18,.slice a_22 e_9.2.2.1.length cap_23,.int .i8 e_9.2.2.2.1,.slice a_29 e_9.2.2.2.2.1.length cap_30,.bool e_9.2.2.2.2.2.1,.bool e_9.2.2.2.2.2.2]) (Wl isAgg50 sizeOf50 O O hA_12) ?_;obtain ⟨r_34,hr_35,hm⟩:=bZ hm;refine Zf (Zx3 2 3 4 hr_35 h_19 h_24 h_31) ?_;rintro _ w_45 ⟨col_47,ra_36,rc_37,ra_39,rc_40,ra_42,rc_43,rfl,hg_46,rh_38,rh_41,rh_44⟩;refine ⟨_,O,?_⟩;have hx_48:=Z2.join rh_41.has (Z2.joinL (Vc .i8 r_34.2.2.2.1) (Z2.joinR rh_44.has (W4 (S6 r_34.2.2.2.2.2.1) (S6 r_34.2.2.2.2.2.2)))) (by decide) (by decide);replace h_7:=h_7.gr hg_46;replace h_7:=h_7.recol 4 3 (by decide);replace rh_38:=rh_38.recol 4 3 (by decide);replace hst:=hst.grow hg_46;replace hst:=hst.recol 4 3 (by decide) (by decide);have hx_49:=Z2.join rh_38.has hx_48 (by decide) (by decide);replace h_7:=h_7.recol 3 2 (by decide);replace hst:=hst.recol 3 2 (by decide) (by decide);refine Tl (col:=(Xa 3 2 (Xa 4 3 col_47))) (r:=(Za.pair (Za.int .i8) (Za.pair (Za.row 56 (Za.pair Za.str Za.str)) (Za.pair (Za.row 56 (Za.pair Za.str Za.str)) (Za.pair (Za.int .i8) (Za.pair (Za.row 9 Za.str) (Za.pair Za.bool Za.bool))))))) (xs:=[(r_34.1,r_34.2.1,r_34.2.2.1,r_34.2.2.2.1,r_34.2.2.2.2.1,(r_34.2.2.2.2.2.1,r_34.2.2.2.2.2.2))]) [(.agg #[.int .i8 r_34.1,.slice ra_36 r_34.2.1.length rc_37,.slice ra_39 r_34.2.2.1.length rc_40,.int .i8 r_34.2.2.2.1,.slice ra_42 r_34.2.2.2.2.1.length rc_43,.bool r_34.2.2.2.2.2.1,.bool r_34.2.2.2.2.2.2])] 2 (Yp.cons1 (cs:=[.int .i8 r_34.1,.slice ra_36 r_34.2.1.length rc_37,.slice ra_39 r_34.2.2.1.length rc_40,.int .i8 r_34.2.2.2.1,.slice ra_42 r_34.2.2.2.2.1.length rc_43,.bool r_34.2.2.2.2.2.1,.bool r_34.2.2.2.2.2.2]) (Z2.joinL (Vc .i8 r_34.1) hx_49) Rows.nil0) ?_;intro a_50 w_51 col_52 hg_53 h_54;obtain ⟨hb_55,hm⟩:=Zr hm;replace h_7:=h_7.gr hg_53;refine Ui (c:=1) (c2:=2) h_7 (h_54.srcC (by decide)) hb_55 ?_;intro a_56 cap_57 w_58 col_59 hk_60 h_61;refine go ?_
   replace hst:=(hst.grow hg_53).kpp hk_60;exact ⟨n_1,by omega,O,⟨_,_,_,_,_,_,O,hm,hst,h_61,O⟩⟩
  cases hm;exact ⟨O,_,_,_,O,hst.fin (cm [(1,c1)]),hst.fo h_7⟩
def Zdg (N:Nat) (p0_a:(List (Int×(List (ByteArray×ByteArray))×(List (ByteArray×ByteArray))×Int×List ByteArray×(Bool×Bool)))) (p1_b:(List (Int×(List (ByteArray×ByteArray))×(List (ByteArray×ByteArray))×Int×List ByteArray×(Bool×Bool)))):Nat→Int→Option Bool
  | 0,_=>none
  | n_1+1,i_4=>if (decide (i_4<(p0_a.length:Int)))=true then ((Zq p0_a i_4).bind fun e_5=>(Zq p1_b i_4).bind fun e_30=>(Zh8 N (e_5.1,e_5.2.1,e_5.2.2.1,e_5.2.2.2.1,e_5.2.2.2.2.1,(e_5.2.2.2.2.2.1,e_5.2.2.2.2.2.2)) (e_30.1,e_30.2.1,e_30.2.2.1,e_30.2.2.2.1,e_30.2.2.2.2.1,(e_30.2.2.2.2.2.1,e_30.2.2.2.2.2.2))).bind fun r_55=>if (!r_55)=true then (some false) else ((Zdg N p0_a p1_b n_1) (i64.wrap (i_4+1)))) else (some true)
termination_by structural x=>x
def Zh9 (N:Nat) (p0_a:(List (Int×(List (ByteArray×ByteArray))×(List (ByteArray×ByteArray))×Int×List ByteArray×(Bool×Bool)))) (p1_b:(List (Int×(List (ByteArray×ByteArray))×(List (ByteArray×ByteArray))×Int×List ByteArray×(Bool×Bool)))):Option Bool:=
  if (!decide ((p0_a.length:Int)=(p1_b.length:Int)))=true then (some false) else (Zdg N p0_a p1_b N 0)
theorem Zy8 {N cap0 cap1:Nat} {a0 a1:Option Addr} {col:Zc} {w0:World} {p0_a p1_b:(List (Int×(List (ByteArray×ByteArray))×(List (ByteArray×ByteArray))×Int×List ByteArray×(Bool×Bool)))} {r:Bool} (hm:Zh9 N p0_a p1_b=some r) (h0:Sl (Za.pair (Za.int .i8) (Za.pair (Za.slice (Za.pair Za.str Za.str)) (Za.pair (Za.slice (Za.pair Za.str Za.str)) (Za.pair (Za.int .i8) (Za.pair (Za.slice Za.str) (Za.pair Za.bool Za.bool)))))) col w0 a0 cap0 p0_a) (h1:Sl (Za.pair (Za.int .i8) (Za.pair (Za.slice (Za.pair Za.str Za.str)) (Za.pair (Za.slice (Za.pair Za.str Za.str)) (Za.pair (Za.int .i8) (Za.pair (Za.slice Za.str) (Za.pair Za.bool Za.bool)))))) col w0 a1 cap1 p1_b):
    Calls prog 14 #[.slice a0 p0_a.length cap0,.slice a1 p1_b.length cap1] w0 (fun e w'=>e= .returned ((.bool r))∧Below w0.heap.size w0 w'):=by
 refine Z0 4 (m:=29) func14 O O O O O ?_;rw [Zh9.eq_1] at hm;have hst:=St.start col w0;refine go ?_;replace h0:=h0.keep (Zk.start col w0);replace h1:=h1.keep (Zk.start col w0);refine Zl hm (fun hb hm=>go ?_) fun hb hm=>go ?_
 ·cases hm;exact ⟨O,O,hst.below⟩
 refine Z5 [0,1,1000000] (fun n f w_2=>∃ col_3 i_4 n_1,n_1=n∧Zdg N p0_a p1_b n_1 i_4=some r∧St w0 (Zh col) col_3 w_2∧[5].map f=[.int .i64 i_4]) N ⟨_,0,_,O,hm,hst,O⟩ ?_;clear hm;intro n f w_2 hI;obtain ⟨col_3,i_4,n_1,hn,hm,hst,hs⟩:=hI;subst hn;refine .lL [5] hs ?_
 cases n_1 with
 | zero=>rw [Zdg.eq_1] at hm;cases hm
 | succ n_1=>
  rw [Zdg.eq_2] at hm;refine go ?_;refine Zl hm (fun hb hm=>go ?_) fun hb hm=>go ?_
  ·refine Vq (col:=col_3) (by kernel_rfl) (by kernel_rfl)<|go ?_;obtain ⟨e_5,hj_6,hm⟩:=bZ hm;refine qI hj_6 ((h0.ks hst).addr hj_6) ?_;obtain ⟨_,hr_7,hA_8⟩:=(h0.ks hst).atN hj_6;obtain ⟨_,_,rfl,hp_9,hp_10⟩:=Xh hr_7;obtain ⟨rfl,_⟩:=hp_9;obtain ⟨_,_,rfl,hp_11,hp_12⟩:=Xh hp_10;obtain ⟨⟨a_13,cap_14,rfl,h_15⟩,_⟩:=hp_11;obtain ⟨_,_,rfl,hp_16,hp_17⟩:=Xh hp_12;obtain ⟨⟨a_18,cap_19,rfl,h_20⟩,_⟩:=hp_16;obtain ⟨_,_,rfl,hp_21,hp_22⟩:=Xh hp_17;obtain ⟨rfl,_⟩:=hp_21;obtain ⟨_,_,rfl,hp_23,hp_24⟩:=Xh hp_22;obtain ⟨⟨a_25,cap_26,rfl,h_27⟩,_⟩:=hp_23;obtain ⟨_,_,rfl,hp_28,hp_29⟩:=Xh hp_24;obtain ⟨rfl,_⟩:=hp_28;obtain ⟨rfl,_⟩:=hp_29;refine qv (v:=(.agg #[.int .i8 e_5.1,.slice a_13 e_5.2.1.length cap_14,.slice a_18 e_5.2.2.1.length cap_19,.int .i8 e_5.2.2.2.1,.slice a_25 e_5.2.2.2.2.1.length cap_26,.bool e_5.2.2.2.2.2.1,.bool e_5.2.2.2.2.2.2])) O (fun _ hC=>Wl isAgg50 sizeOf50 O O (hA_8.gr (hC.bl col_3))) ?_;refine go ?_;obtain ⟨e_30,hj_31,hm⟩:=bZ hm;refine qI hj_31 ((h1.ks hst).addr hj_31) ?_;obtain ⟨_,hr_32,hA_33⟩:=(h1.ks hst).atN hj_31;obtain ⟨_,_,rfl,hp_34,hp_35⟩:=Xh hr_32;obtain ⟨rfl,_⟩:=hp_34;obtain ⟨_,_,rfl,hp_36,hp_37⟩:=Xh hp_35;obtain ⟨⟨a_38,cap_39,rfl,h_40⟩,_⟩:=hp_36;obtain ⟨_,_,rfl,hp_41,hp_42⟩:=Xh hp_37;obtain ⟨⟨a_43,cap_44,rfl,h_45⟩,_⟩:=hp_41;obtain ⟨_,_,rfl,hp_46,hp_47⟩:=Xh hp_42;obtain ⟨rfl,_⟩:=hp_46;obtain ⟨_,_,rfl,hp_48,hp_49⟩:=Xh hp_47;obtain ⟨⟨a_50,cap_51,rfl,h_52⟩,_⟩:=hp_48;obtain ⟨_,_,rfl,hp_53,hp_54⟩:=Xh hp_49;obtain ⟨rfl,_⟩:=hp_53;obtain ⟨rfl,_⟩:=hp_54;refine qv (v:=(.agg #[.int .i8 e_30.1,.slice a_38 e_30.2.1.length cap_39,.slice a_43 e_30.2.2.1.length cap_44,.int .i8 e_30.2.2.2.1,.slice a_50 e_30.2.2.2.2.1.length cap_51,.bool e_30.2.2.2.2.2.1,.bool e_30.2.2.2.2.2.2])) O (fun _ hC=>Wl isAgg50 sizeOf50 O O (hA_33.gr (hC.bl col_3))) ?_;obtain ⟨r_55,hr_56,hm⟩:=bZ hm;refine qc (v:=(.bool r_55)) O (fun _ hC=>⟨_,_,Zfx call38 O O,(Zy7 hr_56 (h_15.gr (hC.bl col_3)) (h_20.gr (hC.bl col_3)) (h_27.gr (hC.bl col_3)) (h_40.gr (hC.bl col_3)) (h_45.gr (hC.bl col_3)) (h_52.gr (hC.bl col_3)):).mono fun _ _ h=>⟨h.1,hC.trans (.of_below h.2)⟩⟩) ?_;refine go ?_;refine Wc ?_;intro w_57 hC;replace hC:=hC.bl col_3;refine go ?_;replace hst:=hst.grow hC;refine Zl hm (fun hb hm=>go ?_) fun hb hm=>go ?_
   ·cases hm;exact ⟨O,O,hst.below⟩
   exact ⟨n_1,by omega,O,⟨_,_,_,O,hm,hst,O⟩⟩
  cases hm;exact ⟨O,O,hst.below⟩
def Zes (v_19:Bool):Option Bool:=
  some v_19
def Zcx (v_70:Bool):Option Bool:=
  some v_70
def Zgz (N:Nat) (p0_l:(List (Int×(List (ByteArray×ByteArray))×(List (ByteArray×ByteArray))×Int×List ByteArray×(Bool×Bool)))):Option Bool:=
  (Zg0 N).bind fun r_1=>(Zj6 N p0_l).bind fun r_5=>if r_5=true then (some r_1) else ((Zfd N p0_l).bind fun r_9=>if (!decide (r_9.2=0))=true then (if r_1=true then (if (decide (r_9.2=50))=true then (Zes (decide (r_9.1=(⟨#[]⟩)))) else (Zes false)) else (Zes false)) else ((Zc8 N r_9.1).bind fun r_22=>(Zfd N r_22.1).bind fun r_32=>if r_1=true then (if (!r_22.2.isSome)=true then (if (decide (r_32.2=0))=true then (if (decide (r_32.1=r_9.1))=true then ((Zg2 N p0_l).bind fun r_75=>(Zh9 N r_22.1 r_75).bind fun r_83=>Zcx r_83) else (Zcx false)) else (Zcx false)) else (Zcx false)) else (Zcx false)))
theorem Zx0 (N:Nat) (col:Zc) (w0:World) (a0:Option Addr) (cap0:Nat) (p0_l:(List (Int×(List (ByteArray×ByteArray))×(List (ByteArray×ByteArray))×Int×List ByteArray×(Bool×Bool)))) (h0:Sl (Za.pair (Za.int .i8) (Za.pair (Za.slice (Za.pair Za.str Za.str)) (Za.pair (Za.slice (Za.pair Za.str Za.str)) (Za.pair (Za.int .i8) (Za.pair (Za.slice Za.str) (Za.pair Za.bool Za.bool)))))) col w0 a0 cap0 p0_l) (hgl:Gl (.iface 141 (.agg #[.pointer (some ⟨4,24,none⟩)])) col w0) (r:Bool) (hm:Zgz N p0_l=some r):
    Calls prog 4 #[.slice a0 p0_l.length cap0] w0 (fun e w'=>e= .returned ((.bool r))∧Below w0.heap.size w0 w'):=by
 refine Z0 2 (m:=60) func4 O O O O O ?_;rw [Zgz.eq_1] at hm;have hst:=St.start col w0;refine go ?_;obtain ⟨r_1,hr_2,hm⟩:=bZ hm;replace hgl:=hgl.keep (Zk.start col w0);refine lc O O (Zij call12) (Zx1 hr_2 hgl:) ?_;rintro _ w_3 ⟨rfl,hg_4⟩;refine ⟨_,O,?_⟩;replace h0:=h0.keep (Zk.start col w0);replace hg_4:Ze (Zh col) w0 (Zh col) w_3:=.of_below hg_4;refine go ?_;obtain ⟨r_5,hr_6,hm⟩:=bZ hm;replace hst:=hst.grow hg_4;refine Zf (Zx2 hr_6 (h0.ks hst)) ?_;rintro _ w_7 ⟨rfl,hg_8⟩;refine ⟨_,O,?_⟩;replace hg_8:Ze (Zh col) w_3 (Zh col) w_7:=.of_below hg_8;refine Zi ?_;replace hgl:=(hgl.gr hg_4).gr hg_8;replace hst:=hst.grow hg_8;refine Zl hm (fun hb hm=>go ?_) fun hb hm=>go ?_
 ·cases hm;exact ⟨O,O,hst.below⟩
 obtain ⟨r_9,hr_10,hm⟩:=bZ hm;refine Zf (Znq hr_10 (h0.ks hst)) ?_;rintro _ w_11 ⟨rfl,hg_12⟩;refine ⟨_,O,?_⟩;replace hg_12:Ze (Zh col) w_7 (Zh col) w_11:=.of_below hg_12;refine lM (.tuple #[.string r_9.1,.int .i64 r_9.2])<|lV (.string r_9.1) (Xd O O)<|lV (.int .i64 r_9.2) (Xd O O)<|go ?_;replace hgl:=hgl.gr hg_12;replace hst:=hst.grow hg_12;refine Zl hm (fun hb hm=>?_) fun hb hm=>go ?_
 ·refine Zm ?_;refine Wp.cutK [1000000] (fun f w_17=>∃ col_18 v_19,Zes v_19=some r∧St w0 (Zh col) col_18 w_17∧Gl (.iface 141 (.agg #[.pointer (some ⟨4,24,none⟩)])) col_18 w_17∧[2].map f=[.bool v_19]) ?_ ?_
  ·intro f w_17 hJ;obtain ⟨col_18,v_19,hm,hst,hgl,hs⟩:=hJ;rw [Zes.eq_1] at hm;refine .lL [2] hs<|W1 ?_;cases hm;exact ⟨O,O,hst.below⟩
  refine go ?_;refine Z3 hm (fun hg_20 hm=>go ?_) fun hg_20 hm=>go ?_
  ·refine lV (.bool (decide (r_9.2=50))) (Zv (congrArg Value.bool hg_20) O)<|Xo O ?_;refine Z3 hm (fun hg_21 hm=>go ?_) fun hg_21 hm=>go ?_
   ·refine lV (.bool (decide (r_9.1=(⟨#[]⟩)))) (Zv (congrArg Value.bool hg_21) O)<|go ?_;exact ⟨O,_,_,hm,hst,hgl,O⟩
   refine lV (.bool false) (Zu (congrArg Value.bool hg_21) O)<|go ?_;exact ⟨O,_,_,hm,hst,hgl,O⟩
  refine lV (.bool false) (Zu (congrArg Value.bool hg_20) O)<|Xo O<|lP 26 O O<|lP 26 O O<|lV (.bool false) (Zu O O)<|go ?_;exact ⟨O,_,_,hm,hst,hgl,O⟩
 obtain ⟨r_22,hr_23,hm⟩:=bZ hm;refine Zf (Zrq 1 hr_23 hgl) ?_;rintro _ w_29 ⟨col_31,ra_24,rc_25,rv_27,rfl,hg_30,rh_26,rh_28⟩;refine ⟨_,O,?_⟩;refine lM (.tuple #[.slice ra_24 r_22.1.length rc_25,rv_27])<|lV (.slice ra_24 r_22.1.length rc_25) (Xd O O)<|lv (v:=rv_27) O O (Xd O O)<|Zel O<|lv (v:=rv_27) O O (Y2 O)<|go ?_;obtain ⟨r_32,hr_33,hm⟩:=bZ hm;refine Zf (Znq hr_33 (rh_26.toSlF (Zj.pair (Zj.int .i8) (Zj.pair (Zj.row (Zj.pair Zj.str Zj.str)) (Zj.pair (Zj.row (Zj.pair Zj.str Zj.str)) (Zj.pair (Zj.int .i8) (Zj.pair (Zj.row Zj.str) (Zj.pair Zj.bool Zj.bool)))))))) ?_;rintro _ w_34 ⟨rfl,hg_35⟩;refine ⟨_,O,?_⟩;replace hg_35:Ze col_31 w_29 col_31 w_34:=.of_below hg_35;refine lM (.tuple #[.string r_32.1,.int .i64 r_32.2])<|lV (.string r_32.1) (Xd O O)<|lV (.int .i64 r_32.2) (Xd O O)<|Zgo O<|Yn O<|Zi<|Zm ?_;replace hgl:=(hgl.gr hg_30).gr hg_35;replace hst:=(hst.grow hg_30).grow hg_35;replace rh_26:=rh_26.gr hg_35;replace rh_28:=rh_28.gr hg_35;refine Wp.cutK [1000000] (fun f w_68=>∃ col_69 v_70,Zcx v_70=some r∧St w0 (Zh col) col_69 w_68∧Gl (.iface 141 (.agg #[.pointer (some ⟨4,24,none⟩)])) col_69 w_68∧[2].map f=[.bool v_70]) ?_ ?_
 ·intro f w_68 hJ;obtain ⟨col_69,v_70,hm,hst,hgl,hs⟩:=hJ;rw [Zcx.eq_1] at hm;refine .lL [2] hs<|W1 ?_;cases hm;exact ⟨O,O,hst.below⟩
 refine go ?_;refine Z3 hm (fun hg_71 hm=>go ?_) fun hg_71 hm=>go ?_
 ·refine lv (v:=rv_27) O O (Wq O)<|go ?_;refine lV (.bool (!r_22.2.isSome)) (Z21 rh_28 underlying24 O)<|lV (.bool (!r_22.2.isSome)) (Zv (congrArg Value.bool hg_71) O)<|Xo O ?_;refine Z3 hm (fun hg_72 hm=>go ?_) fun hg_72 hm=>go ?_
  ·refine lV (.bool (decide (r_32.2=0))) (Zv (congrArg Value.bool hg_72) O)<|Xo O ?_;refine Z3 hm (fun hg_73 hm=>go ?_) fun hg_73 hm=>go ?_
   ·refine lV (.bool (decide (r_32.1=r_9.1))) (Zv (congrArg Value.bool hg_73) O)<|Xo O ?_;refine Z3 hm (fun hg_74 hm=>go ?_) fun hg_74 hm=>go ?_
    ·obtain ⟨r_75,hr_76,hm⟩:=bZ hm;refine Zf (Zx4 4 hr_76 (h0.ks hst)) ?_;rintro _ w_80 ⟨col_82,ra_77,rc_78,rfl,hg_81,rh_79⟩;refine ⟨_,O,go ?_⟩;obtain ⟨r_83,hr_84,hm⟩:=bZ hm;replace rh_26:=rh_26.gr hg_81;refine Zf (Zy8 hr_84 ((rh_26.toSlF (Zj.pair (Zj.int .i8) (Zj.pair (Zj.row (Zj.pair Zj.str Zj.str)) (Zj.pair (Zj.row (Zj.pair Zj.str Zj.str)) (Zj.pair (Zj.int .i8) (Zj.pair (Zj.row Zj.str) (Zj.pair Zj.bool Zj.bool))))))).froz 4) ((rh_79.froz 1 (by decide)).toSlF (Zj.pair (Zj.int .i8) (Zj.pair (Zj.row (Zj.pair Zj.str Zj.str)) (Zj.pair (Zj.row (Zj.pair Zj.str Zj.str)) (Zj.pair (Zj.int .i8) (Zj.pair (Zj.row Zj.str) (Zj.pair Zj.bool Zj.bool)))))))) ?_;rintro _ w_85 ⟨rfl,hg_86⟩;refine ⟨_,O,?_⟩;replace hg_86:Ze col_82 w_80 col_82 w_85:=.of_below hg_86;refine lV (.bool r_83) (Zv (congrArg Value.bool hg_74) O)<|go ?_;replace hgl:=(hgl.gr hg_81).gr hg_86;replace hst:=(hst.grow hg_81).grow hg_86;exact ⟨O,_,_,hm,hst,hgl,O⟩
    refine lV (.bool false) (Zu (congrArg Value.bool hg_74) O)<|go ?_;exact ⟨O,_,_,hm,hst,hgl,O⟩
   refine lV (.bool false) (Zu (congrArg Value.bool hg_73) O)<|Xo O<|lP 54 O O<|lP 54 O O<|lP 54 O O<|lP 54 O O<|lV (.bool false) (Zu O O)<|go ?_;exact ⟨O,_,_,hm,hst,hgl,O⟩
  refine lV (.bool false) (Zu (congrArg Value.bool hg_72) O)<|Xo O<|lP 49 O O<|lP 49 O O<|lP 49 O O<|lV (.bool false) (Zu O O)<|Xo O<|lP 54 O O<|lP 54 O O<|lP 54 O O<|lP 54 O O<|lV (.bool false) (Zu O O)<|go ?_;exact ⟨O,_,_,hm,hst,hgl,O⟩
 refine lV (.bool false) (Zu (congrArg Value.bool hg_71) O)<|Xo O<|lP 45 O O<|lP 45 O O<|lV (.bool false) (Zu O O)<|Xo O<|lP 49 O O<|lP 49 O O<|lP 49 O O<|lV (.bool false) (Zu O O)<|Xo O<|lP 54 O O<|lP 54 O O<|lP 54 O O<|lP 54 O O<|lV (.bool false) (Zu O O)<|go ?_;exact ⟨O,_,_,hm,hst,hgl,O⟩
theorem Z2t {q:Z6} (hq:T5 q) (hg:Y0 q=true):Zeu q=some (X8 q):=by
 have hf:Wi q=true:=by
  rw [Y0,Bool.and_eq_true,Bool.and_eq_true] at hg;exact hg.1.1
 rw [Wi] at hf
 have ht:Zex (q.1,q.2.1,q.2.2.1,q.2.2.2.1,q.2.2.2.2.1,(q.2.2.2.2.2.1,q.2.2.2.2.2.2))=some (Zcf q):=Z4f hq
 rw [Zeu,ht,Option.bind_some]
 have key:∀ o:List ByteArray,Zev q q.1 q.2.1 q.2.2.1 q.2.2.2.1 o q.2.2.2.2.2.1 q.2.2.2.2.2.2=some (q.1,V6 q,q.2.2.1,q.2.2.2.1,o,q.2.2.2.2.2):=by
  intro o
  rw [Zev,V6]
  by_cases h3:q.1=3
  ·rw [if_neg (by rw [h3];decide),if_neg (by rw [h3];decide),if_pos h3] at hf
   obtain ⟨p,hp⟩:=List.length_eq_one_iff.1 (of_decide_eq_true hf)
   rw [if_pos (decide_eq_true h3),if_pos h3,hp,Zew,if_pos (by rfl)]
   rfl
  ·rw [if_neg (nd h3),if_neg h3,Zew,if_neg (by decide)];rfl
 have e1:(Zcf q).2.1.2.take (Zcf q).2.1.1=q.2.1:=Zqw _ _
 have e2:(Zcf q).2.2.1.2.take (Zcf q).2.2.1.1=q.2.2.1:=Zqw _ _
 have e3:(Zcf q).2.2.2.2.1.2.take (Zcf q).2.2.2.2.1.1=q.2.2.2.2.1:=Zqw _ _
 rw [e1,e2,e3,X8,Vv]
 by_cases h3:q.2.2.2.1=3
 ·rw [if_neg (by rw [decide_eq_true h3];decide),if_pos h3];exact key _
 ·rw [if_pos (by rw [decide_eq_false h3];rfl),if_neg h3];exact key _
theorem Zub {N:Nat} {l:List Z6} (hl:l.length≤1048576) (hs:∀ q ∈ l,T5 q) (hg:∀ q ∈ l,Y0 q=true):∀ (f i:Nat) (m:List Z6),m.length=i→i≤l.length→l.length<f+i→Zcy N l f m (i:Int)=some (m++(l.drop i).map X8)
 | 0,i,m,h0,h1,h2=>by omega
 | f+1,i,m,h0,h1,h2=>by
  rw [Zcy.eq_2]
  by_cases hi:i<l.length
  ·have hq:=List.getElem_mem hi
   have hp:Zeu (l[i].1,l[i].2.1,l[i].2.2.1,l[i].2.2.2.1,l[i].2.2.2.2.1,(l[i].2.2.2.2.2.1,l[i].2.2.2.2.2.2))=some (X8 l[i]):=Z2t (hs _ hq) (hg _ hq)
   rw [if_pos (decide_eq_true (by omega)),Zga hi,Option.bind_some,hp,Option.bind_some,Xx (by simp only [List.length_cons,List.length_nil,maxLen];omega),Yb (by omega),show (i:Int)+1=((i+1:Nat):Int) by omega,List.drop_eq_getElem_cons hi,List.map_cons]
   have:=Zub (N:=N) hl hs hg f (i+1) (m++[X8 l[i]]) (by rw [List.length_append];simp;omega) (by omega) (by omega)
   rw [List.append_assoc] at this
   exact this
  ·rw [if_neg (nd (by omega)),List.drop_eq_nil_of_le (by omega),List.map_nil,List.append_nil]
theorem Z3l {N:Nat} (hN:1048578<N) {l:List Z6} (hl:l.length≤1048576) (hs:∀ q ∈ l,T5 q):Zh9 N l l=some true:=by
 have hL:∀ (f i:Nat),i≤l.length→l.length<f+i→Zdg N l l f (i:Int)=some true:=by
  intro f
  induction f with
  | zero=>intro i h4 h5;omega
  | succ f ih=>
   intro i h4 h5
   rw [Zdg.eq_2]
   by_cases hi:i<l.length
   ·have hs1:=Z3m (N:=N) (hs l[i] (List.getElem_mem hi)) hN
    rw [if_pos (decide_eq_true (by omega)),Zga hi,Option.bind_some,Option.bind_some]
    rw [hs1,Option.bind_some,if_neg (by decide),Yb (by omega),show (i:Int)+1=((i+1:Nat):Int) by omega]
    exact ih (i+1) (by omega) (by omega)
   ·rw [if_neg (nd (by omega))]
 rw [Zh9,if_neg (by rw [decide_eq_true rfl];decide)]
 exact hL N 0 (by omega) (by omega)
/-! ### what is read is written alike -/
theorem Zgk {q:Z6} (hf:Wi q=true) (h3:q.1=3):∃ p,q.2.1=[p]:=by
 rw [Wi,if_neg (by rw [h3];decide),if_neg (by rw [h3];decide),if_pos h3] at hf
 exact List.length_eq_one_iff.1 (of_decide_eq_true hf)
theorem Zua (q:Z6):Xt (X8 q)=Xt q:=by
 rw [Xt,Xt,X8,Vv]
 dsimp only
 by_cases h3:q.2.2.2.1=3
 ·rw [if_pos h3]
 ·rw [if_neg h3,if_neg h3,if_neg h3]
theorem Zt6 {q:Z6} (hf:Wi q=true):Up (X8 q)=Up q∧Vl (X8 q)=Vl q∧Wi (X8 q)=true:=by
 by_cases h3:q.1=3
 ·obtain ⟨p,hp⟩:=Zgk hf h3
  have e:(X8 q).2.1=[(p.1,eB)]:=by show V6 q=_;rw [V6,if_pos h3,hp];rfl
  have e1:(X8 q).1=3:=h3
  have e2:(X8 q).2.2.1=q.2.2.1:=rfl
  refine ⟨?_,?_,?_⟩
  ·rw [Up,Up,e1,h3,e,hp,e2];rfl
  ·rw [Vl,Vl,e1,h3,e,hp];rfl
  ·rw [Wi,e1,e];rfl
 ·have e:(X8 q).2.1=q.2.1:=by show V6 q=_;rw [V6,if_neg h3]
  have e1:(X8 q).1=q.1:=rfl
  have e2:(X8 q).2.2.1=q.2.2.1:=rfl
  refine ⟨by rw [Up,Up,e,e1,e2],by rw [Vl,Vl,e,e1],by rw [Wi,e,e1,e2];rw [Wi] at hf;exact hf⟩
theorem Z2r {q:Z6} (hg:Y0 q=true):Y0 (X8 q)=true:=by
 rw [Y0,Bool.and_eq_true,Bool.and_eq_true,Bool.and_eq_true] at hg ⊢
 obtain ⟨⟨hf,hh,ho⟩,hodd⟩:=hg
 refine ⟨⟨(Zt6 hf).2.2,hh,?_⟩,?_⟩
 ·rw [U5] at ho ⊢
  show (!decide (q.2.2.2.1=3)||(Vv q).all Y1)=true
  rw [Vv]
  by_cases h3:q.2.2.2.1=3
  ·rw [if_pos h3];exact ho
  ·rw [decide_eq_false h3];rfl
 ·by_cases h3:q.1=3
  ·obtain ⟨p,hp⟩:=Zgk hf h3
   have e:(X8 q).2.1=[(p.1,eB)]:=by show V6 q=_;rw [V6,if_pos h3,hp];rfl
   have e1:(X8 q).1=3:=h3
   have e2:(X8 q).2.2.1=q.2.2.1:=rfl
   rw [Tc,h3,hp] at hodd
   rw [Tc,e1,e,e2];exact hodd
  ·have e:(X8 q).2.1=q.2.1:=by show V6 q=_;rw [V6,if_neg h3]
   have e1:(X8 q).1=q.1:=rfl
   have e2:(X8 q).2.2.1=q.2.2.1:=rfl
   rw [Tc,e,e1,e2]
   rw [Tc] at hodd;exact hodd
theorem Zt7:∀ (l:List Z6) (u:ByteArray) (a b:Bool),(∀ q ∈ l,Y0 q=true)→Ua (l.map X8) u a b=Ua l u a b∧Wz (l.map X8) u a b=Wz l u a b
 | [],u,a,b,_=>⟨rfl,rfl⟩
 | q :: l,u,a,b,h=>by
  have hf:Wi q=true:=by
   have hg:=h q List.mem_cons_self
   rw [Y0,Bool.and_eq_true,Bool.and_eq_true] at hg;exact hg.1.1
  obtain ⟨i1,i2⟩:=Zt7 l (Xt q) q.2.2.2.2.2.1 q.2.2.2.2.2.2 fun x hx=>h x (List.mem_cons_of_mem _ hx)
  obtain ⟨b1,b2,_⟩:=Zt6 hf
  have e1:(X8 q).2.2.2.2.2=q.2.2.2.2.2:=rfl
  constructor
  ·rw [List.map_cons,Ua,Ua,Qa,Qa,Q4,Q4,Zua,e1,b1,i1]
  ·rw [List.map_cons,Wz,Wz,Su,Su,Zua,e1,b2,i2]
theorem Zmz {l:Ww} (h:l.all V5=true):Z4 l≤131 * l.length:=by
 induction l with
 | nil=>exact Nat.zero_le _
 | cons p l ih=>
  rw [List.all_cons,Bool.and_eq_true,V5,Bool.and_eq_true] at h
  have h1:=(Qy h.1.1).2.2.2
  have h2:=(Qy h.1.2).2.2.2
  rw [Xy] at h1 h2
  have:=ih h.2
  rw [Qb,List.length_cons];omega
theorem Z39 {l:List ByteArray} (h:l.all Y1=true):X6 l≤66 * l.length:=by
 induction l with
 | nil=>exact Nat.zero_le _
 | cons p l ih=>
  rw [List.all_cons,Bool.and_eq_true] at h
  have h1:=(Qy h.1).2.2.2
  rw [Xy] at h1
  have:=ih h.2
  rw [Zcd,List.length_cons];omega
theorem Z36 {q:Z6} (hg:Y0 q=true) (u:ByteArray) (a b:Bool):(Qa u a b q).size≤200 * T9 q:=by
 rw [Y0,Bool.and_eq_true,Bool.and_eq_true,Bool.and_eq_true] at hg
 obtain ⟨⟨hf,hh,ho⟩,hodd⟩:=hg
 have hodd:Tc q=false:=by simpa using hodd
 have p1:=Zmi Qh a q.2.2.2.2.2.1
 have p2:=Zmi Sy b q.2.2.2.2.2.2
 have p3:Qh.size=12:=rfl
 have p4:Sy.size=11:=rfl
 have hu:(Q4 u q).size≤66 * q.2.2.2.2.1.length+20:=by
  have key:(Xt q).size≤66 * q.2.2.2.2.1.length+18:=by
   have hz:=Zq2 q
   by_cases h3:q.2.2.2.1=3
   ·rw [U5,decide_eq_true h3,Bool.not_true,Bool.false_or] at ho
    have:=Z39 ho
    omega
   ·rw [Xt]
    split
    ·exact Nat.le_trans (by decide:_≤18) (Nat.le_add_left _ _)
    ·split
     ·exact Nat.le_trans (by decide:_≤18) (Nat.le_add_left _ _)
     ·exact Nat.zero_le _
  rw [Q4]
  split
  ·exact Nat.zero_le _
  ·rw [ByteArray.size_append,Sc];omega
 have hb:(Up q).size≤131 * (q.2.1.length+q.2.2.1.length)+90:=by
  rw [Tc] at hodd
  rw [Up]
  by_cases k1:q.1=1
  ·rw [if_pos k1] at hodd
   have ha:=Zmz (l:=q.2.1) (by simpa using hodd)
   have hz:=Zmd Zab q.2.1
   have z1:Zab.size=1:=rfl
   have z2:(⟨#[99,104,97,110,99,101]⟩:ByteArray).size=6:=rfl
   rw [if_pos k1,ByteArray.size_append,ByteArray.size_append,Sc,z2];omega
  ·by_cases k2:q.1=2
   ·rw [if_neg k1,if_pos k2,Bool.or_eq_false_iff] at hodd
    have ha:=Zmz (l:=q.2.1) (by simpa using hodd.1)
    have hg:=Zmz (l:=q.2.2.1) (by simpa using hodd.2)
    have hz:=Zmd Zab q.2.1
    have hz2:=Zmd T6 q.2.2.1
    have z1:Zab.size=1:=rfl
    have z3:T6.size=3:=rfl
    have z2:(⟨#[97,115,107]⟩:ByteArray).size=3:=rfl
    rw [if_neg k1,if_pos k2,ByteArray.size_append,ByteArray.size_append,ByteArray.size_append,Sc,z2];omega
   ·by_cases k3:q.1=3
    ·obtain ⟨p,hp⟩:=Zgk hf k3
     rw [if_neg k1,if_neg k2,if_pos k3,hp] at hodd
     simp only [List.any_cons,List.any_nil,Bool.or_false,Bool.or_eq_false_iff,Bool.not_eq_false'] at hodd
     have hn:=(Qy hodd.1).2.2.2
     rw [Xy] at hn
     have hg:=Zmz hodd.2
     have hz2:=Zmd T6 q.2.2.1
     have z3:T6.size=3:=rfl
     have z2:(⟨#[97,108,108,32]⟩:ByteArray).size=4:=rfl
     rw [if_neg k1,if_neg k2,if_pos k3,hp,Sx,Sx,Zdo,Ziz,ByteArray.size_append,ByteArray.size_append,ByteArray.size_append,Sc,z2];omega
    ·rw [if_neg k1,if_neg k2,if_neg k3];exact Nat.zero_le _
 rw [Qa,T9,ByteArray.size_append,ByteArray.size_append,ByteArray.size_append]
 omega
theorem Zu5:∀ (l:List Z6) (u:ByteArray) (a b:Bool),(∀ q ∈ l,Y0 q=true)→(Ua l u a b).size≤200 * Zbe l
 | [],u,a,b,_=>Nat.zero_le _
 | q :: l,u,a,b,h=>by
  have h1:=Z36 (h q List.mem_cons_self) u a b
  have h2:=Zu5 l (Xt q) q.2.2.2.2.2.1 q.2.2.2.2.2.2 fun x hx=>h x (List.mem_cons_of_mem _ hx)
  rw [Ua,ByteArray.size_append,Zjr];omega
abbrev u0:ByteArray:=⟨#[117,115,101,32,102,105,108,108]⟩
theorem Zw4 {N:Nat} (hN:1048590<N) {l:List Z6} (hg:∀ q ∈ l,Y0 q=true∧q.2.1.length≤1048579∧q.2.2.1.length≤1048579∧q.2.2.2.2.1.length≤1048579) (hn:Wz l u0 false false≤4096) (hz:(Ua l u0 false false).size≤1048576):
  Zc8 N (Ua l u0 false false)=some (l.map X8,none):=by
 obtain ⟨W,h1,h2⟩:=Z3p (l:=l) (fun q hq=>(hg q hq).1) u0 false false
 have h3:=Z2q hz hN h1
 rw [h2,Zu4 l u0 1 [] false false 0 1048580 (fun q hq=>⟨(hg q hq).1,by have:=(hg q hq).2.1;omega,by have:=(hg q hq).2.2.1;omega,by have:=(hg q hq).2.2.2;omega⟩) ⟨.inl rfl,fun _=>rfl,fun _=>rfl⟩ rfl (by omega) (by omega)] at h3
 exact h3
theorem Zjp {q:Z6}:q.2.1.length≤T9 q∧q.2.2.1.length≤T9 q∧q.2.2.2.2.1.length≤T9 q:=by rw [T9];omega
theorem Zt8 {q:Z6} (hf:Wi q=true):tq (X8 q)≤tq q:=by
 have h1:Z4 (V6 q)≤Z4 q.2.1:=by
  rw [V6]
  by_cases h3:q.1=3
  ·obtain ⟨p,hp⟩:=Zgk hf h3
   rw [if_pos h3,hp,Qb,Qb]
   show p.1.size+0+3+_≤_
   omega
  ·rw [if_neg h3];exact Nat.le_refl _
 have h2:X6 (Vv q)≤X6 q.2.2.2.2.1:=by
  rw [Vv]
  split
  ·exact Nat.le_refl _
  ·exact Nat.zero_le _
 show Z4 (V6 q)+Z4 q.2.2.1+X6 (Vv q)+130≤Z4 q.2.1+Z4 q.2.2.1+X6 q.2.2.2.2.1+130
 omega
theorem Zt9:∀ l:List Z6,(∀ q ∈ l,Y0 q=true)→Sv (l.map X8)≤Sv l
 | [],_=>Nat.le_refl _
 | q :: l,h=>by
  have hf:Wi q=true:=by
   have hg:=h q List.mem_cons_self
   rw [Y0,Bool.and_eq_true,Bool.and_eq_true] at hg;exact hg.1.1
  have:=Zt9 l fun x hx=>h x (List.mem_cons_of_mem _ hx)
  have:=Zt8 hf
  rw [List.map_cons,Zd3,Zd3];omega
theorem Zt5 {q:Z6} (hf:Wi q=true):(V6 q).length≤q.2.1.length:=by
 rw [V6]
 by_cases h3:q.1=3
 ·obtain ⟨p,hp⟩:=Zgk hf h3
  rw [if_pos h3,hp];exact Nat.le_refl _
 ·rw [if_neg h3];exact Nat.le_refl _
theorem Zsi {q:Z6} (hg:Y0 q=true):Wi q=true:=by
 rw [Y0,Bool.and_eq_true,Bool.and_eq_true] at hg;exact hg.1.1
theorem Z2s {q:Z6} (hf:Wi q=true) (h:T5 q):T5 (X8 q):=by
 refine ⟨by have:=Zt5 hf;exact Nat.le_trans this h.a,h.g,?_⟩
 show (Vv q).length≤_
 rw [Vv]
 split
 ·exact h.o
 ·exact Nat.zero_le _
theorem Z2w {N:Nat} {l:List Z6} (hal:Zg0 N=some true) (hl:l.length≤1048576) (hs:∀ q ∈ l,T5 q) (ht:Sv l≤33554432) (hN:1099511627776<N):Zgz N l=some true:=by
 obtain ⟨b,b1,b2⟩:=Z1k (N:=N) hl hs (by omega)
 rw [Zgz,hal,Option.bind_some,b1,Option.bind_some]
 cases b with
 | true=>rw [if_pos rfl]
 | false=>
  have hln:=b2 rfl
  have hll:=Zsz l
  have hqb:∀ q ∈ l,Qd 2000 q:=fun q hq=>⟨by have:=Zjs hq;have:=(Zjp (q:=q)).1;omega,by have:=Z4c hq;omega⟩
  have h1:=Zvt (N:=N) (A:=2000) hN (by omega) l hqb (by omega) (by omega)
  rw [if_neg (by decide),h1,Option.bind_some]
  by_cases hbad:(!(l.all Y0)||decide (4096<Wz l u0 false false))=true
  ·rw [hbad,Z3o,if_pos (by decide),if_pos rfl,if_pos (by decide),Zes];rfl
  ·have hbad:=Bool.eq_false_iff.2 hbad
   rw [hbad,Z3n,if_neg (by exact (by decide:¬ (!decide ((0:Int)=0))=true))]
   rw [Bool.or_eq_false_iff] at hbad
   have hall:l.all Y0=true:=by simpa using hbad.1
   have hg:∀ q ∈ l,Y0 q=true:=List.all_eq_true.1 hall
   have hn:Wz l u0 false false≤4096:=by have:=of_decide_eq_false hbad.2;omega
   have hz:=Zu5 l u0 false false hg
   have hp:=Zw4 (N:=N) (by omega) (l:=l) (fun q hq=>⟨hg q hq,by have:=Zjs hq;have:=(Zjp (q:=q)).1;omega,by have:=Zjs hq;have:=(Zjp (q:=q)).2.1;omega,by have:=Zjs hq;have:=(Zjp (q:=q)).2.2;omega⟩) hn (by omega)
   have hqb2:∀ q ∈ l.map X8,Qd 2000 q:=by
    intro q hq
    obtain ⟨x,hx,rfl⟩:=List.mem_map.1 hq
    have hf:=Zsi (hg x hx)
    have h2:=hqb x hx
    exact ⟨by have:=Zt5 hf;have:=h2.n;show (V6 x).length≤_;omega,by have:=Zt8 hf;have:=h2.t;omega⟩
   have hts:=Zt9 l hg
   have h2:=Zvt (N:=N) (A:=2000) hN (by omega) (l.map X8) hqb2 (by rw [List.length_map];omega) (by omega)
   obtain ⟨s1,s2⟩:=Zt7 l u0 false false hg
   have hall2:(l.map X8).all Y0=true:=by
    rw [List.all_map]
    exact List.all_eq_true.2 fun q hq=>Z2r (hg q hq)
   rw [hall2,s1,s2,decide_eq_false (by omega)] at h2
   have hpl:Zg2 N l=some (l.map X8):=by
    rw [Zg2]
    have:=Zub (N:=N) hl hs hg N 0 [] rfl (by omega) (by omega)
    rw [List.drop_zero] at this
    exact this
   have hsm:=Z3l (N:=N) (by omega) (l:=l.map X8) (by rw [List.length_map];exact hl) (fun q hq=>by
    obtain ⟨x,hx,rfl⟩:=List.mem_map.1 hq
    exact Z2s (Zsi (hg x hx)) (hs x hx))
   rw [hp,Option.bind_some]
   dsimp only
   rw [h2,Option.bind_some]
   show (if true=true then (if (!((none:Option Y5)).isSome)=true then (if (decide ((Zf3 (!true||false) (Ua l u0 false false)).2=0))=true then (if (decide ((Zf3 (!true||false) (Ua l u0 false false)).1=Ua l u0 false false))=true then _ else _) else _) else _) else _)=some true
   rw [if_pos rfl,if_pos (by rfl),if_pos (by rfl),if_pos (by exact decide_eq_true rfl),hpl,Option.bind_some,hsm,Option.bind_some];rfl
abbrev Zaa:W6→Nat:=Wa (U1 (Wh Vk Vk))
abbrev Ti:Xf→Nat:=U1 (Wh U0 (Wh Zaa (Wh Zaa (Wh U0 (Wh (Wa Vk) (U1 (Wh U0 U0)))))))
theorem Zgc:∀ l:W6,Z4 l+1≤Zaa l
 | []=>by simp [Z4,Zaa,Wa]
 | p :: l=>by
  have h:=Zgc l
  rw [Qb]
  simp only [Zaa,Wa,List.map_cons,List.sum_cons] at h ⊢
  have e:U1 (Wh Vk Vk) p=(p.1.size+1)+(p.2.size+1)+1:=rfl
  omega
theorem Znh:∀ l:List ByteArray,X6 l+1≤2 * Wa Vk l
 | []=>by simp [X6,Wa]
 | p :: l=>by
  have h:=Znh l
  rw [Zcd]
  simp only [Wa,List.map_cons,List.sum_cons] at h ⊢
  have e:Vk p=p.size+1:=rfl
  omega
theorem Zxd (q:Xf):tq q≤20 * Ti q:=by
 have h1:=Zgc q.2.1
 have h2:=Zgc q.2.2.1
 have h3:=Znh q.2.2.2.2.1
 have e:Ti q=(1+(Zaa q.2.1+(Zaa q.2.2.1+(1+(Wa Vk q.2.2.2.2.1+(1+1+1))))))+1:=rfl
 rw [tq,e];omega
theorem Zxe {q:Xf} (h:Ti q≤1048576):T5 q:=by
 have h1:=Zgc q.2.1
 have h2:=Zgc q.2.2.1
 have h3:=Znh q.2.2.2.2.1
 have l1:=Zqv q.2.1
 have l2:=Zqv q.2.2.1
 have l3:=Zir q.2.2.2.2.1
 have e:Ti q=(1+(Zaa q.2.1+(Zaa q.2.2.1+(1+(Wa Vk q.2.2.2.2.1+(1+1+1))))))+1:=rfl
 rw [e] at h
 exact ⟨by omega,by omega,by omega⟩
theorem Zrc:∀ l:List Xf,Sv l≤20 * Wa Ti l∧l.length+1≤Wa Ti l∧∀ q ∈ l,Ti q≤Wa Ti l
 | []=>⟨Nat.zero_le _,by simp [Wa],fun q h=>by cases h⟩
 | q :: l=>by
  obtain ⟨h1,h2,h3⟩:=Zrc l
  have h4:=Zxd q
  have h5:1≤Ti q:=by show 1≤_+1;omega
  rw [Zd3,List.length_cons]
  have e:Wa Ti (q :: l)=Ti q+Wa Ti l:=by simp only [Wa,List.map_cons,List.sum_cons];omega
  rw [e]
  refine ⟨by omega,by omega,fun x hx=>?_⟩
  rcases List.mem_cons.1 hx with rfl | hx
  ·omega
  ·have:=h3 x hx;omega
theorem Zwd:Zg0 4611686018427387904=some true:=by decide+kernel
theorem Zw5 (y0:List Xf) (hb:Wa Ti y0≤1048576):Zgz 4611686018427387904 y0=some true:=by
 obtain ⟨h1,h2,h3⟩:=Zrc y0
 exact Z2w Zwd (by omega) (fun q hq=>Zxe (by have:=h3 q hq;omega)) (by omega) (by omega)

end Go.Proofs.YtdpdogdkolblnaaGreatDoor
