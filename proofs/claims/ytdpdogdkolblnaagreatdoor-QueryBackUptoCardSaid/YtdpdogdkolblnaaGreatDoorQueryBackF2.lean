/-
  What functions of the program compute, as plain Lean functions (m_..), and proofs that they compute it (c_..). Printed by a program of the author; no conditions.
-/
import Derived.Test.YtdpdogdkolblnaaGreatDoorQueryBackBFloat
import Derived.Test.YtdpdogdkolblnaaGreatDoorProg
import Derived.Test.YtdpdogdkolblnaaGreatDoorQueryBackBArr
import Derived.Test.YtdpdogdkolblnaaGreatDoorQueryBackBBld
import Derived.Test.YtdpdogdkolblnaaGreatDoorQueryBackBBldQ
import Derived.Test.YtdpdogdkolblnaaGreatDoorQueryBackBBrief
import Derived.Test.YtdpdogdkolblnaaGreatDoorQueryBackBErr
import Derived.Test.YtdpdogdkolblnaaGreatDoorQueryBackBMixD
import Derived.Test.YtdpdogdkolblnaaGreatDoorQueryBackBThree
import Derived.Test.YtdpdogdkolblnaaGreatDoorQueryBackF1
set_option linter.unusedVariables false
set_option linter.unusedSectionVars false
set_option maxRecDepth 100000
set_option maxHeartbeats 2000000
namespace Go.Proofs.YtdpdogdkolblnaaGreatDoor
open Go Go.RowKit
open Go.IntKind (i8 i16 i32 i64 u8 u16 u32 u64)
open Go.Proofs.Tryz

def Zk0 (N:Nat):Nat→Int→(List ByteArray)→Bool→Bool→(List (Int×(List (ByteArray×ByteArray))×(List (ByteArray×ByteArray))×Int×List ByteArray×(Bool×Bool)))→Int→Option ((List (Int×(List (ByteArray×ByteArray))×(List (ByteArray×ByteArray))×Int×List ByteArray×(Bool×Bool)))×(Option (Int×Int×Int×ByteArray)))
  | 0,_,_,_,_,_,_=>none
  | n_28+1,set_31,set_32,set_36,set_37,l_38,commands_42=>none
def Tq (set_66:Int) (set_71:Bool) (set_72:Bool) (l_73:List (Int×(List (ByteArray×ByteArray))×(List (ByteArray×ByteArray))×Int×List ByteArray×(Bool×Bool))) (kk_L2:((List (Int×ByteArray×Int×Int))→(Option (Int×Int×Int×ByteArray))→Int→(Option (Int×Int×Int×ByteArray))→Int→(List ByteArray)→Bool→Bool→(List (Int×(List (ByteArray×ByteArray))×(List (ByteArray×ByteArray))×Int×List ByteArray×(Bool×Bool)))→Int→Option ((List (Int×(List (ByteArray×ByteArray))×(List (ByteArray×ByteArray))×Int×List ByteArray×(Bool×Bool)))×(Option (Int×Int×Int×ByteArray))))) (commands_104:Int) (r_114:List ByteArray) (v_129:List (Int×ByteArray×Int×Int)) (v_134:(Option (Int×Int×Int×ByteArray))) (v_136:Int) (v_138:(Option (Int×Int×Int×ByteArray))) (set_140:Int) (set_141:List ByteArray) (set_145:Bool) (set_146:Bool) (q_147:Int) (q_148:List (ByteArray×ByteArray)) (q_152:List (ByteArray×ByteArray)):Option ((List (Int×(List (ByteArray×ByteArray))×(List (ByteArray×ByteArray))×Int×List ByteArray×(Bool×Bool)))×(Option (Int×Int×Int×ByteArray))):=
  (Sa (v_129,v_134,v_136,v_138) (⟨#[59]⟩)).bind fun r_156=>if r_156.2.2.2.isSome=true then (r_156.2.2.2.bind fun f_169=>some (([]:List (Int×(List (ByteArray×ByteArray))×(List (ByteArray×ByteArray))×Int×List ByteArray×(Bool×Bool))),(some f_169))) else (Zp ((l_73.length+[(q_147,q_148,q_152,set_66,r_114,(set_71,set_72))].length) * 96≤140737488355328∧l_73.length+[(q_147,q_148,q_152,set_66,r_114,(set_71,set_72))].length≤maxLen) (kk_L2 r_156.1 r_156.2.1 r_156.2.2.1 r_156.2.2.2 set_140 set_141 set_145 set_146 (l_73++[(q_147,q_148,q_152,set_66,r_114,(set_71,set_72))]) commands_104))
def Zfc (set_66:Int) (set_71:Bool) (set_72:Bool) (l_73:List (Int×(List (ByteArray×ByteArray))×(List (ByteArray×ByteArray))×Int×List ByteArray×(Bool×Bool))) (kk_L2:((List (Int×ByteArray×Int×Int))→(Option (Int×Int×Int×ByteArray))→Int→(Option (Int×Int×Int×ByteArray))→Int→(List ByteArray)→Bool→Bool→(List (Int×(List (ByteArray×ByteArray))×(List (ByteArray×ByteArray))×Int×List ByteArray×(Bool×Bool)))→Int→Option ((List (Int×(List (ByteArray×ByteArray))×(List (ByteArray×ByteArray))×Int×List ByteArray×(Bool×Bool)))×(Option (Int×Int×Int×ByteArray))))) (commands_104:Int) (r_114:List ByteArray) (v_211:List (Int×ByteArray×Int×Int)) (v_216:(Option (Int×Int×Int×ByteArray))) (v_218:Int) (v_220:(Option (Int×Int×Int×ByteArray))) (set_222:Int) (set_223:List ByteArray):Option ((List (Int×(List (ByteArray×ByteArray))×(List (ByteArray×ByteArray))×Int×List ByteArray×(Bool×Bool)))×(Option (Int×Int×Int×ByteArray))):=
  (Sa (v_211,v_216,v_218,v_220) (⟨#[59]⟩)).bind fun r_227=>if (!r_227.2.2.2.isSome)=true then (kk_L2 r_227.1 r_227.2.1 r_227.2.2.1 r_227.2.2.2 set_222 set_223 set_71 set_72 l_73 commands_104) else (Tq set_66 set_71 set_72 l_73 kk_L2 commands_104 r_114 r_227.1 r_227.2.1 r_227.2.2.1 r_227.2.2.2 set_222 set_223 set_71 set_72 0 ([]:List (ByteArray×ByteArray)) ([]:List (ByteArray×ByteArray)))
def Zfb (N:Nat) (set_66:Int) (set_67:List ByteArray) (set_71:Bool) (set_72:Bool) (l_73:List (Int×(List (ByteArray×ByteArray))×(List (ByteArray×ByteArray))×Int×List ByteArray×(Bool×Bool))) (kk_L2:((List (Int×ByteArray×Int×Int))→(Option (Int×Int×Int×ByteArray))→Int→(Option (Int×Int×Int×ByteArray))→Int→(List ByteArray)→Bool→Bool→(List (Int×(List (ByteArray×ByteArray))×(List (ByteArray×ByteArray))×Int×List ByteArray×(Bool×Bool)))→Int→Option ((List (Int×(List (ByteArray×ByteArray))×(List (ByteArray×ByteArray))×Int×List ByteArray×(Bool×Bool)))×(Option (Int×Int×Int×ByteArray))))) (v_93:List (Int×ByteArray×Int×Int)) (v_98:(Option (Int×Int×Int×ByteArray))) (v_100:Int) (v_102:(Option (Int×Int×Int×ByteArray))) (commands_104:Int):Option ((List (Int×(List (ByteArray×ByteArray))×(List (ByteArray×ByteArray))×Int×List ByteArray×(Bool×Bool)))×(Option (Int×Int×Int×ByteArray))):=
  (Zic set_67).bind fun r_114=>(U4 (v_93,v_98,v_100,v_102) ([⟨#[117,115,101]⟩,⟨#[112,114,117,110,101]⟩,⟨#[99,104,97,110,99,101]⟩,⟨#[97,115,107]⟩,⟨#[97,108,108]⟩]:List ByteArray)).bind fun r_192=>if (decide (r_192.1=(⟨#[117,115,101]⟩)))=true then ((U4 (r_192.2.1,r_192.2.2.1,r_192.2.2.2.1,r_192.2.2.2.2) ([⟨#[102,105,108,108]⟩,⟨#[100,101,103,114,101,101]⟩,⟨#[111,114,100,101,114]⟩]:List ByteArray)).bind fun r_245=>if (decide (r_245.1=(⟨#[102,105,108,108]⟩)))=true then (Zfc set_66 set_71 set_72 l_73 kk_L2 commands_104 r_114 r_245.2.1 r_245.2.2.1 r_245.2.2.2.1 r_245.2.2.2.2 1 ([]:List ByteArray)) else (if (decide (r_245.1=(⟨#[100,101,103,114,101,101]⟩)))=true then (Zfc set_66 set_71 set_72 l_73 kk_L2 commands_104 r_114 r_245.2.1 r_245.2.2.1 r_245.2.2.2.1 r_245.2.2.2.2 2 ([]:List ByteArray)) else (if (decide (r_245.1=(⟨#[111,114,100,101,114]⟩)))=true then ((Zhx N (r_245.2.1,r_245.2.2.1,r_245.2.2.2.1,r_245.2.2.2.2)).bind fun r_266=>Zfc set_66 set_71 set_72 l_73 kk_L2 commands_104 r_114 r_266.2.1 r_266.2.2.1 r_266.2.2.2.1 r_266.2.2.2.2 3 r_266.1) else (Zfc set_66 set_71 set_72 l_73 kk_L2 commands_104 r_114 r_245.2.1 r_245.2.2.1 r_245.2.2.2.1 r_245.2.2.2.2 set_66 ([]:List ByteArray))))) else (if (decide (r_192.1=(⟨#[112,114,117,110,101]⟩)))=true then ((U4 (r_192.2.1,r_192.2.2.1,r_192.2.2.2.1,r_192.2.2.2.2) ([⟨#[98,97,114,114,101,110]⟩,⟨#[97,112,97,114,116]⟩]:List ByteArray)).bind fun r_295=>if (decide (r_295.1=(⟨#[97,112,97,114,116]⟩)))=true then ((U4 (r_295.2.1,r_295.2.2.1,r_295.2.2.2.1,r_295.2.2.2.2) ([⟨#[111,110]⟩,⟨#[111,102,102]⟩]:List ByteArray)).bind fun r_313=>(Sa (r_313.2.1,r_313.2.2.1,r_313.2.2.2.1,r_313.2.2.2.2) (⟨#[59]⟩)).bind fun r_330=>if (!r_330.2.2.2.isSome)=true then (kk_L2 r_330.1 r_330.2.1 r_330.2.2.1 r_330.2.2.2 set_66 set_67 set_71 (decide (r_313.1=(⟨#[111,110]⟩))) l_73 commands_104) else (Tq set_66 set_71 set_72 l_73 kk_L2 commands_104 r_114 r_330.1 r_330.2.1 r_330.2.2.1 r_330.2.2.2 set_66 set_67 set_71 (decide (r_313.1=(⟨#[111,110]⟩))) 0 ([]:List (ByteArray×ByteArray)) ([]:List (ByteArray×ByteArray)))) else ((U4 (r_295.2.1,r_295.2.2.1,r_295.2.2.2.1,r_295.2.2.2.2) ([⟨#[111,110]⟩,⟨#[111,102,102]⟩]:List ByteArray)).bind fun r_348=>(Sa (r_348.2.1,r_348.2.2.1,r_348.2.2.2.1,r_348.2.2.2.2) (⟨#[59]⟩)).bind fun r_365=>if (!r_365.2.2.2.isSome)=true then (kk_L2 r_365.1 r_365.2.1 r_365.2.2.1 r_365.2.2.2 set_66 set_67 (decide (r_348.1=(⟨#[111,110]⟩))) set_72 l_73 commands_104) else (Tq set_66 set_71 set_72 l_73 kk_L2 commands_104 r_114 r_365.1 r_365.2.1 r_365.2.2.1 r_365.2.2.2 set_66 set_67 (decide (r_348.1=(⟨#[111,110]⟩))) set_72 0 ([]:List (ByteArray×ByteArray)) ([]:List (ByteArray×ByteArray))))) else (if (decide (r_192.1=(⟨#[99,104,97,110,99,101]⟩)))=true then ((Qu (r_192.2.1,r_192.2.2.1,r_192.2.2.2.1,r_192.2.2.2.2)).bind fun r_382=>if (!decide (r_382.1.1=4))=true then ((Zbt N (r_382.2.1,r_382.2.2.1,r_382.2.2.2.1,r_382.2.2.2.2)).bind fun r_395=>Tq set_66 set_71 set_72 l_73 kk_L2 commands_104 r_114 r_395.2.1 r_395.2.2.1 r_395.2.2.2.1 r_395.2.2.2.2 set_66 set_67 set_71 set_72 1 r_395.1 ([]:List (ByteArray×ByteArray))) else (Tq set_66 set_71 set_72 l_73 kk_L2 commands_104 r_114 r_382.2.1 r_382.2.2.1 r_382.2.2.2.1 r_382.2.2.2.2 set_66 set_67 set_71 set_72 1 ([]:List (ByteArray×ByteArray)) ([]:List (ByteArray×ByteArray)))) else (if (decide (r_192.1=(⟨#[97,115,107]⟩)))=true then ((Zbt N (r_192.2.1,r_192.2.2.1,r_192.2.2.2.1,r_192.2.2.2.2)).bind fun r_419=>(Zfj N (r_419.2.1,r_419.2.2.1,r_419.2.2.2.1,r_419.2.2.2.2)).bind fun r_439=>Tq set_66 set_71 set_72 l_73 kk_L2 commands_104 r_114 r_439.2.1 r_439.2.2.1 r_439.2.2.2.1 r_439.2.2.2.2 set_66 set_67 set_71 set_72 2 r_419.1 r_439.1) else (if (decide (r_192.1=(⟨#[97,108,108]⟩)))=true then ((U4 (r_192.2.1,r_192.2.2.1,r_192.2.2.2.1,r_192.2.2.2.2) ([]:List ByteArray)).bind fun r_463=>(Zfj N (r_463.2.1,r_463.2.2.1,r_463.2.2.2.1,r_463.2.2.2.2)).bind fun r_485=>Tq set_66 set_71 set_72 l_73 kk_L2 commands_104 r_114 r_485.2.1 r_485.2.2.1 r_485.2.2.2.1 r_485.2.2.2.2 set_66 set_67 set_71 set_72 3 ([(r_463.1,⟨#[]⟩)]:List (ByteArray×ByteArray)) r_485.1) else (Tq set_66 set_71 set_72 l_73 kk_L2 commands_104 r_114 r_192.2.1 r_192.2.2.1 r_192.2.2.2.1 r_192.2.2.2.2 set_66 set_67 set_71 set_72 0 ([]:List (ByteArray×ByteArray)) ([]:List (ByteArray×ByteArray)))))))
def Sn (N:Nat):Nat→(List (Int×ByteArray×Int×Int))→(Option (Int×Int×Int×ByteArray))→Int→(Option (Int×Int×Int×ByteArray))→Int→(List ByteArray)→Bool→Bool→(List (Int×(List (ByteArray×ByteArray))×(List (ByteArray×ByteArray))×Int×List ByteArray×(Bool×Bool)))→Int→Option ((List (Int×(List (ByteArray×ByteArray))×(List (ByteArray×ByteArray))×Int×List ByteArray×(Bool×Bool)))×(Option (Int×Int×Int×ByteArray)))
  | 0,_,_,_,_,_,_,_,_,_,_=>none
  | n_52+1,v_55,v_60,v_62,v_64,set_66,set_67,set_71,set_72,l_73,commands_77=>(Qu (v_55,v_60,v_62,v_64)).bind fun r_78=>if (!decide (r_78.1.1=0))=true then (if (decide (4096<(i64.wrap (commands_77+1))))=true then ((Zc9 (r_78.2.1,r_78.2.2.1,r_78.2.2.2.1,r_78.2.2.2.2)).bind fun r_505=>Zfb N set_66 set_67 set_71 set_72 l_73 (Sn N n_52) r_505.1 r_505.2.1 r_505.2.2.1 r_505.2.2.2 (i64.wrap (commands_77+1))) else (Zfb N set_66 set_67 set_71 set_72 l_73 (Sn N n_52) r_78.2.1 r_78.2.2.1 r_78.2.2.2.1 r_78.2.2.2.2 (i64.wrap (commands_77+1)))) else (some (l_73,(none:(Option (Int×Int×Int×ByteArray)))))
termination_by structural x=>x
def Zc8 (N:Nat) (p0_text:ByteArray):Option ((List (Int×(List (ByteArray×ByteArray))×(List (ByteArray×ByteArray))×Int×List ByteArray×(Bool×Bool)))×(Option (Int×Int×Int×ByteArray))):=
  (Zk4 N p0_text).bind fun r_1=>Zl5 (r_1) (Zk0 N N 1 ([]:List ByteArray) false false ([]:List (Int×(List (ByteArray×ByteArray))×(List (ByteArray×ByteArray))×Int×List ByteArray×(Bool×Bool))) 0) (fun t_8=>Sn N N t_8.1 t_8.2.1 t_8.2.2.1 t_8.2.2.2 1 ([]:List ByteArray) false false ([]:List (Int×(List (ByteArray×ByteArray))×(List (ByteArray×ByteArray))×Int×List ByteArray×(Bool×Bool))) 0)
theorem Zrq {N:Nat} {col:Zc} {w0:World} {p0_text:ByteArray} {r:((List (Int×(List (ByteArray×ByteArray))×(List (ByteArray×ByteArray))×Int×List ByteArray×(Bool×Bool)))×(Option (Int×Int×Int×ByteArray)))} (c1:Nat) (hm:Zc8 N p0_text=some r) (hgl:Gl (.iface 141 (.agg #[.pointer (some ⟨4,24,none⟩)])) col w0):
    Calls prog 8 #[.string p0_text] w0 (fun e w'=>∃ (col':Zc) (ra1:Option Addr) (rc2:Nat) (rv4:Value),e= .returned (.tuple #[.slice ra1 r.1.length rc2,rv4])∧Ze col w0 col' w'∧Zb (Za.pair (Za.int .i8) (Za.pair (Za.row 56 (Za.pair Za.str Za.str)) (Za.pair (Za.row 56 (Za.pair Za.str Za.str)) (Za.pair (Za.int .i8) (Za.pair (Za.row 9 Za.str) (Za.pair Za.bool Za.bool)))))) 50 c1 col' w' ra1 rc2 r.1∧Rd (Za.err 72 29 (Za.pair (Za.int .i64) (Za.pair (Za.int .i64) (Za.pair (Za.int .i64) Za.str)))) col' w' [rv4] r.2):=by
 refine Zco 2 3 (m:=123) (args:=[.string p0_text]) func8 O O O O O ?_;rw [Zc8.eq_1] at hm;have hst:=St.start col w0;refine go ?_;refine lv (v:=.nilIface) O O (Y2 O)<|Zi<|Z4o<|go ?_;obtain ⟨r_1,hr_2,hm⟩:=bZ hm;replace hgl:=hgl.keep (Zk.start col w0);refine Zf (Zyv 1 2 hr_2 hgl) ?_;rintro _ w_5 ⟨col_7,rv_3,rfl,hg_6,rh_4⟩;refine ⟨_,O,?_⟩;replace hgl:=hgl.gr hg_6;replace hst:=hst.grow hg_6
 cases hx_9:r_1 with
 | none=>
  rw [hx_9] at hm rh_4;replace hm:=Zts hm;obtain rfl:=Z2j rh_4;refine go ?_;refine lV (.agg #[.int .i8 0,.slice none (([]:List (ByteArray×ByteArray)).length) 0,.slice none (([]:List (ByteArray×ByteArray)).length) 0,.int .i8 1,.slice none (([]:List ByteArray).length) 0,.bool false,.bool false]) (Y4 (l:=[_,_,_,_,_,_]) (qs:=[(0,1),(1,1),(2,1),(3,1),(4,1),(5,2)]) underlying50 zeroValue50 ⟨O,sizeOf46,O,sizeOf47,O,sizeOf47,O,sizeOf46,O,sizeOf40,O,sizeOf48,trivial⟩ O)<|Xs (col:=col_7) #[.int .i8 0,.slice none (([]:List (ByteArray×ByteArray)).length) 0,.slice none (([]:List (ByteArray×ByteArray)).length) 0,.int .i8 0,.slice none (([]:List ByteArray).length) 0,.bool false,.bool false] 3 zeroValue50 ?_;intro g_19 w_20 col_21 hg_22 hb_23;refine Xb hb_23 ?_;intro w_24 hk_25 hs_26 hb_27;refine go ?_;refine Zv7<|go ?_;replace hgl:=(hgl.gr hg_22).kp hk_25;replace hst:=(hst.grow hg_22).kp hk_25 hs_26;refine Z5 [4,5,1000000] (fun n f w_29=>∃ col_30 set_31 a_33 cap_34 set_32 set_36 set_37 a_39 cap_40 l_38 commands_42 n_28,n_28=n∧Zk0 N n_28 set_31 set_32 set_36 set_37 l_38 commands_42=some r∧St w0 (Zh col) col_30 w_29∧Zb Za.str 9 4 col_30 w_29 a_33 cap_34 set_32∧Zd 50 3 col_30 w_29 g_19 #[.int .i8 0,.slice none (([]:List (ByteArray×ByteArray)).length) 0,.slice none (([]:List (ByteArray×ByteArray)).length) 0,.int .i8 set_31,.slice a_33 set_32.length cap_34,.bool set_36,.bool set_37]∧Zb (Za.pair (Za.int .i8) (Za.pair (Za.row 56 (Za.pair Za.str Za.str)) (Za.pair (Za.row 56 (Za.pair Za.str Za.str)) (Za.pair (Za.int .i8) (Za.pair (Za.row 9 Za.str) (Za.pair Za.bool Za.bool)))))) 50 5 col_30 w_29 a_39 cap_40 l_38∧Gl (.iface 141 (.agg #[.pointer (some ⟨4,24,none⟩)])) col_30 w_29∧[6,7].map f=[.slice a_39 l_38.length cap_40,.int .i64 commands_42]) N ⟨_,1,none,0,_,_,_,none,0,_,0,_,O,hm,hst,Zb.nil,hb_27,Zb.nil,hgl,O⟩ ?_;clear hm;intro n f w_29 hI;obtain ⟨col_30,set_31,a_33,cap_34,set_32,set_36,set_37,a_39,cap_40,l_38,commands_42,n_28,hn,hm,hst,h_35,hb_27,h_41,hgl,hs⟩:=hI;subst hn;refine .lL [6,7] hs ?_
  cases n_28 with
  | zero=>rw [Zk0.eq_1] at hm;cases hm
  | succ n_28=>
   rw [Zk0.eq_2] at hm;refine go ?_;cases hm
 | some t_8=>
  rw [hx_9] at hm rh_4;replace hm:=Ztt hm;obtain ⟨g_10,a_12,cap_13,v_15,v_17,rfl,hB_11,hO_14,hE_16,hE_18⟩:=Z2k rh_4;refine go ?_;refine lV (.agg #[.int .i8 0,.slice none (([]:List (ByteArray×ByteArray)).length) 0,.slice none (([]:List (ByteArray×ByteArray)).length) 0,.int .i8 1,.slice none (([]:List ByteArray).length) 0,.bool false,.bool false]) (Y4 (l:=[_,_,_,_,_,_]) (qs:=[(0,1),(1,1),(2,1),(3,1),(4,1),(5,2)]) underlying50 zeroValue50 ⟨O,sizeOf46,O,sizeOf47,O,sizeOf47,O,sizeOf46,O,sizeOf40,O,sizeOf48,trivial⟩ O)<|Xs (col:=col_7) #[.int .i8 0,.slice none (([]:List (ByteArray×ByteArray)).length) 0,.slice none (([]:List (ByteArray×ByteArray)).length) 0,.int .i8 0,.slice none (([]:List ByteArray).length) 0,.bool false,.bool false] 6 zeroValue50 ?_;intro g_43 w_44 col_45 hg_46 hb_47;refine Xb hb_47 ?_;intro w_48 hk_49 hs_50 hb_51;refine go ?_;refine Zv7<|go ?_;replace hgl:=(hgl.gr hg_46).kp hk_49;replace hO_14:=(hO_14.gr hg_46).kp hk_49;replace hE_16:=(hE_16.gr hg_46).kp hk_49;replace hE_18:=(hE_18.gr hg_46).kp hk_49;replace hB_11:=(hB_11.gr hg_46).kp hk_49;replace hst:=(hst.grow hg_46).kp hk_49 hs_50;refine Z5 [4,5,1000000] (fun n f w_53=>∃ col_54 a_56 cap_57 v_55 v_59 v_60 v_62 v_63 v_64 set_66 a_68 cap_69 set_67 set_71 set_72 a_74 cap_75 l_73 commands_77 n_52,n_52=n∧Sn N n_52 v_55 v_60 v_62 v_64 set_66 set_67 set_71 set_72 l_73 commands_77=some r∧St w0 (Zh col) col_54 w_53∧Zb (Za.pair (Za.int .i8) (Za.pair Za.str (Za.pair (Za.int .i64) (Za.int .i64)))) 63 2 col_54 w_53 a_56 cap_57 v_55∧Rd (Za.fptr 29 (Za.pair (Za.int .i64) (Za.pair (Za.int .i64) (Za.pair (Za.int .i64) Za.str)))) col_54 w_53 [v_59] v_60∧Rd (Za.fptr 29 (Za.pair (Za.int .i64) (Za.pair (Za.int .i64) (Za.pair (Za.int .i64) Za.str)))) col_54 w_53 [v_63] v_64∧Zd 74 1 col_54 w_53 g_10 #[.slice a_56 v_55.length cap_57,v_59,.int .i64 v_62,v_63]∧Zb Za.str 9 7 col_54 w_53 a_68 cap_69 set_67∧Zd 50 6 col_54 w_53 g_43 #[.int .i8 0,.slice none (([]:List (ByteArray×ByteArray)).length) 0,.slice none (([]:List (ByteArray×ByteArray)).length) 0,.int .i8 set_66,.slice a_68 set_67.length cap_69,.bool set_71,.bool set_72]∧Zb (Za.pair (Za.int .i8) (Za.pair (Za.row 56 (Za.pair Za.str Za.str)) (Za.pair (Za.row 56 (Za.pair Za.str Za.str)) (Za.pair (Za.int .i8) (Za.pair (Za.row 9 Za.str) (Za.pair Za.bool Za.bool)))))) 50 8 col_54 w_53 a_74 cap_75 l_73∧Gl (.iface 141 (.agg #[.pointer (some ⟨4,24,none⟩)])) col_54 w_53∧[6,7].map f=[.slice a_74 l_73.length cap_75,.int .i64 commands_77]) N ⟨_,_,_,_,_,_,_,_,_,1,none,0,_,_,_,none,0,_,0,_,O,hm,hst,hO_14,hE_16,hE_18,hB_11,Zb.nil,hb_51,Zb.nil,hgl,O⟩ ?_;clear hm;intro n f w_53 hI
  obtain ⟨col_54,a_56,cap_57,v_55,v_59,v_60,v_62,v_63,v_64,set_66,a_68,cap_69,set_67,set_71,set_72,a_74,cap_75,l_73,commands_77,n_52,hn,hm,hst,h_58,h_61,h_65,hB_11,h_70,hb_51,h_76,hgl,hs⟩:=hI;subst hn;refine .lL [6,7] hs ?_
  cases n_52 with
  | zero=>rw [Sn.eq_1] at hm;cases hm
  | succ n_52=>
   rw [Sn.eq_2] at hm;refine go ?_;obtain ⟨r_78,hr_79,hm⟩:=bZ hm;refine Zf (Zgg 1 2 hr_79 O h_58 h_61 h_65 hB_11) ?_;rintro _ w_88 ⟨col_90,oa_80,oc_81,ov_83,ov_85,rfl,hg_89,oh_82,oh_84,oh_86,ohb_87⟩;refine ⟨_,O,?_⟩;refine lV (.int .i8 r_78.1.1) (Zug underlying63 O O (Tv isAgg46 O))<|go ?_;replace h_70:=h_70.kpp hg_89;replace h_76:=h_76.kpp hg_89;replace hgl:=hgl.kpp hg_89;replace hb_51:=hb_51.kpp hg_89;replace hst:=hst.kpp hg_89;refine Zl hm (fun hb hm=>?_) fun hb hm=>go ?_
   ·refine Zz<|Zch<|Zm ?_;refine Wp.cutK [4,5,6,1000000] (fun f w_91=>∃ col_92 a_94 cap_95 v_93 v_97 v_98 v_100 v_101 v_102 commands_104,Zfb N set_66 set_67 set_71 set_72 l_73 (Sn N n_52) v_93 v_98 v_100 v_102 commands_104=some r∧St w0 (Zh col) col_92 w_91∧Zb (Za.pair (Za.int .i8) (Za.pair Za.str (Za.pair (Za.int .i64) (Za.int .i64)))) 63 2 col_92 w_91 a_94 cap_95 v_93∧Rd (Za.fptr 29 (Za.pair (Za.int .i64) (Za.pair (Za.int .i64) (Za.pair (Za.int .i64) Za.str)))) col_92 w_91 [v_97] v_98∧Rd (Za.fptr 29 (Za.pair (Za.int .i64) (Za.pair (Za.int .i64) (Za.pair (Za.int .i64) Za.str)))) col_92 w_91 [v_101] v_102∧Zd 74 1 col_92 w_91 g_10 #[.slice a_94 v_93.length cap_95,v_97,.int .i64 v_100,v_101]∧Zb Za.str 9 7 col_92 w_91 a_68 cap_69 set_67∧Zd 50 6 col_92 w_91 g_43 #[.int .i8 0,.slice none (([]:List (ByteArray×ByteArray)).length) 0,.slice none (([]:List (ByteArray×ByteArray)).length) 0,.int .i8 set_66,.slice a_68 set_67.length cap_69,.bool set_71,.bool set_72]∧Zb (Za.pair (Za.int .i8) (Za.pair (Za.row 56 (Za.pair Za.str Za.str)) (Za.pair (Za.row 56 (Za.pair Za.str Za.str)) (Za.pair (Za.int .i8) (Za.pair (Za.row 9 Za.str) (Za.pair Za.bool Za.bool)))))) 50 8 col_92 w_91 a_74 cap_75 l_73∧Gl (.iface 141 (.agg #[.pointer (some ⟨4,24,none⟩)])) col_92 w_91∧[7].map f=[.int .i64 commands_104]) ?_ ?_
    ·intro f w_91 hJ;obtain ⟨col_92,a_94,cap_95,v_93,v_97,v_98,v_100,v_101,v_102,commands_104,hm,hst,h_96,h_99,h_103,ohb_87,h_70,hb_51,h_76,hgl,hs⟩:=hJ;rw [Zfb.eq_1] at hm;refine .lL [7] hs<|go ?_;refine lV _ (Yr isAgg50 sizeOf50 hb_51)<|Xs (col:=col_92) #[.int .i8 0,.slice none (([]:List (ByteArray×ByteArray)).length) 0,.slice none (([]:List (ByteArray×ByteArray)).length) 0,.int .i8 0,.slice none (([]:List ByteArray).length) 0,.bool false,.bool false] 9 zeroValue50 ?_;intro g_105 w_106 col_107 hg_108 hb_109;refine Xb hb_109 ?_;intro w_110 hk_111 hs_112 hb_113;refine go ?_;refine Zt ⟨_,_,O⟩ ?_;replace hb_51:=(hb_51.gr hg_108).kp hk_111;refine lW ((hb_51.atN).nth (q:=4) O) ?_;obtain ⟨r_114,hr_115,hm⟩:=bZ hm;replace h_70:=(h_70.gr hg_108).kp hk_111;refine Zf (Zzc 10 hr_115 (h_70.toSlF Zj.str)) ?_;rintro _ w_119 ⟨col_121,ra_116,rc_117,rfl,hg_120,rh_118⟩;refine ⟨_,O,?_⟩;replace rh_118:=rh_118.thaw Z0u hg_120 ((Fz.refl (col:=col_107)).froz 7) (by decide);replace hg_120:=hg_120.thawR (col:=col_107);generalize Xl w_110.heap.size col_107 col_121=col_122 at *;refine Zt ⟨_,_,O⟩ ?_;replace hb_113:=hb_113.gr hg_120;refine Xp (off:=4) (v:=(.slice ra_116 r_114.length rc_117)) hb_113 sizeOf40 O O (by intro u hu;simp only [Value.cells,List.mem_cons,List.not_mem_nil,or_false] at hu;subst hu;rfl) O O ?_;intro w_123 hk_124 hs_125 hb_126;replace hb_126:Zd 50 9 col_122 w_123 g_105 #[.int .i8 0,.slice none (([]:List (ByteArray×ByteArray)).length) 0,.slice none (([]:List (ByteArray×ByteArray)).length) 0,.int .i8 set_66,.slice ra_116 r_114.length rc_117,.bool set_71,.bool set_72]:=hb_126;refine Zi<|Zm ?_;replace h_96:=(((h_96.gr hg_108).kp hk_111).gr hg_120).kp hk_124;replace h_99:=(((h_99.gr hg_108).kp hk_111).gr hg_120).kp hk_124;replace h_103:=(((h_103.gr hg_108).kp hk_111).gr hg_120).kp hk_124;replace h_76:=(((h_76.gr hg_108).kp hk_111).gr hg_120).kp hk_124;replace hgl:=(((hgl.gr hg_108).kp hk_111).gr hg_120).kp hk_124;replace ohb_87:=(((ohb_87.gr hg_108).kp hk_111).gr hg_120).kp hk_124;replace hst:=(((hst.grow hg_108).kp hk_111 hs_112).grow hg_120).kp hk_124 hs_125;replace h_70:=(h_70.gr hg_120).kp hk_124;replace hb_51:=(hb_51.gr hg_120).kp hk_124;replace rh_118:=rh_118.kp hk_124
     refine Wp.cutK [4,5,6,7,8,1000000] (fun f w_127=>∃ col_128 a_130 cap_131 v_129 v_133 v_134 v_136 v_137 v_138 set_140 a_142 cap_143 set_141 set_145 set_146 q_147 a_149 cap_150 q_148 a_153 cap_154 q_152,Tq set_66 set_71 set_72 l_73 (Sn N n_52) commands_104 r_114 v_129 v_134 v_136 v_138 set_140 set_141 set_145 set_146 q_147 q_148 q_152=some r∧St w0 (Zh col) col_128 w_127∧Zb (Za.pair (Za.int .i8) (Za.pair Za.str (Za.pair (Za.int .i64) (Za.int .i64)))) 63 2 col_128 w_127 a_130 cap_131 v_129∧Rd (Za.fptr 29 (Za.pair (Za.int .i64) (Za.pair (Za.int .i64) (Za.pair (Za.int .i64) Za.str)))) col_128 w_127 [v_133] v_134∧Rd (Za.fptr 29 (Za.pair (Za.int .i64) (Za.pair (Za.int .i64) (Za.pair (Za.int .i64) Za.str)))) col_128 w_127 [v_137] v_138∧Zd 74 1 col_128 w_127 g_10 #[.slice a_130 v_129.length cap_131,v_133,.int .i64 v_136,v_137]∧Zb Za.str 9 7 col_128 w_127 a_142 cap_143 set_141∧Zd 50 6 col_128 w_127 g_43 #[.int .i8 0,.slice none (([]:List (ByteArray×ByteArray)).length) 0,.slice none (([]:List (ByteArray×ByteArray)).length) 0,.int .i8 set_140,.slice a_142 set_141.length cap_143,.bool set_145,.bool set_146]∧Zb (Za.pair (Za.int .i8) (Za.pair (Za.row 56 (Za.pair Za.str Za.str)) (Za.pair (Za.row 56 (Za.pair Za.str Za.str)) (Za.pair (Za.int .i8) (Za.pair (Za.row 9 Za.str) (Za.pair Za.bool Za.bool)))))) 50 8 col_128 w_127 a_74 cap_75 l_73∧Zb (Za.pair Za.str Za.str) 56 11 col_128 w_127 a_149 cap_150 q_148∧Zb (Za.pair Za.str Za.str) 56 12 col_128 w_127 a_153 cap_154 q_152∧Zb Za.str 9 10 col_128 w_127 ra_116 rc_117 r_114∧Zd 50 9 col_128 w_127 g_105 #[.int .i8 q_147,.slice a_149 q_148.length cap_150,.slice a_153 q_152.length cap_154,.int .i8 set_66,.slice ra_116 r_114.length rc_117,.bool set_71,.bool set_72]∧Gl (.iface 141 (.agg #[.pointer (some ⟨4,24,none⟩)])) col_128 w_127) ?_ ?_
     ·intro f w_127 hJ;obtain ⟨col_128,a_130,cap_131,v_129,v_133,v_134,v_136,v_137,v_138,set_140,a_142,cap_143,set_141,set_145,set_146,q_147,a_149,cap_150,q_148,a_153,cap_154,q_152,hm,hst,h_132,h_135,h_139,ohb_87,h_144,hb_51,h_76,h_151,h_155,rh_118,hb_126,hgl⟩:=hJ;rw [Tq.eq_1] at hm;refine go ?_;obtain ⟨r_156,hr_157,hm⟩:=bZ hm;refine Zf (Zck 1 2 hr_157 O h_132 h_135 h_139 ohb_87) ?_;rintro _ w_166 ⟨col_168,oa_158,oc_159,ov_161,ov_163,rfl,hg_167,oh_160,oh_162,oh_164,ohb_165⟩;refine ⟨_,O,go ?_⟩;refine lV (.pointer (some ⟨g_10,0,none⟩)) (Z7 O)<|Zy ohb_165<|lV (.bool r_156.2.2.2.isSome) (Z29 oh_164 underlying72 O)<|Zi ?_;replace h_144:=h_144.kpp hg_167;replace h_76:=h_76.kpp hg_167;replace h_151:=h_151.kpp hg_167;replace h_155:=h_155.kpp hg_167;replace rh_118:=rh_118.kpp hg_167;replace hgl:=hgl.kpp hg_167;replace hb_51:=hb_51.kpp hg_167;replace hb_126:=hb_126.kpp hg_167;replace hst:=hst.kpp hg_167;refine Zl hm (fun hb hm=>?_) fun hb hm=>go ?_
      ·refine Zm<|Vq (col:=col_168) (by kernel_rfl) (by kernel_rfl)<|go ?_;refine qv (v:=(.pointer (some ⟨g_10,0,none⟩))) O (fun _ hC=>Z7 O) ?_;refine qF ⟨_,_,O⟩ ?_;refine qW (fun _ hC=>((ohb_165.atN).nth (q:=3) O).gr (hC.bl col_168)) ?_;obtain ⟨f_169,hf_170,hm⟩:=bZ hm;rw [hf_170] at oh_164;have h_171:Rd (Za.err 72 29 (Za.pair (Za.int .i64) (Za.pair (Za.int .i64) (Za.pair (Za.int .i64) Za.str)))) col_168 w_166 [.iface 72 ov_163] (some f_169):=oh_164.up;refine qv (v:=(.iface 72 ov_163)) O (fun _ hC=>Zun underlying72 O) ?_;refine go ?_;refine qv (v:=(.iface 72 ov_163)) O (fun _ hC=>Y2 O) ?_;refine Wc ?_;intro w_172 hC;replace hC:=hC.bl col_168;refine W1 ?_;cases hm;replace h_171:=h_171.gr hC;replace hst:=hst.grow hC;exact ⟨O,_,none,0,_,O,hst.fin (cm []),Zb.nil,hst.finRd (g:=(fun n=>0)) O h_171⟩
      refine lV _ (Yr isAgg50 sizeOf50 hb_126) ?_;have hx_173:=Z2.join h_155.has (Z2.joinL (Vc .i8 set_66) (Z2.joinR rh_118.has (W4 (S6 set_71) (S6 set_72)))) (by decide) (by decide);replace oh_160:=oh_160.recol 10 12 (by decide);replace oh_162:=oh_162.recol 10 12 (by decide);replace oh_164:=oh_164.recol 10 12 (by decide);replace h_144:=h_144.recol 10 12 (by decide);replace hgl:=hgl.recol 10 12 (by decide);replace h_76:=h_76.recol 10 12 (by decide);replace h_151:=h_151.recol 10 12 (by decide);replace ohb_165:=ohb_165.recol 10 12 (by decide);replace hb_51:=hb_51.recol 10 12 (by decide);replace hst:=hst.recol 10 12 (by decide) (by decide);have hx_174:=Z2.join h_151.has hx_173 (by decide) (by decide);replace oh_160:=oh_160.recol 12 11 (by decide);replace oh_162:=oh_162.recol 12 11 (by decide);replace oh_164:=oh_164.recol 12 11 (by decide);replace h_144:=h_144.recol 12 11 (by decide);replace hgl:=hgl.recol 12 11 (by decide);replace h_76:=h_76.recol 12 11 (by decide);replace ohb_165:=ohb_165.recol 12 11 (by decide);replace hb_51:=hb_51.recol 12 11 (by decide);replace hst:=hst.recol 12 11 (by decide) (by decide);refine Tl (col:=(Xa 12 11 (Xa 10 12 col_168))) (r:=(Za.pair (Za.int .i8) (Za.pair (Za.row 56 (Za.pair Za.str Za.str)) (Za.pair (Za.row 56 (Za.pair Za.str Za.str)) (Za.pair (Za.int .i8) (Za.pair (Za.row 9 Za.str) (Za.pair Za.bool Za.bool))))))) (xs:=[(q_147,q_148,q_152,set_66,r_114,(set_71,set_72))]) [(.agg #[.int .i8 q_147,.slice a_149 q_148.length cap_150,.slice a_153 q_152.length cap_154,.int .i8 set_66,.slice ra_116 r_114.length rc_117,.bool set_71,.bool set_72])] 11 (Yp.cons1 (cs:=[.int .i8 q_147,.slice a_149 q_148.length cap_150,.slice a_153 q_152.length cap_154,.int .i8 set_66,.slice ra_116 r_114.length rc_117,.bool set_71,.bool set_72]) (Z2.joinL (Vc .i8 q_147) hx_174) Rows.nil0) ?_;intro a_175 w_176 col_177 hg_178 h_179;obtain ⟨hb_180,hm⟩:=Zr hm;replace h_76:=h_76.gr hg_178;refine Ui (c:=8) (c2:=11) h_76 (h_179.srcC (by decide)) hb_180 ?_;intro a_181 cap_182 w_183 col_184 hk_185 h_186;refine go ?_;replace oh_160:=(oh_160.gr hg_178).kpp hk_185;replace oh_162:=(oh_162.gr hg_178).kpp hk_185;replace oh_164:=(oh_164.gr hg_178).kpp hk_185;replace h_144:=(h_144.gr hg_178).kpp hk_185;replace hgl:=(hgl.gr hg_178).kpp hk_185;replace ohb_165:=(ohb_165.gr hg_178).kpp hk_185;replace hb_51:=(hb_51.gr hg_178).kpp hk_185;replace hst:=(hst.grow hg_178).kpp hk_185;exact ⟨n_52,by omega,O,⟨_,_,_,_,_,_,_,_,_,_,_,_,_,_,_,_,_,_,_,_,O,hm,hst,oh_160,oh_162,oh_164,ohb_165,h_144,hb_51,h_186,hgl,O⟩⟩
     refine go ?_;refine Sk (col:=col_122) ([⟨#[117,115,101]⟩,⟨#[112,114,117,110,101]⟩,⟨#[99,104,97,110,99,101]⟩,⟨#[97,115,107]⟩,⟨#[97,108,108]⟩]:List ByteArray) 13 ?_;intro a_187 w_188 col_189 hg_190 h_191;replace h_96:=h_96.gr hg_190;replace h_96:=h_96.froz 13 (by decide);replace h_99:=h_99.gr hg_190;replace h_99:=h_99.froz 13;replace h_103:=h_103.gr hg_190;replace h_103:=h_103.froz 13;replace h_70:=h_70.gr hg_190;replace h_70:=h_70.froz 13 (by decide);replace h_76:=h_76.gr hg_190;replace h_76:=h_76.froz 13 (by decide);replace hgl:=hgl.gr hg_190;replace hgl:=hgl.froz 13;replace rh_118:=rh_118.gr hg_190;replace rh_118:=rh_118.froz 13 (by decide);replace h_191:=(h_191).toSlF Zj.str;replace ohb_87:=ohb_87.gr hg_190;replace ohb_87:=ohb_87.froz 13 (by decide);replace hb_51:=hb_51.gr hg_190;replace hb_51:=hb_51.froz 13 (by decide);replace hb_126:=hb_126.gr hg_190;replace hb_126:=hb_126.froz 13 (by decide);replace hst:=hst.grow hg_190;replace hst:=hst.froz 13 (by decide) (by decide);obtain ⟨r_192,hr_193,hm⟩:=bZ hm;refine Zf (Qj 1 2 hr_193 O h_96 h_99 h_103 ohb_87 h_191) ?_;rintro _ w_202 ⟨col_204,oa_194,oc_195,ov_197,ov_199,rfl,hg_203,oh_196,oh_198,oh_200,ohb_201⟩;refine ⟨_,O,go ?_⟩;replace h_70:=h_70.kpp hg_203;replace h_76:=h_76.kpp hg_203;replace hgl:=hgl.kpp hg_203;replace rh_118:=rh_118.kpp hg_203;replace hb_51:=hb_51.kpp hg_203;replace hb_126:=hb_126.kpp hg_203;replace hst:=hst.kpp hg_203;refine Zl hm (fun hb hm=>go ?_) fun hb hm=>go ?_
     ·refine Zt ⟨_,_,O⟩ ?_;refine Xp (off:=4) (v:=(.slice none (([]:List ByteArray).length) 0)) hb_51 sizeOf40 O O (by intro u hu;simp only [Value.cells,List.mem_cons,List.not_mem_nil,or_false] at hu;subst hu;rfl) O O ?_;intro w_205 hk_206 hs_207 hb_208;replace hb_208:Zd 50 6 col_204 w_205 g_43 #[.int .i8 0,.slice none (([]:List (ByteArray×ByteArray)).length) 0,.slice none (([]:List (ByteArray×ByteArray)).length) 0,.int .i8 set_66,.slice none (([]:List ByteArray).length) 0,.bool set_71,.bool set_72]:=hb_208;refine Zi<|Zm ?_;replace oh_196:=oh_196.kp hk_206;replace oh_198:=oh_198.kp hk_206;replace oh_200:=oh_200.kp hk_206;replace h_76:=h_76.kp hk_206;replace hgl:=hgl.kp hk_206;replace rh_118:=rh_118.kp hk_206;replace ohb_201:=ohb_201.kp hk_206;replace hb_126:=hb_126.kp hk_206;replace hst:=hst.kp hk_206 hs_207;refine Wp.cutK [4,5,6,7,8,1000000] (fun f w_209=>∃ col_210 a_212 cap_213 v_211 v_215 v_216 v_218 v_219 v_220 set_222 a_224 cap_225 set_223,Zfc set_66 set_71 set_72 l_73 (Sn N n_52) commands_104 r_114 v_211 v_216 v_218 v_220 set_222 set_223=some r∧St w0 (Zh col) col_210 w_209∧Zb (Za.pair (Za.int .i8) (Za.pair Za.str (Za.pair (Za.int .i64) (Za.int .i64)))) 63 2 col_210 w_209 a_212 cap_213 v_211∧Rd (Za.fptr 29 (Za.pair (Za.int .i64) (Za.pair (Za.int .i64) (Za.pair (Za.int .i64) Za.str)))) col_210 w_209 [v_215] v_216∧Rd (Za.fptr 29 (Za.pair (Za.int .i64) (Za.pair (Za.int .i64) (Za.pair (Za.int .i64) Za.str)))) col_210 w_209 [v_219] v_220∧Zd 74 1 col_210 w_209 g_10 #[.slice a_212 v_211.length cap_213,v_215,.int .i64 v_218,v_219]∧Zb Za.str 9 14 col_210 w_209 a_224 cap_225 set_223∧Zd 50 6 col_210 w_209 g_43 #[.int .i8 0,.slice none (([]:List (ByteArray×ByteArray)).length) 0,.slice none (([]:List (ByteArray×ByteArray)).length) 0,.int .i8 set_222,.slice a_224 set_223.length cap_225,.bool set_71,.bool set_72]∧Zb (Za.pair (Za.int .i8) (Za.pair (Za.row 56 (Za.pair Za.str Za.str)) (Za.pair (Za.row 56 (Za.pair Za.str Za.str)) (Za.pair (Za.int .i8) (Za.pair (Za.row 9 Za.str) (Za.pair Za.bool Za.bool)))))) 50 8 col_210 w_209 a_74 cap_75 l_73∧Zb Za.str 9 10 col_210 w_209 ra_116 rc_117 r_114∧Zd 50 9 col_210 w_209 g_105 #[.int .i8 0,.slice none (([]:List (ByteArray×ByteArray)).length) 0,.slice none (([]:List (ByteArray×ByteArray)).length) 0,.int .i8 set_66,.slice ra_116 r_114.length rc_117,.bool set_71,.bool set_72]∧Gl (.iface 141 (.agg #[.pointer (some ⟨4,24,none⟩)])) col_210 w_209) ?_ ?_
      ·intro f w_209 hJ;obtain ⟨col_210,a_212,cap_213,v_211,v_215,v_216,v_218,v_219,v_220,set_222,a_224,cap_225,set_223,hm,hst,h_214,h_217,h_221,ohb_201,h_226,hb_208,h_76,rh_118,hb_126,hgl⟩:=hJ;rw [Zfc.eq_1] at hm;refine go ?_;obtain ⟨r_227,hr_228,hm⟩:=bZ hm;refine Zf (Zck 1 2 hr_228 O h_214 h_217 h_221 ohb_201) ?_;rintro _ w_237 ⟨col_239,oa_229,oc_230,ov_232,ov_234,rfl,hg_238,oh_231,oh_233,oh_235,ohb_236⟩;refine ⟨_,O,go ?_⟩;refine lV (.pointer (some ⟨g_10,0,none⟩)) (Z7 O)<|Zy ohb_236<|lV (.bool (!r_227.2.2.2.isSome)) (Zfz oh_235 underlying72 O)<|Zi ?_;replace h_226:=h_226.kpp hg_238;replace h_76:=h_76.kpp hg_238;replace rh_118:=rh_118.kpp hg_238;replace hgl:=hgl.kpp hg_238;replace hb_208:=hb_208.kpp hg_238;replace hb_126:=hb_126.kpp hg_238;replace hst:=hst.kpp hg_238;refine Zl hm (fun hb hm=>?_) fun hb hm=>?_
       ·refine Q5 (Zgm O (Zaf ?_));replace oh_231:=oh_231.recol 14 7 (by decide);replace oh_233:=oh_233.recol 14 7 (by decide);replace oh_235:=oh_235.recol 14 7 (by decide);replace h_226:=h_226.recolSelf 7 (by decide);replace h_76:=h_76.recol 14 7 (by decide);replace hgl:=hgl.recol 14 7 (by decide);replace ohb_236:=ohb_236.recol 14 7 (by decide);replace hb_208:=hb_208.recol 14 7 (by decide);replace hst:=hst.recol 14 7 (by decide) (by decide);exact ⟨n_52,by omega,O,⟨_,_,_,_,_,_,_,_,_,_,_,_,_,_,_,_,_,_,_,_,O,hm,hst,oh_231,oh_233,oh_235,ohb_236,h_226,hb_208,h_76,hgl,O⟩⟩
       refine Zz ?_;replace oh_231:=oh_231.recol 14 7 (by decide);replace oh_233:=oh_233.recol 14 7 (by decide);replace oh_235:=oh_235.recol 14 7 (by decide);replace h_226:=h_226.recolSelf 7 (by decide);replace h_76:=h_76.recol 14 7 (by decide);replace rh_118:=rh_118.recol 14 7 (by decide);replace hgl:=hgl.recol 14 7 (by decide);replace ohb_236:=ohb_236.recol 14 7 (by decide);replace hb_208:=hb_208.recol 14 7 (by decide);replace hb_126:=hb_126.recol 14 7 (by decide);replace hst:=hst.recol 14 7 (by decide) (by decide);exact ⟨O,_,_,_,_,_,_,_,_,_,_,_,_,_,_,_,0,none,0,_,none,0,_,hm,hst,oh_231,oh_233,oh_235,ohb_236,h_226,hb_208,h_76,Zb.nil,Zb.nil,rh_118,hb_126,hgl⟩
      refine go ?_;refine Sk (col:=col_204) ([⟨#[102,105,108,108]⟩,⟨#[100,101,103,114,101,101]⟩,⟨#[111,114,100,101,114]⟩]:List ByteArray) 15 ?_;intro a_240 w_241 col_242 hg_243 h_244;replace oh_196:=oh_196.gr hg_243;replace oh_196:=oh_196.froz 15 (by decide);replace oh_198:=oh_198.gr hg_243;replace oh_198:=oh_198.froz 15;replace oh_200:=oh_200.gr hg_243;replace oh_200:=oh_200.froz 15;replace h_76:=h_76.gr hg_243;replace h_76:=h_76.froz 15 (by decide);replace hgl:=hgl.gr hg_243;replace hgl:=hgl.froz 15;replace rh_118:=rh_118.gr hg_243;replace rh_118:=rh_118.froz 15 (by decide);replace h_244:=(h_244).toSlF Zj.str;replace ohb_201:=ohb_201.gr hg_243;replace ohb_201:=ohb_201.froz 15 (by decide);replace hb_208:=hb_208.gr hg_243;replace hb_208:=hb_208.froz 15 (by decide);replace hb_126:=hb_126.gr hg_243;replace hb_126:=hb_126.froz 15 (by decide);replace hst:=hst.grow hg_243;replace hst:=hst.froz 15 (by decide) (by decide);obtain ⟨r_245,hr_246,hm⟩:=bZ hm;refine Zf (Qj 1 2 hr_246 O oh_196 oh_198 oh_200 ohb_201 h_244) ?_;rintro _ w_255 ⟨col_257,oa_247,oc_248,ov_250,ov_252,rfl,hg_256,oh_249,oh_251,oh_253,ohb_254⟩;refine ⟨_,O,go ?_⟩;replace h_76:=h_76.kpp hg_256;replace hgl:=hgl.kpp hg_256;replace rh_118:=rh_118.kpp hg_256;replace hb_208:=hb_208.kpp hg_256;replace hb_126:=hb_126.kpp hg_256;replace hst:=hst.kpp hg_256;refine Zl hm (fun hb hm=>?_) fun hb hm=>go ?_
      ·refine Yc<|Zt ⟨_,_,O⟩ ?_;refine Xp (off:=3) (v:=(.int .i8 1)) hb_208 sizeOf46 O O (by intro u hu;simp only [Value.cells,List.mem_cons,List.not_mem_nil,or_false] at hu;subst hu;rfl) O O ?_;intro w_258 hk_259 hs_260 hb_261;replace hb_261:Zd 50 6 col_257 w_258 g_43 #[.int .i8 0,.slice none (([]:List (ByteArray×ByteArray)).length) 0,.slice none (([]:List (ByteArray×ByteArray)).length) 0,.int .i8 1,.slice none (([]:List ByteArray).length) 0,.bool set_71,.bool set_72]:=hb_261;refine Zi ?_;replace oh_249:=oh_249.kp hk_259;replace oh_251:=oh_251.kp hk_259;replace oh_253:=oh_253.kp hk_259;replace h_76:=h_76.kp hk_259;replace hgl:=hgl.kp hk_259;replace rh_118:=rh_118.kp hk_259;replace ohb_254:=ohb_254.kp hk_259;replace hb_126:=hb_126.kp hk_259;replace hst:=hst.kp hk_259 hs_260;exact ⟨O,_,_,_,_,_,_,_,_,_,1,none,0,_,hm,hst,oh_249,oh_251,oh_253,ohb_254,Zb.nil,hb_261,h_76,rh_118,hb_126,hgl⟩
      refine Zl hm (fun hb hm=>?_) fun hb hm=>go ?_
      ·refine Yc<|Zt ⟨_,_,O⟩ ?_;refine Xp (off:=3) (v:=(.int .i8 2)) hb_208 sizeOf46 O O (by intro u hu;simp only [Value.cells,List.mem_cons,List.not_mem_nil,or_false] at hu;subst hu;rfl) O O ?_;intro w_262 hk_263 hs_264 hb_265;replace hb_265:Zd 50 6 col_257 w_262 g_43 #[.int .i8 0,.slice none (([]:List (ByteArray×ByteArray)).length) 0,.slice none (([]:List (ByteArray×ByteArray)).length) 0,.int .i8 2,.slice none (([]:List ByteArray).length) 0,.bool set_71,.bool set_72]:=hb_265;refine Zi ?_;replace oh_249:=oh_249.kp hk_263;replace oh_251:=oh_251.kp hk_263;replace oh_253:=oh_253.kp hk_263;replace h_76:=h_76.kp hk_263;replace hgl:=hgl.kp hk_263;replace rh_118:=rh_118.kp hk_263;replace ohb_254:=ohb_254.kp hk_263;replace hb_126:=hb_126.kp hk_263;replace hst:=hst.kp hk_263 hs_264;exact ⟨O,_,_,_,_,_,_,_,_,_,2,none,0,_,hm,hst,oh_249,oh_251,oh_253,ohb_254,Zb.nil,hb_265,h_76,rh_118,hb_126,hgl⟩
      refine Zl hm (fun hb hm=>go ?_) fun hb hm=>?_
      ·obtain ⟨r_266,hr_267,hm⟩:=bZ hm;refine Zf (Zyu 16 1 2 hr_267 O oh_249 oh_251 oh_253 ohb_254) ?_;rintro _ w_279 ⟨col_281,ra_268,rc_269,oa_271,oc_272,ov_274,ov_276,rfl,hg_280,rh_270,oh_273,oh_275,oh_277,ohb_278⟩;refine ⟨_,O,?_⟩;refine Zt ⟨_,_,O⟩ ?_;replace hb_208:=hb_208.kpp hg_280;refine Xp (off:=3) (v:=(.int .i8 3)) hb_208 sizeOf46 O O (by intro u hu;simp only [Value.cells,List.mem_cons,List.not_mem_nil,or_false] at hu;subst hu;rfl) O O ?_;intro w_282 hk_283 hs_284 hb_285;replace hb_285:Zd 50 6 col_281 w_282 g_43 #[.int .i8 0,.slice none (([]:List (ByteArray×ByteArray)).length) 0,.slice none (([]:List (ByteArray×ByteArray)).length) 0,.int .i8 3,.slice none (([]:List ByteArray).length) 0,.bool set_71,.bool set_72]:=hb_285;refine Zt ⟨_,_,O⟩ ?_;refine Xp (off:=4) (v:=(.slice ra_268 r_266.1.length rc_269)) hb_285 sizeOf40 O O (by intro u hu;simp only [Value.cells,List.mem_cons,List.not_mem_nil,or_false] at hu;subst hu;rfl) O O ?_;intro w_286 hk_287 hs_288 hb_289;replace hb_289:Zd 50 6 col_281 w_286 g_43 #[.int .i8 0,.slice none (([]:List (ByteArray×ByteArray)).length) 0,.slice none (([]:List (ByteArray×ByteArray)).length) 0,.int .i8 3,.slice ra_268 r_266.1.length rc_269,.bool set_71,.bool set_72]:=hb_289;refine Zi ?_;replace oh_273:=(oh_273.kp hk_283).kp hk_287;replace oh_273:=oh_273.recol 16 14 (by decide);replace oh_275:=(oh_275.kp hk_283).kp hk_287;replace oh_275:=oh_275.recol 16 14 (by decide);replace oh_277:=(oh_277.kp hk_283).kp hk_287;replace oh_277:=oh_277.recol 16 14 (by decide);replace rh_270:=(rh_270.kp hk_283).kp hk_287;replace rh_270:=rh_270.recolSelf 14 (by decide);replace h_76:=((h_76.kpp hg_280).kp hk_283).kp hk_287;replace h_76:=h_76.recol 16 14 (by decide);replace hgl:=((hgl.kpp hg_280).kp hk_283).kp hk_287;replace hgl:=hgl.recol 16 14 (by decide);replace rh_118:=((rh_118.kpp hg_280).kp hk_283).kp hk_287;replace rh_118:=rh_118.recol 16 14 (by decide);replace ohb_278:=(ohb_278.kp hk_283).kp hk_287;replace ohb_278:=ohb_278.recol 16 14 (by decide);replace hb_289:=hb_289.recol 16 14 (by decide);replace hb_126:=((hb_126.kpp hg_280).kp hk_283).kp hk_287;replace hb_126:=hb_126.recol 16 14 (by decide);replace hst:=((hst.kpp hg_280).kp hk_283 hs_284).kp hk_287 hs_288;replace hst:=hst.recol 16 14 (by decide) (by decide);exact ⟨O,_,_,_,_,_,_,_,_,_,3,_,_,_,hm,hst,oh_273,oh_275,oh_277,ohb_278,rh_270,hb_289,h_76,rh_118,hb_126,hgl⟩
      refine Zz ?_;exact ⟨O,_,_,_,_,_,_,_,_,_,_,none,0,_,hm,hst,oh_249,oh_251,oh_253,ohb_254,Zb.nil,hb_208,h_76,rh_118,hb_126,hgl⟩
     refine Zl hm (fun hb hm=>go ?_) fun hb hm=>go ?_
     ·refine Sk (col:=col_204) ([⟨#[98,97,114,114,101,110]⟩,⟨#[97,112,97,114,116]⟩]:List ByteArray) 17 ?_;intro a_290 w_291 col_292 hg_293 h_294;replace oh_196:=oh_196.gr hg_293;replace oh_196:=oh_196.froz 17 (by decide);replace oh_198:=oh_198.gr hg_293;replace oh_198:=oh_198.froz 17;replace oh_200:=oh_200.gr hg_293;replace oh_200:=oh_200.froz 17;replace h_70:=h_70.gr hg_293;replace h_70:=h_70.froz 17 (by decide);replace h_76:=h_76.gr hg_293;replace h_76:=h_76.froz 17 (by decide);replace hgl:=hgl.gr hg_293;replace hgl:=hgl.froz 17;replace rh_118:=rh_118.gr hg_293;replace rh_118:=rh_118.froz 17 (by decide);replace h_294:=(h_294).toSlF Zj.str;replace ohb_201:=ohb_201.gr hg_293;replace ohb_201:=ohb_201.froz 17 (by decide);replace hb_51:=hb_51.gr hg_293;replace hb_51:=hb_51.froz 17 (by decide);replace hb_126:=hb_126.gr hg_293;replace hb_126:=hb_126.froz 17 (by decide);replace hst:=hst.grow hg_293;replace hst:=hst.froz 17 (by decide) (by decide);obtain ⟨r_295,hr_296,hm⟩:=bZ hm;refine Zf (Qj 1 2 hr_296 O oh_196 oh_198 oh_200 ohb_201 h_294) ?_;rintro _ w_305 ⟨col_307,oa_297,oc_298,ov_300,ov_302,rfl,hg_306,oh_299,oh_301,oh_303,ohb_304⟩;refine ⟨_,O,go ?_⟩;replace h_70:=h_70.kpp hg_306;replace h_76:=h_76.kpp hg_306;replace hgl:=hgl.kpp hg_306;replace rh_118:=rh_118.kpp hg_306;replace hb_51:=hb_51.kpp hg_306;replace hb_126:=hb_126.kpp hg_306;replace hst:=hst.kpp hg_306;refine Zl hm (fun hb hm=>go ?_) fun hb hm=>go ?_
      ·refine Sk (col:=col_307) ([⟨#[111,110]⟩,⟨#[111,102,102]⟩]:List ByteArray) 18 ?_;intro a_308 w_309 col_310 hg_311 h_312;replace oh_299:=oh_299.gr hg_311;replace oh_299:=oh_299.froz 18 (by decide);replace oh_301:=oh_301.gr hg_311;replace oh_301:=oh_301.froz 18;replace oh_303:=oh_303.gr hg_311;replace oh_303:=oh_303.froz 18;replace h_70:=h_70.gr hg_311;replace h_70:=h_70.froz 18 (by decide);replace h_76:=h_76.gr hg_311;replace h_76:=h_76.froz 18 (by decide);replace hgl:=hgl.gr hg_311;replace hgl:=hgl.froz 18;replace rh_118:=rh_118.gr hg_311;replace rh_118:=rh_118.froz 18 (by decide);replace h_312:=(h_312).toSlF Zj.str;replace ohb_304:=ohb_304.gr hg_311;replace ohb_304:=ohb_304.froz 18 (by decide);replace hb_51:=hb_51.gr hg_311;replace hb_51:=hb_51.froz 18 (by decide);replace hb_126:=hb_126.gr hg_311;replace hb_126:=hb_126.froz 18 (by decide);replace hst:=hst.grow hg_311;replace hst:=hst.froz 18 (by decide) (by decide);obtain ⟨r_313,hr_314,hm⟩:=bZ hm;refine Zf (Qj 1 2 hr_314 O oh_299 oh_301 oh_303 ohb_304 h_312) ?_;rintro _ w_323 ⟨col_325,oa_315,oc_316,ov_318,ov_320,rfl,hg_324,oh_317,oh_319,oh_321,ohb_322⟩;refine ⟨_,O,go ?_⟩;refine Zt ⟨_,_,O⟩ ?_;refine lV (.pointer (((some (⟨g_43,0,none⟩:Addr)).map (·.add 5)).map (·.add 1))) (Zb7 (sz:=1) (j:=1) underlying48 sizeOf4 O O (by decide) (by decide) (Tx ⟨_,_,O⟩)) ?_;replace hb_51:=hb_51.kpp hg_324;refine Xp (off:=6) (v:=(.bool (decide (r_313.1=(⟨#[111,110]⟩))))) hb_51 sizeOf4 O O (by intro u hu;simp only [Value.cells,List.mem_cons,List.not_mem_nil,or_false] at hu;subst hu;rfl) O O ?_;intro w_326 hk_327 hs_328 hb_329;replace hb_329:Zd 50 6 col_325 w_326 g_43 #[.int .i8 0,.slice none (([]:List (ByteArray×ByteArray)).length) 0,.slice none (([]:List (ByteArray×ByteArray)).length) 0,.int .i8 set_66,.slice a_68 set_67.length cap_69,.bool set_71,.bool (decide (r_313.1=(⟨#[111,110]⟩)))]:=hb_329;refine go ?_;obtain ⟨r_330,hr_331,hm⟩:=bZ hm;replace oh_317:=oh_317.kp hk_327;replace oh_319:=oh_319.kp hk_327;replace oh_321:=oh_321.kp hk_327;replace ohb_322:=ohb_322.kp hk_327;refine Zf (Zck 1 2 hr_331 O oh_317 oh_319 oh_321 ohb_322) ?_;rintro _ w_340 ⟨col_342,oa_332,oc_333,ov_335,ov_337,rfl,hg_341,oh_334,oh_336,oh_338,ohb_339⟩;refine ⟨_,O,go ?_⟩;refine lV (.pointer (some ⟨g_10,0,none⟩)) (Z7 O)<|Zy ohb_339<|lV (.bool (!r_330.2.2.2.isSome)) (Zfz oh_338 underlying72 O)<|Zi ?_;replace h_70:=((h_70.kpp hg_324).kp hk_327).kpp hg_341
       replace h_76:=((h_76.kpp hg_324).kp hk_327).kpp hg_341;replace hgl:=((hgl.kpp hg_324).kp hk_327).kpp hg_341;replace rh_118:=((rh_118.kpp hg_324).kp hk_327).kpp hg_341;replace hb_126:=((hb_126.kpp hg_324).kp hk_327).kpp hg_341;replace hst:=((hst.kpp hg_324).kp hk_327 hs_328).kpp hg_341;replace hb_329:=hb_329.kpp hg_341;refine Zl hm (fun hb hm=>?_) fun hb hm=>?_
       ·refine Q5 (Zgm O (Zaf ?_));exact ⟨n_52,by omega,O,⟨_,_,_,_,_,_,_,_,_,_,_,_,_,_,_,_,_,_,_,_,O,hm,hst,oh_334,oh_336,oh_338,ohb_339,h_70,hb_329,h_76,hgl,O⟩⟩
       refine Zz ?_;exact ⟨O,_,_,_,_,_,_,_,_,_,_,_,_,_,_,_,0,none,0,_,none,0,_,hm,hst,oh_334,oh_336,oh_338,ohb_339,h_70,hb_329,h_76,Zb.nil,Zb.nil,rh_118,hb_126,hgl⟩
      refine Sk (col:=col_307) ([⟨#[111,110]⟩,⟨#[111,102,102]⟩]:List ByteArray) 19 ?_;intro a_343 w_344 col_345 hg_346 h_347;replace oh_299:=oh_299.gr hg_346;replace oh_299:=oh_299.froz 19 (by decide);replace oh_301:=oh_301.gr hg_346;replace oh_301:=oh_301.froz 19;replace oh_303:=oh_303.gr hg_346;replace oh_303:=oh_303.froz 19;replace h_70:=h_70.gr hg_346;replace h_70:=h_70.froz 19 (by decide);replace h_76:=h_76.gr hg_346;replace h_76:=h_76.froz 19 (by decide);replace hgl:=hgl.gr hg_346;replace hgl:=hgl.froz 19;replace rh_118:=rh_118.gr hg_346;replace rh_118:=rh_118.froz 19 (by decide);replace h_347:=(h_347).toSlF Zj.str;replace ohb_304:=ohb_304.gr hg_346;replace ohb_304:=ohb_304.froz 19 (by decide);replace hb_51:=hb_51.gr hg_346;replace hb_51:=hb_51.froz 19 (by decide);replace hb_126:=hb_126.gr hg_346;replace hb_126:=hb_126.froz 19 (by decide);replace hst:=hst.grow hg_346;replace hst:=hst.froz 19 (by decide) (by decide);obtain ⟨r_348,hr_349,hm⟩:=bZ hm;refine Zf (Qj 1 2 hr_349 O oh_299 oh_301 oh_303 ohb_304 h_347) ?_;rintro _ w_358 ⟨col_360,oa_350,oc_351,ov_353,ov_355,rfl,hg_359,oh_352,oh_354,oh_356,ohb_357⟩;refine ⟨_,O,go ?_⟩;refine Zt ⟨_,_,O⟩ ?_;refine lV (.pointer (((some (⟨g_43,0,none⟩:Addr)).map (·.add 5)).map (·.add 0))) (Zb7 (sz:=1) (j:=0) underlying48 sizeOf4 O O (by decide) (by decide) (Tx ⟨_,_,O⟩)) ?_;replace hb_51:=hb_51.kpp hg_359;refine Xp (off:=5) (v:=(.bool (decide (r_348.1=(⟨#[111,110]⟩))))) hb_51 sizeOf4 O O (by intro u hu;simp only [Value.cells,List.mem_cons,List.not_mem_nil,or_false] at hu;subst hu;rfl) O O ?_;intro w_361 hk_362 hs_363 hb_364;replace hb_364:Zd 50 6 col_360 w_361 g_43 #[.int .i8 0,.slice none (([]:List (ByteArray×ByteArray)).length) 0,.slice none (([]:List (ByteArray×ByteArray)).length) 0,.int .i8 set_66,.slice a_68 set_67.length cap_69,.bool (decide (r_348.1=(⟨#[111,110]⟩))),.bool set_72]:=hb_364;refine go ?_;obtain ⟨r_365,hr_366,hm⟩:=bZ hm;replace oh_352:=oh_352.kp hk_362;replace oh_354:=oh_354.kp hk_362;replace oh_356:=oh_356.kp hk_362;replace ohb_357:=ohb_357.kp hk_362;refine Zf (Zck 1 2 hr_366 O oh_352 oh_354 oh_356 ohb_357) ?_;rintro _ w_375 ⟨col_377,oa_367,oc_368,ov_370,ov_372,rfl,hg_376,oh_369,oh_371,oh_373,ohb_374⟩;refine ⟨_,O,go ?_⟩;refine lV (.pointer (some ⟨g_10,0,none⟩)) (Z7 O)<|Zy ohb_374<|lV (.bool (!r_365.2.2.2.isSome)) (Zfz oh_373 underlying72 O)<|Zi ?_;replace h_70:=((h_70.kpp hg_359).kp hk_362).kpp hg_376
      replace h_76:=((h_76.kpp hg_359).kp hk_362).kpp hg_376;replace hgl:=((hgl.kpp hg_359).kp hk_362).kpp hg_376;replace rh_118:=((rh_118.kpp hg_359).kp hk_362).kpp hg_376;replace hb_126:=((hb_126.kpp hg_359).kp hk_362).kpp hg_376;replace hst:=((hst.kpp hg_359).kp hk_362 hs_363).kpp hg_376;replace hb_364:=hb_364.kpp hg_376;refine Zl hm (fun hb hm=>?_) fun hb hm=>?_
      ·refine Q5 (Zgm O (Zaf ?_));exact ⟨n_52,by omega,O,⟨_,_,_,_,_,_,_,_,_,_,_,_,_,_,_,_,_,_,_,_,O,hm,hst,oh_369,oh_371,oh_373,ohb_374,h_70,hb_364,h_76,hgl,O⟩⟩
      refine Zz ?_;exact ⟨O,_,_,_,_,_,_,_,_,_,_,_,_,_,_,_,0,none,0,_,none,0,_,hm,hst,oh_369,oh_371,oh_373,ohb_374,h_70,hb_364,h_76,Zb.nil,Zb.nil,rh_118,hb_126,hgl⟩
     refine Zl hm (fun hb hm=>go ?_) fun hb hm=>go ?_
     ·refine Zt ⟨_,_,O⟩ ?_;refine Xp (off:=0) (v:=(.int .i8 1)) hb_126 sizeOf46 O O (by intro u hu;simp only [Value.cells,List.mem_cons,List.not_mem_nil,or_false] at hu;subst hu;rfl) O O ?_;intro w_378 hk_379 hs_380 hb_381;replace hb_381:Zd 50 9 col_204 w_378 g_105 #[.int .i8 1,.slice none (([]:List (ByteArray×ByteArray)).length) 0,.slice none (([]:List (ByteArray×ByteArray)).length) 0,.int .i8 set_66,.slice ra_116 r_114.length rc_117,.bool set_71,.bool set_72]:=hb_381;refine go ?_;obtain ⟨r_382,hr_383,hm⟩:=bZ hm;replace oh_196:=oh_196.kp hk_379;replace oh_198:=oh_198.kp hk_379;replace oh_200:=oh_200.kp hk_379;replace ohb_201:=ohb_201.kp hk_379;refine Zf (Zgg 1 2 hr_383 O oh_196 oh_198 oh_200 ohb_201) ?_;rintro _ w_392 ⟨col_394,oa_384,oc_385,ov_387,ov_389,rfl,hg_393,oh_386,oh_388,oh_390,ohb_391⟩;refine ⟨_,O,?_⟩;refine lV (.int .i8 r_382.1.1) (Zug underlying63 O O (Tv isAgg46 O))<|go ?_;replace h_70:=(h_70.kp hk_379).kpp hg_393;replace h_76:=(h_76.kp hk_379).kpp hg_393;replace hgl:=(hgl.kp hk_379).kpp hg_393;replace rh_118:=(rh_118.kp hk_379).kpp hg_393;replace hb_51:=(hb_51.kp hk_379).kpp hg_393;replace hst:=(hst.kp hk_379 hs_380).kpp hg_393;replace hb_381:=hb_381.kpp hg_393;refine Zl hm (fun hb hm=>go ?_) fun hb hm=>?_
      ·obtain ⟨r_395,hr_396,hm⟩:=bZ hm;refine Zf (Zns 20 1 2 hr_396 O oh_386 oh_388 oh_390 ohb_391) ?_;rintro _ w_408 ⟨col_410,ra_397,rc_398,oa_400,oc_401,ov_403,ov_405,rfl,hg_409,rh_399,oh_402,oh_404,oh_406,ohb_407⟩;refine ⟨_,O,?_⟩;refine Zt ⟨_,_,O⟩ ?_;replace hb_381:=hb_381.kpp hg_409;refine Xp (off:=1) (v:=(.slice ra_397 r_395.1.length rc_398)) hb_381 sizeOf47 O O (by intro u hu;simp only [Value.cells,List.mem_cons,List.not_mem_nil,or_false] at hu;subst hu;rfl) O O ?_;intro w_411 hk_412 hs_413 hb_414;replace hb_414:Zd 50 9 col_410 w_411 g_105 #[.int .i8 1,.slice ra_397 r_395.1.length rc_398,.slice none (([]:List (ByteArray×ByteArray)).length) 0,.int .i8 set_66,.slice ra_116 r_114.length rc_117,.bool set_71,.bool set_72]:=hb_414;refine Zi ?_;replace oh_402:=oh_402.kp hk_412;replace oh_402:=oh_402.recol 20 11 (by decide);replace oh_404:=oh_404.kp hk_412;replace oh_404:=oh_404.recol 20 11 (by decide);replace oh_406:=oh_406.kp hk_412;replace oh_406:=oh_406.recol 20 11 (by decide);replace h_70:=(h_70.kpp hg_409).kp hk_412;replace h_70:=h_70.recol 20 11 (by decide);replace h_76:=(h_76.kpp hg_409).kp hk_412;replace h_76:=h_76.recol 20 11 (by decide);replace hgl:=(hgl.kpp hg_409).kp hk_412;replace hgl:=hgl.recol 20 11 (by decide);replace rh_399:=rh_399.kp hk_412;replace rh_399:=rh_399.recolSelf 11 (by decide);replace rh_118:=(rh_118.kpp hg_409).kp hk_412;replace rh_118:=rh_118.recol 20 11 (by decide);replace ohb_407:=ohb_407.kp hk_412;replace ohb_407:=ohb_407.recol 20 11 (by decide);replace hb_51:=(hb_51.kpp hg_409).kp hk_412;replace hb_51:=hb_51.recol 20 11 (by decide);replace hb_414:=hb_414.recol 20 11 (by decide);replace hst:=(hst.kpp hg_409).kp hk_412 hs_413;replace hst:=hst.recol 20 11 (by decide) (by decide);exact ⟨O,_,_,_,_,_,_,_,_,_,_,_,_,_,_,_,1,_,_,_,none,0,_,hm,hst,oh_402,oh_404,oh_406,ohb_407,h_70,hb_51,h_76,rh_399,Zb.nil,rh_118,hb_414,hgl⟩
      refine Zz ?_;exact ⟨O,_,_,_,_,_,_,_,_,_,_,_,_,_,_,_,1,none,0,_,none,0,_,hm,hst,oh_386,oh_388,oh_390,ohb_391,h_70,hb_51,h_76,Zb.nil,Zb.nil,rh_118,hb_381,hgl⟩
     refine Zl hm (fun hb hm=>go ?_) fun hb hm=>go ?_
     ·refine Zt ⟨_,_,O⟩ ?_;refine Xp (off:=0) (v:=(.int .i8 2)) hb_126 sizeOf46 O O (by intro u hu;simp only [Value.cells,List.mem_cons,List.not_mem_nil,or_false] at hu;subst hu;rfl) O O ?_;intro w_415 hk_416 hs_417 hb_418;replace hb_418:Zd 50 9 col_204 w_415 g_105 #[.int .i8 2,.slice none (([]:List (ByteArray×ByteArray)).length) 0,.slice none (([]:List (ByteArray×ByteArray)).length) 0,.int .i8 set_66,.slice ra_116 r_114.length rc_117,.bool set_71,.bool set_72]:=hb_418;refine go ?_;obtain ⟨r_419,hr_420,hm⟩:=bZ hm;replace oh_196:=oh_196.kp hk_416;replace oh_198:=oh_198.kp hk_416;replace oh_200:=oh_200.kp hk_416;replace ohb_201:=ohb_201.kp hk_416;refine Zf (Zns 21 1 2 hr_420 O oh_196 oh_198 oh_200 ohb_201) ?_;rintro _ w_432 ⟨col_434,ra_421,rc_422,oa_424,oc_425,ov_427,ov_429,rfl,hg_433,rh_423,oh_426,oh_428,oh_430,ohb_431⟩;refine ⟨_,O,?_⟩;refine Zt ⟨_,_,O⟩ ?_;replace hb_418:=hb_418.kpp hg_433;refine Xp (off:=1) (v:=(.slice ra_421 r_419.1.length rc_422)) hb_418 sizeOf47 O O (by intro u hu;simp only [Value.cells,List.mem_cons,List.not_mem_nil,or_false] at hu;subst hu;rfl) O O ?_;intro w_435 hk_436 hs_437 hb_438;replace hb_438:Zd 50 9 col_434 w_435 g_105 #[.int .i8 2,.slice ra_421 r_419.1.length rc_422,.slice none (([]:List (ByteArray×ByteArray)).length) 0,.int .i8 set_66,.slice ra_116 r_114.length rc_117,.bool set_71,.bool set_72]:=hb_438;refine go ?_;obtain ⟨r_439,hr_440,hm⟩:=bZ hm;replace oh_426:=oh_426.kp hk_436;replace oh_428:=oh_428.kp hk_436;replace oh_430:=oh_430.kp hk_436;replace ohb_431:=ohb_431.kp hk_436;refine Zf (Zrr 22 1 2 hr_440 O oh_426 oh_428 oh_430 ohb_431) ?_;rintro _ w_452 ⟨col_454,ra_441,rc_442,oa_444,oc_445,ov_447,ov_449,rfl,hg_453,rh_443,oh_446,oh_448,oh_450,ohb_451⟩;refine ⟨_,O,?_⟩;refine Zt ⟨_,_,O⟩ ?_;replace hb_438:=hb_438.kpp hg_453;refine Xp (off:=2) (v:=(.slice ra_441 r_439.1.length rc_442)) hb_438 sizeOf47 O O (by intro u hu;simp only [Value.cells,List.mem_cons,List.not_mem_nil,or_false] at hu;subst hu;rfl) O O ?_;intro w_455 hk_456 hs_457 hb_458;replace hb_458:Zd 50 9 col_454 w_455 g_105 #[.int .i8 2,.slice ra_421 r_419.1.length rc_422,.slice ra_441 r_439.1.length rc_442,.int .i8 set_66,.slice ra_116 r_114.length rc_117,.bool set_71,.bool set_72]:=hb_458;refine Zi ?_;replace oh_446:=oh_446.kp hk_456;replace oh_446:=oh_446.recol 21 11 (by decide);replace oh_448:=oh_448.kp hk_456;replace oh_448:=oh_448.recol 21 11 (by decide);replace oh_450:=oh_450.kp hk_456;replace oh_450:=oh_450.recol 21 11 (by decide)
      replace h_70:=((((h_70.kp hk_416).kpp hg_433).kp hk_436).kpp hg_453).kp hk_456;replace h_70:=h_70.recol 21 11 (by decide);replace h_76:=((((h_76.kp hk_416).kpp hg_433).kp hk_436).kpp hg_453).kp hk_456;replace h_76:=h_76.recol 21 11 (by decide);replace hgl:=((((hgl.kp hk_416).kpp hg_433).kp hk_436).kpp hg_453).kp hk_456;replace hgl:=hgl.recol 21 11 (by decide);replace rh_423:=((rh_423.kp hk_436).kpp hg_453).kp hk_456;replace rh_423:=rh_423.recolSelf 11 (by decide);replace rh_443:=rh_443.kp hk_456;replace rh_443:=rh_443.recol 21 11 (by decide);replace rh_118:=((((rh_118.kp hk_416).kpp hg_433).kp hk_436).kpp hg_453).kp hk_456;replace rh_118:=rh_118.recol 21 11 (by decide);replace ohb_451:=ohb_451.kp hk_456;replace ohb_451:=ohb_451.recol 21 11 (by decide);replace hb_51:=((((hb_51.kp hk_416).kpp hg_433).kp hk_436).kpp hg_453).kp hk_456;replace hb_51:=hb_51.recol 21 11 (by decide);replace hb_458:=hb_458.recol 21 11 (by decide);replace hst:=((((hst.kp hk_416 hs_417).kpp hg_433).kp hk_436 hs_437).kpp hg_453).kp hk_456 hs_457;replace hst:=hst.recol 21 11 (by decide) (by decide);replace oh_446:=oh_446.recol 22 12 (by decide);replace oh_448:=oh_448.recol 22 12 (by decide);replace oh_450:=oh_450.recol 22 12 (by decide);replace h_70:=h_70.recol 22 12 (by decide);replace h_76:=h_76.recol 22 12 (by decide);replace hgl:=hgl.recol 22 12 (by decide);replace rh_423:=rh_423.recol 22 12 (by decide);replace rh_443:=rh_443.recolSelf 12 (by decide);replace rh_118:=rh_118.recol 22 12 (by decide);replace ohb_451:=ohb_451.recol 22 12 (by decide);replace hb_51:=hb_51.recol 22 12 (by decide);replace hb_458:=hb_458.recol 22 12 (by decide);replace hst:=hst.recol 22 12 (by decide) (by decide);exact ⟨O,_,_,_,_,_,_,_,_,_,_,_,_,_,_,_,2,_,_,_,_,_,_,hm,hst,oh_446,oh_448,oh_450,ohb_451,h_70,hb_51,h_76,rh_423,rh_443,rh_118,hb_458,hgl⟩
     refine Zl hm (fun hb hm=>go ?_) fun hb hm=>?_
     ·refine Zt ⟨_,_,O⟩ ?_;refine Xp (off:=0) (v:=(.int .i8 3)) hb_126 sizeOf46 O O (by intro u hu;simp only [Value.cells,List.mem_cons,List.not_mem_nil,or_false] at hu;subst hu;rfl) O O ?_;intro w_459 hk_460 hs_461 hb_462;replace hb_462:Zd 50 9 col_204 w_459 g_105 #[.int .i8 3,.slice none (([]:List (ByteArray×ByteArray)).length) 0,.slice none (([]:List (ByteArray×ByteArray)).length) 0,.int .i8 set_66,.slice ra_116 r_114.length rc_117,.bool set_71,.bool set_72]:=hb_462;refine go ?_;obtain ⟨r_463,hr_464,hm⟩:=bZ hm;replace oh_196:=oh_196.kp hk_460;replace oh_198:=oh_198.kp hk_460;replace oh_200:=oh_200.kp hk_460;replace ohb_201:=ohb_201.kp hk_460;refine Zf (Qj 1 2 hr_464 O oh_196 oh_198 oh_200 ohb_201 Sl.nil) ?_;rintro _ w_473 ⟨col_475,oa_465,oc_466,ov_468,ov_470,rfl,hg_474,oh_467,oh_469,oh_471,ohb_472⟩;refine ⟨_,O,?_⟩;refine lV (.agg #[.string r_463.1,.string (⟨#[]⟩)]) (Y4 (l:=[_,_]) (qs:=[(0,1),(1,1)]) underlying56 zeroValue56 ⟨O,sizeOf9,O,sizeOf9,trivial⟩ O)<|Tl (col:=col_475) (r:=(Za.pair Za.str Za.str)) (xs:=([(r_463.1,⟨#[]⟩)]:List (ByteArray×ByteArray))) [(.agg #[.string r_463.1,.string (⟨#[]⟩)])] 23 (Yp.ofF (Rows.consF (r:=(Za.pair Za.str Za.str)) (x:=(r_463.1,⟨#[]⟩)) (cs:=[.string r_463.1,.string (⟨#[]⟩)]) (W4 (Vw r_463.1) (Vw (⟨#[]⟩))) Rows.nil0)) ?_;intro a_476 w_477 col_478 hg_479 h_480;refine Zt ⟨_,_,O⟩ ?_;replace hb_462:=(hb_462.kpp hg_474).gr hg_479;refine Xp (off:=1) (v:=(.slice a_476 (([(r_463.1,⟨#[]⟩)]:List (ByteArray×ByteArray)).length) 1)) hb_462 sizeOf47 O O (by intro u hu;simp only [Value.cells,List.mem_cons,List.not_mem_nil,or_false] at hu;subst hu;rfl) O O ?_;intro w_481 hk_482 hs_483 hb_484;replace hb_484:Zd 50 9 col_478 w_481 g_105 #[.int .i8 3,.slice a_476 (([(r_463.1,⟨#[]⟩)]:List (ByteArray×ByteArray)).length) 1,.slice none (([]:List (ByteArray×ByteArray)).length) 0,.int .i8 set_66,.slice ra_116 r_114.length rc_117,.bool set_71,.bool set_72]:=hb_484;refine go ?_;obtain ⟨r_485,hr_486,hm⟩:=bZ hm;replace oh_467:=(oh_467.gr hg_479).kp hk_482;replace oh_469:=(oh_469.gr hg_479).kp hk_482;replace oh_471:=(oh_471.gr hg_479).kp hk_482;replace ohb_472:=(ohb_472.gr hg_479).kp hk_482;refine Zf (Zrr 24 1 2 hr_486 O oh_467 oh_469 oh_471 ohb_472) ?_;rintro _ w_498 ⟨col_500,ra_487,rc_488,oa_490,oc_491,ov_493,ov_495,rfl,hg_499,rh_489,oh_492,oh_494,oh_496,ohb_497⟩;refine ⟨_,O,?_⟩;refine Zt ⟨_,_,O⟩ ?_;replace hb_484:=hb_484.kpp hg_499
      refine Xp (off:=2) (v:=(.slice ra_487 r_485.1.length rc_488)) hb_484 sizeOf47 O O (by intro u hu;simp only [Value.cells,List.mem_cons,List.not_mem_nil,or_false] at hu;subst hu;rfl) O O ?_;intro w_501 hk_502 hs_503 hb_504;replace hb_504:Zd 50 9 col_500 w_501 g_105 #[.int .i8 3,.slice a_476 (([(r_463.1,⟨#[]⟩)]:List (ByteArray×ByteArray)).length) 1,.slice ra_487 r_485.1.length rc_488,.int .i8 set_66,.slice ra_116 r_114.length rc_117,.bool set_71,.bool set_72]:=hb_504;refine Zi ?_;replace oh_492:=oh_492.kp hk_502;replace oh_492:=oh_492.recol 23 11 (by decide);replace oh_494:=oh_494.kp hk_502;replace oh_494:=oh_494.recol 23 11 (by decide);replace oh_496:=oh_496.kp hk_502;replace oh_496:=oh_496.recol 23 11 (by decide);replace h_70:=(((((h_70.kp hk_460).kpp hg_474).gr hg_479).kp hk_482).kpp hg_499).kp hk_502;replace h_70:=h_70.recol 23 11 (by decide);replace h_76:=(((((h_76.kp hk_460).kpp hg_474).gr hg_479).kp hk_482).kpp hg_499).kp hk_502;replace h_76:=h_76.recol 23 11 (by decide);replace hgl:=(((((hgl.kp hk_460).kpp hg_474).gr hg_479).kp hk_482).kpp hg_499).kp hk_502;replace hgl:=hgl.recol 23 11 (by decide);replace h_480:=((h_480.kp hk_482).kpp hg_499).kp hk_502;replace h_480:=h_480.recolSelf 11 (by decide);replace rh_489:=rh_489.kp hk_502;replace rh_489:=rh_489.recol 23 11 (by decide);replace rh_118:=(((((rh_118.kp hk_460).kpp hg_474).gr hg_479).kp hk_482).kpp hg_499).kp hk_502;replace rh_118:=rh_118.recol 23 11 (by decide);replace ohb_497:=ohb_497.kp hk_502;replace ohb_497:=ohb_497.recol 23 11 (by decide);replace hb_51:=(((((hb_51.kp hk_460).kpp hg_474).gr hg_479).kp hk_482).kpp hg_499).kp hk_502;replace hb_51:=hb_51.recol 23 11 (by decide);replace hb_504:=hb_504.recol 23 11 (by decide);replace hst:=(((((hst.kp hk_460 hs_461).kpp hg_474).grow hg_479).kp hk_482 hs_483).kpp hg_499).kp hk_502 hs_503;replace hst:=hst.recol 23 11 (by decide) (by decide);replace oh_492:=oh_492.recol 24 12 (by decide);replace oh_494:=oh_494.recol 24 12 (by decide);replace oh_496:=oh_496.recol 24 12 (by decide);replace h_70:=h_70.recol 24 12 (by decide);replace h_76:=h_76.recol 24 12 (by decide);replace hgl:=hgl.recol 24 12 (by decide);replace h_480:=h_480.recol 24 12 (by decide);replace rh_489:=rh_489.recolSelf 12 (by decide);replace rh_118:=rh_118.recol 24 12 (by decide);replace ohb_497:=ohb_497.recol 24 12 (by decide);replace hb_51:=hb_51.recol 24 12 (by decide);replace hb_504:=hb_504.recol 24 12 (by decide);replace hst:=hst.recol 24 12 (by decide) (by decide);exact ⟨O,_,_,_,_,_,_,_,_,_,_,_,_,_,_,_,3,_,1,_,_,_,_,hm,hst,oh_492,oh_494,oh_496,ohb_497,h_70,hb_51,h_76,h_480,rh_489,rh_118,hb_504,hgl⟩
     refine Zz ?_;exact ⟨O,_,_,_,_,_,_,_,_,_,_,_,_,_,_,_,0,none,0,_,none,0,_,hm,hst,oh_196,oh_198,oh_200,ohb_201,h_70,hb_51,h_76,Zb.nil,Zb.nil,rh_118,hb_126,hgl⟩
    refine go ?_;refine Zl hm (fun hb hm=>go ?_) fun hb hm=>?_
    ·obtain ⟨r_505,hr_506,hm⟩:=bZ hm;refine Zf (Znr 1 2 hr_506 O oh_82 oh_84 oh_86 ohb_87) ?_;rintro _ w_515 ⟨col_517,oa_507,oc_508,ov_510,ov_512,rfl,hg_516,oh_509,oh_511,oh_513,ohb_514⟩;refine ⟨_,O,?_⟩;refine Zi ?_;replace h_70:=h_70.kpp hg_516;replace h_76:=h_76.kpp hg_516;replace hgl:=hgl.kpp hg_516;replace hb_51:=hb_51.kpp hg_516;replace hst:=hst.kpp hg_516;exact ⟨O,_,_,_,_,_,_,_,_,_,_,hm,hst,oh_509,oh_511,oh_513,ohb_514,h_70,hb_51,h_76,hgl,O⟩
    refine Zz ?_;exact ⟨O,_,_,_,_,_,_,_,_,_,_,hm,hst,oh_82,oh_84,oh_86,ohb_87,h_70,hb_51,h_76,hgl,O⟩
   refine lv (v:=.nilIface) O O (Y2 O)<|go ?_;cases hm;exact ⟨O,_,_,_,_,O,hst.fin (cm [(8,c1)]),hst.fo h_76,Zim⟩
abbrev SP:=List Yy×Option Y5×Int×Option Y5
abbrev AS:=Except Y5 Nat
def Zoc (late:Option Y5):Y5:=(50,(Zn5 late).2.1,(Zn5 late).2.2.1,(Zn5 late).2.2.2)
structure Th (W:List Yy) (late:Option Y5):Prop where
 len:W.length≤1048577
 fin:late=none→∃ x,W.getLast?=some x∧x.1=0
def Wg (W:List Yy) (late:Option Y5) (s:SP):AS→Prop
 | .ok n=>s=(W,late,(n:Int),none)∧n<W.length
 | .error b=>b.1=50∧∃ n:Nat,n≤W.length∧(s=(W,late,(n:Int),some b)∨(s=(W,late,(n:Int),none)∧n=W.length∧late.isSome=true∧b=Zoc late))
variable {W:List Yy} {late:Option Y5}
def tk (W:List Yy) (n:Nat):Yy:=W[n]?.getD (0,⟨#[]⟩,0,0)
theorem Zqx {n:Nat} (h:n<W.length):W[n]?=some (tk W n):=by rw [tk,List.getElem?_eq_getElem h];rfl
def Zlx (W:List Yy) (late:Option Y5) (n:Nat):AS:=if n+1<W.length then .ok (n+1) else .error (Zoc late)
def Zef (W:List Yy):AS→AS
 | .ok n=>.error (50,(tk W n).2.2.1,(tk W n).2.2.2,(tk W n).2.1)
 | .error b=>.error b
def U3 (W:List Yy) (kd:Int) (tx:ByteArray):AS→Bool
 | .ok n=>decide ((tk W n).1=kd)&&(decide (tx=⟨#[]⟩)||decide ((tk W n).2.1=tx))
 | .error _=>false
def Zjf (W:List Yy) (late:Option Y5):AS→AS
 | .ok n=>Zlx W late n
 | .error b=>.error b
def tx0 (W:List Yy):AS→ByteArray
 | .ok n=>(tk W n).2.1
 | .error _=>⟨#[]⟩
def Zce (W:List Yy) (late:Option Y5) (kd:Int) (tx:ByteArray) (A:AS):AS:=if U3 W kd tx A=true then Zjf W late A else Zef W A
def Zm0 (W:List Yy) (kd:Int) (tx:ByteArray) (A:AS):ByteArray:=if U3 W kd tx A=true then tx0 W A else ⟨#[]⟩
theorem Z1l (hW:Th W late) {n:Nat} (h:n<W.length) (h2:¬ n+1<W.length) (hk:(tk W n).1≠0):late.isSome=true:=by
 cases hl:late with
 | some x=>rfl
 | none=>
  obtain ⟨x,hx,hx2⟩:=hW.fin hl
  rw [List.getLast?_eq_getElem?,show W.length - 1=n by omega,Zqx h] at hx
  rw [Option.some.inj hx] at hk
  exact absurd hx2 hk
theorem nxP (hW:Th W late) {n:Nat} (h:n<W.length) (hk:(tk W n).1≠0):Wg W late (W,late,((n+1:Nat):Int),none) (Zlx W late n):=by
 rw [Zlx]
 split
 ·rename_i h2;exact ⟨rfl,h2⟩
 ·rename_i h2;exact ⟨rfl,n+1,by omega,.inr ⟨rfl,by omega,Z1l hW h h2 hk,rfl⟩⟩
section
variable {s:SP} {A:AS} (hW:Th W late) (h:Wg W late s A)
include hW h
def Zgs (W:List Yy):AS→Yy
 | .ok n=>tk W n
 | .error _=>(-1,⟨#[]⟩,0,0)
def Seen (s:SP) (A:AS):Prop:=match A with | .ok _=>s.2.2.2=none | .error b=>s.2.2.2=some b
theorem Zgu:∃ s',Qu (s.1,s.2.1,s.2.2.1,s.2.2.2)=some (Zgs W A,s')∧Wg W late s' A∧Seen s' A:=by
 have hl:=hW.len
 cases A with
 | ok n=>
  obtain ⟨rfl,hn⟩:=h
  refine ⟨(W,late,(n:Int),none),?_,⟨rfl,hn⟩,rfl⟩
  rw [Qu,if_pos (by rfl),Zfk,if_pos (decide_eq_true (show (n:Int)<(W.length:Int) by omega))]
  show (Zq W (n:Int)).bind _=_
  rw [Zne,Zqx hn];rfl
 | error b=>
  obtain ⟨hb,n,hn,h | ⟨h,hn2,h2,h3⟩⟩:=h
  ·subst h
   exact ⟨(W,late,(n:Int),some b),rfl,⟨hb,n,hn,.inl rfl⟩,rfl⟩
  ·subst h
   obtain ⟨x,rfl⟩:=Option.isSome_iff_exists.1 h2
   refine ⟨(W,some x,(n:Int),some b),?_,⟨hb,n,hn,.inl rfl⟩,rfl⟩
   rw [Qu,if_pos (by rfl),Zfk,if_neg (nd (show ¬ (n:Int)<(W.length:Int) by omega)),Zk1,if_pos (by rfl),h3]
   rfl
theorem Zn4:∃ s',Zc9 (s.1,s.2.1,s.2.2.1,s.2.2.2)=some s'∧Wg W late s' (Zef W A)∧∃ b,Zef W A= .error b∧s'.2.2.2=some b:=by
 obtain ⟨s1,h1,h2,h3⟩:=Zgu hW h
 rw [Zc9]
 dsimp only
 rw [h1,Option.bind_some]
 dsimp only
 cases A with
 | ok n=>
  have h3':s1.2.2.2=none:=h3
  rw [if_pos (by rw [h3'];rfl)]
  obtain ⟨rfl,hn⟩:=h2
  exact ⟨_,rfl,⟨rfl,n,by omega,.inl rfl⟩,_,rfl,rfl⟩
 | error b=>
  have h3':s1.2.2.2=some b:=h3
  rw [if_neg (by rw [h3'];simp)]
  exact ⟨_,rfl,h2,_,rfl,h3'⟩
theorem Zu7 (tx:ByteArray) (ht:tx≠⟨#[]⟩):∃ s',Qw (s.1,s.2.1,s.2.2.1,s.2.2.2) tx=some (U3 W 4 tx A,s')∧Wg W late s' (if U3 W 4 tx A=true then Zce W late 4 tx A else A)∧(U3 W 4 tx A=true→s'.2.2.2=none):=by
 have hl:=hW.len
 obtain ⟨s1,h1,h2,h3⟩:=Zgu hW h
 rw [Qw]
 dsimp only
 rw [h1,Option.bind_some]
 dsimp only
 cases A with
 | error b=>exact ⟨s1,rfl,h2,fun e=>by cases e⟩
 | ok n=>
  obtain ⟨rfl,hn⟩:=h2
  show ∃ s',(if (!decide ((tk W n).1=4))=true then _ else Zbu _ (!decide ((tk W n).2.1=tx)))=_∧_
  by_cases c1:(tk W n).1=4
  ·rw [if_neg (by rw [decide_eq_true c1];decide)]
   by_cases c2:(tk W n).2.1=tx
   ·have hi:U3 W 4 tx (.ok n)=true:=by rw [U3,decide_eq_true c1,decide_eq_true c2,Bool.or_true];rfl
    rw [Zbu,if_neg (by rw [decide_eq_true c2];decide),hi,if_pos rfl,Zce,if_pos hi]
    dsimp only
    rw [Yb (by omega)]
    exact ⟨_,rfl,nxP hW hn (by rw [c1];decide),fun _=>rfl⟩
   ·have hi:U3 W 4 tx (.ok n)=false:=by rw [U3,decide_eq_false c2,decide_eq_false ht];simp
    rw [Zbu,if_pos (by rw [decide_eq_false c2];rfl),hi,if_neg (by decide)]
    exact ⟨_,rfl,⟨rfl,hn⟩,fun e=>by cases e⟩
  ·have hi:U3 W 4 tx (.ok n)=false:=by rw [U3,decide_eq_false c1];rfl
   rw [if_pos (by rw [decide_eq_false c1];rfl),Zbu,if_pos rfl,hi,if_neg (by decide)]
   exact ⟨_,rfl,⟨rfl,hn⟩,fun e=>by cases e⟩
theorem Z18 (tx:ByteArray) (ht:tx≠⟨#[]⟩):∃ s',Sa (s.1,s.2.1,s.2.2.1,s.2.2.2) tx=some s'∧Wg W late s' (Zce W late 4 tx A)∧(U3 W 4 tx A=true→s'.2.2.2=none)∧(U3 W 4 tx A=false→∃ b,Zef W A= .error b∧s'.2.2.2=some b):=by
 obtain ⟨s1,h1,h2,h2'⟩:=Zu7 hW h tx ht
 rw [Sa]
 dsimp only
 rw [h1,Option.bind_some]
 dsimp only
 by_cases hi:U3 W 4 tx A=true
 ·rw [if_pos hi] at h2
  rw [hi,if_neg (by decide)]
  exact ⟨_,rfl,h2,fun _=>h2' hi,fun e=>by cases e⟩
 ·rw [if_neg hi] at h2
  obtain ⟨s2,h3,h4,h5⟩:=Zn4 hW h2
  rw [Bool.eq_false_iff.2 hi,if_pos (by rfl),h3,Option.bind_some,Zce,if_neg hi]
  exact ⟨_,rfl,h4,fun e=>(by cases e),fun _=>h5⟩
end
variable {W:List Yy} {late:Option Y5}
def Sb (l:List ByteArray) (v:ByteArray):Bool:=l.any fun x=>decide (v=x)
theorem Z10 (x v:ByteArray) (l:List ByteArray):Sb (x :: l) v=(decide (v=x)||Sb l v):=rfl
theorem Z11 {l:List ByteArray} {v:ByteArray}:Sb l v=true↔v ∈ l:=by
 rw [Sb,List.any_eq_true]
 exact ⟨fun ⟨x,h,e⟩=>by rw [of_decide_eq_true e];exact h,fun h=>⟨v,h,decide_eq_true rfl⟩⟩
theorem Zr5 (v:ByteArray):∀ (l:List ByteArray) (k:Nat),∃ r,Zdl v l k=some r∧decide (0≤r)=Sb l v
 | [],k=>⟨-1,rfl,rfl⟩
 | x :: l,k=>by
  rw [Zdl.eq_2,Z10]
  by_cases h:v=x
  ·rw [if_pos (decide_eq_true h),decide_eq_true h]
   exact ⟨_,rfl,by rw [decide_eq_true (by omega)];rfl⟩
  ·rw [if_neg (nd h),decide_eq_false h]
   exact Zr5 v l (k+1)
theorem Zzy (l:List ByteArray) (v:ByteArray):Zdk l v=some (Sb l v):=by
 obtain ⟨r,h1,h2⟩:=Zr5 v l 0
 rw [Zdk,Zln,h1,Option.bind_some,h2]
def S2 (W:List Yy) (ws:List ByteArray):AS→Bool
 | .ok n=>decide ((tk W n).1=1)&&(decide (ws=[])||Sb ws (tk W n).2.1)
 | .error _=>false
def Zaw (W:List Yy) (late:Option Y5) (ws:List ByteArray) (A:AS):AS:=if S2 W ws A=true then Zjf W late A else Zef W A
def Zax (W:List Yy) (ws:List ByteArray) (A:AS):ByteArray:=if S2 W ws A=true then tx0 W A else ⟨#[]⟩
theorem Ztq (A:AS):S2 W [] A=U3 W 1 ⟨#[]⟩ A:=by
 cases A with
 | ok n=>rfl
 | error b=>rfl
theorem Z2f (A:AS):Zaw W late [] A=Zce W late 1 ⟨#[]⟩ A:=by rw [Zaw,Zce,Ztq]
theorem Z2h (A:AS):Zax W [] A=Zm0 W 1 ⟨#[]⟩ A:=by rw [Zax,Zm0,Ztq]
theorem Ztd (hW:Th W late) {s:SP} {A:AS} (h:Wg W late s A) (ws:List ByteArray):∃ s',U4 (s.1,s.2.1,s.2.2.1,s.2.2.2) ws=some (Zax W ws A,s')∧Wg W late s' (Zaw W late ws A):=by
 have hl:=hW.len
 obtain ⟨s1,h1,h2,h3⟩:=Zgu hW h
 have hbad:S2 W ws A=false→∃ s',Qv (Zgs W A,s1) true=some (Zax W ws A,s')∧Wg W late s' (Zaw W late ws A):=by
  intro ho
  obtain ⟨s2,h4,h5,_⟩:=Zn4 hW h2
  rw [Qv,if_pos rfl]
  dsimp only
  rw [h4,Option.bind_some,Zax,Zaw,ho,if_neg (by decide),if_neg (by decide)]
  exact ⟨_,rfl,h5⟩
 have hgood:S2 W ws A=true→∃ s',Qv (Zgs W A,s1) false=some (Zax W ws A,s')∧Wg W late s' (Zaw W late ws A):=by
  intro ho
  cases A with
  | error b=>cases ho
  | ok n=>
   obtain ⟨rfl,hn⟩:=h2
   have hk:(tk W n).1=1:=by
    rw [S2,Bool.and_eq_true] at ho
    exact of_decide_eq_true ho.1
   rw [Qv,if_neg (by decide),Zk3]
   dsimp only
   rw [Zax,Zaw,ho,if_pos rfl,if_pos rfl,Yb (by omega)]
   exact ⟨_,rfl,nxP hW hn (by rw [hk];decide)⟩
 rw [U4]
 dsimp only
 rw [h1,Option.bind_some]
 dsimp only
 cases A with
 | error b=>
  rw [if_pos (by show (!decide ((-1:Int)=1))=true;decide)]
  exact hbad rfl
 | ok n=>
  by_cases c1:(tk W n).1=1
  ·rw [if_neg (by show ¬ (!decide ((tk W n).1=1))=true;rw [decide_eq_true c1];decide)]
   by_cases c2:ws=[]
   ·rw [if_neg (by rw [c2];decide)]
    exact hgood (by rw [S2,decide_eq_true c1,decide_eq_true c2];rfl)
   ·have:0<ws.length:=List.length_pos_iff.2 c2
    rw [if_pos (decide_eq_true (by omega)),Zzy,Option.bind_some]
    show ∃ s',Qv (Zgs W (.ok n),s1) (!Sb ws (tk W n).2.1)=_∧_
    cases c3:Sb ws (tk W n).2.1 with
    | true=>exact hgood (by rw [S2,decide_eq_true c1,c3,Bool.or_true];rfl)
    | false=>exact hbad (by rw [S2,decide_eq_true c1,decide_eq_false c2,c3];rfl)
  ·rw [if_pos (by show (!decide ((tk W n).1=1))=true;rw [decide_eq_false c1];rfl)]
   exact hbad (by rw [S2,decide_eq_false c1];rfl)
/-! ### the document's -/
abbrev Tk:=Int×ByteArray
def Ty (W:List Yy):List Tk:=W.map fun x=>(x.1,x.2.1)
def Yq (k:Int) (tx:ByteArray):List Tk→Bool
 | x :: _=>decide (x.1=k)&&(decide (tx=⟨#[]⟩)||decide (x.2=tx))
 | []=>false
def Ql:List Tk→Int
 | x :: _=>x.1
 | []=> -1
def fst:List Tk→ByteArray
 | x :: _=>x.2
 | []=>⟨#[]⟩
def Zw (k:Int) (tx:ByteArray) (w:List Tk):List Tk:=if Yq k tx w=true then w.tail else []
def Uw (k:Int) (tx:ByteArray) (w:List Tk):ByteArray:=if Yq k tx w=true then fst w else ⟨#[]⟩
def Zfv (ws:List ByteArray):List Tk→Bool
 | x :: _=>decide (x.1=1)&&(decide (ws=[])||Sb ws x.2)
 | []=>false
def Z1 (ws:List ByteArray) (w:List Tk):List Tk:=if Zfv ws w=true then w.tail else []
def Y3 (ws:List ByteArray) (w:List Tk):ByteArray:=if Zfv ws w=true then fst w else ⟨#[]⟩
variable {W:List Yy} {late:Option Y5}
def W2 (W:List Yy):AS→List Tk→Prop
 | .ok n,w=>w=(Ty W).drop n∧n<W.length
 | .error _,w=>w=[]
theorem Zqy:(Ty W).length=W.length:=by rw [Ty,List.length_map]
theorem Zis {n:Nat} (h:n<W.length):(Ty W).drop n=((tk W n).1,(tk W n).2.1) :: (Ty W).drop (n+1):=by
 rw [List.drop_eq_getElem_cons (by rw [Zqy];exact h)]
 have:=Zqx h
 rw [List.getElem?_eq_getElem h] at this
 have e:W[n]=tk W n:=Option.some.inj this
 simp only [Ty,List.getElem_map,e]
section
variable {A:AS} {w:List Tk} (h:W2 W A w)
include h
theorem Zm1 (k:Int) (tx:ByteArray):U3 W k tx A=Yq k tx w:=by
 cases A with
 | ok n=>obtain ⟨rfl,hn⟩:=h;rw [Zis hn];rfl
 | error b=>rw [show w=[] from h];rfl
theorem Zv0:(Zgs W A).1=Ql w:=by
 cases A with
 | ok n=>obtain ⟨rfl,hn⟩:=h;rw [Zis hn];rfl
 | error b=>rw [show w=[] from h];rfl
theorem Zv2:tx0 W A=fst w:=by
 cases A with
 | ok n=>obtain ⟨rfl,hn⟩:=h;rw [Zis hn];rfl
 | error b=>rw [show w=[] from h];rfl
theorem w_tx (k:Int) (tx:ByteArray):Zm0 W k tx A=Uw k tx w:=by rw [Zm0,Uw,Zm1 h,Zv2 h]
theorem Zvz:W2 W (Zjf W late A) w.tail:=by
 cases A with
 | ok n=>
  obtain ⟨rfl,hn⟩:=h
  rw [Zjf,Zlx,Zis hn]
  split
  ·rename_i h2;exact ⟨rfl,h2⟩
  ·rename_i h2;exact List.drop_eq_nil_of_le (by rw [Zqy];omega)
 | error b=>rw [show w=[] from h];exact rfl
theorem Zq3:W2 W (Zef W A) []:=by cases A <;> exact rfl
theorem Zq4 (k:Int) (tx:ByteArray):W2 W (Zce W late k tx A) (Zw k tx w):=by
 rw [Zce,Zw,Zm1 h]
 split
 ·exact Zvz h
 ·exact Zq3 h
theorem Zv1 (ws:List ByteArray):S2 W ws A=Zfv ws w:=by
 cases A with
 | ok n=>obtain ⟨rfl,hn⟩:=h;rw [Zis hn];rfl
 | error b=>rw [show w=[] from h];rfl
theorem w_on (ws:List ByteArray):W2 W (Zaw W late ws A) (Z1 ws w):=by
 rw [Zaw,Z1,Zv1 h]
 split
 ·exact Zvz h
 ·exact Zq3 h
theorem Z4i (ws:List ByteArray):Zax W ws A=Y3 ws w:=by rw [Zax,Y3,Zv1 h,Zv2 h]
end
theorem Zej {k:Int} {tx:ByteArray} {w:List Tk} (h:Yq k tx w=true):1≤w.length:=by
 cases w with
 | nil=>cases h
 | cons x r=>rw [List.length_cons];omega
theorem Vd (k:Int) (tx:ByteArray) (w:List Tk):(Zw k tx w).length≤w.length - 1:=by
 rw [Zw]
 split
 ·rw [List.length_tail];omega
 ·exact Nat.zero_le _
theorem Zl4 (ws:List ByteArray) (w:List Tk):(Z1 ws w).length≤w.length - 1:=by
 rw [Z1]
 split
 ·rw [List.length_tail];omega
 ·exact Nat.zero_le _
abbrev Ub:ByteArray:=⟨#[61]⟩
abbrev Wd:ByteArray:=⟨#[44]⟩
abbrev Wt:ByteArray:=⟨#[59]⟩
abbrev S7:ByteArray:=⟨#[124]⟩
abbrev Uv:ByteArray:=⟨#[40]⟩
abbrev S8:ByteArray:=⟨#[41]⟩
abbrev eB:ByteArray:=⟨#[]⟩
abbrev Xc:ByteArray:=⟨#[117,115,101]⟩
abbrev Xe:ByteArray:=⟨#[112,114,117,110,101]⟩
abbrev Xg:ByteArray:=⟨#[99,104,97,110,99,101]⟩
abbrev Xi:ByteArray:=⟨#[97,115,107]⟩
abbrev Xj:ByteArray:=⟨#[97,108,108]⟩
abbrev Vh:ByteArray:=⟨#[102,105,108,108]⟩
abbrev Vg:ByteArray:=⟨#[100,101,103,114,101,101]⟩
abbrev V0:ByteArray:=⟨#[111,114,100,101,114]⟩
abbrev Vp:ByteArray:=⟨#[98,97,114,114,101,110]⟩
abbrev W0:ByteArray:=⟨#[97,112,97,114,116]⟩
abbrev Vz:ByteArray:=⟨#[111,110]⟩
abbrev U8:ByteArray:=⟨#[111,102,102]⟩
abbrev Ww:=List (ByteArray×ByteArray)
abbrev Z6:=Int×Ww×Ww×Int×List ByteArray×(Bool×Bool)
/-! ### what is read -/
def Ws:Nat→List Tk→Ww×List Tk
 | 0,w=>([],[])
 | f+1,w=>if Yq 4 Wd (Zw 1 eB (Zw 4 Ub (Zw 1 eB w)))=true then
   ((Uw 1 eB w,Uw 1 eB (Zw 4 Ub (Zw 1 eB w))) :: (Ws f (Zw 4 Wd (Zw 1 eB (Zw 4 Ub (Zw 1 eB w))))).1,(Ws f (Zw 4 Wd (Zw 1 eB (Zw 4 Ub (Zw 1 eB w))))).2)
  else ([(Uw 1 eB w,Uw 1 eB (Zw 4 Ub (Zw 1 eB w)))],Zw 1 eB (Zw 4 Ub (Zw 1 eB w)))
def Ug (f:Nat) (w:List Tk):Ww×List Tk:=if Yq 4 S7 w=true then Ws f (Zw 4 S7 w) else ([],w)
def Tb:Nat→List Tk→List ByteArray×List Tk
 | 0,w=>([],[])
 | f+1,w=>if Yq 4 Wd w=true then (Uw 1 eB (Zw 4 Wd w) :: (Tb f (Zw 1 eB (Zw 4 Wd w))).1,(Tb f (Zw 1 eB (Zw 4 Wd w))).2) else ([],Zw 4 S8 w)
def Ts (f:Nat) (w:List Tk):List ByteArray×List Tk:=
 if Yq 4 S8 (Zw 4 Uv w)=true then ([],Zw 4 S8 (Zw 4 Uv w)) else (Uw 1 eB (Zw 4 Uv w) :: (Tb f (Zw 1 eB (Zw 4 Uv w))).1,(Tb f (Zw 1 eB (Zw 4 Uv w))).2)
def Wy (w:List Tk) (K:List Tk→Option (List Z6)):Option (List Z6):=if Yq 4 Wt w=true then K (Zw 4 Wt w) else none
def S4 (q:Z6) (o:Option (List Z6)):Option (List Z6):=o.map (q :: ·)
def Ul (G:Nat):Nat→Nat→Int→List ByteArray→Bool→Bool→List Tk→Option (List Z6)
 | 0,k,how,ord,c0,c1,w=>none
 | f+1,k,how,ord,c0,c1,w=>
  if Ql w=0 then some [] else if 4096<k+1 then none else
  if Y3 [Xc,Xe,Xg,Xi,Xj] w=Xc then
   (if Y3 [Vh,Vg,V0] (Z1 [Xc,Xe,Xg,Xi,Xj] w)=Vh then Wy (Z1 [Vh,Vg,V0] (Z1 [Xc,Xe,Xg,Xi,Xj] w)) (Ul G f (k+1) 1 [] c0 c1)
   else if Y3 [Vh,Vg,V0] (Z1 [Xc,Xe,Xg,Xi,Xj] w)=Vg then Wy (Z1 [Vh,Vg,V0] (Z1 [Xc,Xe,Xg,Xi,Xj] w)) (Ul G f (k+1) 2 [] c0 c1)
   else Wy (Ts G (Z1 [Vh,Vg,V0] (Z1 [Xc,Xe,Xg,Xi,Xj] w))).2 (Ul G f (k+1) 3 (Ts G (Z1 [Vh,Vg,V0] (Z1 [Xc,Xe,Xg,Xi,Xj] w))).1 c0 c1))
  else if Y3 [Xc,Xe,Xg,Xi,Xj] w=Xe then
   (if Y3 [Vp,W0] (Z1 [Xc,Xe,Xg,Xi,Xj] w)=W0 then Wy (Z1 [Vz,U8] (Z1 [Vp,W0] (Z1 [Xc,Xe,Xg,Xi,Xj] w))) (Ul G f (k+1) how ord c0 (decide (Y3 [Vz,U8] (Z1 [Vp,W0] (Z1 [Xc,Xe,Xg,Xi,Xj] w))=Vz)))
   else Wy (Z1 [Vz,U8] (Z1 [Vp,W0] (Z1 [Xc,Xe,Xg,Xi,Xj] w))) (Ul G f (k+1) how ord (decide (Y3 [Vz,U8] (Z1 [Vp,W0] (Z1 [Xc,Xe,Xg,Xi,Xj] w))=Vz)) c1))
  else if Y3 [Xc,Xe,Xg,Xi,Xj] w=Xg then
   (if Ql (Z1 [Xc,Xe,Xg,Xi,Xj] w)=4 then Wy (Z1 [Xc,Xe,Xg,Xi,Xj] w) (fun v=>S4 (1,[],[],how,ord,(c0,c1)) (Ul G f (k+1) how ord c0 c1 v))
   else Wy (Ws G (Z1 [Xc,Xe,Xg,Xi,Xj] w)).2 (fun v=>S4 (1,(Ws G (Z1 [Xc,Xe,Xg,Xi,Xj] w)).1,[],how,ord,(c0,c1)) (Ul G f (k+1) how ord c0 c1 v)))
  else if Y3 [Xc,Xe,Xg,Xi,Xj] w=Xi then
   Wy (Ug G (Ws G (Z1 [Xc,Xe,Xg,Xi,Xj] w)).2).2 (fun v=>S4 (2,(Ws G (Z1 [Xc,Xe,Xg,Xi,Xj] w)).1,(Ug G (Ws G (Z1 [Xc,Xe,Xg,Xi,Xj] w)).2).1,how,ord,(c0,c1)) (Ul G f (k+1) how ord c0 c1 v))
  else Wy (Ug G (Zw 1 eB (Z1 [Xc,Xe,Xg,Xi,Xj] w))).2 (fun v=>S4 (3,[(Uw 1 eB (Z1 [Xc,Xe,Xg,Xi,Xj] w),⟨#[]⟩)],(Ug G (Zw 1 eB (Z1 [Xc,Xe,Xg,Xi,Xj] w))).1,how,ord,(c0,c1)) (Ul G f (k+1) how ord c0 c1 v))
/-! ### lengths -/
theorem Zmf:∀ (f:Nat) (w:List Tk),(Ws f w).2.length≤w.length∧(Ws f w).1.length≤w.length+1
 | 0,w=>⟨Nat.zero_le _,Nat.zero_le _⟩
 | f+1,w=>by
  rw [Ws]
  have h1:=Vd 1 eB w
  have h2:=Vd 4 Ub (Zw 1 eB w)
  have h3:=Vd 1 eB (Zw 4 Ub (Zw 1 eB w))
  split
  ·rename_i hc
   have h5:=Zej hc
   have h4:=Vd 4 Wd (Zw 1 eB (Zw 4 Ub (Zw 1 eB w)))
   have ih:=Zmf f (Zw 4 Wd (Zw 1 eB (Zw 4 Ub (Zw 1 eB w))))
   refine ⟨?_,?_⟩
   ·show (Ws f _).2.length≤_;omega
   ·rw [List.length_cons];omega
  ·refine ⟨by dsimp only;omega,by simp⟩
theorem Zsk (f:Nat) (w:List Tk):(Ug f w).2.length≤w.length∧(Ug f w).1.length≤w.length+1:=by
 rw [Ug]
 split
 ·have h1:=Vd 4 S7 w
  have:=Zmf f (Zw 4 S7 w)
  omega
 ·simp
theorem Zth:∀ (f:Nat) (w:List Tk),(Tb f w).2.length≤w.length∧(Tb f w).1.length≤w.length
 | 0,w=>⟨Nat.zero_le _,Nat.zero_le _⟩
 | f+1,w=>by
  rw [Tb]
  split
  ·rename_i hc
   have h5:=Zej hc
   have h1:=Vd 4 Wd w
   have h2:=Vd 1 eB (Zw 4 Wd w)
   have ih:=Zth f (Zw 1 eB (Zw 4 Wd w))
   refine ⟨?_,?_⟩
   ·show (Tb f _).2.length≤_;omega
   ·rw [List.length_cons];omega
  ·have:=Vd 4 S8 w
   refine ⟨by dsimp only;omega,Nat.zero_le _⟩
theorem Z2m (f:Nat) (w:List Tk):(Ts f w).2.length≤w.length∧(Ts f w).1.length≤w.length+1:=by
 rw [Ts]
 have h1:=Vd 4 Uv w
 split
 ·have h2:=Vd 4 S8 (Zw 4 Uv w)
  refine ⟨by dsimp only;omega,Nat.zero_le _⟩
 ·have h2:=Vd 1 eB (Zw 4 Uv w)
  have:=Zth f (Zw 1 eB (Zw 4 Uv w))
  refine ⟨by show (Tb f _).2.length≤_;omega,by rw [List.length_cons];omega⟩
variable {W:List Yy} {late:Option Y5}
section
variable {s:SP} {A:AS} {w:List Tk} (hW:Th W late) (h:Wg W late s A) (hw:W2 W A w)
include hW h hw
theorem Zlu (ws:List ByteArray):∃ A' s',U4 (s.1,s.2.1,s.2.2.1,s.2.2.2) ws=some (Y3 ws w,s')∧Wg W late s' A'∧W2 W A' (Z1 ws w):=by
 obtain ⟨s',h1,h2⟩:=Ztd hW h ws
 exact ⟨_,s',by rw [h1,Z4i hw],h2,w_on hw ws⟩
theorem Zif:∃ A' s',U4 (s.1,s.2.1,s.2.2.1,s.2.2.2) ([]:List ByteArray)=some (Uw 1 eB w,s')∧Wg W late s' A'∧W2 W A' (Zw 1 eB w):=by
 obtain ⟨s',h1,h2⟩:=Ztd hW h []
 rw [Z2h,w_tx hw] at h1
 rw [Z2f] at h2
 exact ⟨_,s',h1,h2,Zq4 hw 1 eB⟩
theorem Zms (tx:ByteArray) (ht:tx≠⟨#[]⟩):∃ A' s',Qw (s.1,s.2.1,s.2.2.1,s.2.2.2) tx=some (Yq 4 tx w,s')∧Wg W late s' A'∧W2 W A' (if Yq 4 tx w=true then Zw 4 tx w else w):=by
 obtain ⟨s',h1,h2,_⟩:=Zu7 hW h tx ht
 rw [Zm1 hw] at h1 h2
 refine ⟨_,s',h1,h2,?_⟩
 by_cases hc:Yq 4 tx w=true
 ·rw [if_pos hc,if_pos hc];exact Zq4 hw 4 tx
 ·rw [if_neg hc,if_neg hc];exact hw
theorem Zfs (tx:ByteArray) (ht:tx≠⟨#[]⟩):∃ A' s',Sa (s.1,s.2.1,s.2.2.1,s.2.2.2) tx=some s'∧Wg W late s' A'∧W2 W A' (Zw 4 tx w)∧(Yq 4 tx w=true→s'.2.2.2=none)∧(Yq 4 tx w=false→∃ b,s'.2.2.2=some b):=by
 obtain ⟨s',h1,h2,h3,h4⟩:=Z18 hW h tx ht
 rw [Zm1 hw] at h3 h4
 exact ⟨_,s',h1,h2,Zq4 hw 4 tx,h3,fun e=>(h4 e).elim fun b hb=>⟨b,hb.2⟩⟩
end
theorem ck32 {a:Nat} (h:a≤1048579) (x:ByteArray×ByteArray) (l:List (ByteArray×ByteArray)) (hl:l.length≤a):(l.length+[x].length) * 32≤140737488355328∧l.length+[x].length≤maxLen:=by
 have:[x].length=1:=rfl
 rw [this];simp only [maxLen];omega
theorem ck16 {a:Nat} (h:a≤1048579) (x:ByteArray) (l:List ByteArray) (hl:l.length≤a):(l.length+([x]:List ByteArray).length) * 16≤140737488355328∧l.length+([x]:List ByteArray).length≤maxLen:=by
 have:([x]:List ByteArray).length=1:=rfl
 rw [this];simp only [maxLen];omega
theorem Zmb (hW:Th W late) {N:Nat}:∀ (m:Nat) (A:AS) (sp:SP) (w:List Tk) (l:Ww) (f g:Nat),w.length≤m→Wg W late sp A→W2 W A w→l.length+w.length≤1048578→m<f→m<g→
  ∃ A' sp',Zdb N f sp.1 sp.2.1 sp.2.2.1 sp.2.2.2 l=some (l++(Ws g w).1,sp')∧Wg W late sp' A'∧W2 W A' (Ws g w).2
 | m,A,sp,w,l,0,g,hm,hp,hw,hl,hf,hg=>by omega
 | m,A,sp,w,l,f+1,0,hm,hp,hw,hl,hf,hg=>by omega
 | m,A,sp,w,l,f+1,g+1,hm,hp,hw,hl,hf,hg=>by
  obtain ⟨A1,p1,a1,b1,d1⟩:=Zif hW hp hw
  obtain ⟨A2,p2,a2,b2,d2,_⟩:=Zfs hW b1 d1 Ub (by decide)
  obtain ⟨A3,p3,a3,b3,d3⟩:=Zif hW b2 d2
  obtain ⟨A4,p4,a4,b4,d4⟩:=Zms hW b3 d3 Wd (by decide)
  have m1:=Vd 1 eB w
  have m2:=Vd 4 Ub (Zw 1 eB w)
  have m3:=Vd 1 eB (Zw 4 Ub (Zw 1 eB w))
  rw [Zdb.eq_2,a1,Option.bind_some]
  dsimp only
  rw [a2,Option.bind_some,a3,Option.bind_some]
  dsimp only
  rw [Xx (ck32 (a:=1048578) (by omega) _ _ (by omega)),a4,Option.bind_some,Ws]
  generalize hx:(Uw 1 eB w,Uw 1 eB (Zw 4 Ub (Zw 1 eB w)))=x at *
  generalize Zw 1 eB (Zw 4 Ub (Zw 1 eB w))=w3 at *
  dsimp only
  by_cases hi:Yq 4 Wd w3=true
  ·rw [if_pos hi] at d4
   rw [hi,if_neg (by decide),if_pos rfl]
   have m5:=Zej hi
   have m4:=Vd 4 Wd w3
   obtain ⟨A',sp',i1,i2,i3⟩:=Zmb hW (N:=N) (m - 1) A4 p4 (Zw 4 Wd w3) (l++[x]) f g (by omega) b4 d4 (by rw [List.length_append];simp only [List.length_cons,List.length_nil];omega) (by omega) (by omega)
   rw [List.append_assoc] at i1
   exact ⟨A',sp',i1,i2,i3⟩
  ·rw [if_neg hi] at d4
   rw [Bool.eq_false_iff.2 hi,if_pos (by decide),if_neg (by decide)]
   exact ⟨A4,p4,rfl,b4,d4⟩
theorem Zsh (hW:Th W late) {N G:Nat} {A:AS} {sp:SP} {w:List Tk} (hN:1048577<N) (hG:1048577<G) (hl:w.length≤1048577) (hp:Wg W late sp A) (hw:W2 W A w):
  ∃ A' sp',Zfj N (sp.1,sp.2.1,sp.2.2.1,sp.2.2.2)=some ((Ug G w).1,sp')∧Wg W late sp' A'∧W2 W A' (Ug G w).2:=by
 obtain ⟨A1,p1,a1,b1,d1⟩:=Zms hW hp hw S7 (by decide)
 rw [Zfj]
 dsimp only
 rw [a1,Option.bind_some,Ug]
 dsimp only
 by_cases hi:Yq 4 S7 w=true
 ·rw [if_pos hi] at d1
  have m1:=Vd 4 S7 w
  rw [hi,if_pos rfl,if_pos rfl]
  obtain ⟨A',sp',i1,i2,i3⟩:=Zmb hW (N:=N) 1048577 A1 p1 (Zw 4 S7 w) [] N G (by omega) b1 d1 (by simp;omega) (by omega) (by omega)
  rw [Zbt]
  dsimp only
  rw [i1,Option.bind_some]
  exact ⟨A',sp',rfl,i2,i3⟩
 ·rw [if_neg hi] at d1
  rw [Bool.eq_false_iff.2 hi,if_neg (by decide),if_neg (by decide)]
  exact ⟨A1,p1,rfl,b1,d1⟩
theorem Zte (hW:Th W late) {N:Nat}:∀ (m:Nat) (A:AS) (sp:SP) (w:List Tk) (l:List ByteArray) (f g:Nat),w.length≤m→Wg W late sp A→W2 W A w→l.length+w.length≤1048579→m<f→m<g→
  ∃ A' sp',Zda N f sp.1 sp.2.1 sp.2.2.1 sp.2.2.2 l=some (l++(Tb g w).1,sp')∧Wg W late sp' A'∧W2 W A' (Tb g w).2
 | m,A,sp,w,l,0,g,hm,hp,hw,hl,hf,hg=>by omega
 | m,A,sp,w,l,f+1,0,hm,hp,hw,hl,hf,hg=>by omega
 | m,A,sp,w,l,f+1,g+1,hm,hp,hw,hl,hf,hg=>by
  obtain ⟨A1,p1,a1,b1,d1⟩:=Zms hW hp hw Wd (by decide)
  rw [Zda.eq_2,a1,Option.bind_some,Tb]
  dsimp only
  by_cases hi:Yq 4 Wd w=true
  ·rw [if_pos hi] at d1
   obtain ⟨A2,p2,a2,b2,d2⟩:=Zif hW b1 d1
   have m5:=Zej hi
   have m1:=Vd 4 Wd w
   have m2:=Vd 1 eB (Zw 4 Wd w)
   rw [hi,if_pos rfl,if_pos rfl,a2,Option.bind_some]
   dsimp only
   rw [Xx (ck16 (a:=1048579) (by omega) _ _ (by omega))]
   obtain ⟨A',sp',i1,i2,i3⟩:=Zte hW (N:=N) (m - 1) A2 p2 (Zw 1 eB (Zw 4 Wd w)) (l++[Uw 1 eB (Zw 4 Wd w)]) f g (by omega) b2 d2 (by rw [List.length_append];simp only [List.length_cons,List.length_nil];omega) (by omega) (by omega)
   rw [List.append_assoc] at i1
   exact ⟨A',sp',i1,i2,i3⟩
  ·rw [if_neg hi] at d1
   obtain ⟨A2,p2,a2,b2,d2,_⟩:=Zfs hW b1 d1 S8 (by decide)
   rw [Bool.eq_false_iff.2 hi,if_neg (by decide),if_neg (by decide),a2,Option.bind_some,List.append_nil]
   exact ⟨A2,p2,rfl,b2,d2⟩
theorem Z2n (hW:Th W late) {N G:Nat} {A:AS} {sp:SP} {w:List Tk} (hN:1048577<N) (hG:1048577<G) (hl:w.length≤1048577) (hp:Wg W late sp A) (hw:W2 W A w):
  ∃ A' sp',Zhx N (sp.1,sp.2.1,sp.2.2.1,sp.2.2.2)=some ((Ts G w).1,sp')∧Wg W late sp' A'∧W2 W A' (Ts G w).2:=by
 obtain ⟨A1,p1,a1,b1,d1,_⟩:=Zfs hW hp hw Uv (by decide)
 obtain ⟨A2,p2,a2,b2,d2⟩:=Zms hW b1 d1 S8 (by decide)
 have m1:=Vd 4 Uv w
 rw [Zhx]
 dsimp only
 rw [a1,Option.bind_some,a2,Option.bind_some,Ts]
 dsimp only
 by_cases hi:Yq 4 S8 (Zw 4 Uv w)=true
 ·rw [if_pos hi] at d2
  rw [hi,if_pos rfl,if_pos rfl]
  exact ⟨A2,p2,rfl,b2,d2⟩
 ·rw [if_neg hi] at d2
  obtain ⟨A3,p3,a3,b3,d3⟩:=Zif hW b2 d2
  have m2:=Vd 1 eB (Zw 4 Uv w)
  rw [Bool.eq_false_iff.2 hi,if_neg (by decide),if_neg (by decide),a3,Option.bind_some]
  dsimp only
  obtain ⟨A',sp',i1,i2,i3⟩:=Zte hW (N:=N) 1048577 A3 p3 (Zw 1 eB (Zw 4 Uv w)) [Uw 1 eB (Zw 4 Uv w)] N G (by omega) b3 d3 (by simp;omega) (by omega) (by omega)
  rw [i1]
  exact ⟨A',sp',rfl,i2,i3⟩
/-! ### a command -/
abbrev KPq:=(List (Int×ByteArray×Int×Int))→(Option (Int×Int×Int×ByteArray))→Int→(Option (Int×Int×Int×ByteArray))→Int→(List ByteArray)→Bool→Bool→(List (Int×(List (ByteArray×ByteArray))×(List (ByteArray×ByteArray))×Int×List ByteArray×(Bool×Bool)))→Int→Option ((List (Int×(List (ByteArray×ByteArray))×(List (ByteArray×ByteArray))×Int×List ByteArray×(Bool×Bool)))×(Option (Int×Int×Int×ByteArray)))
def Za4 (P:Option (List Z6×Option Y5)) (l:List Z6):Option (List Z6)→Prop
 | some L=>P=some (l++L,none)
 | none=>∃ b,P=some ([],some b)
def Zq8 (W:List Yy) (late:Option Y5) (kP:KPq) (K:Int) (KS:Int→List ByteArray→Bool→Bool→List Tk→Option (List Z6)) (m:Nat):Prop:=∀ (A':AS) (p:SP) (w:List Tk) (how:Int) (ord:List ByteArray) (c0 c1:Bool) (l:List Z6),w.length<m→Wg W late p A'→W2 W A' w→ord.length≤1048579→l.length+w.length≤1048578→
 Za4 (kP p.1 p.2.1 p.2.2.1 p.2.2.2 how ord c0 c1 l K) l (KS how ord c0 c1 w)
theorem Z2o {P:Option (List Z6×Option Y5)} {l:List Z6} {q:Z6} {o:Option (List Z6)} (h:Za4 P (l++[q]) o):Za4 P l (S4 q o):=by
 cases o with
 | none=>exact h
 | some L=>
  have h:P=some ((l++[q])++L,none):=h
  show P=some (l++(q :: L),none)
  rw [h,List.append_assoc];rfl
section
variable {kP:KPq} {K:Int} {KS:Int→List ByteArray→Bool→Bool→List Tk→Option (List Z6)} {m:Nat} {A4:AS} {p:SP} {w4:List Tk} (hW:Th W late) (hG:Zq8 W late kP K KS m) (hm:w4.length≤m) (hp:Wg W late p A4) (hw:W2 W A4 w4)
include hW hG hm hp hw
theorem Zgj (how:Int) (ord:List ByteArray) (b0 b1:Bool) (l:List Z6) (kd:Int) (aP gP:Ww) (ho:ord.length≤1048579) (hl:l.length+m≤1048578):
  Za4 (Tq how b0 b1 l kP K (([]:List ByteArray)++ord) p.1 p.2.1 p.2.2.1 p.2.2.2 how ord b0 b1 kd aP gP) l (Wy w4 fun v=>S4 (kd,aP,gP,how,ord,(b0,b1)) (KS how ord b0 b1 v)):=by
 obtain ⟨A5,p1,a1,x1,d1,y1,z1⟩:=Zfs hW hp hw Wt (by decide)
 rw [Tq,a1,Option.bind_some,Wy,List.nil_append]
 by_cases hi:Yq 4 Wt w4=true
 ·have m1:=Vd 4 Wt w4
  have m2:=Zej hi
  rw [y1 hi,if_neg (by decide),if_pos hi]
  have hc:∀ x:Z6,(l.length+[x].length) * 96≤140737488355328∧l.length+[x].length≤maxLen:=fun x=>by
   have:[x].length=1:=rfl
   rw [this];simp only [maxLen];omega
  rw [Xx (hc _)]
  have:=hG A5 p1 (Zw 4 Wt w4) how ord b0 b1 (l++[(kd,aP,gP,how,ord,(b0,b1))]) (by omega) x1 d1 ho (by rw [List.length_append];simp only [List.length_cons,List.length_nil];omega)
  rw [y1 hi] at this
  exact Z2o this
 ·obtain ⟨b,g1⟩:=z1 (Bool.eq_false_iff.2 hi)
  rw [g1,if_pos (by rfl),if_neg hi]
  exact ⟨b,rfl⟩
theorem Zeg (how:Int) (ord:List ByteArray) (b0 b1:Bool) (l:List Z6) (hP:Int) (oP:List ByteArray) (cP dP:Bool) (ho:Yq 4 Wt w4=true→oP.length≤1048579) (hl:l.length+m≤1048578):
  Za4 ((Sa (p.1,p.2.1,p.2.2.1,p.2.2.2) (⟨#[59]⟩)).bind fun r_227=>if (!r_227.2.2.2.isSome)=true then (kP r_227.1 r_227.2.1 r_227.2.2.1 r_227.2.2.2 hP oP cP dP l K) else (Tq how b0 b1 l kP K (([]:List ByteArray)++ord) r_227.1 r_227.2.1 r_227.2.2.1 r_227.2.2.2 hP oP cP dP 0 ([]:List (ByteArray×ByteArray)) ([]:List (ByteArray×ByteArray)))) l (Wy w4 (KS hP oP cP dP)):=by
 obtain ⟨A5,p1,a1,x1,d1,y1,z1⟩:=Zfs hW hp hw Wt (by decide)
 rw [a1,Option.bind_some,Wy]
 by_cases hi:Yq 4 Wt w4=true
 ·have m1:=Vd 4 Wt w4
  have m2:=Zej hi
  rw [y1 hi,if_pos (by rfl),if_pos hi]
  have:=hG A5 p1 (Zw 4 Wt w4) hP oP cP dP l (by omega) x1 d1 (ho hi) (by omega)
  rw [y1 hi] at this
  exact this
 ·obtain ⟨b,g1⟩:=z1 (Bool.eq_false_iff.2 hi)
  have d2:W2 W A5 []:=by rw [Zw,if_neg hi] at d1;exact d1
  obtain ⟨A6,p2,a2,x2,d3,y2,z2⟩:=Zfs hW x1 d2 Wt (by decide)
  obtain ⟨b',g2⟩:=z2 rfl
  rw [if_neg (by rw [g1];exact fun e=>by cases e),Tq,a2,Option.bind_some,g2,if_pos (by rfl),if_neg hi]
  exact ⟨b',rfl⟩
end
theorem Zjd (K:List Tk→Option (List Z6)):Wy [] K=none:=rfl
theorem Z2g (ws:List ByteArray):Z1 ws []=[]:=rfl
theorem Ztp {ws:List ByteArray} {w:List Tk} (h0:ws≠[]) (h:∀ x ∈ ws,Y3 ws w≠x):Z1 ws w=[]:=by
 rw [Z1,if_neg]
 intro e
 cases w with
 | nil=>cases e
 | cons x r=>
  have h2:=e
  rw [Zfv,decide_eq_false h0,Bool.false_or,Bool.and_eq_true] at h2
  refine h _ (Z11.1 h2.2) ?_
  rw [Y3,if_pos e];rfl
theorem fF:¬ (false=true):=by decide
theorem Zzu {l:List ByteArray} (h:l.length≤1048579):Zic l=some (([]:List ByteArray)++l):=by
 rw [Zic,Xx]
 simp only [List.length_nil,maxLen];omega
section
variable {kP:KPq} {K:Int} {KS:Int→List ByteArray→Bool→Bool→List Tk→Option (List Z6)} {A1:AS} {p:SP} {w:List Tk} {N G:Nat} (hW:Th W late) (hN:1048577<N) (hM:1048577<G) (hG:Zq8 W late kP K KS w.length) (hp:Wg W late p A1) (hw:W2 W A1 w) (hz:w.length≤1048577)
include hW hN hM hG hp hw hz
def Un (G:Nat) (KS:Int→List ByteArray→Bool→Bool→List Tk→Option (List Z6)) (how:Int) (ord:List ByteArray) (c0 c1:Bool) (w:List Tk):Option (List Z6):=
  if Y3 [Xc,Xe,Xg,Xi,Xj] w=Xc then
   (if Y3 [Vh,Vg,V0] (Z1 [Xc,Xe,Xg,Xi,Xj] w)=Vh then Wy (Z1 [Vh,Vg,V0] (Z1 [Xc,Xe,Xg,Xi,Xj] w)) (KS 1 [] c0 c1)
   else if Y3 [Vh,Vg,V0] (Z1 [Xc,Xe,Xg,Xi,Xj] w)=Vg then Wy (Z1 [Vh,Vg,V0] (Z1 [Xc,Xe,Xg,Xi,Xj] w)) (KS 2 [] c0 c1)
   else Wy (Ts G (Z1 [Vh,Vg,V0] (Z1 [Xc,Xe,Xg,Xi,Xj] w))).2 (KS 3 (Ts G (Z1 [Vh,Vg,V0] (Z1 [Xc,Xe,Xg,Xi,Xj] w))).1 c0 c1))
  else if Y3 [Xc,Xe,Xg,Xi,Xj] w=Xe then
   (if Y3 [Vp,W0] (Z1 [Xc,Xe,Xg,Xi,Xj] w)=W0 then Wy (Z1 [Vz,U8] (Z1 [Vp,W0] (Z1 [Xc,Xe,Xg,Xi,Xj] w))) (KS how ord c0 (decide (Y3 [Vz,U8] (Z1 [Vp,W0] (Z1 [Xc,Xe,Xg,Xi,Xj] w))=Vz)))
   else Wy (Z1 [Vz,U8] (Z1 [Vp,W0] (Z1 [Xc,Xe,Xg,Xi,Xj] w))) (KS how ord (decide (Y3 [Vz,U8] (Z1 [Vp,W0] (Z1 [Xc,Xe,Xg,Xi,Xj] w))=Vz)) c1))
  else if Y3 [Xc,Xe,Xg,Xi,Xj] w=Xg then
   (if Ql (Z1 [Xc,Xe,Xg,Xi,Xj] w)=4 then Wy (Z1 [Xc,Xe,Xg,Xi,Xj] w) (fun v=>S4 (1,[],[],how,ord,(c0,c1)) (KS how ord c0 c1 v))
   else Wy (Ws G (Z1 [Xc,Xe,Xg,Xi,Xj] w)).2 (fun v=>S4 (1,(Ws G (Z1 [Xc,Xe,Xg,Xi,Xj] w)).1,[],how,ord,(c0,c1)) (KS how ord c0 c1 v)))
  else if Y3 [Xc,Xe,Xg,Xi,Xj] w=Xi then
   Wy (Ug G (Ws G (Z1 [Xc,Xe,Xg,Xi,Xj] w)).2).2 (fun v=>S4 (2,(Ws G (Z1 [Xc,Xe,Xg,Xi,Xj] w)).1,(Ug G (Ws G (Z1 [Xc,Xe,Xg,Xi,Xj] w)).2).1,how,ord,(c0,c1)) (KS how ord c0 c1 v))
  else Wy (Ug G (Zw 1 eB (Z1 [Xc,Xe,Xg,Xi,Xj] w))).2 (fun v=>S4 (3,[(Uw 1 eB (Z1 [Xc,Xe,Xg,Xi,Xj] w),⟨#[]⟩)],(Ug G (Zw 1 eB (Z1 [Xc,Xe,Xg,Xi,Xj] w))).1,how,ord,(c0,c1)) (KS how ord c0 c1 v))
omit hW hN hM hG hp hw hz in
theorem Zf2 (G f k:Nat) (how:Int) (ord:List ByteArray) (c0 c1:Bool) (w:List Tk):Ul G (f+1) k how ord c0 c1 w=if Ql w=0 then some [] else if 4096<k+1 then none else Un G (Ul G f (k+1)) how ord c0 c1 w:=by rw [Ul];rfl
theorem Zre (how:Int) (ord:List ByteArray) (b0 b1:Bool) (l:List Z6) (ho:ord.length≤1048579) (hl:l.length+w.length≤1048578):
  Za4 (Zfb N how ord b0 b1 l kP p.1 p.2.1 p.2.2.1 p.2.2.2 K) l (Un G KS how ord b0 b1 w):=by
 obtain ⟨A2,p2,a2,x2,d2⟩:=Zlu hW hp hw [Xc,Xe,Xg,Xi,Xj]
 have m2:=Zl4 [Xc,Xe,Xg,Xi,Xj] w
 have hno:=Ztp (ws:=[Xc,Xe,Xg,Xi,Xj]) (w:=w) (by decide)
 rw [Zfb,Zzu ho,Option.bind_some,a2,Option.bind_some,Un]
 dsimp only
 generalize Z1 [Xc,Xe,Xg,Xi,Xj] w=w2 at *
 generalize Y3 [Xc,Xe,Xg,Xi,Xj] w=T at *
 clear a2
 by_cases t1:T=Xc
 ·-- use
  rw [decide_eq_true t1,if_pos rfl,if_pos t1]
  obtain ⟨A3,p3,a3,x3,d3⟩:=Zlu hW x2 d2 [Vh,Vg,V0]
  have m3:=Zl4 [Vh,Vg,V0] w2
  have hno2:=Ztp (ws:=[Vh,Vg,V0]) (w:=w2) (by decide)
  rw [a3,Option.bind_some]
  dsimp only
  generalize Z1 [Vh,Vg,V0] w2=w3 at *
  generalize Y3 [Vh,Vg,V0] w2=T2 at *
  clear a3
  by_cases u1:T2=Vh
  ·rw [decide_eq_true u1,if_pos rfl,if_pos u1]
   exact Zeg hW hG (by omega) x3 d3 how ord b0 b1 l 1 [] b0 b1 (fun _=>by simp) hl
  ·rw [decide_eq_false u1,if_neg fF,if_neg u1]
   by_cases u2:T2=Vg
   ·rw [decide_eq_true u2,if_pos rfl,if_pos u2]
    exact Zeg hW hG (by omega) x3 d3 how ord b0 b1 l 2 [] b0 b1 (fun _=>by simp) hl
   ·rw [decide_eq_false u2,if_neg fF,if_neg u2]
    obtain ⟨A4,p4,i1,i2,i3⟩:=Z2n hW hN hM (by omega) x3 d3
    have m4:=Z2m G w3
    by_cases u3:T2=V0
    ·rw [decide_eq_true u3,if_pos rfl,i1,Option.bind_some]
     exact Zeg hW hG (by omega) i2 i3 how ord b0 b1 l 3 (Ts G w3).1 b0 b1 (fun _=>by omega) hl
    ·rw [decide_eq_false u3,if_neg fF]
     have h3:w3=[]:=hno2 fun x hx=>by
      rcases List.mem_cons.1 hx with rfl | hx
      ·exact u1
      ·rcases List.mem_cons.1 hx with rfl | hx
       ·exact u2
       ·rw [List.mem_singleton.1 hx];exact u3
     have h3l:w3.length=0:=by rw [h3];rfl
     have e1:(Ts G w3).2=[]:=List.length_eq_zero_iff.1 (by omega)
     rw [e1,Zjd]
     have:=Zeg hW hG (by omega) x3 d3 how ord b0 b1 l how [] b0 b1 (fun _=>by simp) hl
     rw [h3,Zjd] at this
     exact this
 ·rw [decide_eq_false t1,if_neg fF,if_neg t1]
  by_cases t2:T=Xe
  ·-- prune
   rw [decide_eq_true t2,if_pos rfl,if_pos t2]
   obtain ⟨A3,p3,a3,x3,d3⟩:=Zlu hW x2 d2 [Vp,W0]
   obtain ⟨A4,p4,a4,x4,d4⟩:=Zlu hW x3 d3 [Vz,U8]
   have m3:=Zl4 [Vp,W0] w2
   have m4:=Zl4 [Vz,U8] (Z1 [Vp,W0] w2)
   rw [a3,Option.bind_some]
   dsimp only
   generalize Y3 [Vp,W0] w2=T2 at *
   generalize Z1 [Vp,W0] w2=w3 at *
   generalize Y3 [Vz,U8] w3=T3 at *
   generalize Z1 [Vz,U8] w3=w4 at *
   by_cases u1:T2=W0
   ·rw [decide_eq_true u1,if_pos rfl,if_pos u1,a4,Option.bind_some]
    exact Zeg hW hG (by omega) x4 d4 how ord b0 b1 l how ord b0 _ (fun _=>ho) hl
   ·rw [decide_eq_false u1,if_neg fF,if_neg u1,a4,Option.bind_some]
    exact Zeg hW hG (by omega) x4 d4 how ord b0 b1 l how ord _ b1 (fun _=>ho) hl
  ·rw [decide_eq_false t2,if_neg fF,if_neg t2]
   by_cases t3:T=Xg
   ·-- chance
    rw [decide_eq_true t3,if_pos rfl,if_pos t3]
    obtain ⟨p3,a3,x3,_⟩:=Zgu hW x2
    rw [a3,Option.bind_some]
    dsimp only
    rw [Zv0 d2]
    by_cases k1:Ql w2=4
    ·rw [decide_eq_true k1,if_neg (by decide),if_pos k1]
     exact Zgj hW hG (by omega) x3 d2 how ord b0 b1 l 1 [] [] ho hl
    ·obtain ⟨A',sp',i1,i2,i3⟩:=Zmb hW (N:=N) 1048577 A2 p3 w2 [] N G (by omega) x3 d2 (by simp;omega) (by omega) (by omega)
     have m3:=Zmf G w2
     rw [decide_eq_false k1,if_pos (by decide),if_neg k1,Zbt]
     dsimp only
     rw [i1,Option.bind_some]
     exact Zgj hW hG (by omega) i2 i3 how ord b0 b1 l 1 _ [] ho hl
   ·rw [decide_eq_false t3,if_neg fF,if_neg t3]
    by_cases t4:T=Xi
    ·-- ask
     rw [decide_eq_true t4,if_pos rfl,if_pos t4]
     obtain ⟨A',sp',i1,i2,i3⟩:=Zmb hW (N:=N) 1048577 A2 p2 w2 [] N G (by omega) x2 d2 (by simp;omega) (by omega) (by omega)
     have m3:=Zmf G w2
     obtain ⟨A3,sp3,j1,j2,j3⟩:=Zsh hW (N:=N) (G:=G) (by omega) (by omega) (by omega) i2 i3
     have m4:=Zsk G (Ws G w2).2
     rw [Zbt]
     dsimp only
     rw [i1,Option.bind_some]
     dsimp only
     rw [j1,Option.bind_some]
     exact Zgj hW hG (by omega) j2 j3 how ord b0 b1 l 2 _ _ ho hl
    ·rw [decide_eq_false t4,if_neg fF,if_neg t4]
     obtain ⟨A3,p3,a3,x3,d3⟩:=Zif hW x2 d2
     have m3:=Vd 1 eB w2
     obtain ⟨A4,p4,j1,j2,j3⟩:=Zsh hW (N:=N) (G:=G) (by omega) (by omega) (by omega) x3 d3
     have m4:=Zsk G (Zw 1 eB w2)
     by_cases t5:T=Xj
     ·-- all
      rw [decide_eq_true t5,if_pos rfl,a3,Option.bind_some]
      dsimp only
      rw [j1,Option.bind_some]
      exact Zgj hW hG (by omega) j2 j3 how ord b0 b1 l 3 _ _ ho hl
     ·rw [decide_eq_false t5,if_neg fF]
      have h2:w2=[]:=hno fun x hx=>by
       rcases List.mem_cons.1 hx with rfl | hx
       ·exact t1
       ·rcases List.mem_cons.1 hx with rfl | hx
        ·exact t2
        ·rcases List.mem_cons.1 hx with rfl | hx
         ·exact t3
         ·rcases List.mem_cons.1 hx with rfl | hx
          ·exact t4
          ·rw [List.mem_singleton.1 hx];exact t5
      have h2l:w2.length=0:=by rw [h2];rfl
      have e1:(Ug G (Zw 1 eB w2)).2=[]:=List.length_eq_zero_iff.1 (by omega)
      rw [e1,Zjd]
      have:=Zgj hW hG (by omega) x2 d2 how ord b0 b1 l 0 [] [] ho hl
      rw [h2,Zjd] at this
      exact this
end
theorem Zt1 (hW:Th W late) {N G:Nat} (hN:1048577<N) (hM:1048577<G):∀ (m:Nat) (A:AS) (p:SP) (w:List Tk) (how:Int) (ord:List ByteArray) (c0 c1:Bool) (l:List Z6) (k:Nat) (f g:Nat),
  w.length≤m→m≤1048577→Wg W late p A→W2 W A w→ord.length≤1048579→l.length+w.length≤1048578→k≤4096→m<f→m<g→
  Za4 (Sn N f p.1 p.2.1 p.2.2.1 p.2.2.2 how ord c0 c1 l (k:Int)) l (Ul G g k how ord c0 c1 w)
 | m,A,p,w,how,ord,c0,c1,l,k,0,g,hm,hm2,hp,hw,ho,hl,hk,hf,hg=>by omega
 | m,A,p,w,how,ord,c0,c1,l,k,f+1,0,hm,hm2,hp,hw,ho,hl,hk,hf,hg=>by omega
 | m,A,p,w,how,ord,c0,c1,l,k,f+1,g+1,hm,hm2,hp,hw,ho,hl,hk,hf,hg=>by
  obtain ⟨p1,a1,x1,_⟩:=Zgu hW hp
  have hwr:i64.wrap ((k:Int)+1)=((k+1:Nat):Int):=by rw [Yb (by omega)];rfl
  rw [Sn.eq_2,a1,Option.bind_some,Zf2,hwr]
  dsimp only
  rw [Zv0 hw]
  by_cases hend:Ql w=0
  ·rw [decide_eq_true hend,if_neg (by decide),if_pos hend]
   show _=some (l++[],none)
   rw [List.append_nil]
  ·rw [decide_eq_false hend,if_pos (show (!false)=true from rfl),if_neg hend]
   by_cases hc:4096<k+1
   ·obtain ⟨p2,a2,x2,_⟩:=Zn4 hW x1
    rw [if_pos (decide_eq_true (by omega)),a2,Option.bind_some,if_pos hc]
    have:=Zre (KS:=fun _ _ _ _ _=>none) (kP:=Sn N f) (K:=((k+1:Nat):Int)) hW hN hM (fun A' q w' how' ord' e0 e1 l' hlt _ _ _ _=>absurd hlt (Nat.not_lt_zero _)) x2 (Zq3 hw) (by simp) how ord c0 c1 l ho (by simp;omega)
    have e:Un G (fun _ _ _ _ _=>none) how ord c0 c1 []=none:=by
     rw [Un,Z2g]
     have hX:Y3 [Xc,Xe,Xg,Xi,Xj] []=⟨#[]⟩:=rfl
     rw [hX,if_neg (by decide),if_neg (by decide),if_neg (by decide),if_neg (by decide)]
     rfl
    rw [e] at this
    exact this
   ·rw [if_neg (nd (by omega)),if_neg hc]
    refine Zre hW hN hM (fun A' q w' how' ord' e0 e1 l' hlt hq hw' ho' hl'=>?_) x1 hw (by omega) how ord c0 c1 l ho hl
    exact Zt1 hW hN hM (m - 1) A' q w' how' ord' e0 e1 l' (k+1) f g (by omega) (by omega) hq hw' ho' hl' (by omega) (by omega) (by omega)
theorem Zvl (late:Option Y5):∀ (l:List Yy) (acc:List Yy),acc.length+l.length≤1048579→
  Zar (l.map (fun x=>(x,none))++Zgl late) acc none 0 none=some (some (acc++l,late,0,none))
 | [],acc,h=>by
  cases late with
  | none=>rw [List.map_nil,List.nil_append,Zgl,Zar.eq_1,List.append_nil]
  | some e=>rw [List.map_nil,List.nil_append,Zgl,Zar.eq_2,List.append_nil];rfl
 | x :: l,acc,h=>by
  rw [List.length_cons] at h
  rw [List.map_cons,List.cons_append,Zar.eq_2]
  show Zp _ _=_
  have hc:(acc.length+[x].length) * 40≤140737488355328∧acc.length+[x].length≤maxLen:=by
   have:[x].length=1:=rfl
   rw [this];simp only [maxLen];omega
  refine (Xx hc).trans ?_
  have:=Zvl late l (acc++[x]) (by rw [List.length_append];simp only [List.length_cons,List.length_nil];omega)
  rw [List.append_assoc] at this
  exact this
theorem Z2q {N:Nat} {t:ByteArray} (ht:t.size≤1048576) (hN:1048590<N) {l:List Yy} {f:Option Y5} (hL:Tg t 0 (1,1) l f):
  Za4 (Zc8 N t) [] (Ul 1048580 1048580 0 1 [] false false (Ty l)):=by
 have ht':t.size≤33554432:=by omega
 obtain ⟨f1,f2,f3⟩:=hL.facts (by omega)
 have hW:Th l f:=⟨by omega,f2⟩
 rw [Zc8,Zk4,Z1r ht' (by omega) (by omega) hL (by omega),Option.bind_some,Zvl f l [] (by simp;omega),Option.bind_some]
 rw [List.nil_append]
 have hA:∃ A:AS,Wg l f (l,f,((0:Nat):Int),none) A∧W2 l A (Ty l):=by
  rcases Nat.eq_zero_or_pos l.length with h | h
  ·have hs:f.isSome=true:=by
    cases f with
    | some x=>rfl
    | none=>
     obtain ⟨x,hx,_⟩:=f2 rfl
     have:l=[]:=List.length_eq_zero_iff.1 h
     rw [this] at hx;cases hx
   refine ⟨.error (Zoc f),⟨rfl,0,by omega,.inr ⟨rfl,by omega,hs,rfl⟩⟩,?_⟩
   rw [List.length_eq_zero_iff.1 h];exact rfl
  ·exact ⟨.ok 0,⟨rfl,h⟩,(List.drop_zero).symm,h⟩
 obtain ⟨A,hp,hw⟩:=hA
 have hlen:(Ty l).length≤1048577:=by rw [Zqy];omega
 exact Zt1 hW (N:=N) (G:=1048580) (by omega) (by omega) 1048577 A _ (Ty l) 1 [] false false [] 0 N 1048580 hlen (by omega) hp hw (by simp) (by simp;omega) (by omega) (by omega) (by omega)
def Qo (v_29:Bool):Option Bool:=
  some v_29
def Zg4 (N:Nat) (p0_s:ByteArray):Option Bool:=
  if (!decide (p0_s=(⟨#[]⟩)))=true then (if (decide ((p0_s.size:Int)≤64))=true then ((Y9 p0_s 0).bind fun e_32=>(Zai e_32).bind fun r_34=>if r_34=true then ((Zbm N p0_s 0).bind fun r_39=>Qo (decide (r_39=(p0_s.size:Int)))) else (Qo false)) else (Qo false)) else (Qo false)
theorem Zx8 {N:Nat} {col:Zc} {w0:World} {p0_s:ByteArray} {r:Bool} (hm:Zg4 N p0_s=some r):
    Calls prog 52 #[.string p0_s] w0 (fun e w'=>e= .returned ((.bool r))∧Below w0.heap.size w0 w'):=by
 refine Z0 2 (m:=22) func52 O O O O O ?_;rw [Zg4.eq_1] at hm;have hst:=St.start col w0;refine Zm<|Yc<|Zag O<|Zi<|Zm ?_;refine Wp.cutK [1000000] (fun f w_27=>∃ col_28 v_29,Qo v_29=some r∧St w0 (Zh col) col_28 w_27∧[2].map f=[.bool v_29]) ?_ ?_
 ·intro f w_27 hJ;obtain ⟨col_28,v_29,hm,hst,hs⟩:=hJ;rw [Qo.eq_1] at hm;refine .lL [2] hs<|W1 ?_;cases hm;exact ⟨O,O,hst.below⟩
 refine go ?_;refine Z3 hm (fun hg_30 hm=>go ?_) fun hg_30 hm=>go ?_
 ·refine lV (.bool (decide ((p0_s.size:Int)≤64))) (Zv (congrArg Value.bool hg_30) O)<|Xo O ?_;refine Z3 hm (fun hg_31 hm=>go ?_) fun hg_31 hm=>go ?_
  ·obtain ⟨e_32,hj_33,hm⟩:=bZ hm;refine lV (.int .u8 e_32) (V8 (s:=p0_s) underlying9 O O hj_33)<|go ?_;obtain ⟨r_34,hr_35,hm⟩:=bZ hm;refine Zf (Zi2 (col:=(Zh col)) hr_35) ?_;rintro _ w_36 ⟨rfl,hg_37⟩;refine ⟨_,O,?_⟩;replace hg_37:Ze (Zh col) w0 (Zh col) w_36:=.of_below hg_37;refine lV (.bool r_34) (Zv (congrArg Value.bool hg_31) O)<|Xo O ?_;replace hst:=hst.grow hg_37;refine Z3 hm (fun hg_38 hm=>go ?_) fun hg_38 hm=>go ?_
   ·obtain ⟨r_39,hr_40,hm⟩:=bZ hm;refine Zf (Znl (col:=(Zh col)) hr_40) ?_;rintro _ w_41 ⟨rfl,hg_42⟩;refine ⟨_,O,?_⟩;replace hg_42:Ze (Zh col) w_36 (Zh col) w_41:=.of_below hg_42;refine go ?_;refine lV (.bool (decide (r_39=(p0_s.size:Int)))) (Zv (congrArg Value.bool hg_38) O)<|go ?_;replace hst:=hst.grow hg_42;exact ⟨O,_,_,hm,hst,O⟩
   refine lV (.bool false) (Zu (congrArg Value.bool hg_38) O)<|go ?_;exact ⟨O,_,_,hm,hst,O⟩
  refine lV (.bool false) (Zu (congrArg Value.bool hg_31) O)<|Xo O<|lP 15 O O<|lP 15 O O<|lP 15 O O<|lP 15 O O<|lP 15 O O<|lV (.bool false) (Zu O O)<|go ?_;exact ⟨O,_,_,hm,hst,O⟩
 refine lV (.bool false) (Zu (congrArg Value.bool hg_30) O)<|Xo O<|lP 10 O O<|lP 10 O O<|lP 10 O O<|lV (.bool false) (Zu O O)<|Xo O<|lP 15 O O<|lP 15 O O<|lP 15 O O<|lP 15 O O<|lP 15 O O<|lV (.bool false) (Zu O O)<|go ?_;exact ⟨O,_,_,hm,hst,O⟩
def Y1 (s:ByteArray):Bool:=decide (1≤s.size)&&decide (s.size≤64)&&Uq ((Zg s).headD 0)&&decide (Xk Yh (Zg s)=s.size)
theorem Z1u {N:Nat} {s:ByteArray} (hs:s.size≤1099511627776) (hN:s.size<N):Zg4 N s=some (Y1 s):=by
 rw [Zg4,Y1]
 by_cases h0:1≤s.size
 ·rw [if_pos (by rw [decide_eq_false (fun e=>by rw [e] at h0;exact absurd h0 (by decide))];decide),decide_eq_true h0,Bool.true_and]
  by_cases h1:s.size≤64
  ·rw [if_pos (decide_eq_true (by omega)),Zjh h0,Option.bind_some,Zjq,Option.bind_some,decide_eq_true h1,Bool.true_and]
   cases h2:Uq ((Zg s).headD 0) with
   | true=>
    have h3:=Zog (N:=N) hs (at_:=0) (by omega) hN
    rw [List.drop_zero] at h3
    rw [if_pos rfl,show (0:Int)=((0:Nat):Int) from rfl,h3,Option.bind_some,Qo,Bool.true_and]
    congr 1
    exact decide_eq_decide.2 ⟨fun h=>by omega,fun h=>by omega⟩
   | false=>rw [if_neg (by decide),Qo];rfl
  ·rw [if_neg (by rw [decide_eq_false (by omega)];decide),Qo,decide_eq_false h1];rfl
 ·have:s=⟨#[]⟩:=Z3t (by omega)
  rw [if_neg (by rw [decide_eq_true this];decide),Qo,decide_eq_false h0];rfl
theorem Zxi {b:Int} (h:V2 b=true):Uq b=false∧X5 b=false∧Yh b=false∧b≠46∧b≠101∧b≠69∧b≠47∧b≠42:=by
 have:=of_decide_eq_true h
 simp only [List.mem_cons,List.not_mem_nil,or_false] at this
 rcases this with rfl | rfl | rfl | rfl <;> decide
section
variable {t:ByteArray} {a':Nat} {p':Int×Int} {ok:Bool}
theorem Zxg (g r:List Int) {a:Nat} {p:Int×Int} (hg:g≠[]) (h:(Zg t).drop a=g++r) (hk:S9 (g++r)=some g.length) (hr:Wv t (a+g.length) (plc g p) ok a' p'):Wv t a p ok a' p':=by
 have hl:=congrArg List.length h
 rw [List.length_drop,Xy,List.length_append] at hl
 have hp:0<g.length:=List.length_pos_iff.2 hg
 refine .skip (k:=g.length) (by omega) (by rw [h];exact hk) hp (by omega) ?_
 rw [h,List.take_left];exact hr
theorem Zxf (b:Int) (r:List Int) {a:Nat} {p:Int×Int} (hb:V2 b=true) (h:(Zg t).drop a=b :: r) (hr:Wv t (a+1) (plc [b] p) ok a' p'):Wv t a p ok a' p':=by
 refine Zxg [b] r (by simp) h ?_ hr
 obtain ⟨_,_,_,_,_,_,b7,_⟩:=Zxi hb
 rw [S9,if_neg (fun e=>b7 (Option.some.inj e.1)),if_neg (fun e=>b7 (Option.some.inj e.1)),if_pos (show V2 (([b]++r).headD 0)=true from hb)];rfl
theorem Zn3 {a:Nat} {g r:List Int} (h:(Zg t).drop a=g++r):(Zg t).drop (a+g.length)=r:=by
 rw [← List.drop_drop,h,List.drop_left]
theorem Zrd:∀ (g r:List Int) {a:Nat} {p:Int×Int},(∀ c ∈ g,V2 c=true)→(Zg t).drop a=g++r→Wv t (a+g.length) (plc g p) ok a' p'→Wv t a p ok a' p'
 | [],r,a,p,_,h,hr=>hr
 | b :: g,r,a,p,hb,h,hr=>by
  refine Zxf b (g++r) (hb b List.mem_cons_self) h ?_
  refine Zrd g r (fun c hc=>hb c (List.mem_cons_of_mem _ hc)) (Zn3 (g:=[b]) h) ?_
  rw [List.length_cons] at hr
  rw [show a+1+g.length=a+(g.length+1) by omega]
  exact hr
end
abbrev Yk:=Int×List Int×List Int
def Yv:List Yk→List Int
 | []=>[]
 | x :: r=>x.2.1++(x.2.2++Yv r)
theorem Q3:∀ a b:List Yk,Yv (a++b)=Yv a++Yv b
 | [],b=>rfl
 | x :: a,b=>by rw [List.cons_append,Yv,Q3 a b,Yv];simp [List.append_assoc]
def nmI (w:List Int):Prop:=w≠[]∧Uq (w.headD 0)=true∧(∀ c ∈ w,Yh c=true)∧w.length≤64
def U9 (l:List Int):Prop:=Yh (l.headD 0)=false
def Znd (g:List Int):Prop:=∀ (t:ByteArray) (a:Nat) (r:List Int) (p:Int×Int) (ok:Bool) (a':Nat) (p':Int×Int),(Zg t).drop a=g++r→Wv t (a+g.length) (plc g p) ok a' p'→Wv t a p ok a' p'
theorem Zp9 {g:List Int} (h:∀ c ∈ g,V2 c=true):Znd g:=fun t a r p ok a' p' h1 h2=>Zrd g r h h1 h2
def W3:List Yk→Prop
 | []=>True
 | x :: r=>((x.1=1∧nmI x.2.1∧U9 (x.2.2++Yv r))∨(x.1=4∧∃ c,x.2.1=[c]∧Zdx c=true∧c≠47))∧Znd x.2.2∧W3 r
def Vx (l:List Yk):List Tk:=l.map fun x=>(x.1,Vs x.2.1)
theorem Zqs {w r:List Int} (h:∀ c ∈ w,Yh c=true) (hr:U9 r):Xk Yh (w++r)=w.length:=by
 induction w with
 | nil=>
  cases r with
  | nil=>rfl
  | cons c r=>rw [List.nil_append,Zdv,if_neg (by rw [show Yh c=false from hr];decide)];rfl
 | cons c w ih=>
  rw [List.cons_append,Zdv,if_pos (h c List.mem_cons_self),ih fun x hx=>h x (List.mem_cons_of_mem _ hx),List.length_cons]
theorem Z3q {c:Int} (h:Zdx c=true):Uq c=false∧X5 c=false∧Yh c=false∧c≠34∧V2 c=false:=by
 have:=of_decide_eq_true h
 simp only [Zu6,List.mem_cons,List.not_mem_nil,or_false] at this
 rcases this with rfl | rfl | rfl | rfl | rfl | rfl | rfl | rfl | rfl | rfl | rfl | rfl | rfl | rfl <;> decide
theorem Z1p {c:Int} (h:Uq c=true):c≠47∧V2 c=false:=by
 refine ⟨fun e=>by subst e;exact absurd h (by decide),?_⟩
 cases hb:V2 c with
 | false=>rfl
 | true=>
  have:=of_decide_eq_true hb
  simp only [List.mem_cons,List.not_mem_nil,or_false] at this
  rcases this with rfl | rfl | rfl | rfl <;> exact absurd h (by decide)
theorem Zvb {c:Int} {r:List Int} (h:c≠47) (hb:V2 c=false):S9 (c :: r)=some 0:=by
 rw [S9,if_neg (fun e=>h (Option.some.inj e.1)),if_neg (fun e=>h (Option.some.inj e.1)),if_neg (by show ¬ V2 c=true;rw [hb];decide)]
theorem Z4b {s:ByteArray} {k:Int} {w g r:List Int} (h:(k=1∧nmI w∧U9 (g++r))∨(k=4∧∃ c,w=[c]∧Zdx c=true∧c≠47)) (hs:Zg s=w++(g++r)):
  Uc s=(w.length,(k,Vs w),(0,⟨#[]⟩))∧S9 (Zg s)=some 0∧w≠[]:=by
 have hx:s.extract 0 w.length=Vs w:=by
  rw [← Zgd (s.extract 0 w.length),Z3s,hs,List.take_left]
 rcases h with ⟨rfl,⟨h0,h1,h2,h3⟩,h4⟩ | ⟨rfl,c,rfl,h1,h2⟩
 ·obtain ⟨c,w',rfl⟩:∃ c w',w=c :: w':=by
   cases w with
   | nil=>exact absurd rfl h0
   | cons c w'=>exact ⟨c,w',rfl⟩
  have hr:=Zqs h2 h4
  obtain ⟨n1,n2⟩:=Z1p (show Uq c=true from h1)
  refine ⟨?_,by rw [hs];exact Zvb n1 n2,by simp⟩
  have hh:Uq ((Zg s).headD 0)=true:=by rw [hs];exact h1
  rw [Uc,if_pos hh,hs,hr,if_neg (by omega),hx]
 ·obtain ⟨s1,s2,s3,s4,s5⟩:=Z3q h1
  have hh:(Zg s).headD 0=c:=by rw [hs];rfl
  refine ⟨?_,by rw [hs];exact Zvb h2 s5,by simp⟩
  rw [Uc,hh,if_neg (by rw [s1];decide),if_neg (by rw [s2];decide),if_neg s4,if_pos h1]
  rw [show s.extract 0 1=Vs [c] from hx];rfl
theorem Zvk {t:ByteArray}:∀ (sp:List Yk) (b:Nat) (q:Int×Int) (g:List Int),W3 sp→Znd g→(Zg t).drop b=g++Yv sp→b≤t.size→
  ∃ l,Tg t b q l none∧Ty l=Vx sp++[(0,⟨#[]⟩)]
 | [],b,q,g,hok,hg,hs,hb=>by
  have hl:=congrArg List.length hs
  rw [List.length_drop,Xy,Yv,List.append_nil] at hl
  refine ⟨_,.fin (p':=plc g q) ?_,rfl⟩
  refine hg t b [] q _ _ _ hs ?_
  rw [show b+g.length=t.size by omega]
  exact .fin rfl
 | x :: sp,b,q,g,hok,hg,hs,hb=>by
  obtain ⟨h1,h2,h3⟩:=hok
  rw [Yv] at hs
  have hd:=Zn3 hs
  have hl:=congrArg List.length hs
  rw [List.length_drop,Xy,List.length_append,List.length_append] at hl
  have hx:=Zcb t (b+g.length)
  obtain ⟨k1,k2,k3⟩:=Z4b (s:=t.extract (b+g.length) t.size) h1 (by rw [hx,hd])
  have k4:0<x.2.1.length:=List.length_pos_iff.2 k3
  rw [hx] at k2
  have hB:Wv t b q true (b+g.length) (plc g q):=hg t b _ q _ _ _ hs (.done (by omega) k2)
  have hd2:=Zn3 hd
  obtain ⟨l,i1,i2⟩:=Zvk sp (b+g.length+x.2.1.length) (plc (((Zg t).drop (b+g.length)).take x.2.1.length) (plc g q)) x.2.2 h3 h2 hd2 (by omega)
  have ht:=Tg.tok (t:=t) (a:=b) (p:=q) hB (by omega) (by rw [k1]) (l:=l) (f:=none) (by rw [k1];exact i1)
  rw [k1] at ht
  exact ⟨_,ht,by rw [Vx,List.map_cons,List.cons_append];show (x.1,Vs x.2.1) :: Ty l=_;rw [i2];rfl⟩
theorem Z31 {t:ByteArray} {sp:List Yk} (h:W3 sp) (hs:Zg t=Yv sp):∃ l,Tg t 0 (1,1) l none∧Ty l=Vx sp++[(0,⟨#[]⟩)]:=
 Zvk sp 0 (1,1) [] h (Zp9 fun c hc=>by cases hc) (by rw [List.drop_zero,hs];rfl) (Nat.zero_le _)
theorem Zr1 (col:Zc) (w0:World) (a0:Option Addr) (cap0:Nat) (p0_elems:List ByteArray) (p1_sep:ByteArray) (h0:Sl Za.str col w0 a0 cap0 p0_elems) (r:ByteArray) (hm:Zer p0_elems p1_sep=some r):
    Calls prog 51 #[.slice a0 p0_elems.length cap0,.string p1_sep] w0 (fun e w'=>e= .returned ((.string r))∧Below w0.heap.size w0 w'):=
  Z08 col w0 a0 cap0 p0_elems p1_sep h0 r hm
def Zfl (p1_s:ByteArray) (w_3:Bool) (w_4:List Int) (w_8:Int) (w_9:Bool):Option (ByteArray×((Bool×List Int)×Int×Bool)):=
  some (p1_s,((w_3,w_4),w_8,w_9))
def Zbv (N:Nat) (p0_w:((Bool×List Int)×Int×Bool)) (p1_s:ByteArray):Option (ByteArray×((Bool×List Int)×Int×Bool)):=
  if p0_w.2.2=true then (Zfl p1_s p0_w.1.1 p0_w.1.2 p0_w.2.1 true) else ((Zg4 N p1_s).bind fun r_15=>Zfl p1_s p0_w.1.1 p0_w.1.2 p0_w.2.1 (!r_15))
theorem Zi5 {N g0 cap0_2:Nat} {a0_2:Option Addr} {col:Zc} {w0:World} {p0_w:((Bool×List Int)×Int×Bool)} {p1_s:ByteArray} {r:(ByteArray×((Bool×List Int)×Int×Bool))} (qc0 qc0_1:Nat) (hm:Zbv N p0_w p1_s=some r) (hd:Yg [qc0,qc0_1]=true) (h0_2:Zb (Za.int .u8) 5 qc0_1 col w0 a0_2 cap0_2 p0_w.1.2) (hb0:Zd 84 qc0 col w0 g0 #[.pointer (bif p0_w.1.1 then some ⟨g0,0,none⟩ else none),.slice a0_2 p0_w.1.2.length cap0_2,.int .i64 p0_w.2.1,.bool p0_w.2.2]):
    Calls prog 35 #[.pointer (some ⟨g0,0,none⟩),.string p1_s] w0 (fun e w'=>∃ (col':Zc) (oa1:Option Addr) (oc2:Nat),e= .returned ((.string r.1))∧Zo (pS [qc0,qc0_1]) col w0 col' w'∧Zb (Za.int .u8) 5 qc0_1 col' w' oa1 oc2 r.2.1.2∧Zd 84 qc0 col' w' g0 #[.pointer (bif r.2.1.1 then some ⟨g0,0,none⟩ else none),.slice oa1 r.2.1.2.length oc2,.int .i64 r.2.2.1,.bool r.2.2.2]):=by
 refine Z0 4 (m:=18) func35 O O O O O ?_;rw [Zbv.eq_1] at hm;have hst:=St.startL (l:=[qc0,qc0_1]) O col w0;replace hb0:=hb0.startL (Ya hd 0 O) (X9 hd 0 O);replace h0_2:=h0_2.startL (Ya hd 1 O) (X9 hd 1 O);refine Zm<|Yc<|Zgo O<|Zi<|Zm ?_;refine Wp.cutK [1,1000000] (fun f w_1=>∃ col_2 w_3 a_5 cap_6 w_4 w_8 w_9,Zfl p1_s w_3 w_4 w_8 w_9=some r∧St w0 (Zx [qc0,qc0_1] col) col_2 w_1∧Zb (Za.int .u8) 5 441 col_2 w_1 a_5 cap_6 w_4∧Zd 84 440 col_2 w_1 g0 #[.pointer (bif w_3 then some ⟨g0,0,none⟩ else none),.slice a_5 w_4.length cap_6,.int .i64 w_8,.bool w_9]) ?_ ?_
 ·intro f w_1 hJ;obtain ⟨col_2,w_3,a_5,cap_6,w_4,w_8,w_9,hm,hst,h_7,hb0⟩:=hJ;rw [Zfl.eq_1] at hm;refine go ?_;cases hm;exact ⟨O,Xz w0.heap.size [qc0,qc0_1] col col_2 (fun n=>bif Nat.beq n 441 then qc0_1 else bif Nat.beq n 440 then qc0 else 0),a_5,cap_6,O,hst.finL O (fun n=>bif Nat.beq n 441 then qc0_1 else bif Nat.beq n 440 then qc0 else 0),hst.finOwnL (g:=(fun n=>bif Nat.beq n 441 then qc0_1 else bif Nat.beq n 440 then qc0 else 0)) O h_7 (by decide) (by decide) O,hst.finBoxL (g:=(fun n=>bif Nat.beq n 441 then qc0_1 else bif Nat.beq n 440 then qc0 else 0)) hb0 (by decide) (by decide) O⟩
 refine go ?_;refine lV (.pointer (some ⟨g0,0,none⟩)) (Z7 O)<|Zy hb0<|Xo O ?_;refine Z3 hm (fun hg_10 hm=>go ?_) fun hg_10 hm=>go ?_
 ·refine lV (.bool true) (Zv (congrArg Value.bool hg_10) O)<|lV (.pointer (some ⟨g0,0,none⟩)) (Z7 O)<|Zt ⟨_,_,O⟩ ?_;refine Xp (off:=3) (v:=(.bool true)) hb0 sizeOf4 O O (by intro u hu;simp only [Value.cells,List.mem_cons,List.not_mem_nil,or_false] at hu;subst hu;rfl) O O ?_;intro w_11 hk_12 hs_13 hb_14;replace hb_14:Zd 84 440 (Zx [qc0,qc0_1] col) w_11 g0 #[.pointer (bif p0_w.1.1 then some ⟨g0,0,none⟩ else none),.slice a0_2 p0_w.1.2.length cap0_2,.int .i64 p0_w.2.1,.bool true]:=hb_14;refine Zi ?_;replace h0_2:=h0_2.kp hk_12;replace hst:=hst.kp hk_12 hs_13;exact ⟨O,_,_,_,_,_,_,_,hm,hst,h0_2,hb_14⟩
 obtain ⟨r_15,hr_16,hm⟩:=bZ hm;refine Zf (Zx8 (col:=(Zx [qc0,qc0_1] col)) hr_16) ?_;rintro _ w_17 ⟨rfl,hg_18⟩;refine ⟨_,O,?_⟩;replace hg_18:Ze (Zx [qc0,qc0_1] col) w0 (Zx [qc0,qc0_1] col) w_17:=.of_below hg_18;refine go ?_;refine lV (.bool (!r_15)) (Zu (congrArg Value.bool hg_10) O)<|lV (.pointer (some ⟨g0,0,none⟩)) (Z7 O)<|Zt ⟨_,_,O⟩ ?_;replace hb0:=hb0.gr hg_18;refine Xp (off:=3) (v:=(.bool (!r_15))) hb0 sizeOf4 O O (by intro u hu;simp only [Value.cells,List.mem_cons,List.not_mem_nil,or_false] at hu;subst hu;rfl) O O ?_;intro w_19 hk_20 hs_21 hb_22;replace hb_22:Zd 84 440 (Zx [qc0,qc0_1] col) w_19 g0 #[.pointer (bif p0_w.1.1 then some ⟨g0,0,none⟩ else none),.slice a0_2 p0_w.1.2.length cap0_2,.int .i64 p0_w.2.1,.bool (!r_15)]:=hb_22;refine Zi ?_;replace h0_2:=(h0_2.gr hg_18).kp hk_20;replace hst:=(hst.grow hg_18).kp hk_20 hs_21;exact ⟨O,_,_,_,_,_,_,_,hm,hst,h0_2,hb_22⟩
def Zbw (N:Nat) (p1_l:List ByteArray):List ByteArray→Bool→(List Int)→Int→Bool→Option (ByteArray×((Bool×List Int)×Int×Bool))
  | [],w_5,w_6,w_10,w_11=>(Zer p1_l (⟨#[44,32]⟩)).bind fun r_14=>some (r_14,((w_5,w_6),w_10,w_11))
  | x_12 :: l_13,w_5,w_6,w_10,w_11=>(Zbv N ((w_5,w_6),w_10,w_11) x_12).bind fun r_18=>(Zbw N p1_l l_13) r_18.2.1.1 r_18.2.1.2 r_18.2.2.1 r_18.2.2.2
termination_by structural x=>x
def Zk5 (N:Nat) (p0_w:((Bool×List Int)×Int×Bool)) (p1_l:List ByteArray):Option (ByteArray×((Bool×List Int)×Int×Bool)):=
  Zbw N p1_l p1_l p0_w.1.1 p0_w.1.2 p0_w.2.1 p0_w.2.2
theorem Zyw {N g0 cap0_2 cap1:Nat} {a0_2 a1:Option Addr} {col:Zc} {w0:World} {p0_w:((Bool×List Int)×Int×Bool)} {p1_l:(List ByteArray)} {r:(ByteArray×((Bool×List Int)×Int×Bool))} (qc0 qc0_1:Nat) (hm:Zk5 N p0_w p1_l=some r) (hd:Yg [qc0,qc0_1]=true) (h0_2:Zb (Za.int .u8) 5 qc0_1 col w0 a0_2 cap0_2 p0_w.1.2) (hb0:Zd 84 qc0 col w0 g0 #[.pointer (bif p0_w.1.1 then some ⟨g0,0,none⟩ else none),.slice a0_2 p0_w.1.2.length cap0_2,.int .i64 p0_w.2.1,.bool p0_w.2.2]) (h1:Sl Za.str col w0 a1 cap1 p1_l):
    Calls prog 49 #[.pointer (some ⟨g0,0,none⟩),.slice a1 p1_l.length cap1] w0 (fun e w'=>∃ (col':Zc) (oa1:Option Addr) (oc2:Nat),e= .returned ((.string r.1))∧Zo (pS [qc0,qc0_1]) col w0 col' w'∧Zb (Za.int .u8) 5 qc0_1 col' w' oa1 oc2 r.2.1.2∧Zd 84 qc0 col' w' g0 #[.pointer (bif r.2.1.1 then some ⟨g0,0,none⟩ else none),.slice oa1 r.2.1.2.length oc2,.int .i64 r.2.2.1,.bool r.2.2.2]):=by
 refine Z0 4 (m:=19) func49 O O O O O ?_;rw [Zk5.eq_1] at hm;have hst:=St.startL (l:=[qc0,qc0_1]) O col w0;replace hb0:=hb0.startL (Ya hd 0 O) (X9 hd 0 O);replace h0_2:=h0_2.startL (Ya hd 1 O) (X9 hd 1 O);refine go ?_;refine Z5 [0,1,7,8,1000000] (fun n f w_3=>∃ col_4 w_5 a_7 cap_8 w_6 w_10 w_11 k_1 l_2,n=l_2.length∧p1_l.drop k_1=l_2∧Zbw N p1_l l_2 w_5 w_6 w_10 w_11=some r∧St w0 (Zx [qc0,qc0_1] col) col_4 w_3∧Zb (Za.int .u8) 5 441 col_4 w_3 a_7 cap_8 w_6∧Zd 84 440 col_4 w_3 g0 #[.pointer (bif w_5 then some ⟨g0,0,none⟩ else none),.slice a_7 w_6.length cap_8,.int .i64 w_10,.bool w_11]∧[9].map f=[.int .i64 k_1]) p1_l.length ⟨_,_,_,_,_,_,_,0,_,O,O,hm,hst,h0_2,hb0,O⟩ ?_;clear hm;intro n f w_3 hI;obtain ⟨col_4,w_5,a_7,cap_8,w_6,w_10,w_11,k_1,l_2,hn,hl,hm,hst,h_9,hb0,hs⟩:=hI;subst hn;refine .lL [9] hs ?_;replace h1:=h1.keep (Zk.startL [qc0,qc0_1] col w0)
 cases l_2 with
 | nil=>
  have hk:¬ ((k_1:Int)<(p1_l.length:Int)):=by have:=List.drop_eq_nil_iff.1 hl;omega
  have hkb:=decide_eq_false hk;rw [Zbw.eq_1] at hm;refine go ?_;refine Ye (congrArg Value.bool hkb)<|go ?_;obtain ⟨r_14,hr_15,hm⟩:=bZ hm;refine Zf (Zr1 col_4 _ a1 cap1 p1_l (⟨#[44,32]⟩) (h1.ks hst) r_14 hr_15) ?_;rintro _ w_16 ⟨rfl,hg_17⟩;refine ⟨_,O,?_⟩;replace hg_17:Ze col_4 w_3 col_4 w_16:=.of_below hg_17;refine go ?_;cases hm;replace h_9:=h_9.gr hg_17;replace hb0:=hb0.gr hg_17;replace hst:=hst.grow hg_17;exact ⟨O,Xz w0.heap.size [qc0,qc0_1] col col_4 (fun n=>bif Nat.beq n 441 then qc0_1 else bif Nat.beq n 440 then qc0 else 0),a_7,cap_8,O,hst.finL O (fun n=>bif Nat.beq n 441 then qc0_1 else bif Nat.beq n 440 then qc0 else 0),hst.finOwnL (g:=(fun n=>bif Nat.beq n 441 then qc0_1 else bif Nat.beq n 440 then qc0 else 0)) O h_9 (by decide) (by decide) O,hst.finBoxL (g:=(fun n=>bif Nat.beq n 441 then qc0_1 else bif Nat.beq n 440 then qc0 else 0)) hb0 (by decide) (by decide) O⟩
 | cons x_12 l_13=>
  obtain ⟨hat,hl2_L1,hlt_L1⟩:=Yt hl;have hk:(k_1:Int)<(p1_l.length:Int):=by omega
  have hkb:=decide_eq_true hk;rw [Zbw.eq_2] at hm;refine go ?_;refine X7 (congrArg Value.bool hkb)<|go ?_;refine lI hat ((h1.ks hst).addr hat)<|lW ((h1.ks hst).atStr hat) ?_;refine go ?_;obtain ⟨r_18,hr_19,hm⟩:=bZ hm;refine Zf (Zi5 440 441 hr_19 O h_9 hb0) ?_;rintro _ w_24 ⟨col_26,oa_20,oc_21,rfl,hg_25,oh_22,ohb_23⟩;refine ⟨_,O,go ?_⟩;replace hst:=hst.kpp hg_25;exact ⟨l_13.length,by simp,O,⟨_,_,_,_,_,_,_,_,_,O,hl2_L1,hm,hst,oh_22,ohb_23,(Yz (congrArg (Value.int .i64) (Yw (Nat.lt_of_lt_of_le hlt_L1 (h1.ks hst).1.1))) O)⟩⟩
def Zhy (N:Nat) (p0_w:((Bool×List Int)×Int×Bool)) (p1_q:(Int×(List (ByteArray×ByteArray))×(List (ByteArray×ByteArray))×Int×List ByteArray×(Bool×Bool))):Option (ByteArray×((Bool×List Int)×Int×Bool)):=
  if (decide (p1_q.2.2.2.1=1))=true then (some (⟨#[117,115,101,32,102,105,108,108]⟩,((p0_w.1.1,p0_w.1.2),p0_w.2.1,p0_w.2.2))) else (if (decide (p1_q.2.2.2.1=2))=true then (some (⟨#[117,115,101,32,100,101,103,114,101,101]⟩,((p0_w.1.1,p0_w.1.2),p0_w.2.1,p0_w.2.2))) else (if (decide (p1_q.2.2.2.1=3))=true then ((Zk5 N ((p0_w.1.1,p0_w.1.2),p0_w.2.1,p0_w.2.2) p1_q.2.2.2.2.1).bind fun r_6=>Zp ((⟨#[117,115,101,32,111,114,100,101,114,40]⟩:ByteArray).size+r_6.1.size≤maxLen) (Zp (((⟨#[117,115,101,32,111,114,100,101,114,40]⟩:ByteArray)++r_6.1).size+(⟨#[41]⟩:ByteArray).size≤maxLen) (some (((⟨#[117,115,101,32,111,114,100,101,114,40]⟩:ByteArray)++r_6.1)++(⟨#[41]⟩),((r_6.2.1.1,r_6.2.1.2),r_6.2.2.1,r_6.2.2.2))))) else (some (⟨#[]⟩,((p0_w.1.1,p0_w.1.2),p0_w.2.1,true)))))
theorem Zyx {N g0 cap0_2 cap1_0 cap1_2 cap1_4:Nat} {a0_2 a1_0 a1_2 a1_4:Option Addr} {col:Zc} {w0:World} {p0_w:((Bool×List Int)×Int×Bool)} {p1_q:(Int×(List (ByteArray×ByteArray))×(List (ByteArray×ByteArray))×Int×List ByteArray×(Bool×Bool))} {r:(ByteArray×((Bool×List Int)×Int×Bool))} (qc0 qc0_1:Nat) (hm:Zhy N p0_w p1_q=some r) (hd:Yg [qc0,qc0_1]=true) (h0_2:Zb (Za.int .u8) 5 qc0_1 col w0 a0_2 cap0_2 p0_w.1.2) (hb0:Zd 84 qc0 col w0 g0 #[.pointer (bif p0_w.1.1 then some ⟨g0,0,none⟩ else none),.slice a0_2 p0_w.1.2.length cap0_2,.int .i64 p0_w.2.1,.bool p0_w.2.2]) (h1_0:Sl (Za.pair Za.str Za.str) col w0 a1_0 cap1_0 p1_q.2.1) (h1_2:Sl (Za.pair Za.str Za.str) col w0 a1_2 cap1_2 p1_q.2.2.1) (h1_4:Sl Za.str col w0 a1_4 cap1_4 p1_q.2.2.2.2.1):
    Calls prog 32 #[.pointer (some ⟨g0,0,none⟩),(.agg #[.int .i8 p1_q.1,.slice a1_0 p1_q.2.1.length cap1_0,.slice a1_2 p1_q.2.2.1.length cap1_2,.int .i8 p1_q.2.2.2.1,.slice a1_4 p1_q.2.2.2.2.1.length cap1_4,.bool p1_q.2.2.2.2.2.1,.bool p1_q.2.2.2.2.2.2])] w0 (fun e w'=>∃ (col':Zc) (oa1:Option Addr) (oc2:Nat),e= .returned ((.string r.1))∧Zo (pS [qc0,qc0_1]) col w0 col' w'∧Zb (Za.int .u8) 5 qc0_1 col' w' oa1 oc2 r.2.1.2∧Zd 84 qc0 col' w' g0 #[.pointer (bif r.2.1.1 then some ⟨g0,0,none⟩ else none),.slice oa1 r.2.1.2.length oc2,.int .i64 r.2.2.1,.bool r.2.2.2]):=by
 refine Z0 4 (m:=22) func32 O O O O O ?_;rw [Zhy.eq_1] at hm;have hst:=St.startL (l:=[qc0,qc0_1]) O col w0;replace hb0:=hb0.startL (Ya hd 0 O) (X9 hd 0 O);replace h0_2:=h0_2.startL (Ya hd 1 O) (X9 hd 1 O);refine go ?_;refine Yl (col:=(Zx [qc0,qc0_1] col)) 1 O ?_;intro g_1 w_2 col_3 hg_4 hb_5;refine go ?_;refine Zy hb_5 ?_;refine go ?_;replace h1_4:=h1_4.keep (Zk.startL [qc0,qc0_1] col w0);replace h0_2:=h0_2.gr hg_4;replace hb0:=hb0.gr hg_4;replace hst:=hst.grow hg_4;refine Zl hm (fun hb hm=>go ?_) fun hb hm=>go ?_
 ·cases hm;exact ⟨O,Xz w0.heap.size [qc0,qc0_1] col col_3 (fun n=>bif Nat.beq n 441 then qc0_1 else bif Nat.beq n 440 then qc0 else 0),a0_2,cap0_2,O,hst.finL O (fun n=>bif Nat.beq n 441 then qc0_1 else bif Nat.beq n 440 then qc0 else 0),hst.finOwnL (g:=(fun n=>bif Nat.beq n 441 then qc0_1 else bif Nat.beq n 440 then qc0 else 0)) O h0_2 (by decide) (by decide) O,hst.finBoxL (g:=(fun n=>bif Nat.beq n 441 then qc0_1 else bif Nat.beq n 440 then qc0 else 0)) hb0 (by decide) (by decide) O⟩
 refine Zl hm (fun hb hm=>go ?_) fun hb hm=>go ?_
 ·cases hm;exact ⟨O,Xz w0.heap.size [qc0,qc0_1] col col_3 (fun n=>bif Nat.beq n 441 then qc0_1 else bif Nat.beq n 440 then qc0 else 0),a0_2,cap0_2,O,hst.finL O (fun n=>bif Nat.beq n 441 then qc0_1 else bif Nat.beq n 440 then qc0 else 0),hst.finOwnL (g:=(fun n=>bif Nat.beq n 441 then qc0_1 else bif Nat.beq n 440 then qc0 else 0)) O h0_2 (by decide) (by decide) O,hst.finBoxL (g:=(fun n=>bif Nat.beq n 441 then qc0_1 else bif Nat.beq n 440 then qc0 else 0)) hb0 (by decide) (by decide) O⟩
 refine Zl hm (fun hb hm=>go ?_) fun hb hm=>go ?_
 ·refine Zy hb_5 ?_;obtain ⟨r_6,hr_7,hm⟩:=bZ hm;refine Zf (Zyw 440 441 hr_7 O h0_2 hb0 (h1_4.ks hst)) ?_;rintro _ w_12 ⟨col_14,oa_8,oc_9,rfl,hg_13,oh_10,ohb_11⟩;refine ⟨_,O,?_⟩;obtain ⟨hb_15,hm⟩:=Zr hm;refine lV (.string ((⟨#[117,115,101,32,111,114,100,101,114,40]⟩:ByteArray)++r_6.1)) (Ut underlying9 O O hb_15) ?_;obtain ⟨hb_16,hm⟩:=Zr hm;refine lV (.string (((⟨#[117,115,101,32,111,114,100,101,114,40]⟩:ByteArray)++r_6.1)++(⟨#[41]⟩))) (Ut underlying9 O O hb_16)<|go ?_;cases hm;replace hst:=hst.kpp hg_13;exact ⟨O,Xz w0.heap.size [qc0,qc0_1] col col_14 (fun n=>bif Nat.beq n 441 then qc0_1 else bif Nat.beq n 440 then qc0 else 0),oa_8,oc_9,O,hst.finL O (fun n=>bif Nat.beq n 441 then qc0_1 else bif Nat.beq n 440 then qc0 else 0),hst.finOwnL (g:=(fun n=>bif Nat.beq n 441 then qc0_1 else bif Nat.beq n 440 then qc0 else 0)) O oh_10 (by decide) (by decide) O,hst.finBoxL (g:=(fun n=>bif Nat.beq n 441 then qc0_1 else bif Nat.beq n 440 then qc0 else 0)) ohb_11 (by decide) (by decide) O⟩
 refine lV (.pointer (some ⟨g0,0,none⟩)) (Z7 O)<|Zt ⟨_,_,O⟩ ?_;refine Xp (off:=3) (v:=(.bool true)) hb0 sizeOf4 O O (by intro u hu;simp only [Value.cells,List.mem_cons,List.not_mem_nil,or_false] at hu;subst hu;rfl) O O ?_;intro w_17 hk_18 hs_19 hb_20;replace hb_20:Zd 84 440 col_3 w_17 g0 #[.pointer (bif p0_w.1.1 then some ⟨g0,0,none⟩ else none),.slice a0_2 p0_w.1.2.length cap0_2,.int .i64 p0_w.2.1,.bool true]:=hb_20;refine go ?_;cases hm;replace h0_2:=h0_2.kp hk_18;replace hst:=hst.kp hk_18 hs_19;exact ⟨O,Xz w0.heap.size [qc0,qc0_1] col col_3 (fun n=>bif Nat.beq n 441 then qc0_1 else bif Nat.beq n 440 then qc0 else 0),a0_2,cap0_2,O,hst.finL O (fun n=>bif Nat.beq n 441 then qc0_1 else bif Nat.beq n 440 then qc0 else 0),hst.finOwnL (g:=(fun n=>bif Nat.beq n 441 then qc0_1 else bif Nat.beq n 440 then qc0 else 0)) O h0_2 (by decide) (by decide) O,hst.finBoxL (g:=(fun n=>bif Nat.beq n 441 then qc0_1 else bif Nat.beq n 440 then qc0 else 0)) hb_20 (by decide) (by decide) O⟩
theorem Z0k:Wm prog 9 1 16:=⟨Tryz.t9,_,rfl,rfl,rfl,rfl,rfl⟩
def Zby (N:Nat) (p1_head:ByteArray):List (ByteArray×ByteArray)→Bool→(List Int)→Int→Bool→(List ByteArray)→Option (ByteArray×((Bool×List Int)×Int×Bool))
  | [],w_5,w_6,w_10,w_11,parts_12=>if (decide ((parts_12.length:Int)=0))=true then (some (⟨#[]⟩,((w_5,w_6),w_10,w_11))) else ((Zer parts_12 (⟨#[44,32]⟩)).bind fun r_18=>Zp (p1_head.size+r_18.size≤maxLen) (some (p1_head++r_18,((w_5,w_6),w_10,w_11))))
  | x_16 :: l_17,w_5,w_6,w_10,w_11,parts_12=>(Zbv N ((w_5,w_6),w_10,w_11) x_16.1).bind fun r_38=>Zp (r_38.1.size+(⟨#[61]⟩:ByteArray).size≤maxLen) ((Zbv N ((r_38.2.1.1,r_38.2.1.2),r_38.2.2.1,r_38.2.2.2) x_16.2).bind fun r_49=>Zp ((r_38.1++(⟨#[61]⟩)).size+r_49.1.size≤maxLen) (Zp ((parts_12.length+([(r_38.1++(⟨#[61]⟩))++r_49.1]:List ByteArray).length) * 16≤140737488355328∧parts_12.length+([(r_38.1++(⟨#[61]⟩))++r_49.1]:List ByteArray).length≤maxLen) ((Zby N p1_head l_17) r_49.2.1.1 r_49.2.1.2 r_49.2.2.1 r_49.2.2.2 (parts_12++([(r_38.1++(⟨#[61]⟩))++r_49.1]:List ByteArray)))))
termination_by structural x=>x
def Zbx (N:Nat) (p0_w:((Bool×List Int)×Int×Bool)) (p1_head:ByteArray) (p2_l:(List (ByteArray×ByteArray))):Option (ByteArray×((Bool×List Int)×Int×Bool)):=
  Zby N p1_head p2_l p0_w.1.1 p0_w.1.2 p0_w.2.1 p0_w.2.2 ([]:List ByteArray)
theorem Zi6 {N g0 cap0_2 cap2:Nat} {a0_2 a2:Option Addr} {col:Zc} {w0:World} {p0_w:((Bool×List Int)×Int×Bool)} {p1_head:ByteArray} {p2_l:(List (ByteArray×ByteArray))} {r:(ByteArray×((Bool×List Int)×Int×Bool))} (qc0 qc0_1:Nat) (hm:Zbx N p0_w p1_head p2_l=some r) (hd:Yg [qc0,qc0_1]=true) (h0_2:Zb (Za.int .u8) 5 qc0_1 col w0 a0_2 cap0_2 p0_w.1.2) (hb0:Zd 84 qc0 col w0 g0 #[.pointer (bif p0_w.1.1 then some ⟨g0,0,none⟩ else none),.slice a0_2 p0_w.1.2.length cap0_2,.int .i64 p0_w.2.1,.bool p0_w.2.2]) (h2:Sl (Za.pair Za.str Za.str) col w0 a2 cap2 p2_l):
    Calls prog 34 #[.pointer (some ⟨g0,0,none⟩),.string p1_head,.slice a2 p2_l.length cap2] w0 (fun e w'=>∃ (col':Zc) (oa1:Option Addr) (oc2:Nat),e= .returned ((.string r.1))∧Zo (pS [qc0,qc0_1]) col w0 col' w'∧Zb (Za.int .u8) 5 qc0_1 col' w' oa1 oc2 r.2.1.2∧Zd 84 qc0 col' w' g0 #[.pointer (bif r.2.1.1 then some ⟨g0,0,none⟩ else none),.slice oa1 r.2.1.2.length oc2,.int .i64 r.2.2.1,.bool r.2.2.2]):=by
 refine Z0 6 (m:=37) func34 O O O O O ?_;rw [Zbx.eq_1] at hm;have hst:=St.startL (l:=[qc0,qc0_1]) O col w0;replace hb0:=hb0.startL (Ya hd 0 O) (X9 hd 0 O);replace h0_2:=h0_2.startL (Ya hd 1 O) (X9 hd 1 O);refine go ?_;refine Z5 [0,1,10,11,1000000] (fun n f w_3=>∃ col_4 w_5 a_7 cap_8 w_6 w_10 w_11 k_1 a_13 cap_14 parts_12 l_2,n=l_2.length∧p2_l.drop k_1=l_2∧Zby N p1_head l_2 w_5 w_6 w_10 w_11 parts_12=some r∧St w0 (Zx [qc0,qc0_1] col) col_4 w_3∧Zb (Za.int .u8) 5 441 col_4 w_3 a_7 cap_8 w_6∧Zd 84 440 col_4 w_3 g0 #[.pointer (bif w_5 then some ⟨g0,0,none⟩ else none),.slice a_7 w_6.length cap_8,.int .i64 w_10,.bool w_11]∧Zb Za.str 9 1 col_4 w_3 a_13 cap_14 parts_12∧[12,7].map f=[.int .i64 k_1,.slice a_13 parts_12.length cap_14]) p2_l.length ⟨_,_,_,_,_,_,_,0,none,0,_,_,O,O,hm,hst,h0_2,hb0,Zb.nil,O⟩ ?_;clear hm;intro n f w_3 hI;obtain ⟨col_4,w_5,a_7,cap_8,w_6,w_10,w_11,k_1,a_13,cap_14,parts_12,l_2,hn,hl,hm,hst,h_9,hb0,h_15,hs⟩:=hI;subst hn;refine .lL [12,7] hs ?_;replace h2:=h2.keep (Zk.startL [qc0,qc0_1] col w0)
 cases l_2 with
 | nil=>
  have hk:¬ ((k_1:Int)<(p2_l.length:Int)):=by have:=List.drop_eq_nil_iff.1 hl;omega
  have hkb:=decide_eq_false hk;rw [Zby.eq_1] at hm;refine go ?_;refine Ye (congrArg Value.bool hkb)<|go ?_;refine Zl hm (fun hb hm=>go ?_) fun hb hm=>go ?_
  ·cases hm;exact ⟨O,Xz w0.heap.size [qc0,qc0_1] col col_4 (fun n=>bif Nat.beq n 441 then qc0_1 else bif Nat.beq n 440 then qc0 else 0),a_7,cap_8,O,hst.finL O (fun n=>bif Nat.beq n 441 then qc0_1 else bif Nat.beq n 440 then qc0 else 0),hst.finOwnL (g:=(fun n=>bif Nat.beq n 441 then qc0_1 else bif Nat.beq n 440 then qc0 else 0)) O h_9 (by decide) (by decide) O,hst.finBoxL (g:=(fun n=>bif Nat.beq n 441 then qc0_1 else bif Nat.beq n 440 then qc0 else 0)) hb0 (by decide) (by decide) O⟩
  obtain ⟨r_18,hr_19,hm⟩:=bZ hm;refine Zf (Zr1 (Ym 1 col_4) _ a_13 cap_14 parts_12 (⟨#[44,32]⟩) (h_15.toSlF Zj.str) r_18 hr_19) ?_;rintro _ w_20 ⟨rfl,hg_21⟩;refine ⟨_,O,?_⟩;replace hg_21:Ze col_4 w_3 col_4 w_20:=.of_below hg_21;obtain ⟨hb_22,hm⟩:=Zr hm;refine lV (.string (p1_head++r_18)) (Ut underlying9 O O hb_22)<|go ?_;cases hm;replace h_9:=h_9.gr hg_21;replace hb0:=hb0.gr hg_21;replace hst:=hst.grow hg_21;exact ⟨O,Xz w0.heap.size [qc0,qc0_1] col col_4 (fun n=>bif Nat.beq n 441 then qc0_1 else bif Nat.beq n 440 then qc0 else 0),a_7,cap_8,O,hst.finL O (fun n=>bif Nat.beq n 441 then qc0_1 else bif Nat.beq n 440 then qc0 else 0),hst.finOwnL (g:=(fun n=>bif Nat.beq n 441 then qc0_1 else bif Nat.beq n 440 then qc0 else 0)) O h_9 (by decide) (by decide) O,hst.finBoxL (g:=(fun n=>bif Nat.beq n 441 then qc0_1 else bif Nat.beq n 440 then qc0 else 0)) hb0 (by decide) (by decide) O⟩
 | cons x_16 l_17=>
  obtain ⟨hat,hl2_L1,hlt_L1⟩:=Yt hl;have hk:(k_1:Int)<(p2_l.length:Int):=by omega
  have hkb:=decide_eq_true hk;rw [Zby.eq_2] at hm;refine go ?_;refine X7 (congrArg Value.bool hkb)<|go ?_;refine lI hat ((h2.ks hst).addr hat) ?_;obtain ⟨_,hr_23,hA_24⟩:=(h2.ks hst).atN hat;obtain ⟨_,_,rfl,hp_25,hp_26⟩:=Xh hr_23;obtain ⟨rfl,_⟩:=hp_25;obtain ⟨rfl,_⟩:=hp_26;refine lV (.agg #[.string x_16.1,.string x_16.2]) (Wl isAgg56 sizeOf56 O O hA_24)<|Xs (col:=col_4) #[.string (⟨#[]⟩),.string (⟨#[]⟩)] 2 zeroValue56 ?_;intro g_27 w_28 col_29 hg_30 hb_31;refine Xb hb_31 ?_;intro w_32 hk_33 hs_34 hb_35;refine Zi<|Zm3 (col:=col_29) (pS [440,441]) [(0,1),(1,1),(2,1),(3,0),(6,1),(7,1),(8,5),(4,4),(5,1),(9,2),(10,1),(11,3),(12,2),(13,1)] (by kernel_rfl) (by kernel_rfl)<|Wu (v:=(.slice a_13 parts_12.length cap_14)) O O (fun _=>Wq O) ?_;refine Wu (v:=(.pointer (some ⟨g0,0,none⟩))) O O (fun _=>Wq O) ?_;refine Wu (v:=(.pointer ((some (⟨g_27,0,none⟩:Addr)).map (·.add 0)))) O O (fun _=>Tt (sz:=1) (off:=0) underlying56 O sizeOf9 (by decide) O O ⟨_,_,O⟩) ?_;refine Zf7 (v:=(.string x_16.1)) O O (fun _ hC=>Tu isAgg9 O (((hb_35.atN).nth (q:=0) (v:=(.string x_16.1)) O).gr (hC.bl col_29))) ?_;refine Wu (v:=(.pointer (some ⟨g0,0,none⟩))) O O (fun _=>Wq O) ?_;refine Wu (v:=(.pointer ((some (⟨g_27,0,none⟩:Addr)).map (·.add 1)))) O O (fun _=>Tt (sz:=1) (off:=1) underlying56 O sizeOf9 (by decide) O O ⟨_,_,O⟩) ?_;refine Zm7 (v:=(.string x_16.2)) O O (fun _ hC=>Tu isAgg9 O (((hb_35.dk hC O O).atN).nth (q:=1) (v:=(.string x_16.2)) O)) ?_;refine Se O O ?_;intro w_36 hC0;have hC:=hC0.bl col_29;replace h_9:=((h_9.gr hg_30).kp hk_33).gr hC;replace h_15:=((h_15.gr hg_30).kp hk_33).gr hC;replace hb0:=((hb0.gr hg_30).kp hk_33).gr hC;replace hst:=((hst.grow hg_30).kp hk_33 hs_34).grow hC;have hkd_37:Zo (pS [440,441]) col_29 w_32 col_29 w_36:=hC.toP;obtain ⟨r_38,hr_39,hm⟩:=bZ hm;refine Zf (Zi5 440 441 hr_39 O h_9 hb0) ?_;rintro _ w_44 ⟨col_46,oa_40,oc_41,rfl,hg_45,oh_42,ohb_43⟩;refine ⟨_,O,?_⟩;replace h_15:=h_15.kpp hg_45;replace hkd_37:=hkd_37.trans (hg_45.mono (by first | exact Zl9 O | exact pS_p1 O | exact Zma O));refine Zi ?_;refine ⟨fun w'=>Ze col_46 w_44 col_46 w',fun w'=>∃ c',Zo (pS [440,441]) col_46 w_44 c' w',Ze.refl _ _,fun _ h=>⟨_,h.toP⟩,fun h=>absurd h (by decide),fun _ _ ⟨c9,h⟩=>⟨c9,hkd_37.trans h⟩,?_⟩;obtain ⟨hb_47,hm⟩:=Zr hm;refine Wu (v:=(.string (r_38.1++(⟨#[61]⟩)))) O O (fun _=>Ut underlying9 O O hb_47) ?_;refine Se O O ?_;intro w_48 hC0;have hC:=hC0.bl col_46;obtain ⟨r_49,hr_50,hm⟩:=bZ hm;replace oh_42:=oh_42.gr hC
  replace ohb_43:=ohb_43.gr hC;refine Zf (Zi5 440 441 hr_50 O oh_42 ohb_43) ?_;rintro _ w_55 ⟨col_57,oa_51,oc_52,rfl,hg_56,oh_53,ohb_54⟩;refine ⟨_,O,?_⟩;refine Zi ?_;refine ⟨fun w'=>Ze col_57 w_55 col_57 w',fun w'=>∃ c',Zo (pS [440,441]) col_57 w_55 c' w',Ze.refl _ _,fun _ h=>⟨_,h.toP⟩,fun h=>absurd h (by decide),fun h=>absurd h (by decide),?_⟩;obtain ⟨hb_58,hm⟩:=Zr hm;refine Wu (v:=(.string ((r_38.1++(⟨#[61]⟩))++r_49.1))) O O (fun _=>Ut underlying9 O O hb_58) ?_;refine Se O O ?_;intro w_59 hC0;replace hst:=((hst.kpp hg_45).grow hC).kpp hg_56;replace h_15:=(h_15.gr hC).kpp hg_56;have hC:=hC0.bl col_57;replace oh_53:=oh_53.gr hC;replace h_15:=h_15.gr hC;replace ohb_54:=ohb_54.gr hC;replace hst:=hst.grow hC;have hkd_60:Zo (pS [440,441]) col_57 w_55 col_57 w_59:=hC.toP;refine Sk (col:=col_57) ([(r_38.1++(⟨#[61]⟩))++r_49.1]:List ByteArray) 3 ?_;intro a_61 w_62 col_63 hg_64 h_65;replace hkd_60:=hkd_60.gr hg_64;refine Zi ?_;refine ⟨fun w'=>Ze col_63 w_62 col_63 w',fun w'=>∃ c',Zo (pS [440,441]) col_63 w_62 c' w',Ze.refl _ _,fun _ h=>⟨_,h.toP⟩,fun _ _ h=>Za6 hC0 hg_64 h,fun _ _ ⟨c9,h⟩=>⟨c9,hkd_60.trans h⟩,?_⟩;refine Se O O ?_;intro w_66 hC0;have hC:=hC0.bl col_63;obtain ⟨hb_67,hm⟩:=Zr hm;replace h_15:=(h_15.gr hg_64).gr hC;replace h_65:=h_65.gr hC;refine Zbc (col:=col_63) (w:=w_66) (r:=Za.str) (c:=1) (c2:=1) (h_15.ex) (h_65.srcN NB.str) O underlying40 Z0k O O O hb_67.1 hb_67.2 (by decide) ?_;intro a_68 cap_69 w_70 col_71 hk_72 h_73;refine Zi ?_;refine ⟨fun w'=>Ze col_71 w_70 col_71 w',fun w'=>∃ c',Zo (pS [440,441]) col_71 w_70 c' w',Ze.refl _ _,fun _ h=>⟨_,h.toP⟩,fun h=>absurd h (by decide),fun h=>absurd h (by decide),?_⟩;refine Wu (v:=(.slice a_68 ((parts_12++([(r_38.1++(⟨#[61]⟩))++r_49.1]:List ByteArray)).length) cap_69)) O O (fun _=>Y2 O) ?_;have h_74:=h_73.new;refine Zm6 ?_;replace oh_53:=((oh_53.gr hg_64).gr hC).kpp hk_72;replace ohb_54:=((ohb_54.gr hg_64).gr hC).kpp hk_72;replace hst:=((hst.grow hg_64).grow hC).kpp hk_72;intro w_75 hC;replace hC:=hC.bl col_71;refine go ?_;replace oh_53:=oh_53.gr hC;replace h_74:=h_74.gr hC;replace ohb_54:=ohb_54.gr hC;replace hst:=hst.grow hC;exact ⟨l_17.length,by simp,O,⟨_,_,_,_,_,_,_,_,_,_,_,_,O,hl2_L1,hm,hst,oh_53,ohb_54,h_74,(Yz (congrArg (Value.int .i64) (Yw (Nat.lt_of_lt_of_le hlt_L1 (h2.ks hst).1.1))) O)⟩⟩
theorem Zzk (col:Zc) (w0:World) (qc0:Nat) (qc0_1:Nat) (hd:Yg [qc0,qc0_1]=true) (g0:Nat) (p0_b:((Bool×List Int)×Int×Bool)) (a0_2:Option Addr) (cap0_2:Nat) (h0_2:Zb (Za.int .u8) 5 qc0_1 col w0 a0_2 cap0_2 p0_b.1.2) (hb0:Zd 84 qc0 col w0 g0 #[.pointer (bif p0_b.1.1 then some ⟨g0,0,none⟩ else none),.slice a0_2 p0_b.1.2.length cap0_2,.int .i64 p0_b.2.1,.bool p0_b.2.2]) (r:((Bool×List Int)×Int×Bool)) (hm:Zjt p0_b=some r):
    Calls prog 68 #[.pointer (some ⟨g0,0,none⟩)] w0 (fun e w'=>∃ (col':Zc) (oa1:Option Addr) (oc2:Nat),e= .returned (.tuple #[])∧Zo (pS [qc0,qc0_1]) col w0 col' w'∧Zb (Za.int .u8) 5 qc0_1 col' w' oa1 oc2 r.1.2∧Zd 84 qc0 col' w' g0 #[.pointer (bif r.1.1 then some ⟨g0,0,none⟩ else none),.slice oa1 r.1.2.length oc2,.int .i64 r.2.1,.bool r.2.2]):=
  Zw7 col w0 qc0 qc0_1 hd g0 p0_b a0_2 cap0_2 h0_2 hb0 r hm
def Zlo (p0_b:((Bool×List Int)×Int×Bool)) (p1_s:ByteArray):Option (Int×(Option (Int×Int×Int×ByteArray))×((Bool×List Int)×Int×Bool)):=
  (Zjt ((p0_b.1.1,p0_b.1.2),p0_b.2.1,p0_b.2.2)).bind fun r_1=>Zp (r_1.1.2.length+p1_s.size≤140737488355328) (some ((p1_s.size:Int),(none:(Option (Int×Int×Int×ByteArray))),((r_1.1.1,r_1.1.2++Zg p1_s),r_1.2.1,r_1.2.2)))
theorem Zzi {g0 cap0_2:Nat} {a0_2:Option Addr} {col:Zc} {w0:World} {p0_b:((Bool×List Int)×Int×Bool)} {p1_s:ByteArray} {r:(Int×(Option (Int×Int×Int×ByteArray))×((Bool×List Int)×Int×Bool))} (qc0 qc0_1:Nat) (hm:Zlo p0_b p1_s=some r) (hd:Yg [qc0,qc0_1]=true) (h0_2:Zb (Za.int .u8) 5 qc0_1 col w0 a0_2 cap0_2 p0_b.1.2) (hb0:Zd 84 qc0 col w0 g0 #[.pointer (bif p0_b.1.1 then some ⟨g0,0,none⟩ else none),.slice a0_2 p0_b.1.2.length cap0_2,.int .i64 p0_b.2.1,.bool p0_b.2.2]):
    Calls prog 50 #[.pointer (some ⟨g0,0,none⟩),.string p1_s] w0 (fun e w'=>∃ (col':Zc) (rv1:Value) (oa3:Option Addr) (oc4:Nat),e= .returned (.tuple #[.int .i64 r.1,rv1])∧Zo (pS [qc0,qc0_1]) col w0 col' w'∧Rd (Za.err 72 29 (Za.pair (Za.int .i64) (Za.pair (Za.int .i64) (Za.pair (Za.int .i64) Za.str)))) col' w' [rv1] r.2.1∧Zb (Za.int .u8) 5 qc0_1 col' w' oa3 oc4 r.2.2.1.2∧Zd 84 qc0 col' w' g0 #[.pointer (bif r.2.2.1.1 then some ⟨g0,0,none⟩ else none),.slice oa3 r.2.2.1.2.length oc4,.int .i64 r.2.2.2.1,.bool r.2.2.2.2]):=by
 refine Zco 4 5 (m:=19) (args:=[.pointer (some ⟨g0,0,none⟩),.string p1_s]) func50 O O O O O ?_;rw [Zlo.eq_1] at hm;have hst:=St.startL (l:=[qc0,qc0_1]) O col w0;replace hb0:=hb0.startL (Ya hd 0 O) (X9 hd 0 O);replace h0_2:=h0_2.startL (Ya hd 1 O) (X9 hd 1 O);refine go ?_;refine lv (v:=.nilIface) O O (Y2 O)<|go ?_;obtain ⟨r_1,hr_2,hm⟩:=bZ hm;refine Zf (Zzk (Zx [qc0,qc0_1] col) _ 440 441 O g0 ((p0_b.1.1,p0_b.1.2),p0_b.2.1,p0_b.2.2) a0_2 cap0_2 h0_2 hb0 r_1 hr_2) ?_;rintro _ w_7 ⟨col_9,oa_3,oc_4,rfl,hg_8,oh_5,ohb_6⟩;refine ⟨_,O,go ?_⟩;refine lV (.pointer ((some (⟨g0,0,none⟩:Addr)).map (·.add 0))) (Z7 O)<|Zt ⟨_,_,O⟩ ?_;refine lW ((((ohb_6.atN).part 0 2 _ O)).nth (q:=1) O)<|Zgp O ?_;obtain ⟨hb_10,hm⟩:=Zr hm;refine Z1b (col:=col_9) (w:=w_7) (c:=441) (xs:=r_1.1.2) (s:=p1_s) oh_5 O underlying80 underlying9 (show prog.info? 5=some Tryz.t5 from O) O O O O O hb_10 (by decide) ?_;intro a_11 cap_12 w_13 col_14 hk_15 hs_16 h_17;refine lV (.pointer ((some (⟨g0,0,none⟩:Addr)).map (·.add 0))) (Z7 O)<|Zt ⟨_,_,O⟩ ?_;replace ohb_6:=ohb_6.kp hk_15;refine Xp (off:=1) (v:=(.slice a_11 ((r_1.1.2++Zg p1_s).length) cap_12)) ohb_6 sizeOf80 O O (by intro u hu;simp only [Value.cells,List.mem_cons,List.not_mem_nil,or_false] at hu;subst hu;rfl) O O ?_;intro w_18 hk_19 hs_20 hb_21;replace hb_21:Zd 84 440 col_14 w_18 g0 #[.pointer (bif r_1.1.1 then some ⟨g0,0,none⟩ else none),.slice a_11 ((r_1.1.2++Zg p1_s).length) cap_12,.int .i64 r_1.2.1,.bool r_1.2.2]:=hb_21;refine go ?_;refine lv (v:=.nilIface) O O (Y2 O)<|go ?_;cases hm;replace hst:=((hst.kpp hg_8).kp hk_15 hs_16).kp hk_19 hs_20;replace h_17:=h_17.kp hk_19;exact ⟨O,Xz w0.heap.size [qc0,qc0_1] col col_14 (fun n=>bif Nat.beq n 441 then qc0_1 else bif Nat.beq n 440 then qc0 else 0),.nilIface,a_11,cap_12,O,hst.finL O (fun n=>bif Nat.beq n 441 then qc0_1 else bif Nat.beq n 440 then qc0 else 0),Zim,hst.finOwnL (g:=(fun n=>bif Nat.beq n 441 then qc0_1 else bif Nat.beq n 440 then qc0 else 0)) O h_17 (by decide) (by decide) O,hst.finBoxL (g:=(fun n=>bif Nat.beq n 441 then qc0_1 else bif Nat.beq n 440 then qc0 else 0)) hb_21 (by decide) (by decide) O⟩
def So (p0_w:((Bool×List Int)×Int×Bool)) (p1_words:ByteArray):Option ((Bool×List Int)×Int×Bool):=
  Zp (p1_words.size+(⟨#[59,10]⟩:ByteArray).size≤maxLen) ((Zlo ((p0_w.1.1,p0_w.1.2),p0_w.2.1,p0_w.2.2) (p1_words++(⟨#[59,10]⟩))).bind fun r_2=>some ((r_2.2.2.1.1,r_2.2.2.1.2),i64.wrap (r_2.2.2.2.1+1),r_2.2.2.2.2))
theorem Zed {g0 cap0_2:Nat} {a0_2:Option Addr} {col:Zc} {w0:World} {p0_w:((Bool×List Int)×Int×Bool)} {p1_words:ByteArray} {r:((Bool×List Int)×Int×Bool)} (qc0 qc0_1:Nat) (hm:So p0_w p1_words=some r) (hd:Yg [qc0,qc0_1]=true) (h0_2:Zb (Za.int .u8) 5 qc0_1 col w0 a0_2 cap0_2 p0_w.1.2) (hb0:Zd 84 qc0 col w0 g0 #[.pointer (bif p0_w.1.1 then some ⟨g0,0,none⟩ else none),.slice a0_2 p0_w.1.2.length cap0_2,.int .i64 p0_w.2.1,.bool p0_w.2.2]):
    Calls prog 33 #[.pointer (some ⟨g0,0,none⟩),.string p1_words] w0 (fun e w'=>∃ (col':Zc) (oa1:Option Addr) (oc2:Nat),e= .returned (.tuple #[])∧Zo (pS [qc0,qc0_1]) col w0 col' w'∧Zb (Za.int .u8) 5 qc0_1 col' w' oa1 oc2 r.1.2∧Zd 84 qc0 col' w' g0 #[.pointer (bif r.1.1 then some ⟨g0,0,none⟩ else none),.slice oa1 r.1.2.length oc2,.int .i64 r.2.1,.bool r.2.2]):=by
 refine Za5 (m:=17) (args:=[.pointer (some ⟨g0,0,none⟩),.string p1_words]) func33 O O O O ?_;rw [So.eq_1] at hm;have hst:=St.startL (l:=[qc0,qc0_1]) O col w0;replace hb0:=hb0.startL (Ya hd 0 O) (X9 hd 0 O);replace h0_2:=h0_2.startL (Ya hd 1 O) (X9 hd 1 O);refine go ?_;refine lV (.pointer (some ⟨g0,0,none⟩)) (Z7 O)<|Zt ⟨_,_,O⟩ ?_;refine Zgp O ?_;obtain ⟨hb_1,hm⟩:=Zr hm;refine lV (.string (p1_words++(⟨#[59,10]⟩))) (Ut underlying9 O O hb_1) ?_;obtain ⟨r_2,hr_3,hm⟩:=bZ hm;refine Zf (Zzi 440 441 hr_3 O h0_2 hb0) ?_;rintro _ w_10 ⟨col_12,rv_4,oa_6,oc_7,rfl,hg_11,rh_5,oh_8,ohb_9⟩;refine ⟨_,O,go ?_⟩;refine lV (.pointer (some ⟨g0,0,none⟩)) (Z7 O)<|Zy ohb_9 ?_;refine go ?_;refine lV (.pointer (some ⟨g0,0,none⟩)) (Z7 O)<|Zt ⟨_,_,O⟩ ?_;refine Xp (off:=2) (v:=(.int .i64 (i64.wrap (r_2.2.2.2.1+1)))) ohb_9 sizeOf3 O O (by intro u hu;simp only [Value.cells,List.mem_cons,List.not_mem_nil,or_false] at hu;subst hu;rfl) O O ?_;intro w_13 hk_14 hs_15 hb_16;replace hb_16:Zd 84 440 col_12 w_13 g0 #[.pointer (bif r_2.2.2.1.1 then some ⟨g0,0,none⟩ else none),.slice oa_6 r_2.2.2.1.2.length oc_7,.int .i64 (i64.wrap (r_2.2.2.2.1+1)),.bool r_2.2.2.2.2]:=hb_16;refine Zi ?_;cases hm;replace hst:=(hst.kpp hg_11).kp hk_14 hs_15;replace oh_8:=oh_8.kp hk_14;exact ⟨O,Xz w0.heap.size [qc0,qc0_1] col col_12 (fun n=>bif Nat.beq n 441 then qc0_1 else bif Nat.beq n 440 then qc0 else 0),oa_6,oc_7,O,hst.finL O (fun n=>bif Nat.beq n 441 then qc0_1 else bif Nat.beq n 440 then qc0 else 0),hst.finOwnL (g:=(fun n=>bif Nat.beq n 441 then qc0_1 else bif Nat.beq n 440 then qc0 else 0)) O oh_8 (by decide) (by decide) O,hst.finBoxL (g:=(fun n=>bif Nat.beq n 441 then qc0_1 else bif Nat.beq n 440 then qc0 else 0)) hb_16 (by decide) (by decide) O⟩
abbrev W6:=List (ByteArray×ByteArray)
abbrev Xf:=Int×W6×W6×Int×List ByteArray×(Bool×Bool)
theorem Zxo {a b:ByteArray} (h:a.data.toList=b.data.toList):a=b:=ByteArray.ext (Array.toList_inj.1 h)
def Vt:List ByteArray→ByteArray
 | []=>⟨#[]⟩
 | y :: r=>(⟨#[44,32]⟩++y)++Vt r
def jn:List ByteArray→ByteArray
 | []=>⟨#[]⟩
 | x :: r=>x++Vt r
def X6 (l:List ByteArray):Nat:=(l.map fun s=>s.size+2).sum
theorem Zcd (x:ByteArray) (l:List ByteArray):X6 (x :: l)=x.size+2+X6 l:=by simp [X6]
theorem Z38 (a b:List ByteArray):X6 (a++b)=X6 a+X6 b:=by simp [X6]
theorem Zst:∀ l:List ByteArray,(Vt l).size≤X6 l
 | []=>Nat.zero_le _
 | x :: l=>by
  have:=Zst l
  have h2:(⟨#[44,32]⟩:ByteArray).size=2:=rfl
  rw [Vt,Zcd,ByteArray.size_append,ByteArray.size_append,h2];omega
theorem Zgn (l:List ByteArray):(jn l).size≤X6 l:=by
 cases l with
 | nil=>exact Nat.zero_le _
 | cons x l=>
  have:=Zst l
  rw [jn,Zcd,ByteArray.size_append];omega
theorem Zsr:∀ l:List ByteArray,(Vt l).data.toList=Lib.joinTail [44,32] (l.map (·.data.toList))
 | []=>rfl
 | x :: l=>by
  rw [Vt,ByteArray.toList_data_append,ByteArray.toList_data_append,Zsr l,Lib.joinTail,Lib.joinTail,List.map_cons,List.map_cons,List.flatten_cons]
theorem Z09 (l:List ByteArray):Zji l ⟨#[44,32]⟩=jn l:=by
 apply Zxo
 cases l with
 | nil=>rfl
 | cons x l=>
  rw [jn,ByteArray.toList_data_append,Zsr]
  show Lib.join _ [44,32]=_
  rw [List.map_cons,Lib.join_cons]
theorem Zs4 {l:List ByteArray} (h:X6 l≤140737488355328) (h2:l.length≤140737488355328):Zer l ⟨#[44,32]⟩=some (jn l):=by
 have e:=Z09 l
 have h3:(Lib.join (l.map (·.data.toList)) (⟨#[44,32]⟩:ByteArray).data.toList).length=(Zji l ⟨#[44,32]⟩).size:=by
  exact List.size_toArray.symm
 have h4:=Zgn l
 rw [Zer,Xx ⟨by rw [h3,e];omega,h2⟩,e]
def wd (p:ByteArray×ByteArray):ByteArray:=(p.1++⟨#[61]⟩)++p.2
def Z4 (l:W6):Nat:=(l.map fun p=>p.1.size+p.2.size+3).sum
theorem Qb (p:ByteArray×ByteArray) (l:W6):Z4 (p :: l)=p.1.size+p.2.size+3+Z4 l:=by simp [Z4]
theorem Zqv:∀ l:W6,3 * l.length≤Z4 l
 | []=>by simp
 | p :: l=>by have:=Zqv l;rw [Qb,List.length_cons];omega
theorem Zir:∀ l:List ByteArray,2 * l.length≤X6 l
 | []=>by simp
 | p :: l=>by have:=Zir l;rw [Zcd,List.length_cons];omega
theorem Zv6 (p:ByteArray×ByteArray):(wd p).size=p.1.size+p.2.size+1:=by
 have h2:(⟨#[61]⟩:ByteArray).size=1:=rfl
 rw [wd,ByteArray.size_append,ByteArray.size_append,h2];omega
theorem Zd1:∀ l:W6,X6 (l.map wd)=Z4 l
 | []=>rfl
 | p :: l=>by rw [List.map_cons,Zcd,Qb,Zd1 l,Zv6]
/-! the program's writer -/
abbrev Zf9:=(Bool×List Int)×Int×Bool
def V5 (p:ByteArray×ByteArray):Bool:=Y1 p.1&&Y1 p.2
theorem Zm4 {N:Nat} {w:Zf9} {s:ByteArray} (hs:s.size≤1099511627776) (hN:s.size<N):Zbv N w s=some (s,((w.1.1,w.1.2),w.2.1,w.2.2||!Y1 s)):=by
 rw [Zbv]
 cases h:w.2.2 with
 | true=>rw [if_pos rfl,Zfl];rfl
 | false=>rw [if_neg (by decide),Z1u hs hN,Option.bind_some,Zfl];rfl
theorem Zv8 {N:Nat} {L:List ByteArray} (hL:X6 L≤1099511627776):∀ (l:List ByteArray) (fl:Bool) (xs:List Int) (n:Int) (o:Bool),X6 l≤1099511627776→X6 l<N→Zbw N L l fl xs n o=some (jn L,((fl,xs),n,o||!(l.all Y1)))
 | [],fl,xs,n,o,h,_=>by
  have:=Zir L
  rw [Zbw.eq_1,Zs4 (by omega) (by omega),Option.bind_some]
  simp
 | x :: l,fl,xs,n,o,h,hN=>by
  rw [Zcd] at h hN
  rw [Zbw.eq_2,Zm4 (by omega) (by omega),Option.bind_some,Zv8 hL l fl xs n _ (by omega) (by omega),List.all_cons]
  cases o <;> cases Y1 x <;> simp
theorem Z4l {N:Nat} {w:Zf9} {l:List ByteArray} (h:X6 l≤1099511627776) (hN:X6 l<N):Zk5 N w l=some (jn l,((w.1.1,w.1.2),w.2.1,w.2.2||!(l.all Y1))):=Zv8 h l _ _ _ _ h hN
def Uj (head:ByteArray) (ps:List ByteArray):ByteArray:=if ps=[] then ⟨#[]⟩ else head++jn ps
theorem Zwa {N:Nat} {head:ByteArray} (hh:head.size≤1099511627776):∀ (l:W6) (fl:Bool) (xs:List Int) (n:Int) (o:Bool) (ps:List ByteArray),X6 ps+Z4 l≤1099511627776→Z4 l<N→
  Zby N head l fl xs n o ps=some (Uj head (ps++l.map wd),((fl,xs),n,o||!(l.all V5)))
 | [],fl,xs,n,o,ps,h,_=>by
  have h1:=Zir ps
  have h2:=Zgn ps
  rw [Zby.eq_1,List.map_nil,List.append_nil,Uj]
  by_cases hp:ps=[]
  ·subst hp;simp
  ·have:ps.length≠0:=fun e=>hp (List.length_eq_zero_iff.1 e)
   rw [if_neg (by rw [decide_eq_false (by omega)];decide),Zs4 (by omega) (by omega),Option.bind_some,Xx (by simp only [maxLen];omega),if_neg hp]
   simp
 | p :: l,fl,xs,n,o,ps,h,hN=>by
  have h1:=Zir ps
  have e1:(⟨#[61]⟩:ByteArray).size=1:=rfl
  rw [Qb] at h hN
  rw [Zby.eq_2,Zm4 (by omega) (by omega),Option.bind_some,Xx (by rw [e1];simp only [maxLen];omega),Zm4 (by omega) (by omega),Option.bind_some,Xx (by rw [ByteArray.size_append,e1];simp only [maxLen];omega),Xx (by simp only [List.length_cons,List.length_nil,maxLen];omega)]
  have e2:X6 (ps++[wd p])=X6 ps+(p.1.size+p.2.size+3):=by rw [Z38,Zcd,Zv6];rfl
  have ih:=Zwa (N:=N) hh l fl xs n ((o||!Y1 p.1)||!Y1 p.2) (ps++[wd p]) (by rw [e2];omega) (by omega)
  rw [wd] at ih
  refine ih.trans ?_
  rw [List.all_cons,V5,List.map_cons,List.append_assoc,List.singleton_append,wd]
  cases o <;> cases Y1 p.1 <;> cases Y1 p.2 <;> simp
theorem Zm5 {N:Nat} {w:Zf9} {head:ByteArray} {l:W6} (hh:head.size≤1099511627776) (h:Z4 l≤1099511627776) (hN:Z4 l<N):Zbx N w head l=some (Uj head (l.map wd),((w.1.1,w.1.2),w.2.1,w.2.2||!(l.all V5))):=by
 rw [Zbx]
 have:=Zwa (N:=N) hh l w.1.1 w.1.2 w.2.1 w.2.2 [] (by simpa [X6] using h) hN
 simpa using this
theorem Zf5 {w:Zf9} {s:ByteArray} (h:w.1.2.length+s.size+2≤140737488355328):So w s=some ((true,w.1.2++Zg (s++⟨#[59,10]⟩)),i64.wrap (w.2.1+1),w.2.2):=by
 have e1:(⟨#[59,10]⟩:ByteArray).size=2:=rfl
 rw [So,Xx (by rw [e1];simp only [maxLen];omega),Zlo,Zjt,Option.bind_some,Xx (by rw [ByteArray.size_append,e1];show w.1.2.length+_≤_;omega),Option.bind_some]
theorem Zdp (head:ByteArray) (ps:List ByteArray):(Uj head ps).size≤head.size+X6 ps:=by
 rw [Uj]
 split
 ·exact Nat.zero_le _
 ·have:=Zgn ps
  rw [ByteArray.size_append];omega
def Xt (q:Xf):ByteArray:=if q.2.2.2.1=1 then ⟨#[117,115,101,32,102,105,108,108]⟩ else if q.2.2.2.1=2 then ⟨#[117,115,101,32,100,101,103,114,101,101]⟩ else if q.2.2.2.1=3 then ((⟨#[117,115,101,32,111,114,100,101,114,40]⟩:ByteArray)++jn q.2.2.2.2.1)++⟨#[41]⟩ else ⟨#[]⟩
def Tj (q:Xf):Bool:=decide (q.2.2.2.1=1∨q.2.2.2.1=2∨q.2.2.2.1=3)
def U5 (q:Xf):Bool:=!decide (q.2.2.2.1=3)||q.2.2.2.2.1.all Y1
theorem Zq2 (q:Xf):(Xt q).size≤X6 q.2.2.2.2.1+11:=by
 have:=Zgn q.2.2.2.2.1
 have e1:(⟨#[117,115,101,32,102,105,108,108]⟩:ByteArray).size=8:=rfl
 have e2:(⟨#[117,115,101,32,100,101,103,114,101,101]⟩:ByteArray).size=10:=rfl
 have e3:(⟨#[117,115,101,32,111,114,100,101,114,40]⟩:ByteArray).size=10:=rfl
 have e4:(⟨#[41]⟩:ByteArray).size=1:=rfl
 have e5:(⟨#[]⟩:ByteArray).size=0:=rfl
 rw [Xt]
 split
 ·omega
 ·split
  ·omega
  ·split
   ·rw [ByteArray.size_append,ByteArray.size_append];omega
   ·omega
theorem Z4p {N:Nat} {w:Zf9} {q:Xf} (h:X6 q.2.2.2.2.1≤1099511627776) (hN:X6 q.2.2.2.2.1<N):Zhy N w q=some (Xt q,((w.1.1,w.1.2),w.2.1,w.2.2||!(Tj q&&U5 q))):=by
 have e3:(⟨#[117,115,101,32,111,114,100,101,114,40]⟩:ByteArray).size=10:=rfl
 have e4:(⟨#[41]⟩:ByteArray).size=1:=rfl
 have h5:=Zgn q.2.2.2.2.1
 rw [Zhy,Xt,Tj,U5]
 by_cases h1:q.2.2.2.1=1
 ·rw [if_pos (decide_eq_true h1),if_pos h1];simp [h1]
 ·by_cases h2:q.2.2.2.1=2
  ·rw [if_neg (by rw [decide_eq_false h1];decide),if_pos (decide_eq_true h2),if_neg h1,if_pos h2];simp [h2]
  ·by_cases h3:q.2.2.2.1=3
   ·rw [if_neg (by rw [decide_eq_false h1];decide),if_neg (by rw [decide_eq_false h2];decide),if_pos (decide_eq_true h3),if_neg h1,if_neg h2,if_pos h3,Z4l h hN,Option.bind_some,Xx (by rw [e3];simp only [maxLen];omega),Xx (by rw [ByteArray.size_append,e3,e4];simp only [maxLen];omega)]
    simp [h3]
   ·rw [if_neg (by rw [decide_eq_false h1];decide),if_neg (by rw [decide_eq_false h2];decide),if_neg (by rw [decide_eq_false h3];decide),if_neg h1,if_neg h2,if_neg h3]
    simp [h1,h2,h3]
theorem Zzh (col:Zc) (w0:World) (qc0:Nat) (qc0_1:Nat) (hd:Yg [qc0,qc0_1]=true) (g0:Nat) (p0_b:((Bool×List Int)×Int×Bool)) (a0_2:Option Addr) (cap0_2:Nat) (h0_2:Zb (Za.int .u8) 5 qc0_1 col w0 a0_2 cap0_2 p0_b.1.2) (hb0:Zd 84 qc0 col w0 g0 #[.pointer (bif p0_b.1.1 then some ⟨g0,0,none⟩ else none),.slice a0_2 p0_b.1.2.length cap0_2,.int .i64 p0_b.2.1,.bool p0_b.2.2]) (r:ByteArray) (hm:Zjv p0_b=some r):
    Calls prog 36 #[.pointer (some ⟨g0,0,none⟩)] w0 (fun e w'=>∃ (col':Zc),e= .returned ((.string r))∧Zo (pS [qc0,qc0_1]) col w0 col' w'):=
  Zxn col w0 qc0 qc0_1 hd g0 p0_b a0_2 cap0_2 h0_2 hb0 r hm
def Zaq (p0_q:(Int×(List (ByteArray×ByteArray))×(List (ByteArray×ByteArray))×Int×List ByteArray×(Bool×Bool))):Option Bool:=
  if (decide (p0_q.1=1))=true then (some (decide ((p0_q.2.2.1.length:Int)=0))) else (if (decide (p0_q.1=2))=true then (some (decide (0<(p0_q.2.1.length:Int)))) else (if (decide (p0_q.1=3))=true then (some (decide ((p0_q.2.1.length:Int)=1))) else (some false)))
theorem Zi4 {cap0_0 cap0_2 cap0_4:Nat} {a0_0 a0_2 a0_4:Option Addr} {col:Zc} {w0:World} {p0_q:(Int×(List (ByteArray×ByteArray))×(List (ByteArray×ByteArray))×Int×List ByteArray×(Bool×Bool))} {r:Bool} (hm:Zaq p0_q=some r) (h0_0:Sl (Za.pair Za.str Za.str) col w0 a0_0 cap0_0 p0_q.2.1) (h0_2:Sl (Za.pair Za.str Za.str) col w0 a0_2 cap0_2 p0_q.2.2.1) (h0_4:Sl Za.str col w0 a0_4 cap0_4 p0_q.2.2.2.2.1):
    Calls prog 31 #[(.agg #[.int .i8 p0_q.1,.slice a0_0 p0_q.2.1.length cap0_0,.slice a0_2 p0_q.2.2.1.length cap0_2,.int .i8 p0_q.2.2.2.1,.slice a0_4 p0_q.2.2.2.2.1.length cap0_4,.bool p0_q.2.2.2.2.2.1,.bool p0_q.2.2.2.2.2.2])] w0 (fun e w'=>e= .returned ((.bool r))∧Below w0.heap.size w0 w'):=by
 refine Z0 2 (m:=23) func31 O O O O O ?_;rw [Zaq.eq_1] at hm;have hst:=St.start col w0;refine go ?_;refine Yl (col:=(Zh col)) 1 O ?_;intro g_1 w_2 col_3 hg_4 hb_5;refine go ?_;refine Zy hb_5 ?_;refine go ?_;replace hst:=hst.grow hg_4;refine Zl hm (fun hb hm=>go ?_) fun hb hm=>go ?_
 ·refine Zy hb_5 ?_;refine go ?_;cases hm;exact ⟨O,O,hst.below⟩
 refine Zl hm (fun hb hm=>go ?_) fun hb hm=>go ?_
 ·refine Zy hb_5 ?_;refine go ?_;cases hm;exact ⟨O,O,hst.below⟩
 refine Zl hm (fun hb hm=>go ?_) fun hb hm=>go ?_
 ·refine Zy hb_5 ?_;refine go ?_;cases hm;exact ⟨O,O,hst.below⟩
 cases hm;exact ⟨O,O,hst.below⟩
def Zfe (v_19:Bool) (v_20:List Int) (v_24:Int) (v_25:Bool) (v_35:Bool):Option (ByteArray×Int):=
  if v_35=true then (some (⟨#[]⟩,50)) else ((Zjv ((v_19,v_20),v_24,v_25)).bind fun r_36=>some (r_36,0))
def Qt (kk_L1:(Bool→(List Int)→Int→Bool→ByteArray→Bool→Bool→Option (ByteArray×Int))) (v_44:Bool) (v_45:List Int) (v_49:Int) (v_50:Bool) (used_51:ByteArray) (pruned_52:Bool) (pruned_53:Bool):Option (ByteArray×Int):=
  kk_L1 v_44 v_45 v_49 v_50 used_51 pruned_52 pruned_53
def Zbs (N:Nat) (kk_L1:(Bool→(List Int)→Int→Bool→ByteArray→Bool→Bool→Option (ByteArray×Int))) (x_29:(Int×(List (ByteArray×ByteArray))×(List (ByteArray×ByteArray))×Int×List ByteArray×(Bool×Bool))) (used_104:ByteArray):List (ByteArray×ByteArray)→Bool→(List Int)→Int→Bool→Option (ByteArray×Int)
  | [],v_184,v_185,v_189,v_190=>Qt kk_L1 v_184 v_185 v_189 v_190 used_104 x_29.2.2.2.2.2.1 x_29.2.2.2.2.2.2
  | x_191 :: l_192,v_184,v_185,v_189,v_190=>(Zbv N ((v_184,v_185),v_189,v_190) x_191.1).bind fun r_208=>Zp ((⟨#[97,108,108,32]⟩:ByteArray).size+r_208.1.size≤maxLen) ((Zbx N ((r_208.2.1.1,r_208.2.1.2),r_208.2.2.1,r_208.2.2.2) (⟨#[32,124,32]⟩) x_29.2.2.1).bind fun r_219=>Zp (((⟨#[97,108,108,32]⟩:ByteArray)++r_208.1).size+r_219.1.size≤maxLen) ((So ((r_219.2.1.1,r_219.2.1.2),r_219.2.2.1,r_219.2.2.2) (((⟨#[97,108,108,32]⟩:ByteArray)++r_208.1)++r_219.1)).bind fun r_230=>(Zbs N kk_L1 x_29 used_104 l_192) r_230.1.1 r_230.1.2 r_230.2.1 r_230.2.2))
termination_by structural x=>x
def Zfi (N:Nat) (kk_L1:(Bool→(List Int)→Int→Bool→ByteArray→Bool→Bool→Option (ByteArray×Int))) (x_29:(Int×(List (ByteArray×ByteArray))×(List (ByteArray×ByteArray))×Int×List ByteArray×(Bool×Bool))) (used_104:ByteArray) (v_116:Bool) (v_117:List Int) (v_121:Int) (v_122:Bool):Option (ByteArray×Int):=
  if (decide (x_29.1=1))=true then ((Zbx N ((v_116,v_117),v_121,v_122) (⟨#[32]⟩) x_29.2.1).bind fun r_127=>Zp ((⟨#[99,104,97,110,99,101]⟩:ByteArray).size+r_127.1.size≤maxLen) ((So ((r_127.2.1.1,r_127.2.1.2),r_127.2.2.1,r_127.2.2.2) ((⟨#[99,104,97,110,99,101]⟩:ByteArray)++r_127.1)).bind fun r_137=>Qt kk_L1 r_137.1.1 r_137.1.2 r_137.2.1 r_137.2.2 used_104 x_29.2.2.2.2.2.1 x_29.2.2.2.2.2.2)) else (if (decide (x_29.1=2))=true then ((Zbx N ((v_116,v_117),v_121,v_122) (⟨#[32]⟩) x_29.2.1).bind fun r_148=>Zp ((⟨#[97,115,107]⟩:ByteArray).size+r_148.1.size≤maxLen) ((Zbx N ((r_148.2.1.1,r_148.2.1.2),r_148.2.2.1,r_148.2.2.2) (⟨#[32,124,32]⟩) x_29.2.2.1).bind fun r_159=>Zp (((⟨#[97,115,107]⟩:ByteArray)++r_148.1).size+r_159.1.size≤maxLen) ((So ((r_159.2.1.1,r_159.2.1.2),r_159.2.2.1,r_159.2.2.2) (((⟨#[97,115,107]⟩:ByteArray)++r_148.1)++r_159.1)).bind fun r_170=>Qt kk_L1 r_170.1.1 r_170.1.2 r_170.2.1 r_170.2.2 used_104 x_29.2.2.2.2.2.1 x_29.2.2.2.2.2.2))) else (if (decide (x_29.1=3))=true then (Zbs N kk_L1 x_29 used_104 x_29.2.1 v_116 v_117 v_121 v_122) else (Qt kk_L1 v_116 v_117 v_121 v_122 used_104 x_29.2.2.2.2.2.1 x_29.2.2.2.2.2.2)))
def Zfh (N:Nat) (pruned_28:Bool) (kk_L1:(Bool→(List Int)→Int→Bool→ByteArray→Bool→Bool→Option (ByteArray×Int))) (x_29:(Int×(List (ByteArray×ByteArray))×(List (ByteArray×ByteArray))×Int×List ByteArray×(Bool×Bool))) (used_104:ByteArray) (v_107:Bool) (v_108:List Int) (v_112:Int) (v_113:Bool):Option (ByteArray×Int):=
  if (!decide (x_29.2.2.2.2.2.2=pruned_28))=true then (Zp ((⟨#[112,114,117,110,101,32]⟩:ByteArray).size+(⟨#[97,112,97,114,116]⟩:ByteArray).size≤maxLen) (Zp (((⟨#[112,114,117,110,101,32]⟩:ByteArray)++(⟨#[97,112,97,114,116]⟩)).size+(⟨#[32]⟩:ByteArray).size≤maxLen) ((some (Wo ([]:List (Bool×ByteArray)) true (⟨#[111,110]⟩))).bind fun es_252=>(some (Wo es_252 false (⟨#[111,102,102]⟩))).bind fun es_258=>Zp ((((⟨#[112,114,117,110,101,32]⟩:ByteArray)++(⟨#[97,112,97,114,116]⟩))++(⟨#[32]⟩)).size+((X4 es_258 x_29.2.2.2.2.2.2).getD (⟨#[]⟩)).size≤maxLen) ((So ((v_107,v_108),v_112,v_113) ((((⟨#[112,114,117,110,101,32]⟩:ByteArray)++(⟨#[97,112,97,114,116]⟩))++(⟨#[32]⟩))++((X4 es_258 x_29.2.2.2.2.2.2).getD (⟨#[]⟩)))).bind fun r_261=>Zfi N kk_L1 x_29 used_104 r_261.1.1 r_261.1.2 r_261.2.1 r_261.2.2)))) else (Zfi N kk_L1 x_29 used_104 v_107 v_108 v_112 v_113)
def Zfg (N:Nat) (pruned_27:Bool) (pruned_28:Bool) (kk_L1:(Bool→(List Int)→Int→Bool→ByteArray→Bool→Bool→Option (ByteArray×Int))) (x_29:(Int×(List (ByteArray×ByteArray))×(List (ByteArray×ByteArray))×Int×List ByteArray×(Bool×Bool))) (v_97:Bool) (v_98:List Int) (v_102:Int) (v_103:Bool) (used_104:ByteArray):Option (ByteArray×Int):=
  if (!decide (x_29.2.2.2.2.2.1=pruned_27))=true then (Zp ((⟨#[112,114,117,110,101,32]⟩:ByteArray).size+(⟨#[98,97,114,114,101,110]⟩:ByteArray).size≤maxLen) (Zp (((⟨#[112,114,117,110,101,32]⟩:ByteArray)++(⟨#[98,97,114,114,101,110]⟩)).size+(⟨#[32]⟩:ByteArray).size≤maxLen) ((some (Wo ([]:List (Bool×ByteArray)) true (⟨#[111,110]⟩))).bind fun es_282=>(some (Wo es_282 false (⟨#[111,102,102]⟩))).bind fun es_288=>Zp ((((⟨#[112,114,117,110,101,32]⟩:ByteArray)++(⟨#[98,97,114,114,101,110]⟩))++(⟨#[32]⟩)).size+((X4 es_288 x_29.2.2.2.2.2.1).getD (⟨#[]⟩)).size≤maxLen) ((So ((v_97,v_98),v_102,v_103) ((((⟨#[112,114,117,110,101,32]⟩:ByteArray)++(⟨#[98,97,114,114,101,110]⟩))++(⟨#[32]⟩))++((X4 es_288 x_29.2.2.2.2.2.1).getD (⟨#[]⟩)))).bind fun r_291=>Zfh N pruned_28 kk_L1 x_29 used_104 r_291.1.1 r_291.1.2 r_291.2.1 r_291.2.2)))) else (Zfh N pruned_28 kk_L1 x_29 used_104 v_97 v_98 v_102 v_103)
def Zff (N:Nat) (used_26:ByteArray) (pruned_27:Bool) (pruned_28:Bool) (kk_L1:(Bool→(List Int)→Int→Bool→ByteArray→Bool→Bool→Option (ByteArray×Int))) (x_29:(Int×(List (ByteArray×ByteArray))×(List (ByteArray×ByteArray))×Int×List ByteArray×(Bool×Bool))) (v_88:Bool) (v_89:List Int) (v_93:Int) (v_94:Bool):Option (ByteArray×Int):=
  (Zhy N ((v_88,v_89),v_93,v_94) (x_29.1,x_29.2.1,x_29.2.2.1,x_29.2.2.2.1,x_29.2.2.2.2.1,(x_29.2.2.2.2.2.1,x_29.2.2.2.2.2.2))).bind fun r_300=>if (!decide (r_300.1=used_26))=true then ((So ((r_300.2.1.1,r_300.2.1.2),r_300.2.2.1,r_300.2.2.2) r_300.1).bind fun r_309=>Zfg N pruned_27 pruned_28 kk_L1 x_29 r_309.1.1 r_309.1.2 r_309.2.1 r_309.2.2 r_300.1) else (Zfg N pruned_27 pruned_28 kk_L1 x_29 r_300.2.1.1 r_300.2.1.2 r_300.2.2.1 r_300.2.2.2 used_26)
def V3 (N:Nat):List (Int×(List (ByteArray×ByteArray))×(List (ByteArray×ByteArray))×Int×List ByteArray×(Bool×Bool))→Bool→(List Int)→Int→Bool→ByteArray→Bool→Bool→Option (ByteArray×Int)
  | [],v_19,v_20,v_24,v_25,used_26,pruned_27,pruned_28=>if v_25=true then (Zfe v_19 v_20 v_24 v_25 true) else (Zfe v_19 v_20 v_24 v_25 (decide (4096<v_24)))
  | x_29 :: l_30,v_19,v_20,v_24,v_25,used_26,pruned_27,pruned_28=>if v_25=true then (Zff N used_26 pruned_27 pruned_28 (V3 N l_30) x_29 v_19 v_20 v_24 true) else ((Zaq (x_29.1,x_29.2.1,x_29.2.2.1,x_29.2.2.2.1,x_29.2.2.2.2.1,(x_29.2.2.2.2.2.1,x_29.2.2.2.2.2.2))).bind fun r_323=>Zff N used_26 pruned_27 pruned_28 (V3 N l_30) x_29 v_19 v_20 v_24 (!r_323))
termination_by structural x=>x
def Zfd (N:Nat) (p0_l:(List (Int×(List (ByteArray×ByteArray))×(List (ByteArray×ByteArray))×Int×List ByteArray×(Bool×Bool)))):Option (ByteArray×Int):=
  V3 N p0_l false ([]:List Int) 0 false (⟨#[117,115,101,32,102,105,108,108]⟩) false false
theorem Znq {N cap0:Nat} {a0:Option Addr} {col:Zc} {w0:World} {p0_l:(List (Int×(List (ByteArray×ByteArray))×(List (ByteArray×ByteArray))×Int×List ByteArray×(Bool×Bool)))} {r:(ByteArray×Int)} (hm:Zfd N p0_l=some r) (h0:Sl (Za.pair (Za.int .i8) (Za.pair (Za.slice (Za.pair Za.str Za.str)) (Za.pair (Za.slice (Za.pair Za.str Za.str)) (Za.pair (Za.int .i8) (Za.pair (Za.slice Za.str) (Za.pair Za.bool Za.bool)))))) col w0 a0 cap0 p0_l):
    Calls prog 10 #[.slice a0 p0_l.length cap0] w0 (fun e w'=>e= .returned (.tuple #[.string r.1,.int .i64 r.2])∧Below w0.heap.size w0 w'):=by
 refine Zco 2 3 (m:=136) (args:=[.slice a0 p0_l.length cap0]) func10 O O O O O ?_;rw [Zfd.eq_1] at hm;have hst:=St.start col w0;refine go ?_;refine Xs (col:=(Zh col)) #[.pointer none,.slice none (([]:List Int).length) 0,.int .i64 0,.bool false] 1 zeroValue84 ?_;intro g_1 w_2 col_3 hg_4 hb_5;refine go ?_;refine lV (.agg #[.bool false,.bool false]) (Zqc underlying48 sizeOf4 zeroValue48 O)<|Xs (col:=col_3) #[.bool false,.bool false] 2 zeroValue48 ?_;intro g_6 w_7 col_8 hg_9 hb_10;refine Zgo O<|Xb hb_10 ?_;intro w_11 hk_12 hs_13 hb_14;refine go ?_;replace hst:=((hst.grow hg_4).grow hg_9).kp hk_12 hs_13;replace hb_5:=(hb_5.gr hg_9).kp hk_12;refine Z5 [16,17,4,6,1000000] (fun n f w_17=>∃ col_18 k_15 v_19 a_21 cap_22 v_20 v_24 v_25 used_26 pruned_27 pruned_28 l_16,n=l_16.length∧p0_l.drop k_15=l_16∧V3 N l_16 v_19 v_20 v_24 v_25 used_26 pruned_27 pruned_28=some r∧St w0 (Zh col) col_18 w_17∧Zb (Za.int .u8) 5 3 col_18 w_17 a_21 cap_22 v_20∧Zd 84 1 col_18 w_17 g_1 #[.pointer (bif v_19 then some ⟨g_1,0,none⟩ else none),.slice a_21 v_20.length cap_22,.int .i64 v_24,.bool v_25]∧Zd 48 2 col_18 w_17 g_6 #[.bool pruned_27,.bool pruned_28]∧[18,5].map f=[.int .i64 k_15,.string used_26]) p0_l.length ⟨_,0,_,none,0,_,0,_,_,_,_,_,O,O,hm,hst,Zb.nil,hb_5,hb_14,O⟩ ?_;clear hm;intro n f w_17 hI;obtain ⟨col_18,k_15,v_19,a_21,cap_22,v_20,v_24,v_25,used_26,pruned_27,pruned_28,l_16,hn,hl,hm,hst,h_23,hb_5,hb_14,hs⟩:=hI;subst hn;refine .lL [18,5] hs ?_;replace h0:=h0.keep (Zk.start col w0)
 cases l_16 with
 | nil=>
  have hk:¬ ((k_15:Int)<(p0_l.length:Int)):=by have:=List.drop_eq_nil_iff.1 hl;omega
  have hkb:=decide_eq_false hk;rw [V3.eq_1] at hm;refine go ?_;refine Ye (congrArg Value.bool hkb) ?_;refine Q5 (Zaf ?_);refine Zm<|Zm ?_;refine Wp.cutK [4,1000000] (fun f w_33=>∃ col_34 v_35,Zfe v_19 v_20 v_24 v_25 v_35=some r∧St w0 (Zh col) col_34 w_33∧Zb (Za.int .u8) 5 3 col_34 w_33 a_21 cap_22 v_20∧Zd 84 1 col_34 w_33 g_1 #[.pointer (bif v_19 then some ⟨g_1,0,none⟩ else none),.slice a_21 v_20.length cap_22,.int .i64 v_24,.bool v_25]∧[131].map f=[.bool v_35]) ?_ ?_
  ·intro f w_33 hJ;obtain ⟨col_34,v_35,hm,hst,h_23,hb_5,hs⟩:=hJ;rw [Zfe.eq_1] at hm;refine .lL [131] hs ?_;refine Zl hm (fun hb hm=>go ?_) fun hb hm=>go ?_
   ·cases hm;exact ⟨O,O,hst.below⟩
   refine lV (.pointer (some ⟨g_1,0,none⟩)) (Z7 O)<|Zt ⟨_,_,O⟩ ?_;obtain ⟨r_36,hr_37,hm⟩:=bZ hm;refine Zf (Zzh col_34 _ 1 3 O g_1 ((v_19,v_20),v_24,v_25) a_21 cap_22 h_23 hb_5 r_36 hr_37) ?_;rintro _ w_38 ⟨col_40,rfl,hg_39⟩;refine ⟨_,O,go ?_⟩;cases hm;replace hst:=hst.kpp hg_39;exact ⟨O,O,hst.below⟩
  refine go ?_;refine lV (.pointer (some ⟨g_1,0,none⟩)) (Z7 O)<|Zy hb_5<|Xo O ?_;refine Z3 hm (fun hg_41 hm=>go ?_) fun hg_41 hm=>go ?_
  ·refine lV (.bool true) (Zv (congrArg Value.bool hg_41) O)<|Zi ?_;exact ⟨O,_,_,hm,hst,h_23,hb_5,O⟩
  refine lV (.pointer (some ⟨g_1,0,none⟩)) (Z7 O)<|go ?_;refine Zt ⟨_,_,O⟩ ?_;refine go ?_;refine lW ((hb_5.atN).nth (q:=2) O)<|go ?_;refine lV (.bool (decide (4096<v_24))) (Zu (congrArg Value.bool hg_41) O)<|Zi ?_;exact ⟨O,_,_,hm,hst,h_23,hb_5,O⟩
 | cons x_29 l_30=>
  obtain ⟨hat,hl2_L1,hlt_L1⟩:=Yt hl;have hk:(k_15:Int)<(p0_l.length:Int):=by omega
  have hkb:=decide_eq_true hk;rw [V3.eq_2] at hm;refine go ?_;refine X7 (congrArg Value.bool hkb)<|Zz<|Zm ?_;refine Wp.cutK [16,17,18,4,6,1000000] (fun f w_42=>∃ col_43 v_44 a_46 cap_47 v_45 v_49 v_50 used_51 pruned_52 pruned_53,Qt (V3 N l_30) v_44 v_45 v_49 v_50 used_51 pruned_52 pruned_53=some r∧St w0 (Zh col) col_43 w_42∧Zb (Za.int .u8) 5 3 col_43 w_42 a_46 cap_47 v_45∧Zd 84 1 col_43 w_42 g_1 #[.pointer (bif v_44 then some ⟨g_1,0,none⟩ else none),.slice a_46 v_45.length cap_47,.int .i64 v_49,.bool v_50]∧Zd 48 2 col_43 w_42 g_6 #[.bool pruned_52,.bool pruned_53]∧[5].map f=[.string used_51]) ?_ ?_
  ·intro f w_42 hJ;obtain ⟨col_43,v_44,a_46,cap_47,v_45,v_49,v_50,used_51,pruned_52,pruned_53,hm,hst,h_48,hb_5,hb_14,hs⟩:=hJ;rw [Qt.eq_1] at hm;refine .lL [5] hs<|go ?_;exact ⟨l_30.length,by simp,O,⟨_,_,_,_,_,_,_,_,_,_,_,_,O,hl2_L1,hm,hst,h_48,hb_5,hb_14,(Yz (congrArg (Value.int .i64) (Yw (Nat.lt_of_lt_of_le hlt_L1 (h0.ks hst).1.1))) O)⟩⟩
  refine go ?_;refine lI hat ((h0.ks hst).addr hat) ?_;obtain ⟨_,hr_54,hA_55⟩:=(h0.ks hst).atN hat;obtain ⟨_,_,rfl,hp_56,hp_57⟩:=Xh hr_54;obtain ⟨rfl,_⟩:=hp_56;obtain ⟨_,_,rfl,hp_58,hp_59⟩:=Xh hp_57;obtain ⟨⟨a_60,cap_61,rfl,h_62⟩,_⟩:=hp_58;obtain ⟨_,_,rfl,hp_63,hp_64⟩:=Xh hp_59;obtain ⟨⟨a_65,cap_66,rfl,h_67⟩,_⟩:=hp_63;obtain ⟨_,_,rfl,hp_68,hp_69⟩:=Xh hp_64;obtain ⟨rfl,_⟩:=hp_68;obtain ⟨_,_,rfl,hp_70,hp_71⟩:=Xh hp_69;obtain ⟨⟨a_72,cap_73,rfl,h_74⟩,_⟩:=hp_70;obtain ⟨_,_,rfl,hp_75,hp_76⟩:=Xh hp_71;obtain ⟨rfl,_⟩:=hp_75;obtain ⟨rfl,_⟩:=hp_76;refine lV (.agg #[.int .i8 x_29.1,.slice a_60 x_29.2.1.length cap_61,.slice a_65 x_29.2.2.1.length cap_66,.int .i8 x_29.2.2.2.1,.slice a_72 x_29.2.2.2.2.1.length cap_73,.bool x_29.2.2.2.2.2.1,.bool x_29.2.2.2.2.2.2]) (Wl isAgg50 sizeOf50 O O hA_55)<|Xs (col:=col_18) #[.int .i8 0,.slice none (([]:List (ByteArray×ByteArray)).length) 0,.slice none (([]:List (ByteArray×ByteArray)).length) 0,.int .i8 0,.slice none (([]:List ByteArray).length) 0,.bool false,.bool false] 4 zeroValue50 ?_;intro g_77 w_78 col_79 hg_80 hb_81;refine Xb hb_81 ?_;intro w_82 hk_83 hs_84 hb_85;refine Zi<|Zm ?_;replace h_23:=(h_23.gr hg_80).kp hk_83;replace h_62:=(h_62.gr hg_80).kp hk_83;replace h_67:=(h_67.gr hg_80).kp hk_83;replace h_74:=(h_74.gr hg_80).kp hk_83;replace hb_5:=(hb_5.gr hg_80).kp hk_83;replace hb_14:=(hb_14.gr hg_80).kp hk_83;replace hst:=(hst.grow hg_80).kp hk_83 hs_84;refine Wp.cutK [16,17,18,4,5,6,8,1000000] (fun f w_86=>∃ col_87 v_88 a_90 cap_91 v_89 v_93 v_94,Zff N used_26 pruned_27 pruned_28 (V3 N l_30) x_29 v_88 v_89 v_93 v_94=some r∧St w0 (Zh col) col_87 w_86∧Zb (Za.int .u8) 5 3 col_87 w_86 a_90 cap_91 v_89∧Zd 84 1 col_87 w_86 g_1 #[.pointer (bif v_88 then some ⟨g_1,0,none⟩ else none),.slice a_90 v_89.length cap_91,.int .i64 v_93,.bool v_94]∧Zd 48 2 col_87 w_86 g_6 #[.bool pruned_27,.bool pruned_28]∧Sl (Za.pair Za.str Za.str) col_87 w_86 a_60 cap_61 x_29.2.1∧Sl (Za.pair Za.str Za.str) col_87 w_86 a_65 cap_66 x_29.2.2.1∧Sl Za.str col_87 w_86 a_72 cap_73 x_29.2.2.2.2.1∧Zd 50 4 col_87 w_86 g_77 #[.int .i8 x_29.1,.slice a_60 x_29.2.1.length cap_61,.slice a_65 x_29.2.2.1.length cap_66,.int .i8 x_29.2.2.2.1,.slice a_72 x_29.2.2.2.2.1.length cap_73,.bool x_29.2.2.2.2.2.1,.bool x_29.2.2.2.2.2.2]) ?_ ?_
  ·intro f w_86 hJ;obtain ⟨col_87,v_88,a_90,cap_91,v_89,v_93,v_94,hm,hst,h_92,hb_5,hb_14,h_62,h_67,h_74,hb_85⟩:=hJ;rw [Zff.eq_1] at hm;refine Zm ?_;refine Wp.cutK [16,17,18,4,6,8,1000000] (fun f w_95=>∃ col_96 v_97 a_99 cap_100 v_98 v_102 v_103 used_104,Zfg N pruned_27 pruned_28 (V3 N l_30) x_29 v_97 v_98 v_102 v_103 used_104=some r∧St w0 (Zh col) col_96 w_95∧Zb (Za.int .u8) 5 3 col_96 w_95 a_99 cap_100 v_98∧Zd 84 1 col_96 w_95 g_1 #[.pointer (bif v_97 then some ⟨g_1,0,none⟩ else none),.slice a_99 v_98.length cap_100,.int .i64 v_102,.bool v_103]∧Zd 48 2 col_96 w_95 g_6 #[.bool pruned_27,.bool pruned_28]∧Sl (Za.pair Za.str Za.str) col_96 w_95 a_60 cap_61 x_29.2.1∧Sl (Za.pair Za.str Za.str) col_96 w_95 a_65 cap_66 x_29.2.2.1∧Sl Za.str col_96 w_95 a_72 cap_73 x_29.2.2.2.2.1∧Zd 50 4 col_96 w_95 g_77 #[.int .i8 x_29.1,.slice a_60 x_29.2.1.length cap_61,.slice a_65 x_29.2.2.1.length cap_66,.int .i8 x_29.2.2.2.1,.slice a_72 x_29.2.2.2.2.1.length cap_73,.bool x_29.2.2.2.2.2.1,.bool x_29.2.2.2.2.2.2]∧[5].map f=[.string used_104]) ?_ ?_
   ·intro f w_95 hJ;obtain ⟨col_96,v_97,a_99,cap_100,v_98,v_102,v_103,used_104,hm,hst,h_101,hb_5,hb_14,h_62,h_67,h_74,hb_85,hs⟩:=hJ;rw [Zfg.eq_1] at hm;refine .lL [5] hs<|go ?_;refine lV (.agg #[.string (⟨#[98,97,114,114,101,110]⟩),.string (⟨#[97,112,97,114,116]⟩)]) (Zqc underlying87 sizeOf9 zeroValue87 O)<|go ?_;refine Z4j 3<|Zq7<|go ?_;refine X7 O<|Zz<|Zm ?_;refine Wp.cutK [16,17,18,4,44,45,5,6,8,1000000] (fun f w_105=>∃ col_106 v_107 a_109 cap_110 v_108 v_112 v_113,Zfh N pruned_28 (V3 N l_30) x_29 used_104 v_107 v_108 v_112 v_113=some r∧St w0 (Zh col) col_106 w_105∧Zb (Za.int .u8) 5 3 col_106 w_105 a_109 cap_110 v_108∧Zd 84 1 col_106 w_105 g_1 #[.pointer (bif v_107 then some ⟨g_1,0,none⟩ else none),.slice a_109 v_108.length cap_110,.int .i64 v_112,.bool v_113]∧Zd 48 2 col_106 w_105 g_6 #[.bool pruned_27,.bool pruned_28]∧Sl (Za.pair Za.str Za.str) col_106 w_105 a_60 cap_61 x_29.2.1∧Sl (Za.pair Za.str Za.str) col_106 w_105 a_65 cap_66 x_29.2.2.1∧Sl Za.str col_106 w_105 a_72 cap_73 x_29.2.2.2.2.1∧Zd 50 4 col_106 w_105 g_77 #[.int .i8 x_29.1,.slice a_60 x_29.2.1.length cap_61,.slice a_65 x_29.2.2.1.length cap_66,.int .i8 x_29.2.2.2.1,.slice a_72 x_29.2.2.2.2.1.length cap_73,.bool x_29.2.2.2.2.2.1,.bool x_29.2.2.2.2.2.2]) ?_ ?_
    ·intro f w_105 hJ;obtain ⟨col_106,v_107,a_109,cap_110,v_108,v_112,v_113,hm,hst,h_111,hb_5,hb_14,h_62,h_67,h_74,hb_85⟩:=hJ;rw [Zfh.eq_1] at hm;refine go ?_;refine Zq7<|go ?_;refine X7 O<|Zz<|Zm ?_;refine Wp.cutK [16,17,18,4,44,45,5,6,8,1000000] (fun f w_114=>∃ col_115 v_116 a_118 cap_119 v_117 v_121 v_122,Zfi N (V3 N l_30) x_29 used_104 v_116 v_117 v_121 v_122=some r∧St w0 (Zh col) col_115 w_114∧Zb (Za.int .u8) 5 3 col_115 w_114 a_118 cap_119 v_117∧Zd 84 1 col_115 w_114 g_1 #[.pointer (bif v_116 then some ⟨g_1,0,none⟩ else none),.slice a_118 v_117.length cap_119,.int .i64 v_121,.bool v_122]∧Zd 48 2 col_115 w_114 g_6 #[.bool pruned_27,.bool pruned_28]∧Sl (Za.pair Za.str Za.str) col_115 w_114 a_60 cap_61 x_29.2.1∧Sl (Za.pair Za.str Za.str) col_115 w_114 a_65 cap_66 x_29.2.2.1∧Sl Za.str col_115 w_114 a_72 cap_73 x_29.2.2.2.2.1∧Zd 50 4 col_115 w_114 g_77 #[.int .i8 x_29.1,.slice a_60 x_29.2.1.length cap_61,.slice a_65 x_29.2.2.1.length cap_66,.int .i8 x_29.2.2.2.1,.slice a_72 x_29.2.2.2.2.1.length cap_73,.bool x_29.2.2.2.2.2.1,.bool x_29.2.2.2.2.2.2]) ?_ ?_
     ·intro f w_114 hJ;obtain ⟨col_115,v_116,a_118,cap_119,v_117,v_121,v_122,hm,hst,h_120,hb_5,hb_14,h_62,h_67,h_74,hb_85⟩:=hJ;rw [Zfi.eq_1] at hm;refine go ?_;refine Zq7<|go ?_;refine Ye O<|go ?_;refine Zt ⟨_,_,O⟩ ?_;refine lV (.agg #[.bool x_29.2.2.2.2.2.1,.bool x_29.2.2.2.2.2.2]) (Wl isAgg48 sizeOf48 O O ((hb_85.atN).part 5 2 _ O))<|Xb hb_14 ?_;intro w_123 hk_124 hs_125 hb_126;refine go ?_;refine Zt ⟨_,_,O⟩ ?_;replace hb_85:=hb_85.kp hk_124;refine lW ((hb_85.atN).nth (q:=0) O)<|go ?_;replace h_120:=h_120.kp hk_124;replace h_62:=h_62.kp hk_124;replace h_67:=h_67.kp hk_124;replace h_74:=h_74.kp hk_124;replace hb_5:=hb_5.kp hk_124;replace hst:=hst.kp hk_124 hs_125;refine Zl hm (fun hb hm=>go ?_) fun hb hm=>go ?_
      ·refine Zy hb_85 ?_;obtain ⟨r_127,hr_128,hm⟩:=bZ hm;refine Zf (Zi6 1 3 hr_128 O h_120 hb_5 h_62) ?_;rintro _ w_133 ⟨col_135,oa_129,oc_130,rfl,hg_134,oh_131,ohb_132⟩;refine ⟨_,O,?_⟩;obtain ⟨hb_136,hm⟩:=Zr hm;refine lV (.string ((⟨#[99,104,97,110,99,101]⟩:ByteArray)++r_127.1)) (Ut underlying9 O O hb_136) ?_;obtain ⟨r_137,hr_138,hm⟩:=bZ hm;refine Zf (Zed 1 3 hr_138 O oh_131 ohb_132) ?_;rintro _ w_143 ⟨col_145,oa_139,oc_140,rfl,hg_144,oh_141,ohb_142⟩;refine ⟨_,O,?_⟩;refine Zi ?_;replace hb_126:=(hb_126.kpp hg_134).kpp hg_144;replace hst:=(hst.kpp hg_134).kpp hg_144;exact ⟨O,_,_,_,_,_,_,_,_,_,_,hm,hst,oh_141,ohb_142,hb_126,O⟩
      refine Zl hm (fun hb hm=>?_) fun hb hm=>go ?_
      ·refine Zm3 (col:=col_115) (pS [1,3]) [(0,1),(1,1),(2,1),(3,0),(6,1),(7,1),(8,5),(4,4),(5,1),(9,2),(10,1),(11,2)] (by kernel_rfl) (by kernel_rfl)<|Wu (v:=(.pointer (some ⟨g_1,0,none⟩))) O O (fun _=>Wq O) ?_;refine Wu (v:=(.pointer (some ⟨g_1,0,none⟩))) O O (fun _=>Wq O) ?_;refine Wu (v:=(.pointer ((some (⟨g_77,0,none⟩:Addr)).map (·.add 1)))) O O (fun _=>Tt (sz:=1) (off:=1) underlying50 O sizeOf47 (by decide) O O ⟨_,_,O⟩) ?_;refine Zf7 (v:=(.slice a_60 x_29.2.1.length cap_61)) O O (fun _ hC=>Tu isAgg47 O (((hb_85.atN).nth (q:=1) (v:=(.slice a_60 x_29.2.1.length cap_61)) O).gr (hC.bl col_115))) ?_;refine Wu (v:=(.pointer (some ⟨g_1,0,none⟩))) O O (fun _=>Wq O) ?_;refine Wu (v:=(.pointer ((some (⟨g_77,0,none⟩:Addr)).map (·.add 2)))) O O (fun _=>Tt (sz:=1) (off:=2) underlying50 O sizeOf47 (by decide) O O ⟨_,_,O⟩) ?_;refine Zm7 (v:=(.slice a_65 x_29.2.2.1.length cap_66)) O O (fun _ hC=>Tu isAgg47 O (((hb_85.dk hC O O).atN).nth (q:=2) (v:=(.slice a_65 x_29.2.2.1.length cap_66)) O)) ?_;refine Se O O ?_;intro w_146 hC0;have hC:=hC0.bl col_115;replace h_120:=h_120.gr hC;replace h_62:=h_62.gr hC;replace h_67:=h_67.gr hC;replace hb_5:=hb_5.gr hC;replace hb_126:=hb_126.gr hC;replace hst:=hst.grow hC;have hkd_147:Zo (pS [1,3]) col_115 w_123 col_115 w_146:=hC.toP;obtain ⟨r_148,hr_149,hm⟩:=bZ hm;refine Zf (Zi6 1 3 hr_149 O h_120 hb_5 h_62) ?_;rintro _ w_154 ⟨col_156,oa_150,oc_151,rfl,hg_155,oh_152,ohb_153⟩;refine ⟨_,O,?_⟩;replace h_67:=h_67.kpp hg_155;replace hb_126:=hb_126.kpp hg_155;replace hkd_147:=hkd_147.trans (hg_155.mono (by first | exact Zl9 O | exact pS_p1 O | exact Zma O));refine Zi ?_;refine ⟨fun w'=>Ze col_156 w_154 col_156 w',fun w'=>∃ c',Zo (pS [1,3]) col_156 w_154 c' w',Ze.refl _ _,fun _ h=>⟨_,h.toP⟩,fun h=>absurd h (by decide),fun _ _ ⟨c9,h⟩=>⟨c9,hkd_147.trans h⟩,?_⟩;obtain ⟨hb_157,hm⟩:=Zr hm;refine Wu (v:=(.string ((⟨#[97,115,107]⟩:ByteArray)++r_148.1))) O O (fun _=>Ut underlying9 O O hb_157) ?_;refine Se O O ?_;intro w_158 hC0;have hC:=hC0.bl col_156;obtain ⟨r_159,hr_160,hm⟩:=bZ hm;replace oh_152:=oh_152.gr hC;replace h_67:=h_67.gr hC;replace ohb_153:=ohb_153.gr hC;refine Zf (Zi6 1 3 hr_160 O oh_152 ohb_153 h_67) ?_;rintro _ w_165 ⟨col_167,oa_161,oc_162,rfl,hg_166,oh_163,ohb_164⟩;refine ⟨_,O,?_⟩;refine Zi ?_
       refine ⟨fun w'=>Ze col_167 w_165 col_167 w',fun w'=>∃ c',Zo (pS [1,3]) col_167 w_165 c' w',Ze.refl _ _,fun _ h=>⟨_,h.toP⟩,fun h=>absurd h (by decide),fun h=>absurd h (by decide),?_⟩;obtain ⟨hb_168,hm⟩:=Zr hm;refine Wu (v:=(.string (((⟨#[97,115,107]⟩:ByteArray)++r_148.1)++r_159.1))) O O (fun _=>Ut underlying9 O O hb_168) ?_;refine Se O O ?_;intro w_169 hC0;replace hst:=((hst.kpp hg_155).grow hC).kpp hg_166;replace hb_126:=(hb_126.gr hC).kpp hg_166;have hC:=hC0.bl col_167;obtain ⟨r_170,hr_171,hm⟩:=bZ hm;replace oh_163:=oh_163.gr hC;replace ohb_164:=ohb_164.gr hC;refine Zf (Zed 1 3 hr_171 O oh_163 ohb_164) ?_;rintro _ w_176 ⟨col_178,oa_172,oc_173,rfl,hg_177,oh_174,ohb_175⟩;refine ⟨_,O,?_⟩;refine Zi ?_;refine ⟨fun w'=>Ze col_178 w_176 col_178 w',fun w'=>∃ c',Zo (pS [1,3]) col_178 w_176 c' w',Ze.refl _ _,fun _ h=>⟨_,h.toP⟩,fun h=>absurd h (by decide),fun h=>absurd h (by decide),?_⟩;refine Zm6 ?_;replace hb_126:=(hb_126.gr hC).kpp hg_177;replace hst:=(hst.grow hC).kpp hg_177;intro w_179 hC;replace hC:=hC.bl col_178;replace oh_174:=oh_174.gr hC;replace ohb_175:=ohb_175.gr hC;replace hb_126:=hb_126.gr hC;replace hst:=hst.grow hC;exact ⟨O,_,_,_,_,_,_,_,_,_,_,hm,hst,oh_174,ohb_175,hb_126,O⟩
      refine Zl hm (fun hb hm=>go ?_) fun hb hm=>?_
      ·refine Zy hb_85 ?_;refine go ?_;refine Z5 [101,102,16,17,18,4,5,6,8,1000000] (fun n f w_182=>∃ col_183 k_180 v_184 a_186 cap_187 v_185 v_189 v_190 l_181,n=l_181.length∧x_29.2.1.drop k_180=l_181∧Zbs N (V3 N l_30) x_29 used_104 l_181 v_184 v_185 v_189 v_190=some r∧St w0 (Zh col) col_183 w_182∧Sl (Za.pair Za.str Za.str) col_183 w_182 a_60 cap_61 x_29.2.1∧Zb (Za.int .u8) 5 3 col_183 w_182 a_186 cap_187 v_185∧Zd 84 1 col_183 w_182 g_1 #[.pointer (bif v_184 then some ⟨g_1,0,none⟩ else none),.slice a_186 v_185.length cap_187,.int .i64 v_189,.bool v_190]∧Zd 48 2 col_183 w_182 g_6 #[.bool x_29.2.2.2.2.2.1,.bool x_29.2.2.2.2.2.2]∧Sl (Za.pair Za.str Za.str) col_183 w_182 a_65 cap_66 x_29.2.2.1∧Sl Za.str col_183 w_182 a_72 cap_73 x_29.2.2.2.2.1∧Zd 50 4 col_183 w_182 g_77 #[.int .i8 x_29.1,.slice a_60 x_29.2.1.length cap_61,.slice a_65 x_29.2.2.1.length cap_66,.int .i8 x_29.2.2.2.1,.slice a_72 x_29.2.2.2.2.1.length cap_73,.bool x_29.2.2.2.2.2.1,.bool x_29.2.2.2.2.2.2]∧[103].map f=[.int .i64 k_180]) x_29.2.1.length ⟨_,0,_,_,_,_,_,_,_,O,O,hm,hst,h_62,h_120,hb_5,hb_126,h_67,h_74,hb_85,O⟩ ?_;clear hm;intro n f w_182 hI;obtain ⟨col_183,k_180,v_184,a_186,cap_187,v_185,v_189,v_190,l_181,hn,hl,hm,hst,h_62,h_188,hb_5,hb_126,h_67,h_74,hb_85,hs⟩:=hI;subst hn;refine .lL [103] hs ?_
       cases l_181 with
       | nil=>
        have hk:¬ ((k_180:Int)<(x_29.2.1.length:Int)):=by have:=List.drop_eq_nil_iff.1 hl;omega
        have hkb:=decide_eq_false hk;rw [Zbs.eq_1] at hm;refine go ?_;refine Ye (congrArg Value.bool hkb)<|go ?_;exact ⟨O,_,_,_,_,_,_,_,_,_,_,hm,hst,h_188,hb_5,hb_126,O⟩
       | cons x_191 l_192=>
        obtain ⟨hat,hl2_L2,hlt_L2⟩:=Yt hl;have hk:(k_180:Int)<(x_29.2.1.length:Int):=by omega
        have hkb:=decide_eq_true hk;rw [Zbs.eq_2] at hm;refine go ?_;refine X7 (congrArg Value.bool hkb)<|go ?_;refine lI hat (h_62.addr hat) ?_;obtain ⟨_,hr_193,hA_194⟩:=h_62.atN hat;obtain ⟨_,_,rfl,hp_195,hp_196⟩:=Xh hr_193;obtain ⟨rfl,_⟩:=hp_195;obtain ⟨rfl,_⟩:=hp_196;refine lV (.agg #[.string x_191.1,.string x_191.2]) (Wl isAgg56 sizeOf56 O O hA_194)<|Xs (col:=col_183) #[.string (⟨#[]⟩),.string (⟨#[]⟩)] 5 zeroValue56 ?_;intro g_197 w_198 col_199 hg_200 hb_201;refine Xb hb_201 ?_;intro w_202 hk_203 hs_204 hb_205;refine Zi<|Zm3 (col:=col_199) (pS [1,3]) [(0,1),(1,1),(2,1),(3,0),(6,1),(7,1),(8,5),(4,4),(5,1),(9,2),(10,1),(11,2)] (by kernel_rfl) (by kernel_rfl)<|Wu (v:=(.pointer (some ⟨g_1,0,none⟩))) O O (fun _=>Wq O) ?_;refine Wu (v:=(.pointer (some ⟨g_1,0,none⟩))) O O (fun _=>Wq O) ?_;refine Wu (v:=(.pointer ((some (⟨g_197,0,none⟩:Addr)).map (·.add 0)))) O O (fun _=>Tt (sz:=1) (off:=0) underlying56 O sizeOf9 (by decide) O O ⟨_,_,O⟩) ?_;refine Zf7 (v:=(.string x_191.1)) O O (fun _ hC=>Tu isAgg9 O (((hb_205.atN).nth (q:=0) (v:=(.string x_191.1)) O).gr (hC.bl col_199))) ?_;refine Wu (v:=(.pointer (some ⟨g_1,0,none⟩))) O O (fun _=>Wq O) ?_;refine Wu (v:=(.pointer ((some (⟨g_77,0,none⟩:Addr)).map (·.add 2)))) O O (fun _=>Tt (sz:=1) (off:=2) underlying50 O sizeOf47 (by decide) O O ⟨_,_,O⟩) ?_;replace hb_85:=(hb_85.gr hg_200).kp hk_203;refine Zm7 (v:=(.slice a_65 x_29.2.2.1.length cap_66)) O O (fun _ hC=>Tu isAgg47 O (((hb_85.dk hC O O).atN).nth (q:=2) (v:=(.slice a_65 x_29.2.2.1.length cap_66)) O)) ?_;refine Se O O ?_;intro w_206 hC0;have hC:=hC0.bl col_199;replace h_62:=((h_62.gr hg_200).kp hk_203).gr hC;replace h_188:=((h_188.gr hg_200).kp hk_203).gr hC;replace h_67:=((h_67.gr hg_200).kp hk_203).gr hC;replace h_74:=((h_74.gr hg_200).kp hk_203).gr hC;replace hb_5:=((hb_5.gr hg_200).kp hk_203).gr hC;replace hb_126:=((hb_126.gr hg_200).kp hk_203).gr hC;replace hst:=((hst.grow hg_200).kp hk_203 hs_204).grow hC;replace hb_85:=hb_85.gr hC;have hkd_207:Zo (pS [1,3]) col_199 w_202 col_199 w_206:=hC.toP;obtain ⟨r_208,hr_209,hm⟩:=bZ hm;refine Zf (Zi5 1 3 hr_209 O h_188 hb_5) ?_;rintro _ w_214 ⟨col_216,oa_210,oc_211,rfl,hg_215,oh_212,ohb_213⟩;refine ⟨_,O,?_⟩;replace h_62:=h_62.kpp hg_215;replace h_67:=h_67.kpp hg_215;replace h_74:=h_74.kpp hg_215;replace hb_126:=hb_126.kpp hg_215;replace hb_85:=hb_85.kpp hg_215;replace hkd_207:=hkd_207.trans (hg_215.mono (by first | exact Zl9 O | exact pS_p1 O | exact Zma O));refine Zi ?_
        refine ⟨fun w'=>Ze col_216 w_214 col_216 w',fun w'=>∃ c',Zo (pS [1,3]) col_216 w_214 c' w',Ze.refl _ _,fun _ h=>⟨_,h.toP⟩,fun h=>absurd h (by decide),fun _ _ ⟨c9,h⟩=>⟨c9,hkd_207.trans h⟩,?_⟩;obtain ⟨hb_217,hm⟩:=Zr hm;refine Wu (v:=(.string ((⟨#[97,108,108,32]⟩:ByteArray)++r_208.1))) O O (fun _=>Ut underlying9 O O hb_217) ?_;refine Se O O ?_;intro w_218 hC0;have hC:=hC0.bl col_216;obtain ⟨r_219,hr_220,hm⟩:=bZ hm;replace oh_212:=oh_212.gr hC;replace h_67:=h_67.gr hC;replace ohb_213:=ohb_213.gr hC;refine Zf (Zi6 1 3 hr_220 O oh_212 ohb_213 h_67) ?_;rintro _ w_225 ⟨col_227,oa_221,oc_222,rfl,hg_226,oh_223,ohb_224⟩;refine ⟨_,O,?_⟩;refine Zi ?_;refine ⟨fun w'=>Ze col_227 w_225 col_227 w',fun w'=>∃ c',Zo (pS [1,3]) col_227 w_225 c' w',Ze.refl _ _,fun _ h=>⟨_,h.toP⟩,fun h=>absurd h (by decide),fun h=>absurd h (by decide),?_⟩;obtain ⟨hb_228,hm⟩:=Zr hm;refine Wu (v:=(.string (((⟨#[97,108,108,32]⟩:ByteArray)++r_208.1)++r_219.1))) O O (fun _=>Ut underlying9 O O hb_228) ?_;refine Se O O ?_;intro w_229 hC0;replace hst:=((hst.kpp hg_215).grow hC).kpp hg_226;replace h_62:=(h_62.gr hC).kpp hg_226;replace h_74:=(h_74.gr hC).kpp hg_226;replace hb_126:=(hb_126.gr hC).kpp hg_226;replace hb_85:=(hb_85.gr hC).kpp hg_226;have hC:=hC0.bl col_227;obtain ⟨r_230,hr_231,hm⟩:=bZ hm;replace oh_223:=oh_223.gr hC;replace ohb_224:=ohb_224.gr hC;refine Zf (Zed 1 3 hr_231 O oh_223 ohb_224) ?_;rintro _ w_236 ⟨col_238,oa_232,oc_233,rfl,hg_237,oh_234,ohb_235⟩;refine ⟨_,O,?_⟩;refine Zi ?_;refine ⟨fun w'=>Ze col_238 w_236 col_238 w',fun w'=>∃ c',Zo (pS [1,3]) col_238 w_236 c' w',Ze.refl _ _,fun _ h=>⟨_,h.toP⟩,fun h=>absurd h (by decide),fun h=>absurd h (by decide),?_⟩;refine Zm6 ?_;replace h_67:=((h_67.kpp hg_226).gr hC).kpp hg_237;replace h_62:=(h_62.gr hC).kpp hg_237;replace h_74:=(h_74.gr hC).kpp hg_237;replace hb_126:=(hb_126.gr hC).kpp hg_237;replace hb_85:=(hb_85.gr hC).kpp hg_237;replace hst:=(hst.grow hC).kpp hg_237;intro w_239 hC;replace hC:=hC.bl col_238;refine go ?_;replace h_62:=h_62.gr hC;replace oh_234:=oh_234.gr hC;replace h_67:=h_67.gr hC;replace h_74:=h_74.gr hC;replace ohb_235:=ohb_235.gr hC;replace hb_126:=hb_126.gr hC;replace hb_85:=hb_85.gr hC;replace hst:=hst.grow hC
        exact ⟨l_192.length,by simp,O,⟨_,_,_,_,_,_,_,_,_,O,hl2_L2,hm,hst,h_62,oh_234,ohb_235,hb_126,h_67,h_74,hb_85,(Yz (congrArg (Value.int .i64) (Yw (Nat.lt_of_lt_of_le hlt_L2 h_62.1.1))) O)⟩⟩
      refine Zz ?_;exact ⟨O,_,_,_,_,_,_,_,_,_,_,hm,hst,h_120,hb_5,hb_126,O⟩
     refine go ?_;refine lV (.string (⟨#[97,112,97,114,116]⟩)) (Zqh (j:=1) underlying87 sizeOf9 isAgg9 O O (by decide) (by decide) O)<|go ?_;refine Vq (col:=col_106) (by kernel_rfl) (by kernel_rfl)<|go ?_;refine qF ⟨_,_,O⟩ ?_;refine qv (v:=(.pointer (((some (⟨g_77,0,none⟩:Addr)).map (·.add 5)).map (·.add 1)))) O (fun _ hC=>Zb7 (sz:=1) (j:=1) underlying48 sizeOf4 O O (by decide) (by decide) (Tx ⟨_,_,O⟩)) ?_;refine qW (fun _ hC=>((((hb_85.atN).part 5 2 _ O)).nth (q:=1) O).gr (hC.bl col_106)) ?_;refine go ?_;refine qv (v:=(.pointer ((some (⟨g_6,0,none⟩:Addr)).map (·.add 1)))) O (fun _ hC=>Zb7 (sz:=1) (j:=1) underlying48 sizeOf4 O O (by decide) (by decide) ⟨_,_,O⟩) ?_;refine qW (fun _ hC=>((hb_14.atN).nth (q:=1) O).gr (hC.bl col_106)) ?_;refine go ?_;refine Wc ?_;intro w_240 hC;replace hC:=hC.bl col_106;replace h_111:=h_111.gr hC;replace h_62:=h_62.gr hC;replace h_67:=h_67.gr hC;replace h_74:=h_74.gr hC;replace hb_5:=hb_5.gr hC;replace hb_14:=hb_14.gr hC;replace hb_85:=hb_85.gr hC;replace hst:=hst.grow hC;refine Zl hm (fun hb hm=>go ?_) fun hb hm=>?_
     ·obtain ⟨hb_241,hm⟩:=Zr hm;refine lV (.string ((⟨#[112,114,117,110,101,32]⟩:ByteArray)++(⟨#[97,112,97,114,116]⟩))) (Ut underlying9 O O hb_241) ?_;obtain ⟨hb_242,hm⟩:=Zr hm;refine lV (.string (((⟨#[112,114,117,110,101,32]⟩:ByteArray)++(⟨#[97,112,97,114,116]⟩))++(⟨#[32]⟩))) (Ut underlying9 O O hb_242)<|Zjn (col:=col_106) (fk:=Value.bool) (fv:=Value.string) 6 O ?_;intro g_243 w_244 col_245 hg_246 h_247;obtain ⟨es_252,hz_253,hm⟩:=bZ hm;have hz_253:es_252=Wo ([]:List (Bool×ByteArray)) true (⟨#[111,110]⟩):=(Option.some.inj hz_253).symm;refine Zjo (k:=true) (v:=(⟨#[111,110]⟩)) Y6.bool h_247 underlying88 underlying4 O O O ?_;intro w_248 hk_249 hs_250 h_251;rw [← hz_253] at h_251;obtain ⟨es_258,hz_259,hm⟩:=bZ hm;have hz_259:es_258=Wo es_252 false (⟨#[111,102,102]⟩):=(Option.some.inj hz_259).symm;refine Zjo (k:=false) (v:=(⟨#[111,102,102]⟩)) Y6.bool h_251 underlying88 underlying4 O O O ?_;intro w_254 hk_255 hs_256 h_257;rw [← hz_259] at h_257;refine go ?_;refine Zt ⟨_,_,O⟩ ?_;refine lV (.pointer (((some (⟨g_77,0,none⟩:Addr)).map (·.add 5)).map (·.add 1))) (Zb7 (sz:=1) (j:=1) underlying48 sizeOf4 O O (by decide) (by decide) (Tx ⟨_,_,O⟩)) ?_;replace hb_85:=((hb_85.gr hg_246).kp hk_249).kp hk_255;refine lW ((((hb_85.atN).part 5 2 _ O)).nth (q:=1) O)<|lV (.string ((X4 es_258 x_29.2.2.2.2.2.2).getD (⟨#[]⟩))) (Zf0 Y6.bool h_257 underlying88 underlying4 zeroValue9 O O) ?_;obtain ⟨hb_260,hm⟩:=Zr hm;refine lV (.string ((((⟨#[112,114,117,110,101,32]⟩:ByteArray)++(⟨#[97,112,97,114,116]⟩))++(⟨#[32]⟩))++((X4 es_258 x_29.2.2.2.2.2.2).getD (⟨#[]⟩)))) (Ut underlying9 O O hb_260) ?_;obtain ⟨r_261,hr_262,hm⟩:=bZ hm;replace h_111:=((h_111.gr hg_246).kp hk_249).kp hk_255;replace hb_5:=((hb_5.gr hg_246).kp hk_249).kp hk_255;refine Zf (Zed 1 3 hr_262 O h_111 hb_5) ?_;rintro _ w_267 ⟨col_269,oa_263,oc_264,rfl,hg_268,oh_265,ohb_266⟩;refine ⟨_,O,?_⟩;refine Zi ?_;replace h_62:=(((h_62.gr hg_246).kp hk_249).kp hk_255).kpp hg_268;replace h_67:=(((h_67.gr hg_246).kp hk_249).kp hk_255).kpp hg_268;replace h_74:=(((h_74.gr hg_246).kp hk_249).kp hk_255).kpp hg_268;replace hb_14:=(((hb_14.gr hg_246).kp hk_249).kp hk_255).kpp hg_268;replace hst:=(((hst.grow hg_246).kp hk_249 hs_250).kp hk_255 hs_256).kpp hg_268;replace hb_85:=hb_85.kpp hg_268;exact ⟨O,_,_,_,_,_,_,_,hm,hst,oh_265,ohb_266,hb_14,h_62,h_67,h_74,hb_85⟩
     refine Zz ?_;exact ⟨O,_,_,_,_,_,_,_,hm,hst,h_111,hb_5,hb_14,h_62,h_67,h_74,hb_85⟩
    refine go ?_;refine lV (.string (⟨#[98,97,114,114,101,110]⟩)) (Zqh (j:=0) underlying87 sizeOf9 isAgg9 O O (by decide) (by decide) O)<|go ?_;refine Vq (col:=col_96) (by kernel_rfl) (by kernel_rfl)<|go ?_;refine qF ⟨_,_,O⟩ ?_;refine qv (v:=(.pointer (((some (⟨g_77,0,none⟩:Addr)).map (·.add 5)).map (·.add 0)))) O (fun _ hC=>Zb7 (sz:=1) (j:=0) underlying48 sizeOf4 O O (by decide) (by decide) (Tx ⟨_,_,O⟩)) ?_;refine qW (fun _ hC=>((((hb_85.atN).part 5 2 _ O)).nth (q:=0) O).gr (hC.bl col_96)) ?_;refine go ?_;refine qv (v:=(.pointer ((some (⟨g_6,0,none⟩:Addr)).map (·.add 0)))) O (fun _ hC=>Zb7 (sz:=1) (j:=0) underlying48 sizeOf4 O O (by decide) (by decide) ⟨_,_,O⟩) ?_;refine qW (fun _ hC=>((hb_14.atN).nth (q:=0) O).gr (hC.bl col_96)) ?_;refine go ?_;refine Wc ?_;intro w_270 hC;replace hC:=hC.bl col_96;replace h_101:=h_101.gr hC;replace h_62:=h_62.gr hC;replace h_67:=h_67.gr hC;replace h_74:=h_74.gr hC;replace hb_5:=hb_5.gr hC;replace hb_14:=hb_14.gr hC;replace hb_85:=hb_85.gr hC;replace hst:=hst.grow hC;refine Zl hm (fun hb hm=>go ?_) fun hb hm=>?_
    ·obtain ⟨hb_271,hm⟩:=Zr hm;refine lV (.string ((⟨#[112,114,117,110,101,32]⟩:ByteArray)++(⟨#[98,97,114,114,101,110]⟩))) (Ut underlying9 O O hb_271) ?_;obtain ⟨hb_272,hm⟩:=Zr hm;refine lV (.string (((⟨#[112,114,117,110,101,32]⟩:ByteArray)++(⟨#[98,97,114,114,101,110]⟩))++(⟨#[32]⟩))) (Ut underlying9 O O hb_272)<|Zjn (col:=col_96) (fk:=Value.bool) (fv:=Value.string) 7 O ?_;intro g_273 w_274 col_275 hg_276 h_277;obtain ⟨es_282,hz_283,hm⟩:=bZ hm;have hz_283:es_282=Wo ([]:List (Bool×ByteArray)) true (⟨#[111,110]⟩):=(Option.some.inj hz_283).symm;refine Zjo (k:=true) (v:=(⟨#[111,110]⟩)) Y6.bool h_277 underlying88 underlying4 O O O ?_;intro w_278 hk_279 hs_280 h_281;rw [← hz_283] at h_281;obtain ⟨es_288,hz_289,hm⟩:=bZ hm;have hz_289:es_288=Wo es_282 false (⟨#[111,102,102]⟩):=(Option.some.inj hz_289).symm;refine Zjo (k:=false) (v:=(⟨#[111,102,102]⟩)) Y6.bool h_281 underlying88 underlying4 O O O ?_;intro w_284 hk_285 hs_286 h_287;rw [← hz_289] at h_287;refine go ?_;refine Zt ⟨_,_,O⟩ ?_;refine lV (.pointer (((some (⟨g_77,0,none⟩:Addr)).map (·.add 5)).map (·.add 0))) (Zb7 (sz:=1) (j:=0) underlying48 sizeOf4 O O (by decide) (by decide) (Tx ⟨_,_,O⟩)) ?_;replace hb_85:=((hb_85.gr hg_276).kp hk_279).kp hk_285;refine lW ((((hb_85.atN).part 5 2 _ O)).nth (q:=0) O)<|lV (.string ((X4 es_288 x_29.2.2.2.2.2.1).getD (⟨#[]⟩))) (Zf0 Y6.bool h_287 underlying88 underlying4 zeroValue9 O O) ?_;obtain ⟨hb_290,hm⟩:=Zr hm;refine lV (.string ((((⟨#[112,114,117,110,101,32]⟩:ByteArray)++(⟨#[98,97,114,114,101,110]⟩))++(⟨#[32]⟩))++((X4 es_288 x_29.2.2.2.2.2.1).getD (⟨#[]⟩)))) (Ut underlying9 O O hb_290) ?_;obtain ⟨r_291,hr_292,hm⟩:=bZ hm;replace h_101:=((h_101.gr hg_276).kp hk_279).kp hk_285;replace hb_5:=((hb_5.gr hg_276).kp hk_279).kp hk_285;refine Zf (Zed 1 3 hr_292 O h_101 hb_5) ?_;rintro _ w_297 ⟨col_299,oa_293,oc_294,rfl,hg_298,oh_295,ohb_296⟩;refine ⟨_,O,?_⟩;refine Zi ?_;replace h_62:=(((h_62.gr hg_276).kp hk_279).kp hk_285).kpp hg_298;replace h_67:=(((h_67.gr hg_276).kp hk_279).kp hk_285).kpp hg_298;replace h_74:=(((h_74.gr hg_276).kp hk_279).kp hk_285).kpp hg_298;replace hb_14:=(((hb_14.gr hg_276).kp hk_279).kp hk_285).kpp hg_298;replace hst:=(((hst.grow hg_276).kp hk_279 hs_280).kp hk_285 hs_286).kpp hg_298;replace hb_85:=hb_85.kpp hg_298;exact ⟨O,_,_,_,_,_,_,_,hm,hst,oh_295,ohb_296,hb_14,h_62,h_67,h_74,hb_85⟩
    refine Zz ?_;exact ⟨O,_,_,_,_,_,_,_,hm,hst,h_101,hb_5,hb_14,h_62,h_67,h_74,hb_85⟩
   refine go ?_;refine lV _ (Yr isAgg50 sizeOf50 hb_85) ?_;obtain ⟨r_300,hr_301,hm⟩:=bZ hm;refine Zf (Zyx 1 3 hr_301 O h_92 hb_5 h_62 h_67 h_74) ?_;rintro _ w_306 ⟨col_308,oa_302,oc_303,rfl,hg_307,oh_304,ohb_305⟩;refine ⟨_,O,go ?_⟩;replace h_62:=h_62.kpp hg_307;replace h_67:=h_67.kpp hg_307;replace h_74:=h_74.kpp hg_307;replace hb_14:=hb_14.kpp hg_307;replace hb_85:=hb_85.kpp hg_307;replace hst:=hst.kpp hg_307;refine Zl hm (fun hb hm=>go ?_) fun hb hm=>?_
   ·obtain ⟨r_309,hr_310,hm⟩:=bZ hm;refine Zf (Zed 1 3 hr_310 O oh_304 ohb_305) ?_;rintro _ w_315 ⟨col_317,oa_311,oc_312,rfl,hg_316,oh_313,ohb_314⟩;refine ⟨_,O,go ?_⟩;replace h_62:=h_62.kpp hg_316;replace h_67:=h_67.kpp hg_316;replace h_74:=h_74.kpp hg_316;replace hb_14:=hb_14.kpp hg_316;replace hb_85:=hb_85.kpp hg_316;replace hst:=hst.kpp hg_316;exact ⟨O,_,_,_,_,_,_,_,_,hm,hst,oh_313,ohb_314,hb_14,h_62,h_67,h_74,hb_85,O⟩
   refine Zz ?_;exact ⟨O,_,_,_,_,_,_,_,_,hm,hst,oh_304,ohb_305,hb_14,h_62,h_67,h_74,hb_85,O⟩
  refine go ?_;refine lV (.pointer (some ⟨g_1,0,none⟩)) (Z7 O)<|Zy hb_5<|Xo O ?_;refine Z3 hm (fun hg_318 hm=>go ?_) fun hg_318 hm=>go ?_
  ·refine lV (.bool true) (Zv (congrArg Value.bool hg_318) O)<|lV (.pointer (some ⟨g_1,0,none⟩)) (Z7 O)<|Zt ⟨_,_,O⟩ ?_;refine Xp (off:=3) (v:=(.bool true)) hb_5 sizeOf4 O O (by intro u hu;simp only [Value.cells,List.mem_cons,List.not_mem_nil,or_false] at hu;subst hu;rfl) O O ?_;intro w_319 hk_320 hs_321 hb_322;replace hb_322:Zd 84 1 col_79 w_319 g_1 #[.pointer (bif v_19 then some ⟨g_1,0,none⟩ else none),.slice a_21 v_20.length cap_22,.int .i64 v_24,.bool true]:=hb_322;refine Zi ?_;replace h_23:=h_23.kp hk_320;replace h_62:=h_62.kp hk_320;replace h_67:=h_67.kp hk_320;replace h_74:=h_74.kp hk_320;replace hb_14:=hb_14.kp hk_320;replace hb_85:=hb_85.kp hk_320;replace hst:=hst.kp hk_320 hs_321;exact ⟨O,_,_,_,_,_,_,_,hm,hst,h_23,hb_322,hb_14,h_62,h_67,h_74,hb_85⟩
  refine lV _ (Yr isAgg50 sizeOf50 hb_85)<|go ?_;obtain ⟨r_323,hr_324,hm⟩:=bZ hm;refine Zf (Zi4 hr_324 h_62 h_67 h_74) ?_;rintro _ w_325 ⟨rfl,hg_326⟩;refine ⟨_,O,?_⟩;replace hg_326:Ze col_79 w_82 col_79 w_325:=.of_below hg_326;refine go ?_;refine lV (.bool (!r_323)) (Zu (congrArg Value.bool hg_318) O)<|lV (.pointer (some ⟨g_1,0,none⟩)) (Z7 O)<|Zt ⟨_,_,O⟩ ?_;replace hb_5:=hb_5.gr hg_326;refine Xp (off:=3) (v:=(.bool (!r_323))) hb_5 sizeOf4 O O (by intro u hu;simp only [Value.cells,List.mem_cons,List.not_mem_nil,or_false] at hu;subst hu;rfl) O O ?_;intro w_327 hk_328 hs_329 hb_330;replace hb_330:Zd 84 1 col_79 w_327 g_1 #[.pointer (bif v_19 then some ⟨g_1,0,none⟩ else none),.slice a_21 v_20.length cap_22,.int .i64 v_24,.bool (!r_323)]:=hb_330;refine Zi ?_;replace h_23:=(h_23.gr hg_326).kp hk_328;replace h_62:=(h_62.gr hg_326).kp hk_328;replace h_67:=(h_67.gr hg_326).kp hk_328;replace h_74:=(h_74.gr hg_326).kp hk_328;replace hb_14:=(hb_14.gr hg_326).kp hk_328;replace hb_85:=(hb_85.gr hg_326).kp hk_328;replace hst:=(hst.grow hg_326).kp hk_328 hs_329;exact ⟨O,_,_,_,_,_,_,_,hm,hst,h_23,hb_330,hb_14,h_62,h_67,h_74,hb_85⟩
abbrev U6:ByteArray:=⟨#[59,10]⟩
theorem Sc:U6.size=2:=rfl
abbrev T6:ByteArray:=⟨#[32,124,32]⟩
abbrev Zab:ByteArray:=⟨#[32]⟩
def Zcc (on:Bool):ByteArray:=if on=true then ⟨#[32,111,110]⟩ else ⟨#[32,111,102,102]⟩
theorem Z37 (on:Bool):(Zcc on).size≤4:=by cases on <;> decide
def Zdo (p:ByteArray×ByteArray) (given:W6):ByteArray:=((⟨#[97,108,108,32]⟩:ByteArray)++p.1)++Uj T6 (given.map wd)
def Sx (given:W6):W6→ByteArray
 | []=>⟨#[]⟩
 | p :: l=>(Zdo p given++U6)++Sx given l
def Up (q:Xf):ByteArray:=if q.1=1 then ((⟨#[99,104,97,110,99,101]⟩:ByteArray)++Uj Zab (q.2.1.map wd))++U6 else if q.1=2 then (((⟨#[97,115,107]⟩:ByteArray)++Uj Zab (q.2.1.map wd))++Uj T6 (q.2.2.1.map wd))++U6 else if q.1=3 then Sx q.2.2.1 q.2.1 else ⟨#[]⟩
def Vl (q:Xf):Nat:=if q.1=1 then 1 else if q.1=2 then 1 else if q.1=3 then q.2.1.length else 0
def Tc (q:Xf):Bool:=if q.1=1 then !q.2.1.all V5 else if q.1=2 then !q.2.1.all V5||!q.2.2.1.all V5 else if q.1=3 then q.2.1.any fun p=>!Y1 p.1||!q.2.2.1.all V5 else false
def Wi (q:Xf):Bool:=if q.1=1 then decide (q.2.2.1.length=0) else if q.1=2 then decide (0<q.2.1.length) else if q.1=3 then decide (q.2.1.length=1) else false
def Y0 (q:Xf):Bool:=Wi q&&(Tj q&&U5 q)&&!Tc q
def Q4 (u:ByteArray) (q:Xf):ByteArray:=if Xt q=u then ⟨#[]⟩ else Xt q++U6
def S5 (name:ByteArray) (a on:Bool):ByteArray:=if on=a then ⟨#[]⟩ else (name++Zcc on)++U6
abbrev Qh:ByteArray:=⟨#[112,114,117,110,101,32,98,97,114,114,101,110]⟩
abbrev Sy:ByteArray:=⟨#[112,114,117,110,101,32,97,112,97,114,116]⟩
def Qa (u:ByteArray) (a b:Bool) (q:Xf):ByteArray:=((Q4 u q++S5 Qh a q.2.2.2.2.2.1)++S5 Sy b q.2.2.2.2.2.2)++Up q
def Su (u:ByteArray) (a b:Bool) (q:Xf):Nat:=(if Xt q=u then 0 else 1)+(if q.2.2.2.2.2.1=a then 0 else 1)+(if q.2.2.2.2.2.2=b then 0 else 1)+Vl q
def Ua:List Xf→ByteArray→Bool→Bool→ByteArray
 | [],_,_,_=>⟨#[]⟩
 | q :: l,u,a,b=>Qa u a b q++Ua l (Xt q) q.2.2.2.2.2.1 q.2.2.2.2.2.2
def Wz:List Xf→ByteArray→Bool→Bool→Nat
 | [],_,_,_=>0
 | q :: l,u,a,b=>Su u a b q+Wz l (Xt q) q.2.2.2.2.2.1 q.2.2.2.2.2.2
def tq (q:Xf):Nat:=Z4 q.2.1+Z4 q.2.2.1+X6 q.2.2.2.2.1+130
def Sv (l:List Xf):Nat:=(l.map tq).sum
theorem Zd3 (q:Xf) (l:List Xf):Sv (q :: l)=tq q+Sv l:=by simp [Sv]
theorem Ztr (p:ByteArray×ByteArray) (given:W6):(Zdo p given).size≤7+p.1.size+Z4 given:=by
 have h1:=Zdp T6 (given.map wd)
 rw [Zd1] at h1
 have e1:(⟨#[97,108,108,32]⟩:ByteArray).size=4:=rfl
 have e2:T6.size=3:=rfl
 rw [Zdo,ByteArray.size_append,ByteArray.size_append];omega
theorem Zq9 (given:W6):∀ l:W6,(Sx given l).size≤Z4 l+l.length * (9+Z4 given)
 | []=>Nat.zero_le _
 | p :: l=>by
  have h1:=Zq9 given l
  have h2:=Ztr p given
  rw [Sx,ByteArray.size_append,ByteArray.size_append,Sc,Qb,List.length_cons,Nat.add_mul,Nat.one_mul]
  generalize l.length * (9+Z4 given)=M at *
  omega
theorem Zxj {A:Nat} {q:Xf} (hA:q.2.1.length≤A):(Up q).size≤(A+1) * (Z4 q.2.1+Z4 q.2.2.1+20):=by
 have h1:=Zdp Zab (q.2.1.map wd)
 have h2:=Zdp T6 (q.2.2.1.map wd)
 have h3:=Zq9 q.2.2.1 q.2.1
 rw [Zd1] at h1 h2
 have e1:(⟨#[99,104,97,110,99,101]⟩:ByteArray).size=6:=rfl
 have e2:T6.size=3:=rfl
 have e3:Zab.size=1:=rfl
 have e4:(⟨#[97,115,107]⟩:ByteArray).size=3:=rfl
 have e5:(⟨#[]⟩:ByteArray).size=0:=rfl
 have h4:q.2.1.length * (9+Z4 q.2.2.1)≤A * (Z4 q.2.1+Z4 q.2.2.1+20):=Nat.mul_le_mul hA (by omega)
 rw [Nat.add_mul,Nat.one_mul]
 generalize A * (Z4 q.2.1+Z4 q.2.2.1+20)=M at *
 rw [Up]
 split
 ·rw [ByteArray.size_append,ByteArray.size_append,Sc];omega
 ·split
  ·rw [ByteArray.size_append,ByteArray.size_append,ByteArray.size_append,Sc];omega
  ·split
   ·omega
   ·omega
theorem Z4g (u:ByteArray) (q:Xf):(Q4 u q).size≤X6 q.2.2.2.2.1+13:=by
 have:=Zq2 q
 rw [Q4]
 split
 ·exact Nat.zero_le _
 ·rw [ByteArray.size_append,Sc];omega
theorem Zmi (name:ByteArray) (a on:Bool):(S5 name a on).size≤name.size+6:=by
 have:=Z37 on
 rw [S5]
 split
 ·exact Nat.zero_le _
 ·rw [ByteArray.size_append,ByteArray.size_append,Sc];omega
theorem Z35 {A:Nat} {q:Xf} (hA:q.2.1.length≤A) (u:ByteArray) (a b:Bool):(Qa u a b q).size≤(A+2) * tq q:=by
 have h1:=Z4g u q
 have h2:=Zmi Qh a q.2.2.2.2.2.1
 have h3:=Zmi Sy b q.2.2.2.2.2.2
 have h4:=Zxj hA
 have e1:Qh.size=12:=rfl
 have e2:Sy.size=11:=rfl
 have h5:(A+1) * (Z4 q.2.1+Z4 q.2.2.1+20)≤(A+1) * tq q:=Nat.mul_le_mul_left _ (by rw [tq];omega)
 rw [Qa,ByteArray.size_append,ByteArray.size_append,ByteArray.size_append,show A+2=(A+1)+1 from rfl,Nat.add_mul (A+1),Nat.one_mul]
 have h6:X6 q.2.2.2.2.1+130≤tq q:=by rw [tq];omega
 omega
theorem Zqa (h:ByteArray) {ps:List ByteArray} (hp:ps≠[]):Uj h ps=h++jn ps:=if_neg hp
/-! the document's words -/
theorem Z0t (q:Xf):Zaq q=some (Wi q):=by
 rw [Zaq,Wi]
 by_cases h1:q.1=1
 ·rw [if_pos (decide_eq_true h1),if_pos h1];congr 1;exact decide_eq_decide.2 (by omega)
 ·by_cases h2:q.1=2
  ·rw [if_neg (by rw [decide_eq_false h1];decide),if_pos (decide_eq_true h2),if_neg h1,if_pos h2];congr 1;exact decide_eq_decide.2 (by omega)
  ·by_cases h3:q.1=3
   ·rw [if_neg (by rw [decide_eq_false h1];decide),if_neg (by rw [decide_eq_false h2];decide),if_pos (decide_eq_true h3),if_neg h1,if_neg h2,if_pos h3];congr 1;exact decide_eq_decide.2 (by omega)
   ·rw [if_neg (by rw [decide_eq_false h1];decide),if_neg (by rw [decide_eq_false h2];decide),if_neg (by rw [decide_eq_false h3];decide),if_neg h1,if_neg h2,if_neg h3]
section
variable {N:Nat} {q:Xf} {A:Nat} (hA:q.2.1.length≤A) (ha:Z4 q.2.1≤1099511627776) (hg:Z4 q.2.2.1≤1099511627776) (ho:X6 q.2.2.2.2.1≤1099511627776) (hN:1099511627776<N)
include ha hg hN
omit ha in
theorem Zvs (kk:Bool→List Int→Int→Bool→ByteArray→Bool→Bool→Option (ByteArray×Int)) (u:ByteArray):∀ (l:W6) (fl:Bool) (xs:List Int) (n:Int) (o:Bool),Z4 l≤1099511627776→0≤n→n+l.length<4611686018427387904→xs.length+(Z4 l+l.length * (9+Z4 q.2.2.1))≤140737488355328→
  ∃ fl',Zbs N kk q u l fl xs n o=kk fl' (xs++Zg (Sx q.2.2.1 l)) (n+l.length) (o||l.any fun p=>!Y1 p.1||!q.2.2.1.all V5) u q.2.2.2.2.2.1 q.2.2.2.2.2.2
 | [],fl,xs,n,o,_,_,_,_=>by
  refine ⟨fl,?_⟩
  rw [Zbs.eq_1,Qt,Sx,show Zg ⟨#[]⟩=[] from rfl,List.append_nil]
  simp
 | p :: l,fl,xs,n,o,hl,h0,h1,h2=>by
  rw [Qb] at hl h2
  rw [List.length_cons] at h1 h2
  rw [Nat.add_mul,Nat.one_mul] at h2
  have e1:(⟨#[97,108,108,32]⟩:ByteArray).size=4:=rfl
  have hp:(Uj (⟨#[32,124,32]⟩:ByteArray) (q.2.2.1.map wd)).size≤3+Z4 q.2.2.1:=by have:=Zdp T6 (q.2.2.1.map wd);rwa [Zd1] at this
  have e2:(⟨#[32,124,32]⟩:ByteArray).size=3:=rfl
  have h3:=Ztr p q.2.2.1
  rw [Zbs.eq_2,Zm4 (by omega) (by omega),Option.bind_some,Xx (by rw [e1];simp only [maxLen];omega),Zm5 (by rw [e2];omega) hg (by omega),Option.bind_some,Xx (by rw [ByteArray.size_append,e1];simp only [maxLen];omega)]
  generalize hM:l.length * (9+Z4 q.2.2.1)=M at h2
  rw [Zf5 (by show xs.length+(Zdo p q.2.2.1).size+2≤_;omega),Option.bind_some]
  dsimp only
  rw [Yb (by omega)]
  obtain ⟨fl',ih⟩:=Zvs kk u l true (xs++Zg (Zdo p q.2.2.1++U6)) (n+1) ((o||!Y1 p.1)||!q.2.2.1.all V5) (by omega) (by omega) (by omega) (by rw [hM,List.length_append,Xy,ByteArray.size_append,Sc];omega)
  refine ⟨fl',ih.trans ?_⟩
  rw [Sx,Xw (_++U6),List.append_assoc,List.any_cons,List.length_cons,show n+1+(l.length:Int)=n+((l.length+1:Nat):Int) by omega]
  congr 1
  cases o <;> cases Y1 p.1 <;> cases q.2.2.1.all V5 <;> simp
include hA
theorem Zvr (kk:Bool→List Int→Int→Bool→ByteArray→Bool→Bool→Option (ByteArray×Int)) (u:ByteArray) (fl:Bool) (xs:List Int) (n:Int) (o:Bool) (h0:0≤n) (h1:n+A<4611686018427387904) (h2:xs.length+(A+1) * (Z4 q.2.1+Z4 q.2.2.1+20)≤140737488355328):
  ∃ fl',Zfi N kk q u fl xs n o=kk fl' (xs++Zg (Up q)) (n+Vl q) (o||Tc q) u q.2.2.2.2.2.1 q.2.2.2.2.2.2:=by
 have e1:(⟨#[99,104,97,110,99,101]⟩:ByteArray).size=6:=rfl
 have e2:(⟨#[32,124,32]⟩:ByteArray).size=3:=rfl
 have e3:(⟨#[32]⟩:ByteArray).size=1:=rfl
 have e4:(⟨#[97,115,107]⟩:ByteArray).size=3:=rfl
 have p1:(Uj (⟨#[32]⟩:ByteArray) (q.2.1.map wd)).size≤1+Z4 q.2.1:=by have:=Zdp Zab (q.2.1.map wd);rwa [Zd1] at this
 have p2:(Uj (⟨#[32,124,32]⟩:ByteArray) (q.2.2.1.map wd)).size≤3+Z4 q.2.2.1:=by have:=Zdp T6 (q.2.2.1.map wd);rwa [Zd1] at this
 have h4:q.2.1.length * (9+Z4 q.2.2.1)≤A * (Z4 q.2.1+Z4 q.2.2.1+20):=Nat.mul_le_mul hA (by omega)
 rw [Nat.add_mul,Nat.one_mul] at h2
 have h5:A * (Z4 q.2.1+Z4 q.2.2.1+20)+(Z4 q.2.1+Z4 q.2.2.1+20)+xs.length≤140737488355328:=by omega
 generalize hM:A * (Z4 q.2.1+Z4 q.2.2.1+20)=M at h4 h5
 generalize hM2:q.2.1.length * (9+Z4 q.2.2.1)=M2 at h4
 rw [Zfi,Up,Vl,Tc]
 by_cases k1:q.1=1
 ·rw [if_pos (decide_eq_true k1),if_pos k1,if_pos k1,if_pos k1,Zm5 (by rw [e3];omega) ha (by omega),Option.bind_some,Xx (by rw [e1];simp only [maxLen];omega),Zf5 (by show xs.length+((⟨#[99,104,97,110,99,101]⟩:ByteArray)++Uj (⟨#[32]⟩:ByteArray) (q.2.1.map wd)).size+2≤_;rw [ByteArray.size_append,e1];omega),Option.bind_some,Qt]
  dsimp only
  rw [Yb (by omega)]
  exact ⟨true,rfl⟩
 ·by_cases k2:q.1=2
  ·rw [if_neg (by rw [decide_eq_false k1];decide),if_pos (decide_eq_true k2),if_neg k1,if_pos k2,if_neg k1,if_pos k2,if_neg k1,if_pos k2,Zm5 (by rw [e3];omega) ha (by omega),Option.bind_some,Xx (by rw [e4];simp only [maxLen];omega),Zm5 (by rw [e2];omega) hg (by omega),Option.bind_some,Xx (by rw [ByteArray.size_append,e4];simp only [maxLen];omega),
    Zf5 (by show xs.length+(((⟨#[97,115,107]⟩:ByteArray)++Uj (⟨#[32]⟩:ByteArray) (q.2.1.map wd))++Uj (⟨#[32,124,32]⟩:ByteArray) (q.2.2.1.map wd)).size+2≤_;rw [ByteArray.size_append,ByteArray.size_append,e4];omega),Option.bind_some,Qt]
   dsimp only
   rw [Yb (by omega),Bool.or_assoc]
   exact ⟨true,rfl⟩
  ·by_cases k3:q.1=3
   ·rw [if_neg (by rw [decide_eq_false k1];decide),if_neg (by rw [decide_eq_false k2];decide),if_pos (decide_eq_true k3),if_neg k1,if_neg k2,if_pos k3,if_neg k1,if_neg k2,if_pos k3,if_neg k1,if_neg k2,if_pos k3]
    exact Zvs hg hN kk u q.2.1 fl xs n o ha h0 (by omega) (by rw [hM2];omega)
   ·rw [if_neg (by rw [decide_eq_false k1];decide),if_neg (by rw [decide_eq_false k2];decide),if_neg (by rw [decide_eq_false k3];decide),if_neg k1,if_neg k2,if_neg k3,if_neg k1,if_neg k2,if_neg k3,if_neg k1,if_neg k2,if_neg k3,Qt,show Zg ⟨#[]⟩=[] from rfl,List.append_nil,Bool.or_false]
    exact ⟨fl,by simp⟩
end
theorem Zs7 (b:Bool):(X4 (Wo (Wo ([]:List (Bool×ByteArray)) true ⟨#[111,110]⟩) false ⟨#[111,102,102]⟩) b).getD ⟨#[]⟩=if b=true then ⟨#[111,110]⟩ else ⟨#[111,102,102]⟩:=by cases b <;> rfl
section
variable {N:Nat} {q:Xf} {A:Nat} (hA:q.2.1.length≤A) (ha:Z4 q.2.1≤1099511627776) (hg:Z4 q.2.2.1≤1099511627776) (ho:X6 q.2.2.2.2.1≤1099511627776) (hN:1099511627776<N)
include hA ha hg hN
theorem Zvq (kk:Bool→List Int→Int→Bool→ByteArray→Bool→Bool→Option (ByteArray×Int)) (b:Bool) (u:ByteArray) (fl:Bool) (xs:List Int) (n:Int) (o:Bool) (h0:0≤n) (h1:n+A+1<4611686018427387904) (h2:xs.length+17+(A+1) * (Z4 q.2.1+Z4 q.2.2.1+20)≤140737488355328):
  ∃ fl',Zfh N b kk q u fl xs n o=kk fl' (xs++Zg (S5 Sy b q.2.2.2.2.2.2++Up q)) (n+(((if q.2.2.2.2.2.2=b then 0 else 1)+Vl q:Nat):Int)) (o||Tc q) u q.2.2.2.2.2.1 q.2.2.2.2.2.2:=by
 have e1:(⟨#[112,114,117,110,101,32]⟩:ByteArray).size=6:=rfl
 have e2:(⟨#[97,112,97,114,116]⟩:ByteArray).size=5:=rfl
 have e3:(⟨#[32]⟩:ByteArray).size=1:=rfl
 rw [Zfh,S5]
 by_cases hb:q.2.2.2.2.2.2=b
 ·rw [if_neg (by rw [decide_eq_true hb];decide),if_pos hb,if_pos hb,Zlv,Nat.zero_add]
  exact Zvr hA ha hg hN kk u fl xs n o h0 (by omega) (by omega)
 ·have ew:((((⟨#[112,114,117,110,101,32]⟩:ByteArray)++(⟨#[97,112,97,114,116]⟩))++(⟨#[32]⟩))++(if q.2.2.2.2.2.2=true then (⟨#[111,110]⟩:ByteArray) else ⟨#[111,102,102]⟩))=Sy++Zcc q.2.2.2.2.2.2:=by cases q.2.2.2.2.2.2 <;> rfl
  have es:(if q.2.2.2.2.2.2=true then (⟨#[111,110]⟩:ByteArray) else ⟨#[111,102,102]⟩).size≤3:=by cases q.2.2.2.2.2.2 <;> decide
  have ez:(Sy++Zcc q.2.2.2.2.2.2).size≤15:=by cases q.2.2.2.2.2.2 <;> decide
  rw [if_pos (by rw [decide_eq_false hb];decide),if_neg hb,if_neg hb,Xx (by rw [e1,e2];decide),Xx (by rw [ByteArray.size_append,e1,e2,e3];decide),Option.bind_some,Option.bind_some,Zs7,Xx (by rw [ByteArray.size_append,ByteArray.size_append,e1,e2,e3];simp only [maxLen];omega),ew,Zf5 (by show xs.length+_+_≤_;omega),Option.bind_some]
  dsimp only
  rw [Yb (by omega)]
  obtain ⟨fl',ih⟩:=Zvr hA ha hg hN kk u true (xs++Zg ((Sy++Zcc q.2.2.2.2.2.2)++U6)) (n+1) o (by omega) (by omega) (by rw [List.length_append,Xy,ByteArray.size_append,Sc];omega)
  refine ⟨fl',ih.trans ?_⟩
  rw [Xw (_++U6),List.append_assoc,show n+1+(Vl q:Int)=n+((1+Vl q:Nat):Int) by omega]
theorem Zvp (kk:Bool→List Int→Int→Bool→ByteArray→Bool→Bool→Option (ByteArray×Int)) (a b:Bool) (u:ByteArray) (fl:Bool) (xs:List Int) (n:Int) (o:Bool) (h0:0≤n) (h1:n+A+2<4611686018427387904) (h2:xs.length+35+(A+1) * (Z4 q.2.1+Z4 q.2.2.1+20)≤140737488355328):
  ∃ fl',Zfg N a b kk q fl xs n o u=kk fl' (xs++Zg (S5 Qh a q.2.2.2.2.2.1++(S5 Sy b q.2.2.2.2.2.2++Up q))) (n+(((if q.2.2.2.2.2.1=a then 0 else 1)+((if q.2.2.2.2.2.2=b then 0 else 1)+Vl q):Nat):Int)) (o||Tc q) u q.2.2.2.2.2.1 q.2.2.2.2.2.2:=by
 have e1:(⟨#[112,114,117,110,101,32]⟩:ByteArray).size=6:=rfl
 have e2:(⟨#[98,97,114,114,101,110]⟩:ByteArray).size=6:=rfl
 have e3:(⟨#[32]⟩:ByteArray).size=1:=rfl
 rw [Zfg,S5]
 by_cases hb:q.2.2.2.2.2.1=a
 ·rw [if_neg (by rw [decide_eq_true hb];decide),if_pos hb,if_pos hb,Zlv,Nat.zero_add]
  exact Zvq hA ha hg hN kk b u fl xs n o h0 (by omega) (by omega)
 ·have ew:((((⟨#[112,114,117,110,101,32]⟩:ByteArray)++(⟨#[98,97,114,114,101,110]⟩))++(⟨#[32]⟩))++(if q.2.2.2.2.2.1=true then (⟨#[111,110]⟩:ByteArray) else ⟨#[111,102,102]⟩))=Qh++Zcc q.2.2.2.2.2.1:=by cases q.2.2.2.2.2.1 <;> rfl
  have es:(if q.2.2.2.2.2.1=true then (⟨#[111,110]⟩:ByteArray) else ⟨#[111,102,102]⟩).size≤3:=by cases q.2.2.2.2.2.1 <;> decide
  have ez:(Qh++Zcc q.2.2.2.2.2.1).size≤16:=by cases q.2.2.2.2.2.1 <;> decide
  rw [if_pos (by rw [decide_eq_false hb];decide),if_neg hb,if_neg hb,Xx (by rw [e1,e2];decide),Xx (by rw [ByteArray.size_append,e1,e2,e3];decide),Option.bind_some,Option.bind_some,Zs7,Xx (by rw [ByteArray.size_append,ByteArray.size_append,e1,e2,e3];simp only [maxLen];omega),ew,Zf5 (by show xs.length+_+_≤_;omega),Option.bind_some]
  dsimp only
  rw [Yb (by omega)]
  obtain ⟨fl',ih⟩:=Zvq hA ha hg hN kk b u true (xs++Zg ((Qh++Zcc q.2.2.2.2.2.1)++U6)) (n+1) o (by omega) (by omega) (by rw [List.length_append,Xy,ByteArray.size_append,Sc];omega)
  refine ⟨fl',ih.trans ?_⟩
  rw [Xw (_++U6),List.append_assoc,show n+1+(((if q.2.2.2.2.2.2=b then 0 else 1)+Vl q:Nat):Int)=n+((1+((if q.2.2.2.2.2.2=b then 0 else 1)+Vl q):Nat):Int) by omega]
include ho
theorem Zvo (kk:Bool→List Int→Int→Bool→ByteArray→Bool→Bool→Option (ByteArray×Int)) (a b:Bool) (u:ByteArray) (fl:Bool) (xs:List Int) (n:Int) (o:Bool) (h0:0≤n) (h1:n+A+3<4611686018427387904) (h2:xs.length+(A+2) * tq q≤140737488355328):
  ∃ fl',Zff N u a b kk q fl xs n o=kk fl' (xs++Zg (Qa u a b q)) (n+Su u a b q) ((o||!(Tj q&&U5 q))||Tc q) (Xt q) q.2.2.2.2.2.1 q.2.2.2.2.2.2:=by
 have h5:(A+1) * (Z4 q.2.1+Z4 q.2.2.1+20)≤(A+1) * tq q:=Nat.mul_le_mul_left _ (by rw [tq];omega)
 have h6:X6 q.2.2.2.2.1+130≤tq q:=by rw [tq];omega
 have h7:=Zq2 q
 rw [show A+2=(A+1)+1 from rfl,Nat.add_mul (A+1),Nat.one_mul] at h2
 rw [Zff,Z4p (by exact ho) (show X6 q.2.2.2.2.1<N by omega),Option.bind_some,Qa,Su,Q4]
 dsimp only
 by_cases hu:Xt q=u
 ·obtain ⟨fl',ih⟩:=Zvp hA ha hg hN kk a b u fl xs n (o||!(Tj q&&U5 q)) h0 (by omega) (by omega)
  refine ⟨fl',?_⟩
  rw [if_neg (by rw [decide_eq_true (show Xt (q.1,q.2.1,q.2.2.1,q.2.2.2.1,q.2.2.2.2.1,(q.2.2.2.2.2.1,q.2.2.2.2.2.2))=u from hu)];decide),if_pos hu,if_pos hu,Zlv,ByteArray.append_assoc,Nat.zero_add,Nat.add_assoc,hu]
  exact ih
 ·rw [if_pos (by rw [decide_eq_false (show ¬ Xt (q.1,q.2.1,q.2.2.1,q.2.2.2.1,q.2.2.2.2.1,(q.2.2.2.2.2.1,q.2.2.2.2.2.2))=u from hu)];decide),if_neg hu,if_neg hu]
  have hc:So ((fl,xs),n,o||!(Tj q&&U5 q)) (Xt q)=some ((true,xs++Zg (Xt q++U6)),i64.wrap (n+1),o||!(Tj q&&U5 q)):=Zf5 (by show xs.length+_+_≤_;omega)
  have hc2:So ((fl,xs),n,o||!(Tj (q.1,q.2.1,q.2.2.1,q.2.2.2.1,q.2.2.2.2.1,(q.2.2.2.2.2.1,q.2.2.2.2.2.2))&&U5 (q.1,q.2.1,q.2.2.1,q.2.2.2.1,q.2.2.2.2.1,(q.2.2.2.2.2.1,q.2.2.2.2.2.2)))) (Xt (q.1,q.2.1,q.2.2.1,q.2.2.2.1,q.2.2.2.2.1,(q.2.2.2.2.2.1,q.2.2.2.2.2.2)))=some ((true,xs++Zg (Xt q++U6)),i64.wrap (n+1),o||!(Tj q&&U5 q)):=hc
  rw [hc2,Option.bind_some]
  dsimp only
  rw [Yb (by omega)]
  obtain ⟨fl',ih⟩:=Zvp hA ha hg hN kk a b (Xt q) true (xs++Zg (Xt q++U6)) (n+1) (o||!(Tj q&&U5 q)) (by omega) (by omega) (by rw [List.length_append,Xy,ByteArray.size_append,Sc];omega)
  refine ⟨fl',ih.trans ?_⟩
  rw [List.append_assoc,← Xw]
  simp only [ByteArray.append_assoc]
  rw [show n+1+(((if q.2.2.2.2.2.1=a then 0 else 1)+((if q.2.2.2.2.2.2=b then 0 else 1)+Vl q):Nat):Int)=n+((1+(if q.2.2.2.2.2.1=a then 0 else 1)+(if q.2.2.2.2.2.2=b then 0 else 1)+Vl q:Nat):Int) by omega]
end
structure Qd (A:Nat) (q:Xf):Prop where
 n:q.2.1.length≤A
 t:tq q≤68719476736
theorem Qd.a {A:Nat} {q:Xf} (h:Qd A q):Z4 q.2.1≤1099511627776:=by have:=h.t;rw [tq] at this;omega
theorem Qd.g {A:Nat} {q:Xf} (h:Qd A q):Z4 q.2.2.1≤1099511627776:=by have:=h.t;rw [tq] at this;omega
theorem Qd.o {A:Nat} {q:Xf} (h:Qd A q):X6 q.2.2.2.2.1≤1099511627776:=by have:=h.t;rw [tq] at this;omega
def Zf3 (bad:Bool) (s:ByteArray):ByteArray×Int:=if bad=true then (⟨#[]⟩,50) else (s,0)
theorem Z3o (s:ByteArray):Zf3 true s=(⟨#[]⟩,50):=rfl
theorem Z3n (s:ByteArray):Zf3 false s=(s,0):=rfl
theorem Z33 {A:Nat} {q:Xf} (h:q.2.1.length≤A) (u:ByteArray) (a b:Bool):Su u a b q≤A+4:=by
 have hb:Vl q≤A+1:=by
  rw [Vl]
  split
  ·omega
  ·split
   ·omega
   ·split <;> omega
 rw [Su]
 split <;> split <;> split <;> omega
section
variable {N A:Nat} (hN:1099511627776<N) (hA2:A≤1099511627776)
include hN hA2
theorem Zue:∀ (l:List Xf) (fl:Bool) (s:ByteArray) (n:Int) (o:Bool) (u:ByteArray) (a b:Bool),(∀ q ∈ l,Qd A q)→0≤n→n+l.length * (A+4)<4611686018427387904→s.size+(A+2) * Sv l≤140737488355328→
  V3 N l fl (Zg s) n o u a b=some (Zf3 (o||!(l.all Y0)||decide (4096<n+Wz l u a b)) (s++Ua l u a b))
 | [],fl,s,n,o,u,a,b,_,h0,h1,h2=>by
  rw [V3.eq_1,Ua,Wz,Ziz]
  cases o with
  | true=>rw [if_pos rfl,Zfe,if_pos rfl];rfl
  | false=>
   rw [if_neg (by decide),Zfe]
   by_cases h:4096<n
   ·rw [if_pos (decide_eq_true h),decide_eq_true (by omega),Bool.or_true];rfl
   ·rw [if_neg (by rw [decide_eq_false h];decide),decide_eq_false (by omega),Zjv,Xx fun x hx=>Zdy hx,Option.bind_some,Zgd];rfl
 | q :: l,fl,s,n,o,u,a,b,h,h0,h1,h2=>by
  have hq:=h q List.mem_cons_self
  rw [List.length_cons,show ((l.length+1:Nat):Int) * ((A:Int)+4)=l.length * ((A:Int)+4)+(A+4) by rw [Int.natCast_add,Int.add_mul];omega] at h1
  have hL:(0:Int)≤l.length * ((A:Int)+4):=Int.mul_nonneg (by omega) (by omega)
  rw [Zd3,Nat.mul_add] at h2
  have hz:=Z35 hq.n u a b
  have hn:Su u a b q≤A+4:=Z33 hq.n _ _ _
  have step:∃ fl',V3 N (q :: l) fl (Zg s) n o u a b=V3 N l fl' (Zg (s++Qa u a b q)) (n+Su u a b q) (o||!Y0 q) (Xt q) q.2.2.2.2.2.1 q.2.2.2.2.2.2:=by
   rw [V3.eq_2,Xw]
   cases o with
   | true=>
    rw [if_pos rfl]
    obtain ⟨fl',ih⟩:=Zvo hq.n hq.a hq.g hq.o hN (V3 N l) a b u fl (Zg s) n true h0 (by omega) (by rw [Xy];omega)
    exact ⟨fl',by rw [ih];simp⟩
   | false=>
    have hf:Zaq (q.1,q.2.1,q.2.2.1,q.2.2.2.1,q.2.2.2.2.1,(q.2.2.2.2.2.1,q.2.2.2.2.2.2))=some (Wi q):=Z0t q
    rw [if_neg (by decide),hf,Option.bind_some]
    obtain ⟨fl',ih⟩:=Zvo hq.n hq.a hq.g hq.o hN (V3 N l) a b u fl (Zg s) n (!Wi q) h0 (by omega) (by rw [Xy];omega)
    refine ⟨fl',ih.trans ?_⟩
    congr 1
    rw [Y0]
    cases Wi q <;> cases Tj q <;> cases U5 q <;> cases Tc q <;> rfl
  obtain ⟨fl',hst⟩:=step
  rw [hst,Zue l fl' _ _ _ _ _ _ (fun x hx=>h x (List.mem_cons_of_mem _ hx)) (by omega) (by omega) (by rw [ByteArray.size_append];omega),Ua,Wz,List.all_cons,ByteArray.append_assoc]
  congr 2
  ·rw [show n+(Su u a b q:Int)+(Wz l (Xt q) q.2.2.2.2.2.1 q.2.2.2.2.2.2:Int)=n+((Su u a b q+Wz l (Xt q) q.2.2.2.2.2.1 q.2.2.2.2.2.2:Nat):Int) by omega]
   cases o <;> cases Y0 q <;> simp
theorem Zvt (l:List Xf) (h:∀ q ∈ l,Qd A q) (h1:l.length * (A+4)<4611686018427387904) (h2:(A+2) * Sv l≤140737488355328):
  Zfd N l=some (Zf3 (!(l.all Y0)||decide (4096<Wz l ⟨#[117,115,101,32,102,105,108,108]⟩ false false)) (Ua l ⟨#[117,115,101,32,102,105,108,108]⟩ false false)):=by
 have e0:decide ((4096:Int)<0+((Wz l ⟨#[117,115,101,32,102,105,108,108]⟩ false false:Nat):Int))=decide (4096<Wz l ⟨#[117,115,101,32,102,105,108,108]⟩ false false):=decide_eq_decide.2 (by omega)
 have h3:(0:Int)+l.length * ((A:Int)+4)<4611686018427387904:=by
  have:=Int.ofNat_lt.2 h1
  rw [Int.natCast_mul] at this
  simpa using this
 have:=Zue hN hA2 l false ⟨#[]⟩ 0 false ⟨#[117,115,101,32,102,105,108,108]⟩ false false h (by omega) h3 (by rw [show (⟨#[]⟩:ByteArray).size=0 from rfl];omega)
 rw [e0,Zlv] at this
 exact this
end

end Go.Proofs.YtdpdogdkolblnaaGreatDoor
