/-
  What functions of the program compute, as plain Lean functions (m_..), and proofs that they compute it (c_..). Printed by a program of the author; no conditions.
-/
import Derived.Test.YtdpdogdkolblnaaGreatDoorQueryAgainBFloat
import Derived.Test.YtdpdogdkolblnaaGreatDoorProg
import Derived.Test.YtdpdogdkolblnaaGreatDoorQueryAgainBArr
import Derived.Test.YtdpdogdkolblnaaGreatDoorQueryAgainBBld
import Derived.Test.YtdpdogdkolblnaaGreatDoorQueryAgainBBldQ
import Derived.Test.YtdpdogdkolblnaaGreatDoorQueryAgainBBrief
import Derived.Test.YtdpdogdkolblnaaGreatDoorQueryAgainBErr
import Derived.Test.YtdpdogdkolblnaaGreatDoorQueryAgainBMixD
import Derived.Test.YtdpdogdkolblnaaGreatDoorQueryAgainBThree
import Derived.Test.YtdpdogdkolblnaaGreatDoorQueryAgainF1
set_option linter.unusedVariables false
set_option linter.unusedSectionVars false
set_option maxRecDepth 100000
set_option maxHeartbeats 2000000
namespace Go.Proofs.YtdpdogdkolblnaaGreatDoor
open Go Go.RowKit
open Go.IntKind (i8 i16 i32 i64 u8 u16 u32 u64)
open Go.Proofs.Tryz

def Zkg (N:Nat):Nat→Int→(List ByteArray)→Bool→Bool→(List (Int×(List (ByteArray×ByteArray))×(List (ByteArray×ByteArray))×Int×List ByteArray×(Bool×Bool)))→Int→Option ((List (Int×(List (ByteArray×ByteArray))×(List (ByteArray×ByteArray))×Int×List ByteArray×(Bool×Bool)))×(Option (Int×Int×Int×ByteArray)))
  | 0,_,_,_,_,_,_=>none
  | n_28+1,set_31,set_32,set_36,set_37,l_38,commands_42=>none
def Tc (set_66:Int) (set_71:Bool) (set_72:Bool) (l_73:List (Int×(List (ByteArray×ByteArray))×(List (ByteArray×ByteArray))×Int×List ByteArray×(Bool×Bool))) (kk_L2:((List (Int×ByteArray×Int×Int))→(Option (Int×Int×Int×ByteArray))→Int→(Option (Int×Int×Int×ByteArray))→Int→(List ByteArray)→Bool→Bool→(List (Int×(List (ByteArray×ByteArray))×(List (ByteArray×ByteArray))×Int×List ByteArray×(Bool×Bool)))→Int→Option ((List (Int×(List (ByteArray×ByteArray))×(List (ByteArray×ByteArray))×Int×List ByteArray×(Bool×Bool)))×(Option (Int×Int×Int×ByteArray))))) (commands_104:Int) (r_114:List ByteArray) (v_129:List (Int×ByteArray×Int×Int)) (v_134:(Option (Int×Int×Int×ByteArray))) (v_136:Int) (v_138:(Option (Int×Int×Int×ByteArray))) (set_140:Int) (set_141:List ByteArray) (set_145:Bool) (set_146:Bool) (q_147:Int) (q_148:List (ByteArray×ByteArray)) (q_152:List (ByteArray×ByteArray)):Option ((List (Int×(List (ByteArray×ByteArray))×(List (ByteArray×ByteArray))×Int×List ByteArray×(Bool×Bool)))×(Option (Int×Int×Int×ByteArray))):=
  (Tq (v_129,v_134,v_136,v_138) (⟨#[59]⟩)).bind fun r_156=>if r_156.2.2.2.isSome=true then (r_156.2.2.2.bind fun f_169=>some (([]:List (Int×(List (ByteArray×ByteArray))×(List (ByteArray×ByteArray))×Int×List ByteArray×(Bool×Bool))),(some f_169))) else (Zr ((l_73.length+[(q_147,q_148,q_152,set_66,r_114,(set_71,set_72))].length) * 96≤140737488355328∧l_73.length+[(q_147,q_148,q_152,set_66,r_114,(set_71,set_72))].length≤maxLen) (kk_L2 r_156.1 r_156.2.1 r_156.2.2.1 r_156.2.2.2 set_140 set_141 set_145 set_146 (l_73++[(q_147,q_148,q_152,set_66,r_114,(set_71,set_72))]) commands_104))
def Zeq (set_66:Int) (set_71:Bool) (set_72:Bool) (l_73:List (Int×(List (ByteArray×ByteArray))×(List (ByteArray×ByteArray))×Int×List ByteArray×(Bool×Bool))) (kk_L2:((List (Int×ByteArray×Int×Int))→(Option (Int×Int×Int×ByteArray))→Int→(Option (Int×Int×Int×ByteArray))→Int→(List ByteArray)→Bool→Bool→(List (Int×(List (ByteArray×ByteArray))×(List (ByteArray×ByteArray))×Int×List ByteArray×(Bool×Bool)))→Int→Option ((List (Int×(List (ByteArray×ByteArray))×(List (ByteArray×ByteArray))×Int×List ByteArray×(Bool×Bool)))×(Option (Int×Int×Int×ByteArray))))) (commands_104:Int) (r_114:List ByteArray) (v_211:List (Int×ByteArray×Int×Int)) (v_216:(Option (Int×Int×Int×ByteArray))) (v_218:Int) (v_220:(Option (Int×Int×Int×ByteArray))) (set_222:Int) (set_223:List ByteArray):Option ((List (Int×(List (ByteArray×ByteArray))×(List (ByteArray×ByteArray))×Int×List ByteArray×(Bool×Bool)))×(Option (Int×Int×Int×ByteArray))):=
  (Tq (v_211,v_216,v_218,v_220) (⟨#[59]⟩)).bind fun r_227=>if (!r_227.2.2.2.isSome)=true then (kk_L2 r_227.1 r_227.2.1 r_227.2.2.1 r_227.2.2.2 set_222 set_223 set_71 set_72 l_73 commands_104) else (Tc set_66 set_71 set_72 l_73 kk_L2 commands_104 r_114 r_227.1 r_227.2.1 r_227.2.2.1 r_227.2.2.2 set_222 set_223 set_71 set_72 0 ([]:List (ByteArray×ByteArray)) ([]:List (ByteArray×ByteArray)))
def Zep (N:Nat) (set_66:Int) (set_67:List ByteArray) (set_71:Bool) (set_72:Bool) (l_73:List (Int×(List (ByteArray×ByteArray))×(List (ByteArray×ByteArray))×Int×List ByteArray×(Bool×Bool))) (kk_L2:((List (Int×ByteArray×Int×Int))→(Option (Int×Int×Int×ByteArray))→Int→(Option (Int×Int×Int×ByteArray))→Int→(List ByteArray)→Bool→Bool→(List (Int×(List (ByteArray×ByteArray))×(List (ByteArray×ByteArray))×Int×List ByteArray×(Bool×Bool)))→Int→Option ((List (Int×(List (ByteArray×ByteArray))×(List (ByteArray×ByteArray))×Int×List ByteArray×(Bool×Bool)))×(Option (Int×Int×Int×ByteArray))))) (v_93:List (Int×ByteArray×Int×Int)) (v_98:(Option (Int×Int×Int×ByteArray))) (v_100:Int) (v_102:(Option (Int×Int×Int×ByteArray))) (commands_104:Int):Option ((List (Int×(List (ByteArray×ByteArray))×(List (ByteArray×ByteArray))×Int×List ByteArray×(Bool×Bool)))×(Option (Int×Int×Int×ByteArray))):=
  (Zhq set_67).bind fun r_114=>(Uv (v_93,v_98,v_100,v_102) ([⟨#[117,115,101]⟩,⟨#[112,114,117,110,101]⟩,⟨#[99,104,97,110,99,101]⟩,⟨#[97,115,107]⟩,⟨#[97,108,108]⟩]:List ByteArray)).bind fun r_192=>if (decide (r_192.1=(⟨#[117,115,101]⟩)))=true then ((Uv (r_192.2.1,r_192.2.2.1,r_192.2.2.2.1,r_192.2.2.2.2) ([⟨#[102,105,108,108]⟩,⟨#[100,101,103,114,101,101]⟩,⟨#[111,114,100,101,114]⟩]:List ByteArray)).bind fun r_245=>if (decide (r_245.1=(⟨#[102,105,108,108]⟩)))=true then (Zeq set_66 set_71 set_72 l_73 kk_L2 commands_104 r_114 r_245.2.1 r_245.2.2.1 r_245.2.2.2.1 r_245.2.2.2.2 1 ([]:List ByteArray)) else (if (decide (r_245.1=(⟨#[100,101,103,114,101,101]⟩)))=true then (Zeq set_66 set_71 set_72 l_73 kk_L2 commands_104 r_114 r_245.2.1 r_245.2.2.1 r_245.2.2.2.1 r_245.2.2.2.2 2 ([]:List ByteArray)) else (if (decide (r_245.1=(⟨#[111,114,100,101,114]⟩)))=true then ((Zhc N (r_245.2.1,r_245.2.2.1,r_245.2.2.2.1,r_245.2.2.2.2)).bind fun r_266=>Zeq set_66 set_71 set_72 l_73 kk_L2 commands_104 r_114 r_266.2.1 r_266.2.2.1 r_266.2.2.2.1 r_266.2.2.2.2 3 r_266.1) else (Zeq set_66 set_71 set_72 l_73 kk_L2 commands_104 r_114 r_245.2.1 r_245.2.2.1 r_245.2.2.2.1 r_245.2.2.2.2 set_66 ([]:List ByteArray))))) else (if (decide (r_192.1=(⟨#[112,114,117,110,101]⟩)))=true then ((Uv (r_192.2.1,r_192.2.2.1,r_192.2.2.2.1,r_192.2.2.2.2) ([⟨#[98,97,114,114,101,110]⟩,⟨#[97,112,97,114,116]⟩]:List ByteArray)).bind fun r_295=>if (decide (r_295.1=(⟨#[97,112,97,114,116]⟩)))=true then ((Uv (r_295.2.1,r_295.2.2.1,r_295.2.2.2.1,r_295.2.2.2.2) ([⟨#[111,110]⟩,⟨#[111,102,102]⟩]:List ByteArray)).bind fun r_313=>(Tq (r_313.2.1,r_313.2.2.1,r_313.2.2.2.1,r_313.2.2.2.2) (⟨#[59]⟩)).bind fun r_330=>if (!r_330.2.2.2.isSome)=true then (kk_L2 r_330.1 r_330.2.1 r_330.2.2.1 r_330.2.2.2 set_66 set_67 set_71 (decide (r_313.1=(⟨#[111,110]⟩))) l_73 commands_104) else (Tc set_66 set_71 set_72 l_73 kk_L2 commands_104 r_114 r_330.1 r_330.2.1 r_330.2.2.1 r_330.2.2.2 set_66 set_67 set_71 (decide (r_313.1=(⟨#[111,110]⟩))) 0 ([]:List (ByteArray×ByteArray)) ([]:List (ByteArray×ByteArray)))) else ((Uv (r_295.2.1,r_295.2.2.1,r_295.2.2.2.1,r_295.2.2.2.2) ([⟨#[111,110]⟩,⟨#[111,102,102]⟩]:List ByteArray)).bind fun r_348=>(Tq (r_348.2.1,r_348.2.2.1,r_348.2.2.2.1,r_348.2.2.2.2) (⟨#[59]⟩)).bind fun r_365=>if (!r_365.2.2.2.isSome)=true then (kk_L2 r_365.1 r_365.2.1 r_365.2.2.1 r_365.2.2.2 set_66 set_67 (decide (r_348.1=(⟨#[111,110]⟩))) set_72 l_73 commands_104) else (Tc set_66 set_71 set_72 l_73 kk_L2 commands_104 r_114 r_365.1 r_365.2.1 r_365.2.2.1 r_365.2.2.2 set_66 set_67 (decide (r_348.1=(⟨#[111,110]⟩))) set_72 0 ([]:List (ByteArray×ByteArray)) ([]:List (ByteArray×ByteArray))))) else (if (decide (r_192.1=(⟨#[99,104,97,110,99,101]⟩)))=true then ((Qb (r_192.2.1,r_192.2.2.1,r_192.2.2.2.1,r_192.2.2.2.2)).bind fun r_382=>if (!decide (r_382.1.1=4))=true then ((Za9 N (r_382.2.1,r_382.2.2.1,r_382.2.2.2.1,r_382.2.2.2.2)).bind fun r_395=>Tc set_66 set_71 set_72 l_73 kk_L2 commands_104 r_114 r_395.2.1 r_395.2.2.1 r_395.2.2.2.1 r_395.2.2.2.2 set_66 set_67 set_71 set_72 1 r_395.1 ([]:List (ByteArray×ByteArray))) else (Tc set_66 set_71 set_72 l_73 kk_L2 commands_104 r_114 r_382.2.1 r_382.2.2.1 r_382.2.2.2.1 r_382.2.2.2.2 set_66 set_67 set_71 set_72 1 ([]:List (ByteArray×ByteArray)) ([]:List (ByteArray×ByteArray)))) else (if (decide (r_192.1=(⟨#[97,115,107]⟩)))=true then ((Za9 N (r_192.2.1,r_192.2.2.1,r_192.2.2.2.1,r_192.2.2.2.2)).bind fun r_419=>(Zex N (r_419.2.1,r_419.2.2.1,r_419.2.2.2.1,r_419.2.2.2.2)).bind fun r_439=>Tc set_66 set_71 set_72 l_73 kk_L2 commands_104 r_114 r_439.2.1 r_439.2.2.1 r_439.2.2.2.1 r_439.2.2.2.2 set_66 set_67 set_71 set_72 2 r_419.1 r_439.1) else (if (decide (r_192.1=(⟨#[97,108,108]⟩)))=true then ((Uv (r_192.2.1,r_192.2.2.1,r_192.2.2.2.1,r_192.2.2.2.2) ([]:List ByteArray)).bind fun r_463=>(Zex N (r_463.2.1,r_463.2.2.1,r_463.2.2.2.1,r_463.2.2.2.2)).bind fun r_485=>Tc set_66 set_71 set_72 l_73 kk_L2 commands_104 r_114 r_485.2.1 r_485.2.2.1 r_485.2.2.2.1 r_485.2.2.2.2 set_66 set_67 set_71 set_72 3 ([(r_463.1,⟨#[]⟩)]:List (ByteArray×ByteArray)) r_485.1) else (Tc set_66 set_71 set_72 l_73 kk_L2 commands_104 r_114 r_192.2.1 r_192.2.2.1 r_192.2.2.2.1 r_192.2.2.2.2 set_66 set_67 set_71 set_72 0 ([]:List (ByteArray×ByteArray)) ([]:List (ByteArray×ByteArray)))))))
def T6 (N:Nat):Nat→(List (Int×ByteArray×Int×Int))→(Option (Int×Int×Int×ByteArray))→Int→(Option (Int×Int×Int×ByteArray))→Int→(List ByteArray)→Bool→Bool→(List (Int×(List (ByteArray×ByteArray))×(List (ByteArray×ByteArray))×Int×List ByteArray×(Bool×Bool)))→Int→Option ((List (Int×(List (ByteArray×ByteArray))×(List (ByteArray×ByteArray))×Int×List ByteArray×(Bool×Bool)))×(Option (Int×Int×Int×ByteArray)))
  | 0,_,_,_,_,_,_,_,_,_,_=>none
  | n_52+1,v_55,v_60,v_62,v_64,set_66,set_67,set_71,set_72,l_73,commands_77=>(Qb (v_55,v_60,v_62,v_64)).bind fun r_78=>if (!decide (r_78.1.1=0))=true then (if (decide (4096<(i64.wrap (commands_77+1))))=true then ((Zcu (r_78.2.1,r_78.2.2.1,r_78.2.2.2.1,r_78.2.2.2.2)).bind fun r_505=>Zep N set_66 set_67 set_71 set_72 l_73 (T6 N n_52) r_505.1 r_505.2.1 r_505.2.2.1 r_505.2.2.2 (i64.wrap (commands_77+1))) else (Zep N set_66 set_67 set_71 set_72 l_73 (T6 N n_52) r_78.2.1 r_78.2.2.1 r_78.2.2.2.1 r_78.2.2.2.2 (i64.wrap (commands_77+1)))) else (some (l_73,(none:(Option (Int×Int×Int×ByteArray)))))
termination_by structural x=>x
def So (N:Nat) (p0_text:ByteArray):Option ((List (Int×(List (ByteArray×ByteArray))×(List (ByteArray×ByteArray))×Int×List ByteArray×(Bool×Bool)))×(Option (Int×Int×Int×ByteArray))):=
  (Zkk N p0_text).bind fun r_1=>Zll (r_1) (Zkg N N 1 ([]:List ByteArray) false false ([]:List (Int×(List (ByteArray×ByteArray))×(List (ByteArray×ByteArray))×Int×List ByteArray×(Bool×Bool))) 0) (fun t_8=>T6 N N t_8.1 t_8.2.1 t_8.2.2.1 t_8.2.2.2 1 ([]:List ByteArray) false false ([]:List (Int×(List (ByteArray×ByteArray))×(List (ByteArray×ByteArray))×Int×List ByteArray×(Bool×Bool))) 0)
theorem Zm8 {N:Nat} {col:Zc} {w0:World} {p0_text:ByteArray} {r:((List (Int×(List (ByteArray×ByteArray))×(List (ByteArray×ByteArray))×Int×List ByteArray×(Bool×Bool)))×(Option (Int×Int×Int×ByteArray)))} (c1:Nat) (hm:So N p0_text=some r) (hgl:Gl (.iface 141 (.agg #[.pointer (some ⟨4,24,none⟩)])) col w0):
    Calls prog 8 #[.string p0_text] w0 (fun e w'=>∃ (col':Zc) (ra1:Option Addr) (rc2:Nat) (rv4:Value),e= .returned (.tuple #[.slice ra1 r.1.length rc2,rv4])∧Zg col w0 col' w'∧Zb (Za.pair (Za.int .i8) (Za.pair (Za.row 56 (Za.pair Za.str Za.str)) (Za.pair (Za.row 56 (Za.pair Za.str Za.str)) (Za.pair (Za.int .i8) (Za.pair (Za.row 9 Za.str) (Za.pair Za.bool Za.bool)))))) 50 c1 col' w' ra1 rc2 r.1∧Rd (Za.err 72 29 (Za.pair (Za.int .i64) (Za.pair (Za.int .i64) (Za.pair (Za.int .i64) Za.str)))) col' w' [rv4] r.2):=by
 refine Zcb 2 3 (m:=123) (args:=[.string p0_text]) func8 O O O O O ?_;rw [So.eq_1] at hm;have hst:=St.start col w0;refine go ?_;refine lv (v:=.nilIface) O O (Y7 O)<|Zh<|Z3d<|go ?_;obtain ⟨r_1,hr_2,hm⟩:=bZ hm;replace hgl:=hgl.keep (Zk.start col w0);refine Zf (Zxx 1 2 hr_2 hgl) ?_;rintro _ w_5 ⟨col_7,rv_3,rfl,hg_6,rh_4⟩;refine ⟨_,O,?_⟩;replace hgl:=hgl.gr hg_6;replace hst:=hst.grow hg_6
 cases hx_9:r_1 with
 | none=>
  rw [hx_9] at hm rh_4;replace hm:=Zs5 hm;obtain rfl:=Z1h rh_4;refine go ?_;refine lV (.agg #[.int .i8 0,.slice none (([]:List (ByteArray×ByteArray)).length) 0,.slice none (([]:List (ByteArray×ByteArray)).length) 0,.int .i8 1,.slice none (([]:List ByteArray).length) 0,.bool false,.bool false]) (Wx (l:=[_,_,_,_,_,_]) (qs:=[(0,1),(1,1),(2,1),(3,1),(4,1),(5,2)]) underlying50 zeroValue50 ⟨O,sizeOf46,O,sizeOf47,O,sizeOf47,O,sizeOf46,O,sizeOf40,O,sizeOf48,trivial⟩ O)<|Xy (col:=col_7) #[.int .i8 0,.slice none (([]:List (ByteArray×ByteArray)).length) 0,.slice none (([]:List (ByteArray×ByteArray)).length) 0,.int .i8 0,.slice none (([]:List ByteArray).length) 0,.bool false,.bool false] 3 zeroValue50 ?_;intro g_19 w_20 col_21 hg_22 hb_23;refine Xi hb_23 ?_;intro w_24 hk_25 hs_26 hb_27;refine go ?_;refine Zvf<|go ?_;replace hgl:=(hgl.gr hg_22).kp hk_25;replace hst:=(hst.grow hg_22).kp hk_25 hs_26;refine Z5 [4,5,1000000] (fun n f w_29=>∃ col_30 set_31 a_33 cap_34 set_32 set_36 set_37 a_39 cap_40 l_38 commands_42 n_28,n_28=n∧Zkg N n_28 set_31 set_32 set_36 set_37 l_38 commands_42=some r∧St w0 (Zi col) col_30 w_29∧Zb Za.str 9 4 col_30 w_29 a_33 cap_34 set_32∧Zd 50 3 col_30 w_29 g_19 #[.int .i8 0,.slice none (([]:List (ByteArray×ByteArray)).length) 0,.slice none (([]:List (ByteArray×ByteArray)).length) 0,.int .i8 set_31,.slice a_33 set_32.length cap_34,.bool set_36,.bool set_37]∧Zb (Za.pair (Za.int .i8) (Za.pair (Za.row 56 (Za.pair Za.str Za.str)) (Za.pair (Za.row 56 (Za.pair Za.str Za.str)) (Za.pair (Za.int .i8) (Za.pair (Za.row 9 Za.str) (Za.pair Za.bool Za.bool)))))) 50 5 col_30 w_29 a_39 cap_40 l_38∧Gl (.iface 141 (.agg #[.pointer (some ⟨4,24,none⟩)])) col_30 w_29∧[6,7].map f=[.slice a_39 l_38.length cap_40,.int .i64 commands_42]) N ⟨_,1,none,0,_,_,_,none,0,_,0,_,O,hm,hst,Zb.nil,hb_27,Zb.nil,hgl,O⟩ ?_;clear hm;intro n f w_29 hI;obtain ⟨col_30,set_31,a_33,cap_34,set_32,set_36,set_37,a_39,cap_40,l_38,commands_42,n_28,hn,hm,hst,h_35,hb_27,h_41,hgl,hs⟩:=hI;subst hn;refine .lL [6,7] hs ?_
  cases n_28 with
  | zero=>rw [Zkg.eq_1] at hm;cases hm
  | succ n_28=>
   rw [Zkg.eq_2] at hm;refine go ?_;cases hm
 | some t_8=>
  rw [hx_9] at hm rh_4;replace hm:=Zs6 hm;obtain ⟨g_10,a_12,cap_13,v_15,v_17,rfl,hB_11,hO_14,hE_16,hE_18⟩:=Z1i rh_4;refine go ?_;refine lV (.agg #[.int .i8 0,.slice none (([]:List (ByteArray×ByteArray)).length) 0,.slice none (([]:List (ByteArray×ByteArray)).length) 0,.int .i8 1,.slice none (([]:List ByteArray).length) 0,.bool false,.bool false]) (Wx (l:=[_,_,_,_,_,_]) (qs:=[(0,1),(1,1),(2,1),(3,1),(4,1),(5,2)]) underlying50 zeroValue50 ⟨O,sizeOf46,O,sizeOf47,O,sizeOf47,O,sizeOf46,O,sizeOf40,O,sizeOf48,trivial⟩ O)<|Xy (col:=col_7) #[.int .i8 0,.slice none (([]:List (ByteArray×ByteArray)).length) 0,.slice none (([]:List (ByteArray×ByteArray)).length) 0,.int .i8 0,.slice none (([]:List ByteArray).length) 0,.bool false,.bool false] 6 zeroValue50 ?_;intro g_43 w_44 col_45 hg_46 hb_47;refine Xi hb_47 ?_;intro w_48 hk_49 hs_50 hb_51;refine go ?_;refine Zvf<|go ?_;replace hgl:=(hgl.gr hg_46).kp hk_49;replace hO_14:=(hO_14.gr hg_46).kp hk_49;replace hE_16:=(hE_16.gr hg_46).kp hk_49;replace hE_18:=(hE_18.gr hg_46).kp hk_49;replace hB_11:=(hB_11.gr hg_46).kp hk_49;replace hst:=(hst.grow hg_46).kp hk_49 hs_50;refine Z5 [4,5,1000000] (fun n f w_53=>∃ col_54 a_56 cap_57 v_55 v_59 v_60 v_62 v_63 v_64 set_66 a_68 cap_69 set_67 set_71 set_72 a_74 cap_75 l_73 commands_77 n_52,n_52=n∧T6 N n_52 v_55 v_60 v_62 v_64 set_66 set_67 set_71 set_72 l_73 commands_77=some r∧St w0 (Zi col) col_54 w_53∧Zb (Za.pair (Za.int .i8) (Za.pair Za.str (Za.pair (Za.int .i64) (Za.int .i64)))) 63 2 col_54 w_53 a_56 cap_57 v_55∧Rd (Za.fptr 29 (Za.pair (Za.int .i64) (Za.pair (Za.int .i64) (Za.pair (Za.int .i64) Za.str)))) col_54 w_53 [v_59] v_60∧Rd (Za.fptr 29 (Za.pair (Za.int .i64) (Za.pair (Za.int .i64) (Za.pair (Za.int .i64) Za.str)))) col_54 w_53 [v_63] v_64∧Zd 74 1 col_54 w_53 g_10 #[.slice a_56 v_55.length cap_57,v_59,.int .i64 v_62,v_63]∧Zb Za.str 9 7 col_54 w_53 a_68 cap_69 set_67∧Zd 50 6 col_54 w_53 g_43 #[.int .i8 0,.slice none (([]:List (ByteArray×ByteArray)).length) 0,.slice none (([]:List (ByteArray×ByteArray)).length) 0,.int .i8 set_66,.slice a_68 set_67.length cap_69,.bool set_71,.bool set_72]∧Zb (Za.pair (Za.int .i8) (Za.pair (Za.row 56 (Za.pair Za.str Za.str)) (Za.pair (Za.row 56 (Za.pair Za.str Za.str)) (Za.pair (Za.int .i8) (Za.pair (Za.row 9 Za.str) (Za.pair Za.bool Za.bool)))))) 50 8 col_54 w_53 a_74 cap_75 l_73∧Gl (.iface 141 (.agg #[.pointer (some ⟨4,24,none⟩)])) col_54 w_53∧[6,7].map f=[.slice a_74 l_73.length cap_75,.int .i64 commands_77]) N ⟨_,_,_,_,_,_,_,_,_,1,none,0,_,_,_,none,0,_,0,_,O,hm,hst,hO_14,hE_16,hE_18,hB_11,Zb.nil,hb_51,Zb.nil,hgl,O⟩ ?_;clear hm;intro n f w_53 hI
  obtain ⟨col_54,a_56,cap_57,v_55,v_59,v_60,v_62,v_63,v_64,set_66,a_68,cap_69,set_67,set_71,set_72,a_74,cap_75,l_73,commands_77,n_52,hn,hm,hst,h_58,h_61,h_65,hB_11,h_70,hb_51,h_76,hgl,hs⟩:=hI;subst hn;refine .lL [6,7] hs ?_
  cases n_52 with
  | zero=>rw [T6.eq_1] at hm;cases hm
  | succ n_52=>
   rw [T6.eq_2] at hm;refine go ?_;obtain ⟨r_78,hr_79,hm⟩:=bZ hm;refine Zf (Zfx 1 2 hr_79 O h_58 h_61 h_65 hB_11) ?_;rintro _ w_88 ⟨col_90,oa_80,oc_81,ov_83,ov_85,rfl,hg_89,oh_82,oh_84,oh_86,ohb_87⟩;refine ⟨_,O,?_⟩;refine lV (.int .i8 r_78.1.1) (Zto underlying63 O O (Tg isAgg46 O))<|go ?_;replace h_70:=h_70.kpp hg_89;replace h_76:=h_76.kpp hg_89;replace hgl:=hgl.kpp hg_89;replace hb_51:=hb_51.kpp hg_89;replace hst:=hst.kpp hg_89;refine Zl hm (fun hb hm=>?_) fun hb hm=>go ?_
   ·refine Zy<|Zb3<|Zn ?_;refine Wp.cutK [4,5,6,1000000] (fun f w_91=>∃ col_92 a_94 cap_95 v_93 v_97 v_98 v_100 v_101 v_102 commands_104,Zep N set_66 set_67 set_71 set_72 l_73 (T6 N n_52) v_93 v_98 v_100 v_102 commands_104=some r∧St w0 (Zi col) col_92 w_91∧Zb (Za.pair (Za.int .i8) (Za.pair Za.str (Za.pair (Za.int .i64) (Za.int .i64)))) 63 2 col_92 w_91 a_94 cap_95 v_93∧Rd (Za.fptr 29 (Za.pair (Za.int .i64) (Za.pair (Za.int .i64) (Za.pair (Za.int .i64) Za.str)))) col_92 w_91 [v_97] v_98∧Rd (Za.fptr 29 (Za.pair (Za.int .i64) (Za.pair (Za.int .i64) (Za.pair (Za.int .i64) Za.str)))) col_92 w_91 [v_101] v_102∧Zd 74 1 col_92 w_91 g_10 #[.slice a_94 v_93.length cap_95,v_97,.int .i64 v_100,v_101]∧Zb Za.str 9 7 col_92 w_91 a_68 cap_69 set_67∧Zd 50 6 col_92 w_91 g_43 #[.int .i8 0,.slice none (([]:List (ByteArray×ByteArray)).length) 0,.slice none (([]:List (ByteArray×ByteArray)).length) 0,.int .i8 set_66,.slice a_68 set_67.length cap_69,.bool set_71,.bool set_72]∧Zb (Za.pair (Za.int .i8) (Za.pair (Za.row 56 (Za.pair Za.str Za.str)) (Za.pair (Za.row 56 (Za.pair Za.str Za.str)) (Za.pair (Za.int .i8) (Za.pair (Za.row 9 Za.str) (Za.pair Za.bool Za.bool)))))) 50 8 col_92 w_91 a_74 cap_75 l_73∧Gl (.iface 141 (.agg #[.pointer (some ⟨4,24,none⟩)])) col_92 w_91∧[7].map f=[.int .i64 commands_104]) ?_ ?_
    ·intro f w_91 hJ;obtain ⟨col_92,a_94,cap_95,v_93,v_97,v_98,v_100,v_101,v_102,commands_104,hm,hst,h_96,h_99,h_103,ohb_87,h_70,hb_51,h_76,hgl,hs⟩:=hJ;rw [Zep.eq_1] at hm;refine .lL [7] hs<|go ?_;refine lV _ (Y8 isAgg50 sizeOf50 hb_51)<|Xy (col:=col_92) #[.int .i8 0,.slice none (([]:List (ByteArray×ByteArray)).length) 0,.slice none (([]:List (ByteArray×ByteArray)).length) 0,.int .i8 0,.slice none (([]:List ByteArray).length) 0,.bool false,.bool false] 9 zeroValue50 ?_;intro g_105 w_106 col_107 hg_108 hb_109;refine Xi hb_109 ?_;intro w_110 hk_111 hs_112 hb_113;refine go ?_;refine Z0 ⟨_,_,O⟩ ?_;replace hb_51:=(hb_51.gr hg_108).kp hk_111;refine lW ((hb_51.atN).nth (q:=4) O) ?_;obtain ⟨r_114,hr_115,hm⟩:=bZ hm;replace h_70:=(h_70.gr hg_108).kp hk_111;refine Zf (Zye 10 hr_115 (h_70.toSlF Zj.str)) ?_;rintro _ w_119 ⟨col_121,ra_116,rc_117,rfl,hg_120,rh_118⟩;refine ⟨_,O,?_⟩;replace rh_118:=rh_118.thaw Zzv hg_120 ((Fz.refl (col:=col_107)).froz 7) (by decide);replace hg_120:=hg_120.thawR (col:=col_107);generalize Xk w_110.heap.size col_107 col_121=col_122 at *;refine Z0 ⟨_,_,O⟩ ?_;replace hb_113:=hb_113.gr hg_120;refine X9 (off:=4) (v:=(.slice ra_116 r_114.length rc_117)) hb_113 sizeOf40 O O (by intro u hu;simp only [Value.cells,List.mem_cons,List.not_mem_nil,or_false] at hu;subst hu;rfl) O O ?_;intro w_123 hk_124 hs_125 hb_126;replace hb_126:Zd 50 9 col_122 w_123 g_105 #[.int .i8 0,.slice none (([]:List (ByteArray×ByteArray)).length) 0,.slice none (([]:List (ByteArray×ByteArray)).length) 0,.int .i8 set_66,.slice ra_116 r_114.length rc_117,.bool set_71,.bool set_72]:=hb_126;refine Zh<|Zn ?_;replace h_96:=(((h_96.gr hg_108).kp hk_111).gr hg_120).kp hk_124;replace h_99:=(((h_99.gr hg_108).kp hk_111).gr hg_120).kp hk_124;replace h_103:=(((h_103.gr hg_108).kp hk_111).gr hg_120).kp hk_124;replace h_76:=(((h_76.gr hg_108).kp hk_111).gr hg_120).kp hk_124;replace hgl:=(((hgl.gr hg_108).kp hk_111).gr hg_120).kp hk_124;replace ohb_87:=(((ohb_87.gr hg_108).kp hk_111).gr hg_120).kp hk_124;replace hst:=(((hst.grow hg_108).kp hk_111 hs_112).grow hg_120).kp hk_124 hs_125;replace h_70:=(h_70.gr hg_120).kp hk_124;replace hb_51:=(hb_51.gr hg_120).kp hk_124;replace rh_118:=rh_118.kp hk_124
     refine Wp.cutK [4,5,6,7,8,1000000] (fun f w_127=>∃ col_128 a_130 cap_131 v_129 v_133 v_134 v_136 v_137 v_138 set_140 a_142 cap_143 set_141 set_145 set_146 q_147 a_149 cap_150 q_148 a_153 cap_154 q_152,Tc set_66 set_71 set_72 l_73 (T6 N n_52) commands_104 r_114 v_129 v_134 v_136 v_138 set_140 set_141 set_145 set_146 q_147 q_148 q_152=some r∧St w0 (Zi col) col_128 w_127∧Zb (Za.pair (Za.int .i8) (Za.pair Za.str (Za.pair (Za.int .i64) (Za.int .i64)))) 63 2 col_128 w_127 a_130 cap_131 v_129∧Rd (Za.fptr 29 (Za.pair (Za.int .i64) (Za.pair (Za.int .i64) (Za.pair (Za.int .i64) Za.str)))) col_128 w_127 [v_133] v_134∧Rd (Za.fptr 29 (Za.pair (Za.int .i64) (Za.pair (Za.int .i64) (Za.pair (Za.int .i64) Za.str)))) col_128 w_127 [v_137] v_138∧Zd 74 1 col_128 w_127 g_10 #[.slice a_130 v_129.length cap_131,v_133,.int .i64 v_136,v_137]∧Zb Za.str 9 7 col_128 w_127 a_142 cap_143 set_141∧Zd 50 6 col_128 w_127 g_43 #[.int .i8 0,.slice none (([]:List (ByteArray×ByteArray)).length) 0,.slice none (([]:List (ByteArray×ByteArray)).length) 0,.int .i8 set_140,.slice a_142 set_141.length cap_143,.bool set_145,.bool set_146]∧Zb (Za.pair (Za.int .i8) (Za.pair (Za.row 56 (Za.pair Za.str Za.str)) (Za.pair (Za.row 56 (Za.pair Za.str Za.str)) (Za.pair (Za.int .i8) (Za.pair (Za.row 9 Za.str) (Za.pair Za.bool Za.bool)))))) 50 8 col_128 w_127 a_74 cap_75 l_73∧Zb (Za.pair Za.str Za.str) 56 11 col_128 w_127 a_149 cap_150 q_148∧Zb (Za.pair Za.str Za.str) 56 12 col_128 w_127 a_153 cap_154 q_152∧Zb Za.str 9 10 col_128 w_127 ra_116 rc_117 r_114∧Zd 50 9 col_128 w_127 g_105 #[.int .i8 q_147,.slice a_149 q_148.length cap_150,.slice a_153 q_152.length cap_154,.int .i8 set_66,.slice ra_116 r_114.length rc_117,.bool set_71,.bool set_72]∧Gl (.iface 141 (.agg #[.pointer (some ⟨4,24,none⟩)])) col_128 w_127) ?_ ?_
     ·intro f w_127 hJ;obtain ⟨col_128,a_130,cap_131,v_129,v_133,v_134,v_136,v_137,v_138,set_140,a_142,cap_143,set_141,set_145,set_146,q_147,a_149,cap_150,q_148,a_153,cap_154,q_152,hm,hst,h_132,h_135,h_139,ohb_87,h_144,hb_51,h_76,h_151,h_155,rh_118,hb_126,hgl⟩:=hJ;rw [Tc.eq_1] at hm;refine go ?_;obtain ⟨r_156,hr_157,hm⟩:=bZ hm;refine Zf (Zb7 1 2 hr_157 O h_132 h_135 h_139 ohb_87) ?_;rintro _ w_166 ⟨col_168,oa_158,oc_159,ov_161,ov_163,rfl,hg_167,oh_160,oh_162,oh_164,ohb_165⟩;refine ⟨_,O,go ?_⟩;refine lV (.pointer (some ⟨g_10,0,none⟩)) (Z4 O)<|Z2 ohb_165<|lV (.bool r_156.2.2.2.isSome) (Z12 oh_164 underlying72 O)<|Zh ?_;replace h_144:=h_144.kpp hg_167;replace h_76:=h_76.kpp hg_167;replace h_151:=h_151.kpp hg_167;replace h_155:=h_155.kpp hg_167;replace rh_118:=rh_118.kpp hg_167;replace hgl:=hgl.kpp hg_167;replace hb_51:=hb_51.kpp hg_167;replace hb_126:=hb_126.kpp hg_167;replace hst:=hst.kpp hg_167;refine Zl hm (fun hb hm=>?_) fun hb hm=>go ?_
      ·refine Zn<|V4 (col:=col_168) (by kernel_rfl) (by kernel_rfl)<|go ?_;refine qv (v:=(.pointer (some ⟨g_10,0,none⟩))) O (fun _ hC=>Z4 O) ?_;refine qF ⟨_,_,O⟩ ?_;refine qW (fun _ hC=>((ohb_165.atN).nth (q:=3) O).gr (hC.bl col_168)) ?_;obtain ⟨f_169,hf_170,hm⟩:=bZ hm;rw [hf_170] at oh_164;have h_171:Rd (Za.err 72 29 (Za.pair (Za.int .i64) (Za.pair (Za.int .i64) (Za.pair (Za.int .i64) Za.str)))) col_168 w_166 [.iface 72 ov_163] (some f_169):=oh_164.up;refine qv (v:=(.iface 72 ov_163)) O (fun _ hC=>Ztv underlying72 O) ?_;refine go ?_;refine qv (v:=(.iface 72 ov_163)) O (fun _ hC=>Y7 O) ?_;refine Wm ?_;intro w_172 hC;replace hC:=hC.bl col_168;refine W3 ?_;cases hm;replace h_171:=h_171.gr hC;replace hst:=hst.grow hC;exact ⟨O,_,none,0,_,O,hst.fin (cm []),Zb.nil,hst.finRd (g:=(fun n=>0)) O h_171⟩
      refine lV _ (Y8 isAgg50 sizeOf50 hb_126) ?_;have hx_173:=Z8.join h_155.has (Z8.joinL (Vr .i8 set_66) (Z8.joinR rh_118.has (Ui (Zag set_71) (Zag set_72)))) (by decide) (by decide);replace oh_160:=oh_160.recol 10 12 (by decide);replace oh_162:=oh_162.recol 10 12 (by decide);replace oh_164:=oh_164.recol 10 12 (by decide);replace h_144:=h_144.recol 10 12 (by decide);replace hgl:=hgl.recol 10 12 (by decide);replace h_76:=h_76.recol 10 12 (by decide);replace h_151:=h_151.recol 10 12 (by decide);replace ohb_165:=ohb_165.recol 10 12 (by decide);replace hb_51:=hb_51.recol 10 12 (by decide);replace hst:=hst.recol 10 12 (by decide) (by decide);have hx_174:=Z8.join h_151.has hx_173 (by decide) (by decide);replace oh_160:=oh_160.recol 12 11 (by decide);replace oh_162:=oh_162.recol 12 11 (by decide);replace oh_164:=oh_164.recol 12 11 (by decide);replace h_144:=h_144.recol 12 11 (by decide);replace hgl:=hgl.recol 12 11 (by decide);replace h_76:=h_76.recol 12 11 (by decide);replace ohb_165:=ohb_165.recol 12 11 (by decide);replace hb_51:=hb_51.recol 12 11 (by decide);replace hst:=hst.recol 12 11 (by decide) (by decide);refine Sj (col:=(Xf 12 11 (Xf 10 12 col_168))) (r:=(Za.pair (Za.int .i8) (Za.pair (Za.row 56 (Za.pair Za.str Za.str)) (Za.pair (Za.row 56 (Za.pair Za.str Za.str)) (Za.pair (Za.int .i8) (Za.pair (Za.row 9 Za.str) (Za.pair Za.bool Za.bool))))))) (xs:=[(q_147,q_148,q_152,set_66,r_114,(set_71,set_72))]) [(.agg #[.int .i8 q_147,.slice a_149 q_148.length cap_150,.slice a_153 q_152.length cap_154,.int .i8 set_66,.slice ra_116 r_114.length rc_117,.bool set_71,.bool set_72])] 11 (Y5.cons1 (cs:=[.int .i8 q_147,.slice a_149 q_148.length cap_150,.slice a_153 q_152.length cap_154,.int .i8 set_66,.slice ra_116 r_114.length rc_117,.bool set_71,.bool set_72]) (Z8.joinL (Vr .i8 q_147) hx_174) Rows.nil0) ?_;intro a_175 w_176 col_177 hg_178 h_179;obtain ⟨hb_180,hm⟩:=Zu hm;replace h_76:=h_76.gr hg_178;refine U7 (c:=8) (c2:=11) h_76 (h_179.srcC (by decide)) hb_180 ?_;intro a_181 cap_182 w_183 col_184 hk_185 h_186;refine go ?_;replace oh_160:=(oh_160.gr hg_178).kpp hk_185;replace oh_162:=(oh_162.gr hg_178).kpp hk_185;replace oh_164:=(oh_164.gr hg_178).kpp hk_185;replace h_144:=(h_144.gr hg_178).kpp hk_185;replace hgl:=(hgl.gr hg_178).kpp hk_185;replace ohb_165:=(ohb_165.gr hg_178).kpp hk_185;replace hb_51:=(hb_51.gr hg_178).kpp hk_185;replace hst:=(hst.grow hg_178).kpp hk_185;exact ⟨n_52,by omega,O,⟨_,_,_,_,_,_,_,_,_,_,_,_,_,_,_,_,_,_,_,_,O,hm,hst,oh_160,oh_162,oh_164,ohb_165,h_144,hb_51,h_186,hgl,O⟩⟩
     refine go ?_;refine Sk (col:=col_122) ([⟨#[117,115,101]⟩,⟨#[112,114,117,110,101]⟩,⟨#[99,104,97,110,99,101]⟩,⟨#[97,115,107]⟩,⟨#[97,108,108]⟩]:List ByteArray) 13 ?_;intro a_187 w_188 col_189 hg_190 h_191;replace h_96:=h_96.gr hg_190;replace h_96:=h_96.froz 13 (by decide);replace h_99:=h_99.gr hg_190;replace h_99:=h_99.froz 13;replace h_103:=h_103.gr hg_190;replace h_103:=h_103.froz 13;replace h_70:=h_70.gr hg_190;replace h_70:=h_70.froz 13 (by decide);replace h_76:=h_76.gr hg_190;replace h_76:=h_76.froz 13 (by decide);replace hgl:=hgl.gr hg_190;replace hgl:=hgl.froz 13;replace rh_118:=rh_118.gr hg_190;replace rh_118:=rh_118.froz 13 (by decide);replace h_191:=(h_191).toSlF Zj.str;replace ohb_87:=ohb_87.gr hg_190;replace ohb_87:=ohb_87.froz 13 (by decide);replace hb_51:=hb_51.gr hg_190;replace hb_51:=hb_51.froz 13 (by decide);replace hb_126:=hb_126.gr hg_190;replace hb_126:=hb_126.froz 13 (by decide);replace hst:=hst.grow hg_190;replace hst:=hst.froz 13 (by decide) (by decide);obtain ⟨r_192,hr_193,hm⟩:=bZ hm;refine Zf (S0 1 2 hr_193 O h_96 h_99 h_103 ohb_87 h_191) ?_;rintro _ w_202 ⟨col_204,oa_194,oc_195,ov_197,ov_199,rfl,hg_203,oh_196,oh_198,oh_200,ohb_201⟩;refine ⟨_,O,go ?_⟩;replace h_70:=h_70.kpp hg_203;replace h_76:=h_76.kpp hg_203;replace hgl:=hgl.kpp hg_203;replace rh_118:=rh_118.kpp hg_203;replace hb_51:=hb_51.kpp hg_203;replace hb_126:=hb_126.kpp hg_203;replace hst:=hst.kpp hg_203;refine Zl hm (fun hb hm=>go ?_) fun hb hm=>go ?_
     ·refine Z0 ⟨_,_,O⟩ ?_;refine X9 (off:=4) (v:=(.slice none (([]:List ByteArray).length) 0)) hb_51 sizeOf40 O O (by intro u hu;simp only [Value.cells,List.mem_cons,List.not_mem_nil,or_false] at hu;subst hu;rfl) O O ?_;intro w_205 hk_206 hs_207 hb_208;replace hb_208:Zd 50 6 col_204 w_205 g_43 #[.int .i8 0,.slice none (([]:List (ByteArray×ByteArray)).length) 0,.slice none (([]:List (ByteArray×ByteArray)).length) 0,.int .i8 set_66,.slice none (([]:List ByteArray).length) 0,.bool set_71,.bool set_72]:=hb_208;refine Zh<|Zn ?_;replace oh_196:=oh_196.kp hk_206;replace oh_198:=oh_198.kp hk_206;replace oh_200:=oh_200.kp hk_206;replace h_76:=h_76.kp hk_206;replace hgl:=hgl.kp hk_206;replace rh_118:=rh_118.kp hk_206;replace ohb_201:=ohb_201.kp hk_206;replace hb_126:=hb_126.kp hk_206;replace hst:=hst.kp hk_206 hs_207;refine Wp.cutK [4,5,6,7,8,1000000] (fun f w_209=>∃ col_210 a_212 cap_213 v_211 v_215 v_216 v_218 v_219 v_220 set_222 a_224 cap_225 set_223,Zeq set_66 set_71 set_72 l_73 (T6 N n_52) commands_104 r_114 v_211 v_216 v_218 v_220 set_222 set_223=some r∧St w0 (Zi col) col_210 w_209∧Zb (Za.pair (Za.int .i8) (Za.pair Za.str (Za.pair (Za.int .i64) (Za.int .i64)))) 63 2 col_210 w_209 a_212 cap_213 v_211∧Rd (Za.fptr 29 (Za.pair (Za.int .i64) (Za.pair (Za.int .i64) (Za.pair (Za.int .i64) Za.str)))) col_210 w_209 [v_215] v_216∧Rd (Za.fptr 29 (Za.pair (Za.int .i64) (Za.pair (Za.int .i64) (Za.pair (Za.int .i64) Za.str)))) col_210 w_209 [v_219] v_220∧Zd 74 1 col_210 w_209 g_10 #[.slice a_212 v_211.length cap_213,v_215,.int .i64 v_218,v_219]∧Zb Za.str 9 14 col_210 w_209 a_224 cap_225 set_223∧Zd 50 6 col_210 w_209 g_43 #[.int .i8 0,.slice none (([]:List (ByteArray×ByteArray)).length) 0,.slice none (([]:List (ByteArray×ByteArray)).length) 0,.int .i8 set_222,.slice a_224 set_223.length cap_225,.bool set_71,.bool set_72]∧Zb (Za.pair (Za.int .i8) (Za.pair (Za.row 56 (Za.pair Za.str Za.str)) (Za.pair (Za.row 56 (Za.pair Za.str Za.str)) (Za.pair (Za.int .i8) (Za.pair (Za.row 9 Za.str) (Za.pair Za.bool Za.bool)))))) 50 8 col_210 w_209 a_74 cap_75 l_73∧Zb Za.str 9 10 col_210 w_209 ra_116 rc_117 r_114∧Zd 50 9 col_210 w_209 g_105 #[.int .i8 0,.slice none (([]:List (ByteArray×ByteArray)).length) 0,.slice none (([]:List (ByteArray×ByteArray)).length) 0,.int .i8 set_66,.slice ra_116 r_114.length rc_117,.bool set_71,.bool set_72]∧Gl (.iface 141 (.agg #[.pointer (some ⟨4,24,none⟩)])) col_210 w_209) ?_ ?_
      ·intro f w_209 hJ;obtain ⟨col_210,a_212,cap_213,v_211,v_215,v_216,v_218,v_219,v_220,set_222,a_224,cap_225,set_223,hm,hst,h_214,h_217,h_221,ohb_201,h_226,hb_208,h_76,rh_118,hb_126,hgl⟩:=hJ;rw [Zeq.eq_1] at hm;refine go ?_;obtain ⟨r_227,hr_228,hm⟩:=bZ hm;refine Zf (Zb7 1 2 hr_228 O h_214 h_217 h_221 ohb_201) ?_;rintro _ w_237 ⟨col_239,oa_229,oc_230,ov_232,ov_234,rfl,hg_238,oh_231,oh_233,oh_235,ohb_236⟩;refine ⟨_,O,go ?_⟩;refine lV (.pointer (some ⟨g_10,0,none⟩)) (Z4 O)<|Z2 ohb_236<|lV (.bool (!r_227.2.2.2.isSome)) (Zfg oh_235 underlying72 O)<|Zh ?_;replace h_226:=h_226.kpp hg_238;replace h_76:=h_76.kpp hg_238;replace rh_118:=rh_118.kpp hg_238;replace hgl:=hgl.kpp hg_238;replace hb_208:=hb_208.kpp hg_238;replace hb_126:=hb_126.kpp hg_238;replace hst:=hst.kpp hg_238;refine Zl hm (fun hb hm=>?_) fun hb hm=>?_
       ·refine Qm (Zf2 O (Qu ?_));replace oh_231:=oh_231.recol 14 7 (by decide);replace oh_233:=oh_233.recol 14 7 (by decide);replace oh_235:=oh_235.recol 14 7 (by decide);replace h_226:=h_226.recolSelf 7 (by decide);replace h_76:=h_76.recol 14 7 (by decide);replace hgl:=hgl.recol 14 7 (by decide);replace ohb_236:=ohb_236.recol 14 7 (by decide);replace hb_208:=hb_208.recol 14 7 (by decide);replace hst:=hst.recol 14 7 (by decide) (by decide);exact ⟨n_52,by omega,O,⟨_,_,_,_,_,_,_,_,_,_,_,_,_,_,_,_,_,_,_,_,O,hm,hst,oh_231,oh_233,oh_235,ohb_236,h_226,hb_208,h_76,hgl,O⟩⟩
       refine Zy ?_;replace oh_231:=oh_231.recol 14 7 (by decide);replace oh_233:=oh_233.recol 14 7 (by decide);replace oh_235:=oh_235.recol 14 7 (by decide);replace h_226:=h_226.recolSelf 7 (by decide);replace h_76:=h_76.recol 14 7 (by decide);replace rh_118:=rh_118.recol 14 7 (by decide);replace hgl:=hgl.recol 14 7 (by decide);replace ohb_236:=ohb_236.recol 14 7 (by decide);replace hb_208:=hb_208.recol 14 7 (by decide);replace hb_126:=hb_126.recol 14 7 (by decide);replace hst:=hst.recol 14 7 (by decide) (by decide);exact ⟨O,_,_,_,_,_,_,_,_,_,_,_,_,_,_,_,0,none,0,_,none,0,_,hm,hst,oh_231,oh_233,oh_235,ohb_236,h_226,hb_208,h_76,Zb.nil,Zb.nil,rh_118,hb_126,hgl⟩
      refine go ?_;refine Sk (col:=col_204) ([⟨#[102,105,108,108]⟩,⟨#[100,101,103,114,101,101]⟩,⟨#[111,114,100,101,114]⟩]:List ByteArray) 15 ?_;intro a_240 w_241 col_242 hg_243 h_244;replace oh_196:=oh_196.gr hg_243;replace oh_196:=oh_196.froz 15 (by decide);replace oh_198:=oh_198.gr hg_243;replace oh_198:=oh_198.froz 15;replace oh_200:=oh_200.gr hg_243;replace oh_200:=oh_200.froz 15;replace h_76:=h_76.gr hg_243;replace h_76:=h_76.froz 15 (by decide);replace hgl:=hgl.gr hg_243;replace hgl:=hgl.froz 15;replace rh_118:=rh_118.gr hg_243;replace rh_118:=rh_118.froz 15 (by decide);replace h_244:=(h_244).toSlF Zj.str;replace ohb_201:=ohb_201.gr hg_243;replace ohb_201:=ohb_201.froz 15 (by decide);replace hb_208:=hb_208.gr hg_243;replace hb_208:=hb_208.froz 15 (by decide);replace hb_126:=hb_126.gr hg_243;replace hb_126:=hb_126.froz 15 (by decide);replace hst:=hst.grow hg_243;replace hst:=hst.froz 15 (by decide) (by decide);obtain ⟨r_245,hr_246,hm⟩:=bZ hm;refine Zf (S0 1 2 hr_246 O oh_196 oh_198 oh_200 ohb_201 h_244) ?_;rintro _ w_255 ⟨col_257,oa_247,oc_248,ov_250,ov_252,rfl,hg_256,oh_249,oh_251,oh_253,ohb_254⟩;refine ⟨_,O,go ?_⟩;replace h_76:=h_76.kpp hg_256;replace hgl:=hgl.kpp hg_256;replace rh_118:=rh_118.kpp hg_256;replace hb_208:=hb_208.kpp hg_256;replace hb_126:=hb_126.kpp hg_256;replace hst:=hst.kpp hg_256;refine Zl hm (fun hb hm=>?_) fun hb hm=>go ?_
      ·refine Yg<|Z0 ⟨_,_,O⟩ ?_;refine X9 (off:=3) (v:=(.int .i8 1)) hb_208 sizeOf46 O O (by intro u hu;simp only [Value.cells,List.mem_cons,List.not_mem_nil,or_false] at hu;subst hu;rfl) O O ?_;intro w_258 hk_259 hs_260 hb_261;replace hb_261:Zd 50 6 col_257 w_258 g_43 #[.int .i8 0,.slice none (([]:List (ByteArray×ByteArray)).length) 0,.slice none (([]:List (ByteArray×ByteArray)).length) 0,.int .i8 1,.slice none (([]:List ByteArray).length) 0,.bool set_71,.bool set_72]:=hb_261;refine Zh ?_;replace oh_249:=oh_249.kp hk_259;replace oh_251:=oh_251.kp hk_259;replace oh_253:=oh_253.kp hk_259;replace h_76:=h_76.kp hk_259;replace hgl:=hgl.kp hk_259;replace rh_118:=rh_118.kp hk_259;replace ohb_254:=ohb_254.kp hk_259;replace hb_126:=hb_126.kp hk_259;replace hst:=hst.kp hk_259 hs_260;exact ⟨O,_,_,_,_,_,_,_,_,_,1,none,0,_,hm,hst,oh_249,oh_251,oh_253,ohb_254,Zb.nil,hb_261,h_76,rh_118,hb_126,hgl⟩
      refine Zl hm (fun hb hm=>?_) fun hb hm=>go ?_
      ·refine Yg<|Z0 ⟨_,_,O⟩ ?_;refine X9 (off:=3) (v:=(.int .i8 2)) hb_208 sizeOf46 O O (by intro u hu;simp only [Value.cells,List.mem_cons,List.not_mem_nil,or_false] at hu;subst hu;rfl) O O ?_;intro w_262 hk_263 hs_264 hb_265;replace hb_265:Zd 50 6 col_257 w_262 g_43 #[.int .i8 0,.slice none (([]:List (ByteArray×ByteArray)).length) 0,.slice none (([]:List (ByteArray×ByteArray)).length) 0,.int .i8 2,.slice none (([]:List ByteArray).length) 0,.bool set_71,.bool set_72]:=hb_265;refine Zh ?_;replace oh_249:=oh_249.kp hk_263;replace oh_251:=oh_251.kp hk_263;replace oh_253:=oh_253.kp hk_263;replace h_76:=h_76.kp hk_263;replace hgl:=hgl.kp hk_263;replace rh_118:=rh_118.kp hk_263;replace ohb_254:=ohb_254.kp hk_263;replace hb_126:=hb_126.kp hk_263;replace hst:=hst.kp hk_263 hs_264;exact ⟨O,_,_,_,_,_,_,_,_,_,2,none,0,_,hm,hst,oh_249,oh_251,oh_253,ohb_254,Zb.nil,hb_265,h_76,rh_118,hb_126,hgl⟩
      refine Zl hm (fun hb hm=>go ?_) fun hb hm=>?_
      ·obtain ⟨r_266,hr_267,hm⟩:=bZ hm;refine Zf (Zxw 16 1 2 hr_267 O oh_249 oh_251 oh_253 ohb_254) ?_;rintro _ w_279 ⟨col_281,ra_268,rc_269,oa_271,oc_272,ov_274,ov_276,rfl,hg_280,rh_270,oh_273,oh_275,oh_277,ohb_278⟩;refine ⟨_,O,?_⟩;refine Z0 ⟨_,_,O⟩ ?_;replace hb_208:=hb_208.kpp hg_280;refine X9 (off:=3) (v:=(.int .i8 3)) hb_208 sizeOf46 O O (by intro u hu;simp only [Value.cells,List.mem_cons,List.not_mem_nil,or_false] at hu;subst hu;rfl) O O ?_;intro w_282 hk_283 hs_284 hb_285;replace hb_285:Zd 50 6 col_281 w_282 g_43 #[.int .i8 0,.slice none (([]:List (ByteArray×ByteArray)).length) 0,.slice none (([]:List (ByteArray×ByteArray)).length) 0,.int .i8 3,.slice none (([]:List ByteArray).length) 0,.bool set_71,.bool set_72]:=hb_285;refine Z0 ⟨_,_,O⟩ ?_;refine X9 (off:=4) (v:=(.slice ra_268 r_266.1.length rc_269)) hb_285 sizeOf40 O O (by intro u hu;simp only [Value.cells,List.mem_cons,List.not_mem_nil,or_false] at hu;subst hu;rfl) O O ?_;intro w_286 hk_287 hs_288 hb_289;replace hb_289:Zd 50 6 col_281 w_286 g_43 #[.int .i8 0,.slice none (([]:List (ByteArray×ByteArray)).length) 0,.slice none (([]:List (ByteArray×ByteArray)).length) 0,.int .i8 3,.slice ra_268 r_266.1.length rc_269,.bool set_71,.bool set_72]:=hb_289;refine Zh ?_;replace oh_273:=(oh_273.kp hk_283).kp hk_287;replace oh_273:=oh_273.recol 16 14 (by decide);replace oh_275:=(oh_275.kp hk_283).kp hk_287;replace oh_275:=oh_275.recol 16 14 (by decide);replace oh_277:=(oh_277.kp hk_283).kp hk_287;replace oh_277:=oh_277.recol 16 14 (by decide);replace rh_270:=(rh_270.kp hk_283).kp hk_287;replace rh_270:=rh_270.recolSelf 14 (by decide);replace h_76:=((h_76.kpp hg_280).kp hk_283).kp hk_287;replace h_76:=h_76.recol 16 14 (by decide);replace hgl:=((hgl.kpp hg_280).kp hk_283).kp hk_287;replace hgl:=hgl.recol 16 14 (by decide);replace rh_118:=((rh_118.kpp hg_280).kp hk_283).kp hk_287;replace rh_118:=rh_118.recol 16 14 (by decide);replace ohb_278:=(ohb_278.kp hk_283).kp hk_287;replace ohb_278:=ohb_278.recol 16 14 (by decide);replace hb_289:=hb_289.recol 16 14 (by decide);replace hb_126:=((hb_126.kpp hg_280).kp hk_283).kp hk_287;replace hb_126:=hb_126.recol 16 14 (by decide);replace hst:=((hst.kpp hg_280).kp hk_283 hs_284).kp hk_287 hs_288;replace hst:=hst.recol 16 14 (by decide) (by decide);exact ⟨O,_,_,_,_,_,_,_,_,_,3,_,_,_,hm,hst,oh_273,oh_275,oh_277,ohb_278,rh_270,hb_289,h_76,rh_118,hb_126,hgl⟩
      refine Zy ?_;exact ⟨O,_,_,_,_,_,_,_,_,_,_,none,0,_,hm,hst,oh_249,oh_251,oh_253,ohb_254,Zb.nil,hb_208,h_76,rh_118,hb_126,hgl⟩
     refine Zl hm (fun hb hm=>go ?_) fun hb hm=>go ?_
     ·refine Sk (col:=col_204) ([⟨#[98,97,114,114,101,110]⟩,⟨#[97,112,97,114,116]⟩]:List ByteArray) 17 ?_;intro a_290 w_291 col_292 hg_293 h_294;replace oh_196:=oh_196.gr hg_293;replace oh_196:=oh_196.froz 17 (by decide);replace oh_198:=oh_198.gr hg_293;replace oh_198:=oh_198.froz 17;replace oh_200:=oh_200.gr hg_293;replace oh_200:=oh_200.froz 17;replace h_70:=h_70.gr hg_293;replace h_70:=h_70.froz 17 (by decide);replace h_76:=h_76.gr hg_293;replace h_76:=h_76.froz 17 (by decide);replace hgl:=hgl.gr hg_293;replace hgl:=hgl.froz 17;replace rh_118:=rh_118.gr hg_293;replace rh_118:=rh_118.froz 17 (by decide);replace h_294:=(h_294).toSlF Zj.str;replace ohb_201:=ohb_201.gr hg_293;replace ohb_201:=ohb_201.froz 17 (by decide);replace hb_51:=hb_51.gr hg_293;replace hb_51:=hb_51.froz 17 (by decide);replace hb_126:=hb_126.gr hg_293;replace hb_126:=hb_126.froz 17 (by decide);replace hst:=hst.grow hg_293;replace hst:=hst.froz 17 (by decide) (by decide);obtain ⟨r_295,hr_296,hm⟩:=bZ hm;refine Zf (S0 1 2 hr_296 O oh_196 oh_198 oh_200 ohb_201 h_294) ?_;rintro _ w_305 ⟨col_307,oa_297,oc_298,ov_300,ov_302,rfl,hg_306,oh_299,oh_301,oh_303,ohb_304⟩;refine ⟨_,O,go ?_⟩;replace h_70:=h_70.kpp hg_306;replace h_76:=h_76.kpp hg_306;replace hgl:=hgl.kpp hg_306;replace rh_118:=rh_118.kpp hg_306;replace hb_51:=hb_51.kpp hg_306;replace hb_126:=hb_126.kpp hg_306;replace hst:=hst.kpp hg_306;refine Zl hm (fun hb hm=>go ?_) fun hb hm=>go ?_
      ·refine Sk (col:=col_307) ([⟨#[111,110]⟩,⟨#[111,102,102]⟩]:List ByteArray) 18 ?_;intro a_308 w_309 col_310 hg_311 h_312;replace oh_299:=oh_299.gr hg_311;replace oh_299:=oh_299.froz 18 (by decide);replace oh_301:=oh_301.gr hg_311;replace oh_301:=oh_301.froz 18;replace oh_303:=oh_303.gr hg_311;replace oh_303:=oh_303.froz 18;replace h_70:=h_70.gr hg_311;replace h_70:=h_70.froz 18 (by decide);replace h_76:=h_76.gr hg_311;replace h_76:=h_76.froz 18 (by decide);replace hgl:=hgl.gr hg_311;replace hgl:=hgl.froz 18;replace rh_118:=rh_118.gr hg_311;replace rh_118:=rh_118.froz 18 (by decide);replace h_312:=(h_312).toSlF Zj.str;replace ohb_304:=ohb_304.gr hg_311;replace ohb_304:=ohb_304.froz 18 (by decide);replace hb_51:=hb_51.gr hg_311;replace hb_51:=hb_51.froz 18 (by decide);replace hb_126:=hb_126.gr hg_311;replace hb_126:=hb_126.froz 18 (by decide);replace hst:=hst.grow hg_311;replace hst:=hst.froz 18 (by decide) (by decide);obtain ⟨r_313,hr_314,hm⟩:=bZ hm;refine Zf (S0 1 2 hr_314 O oh_299 oh_301 oh_303 ohb_304 h_312) ?_;rintro _ w_323 ⟨col_325,oa_315,oc_316,ov_318,ov_320,rfl,hg_324,oh_317,oh_319,oh_321,ohb_322⟩;refine ⟨_,O,go ?_⟩;refine Z0 ⟨_,_,O⟩ ?_;refine lV (.pointer (((some (⟨g_43,0,none⟩:Addr)).map (·.add 5)).map (·.add 1))) (Zbq (sz:=1) (j:=1) underlying48 sizeOf4 O O (by decide) (by decide) (Ql ⟨_,_,O⟩)) ?_;replace hb_51:=hb_51.kpp hg_324;refine X9 (off:=6) (v:=(.bool (decide (r_313.1=(⟨#[111,110]⟩))))) hb_51 sizeOf4 O O (by intro u hu;simp only [Value.cells,List.mem_cons,List.not_mem_nil,or_false] at hu;subst hu;rfl) O O ?_;intro w_326 hk_327 hs_328 hb_329;replace hb_329:Zd 50 6 col_325 w_326 g_43 #[.int .i8 0,.slice none (([]:List (ByteArray×ByteArray)).length) 0,.slice none (([]:List (ByteArray×ByteArray)).length) 0,.int .i8 set_66,.slice a_68 set_67.length cap_69,.bool set_71,.bool (decide (r_313.1=(⟨#[111,110]⟩)))]:=hb_329;refine go ?_;obtain ⟨r_330,hr_331,hm⟩:=bZ hm;replace oh_317:=oh_317.kp hk_327;replace oh_319:=oh_319.kp hk_327;replace oh_321:=oh_321.kp hk_327;replace ohb_322:=ohb_322.kp hk_327;refine Zf (Zb7 1 2 hr_331 O oh_317 oh_319 oh_321 ohb_322) ?_;rintro _ w_340 ⟨col_342,oa_332,oc_333,ov_335,ov_337,rfl,hg_341,oh_334,oh_336,oh_338,ohb_339⟩;refine ⟨_,O,go ?_⟩;refine lV (.pointer (some ⟨g_10,0,none⟩)) (Z4 O)<|Z2 ohb_339<|lV (.bool (!r_330.2.2.2.isSome)) (Zfg oh_338 underlying72 O)<|Zh ?_;replace h_70:=((h_70.kpp hg_324).kp hk_327).kpp hg_341
       replace h_76:=((h_76.kpp hg_324).kp hk_327).kpp hg_341;replace hgl:=((hgl.kpp hg_324).kp hk_327).kpp hg_341;replace rh_118:=((rh_118.kpp hg_324).kp hk_327).kpp hg_341;replace hb_126:=((hb_126.kpp hg_324).kp hk_327).kpp hg_341;replace hst:=((hst.kpp hg_324).kp hk_327 hs_328).kpp hg_341;replace hb_329:=hb_329.kpp hg_341;refine Zl hm (fun hb hm=>?_) fun hb hm=>?_
       ·refine Qm (Zf2 O (Qu ?_));exact ⟨n_52,by omega,O,⟨_,_,_,_,_,_,_,_,_,_,_,_,_,_,_,_,_,_,_,_,O,hm,hst,oh_334,oh_336,oh_338,ohb_339,h_70,hb_329,h_76,hgl,O⟩⟩
       refine Zy ?_;exact ⟨O,_,_,_,_,_,_,_,_,_,_,_,_,_,_,_,0,none,0,_,none,0,_,hm,hst,oh_334,oh_336,oh_338,ohb_339,h_70,hb_329,h_76,Zb.nil,Zb.nil,rh_118,hb_126,hgl⟩
      refine Sk (col:=col_307) ([⟨#[111,110]⟩,⟨#[111,102,102]⟩]:List ByteArray) 19 ?_;intro a_343 w_344 col_345 hg_346 h_347;replace oh_299:=oh_299.gr hg_346;replace oh_299:=oh_299.froz 19 (by decide);replace oh_301:=oh_301.gr hg_346;replace oh_301:=oh_301.froz 19;replace oh_303:=oh_303.gr hg_346;replace oh_303:=oh_303.froz 19;replace h_70:=h_70.gr hg_346;replace h_70:=h_70.froz 19 (by decide);replace h_76:=h_76.gr hg_346;replace h_76:=h_76.froz 19 (by decide);replace hgl:=hgl.gr hg_346;replace hgl:=hgl.froz 19;replace rh_118:=rh_118.gr hg_346;replace rh_118:=rh_118.froz 19 (by decide);replace h_347:=(h_347).toSlF Zj.str;replace ohb_304:=ohb_304.gr hg_346;replace ohb_304:=ohb_304.froz 19 (by decide);replace hb_51:=hb_51.gr hg_346;replace hb_51:=hb_51.froz 19 (by decide);replace hb_126:=hb_126.gr hg_346;replace hb_126:=hb_126.froz 19 (by decide);replace hst:=hst.grow hg_346;replace hst:=hst.froz 19 (by decide) (by decide);obtain ⟨r_348,hr_349,hm⟩:=bZ hm;refine Zf (S0 1 2 hr_349 O oh_299 oh_301 oh_303 ohb_304 h_347) ?_;rintro _ w_358 ⟨col_360,oa_350,oc_351,ov_353,ov_355,rfl,hg_359,oh_352,oh_354,oh_356,ohb_357⟩;refine ⟨_,O,go ?_⟩;refine Z0 ⟨_,_,O⟩ ?_;refine lV (.pointer (((some (⟨g_43,0,none⟩:Addr)).map (·.add 5)).map (·.add 0))) (Zbq (sz:=1) (j:=0) underlying48 sizeOf4 O O (by decide) (by decide) (Ql ⟨_,_,O⟩)) ?_;replace hb_51:=hb_51.kpp hg_359;refine X9 (off:=5) (v:=(.bool (decide (r_348.1=(⟨#[111,110]⟩))))) hb_51 sizeOf4 O O (by intro u hu;simp only [Value.cells,List.mem_cons,List.not_mem_nil,or_false] at hu;subst hu;rfl) O O ?_;intro w_361 hk_362 hs_363 hb_364;replace hb_364:Zd 50 6 col_360 w_361 g_43 #[.int .i8 0,.slice none (([]:List (ByteArray×ByteArray)).length) 0,.slice none (([]:List (ByteArray×ByteArray)).length) 0,.int .i8 set_66,.slice a_68 set_67.length cap_69,.bool (decide (r_348.1=(⟨#[111,110]⟩))),.bool set_72]:=hb_364;refine go ?_;obtain ⟨r_365,hr_366,hm⟩:=bZ hm;replace oh_352:=oh_352.kp hk_362;replace oh_354:=oh_354.kp hk_362;replace oh_356:=oh_356.kp hk_362;replace ohb_357:=ohb_357.kp hk_362;refine Zf (Zb7 1 2 hr_366 O oh_352 oh_354 oh_356 ohb_357) ?_;rintro _ w_375 ⟨col_377,oa_367,oc_368,ov_370,ov_372,rfl,hg_376,oh_369,oh_371,oh_373,ohb_374⟩;refine ⟨_,O,go ?_⟩;refine lV (.pointer (some ⟨g_10,0,none⟩)) (Z4 O)<|Z2 ohb_374<|lV (.bool (!r_365.2.2.2.isSome)) (Zfg oh_373 underlying72 O)<|Zh ?_;replace h_70:=((h_70.kpp hg_359).kp hk_362).kpp hg_376
      replace h_76:=((h_76.kpp hg_359).kp hk_362).kpp hg_376;replace hgl:=((hgl.kpp hg_359).kp hk_362).kpp hg_376;replace rh_118:=((rh_118.kpp hg_359).kp hk_362).kpp hg_376;replace hb_126:=((hb_126.kpp hg_359).kp hk_362).kpp hg_376;replace hst:=((hst.kpp hg_359).kp hk_362 hs_363).kpp hg_376;replace hb_364:=hb_364.kpp hg_376;refine Zl hm (fun hb hm=>?_) fun hb hm=>?_
      ·refine Qm (Zf2 O (Qu ?_));exact ⟨n_52,by omega,O,⟨_,_,_,_,_,_,_,_,_,_,_,_,_,_,_,_,_,_,_,_,O,hm,hst,oh_369,oh_371,oh_373,ohb_374,h_70,hb_364,h_76,hgl,O⟩⟩
      refine Zy ?_;exact ⟨O,_,_,_,_,_,_,_,_,_,_,_,_,_,_,_,0,none,0,_,none,0,_,hm,hst,oh_369,oh_371,oh_373,ohb_374,h_70,hb_364,h_76,Zb.nil,Zb.nil,rh_118,hb_126,hgl⟩
     refine Zl hm (fun hb hm=>go ?_) fun hb hm=>go ?_
     ·refine Z0 ⟨_,_,O⟩ ?_;refine X9 (off:=0) (v:=(.int .i8 1)) hb_126 sizeOf46 O O (by intro u hu;simp only [Value.cells,List.mem_cons,List.not_mem_nil,or_false] at hu;subst hu;rfl) O O ?_;intro w_378 hk_379 hs_380 hb_381;replace hb_381:Zd 50 9 col_204 w_378 g_105 #[.int .i8 1,.slice none (([]:List (ByteArray×ByteArray)).length) 0,.slice none (([]:List (ByteArray×ByteArray)).length) 0,.int .i8 set_66,.slice ra_116 r_114.length rc_117,.bool set_71,.bool set_72]:=hb_381;refine go ?_;obtain ⟨r_382,hr_383,hm⟩:=bZ hm;replace oh_196:=oh_196.kp hk_379;replace oh_198:=oh_198.kp hk_379;replace oh_200:=oh_200.kp hk_379;replace ohb_201:=ohb_201.kp hk_379;refine Zf (Zfx 1 2 hr_383 O oh_196 oh_198 oh_200 ohb_201) ?_;rintro _ w_392 ⟨col_394,oa_384,oc_385,ov_387,ov_389,rfl,hg_393,oh_386,oh_388,oh_390,ohb_391⟩;refine ⟨_,O,?_⟩;refine lV (.int .i8 r_382.1.1) (Zto underlying63 O O (Tg isAgg46 O))<|go ?_;replace h_70:=(h_70.kp hk_379).kpp hg_393;replace h_76:=(h_76.kp hk_379).kpp hg_393;replace hgl:=(hgl.kp hk_379).kpp hg_393;replace rh_118:=(rh_118.kp hk_379).kpp hg_393;replace hb_51:=(hb_51.kp hk_379).kpp hg_393;replace hst:=(hst.kp hk_379 hs_380).kpp hg_393;replace hb_381:=hb_381.kpp hg_393;refine Zl hm (fun hb hm=>go ?_) fun hb hm=>?_
      ·obtain ⟨r_395,hr_396,hm⟩:=bZ hm;refine Zf (Zna 20 1 2 hr_396 O oh_386 oh_388 oh_390 ohb_391) ?_;rintro _ w_408 ⟨col_410,ra_397,rc_398,oa_400,oc_401,ov_403,ov_405,rfl,hg_409,rh_399,oh_402,oh_404,oh_406,ohb_407⟩;refine ⟨_,O,?_⟩;refine Z0 ⟨_,_,O⟩ ?_;replace hb_381:=hb_381.kpp hg_409;refine X9 (off:=1) (v:=(.slice ra_397 r_395.1.length rc_398)) hb_381 sizeOf47 O O (by intro u hu;simp only [Value.cells,List.mem_cons,List.not_mem_nil,or_false] at hu;subst hu;rfl) O O ?_;intro w_411 hk_412 hs_413 hb_414;replace hb_414:Zd 50 9 col_410 w_411 g_105 #[.int .i8 1,.slice ra_397 r_395.1.length rc_398,.slice none (([]:List (ByteArray×ByteArray)).length) 0,.int .i8 set_66,.slice ra_116 r_114.length rc_117,.bool set_71,.bool set_72]:=hb_414;refine Zh ?_;replace oh_402:=oh_402.kp hk_412;replace oh_402:=oh_402.recol 20 11 (by decide);replace oh_404:=oh_404.kp hk_412;replace oh_404:=oh_404.recol 20 11 (by decide);replace oh_406:=oh_406.kp hk_412;replace oh_406:=oh_406.recol 20 11 (by decide);replace h_70:=(h_70.kpp hg_409).kp hk_412;replace h_70:=h_70.recol 20 11 (by decide);replace h_76:=(h_76.kpp hg_409).kp hk_412;replace h_76:=h_76.recol 20 11 (by decide);replace hgl:=(hgl.kpp hg_409).kp hk_412;replace hgl:=hgl.recol 20 11 (by decide);replace rh_399:=rh_399.kp hk_412;replace rh_399:=rh_399.recolSelf 11 (by decide);replace rh_118:=(rh_118.kpp hg_409).kp hk_412;replace rh_118:=rh_118.recol 20 11 (by decide);replace ohb_407:=ohb_407.kp hk_412;replace ohb_407:=ohb_407.recol 20 11 (by decide);replace hb_51:=(hb_51.kpp hg_409).kp hk_412;replace hb_51:=hb_51.recol 20 11 (by decide);replace hb_414:=hb_414.recol 20 11 (by decide);replace hst:=(hst.kpp hg_409).kp hk_412 hs_413;replace hst:=hst.recol 20 11 (by decide) (by decide);exact ⟨O,_,_,_,_,_,_,_,_,_,_,_,_,_,_,_,1,_,_,_,none,0,_,hm,hst,oh_402,oh_404,oh_406,ohb_407,h_70,hb_51,h_76,rh_399,Zb.nil,rh_118,hb_414,hgl⟩
      refine Zy ?_;exact ⟨O,_,_,_,_,_,_,_,_,_,_,_,_,_,_,_,1,none,0,_,none,0,_,hm,hst,oh_386,oh_388,oh_390,ohb_391,h_70,hb_51,h_76,Zb.nil,Zb.nil,rh_118,hb_381,hgl⟩
     refine Zl hm (fun hb hm=>go ?_) fun hb hm=>go ?_
     ·refine Z0 ⟨_,_,O⟩ ?_;refine X9 (off:=0) (v:=(.int .i8 2)) hb_126 sizeOf46 O O (by intro u hu;simp only [Value.cells,List.mem_cons,List.not_mem_nil,or_false] at hu;subst hu;rfl) O O ?_;intro w_415 hk_416 hs_417 hb_418;replace hb_418:Zd 50 9 col_204 w_415 g_105 #[.int .i8 2,.slice none (([]:List (ByteArray×ByteArray)).length) 0,.slice none (([]:List (ByteArray×ByteArray)).length) 0,.int .i8 set_66,.slice ra_116 r_114.length rc_117,.bool set_71,.bool set_72]:=hb_418;refine go ?_;obtain ⟨r_419,hr_420,hm⟩:=bZ hm;replace oh_196:=oh_196.kp hk_416;replace oh_198:=oh_198.kp hk_416;replace oh_200:=oh_200.kp hk_416;replace ohb_201:=ohb_201.kp hk_416;refine Zf (Zna 21 1 2 hr_420 O oh_196 oh_198 oh_200 ohb_201) ?_;rintro _ w_432 ⟨col_434,ra_421,rc_422,oa_424,oc_425,ov_427,ov_429,rfl,hg_433,rh_423,oh_426,oh_428,oh_430,ohb_431⟩;refine ⟨_,O,?_⟩;refine Z0 ⟨_,_,O⟩ ?_;replace hb_418:=hb_418.kpp hg_433;refine X9 (off:=1) (v:=(.slice ra_421 r_419.1.length rc_422)) hb_418 sizeOf47 O O (by intro u hu;simp only [Value.cells,List.mem_cons,List.not_mem_nil,or_false] at hu;subst hu;rfl) O O ?_;intro w_435 hk_436 hs_437 hb_438;replace hb_438:Zd 50 9 col_434 w_435 g_105 #[.int .i8 2,.slice ra_421 r_419.1.length rc_422,.slice none (([]:List (ByteArray×ByteArray)).length) 0,.int .i8 set_66,.slice ra_116 r_114.length rc_117,.bool set_71,.bool set_72]:=hb_438;refine go ?_;obtain ⟨r_439,hr_440,hm⟩:=bZ hm;replace oh_426:=oh_426.kp hk_436;replace oh_428:=oh_428.kp hk_436;replace oh_430:=oh_430.kp hk_436;replace ohb_431:=ohb_431.kp hk_436;refine Zf (Zq8 22 1 2 hr_440 O oh_426 oh_428 oh_430 ohb_431) ?_;rintro _ w_452 ⟨col_454,ra_441,rc_442,oa_444,oc_445,ov_447,ov_449,rfl,hg_453,rh_443,oh_446,oh_448,oh_450,ohb_451⟩;refine ⟨_,O,?_⟩;refine Z0 ⟨_,_,O⟩ ?_;replace hb_438:=hb_438.kpp hg_453;refine X9 (off:=2) (v:=(.slice ra_441 r_439.1.length rc_442)) hb_438 sizeOf47 O O (by intro u hu;simp only [Value.cells,List.mem_cons,List.not_mem_nil,or_false] at hu;subst hu;rfl) O O ?_;intro w_455 hk_456 hs_457 hb_458;replace hb_458:Zd 50 9 col_454 w_455 g_105 #[.int .i8 2,.slice ra_421 r_419.1.length rc_422,.slice ra_441 r_439.1.length rc_442,.int .i8 set_66,.slice ra_116 r_114.length rc_117,.bool set_71,.bool set_72]:=hb_458;refine Zh ?_;replace oh_446:=oh_446.kp hk_456;replace oh_446:=oh_446.recol 21 11 (by decide);replace oh_448:=oh_448.kp hk_456;replace oh_448:=oh_448.recol 21 11 (by decide);replace oh_450:=oh_450.kp hk_456;replace oh_450:=oh_450.recol 21 11 (by decide)
      replace h_70:=((((h_70.kp hk_416).kpp hg_433).kp hk_436).kpp hg_453).kp hk_456;replace h_70:=h_70.recol 21 11 (by decide);replace h_76:=((((h_76.kp hk_416).kpp hg_433).kp hk_436).kpp hg_453).kp hk_456;replace h_76:=h_76.recol 21 11 (by decide);replace hgl:=((((hgl.kp hk_416).kpp hg_433).kp hk_436).kpp hg_453).kp hk_456;replace hgl:=hgl.recol 21 11 (by decide);replace rh_423:=((rh_423.kp hk_436).kpp hg_453).kp hk_456;replace rh_423:=rh_423.recolSelf 11 (by decide);replace rh_443:=rh_443.kp hk_456;replace rh_443:=rh_443.recol 21 11 (by decide);replace rh_118:=((((rh_118.kp hk_416).kpp hg_433).kp hk_436).kpp hg_453).kp hk_456;replace rh_118:=rh_118.recol 21 11 (by decide);replace ohb_451:=ohb_451.kp hk_456;replace ohb_451:=ohb_451.recol 21 11 (by decide);replace hb_51:=((((hb_51.kp hk_416).kpp hg_433).kp hk_436).kpp hg_453).kp hk_456;replace hb_51:=hb_51.recol 21 11 (by decide);replace hb_458:=hb_458.recol 21 11 (by decide);replace hst:=((((hst.kp hk_416 hs_417).kpp hg_433).kp hk_436 hs_437).kpp hg_453).kp hk_456 hs_457;replace hst:=hst.recol 21 11 (by decide) (by decide);replace oh_446:=oh_446.recol 22 12 (by decide);replace oh_448:=oh_448.recol 22 12 (by decide);replace oh_450:=oh_450.recol 22 12 (by decide);replace h_70:=h_70.recol 22 12 (by decide);replace h_76:=h_76.recol 22 12 (by decide);replace hgl:=hgl.recol 22 12 (by decide);replace rh_423:=rh_423.recol 22 12 (by decide);replace rh_443:=rh_443.recolSelf 12 (by decide);replace rh_118:=rh_118.recol 22 12 (by decide);replace ohb_451:=ohb_451.recol 22 12 (by decide);replace hb_51:=hb_51.recol 22 12 (by decide);replace hb_458:=hb_458.recol 22 12 (by decide);replace hst:=hst.recol 22 12 (by decide) (by decide);exact ⟨O,_,_,_,_,_,_,_,_,_,_,_,_,_,_,_,2,_,_,_,_,_,_,hm,hst,oh_446,oh_448,oh_450,ohb_451,h_70,hb_51,h_76,rh_423,rh_443,rh_118,hb_458,hgl⟩
     refine Zl hm (fun hb hm=>go ?_) fun hb hm=>?_
     ·refine Z0 ⟨_,_,O⟩ ?_;refine X9 (off:=0) (v:=(.int .i8 3)) hb_126 sizeOf46 O O (by intro u hu;simp only [Value.cells,List.mem_cons,List.not_mem_nil,or_false] at hu;subst hu;rfl) O O ?_;intro w_459 hk_460 hs_461 hb_462;replace hb_462:Zd 50 9 col_204 w_459 g_105 #[.int .i8 3,.slice none (([]:List (ByteArray×ByteArray)).length) 0,.slice none (([]:List (ByteArray×ByteArray)).length) 0,.int .i8 set_66,.slice ra_116 r_114.length rc_117,.bool set_71,.bool set_72]:=hb_462;refine go ?_;obtain ⟨r_463,hr_464,hm⟩:=bZ hm;replace oh_196:=oh_196.kp hk_460;replace oh_198:=oh_198.kp hk_460;replace oh_200:=oh_200.kp hk_460;replace ohb_201:=ohb_201.kp hk_460;refine Zf (S0 1 2 hr_464 O oh_196 oh_198 oh_200 ohb_201 Sl.nil) ?_;rintro _ w_473 ⟨col_475,oa_465,oc_466,ov_468,ov_470,rfl,hg_474,oh_467,oh_469,oh_471,ohb_472⟩;refine ⟨_,O,?_⟩;refine lV (.agg #[.string r_463.1,.string (⟨#[]⟩)]) (Wx (l:=[_,_]) (qs:=[(0,1),(1,1)]) underlying56 zeroValue56 ⟨O,sizeOf9,O,sizeOf9,trivial⟩ O)<|Sj (col:=col_475) (r:=(Za.pair Za.str Za.str)) (xs:=([(r_463.1,⟨#[]⟩)]:List (ByteArray×ByteArray))) [(.agg #[.string r_463.1,.string (⟨#[]⟩)])] 23 (Y5.ofF (Rows.consF (r:=(Za.pair Za.str Za.str)) (x:=(r_463.1,⟨#[]⟩)) (cs:=[.string r_463.1,.string (⟨#[]⟩)]) (Ui (Qh r_463.1) (Qh (⟨#[]⟩))) Rows.nil0)) ?_;intro a_476 w_477 col_478 hg_479 h_480;refine Z0 ⟨_,_,O⟩ ?_;replace hb_462:=(hb_462.kpp hg_474).gr hg_479;refine X9 (off:=1) (v:=(.slice a_476 (([(r_463.1,⟨#[]⟩)]:List (ByteArray×ByteArray)).length) 1)) hb_462 sizeOf47 O O (by intro u hu;simp only [Value.cells,List.mem_cons,List.not_mem_nil,or_false] at hu;subst hu;rfl) O O ?_;intro w_481 hk_482 hs_483 hb_484;replace hb_484:Zd 50 9 col_478 w_481 g_105 #[.int .i8 3,.slice a_476 (([(r_463.1,⟨#[]⟩)]:List (ByteArray×ByteArray)).length) 1,.slice none (([]:List (ByteArray×ByteArray)).length) 0,.int .i8 set_66,.slice ra_116 r_114.length rc_117,.bool set_71,.bool set_72]:=hb_484;refine go ?_;obtain ⟨r_485,hr_486,hm⟩:=bZ hm;replace oh_467:=(oh_467.gr hg_479).kp hk_482;replace oh_469:=(oh_469.gr hg_479).kp hk_482;replace oh_471:=(oh_471.gr hg_479).kp hk_482;replace ohb_472:=(ohb_472.gr hg_479).kp hk_482;refine Zf (Zq8 24 1 2 hr_486 O oh_467 oh_469 oh_471 ohb_472) ?_;rintro _ w_498 ⟨col_500,ra_487,rc_488,oa_490,oc_491,ov_493,ov_495,rfl,hg_499,rh_489,oh_492,oh_494,oh_496,ohb_497⟩;refine ⟨_,O,?_⟩;refine Z0 ⟨_,_,O⟩ ?_;replace hb_484:=hb_484.kpp hg_499
      refine X9 (off:=2) (v:=(.slice ra_487 r_485.1.length rc_488)) hb_484 sizeOf47 O O (by intro u hu;simp only [Value.cells,List.mem_cons,List.not_mem_nil,or_false] at hu;subst hu;rfl) O O ?_;intro w_501 hk_502 hs_503 hb_504;replace hb_504:Zd 50 9 col_500 w_501 g_105 #[.int .i8 3,.slice a_476 (([(r_463.1,⟨#[]⟩)]:List (ByteArray×ByteArray)).length) 1,.slice ra_487 r_485.1.length rc_488,.int .i8 set_66,.slice ra_116 r_114.length rc_117,.bool set_71,.bool set_72]:=hb_504;refine Zh ?_;replace oh_492:=oh_492.kp hk_502;replace oh_492:=oh_492.recol 23 11 (by decide);replace oh_494:=oh_494.kp hk_502;replace oh_494:=oh_494.recol 23 11 (by decide);replace oh_496:=oh_496.kp hk_502;replace oh_496:=oh_496.recol 23 11 (by decide);replace h_70:=(((((h_70.kp hk_460).kpp hg_474).gr hg_479).kp hk_482).kpp hg_499).kp hk_502;replace h_70:=h_70.recol 23 11 (by decide);replace h_76:=(((((h_76.kp hk_460).kpp hg_474).gr hg_479).kp hk_482).kpp hg_499).kp hk_502;replace h_76:=h_76.recol 23 11 (by decide);replace hgl:=(((((hgl.kp hk_460).kpp hg_474).gr hg_479).kp hk_482).kpp hg_499).kp hk_502;replace hgl:=hgl.recol 23 11 (by decide);replace h_480:=((h_480.kp hk_482).kpp hg_499).kp hk_502;replace h_480:=h_480.recolSelf 11 (by decide);replace rh_489:=rh_489.kp hk_502;replace rh_489:=rh_489.recol 23 11 (by decide);replace rh_118:=(((((rh_118.kp hk_460).kpp hg_474).gr hg_479).kp hk_482).kpp hg_499).kp hk_502;replace rh_118:=rh_118.recol 23 11 (by decide);replace ohb_497:=ohb_497.kp hk_502;replace ohb_497:=ohb_497.recol 23 11 (by decide);replace hb_51:=(((((hb_51.kp hk_460).kpp hg_474).gr hg_479).kp hk_482).kpp hg_499).kp hk_502;replace hb_51:=hb_51.recol 23 11 (by decide);replace hb_504:=hb_504.recol 23 11 (by decide);replace hst:=(((((hst.kp hk_460 hs_461).kpp hg_474).grow hg_479).kp hk_482 hs_483).kpp hg_499).kp hk_502 hs_503;replace hst:=hst.recol 23 11 (by decide) (by decide);replace oh_492:=oh_492.recol 24 12 (by decide);replace oh_494:=oh_494.recol 24 12 (by decide);replace oh_496:=oh_496.recol 24 12 (by decide);replace h_70:=h_70.recol 24 12 (by decide);replace h_76:=h_76.recol 24 12 (by decide);replace hgl:=hgl.recol 24 12 (by decide);replace h_480:=h_480.recol 24 12 (by decide);replace rh_489:=rh_489.recolSelf 12 (by decide);replace rh_118:=rh_118.recol 24 12 (by decide);replace ohb_497:=ohb_497.recol 24 12 (by decide);replace hb_51:=hb_51.recol 24 12 (by decide);replace hb_504:=hb_504.recol 24 12 (by decide);replace hst:=hst.recol 24 12 (by decide) (by decide);exact ⟨O,_,_,_,_,_,_,_,_,_,_,_,_,_,_,_,3,_,1,_,_,_,_,hm,hst,oh_492,oh_494,oh_496,ohb_497,h_70,hb_51,h_76,h_480,rh_489,rh_118,hb_504,hgl⟩
     refine Zy ?_;exact ⟨O,_,_,_,_,_,_,_,_,_,_,_,_,_,_,_,0,none,0,_,none,0,_,hm,hst,oh_196,oh_198,oh_200,ohb_201,h_70,hb_51,h_76,Zb.nil,Zb.nil,rh_118,hb_126,hgl⟩
    refine go ?_;refine Zl hm (fun hb hm=>go ?_) fun hb hm=>?_
    ·obtain ⟨r_505,hr_506,hm⟩:=bZ hm;refine Zf (Zm9 1 2 hr_506 O oh_82 oh_84 oh_86 ohb_87) ?_;rintro _ w_515 ⟨col_517,oa_507,oc_508,ov_510,ov_512,rfl,hg_516,oh_509,oh_511,oh_513,ohb_514⟩;refine ⟨_,O,?_⟩;refine Zh ?_;replace h_70:=h_70.kpp hg_516;replace h_76:=h_76.kpp hg_516;replace hgl:=hgl.kpp hg_516;replace hb_51:=hb_51.kpp hg_516;replace hst:=hst.kpp hg_516;exact ⟨O,_,_,_,_,_,_,_,_,_,_,hm,hst,oh_509,oh_511,oh_513,ohb_514,h_70,hb_51,h_76,hgl,O⟩
    refine Zy ?_;exact ⟨O,_,_,_,_,_,_,_,_,_,_,hm,hst,oh_82,oh_84,oh_86,ohb_87,h_70,hb_51,h_76,hgl,O⟩
   refine lv (v:=.nilIface) O O (Y7 O)<|go ?_;cases hm;exact ⟨O,_,_,_,_,O,hst.fin (cm [(8,c1)]),hst.fo h_76,Zh2⟩
abbrev SP:=List Y1×Option Y4×Int×Option Y4
abbrev AS:=Except Y4 Nat
def Zns (late:Option Y4):Y4:=(50,(Znm late).2.1,(Znm late).2.2.1,(Znm late).2.2.2)
structure U6 (W:List Y1) (late:Option Y4):Prop where
 len:W.length≤1048577
 fin:late=none→∃ x,W.getLast?=some x∧x.1=0
def Wh (W:List Y1) (late:Option Y4) (s:SP):AS→Prop
 | .ok n=>s=(W,late,(n:Int),none)∧n<W.length
 | .error b=>b.1=50∧∃ n:Nat,n≤W.length∧(s=(W,late,(n:Int),some b)∨(s=(W,late,(n:Int),none)∧n=W.length∧late.isSome=true∧b=Zns late))
variable {W:List Y1} {late:Option Y4}
def tk (W:List Y1) (n:Nat):Y1:=W[n]?.getD (0,⟨#[]⟩,0,0)
theorem Zqf {n:Nat} (h:n<W.length):W[n]?=some (tk W n):=by rw [tk,List.getElem?_eq_getElem h];rfl
def Zld (W:List Y1) (late:Option Y4) (n:Nat):AS:=if n+1<W.length then .ok (n+1) else .error (Zns late)
def Zd0 (W:List Y1):AS→AS
 | .ok n=>.error (50,(tk W n).2.2.1,(tk W n).2.2.2,(tk W n).2.1)
 | .error b=>.error b
def Uu (W:List Y1) (kd:Int) (tx:ByteArray):AS→Bool
 | .ok n=>decide ((tk W n).1=kd)&&(decide (tx=⟨#[]⟩)||decide ((tk W n).2.1=tx))
 | .error _=>false
def Zix (W:List Y1) (late:Option Y4):AS→AS
 | .ok n=>Zld W late n
 | .error b=>.error b
def tx0 (W:List Y1):AS→ByteArray
 | .ok n=>(tk W n).2.1
 | .error _=>⟨#[]⟩
def Zbz (W:List Y1) (late:Option Y4) (kd:Int) (tx:ByteArray) (A:AS):AS:=if Uu W kd tx A=true then Zix W late A else Zd0 W A
def Zmh (W:List Y1) (kd:Int) (tx:ByteArray) (A:AS):ByteArray:=if Uu W kd tx A=true then tx0 W A else ⟨#[]⟩
theorem Z0j (hW:U6 W late) {n:Nat} (h:n<W.length) (h2:¬ n+1<W.length) (hk:(tk W n).1≠0):late.isSome=true:=by
 cases hl:late with
 | some x=>rfl
 | none=>
  obtain ⟨x,hx,hx2⟩:=hW.fin hl
  rw [List.getLast?_eq_getElem?,show W.length - 1=n by omega,Zqf h] at hx
  rw [Option.some.inj hx] at hk
  exact absurd hx2 hk
theorem nxP (hW:U6 W late) {n:Nat} (h:n<W.length) (hk:(tk W n).1≠0):Wh W late (W,late,((n+1:Nat):Int),none) (Zld W late n):=by
 rw [Zld]
 split
 ·rename_i h2;exact ⟨rfl,h2⟩
 ·rename_i h2;exact ⟨rfl,n+1,by omega,.inr ⟨rfl,by omega,Z0j hW h h2 hk,rfl⟩⟩
section
variable {s:SP} {A:AS} (hW:U6 W late) (h:Wh W late s A)
include hW h
def Zf8 (W:List Y1):AS→Y1
 | .ok n=>tk W n
 | .error _=>(-1,⟨#[]⟩,0,0)
def Seen (s:SP) (A:AS):Prop:=match A with | .ok _=>s.2.2.2=none | .error b=>s.2.2.2=some b
theorem Zf9:∃ s',Qb (s.1,s.2.1,s.2.2.1,s.2.2.2)=some (Zf8 W A,s')∧Wh W late s' A∧Seen s' A:=by
 have hl:=hW.len
 cases A with
 | ok n=>
  obtain ⟨rfl,hn⟩:=h
  refine ⟨(W,late,(n:Int),none),?_,⟨rfl,hn⟩,rfl⟩
  rw [Qb,if_pos (by rfl),Zey,if_pos (decide_eq_true (show (n:Int)<(W.length:Int) by omega))]
  show (Zq W (n:Int)).bind _=_
  rw [Zmx,Zqf hn];rfl
 | error b=>
  obtain ⟨hb,n,hn,h | ⟨h,hn2,h2,h3⟩⟩:=h
  ·subst h
   exact ⟨(W,late,(n:Int),some b),rfl,⟨hb,n,hn,.inl rfl⟩,rfl⟩
  ·subst h
   obtain ⟨x,rfl⟩:=Option.isSome_iff_exists.1 h2
   refine ⟨(W,some x,(n:Int),some b),?_,⟨hb,n,hn,.inl rfl⟩,rfl⟩
   rw [Qb,if_pos (by rfl),Zey,if_neg (nd (show ¬ (n:Int)<(W.length:Int) by omega)),Zkh,if_pos (by rfl),h3]
   rfl
theorem Znl:∃ s',Zcu (s.1,s.2.1,s.2.2.1,s.2.2.2)=some s'∧Wh W late s' (Zd0 W A)∧∃ b,Zd0 W A= .error b∧s'.2.2.2=some b:=by
 obtain ⟨s1,h1,h2,h3⟩:=Zf9 hW h
 rw [Zcu]
 dsimp only
 rw [h1,Option.bind_some]
 dsimp only
 cases A with
 | ok n=>
  have h3':s1.2.2.2=none:=h3
  rw [if_pos (by rw [h3'];rfl)]
  obtain ⟨rfl,hn⟩:=h2
  exact ⟨_,rfl,⟨rfl,n,by omega,.inl rfl⟩,_,rfl,rfl⟩
 | error b=>
  have h3':s1.2.2.2=some b:=h3
  rw [if_neg (by rw [h3'];simp)]
  exact ⟨_,rfl,h2,_,rfl,h3'⟩
theorem Zud (tx:ByteArray) (ht:tx≠⟨#[]⟩):∃ s',Qd (s.1,s.2.1,s.2.2.1,s.2.2.2) tx=some (Uu W 4 tx A,s')∧Wh W late s' (if Uu W 4 tx A=true then Zbz W late 4 tx A else A)∧(Uu W 4 tx A=true→s'.2.2.2=none):=by
 have hl:=hW.len
 obtain ⟨s1,h1,h2,h3⟩:=Zf9 hW h
 rw [Qd]
 dsimp only
 rw [h1,Option.bind_some]
 dsimp only
 cases A with
 | error b=>exact ⟨s1,rfl,h2,fun e=>by cases e⟩
 | ok n=>
  obtain ⟨rfl,hn⟩:=h2
  show ∃ s',(if (!decide ((tk W n).1=4))=true then _ else Zba _ (!decide ((tk W n).2.1=tx)))=_∧_
  by_cases c1:(tk W n).1=4
  ·rw [if_neg (by rw [decide_eq_true c1];decide)]
   by_cases c2:(tk W n).2.1=tx
   ·have hi:Uu W 4 tx (.ok n)=true:=by rw [Uu,decide_eq_true c1,decide_eq_true c2,Bool.or_true];rfl
    rw [Zba,if_neg (by rw [decide_eq_true c2];decide),hi,if_pos rfl,Zbz,if_pos hi]
    dsimp only
    rw [Yw (by omega)]
    exact ⟨_,rfl,nxP hW hn (by rw [c1];decide),fun _=>rfl⟩
   ·have hi:Uu W 4 tx (.ok n)=false:=by rw [Uu,decide_eq_false c2,decide_eq_false ht];simp
    rw [Zba,if_pos (by rw [decide_eq_false c2];rfl),hi,if_neg (by decide)]
    exact ⟨_,rfl,⟨rfl,hn⟩,fun e=>by cases e⟩
  ·have hi:Uu W 4 tx (.ok n)=false:=by rw [Uu,decide_eq_false c1];rfl
   rw [if_pos (by rw [decide_eq_false c1];rfl),Zba,if_pos rfl,hi,if_neg (by decide)]
   exact ⟨_,rfl,⟨rfl,hn⟩,fun e=>by cases e⟩
theorem Z05 (tx:ByteArray) (ht:tx≠⟨#[]⟩):∃ s',Tq (s.1,s.2.1,s.2.2.1,s.2.2.2) tx=some s'∧Wh W late s' (Zbz W late 4 tx A)∧(Uu W 4 tx A=true→s'.2.2.2=none)∧(Uu W 4 tx A=false→∃ b,Zd0 W A= .error b∧s'.2.2.2=some b):=by
 obtain ⟨s1,h1,h2,h2'⟩:=Zud hW h tx ht
 rw [Tq]
 dsimp only
 rw [h1,Option.bind_some]
 dsimp only
 by_cases hi:Uu W 4 tx A=true
 ·rw [if_pos hi] at h2
  rw [hi,if_neg (by decide)]
  exact ⟨_,rfl,h2,fun _=>h2' hi,fun e=>by cases e⟩
 ·rw [if_neg hi] at h2
  obtain ⟨s2,h3,h4,h5⟩:=Znl hW h2
  rw [Bool.eq_false_iff.2 hi,if_pos (by rfl),h3,Option.bind_some,Zbz,if_neg hi]
  exact ⟨_,rfl,h4,fun e=>(by cases e),fun _=>h5⟩
end
variable {W:List Y1} {late:Option Y4}
def Tr (l:List ByteArray) (v:ByteArray):Bool:=l.any fun x=>decide (v=x)
theorem Z00 (x v:ByteArray) (l:List ByteArray):Tr (x :: l) v=(decide (v=x)||Tr l v):=rfl
theorem Zsj {l:List ByteArray} {v:ByteArray}:Tr l v=true↔v ∈ l:=by
 rw [Tr,List.any_eq_true]
 exact ⟨fun ⟨x,h,e⟩=>by rw [of_decide_eq_true e];exact h,fun h=>⟨v,h,decide_eq_true rfl⟩⟩
theorem Zrm (v:ByteArray):∀ (l:List ByteArray) (k:Nat),∃ r,Zc7 v l k=some r∧decide (0≤r)=Tr l v
 | [],k=>⟨-1,rfl,rfl⟩
 | x :: l,k=>by
  rw [Zc7.eq_2,Z00]
  by_cases h:v=x
  ·rw [if_pos (decide_eq_true h),decide_eq_true h]
   exact ⟨_,rfl,by rw [decide_eq_true (by omega)];rfl⟩
  ·rw [if_neg (nd h),decide_eq_false h]
   exact Zrm v l (k+1)
theorem Zy0 (l:List ByteArray) (v:ByteArray):Zc6 l v=some (Tr l v):=by
 obtain ⟨r,h1,h2⟩:=Zrm v l 0
 rw [Zc6,Zk3,h1,Option.bind_some,h2]
def Sq (W:List Y1) (ws:List ByteArray):AS→Bool
 | .ok n=>decide ((tk W n).1=1)&&(decide (ws=[])||Tr ws (tk W n).2.1)
 | .error _=>false
def Zac (W:List Y1) (late:Option Y4) (ws:List ByteArray) (A:AS):AS:=if Sq W ws A=true then Zix W late A else Zd0 W A
def Zad (W:List Y1) (ws:List ByteArray) (A:AS):ByteArray:=if Sq W ws A=true then tx0 W A else ⟨#[]⟩
theorem Zs3 (A:AS):Sq W [] A=Uu W 1 ⟨#[]⟩ A:=by
 cases A with
 | ok n=>rfl
 | error b=>rfl
theorem Z1d (A:AS):Zac W late [] A=Zbz W late 1 ⟨#[]⟩ A:=by rw [Zac,Zbz,Zs3]
theorem Z1f (A:AS):Zad W [] A=Zmh W 1 ⟨#[]⟩ A:=by rw [Zad,Zmh,Zs3]
theorem Zsq (hW:U6 W late) {s:SP} {A:AS} (h:Wh W late s A) (ws:List ByteArray):∃ s',Uv (s.1,s.2.1,s.2.2.1,s.2.2.2) ws=some (Zad W ws A,s')∧Wh W late s' (Zac W late ws A):=by
 have hl:=hW.len
 obtain ⟨s1,h1,h2,h3⟩:=Zf9 hW h
 have hbad:Sq W ws A=false→∃ s',Qc (Zf8 W A,s1) true=some (Zad W ws A,s')∧Wh W late s' (Zac W late ws A):=by
  intro ho
  obtain ⟨s2,h4,h5,_⟩:=Znl hW h2
  rw [Qc,if_pos rfl]
  dsimp only
  rw [h4,Option.bind_some,Zad,Zac,ho,if_neg (by decide),if_neg (by decide)]
  exact ⟨_,rfl,h5⟩
 have hgood:Sq W ws A=true→∃ s',Qc (Zf8 W A,s1) false=some (Zad W ws A,s')∧Wh W late s' (Zac W late ws A):=by
  intro ho
  cases A with
  | error b=>cases ho
  | ok n=>
   obtain ⟨rfl,hn⟩:=h2
   have hk:(tk W n).1=1:=by
    rw [Sq,Bool.and_eq_true] at ho
    exact of_decide_eq_true ho.1
   rw [Qc,if_neg (by decide),Zkj]
   dsimp only
   rw [Zad,Zac,ho,if_pos rfl,if_pos rfl,Yw (by omega)]
   exact ⟨_,rfl,nxP hW hn (by rw [hk];decide)⟩
 rw [Uv]
 dsimp only
 rw [h1,Option.bind_some]
 dsimp only
 cases A with
 | error b=>
  rw [if_pos (by show (!decide ((-1:Int)=1))=true;decide)]
  exact hbad rfl
 | ok n=>
  by_cases c1:(tk W n).1=1
  ·rw [if_neg (by show ¬ (!decide ((tk W n).1=1))=true;rw [decide_eq_true c1];decide)]
   by_cases c2:ws=[]
   ·rw [if_neg (by rw [c2];decide)]
    exact hgood (by rw [Sq,decide_eq_true c1,decide_eq_true c2];rfl)
   ·have:0<ws.length:=List.length_pos_iff.2 c2
    rw [if_pos (decide_eq_true (by omega)),Zy0,Option.bind_some]
    show ∃ s',Qc (Zf8 W (.ok n),s1) (!Tr ws (tk W n).2.1)=_∧_
    cases c3:Tr ws (tk W n).2.1 with
    | true=>exact hgood (by rw [Sq,decide_eq_true c1,c3,Bool.or_true];rfl)
    | false=>exact hbad (by rw [Sq,decide_eq_true c1,decide_eq_false c2,c3];rfl)
  ·rw [if_pos (by show (!decide ((tk W n).1=1))=true;rw [decide_eq_false c1];rfl)]
   exact hbad (by rw [Sq,decide_eq_false c1];rfl)
/-! ### the document's -/
abbrev Tk:=Int×ByteArray
def V2 (W:List Y1):List Tk:=W.map fun x=>(x.1,x.2.1)
def Yk (k:Int) (tx:ByteArray):List Tk→Bool
 | x :: _=>decide (x.1=k)&&(decide (tx=⟨#[]⟩)||decide (x.2=tx))
 | []=>false
def S2:List Tk→Int
 | x :: _=>x.1
 | []=> -1
def fst:List Tk→ByteArray
 | x :: _=>x.2
 | []=>⟨#[]⟩
def Zm (k:Int) (tx:ByteArray) (w:List Tk):List Tk:=if Yk k tx w=true then w.tail else []
def Yv (k:Int) (tx:ByteArray) (w:List Tk):ByteArray:=if Yk k tx w=true then fst w else ⟨#[]⟩
def Zbi (ws:List ByteArray):List Tk→Bool
 | x :: _=>decide (x.1=1)&&(decide (ws=[])||Tr ws x.2)
 | []=>false
def Zt (ws:List ByteArray) (w:List Tk):List Tk:=if Zbi ws w=true then w.tail else []
def Yl (ws:List ByteArray) (w:List Tk):ByteArray:=if Zbi ws w=true then fst w else ⟨#[]⟩
variable {W:List Y1} {late:Option Y4}
def W5 (W:List Y1):AS→List Tk→Prop
 | .ok n,w=>w=(V2 W).drop n∧n<W.length
 | .error _,w=>w=[]
theorem Zqg:(V2 W).length=W.length:=by rw [V2,List.length_map]
theorem Zh9 {n:Nat} (h:n<W.length):(V2 W).drop n=((tk W n).1,(tk W n).2.1) :: (V2 W).drop (n+1):=by
 rw [List.drop_eq_getElem_cons (by rw [Zqg];exact h)]
 have:=Zqf h
 rw [List.getElem?_eq_getElem h] at this
 have e:W[n]=tk W n:=Option.some.inj this
 simp only [V2,List.getElem_map,e]
section
variable {A:AS} {w:List Tk} (h:W5 W A w)
include h
theorem Zmi (k:Int) (tx:ByteArray):Uu W k tx A=Yk k tx w:=by
 cases A with
 | ok n=>obtain ⟨rfl,hn⟩:=h;rw [Zh9 hn];rfl
 | error b=>rw [show w=[] from h];rfl
theorem Zu8:(Zf8 W A).1=S2 w:=by
 cases A with
 | ok n=>obtain ⟨rfl,hn⟩:=h;rw [Zh9 hn];rfl
 | error b=>rw [show w=[] from h];rfl
theorem Zva:tx0 W A=fst w:=by
 cases A with
 | ok n=>obtain ⟨rfl,hn⟩:=h;rw [Zh9 hn];rfl
 | error b=>rw [show w=[] from h];rfl
theorem w_tx (k:Int) (tx:ByteArray):Zmh W k tx A=Yv k tx w:=by rw [Zmh,Yv,Zmi h,Zva h]
theorem Zu7:W5 W (Zix W late A) w.tail:=by
 cases A with
 | ok n=>
  obtain ⟨rfl,hn⟩:=h
  rw [Zix,Zld,Zh9 hn]
  split
  ·rename_i h2;exact ⟨rfl,h2⟩
  ·rename_i h2;exact List.drop_eq_nil_of_le (by rw [Zqg];omega)
 | error b=>rw [show w=[] from h];exact rfl
theorem Zql:W5 W (Zd0 W A) []:=by cases A <;> exact rfl
theorem Zqm (k:Int) (tx:ByteArray):W5 W (Zbz W late k tx A) (Zm k tx w):=by
 rw [Zbz,Zm,Zmi h]
 split
 ·exact Zu7 h
 ·exact Zql h
theorem Zu9 (ws:List ByteArray):Sq W ws A=Zbi ws w:=by
 cases A with
 | ok n=>obtain ⟨rfl,hn⟩:=h;rw [Zh9 hn];rfl
 | error b=>rw [show w=[] from h];rfl
theorem w_on (ws:List ByteArray):W5 W (Zac W late ws A) (Zt ws w):=by
 rw [Zac,Zt,Zu9 h]
 split
 ·exact Zu7 h
 ·exact Zql h
theorem Z26 (ws:List ByteArray):Zad W ws A=Yl ws w:=by rw [Zad,Yl,Zu9 h,Zva h]
end
theorem Zd4 {k:Int} {tx:ByteArray} {w:List Tk} (h:Yk k tx w=true):1≤w.length:=by
 cases w with
 | nil=>cases h
 | cons x r=>rw [List.length_cons];omega
theorem Vg (k:Int) (tx:ByteArray) (w:List Tk):(Zm k tx w).length≤w.length - 1:=by
 rw [Zm]
 split
 ·rw [List.length_tail];omega
 ·exact Nat.zero_le _
theorem Zlk (ws:List ByteArray) (w:List Tk):(Zt ws w).length≤w.length - 1:=by
 rw [Zt]
 split
 ·rw [List.length_tail];omega
 ·exact Nat.zero_le _
abbrev Wu:ByteArray:=⟨#[61]⟩
abbrev Y2:ByteArray:=⟨#[44]⟩
abbrev Xs:ByteArray:=⟨#[59]⟩
abbrev Sc:ByteArray:=⟨#[124]⟩
abbrev Vt:ByteArray:=⟨#[40]⟩
abbrev Uy:ByteArray:=⟨#[41]⟩
abbrev eB:ByteArray:=⟨#[]⟩
abbrev Z3:ByteArray:=⟨#[117,115,101]⟩
abbrev Xa:ByteArray:=⟨#[112,114,117,110,101]⟩
abbrev Xc:ByteArray:=⟨#[99,104,97,110,99,101]⟩
abbrev Xd:ByteArray:=⟨#[97,115,107]⟩
abbrev Xg:ByteArray:=⟨#[97,108,108]⟩
abbrev Yr:ByteArray:=⟨#[102,105,108,108]⟩
abbrev Yq:ByteArray:=⟨#[100,101,103,114,101,101]⟩
abbrev Y3:ByteArray:=⟨#[111,114,100,101,114]⟩
abbrev Wz:ByteArray:=⟨#[98,97,114,114,101,110]⟩
abbrev Y9:ByteArray:=⟨#[97,112,97,114,116]⟩
abbrev W7:ByteArray:=⟨#[111,110]⟩
abbrev V3:ByteArray:=⟨#[111,102,102]⟩
abbrev W4:=List (ByteArray×ByteArray)
abbrev Xb:=Int×W4×W4×Int×List ByteArray×(Bool×Bool)
/-! ### what is read -/
def Xj:Nat→List Tk→W4×List Tk
 | 0,w=>([],[])
 | f+1,w=>if Yk 4 Y2 (Zm 1 eB (Zm 4 Wu (Zm 1 eB w)))=true then
   ((Yv 1 eB w,Yv 1 eB (Zm 4 Wu (Zm 1 eB w))) :: (Xj f (Zm 4 Y2 (Zm 1 eB (Zm 4 Wu (Zm 1 eB w))))).1,(Xj f (Zm 4 Y2 (Zm 1 eB (Zm 4 Wu (Zm 1 eB w))))).2)
  else ([(Yv 1 eB w,Yv 1 eB (Zm 4 Wu (Zm 1 eB w)))],Zm 1 eB (Zm 4 Wu (Zm 1 eB w)))
def Yc (f:Nat) (w:List Tk):W4×List Tk:=if Yk 4 Sc w=true then Xj f (Zm 4 Sc w) else ([],w)
def Vp:Nat→List Tk→List ByteArray×List Tk
 | 0,w=>([],[])
 | f+1,w=>if Yk 4 Y2 w=true then (Yv 1 eB (Zm 4 Y2 w) :: (Vp f (Zm 1 eB (Zm 4 Y2 w))).1,(Vp f (Zm 1 eB (Zm 4 Y2 w))).2) else ([],Zm 4 Uy w)
def Ww (f:Nat) (w:List Tk):List ByteArray×List Tk:=
 if Yk 4 Uy (Zm 4 Vt w)=true then ([],Zm 4 Uy (Zm 4 Vt w)) else (Yv 1 eB (Zm 4 Vt w) :: (Vp f (Zm 1 eB (Zm 4 Vt w))).1,(Vp f (Zm 1 eB (Zm 4 Vt w))).2)
def Wi (w:List Tk) (K:List Tk→Option (List Xb)):Option (List Xb):=if Yk 4 Xs w=true then K (Zm 4 Xs w) else none
def T9 (q:Xb) (o:Option (List Xb)):Option (List Xb):=o.map (q :: ·)
def Vs (G:Nat):Nat→Nat→Int→List ByteArray→Bool→Bool→List Tk→Option (List Xb)
 | 0,k,how,ord,c0,c1,w=>none
 | f+1,k,how,ord,c0,c1,w=>
  if S2 w=0 then some [] else if 4096<k+1 then none else
  if Yl [Z3,Xa,Xc,Xd,Xg] w=Z3 then
   (if Yl [Yr,Yq,Y3] (Zt [Z3,Xa,Xc,Xd,Xg] w)=Yr then Wi (Zt [Yr,Yq,Y3] (Zt [Z3,Xa,Xc,Xd,Xg] w)) (Vs G f (k+1) 1 [] c0 c1)
   else if Yl [Yr,Yq,Y3] (Zt [Z3,Xa,Xc,Xd,Xg] w)=Yq then Wi (Zt [Yr,Yq,Y3] (Zt [Z3,Xa,Xc,Xd,Xg] w)) (Vs G f (k+1) 2 [] c0 c1)
   else Wi (Ww G (Zt [Yr,Yq,Y3] (Zt [Z3,Xa,Xc,Xd,Xg] w))).2 (Vs G f (k+1) 3 (Ww G (Zt [Yr,Yq,Y3] (Zt [Z3,Xa,Xc,Xd,Xg] w))).1 c0 c1))
  else if Yl [Z3,Xa,Xc,Xd,Xg] w=Xa then
   (if Yl [Wz,Y9] (Zt [Z3,Xa,Xc,Xd,Xg] w)=Y9 then Wi (Zt [W7,V3] (Zt [Wz,Y9] (Zt [Z3,Xa,Xc,Xd,Xg] w))) (Vs G f (k+1) how ord c0 (decide (Yl [W7,V3] (Zt [Wz,Y9] (Zt [Z3,Xa,Xc,Xd,Xg] w))=W7)))
   else Wi (Zt [W7,V3] (Zt [Wz,Y9] (Zt [Z3,Xa,Xc,Xd,Xg] w))) (Vs G f (k+1) how ord (decide (Yl [W7,V3] (Zt [Wz,Y9] (Zt [Z3,Xa,Xc,Xd,Xg] w))=W7)) c1))
  else if Yl [Z3,Xa,Xc,Xd,Xg] w=Xc then
   (if S2 (Zt [Z3,Xa,Xc,Xd,Xg] w)=4 then Wi (Zt [Z3,Xa,Xc,Xd,Xg] w) (fun v=>T9 (1,[],[],how,ord,(c0,c1)) (Vs G f (k+1) how ord c0 c1 v))
   else Wi (Xj G (Zt [Z3,Xa,Xc,Xd,Xg] w)).2 (fun v=>T9 (1,(Xj G (Zt [Z3,Xa,Xc,Xd,Xg] w)).1,[],how,ord,(c0,c1)) (Vs G f (k+1) how ord c0 c1 v)))
  else if Yl [Z3,Xa,Xc,Xd,Xg] w=Xd then
   Wi (Yc G (Xj G (Zt [Z3,Xa,Xc,Xd,Xg] w)).2).2 (fun v=>T9 (2,(Xj G (Zt [Z3,Xa,Xc,Xd,Xg] w)).1,(Yc G (Xj G (Zt [Z3,Xa,Xc,Xd,Xg] w)).2).1,how,ord,(c0,c1)) (Vs G f (k+1) how ord c0 c1 v))
  else Wi (Yc G (Zm 1 eB (Zt [Z3,Xa,Xc,Xd,Xg] w))).2 (fun v=>T9 (3,[(Yv 1 eB (Zt [Z3,Xa,Xc,Xd,Xg] w),⟨#[]⟩)],(Yc G (Zm 1 eB (Zt [Z3,Xa,Xc,Xd,Xg] w))).1,how,ord,(c0,c1)) (Vs G f (k+1) how ord c0 c1 v))
/-! ### lengths -/
theorem Zbo:∀ (f:Nat) (w:List Tk),(Xj f w).2.length≤w.length∧(Xj f w).1.length≤w.length+1
 | 0,w=>⟨Nat.zero_le _,Nat.zero_le _⟩
 | f+1,w=>by
  rw [Xj]
  have h1:=Vg 1 eB w
  have h2:=Vg 4 Wu (Zm 1 eB w)
  have h3:=Vg 1 eB (Zm 4 Wu (Zm 1 eB w))
  split
  ·rename_i hc
   have h5:=Zd4 hc
   have h4:=Vg 4 Y2 (Zm 1 eB (Zm 4 Wu (Zm 1 eB w)))
   have ih:=Zbo f (Zm 4 Y2 (Zm 1 eB (Zm 4 Wu (Zm 1 eB w))))
   refine ⟨?_,?_⟩
   ·show (Xj f _).2.length≤_;omega
   ·rw [List.length_cons];omega
  ·refine ⟨by dsimp only;omega,by simp⟩
theorem Ziy (f:Nat) (w:List Tk):(Yc f w).2.length≤w.length∧(Yc f w).1.length≤w.length+1:=by
 rw [Yc]
 split
 ·have h1:=Vg 4 Sc w
  have:=Zbo f (Zm 4 Sc w)
  omega
 ·simp
theorem Zlb:∀ (f:Nat) (w:List Tk),(Vp f w).2.length≤w.length∧(Vp f w).1.length≤w.length
 | 0,w=>⟨Nat.zero_le _,Nat.zero_le _⟩
 | f+1,w=>by
  rw [Vp]
  split
  ·rename_i hc
   have h5:=Zd4 hc
   have h1:=Vg 4 Y2 w
   have h2:=Vg 1 eB (Zm 4 Y2 w)
   have ih:=Zlb f (Zm 1 eB (Zm 4 Y2 w))
   refine ⟨?_,?_⟩
   ·show (Vp f _).2.length≤_;omega
   ·rw [List.length_cons];omega
  ·have:=Vg 4 Uy w
   refine ⟨by dsimp only;omega,Nat.zero_le _⟩
theorem Zs8 (f:Nat) (w:List Tk):(Ww f w).2.length≤w.length∧(Ww f w).1.length≤w.length+1:=by
 rw [Ww]
 have h1:=Vg 4 Vt w
 split
 ·have h2:=Vg 4 Uy (Zm 4 Vt w)
  refine ⟨by dsimp only;omega,Nat.zero_le _⟩
 ·have h2:=Vg 1 eB (Zm 4 Vt w)
  have:=Zlb f (Zm 1 eB (Zm 4 Vt w))
  refine ⟨by show (Vp f _).2.length≤_;omega,by rw [List.length_cons];omega⟩
variable {W:List Y1} {late:Option Y4}
section
variable {s:SP} {A:AS} {w:List Tk} (hW:U6 W late) (h:Wh W late s A) (hw:W5 W A w)
include hW h hw
theorem Zk9 (ws:List ByteArray):∃ A' s',Uv (s.1,s.2.1,s.2.2.1,s.2.2.2) ws=some (Yl ws w,s')∧Wh W late s' A'∧W5 W A' (Zt ws w):=by
 obtain ⟨s',h1,h2⟩:=Zsq hW h ws
 exact ⟨_,s',by rw [h1,Z26 hw],h2,w_on hw ws⟩
theorem Zht:∃ A' s',Uv (s.1,s.2.1,s.2.2.1,s.2.2.2) ([]:List ByteArray)=some (Yv 1 eB w,s')∧Wh W late s' A'∧W5 W A' (Zm 1 eB w):=by
 obtain ⟨s',h1,h2⟩:=Zsq hW h []
 rw [Z1f,w_tx hw] at h1
 rw [Z1d] at h2
 exact ⟨_,s',h1,h2,Zqm hw 1 eB⟩
theorem Zl7 (tx:ByteArray) (ht:tx≠⟨#[]⟩):∃ A' s',Qd (s.1,s.2.1,s.2.2.1,s.2.2.2) tx=some (Yk 4 tx w,s')∧Wh W late s' A'∧W5 W A' (if Yk 4 tx w=true then Zm 4 tx w else w):=by
 obtain ⟨s',h1,h2,_⟩:=Zud hW h tx ht
 rw [Zmi hw] at h1 h2
 refine ⟨_,s',h1,h2,?_⟩
 by_cases hc:Yk 4 tx w=true
 ·rw [if_pos hc,if_pos hc];exact Zqm hw 4 tx
 ·rw [if_neg hc,if_neg hc];exact hw
theorem Ze6 (tx:ByteArray) (ht:tx≠⟨#[]⟩):∃ A' s',Tq (s.1,s.2.1,s.2.2.1,s.2.2.2) tx=some s'∧Wh W late s' A'∧W5 W A' (Zm 4 tx w)∧(Yk 4 tx w=true→s'.2.2.2=none)∧(Yk 4 tx w=false→∃ b,s'.2.2.2=some b):=by
 obtain ⟨s',h1,h2,h3,h4⟩:=Z05 hW h tx ht
 rw [Zmi hw] at h3 h4
 exact ⟨_,s',h1,h2,Zqm hw 4 tx,h3,fun e=>(h4 e).elim fun b hb=>⟨b,hb.2⟩⟩
end
theorem ck32 {a:Nat} (h:a≤1048579) (x:ByteArray×ByteArray) (l:List (ByteArray×ByteArray)) (hl:l.length≤a):(l.length+[x].length) * 32≤140737488355328∧l.length+[x].length≤maxLen:=by
 have:[x].length=1:=rfl
 rw [this];simp only [maxLen];omega
theorem ck16 {a:Nat} (h:a≤1048579) (x:ByteArray) (l:List ByteArray) (hl:l.length≤a):(l.length+([x]:List ByteArray).length) * 16≤140737488355328∧l.length+([x]:List ByteArray).length≤maxLen:=by
 have:([x]:List ByteArray).length=1:=rfl
 rw [this];simp only [maxLen];omega
theorem Zlr (hW:U6 W late) {N:Nat}:∀ (m:Nat) (A:AS) (sp:SP) (w:List Tk) (l:W4) (f g:Nat),w.length≤m→Wh W late sp A→W5 W A w→l.length+w.length≤1048578→m<f→m<g→
  ∃ A' sp',Zcw N f sp.1 sp.2.1 sp.2.2.1 sp.2.2.2 l=some (l++(Xj g w).1,sp')∧Wh W late sp' A'∧W5 W A' (Xj g w).2
 | m,A,sp,w,l,0,g,hm,hp,hw,hl,hf,hg=>by omega
 | m,A,sp,w,l,f+1,0,hm,hp,hw,hl,hf,hg=>by omega
 | m,A,sp,w,l,f+1,g+1,hm,hp,hw,hl,hf,hg=>by
  obtain ⟨A1,p1,a1,b1,d1⟩:=Zht hW hp hw
  obtain ⟨A2,p2,a2,b2,d2,_⟩:=Ze6 hW b1 d1 Wu (by decide)
  obtain ⟨A3,p3,a3,b3,d3⟩:=Zht hW b2 d2
  obtain ⟨A4,p4,a4,b4,d4⟩:=Zl7 hW b3 d3 Y2 (by decide)
  have m1:=Vg 1 eB w
  have m2:=Vg 4 Wu (Zm 1 eB w)
  have m3:=Vg 1 eB (Zm 4 Wu (Zm 1 eB w))
  rw [Zcw.eq_2,a1,Option.bind_some]
  dsimp only
  rw [a2,Option.bind_some,a3,Option.bind_some]
  dsimp only
  rw [Xx (ck32 (a:=1048578) (by omega) _ _ (by omega)),a4,Option.bind_some,Xj]
  generalize hx:(Yv 1 eB w,Yv 1 eB (Zm 4 Wu (Zm 1 eB w)))=x at *
  generalize Zm 1 eB (Zm 4 Wu (Zm 1 eB w))=w3 at *
  dsimp only
  by_cases hi:Yk 4 Y2 w3=true
  ·rw [if_pos hi] at d4
   rw [hi,if_neg (by decide),if_pos rfl]
   have m5:=Zd4 hi
   have m4:=Vg 4 Y2 w3
   obtain ⟨A',sp',i1,i2,i3⟩:=Zlr hW (N:=N) (m - 1) A4 p4 (Zm 4 Y2 w3) (l++[x]) f g (by omega) b4 d4 (by rw [List.length_append];simp only [List.length_cons,List.length_nil];omega) (by omega) (by omega)
   rw [List.append_assoc] at i1
   exact ⟨A',sp',i1,i2,i3⟩
  ·rw [if_neg hi] at d4
   rw [Bool.eq_false_iff.2 hi,if_pos (by decide),if_neg (by decide)]
   exact ⟨A4,p4,rfl,b4,d4⟩
theorem Zrx (hW:U6 W late) {N G:Nat} {A:AS} {sp:SP} {w:List Tk} (hN:1048577<N) (hG:1048577<G) (hl:w.length≤1048577) (hp:Wh W late sp A) (hw:W5 W A w):
  ∃ A' sp',Zex N (sp.1,sp.2.1,sp.2.2.1,sp.2.2.2)=some ((Yc G w).1,sp')∧Wh W late sp' A'∧W5 W A' (Yc G w).2:=by
 obtain ⟨A1,p1,a1,b1,d1⟩:=Zl7 hW hp hw Sc (by decide)
 rw [Zex]
 dsimp only
 rw [a1,Option.bind_some,Yc]
 dsimp only
 by_cases hi:Yk 4 Sc w=true
 ·rw [if_pos hi] at d1
  have m1:=Vg 4 Sc w
  rw [hi,if_pos rfl,if_pos rfl]
  obtain ⟨A',sp',i1,i2,i3⟩:=Zlr hW (N:=N) 1048577 A1 p1 (Zm 4 Sc w) [] N G (by omega) b1 d1 (by simp;omega) (by omega) (by omega)
  rw [Za9]
  dsimp only
  rw [i1,Option.bind_some]
  exact ⟨A',sp',rfl,i2,i3⟩
 ·rw [if_neg hi] at d1
  rw [Bool.eq_false_iff.2 hi,if_neg (by decide),if_neg (by decide)]
  exact ⟨A1,p1,rfl,b1,d1⟩
theorem Zsr (hW:U6 W late) {N:Nat}:∀ (m:Nat) (A:AS) (sp:SP) (w:List Tk) (l:List ByteArray) (f g:Nat),w.length≤m→Wh W late sp A→W5 W A w→l.length+w.length≤1048579→m<f→m<g→
  ∃ A' sp',Zcv N f sp.1 sp.2.1 sp.2.2.1 sp.2.2.2 l=some (l++(Vp g w).1,sp')∧Wh W late sp' A'∧W5 W A' (Vp g w).2
 | m,A,sp,w,l,0,g,hm,hp,hw,hl,hf,hg=>by omega
 | m,A,sp,w,l,f+1,0,hm,hp,hw,hl,hf,hg=>by omega
 | m,A,sp,w,l,f+1,g+1,hm,hp,hw,hl,hf,hg=>by
  obtain ⟨A1,p1,a1,b1,d1⟩:=Zl7 hW hp hw Y2 (by decide)
  rw [Zcv.eq_2,a1,Option.bind_some,Vp]
  dsimp only
  by_cases hi:Yk 4 Y2 w=true
  ·rw [if_pos hi] at d1
   obtain ⟨A2,p2,a2,b2,d2⟩:=Zht hW b1 d1
   have m5:=Zd4 hi
   have m1:=Vg 4 Y2 w
   have m2:=Vg 1 eB (Zm 4 Y2 w)
   rw [hi,if_pos rfl,if_pos rfl,a2,Option.bind_some]
   dsimp only
   rw [Xx (ck16 (a:=1048579) (by omega) _ _ (by omega))]
   obtain ⟨A',sp',i1,i2,i3⟩:=Zsr hW (N:=N) (m - 1) A2 p2 (Zm 1 eB (Zm 4 Y2 w)) (l++[Yv 1 eB (Zm 4 Y2 w)]) f g (by omega) b2 d2 (by rw [List.length_append];simp only [List.length_cons,List.length_nil];omega) (by omega) (by omega)
   rw [List.append_assoc] at i1
   exact ⟨A',sp',i1,i2,i3⟩
  ·rw [if_neg hi] at d1
   obtain ⟨A2,p2,a2,b2,d2,_⟩:=Ze6 hW b1 d1 Uy (by decide)
   rw [Bool.eq_false_iff.2 hi,if_neg (by decide),if_neg (by decide),a2,Option.bind_some,List.append_nil]
   exact ⟨A2,p2,rfl,b2,d2⟩
theorem Z1l (hW:U6 W late) {N G:Nat} {A:AS} {sp:SP} {w:List Tk} (hN:1048577<N) (hG:1048577<G) (hl:w.length≤1048577) (hp:Wh W late sp A) (hw:W5 W A w):
  ∃ A' sp',Zhc N (sp.1,sp.2.1,sp.2.2.1,sp.2.2.2)=some ((Ww G w).1,sp')∧Wh W late sp' A'∧W5 W A' (Ww G w).2:=by
 obtain ⟨A1,p1,a1,b1,d1,_⟩:=Ze6 hW hp hw Vt (by decide)
 obtain ⟨A2,p2,a2,b2,d2⟩:=Zl7 hW b1 d1 Uy (by decide)
 have m1:=Vg 4 Vt w
 rw [Zhc]
 dsimp only
 rw [a1,Option.bind_some,a2,Option.bind_some,Ww]
 dsimp only
 by_cases hi:Yk 4 Uy (Zm 4 Vt w)=true
 ·rw [if_pos hi] at d2
  rw [hi,if_pos rfl,if_pos rfl]
  exact ⟨A2,p2,rfl,b2,d2⟩
 ·rw [if_neg hi] at d2
  obtain ⟨A3,p3,a3,b3,d3⟩:=Zht hW b2 d2
  have m2:=Vg 1 eB (Zm 4 Vt w)
  rw [Bool.eq_false_iff.2 hi,if_neg (by decide),if_neg (by decide),a3,Option.bind_some]
  dsimp only
  obtain ⟨A',sp',i1,i2,i3⟩:=Zsr hW (N:=N) 1048577 A3 p3 (Zm 1 eB (Zm 4 Vt w)) [Yv 1 eB (Zm 4 Vt w)] N G (by omega) b3 d3 (by simp;omega) (by omega) (by omega)
  rw [i1]
  exact ⟨A',sp',rfl,i2,i3⟩
/-! ### a command -/
abbrev KPq:=(List (Int×ByteArray×Int×Int))→(Option (Int×Int×Int×ByteArray))→Int→(Option (Int×Int×Int×ByteArray))→Int→(List ByteArray)→Bool→Bool→(List (Int×(List (ByteArray×ByteArray))×(List (ByteArray×ByteArray))×Int×List ByteArray×(Bool×Bool)))→Int→Option ((List (Int×(List (ByteArray×ByteArray))×(List (ByteArray×ByteArray))×Int×List ByteArray×(Bool×Bool)))×(Option (Int×Int×Int×ByteArray)))
def Zam (P:Option (List Xb×Option Y4)) (l:List Xb):Option (List Xb)→Prop
 | some L=>P=some (l++L,none)
 | none=>∃ b,P=some ([],some b)
def Zqq (W:List Y1) (late:Option Y4) (kP:KPq) (K:Int) (KS:Int→List ByteArray→Bool→Bool→List Tk→Option (List Xb)) (m:Nat):Prop:=∀ (A':AS) (p:SP) (w:List Tk) (how:Int) (ord:List ByteArray) (c0 c1:Bool) (l:List Xb),w.length<m→Wh W late p A'→W5 W A' w→ord.length≤1048579→l.length+w.length≤1048578→
 Zam (kP p.1 p.2.1 p.2.2.1 p.2.2.2 how ord c0 c1 l K) l (KS how ord c0 c1 w)
theorem Z1m {P:Option (List Xb×Option Y4)} {l:List Xb} {q:Xb} {o:Option (List Xb)} (h:Zam P (l++[q]) o):Zam P l (T9 q o):=by
 cases o with
 | none=>exact h
 | some L=>
  have h:P=some ((l++[q])++L,none):=h
  show P=some (l++(q :: L),none)
  rw [h,List.append_assoc];rfl
section
variable {kP:KPq} {K:Int} {KS:Int→List ByteArray→Bool→Bool→List Tk→Option (List Xb)} {m:Nat} {A4:AS} {p:SP} {w4:List Tk} (hW:U6 W late) (hG:Zqq W late kP K KS m) (hm:w4.length≤m) (hp:Wh W late p A4) (hw:W5 W A4 w4)
include hW hG hm hp hw
theorem Zf0 (how:Int) (ord:List ByteArray) (b0 b1:Bool) (l:List Xb) (kd:Int) (aP gP:W4) (ho:ord.length≤1048579) (hl:l.length+m≤1048578):
  Zam (Tc how b0 b1 l kP K (([]:List ByteArray)++ord) p.1 p.2.1 p.2.2.1 p.2.2.2 how ord b0 b1 kd aP gP) l (Wi w4 fun v=>T9 (kd,aP,gP,how,ord,(b0,b1)) (KS how ord b0 b1 v)):=by
 obtain ⟨A5,p1,a1,x1,d1,y1,z1⟩:=Ze6 hW hp hw Xs (by decide)
 rw [Tc,a1,Option.bind_some,Wi,List.nil_append]
 by_cases hi:Yk 4 Xs w4=true
 ·have m1:=Vg 4 Xs w4
  have m2:=Zd4 hi
  rw [y1 hi,if_neg (by decide),if_pos hi]
  have hc:∀ x:Xb,(l.length+[x].length) * 96≤140737488355328∧l.length+[x].length≤maxLen:=fun x=>by
   have:[x].length=1:=rfl
   rw [this];simp only [maxLen];omega
  rw [Xx (hc _)]
  have:=hG A5 p1 (Zm 4 Xs w4) how ord b0 b1 (l++[(kd,aP,gP,how,ord,(b0,b1))]) (by omega) x1 d1 ho (by rw [List.length_append];simp only [List.length_cons,List.length_nil];omega)
  rw [y1 hi] at this
  exact Z1m this
 ·obtain ⟨b,g1⟩:=z1 (Bool.eq_false_iff.2 hi)
  rw [g1,if_pos (by rfl),if_neg hi]
  exact ⟨b,rfl⟩
theorem Zd1 (how:Int) (ord:List ByteArray) (b0 b1:Bool) (l:List Xb) (hP:Int) (oP:List ByteArray) (cP dP:Bool) (ho:Yk 4 Xs w4=true→oP.length≤1048579) (hl:l.length+m≤1048578):
  Zam ((Tq (p.1,p.2.1,p.2.2.1,p.2.2.2) (⟨#[59]⟩)).bind fun r_227=>if (!r_227.2.2.2.isSome)=true then (kP r_227.1 r_227.2.1 r_227.2.2.1 r_227.2.2.2 hP oP cP dP l K) else (Tc how b0 b1 l kP K (([]:List ByteArray)++ord) r_227.1 r_227.2.1 r_227.2.2.1 r_227.2.2.2 hP oP cP dP 0 ([]:List (ByteArray×ByteArray)) ([]:List (ByteArray×ByteArray)))) l (Wi w4 (KS hP oP cP dP)):=by
 obtain ⟨A5,p1,a1,x1,d1,y1,z1⟩:=Ze6 hW hp hw Xs (by decide)
 rw [a1,Option.bind_some,Wi]
 by_cases hi:Yk 4 Xs w4=true
 ·have m1:=Vg 4 Xs w4
  have m2:=Zd4 hi
  rw [y1 hi,if_pos (by rfl),if_pos hi]
  have:=hG A5 p1 (Zm 4 Xs w4) hP oP cP dP l (by omega) x1 d1 (ho hi) (by omega)
  rw [y1 hi] at this
  exact this
 ·obtain ⟨b,g1⟩:=z1 (Bool.eq_false_iff.2 hi)
  have d2:W5 W A5 []:=by rw [Zm,if_neg hi] at d1;exact d1
  obtain ⟨A6,p2,a2,x2,d3,y2,z2⟩:=Ze6 hW x1 d2 Xs (by decide)
  obtain ⟨b',g2⟩:=z2 rfl
  rw [if_neg (by rw [g1];exact fun e=>by cases e),Tc,a2,Option.bind_some,g2,if_pos (by rfl),if_neg hi]
  exact ⟨b',rfl⟩
end
theorem Ziv (K:List Tk→Option (List Xb)):Wi [] K=none:=rfl
theorem Z1e (ws:List ByteArray):Zt ws []=[]:=rfl
theorem Zs2 {ws:List ByteArray} {w:List Tk} (h0:ws≠[]) (h:∀ x ∈ ws,Yl ws w≠x):Zt ws w=[]:=by
 rw [Zt,if_neg]
 intro e
 cases w with
 | nil=>cases e
 | cons x r=>
  have h2:=e
  rw [Zbi,decide_eq_false h0,Bool.false_or,Bool.and_eq_true] at h2
  refine h _ (Zsj.1 h2.2) ?_
  rw [Yl,if_pos e];rfl
theorem fF:¬ (false=true):=by decide
theorem Zyw {l:List ByteArray} (h:l.length≤1048579):Zhq l=some (([]:List ByteArray)++l):=by
 rw [Zhq,Xx]
 simp only [List.length_nil,maxLen];omega
section
variable {kP:KPq} {K:Int} {KS:Int→List ByteArray→Bool→Bool→List Tk→Option (List Xb)} {A1:AS} {p:SP} {w:List Tk} {N G:Nat} (hW:U6 W late) (hN:1048577<N) (hM:1048577<G) (hG:Zqq W late kP K KS w.length) (hp:Wh W late p A1) (hw:W5 W A1 w) (hz:w.length≤1048577)
include hW hN hM hG hp hw hz
def Uf (G:Nat) (KS:Int→List ByteArray→Bool→Bool→List Tk→Option (List Xb)) (how:Int) (ord:List ByteArray) (c0 c1:Bool) (w:List Tk):Option (List Xb):=
  if Yl [Z3,Xa,Xc,Xd,Xg] w=Z3 then
   (if Yl [Yr,Yq,Y3] (Zt [Z3,Xa,Xc,Xd,Xg] w)=Yr then Wi (Zt [Yr,Yq,Y3] (Zt [Z3,Xa,Xc,Xd,Xg] w)) (KS 1 [] c0 c1)
   else if Yl [Yr,Yq,Y3] (Zt [Z3,Xa,Xc,Xd,Xg] w)=Yq then Wi (Zt [Yr,Yq,Y3] (Zt [Z3,Xa,Xc,Xd,Xg] w)) (KS 2 [] c0 c1)
   else Wi (Ww G (Zt [Yr,Yq,Y3] (Zt [Z3,Xa,Xc,Xd,Xg] w))).2 (KS 3 (Ww G (Zt [Yr,Yq,Y3] (Zt [Z3,Xa,Xc,Xd,Xg] w))).1 c0 c1))
  else if Yl [Z3,Xa,Xc,Xd,Xg] w=Xa then
   (if Yl [Wz,Y9] (Zt [Z3,Xa,Xc,Xd,Xg] w)=Y9 then Wi (Zt [W7,V3] (Zt [Wz,Y9] (Zt [Z3,Xa,Xc,Xd,Xg] w))) (KS how ord c0 (decide (Yl [W7,V3] (Zt [Wz,Y9] (Zt [Z3,Xa,Xc,Xd,Xg] w))=W7)))
   else Wi (Zt [W7,V3] (Zt [Wz,Y9] (Zt [Z3,Xa,Xc,Xd,Xg] w))) (KS how ord (decide (Yl [W7,V3] (Zt [Wz,Y9] (Zt [Z3,Xa,Xc,Xd,Xg] w))=W7)) c1))
  else if Yl [Z3,Xa,Xc,Xd,Xg] w=Xc then
   (if S2 (Zt [Z3,Xa,Xc,Xd,Xg] w)=4 then Wi (Zt [Z3,Xa,Xc,Xd,Xg] w) (fun v=>T9 (1,[],[],how,ord,(c0,c1)) (KS how ord c0 c1 v))
   else Wi (Xj G (Zt [Z3,Xa,Xc,Xd,Xg] w)).2 (fun v=>T9 (1,(Xj G (Zt [Z3,Xa,Xc,Xd,Xg] w)).1,[],how,ord,(c0,c1)) (KS how ord c0 c1 v)))
  else if Yl [Z3,Xa,Xc,Xd,Xg] w=Xd then
   Wi (Yc G (Xj G (Zt [Z3,Xa,Xc,Xd,Xg] w)).2).2 (fun v=>T9 (2,(Xj G (Zt [Z3,Xa,Xc,Xd,Xg] w)).1,(Yc G (Xj G (Zt [Z3,Xa,Xc,Xd,Xg] w)).2).1,how,ord,(c0,c1)) (KS how ord c0 c1 v))
  else Wi (Yc G (Zm 1 eB (Zt [Z3,Xa,Xc,Xd,Xg] w))).2 (fun v=>T9 (3,[(Yv 1 eB (Zt [Z3,Xa,Xc,Xd,Xg] w),⟨#[]⟩)],(Yc G (Zm 1 eB (Zt [Z3,Xa,Xc,Xd,Xg] w))).1,how,ord,(c0,c1)) (KS how ord c0 c1 v))
omit hW hN hM hG hp hw hz in
theorem Zdh (G f k:Nat) (how:Int) (ord:List ByteArray) (c0 c1:Bool) (w:List Tk):Vs G (f+1) k how ord c0 c1 w=if S2 w=0 then some [] else if 4096<k+1 then none else Uf G (Vs G f (k+1)) how ord c0 c1 w:=by rw [Vs];rfl
theorem Zqw (how:Int) (ord:List ByteArray) (b0 b1:Bool) (l:List Xb) (ho:ord.length≤1048579) (hl:l.length+w.length≤1048578):
  Zam (Zep N how ord b0 b1 l kP p.1 p.2.1 p.2.2.1 p.2.2.2 K) l (Uf G KS how ord b0 b1 w):=by
 obtain ⟨A2,p2,a2,x2,d2⟩:=Zk9 hW hp hw [Z3,Xa,Xc,Xd,Xg]
 have m2:=Zlk [Z3,Xa,Xc,Xd,Xg] w
 have hno:=Zs2 (ws:=[Z3,Xa,Xc,Xd,Xg]) (w:=w) (by decide)
 rw [Zep,Zyw ho,Option.bind_some,a2,Option.bind_some,Uf]
 dsimp only
 generalize Zt [Z3,Xa,Xc,Xd,Xg] w=w2 at *
 generalize Yl [Z3,Xa,Xc,Xd,Xg] w=T at *
 clear a2
 by_cases t1:T=Z3
 ·-- use
  rw [decide_eq_true t1,if_pos rfl,if_pos t1]
  obtain ⟨A3,p3,a3,x3,d3⟩:=Zk9 hW x2 d2 [Yr,Yq,Y3]
  have m3:=Zlk [Yr,Yq,Y3] w2
  have hno2:=Zs2 (ws:=[Yr,Yq,Y3]) (w:=w2) (by decide)
  rw [a3,Option.bind_some]
  dsimp only
  generalize Zt [Yr,Yq,Y3] w2=w3 at *
  generalize Yl [Yr,Yq,Y3] w2=T2 at *
  clear a3
  by_cases u1:T2=Yr
  ·rw [decide_eq_true u1,if_pos rfl,if_pos u1]
   exact Zd1 hW hG (by omega) x3 d3 how ord b0 b1 l 1 [] b0 b1 (fun _=>by simp) hl
  ·rw [decide_eq_false u1,if_neg fF,if_neg u1]
   by_cases u2:T2=Yq
   ·rw [decide_eq_true u2,if_pos rfl,if_pos u2]
    exact Zd1 hW hG (by omega) x3 d3 how ord b0 b1 l 2 [] b0 b1 (fun _=>by simp) hl
   ·rw [decide_eq_false u2,if_neg fF,if_neg u2]
    obtain ⟨A4,p4,i1,i2,i3⟩:=Z1l hW hN hM (by omega) x3 d3
    have m4:=Zs8 G w3
    by_cases u3:T2=Y3
    ·rw [decide_eq_true u3,if_pos rfl,i1,Option.bind_some]
     exact Zd1 hW hG (by omega) i2 i3 how ord b0 b1 l 3 (Ww G w3).1 b0 b1 (fun _=>by omega) hl
    ·rw [decide_eq_false u3,if_neg fF]
     have h3:w3=[]:=hno2 fun x hx=>by
      rcases List.mem_cons.1 hx with rfl | hx
      ·exact u1
      ·rcases List.mem_cons.1 hx with rfl | hx
       ·exact u2
       ·rw [List.mem_singleton.1 hx];exact u3
     have h3l:w3.length=0:=by rw [h3];rfl
     have e1:(Ww G w3).2=[]:=List.length_eq_zero_iff.1 (by omega)
     rw [e1,Ziv]
     have:=Zd1 hW hG (by omega) x3 d3 how ord b0 b1 l how [] b0 b1 (fun _=>by simp) hl
     rw [h3,Ziv] at this
     exact this
 ·rw [decide_eq_false t1,if_neg fF,if_neg t1]
  by_cases t2:T=Xa
  ·-- prune
   rw [decide_eq_true t2,if_pos rfl,if_pos t2]
   obtain ⟨A3,p3,a3,x3,d3⟩:=Zk9 hW x2 d2 [Wz,Y9]
   obtain ⟨A4,p4,a4,x4,d4⟩:=Zk9 hW x3 d3 [W7,V3]
   have m3:=Zlk [Wz,Y9] w2
   have m4:=Zlk [W7,V3] (Zt [Wz,Y9] w2)
   rw [a3,Option.bind_some]
   dsimp only
   generalize Yl [Wz,Y9] w2=T2 at *
   generalize Zt [Wz,Y9] w2=w3 at *
   generalize Yl [W7,V3] w3=T3 at *
   generalize Zt [W7,V3] w3=w4 at *
   by_cases u1:T2=Y9
   ·rw [decide_eq_true u1,if_pos rfl,if_pos u1,a4,Option.bind_some]
    exact Zd1 hW hG (by omega) x4 d4 how ord b0 b1 l how ord b0 _ (fun _=>ho) hl
   ·rw [decide_eq_false u1,if_neg fF,if_neg u1,a4,Option.bind_some]
    exact Zd1 hW hG (by omega) x4 d4 how ord b0 b1 l how ord _ b1 (fun _=>ho) hl
  ·rw [decide_eq_false t2,if_neg fF,if_neg t2]
   by_cases t3:T=Xc
   ·-- chance
    rw [decide_eq_true t3,if_pos rfl,if_pos t3]
    obtain ⟨p3,a3,x3,_⟩:=Zf9 hW x2
    rw [a3,Option.bind_some]
    dsimp only
    rw [Zu8 d2]
    by_cases k1:S2 w2=4
    ·rw [decide_eq_true k1,if_neg (by decide),if_pos k1]
     exact Zf0 hW hG (by omega) x3 d2 how ord b0 b1 l 1 [] [] ho hl
    ·obtain ⟨A',sp',i1,i2,i3⟩:=Zlr hW (N:=N) 1048577 A2 p3 w2 [] N G (by omega) x3 d2 (by simp;omega) (by omega) (by omega)
     have m3:=Zbo G w2
     rw [decide_eq_false k1,if_pos (by decide),if_neg k1,Za9]
     dsimp only
     rw [i1,Option.bind_some]
     exact Zf0 hW hG (by omega) i2 i3 how ord b0 b1 l 1 _ [] ho hl
   ·rw [decide_eq_false t3,if_neg fF,if_neg t3]
    by_cases t4:T=Xd
    ·-- ask
     rw [decide_eq_true t4,if_pos rfl,if_pos t4]
     obtain ⟨A',sp',i1,i2,i3⟩:=Zlr hW (N:=N) 1048577 A2 p2 w2 [] N G (by omega) x2 d2 (by simp;omega) (by omega) (by omega)
     have m3:=Zbo G w2
     obtain ⟨A3,sp3,j1,j2,j3⟩:=Zrx hW (N:=N) (G:=G) (by omega) (by omega) (by omega) i2 i3
     have m4:=Ziy G (Xj G w2).2
     rw [Za9]
     dsimp only
     rw [i1,Option.bind_some]
     dsimp only
     rw [j1,Option.bind_some]
     exact Zf0 hW hG (by omega) j2 j3 how ord b0 b1 l 2 _ _ ho hl
    ·rw [decide_eq_false t4,if_neg fF,if_neg t4]
     obtain ⟨A3,p3,a3,x3,d3⟩:=Zht hW x2 d2
     have m3:=Vg 1 eB w2
     obtain ⟨A4,p4,j1,j2,j3⟩:=Zrx hW (N:=N) (G:=G) (by omega) (by omega) (by omega) x3 d3
     have m4:=Ziy G (Zm 1 eB w2)
     by_cases t5:T=Xg
     ·-- all
      rw [decide_eq_true t5,if_pos rfl,a3,Option.bind_some]
      dsimp only
      rw [j1,Option.bind_some]
      exact Zf0 hW hG (by omega) j2 j3 how ord b0 b1 l 3 _ _ ho hl
     ·rw [decide_eq_false t5,if_neg fF]
      have h2:w2=[]:=hno fun x hx=>by
       rcases List.mem_cons.1 hx with rfl | hx
       ·exact t1
       ·rcases List.mem_cons.1 hx with rfl | hx
        ·exact t2
        ·rcases List.mem_cons.1 hx with rfl | hx
         ·exact t3
         ·rcases List.mem_cons.1 hx with rfl | hx
          ·exact t4
          ·rw [List.mem_singleton.1 hx];exact t5
      have h2l:w2.length=0:=by rw [h2];rfl
      have e1:(Yc G (Zm 1 eB w2)).2=[]:=List.length_eq_zero_iff.1 (by omega)
      rw [e1,Ziv]
      have:=Zf0 hW hG (by omega) x2 d2 how ord b0 b1 l 0 [] [] ho hl
      rw [h2,Ziv] at this
      exact this
end
theorem Ztf (hW:U6 W late) {N G:Nat} (hN:1048577<N) (hM:1048577<G):∀ (m:Nat) (A:AS) (p:SP) (w:List Tk) (how:Int) (ord:List ByteArray) (c0 c1:Bool) (l:List Xb) (k:Nat) (f g:Nat),
  w.length≤m→m≤1048577→Wh W late p A→W5 W A w→ord.length≤1048579→l.length+w.length≤1048578→k≤4096→m<f→m<g→
  Zam (T6 N f p.1 p.2.1 p.2.2.1 p.2.2.2 how ord c0 c1 l (k:Int)) l (Vs G g k how ord c0 c1 w)
 | m,A,p,w,how,ord,c0,c1,l,k,0,g,hm,hm2,hp,hw,ho,hl,hk,hf,hg=>by omega
 | m,A,p,w,how,ord,c0,c1,l,k,f+1,0,hm,hm2,hp,hw,ho,hl,hk,hf,hg=>by omega
 | m,A,p,w,how,ord,c0,c1,l,k,f+1,g+1,hm,hm2,hp,hw,ho,hl,hk,hf,hg=>by
  obtain ⟨p1,a1,x1,_⟩:=Zf9 hW hp
  have hwr:i64.wrap ((k:Int)+1)=((k+1:Nat):Int):=by rw [Yw (by omega)];rfl
  rw [T6.eq_2,a1,Option.bind_some,Zdh,hwr]
  dsimp only
  rw [Zu8 hw]
  by_cases hend:S2 w=0
  ·rw [decide_eq_true hend,if_neg (by decide),if_pos hend]
   show _=some (l++[],none)
   rw [List.append_nil]
  ·rw [decide_eq_false hend,if_pos (show (!false)=true from rfl),if_neg hend]
   by_cases hc:4096<k+1
   ·obtain ⟨p2,a2,x2,_⟩:=Znl hW x1
    rw [if_pos (decide_eq_true (by omega)),a2,Option.bind_some,if_pos hc]
    have:=Zqw (KS:=fun _ _ _ _ _=>none) (kP:=T6 N f) (K:=((k+1:Nat):Int)) hW hN hM (fun A' q w' how' ord' e0 e1 l' hlt _ _ _ _=>absurd hlt (Nat.not_lt_zero _)) x2 (Zql hw) (by simp) how ord c0 c1 l ho (by simp;omega)
    have e:Uf G (fun _ _ _ _ _=>none) how ord c0 c1 []=none:=by
     rw [Uf,Z1e]
     have hX:Yl [Z3,Xa,Xc,Xd,Xg] []=⟨#[]⟩:=rfl
     rw [hX,if_neg (by decide),if_neg (by decide),if_neg (by decide),if_neg (by decide)]
     rfl
    rw [e] at this
    exact this
   ·rw [if_neg (nd (by omega)),if_neg hc]
    refine Zqw hW hN hM (fun A' q w' how' ord' e0 e1 l' hlt hq hw' ho' hl'=>?_) x1 hw (by omega) how ord c0 c1 l ho hl
    exact Ztf hW hN hM (m - 1) A' q w' how' ord' e0 e1 l' (k+1) f g (by omega) (by omega) hq hw' ho' hl' (by omega) (by omega) (by omega)
theorem Zut (late:Option Y4):∀ (l:List Y1) (acc:List Y1),acc.length+l.length≤1048579→
  Q6 (l.map (fun x=>(x,none))++Zf1 late) acc none 0 none=some (some (acc++l,late,0,none))
 | [],acc,h=>by
  cases late with
  | none=>rw [List.map_nil,List.nil_append,Zf1,Q6.eq_1,List.append_nil]
  | some e=>rw [List.map_nil,List.nil_append,Zf1,Q6.eq_2,List.append_nil];rfl
 | x :: l,acc,h=>by
  rw [List.length_cons] at h
  rw [List.map_cons,List.cons_append,Q6.eq_2]
  show Zr _ _=_
  have hc:(acc.length+[x].length) * 40≤140737488355328∧acc.length+[x].length≤maxLen:=by
   have:[x].length=1:=rfl
   rw [this];simp only [maxLen];omega
  refine (Xx hc).trans ?_
  have:=Zut late l (acc++[x]) (by rw [List.length_append];simp only [List.length_cons,List.length_nil];omega)
  rw [List.append_assoc] at this
  exact this
theorem Ztg {N:Nat} {t:ByteArray} (ht:t.size≤1048576) (hN:1048590<N) {l:List Y1} {f:Option Y4} (hL:Up t 0 (1,1) l f):
  Zam (So N t) [] (Vs 1048580 1048580 0 1 [] false false (V2 l)):=by
 have ht':t.size≤33554432:=by omega
 obtain ⟨f1,f2,f3⟩:=hL.facts (by omega)
 have hW:U6 l f:=⟨by omega,f2⟩
 rw [So,Zkk,Z0q ht' (by omega) (by omega) hL (by omega),Option.bind_some,Zut f l [] (by simp;omega),Option.bind_some]
 rw [List.nil_append]
 have hA:∃ A:AS,Wh l f (l,f,((0:Nat):Int),none) A∧W5 l A (V2 l):=by
  rcases Nat.eq_zero_or_pos l.length with h | h
  ·have hs:f.isSome=true:=by
    cases f with
    | some x=>rfl
    | none=>
     obtain ⟨x,hx,_⟩:=f2 rfl
     have:l=[]:=List.length_eq_zero_iff.1 h
     rw [this] at hx;cases hx
   refine ⟨.error (Zns f),⟨rfl,0,by omega,.inr ⟨rfl,by omega,hs,rfl⟩⟩,?_⟩
   rw [List.length_eq_zero_iff.1 h];exact rfl
  ·exact ⟨.ok 0,⟨rfl,h⟩,(List.drop_zero).symm,h⟩
 obtain ⟨A,hp,hw⟩:=hA
 have hlen:(V2 l).length≤1048577:=by rw [Zqg];omega
 exact Ztf hW (N:=N) (G:=1048580) (by omega) (by omega) 1048577 A _ (V2 l) 1 [] false false [] 0 N 1048580 hlen (by omega) hp hw (by simp) (by simp;omega) (by omega) (by omega) (by omega)
def S5 (v_29:Bool):Option Bool:=
  some v_29
def Zgj (N:Nat) (p0_s:ByteArray):Option Bool:=
  if (!decide (p0_s=(⟨#[]⟩)))=true then (if (decide ((p0_s.size:Int)≤64))=true then ((Wd p0_s 0).bind fun e_32=>(Qx e_32).bind fun r_34=>if r_34=true then ((Za2 N p0_s 0).bind fun r_39=>S5 (decide (r_39=(p0_s.size:Int)))) else (S5 false)) else (S5 false)) else (S5 false)
theorem Zxa {N:Nat} {col:Zc} {w0:World} {p0_s:ByteArray} {r:Bool} (hm:Zgj N p0_s=some r):
    Calls prog 52 #[.string p0_s] w0 (fun e w'=>e= .returned ((.bool r))∧Below w0.heap.size w0 w'):=by
 refine Zz 2 (m:=22) func52 O O O O O ?_;rw [Zgj.eq_1] at hm;have hst:=St.start col w0;refine Zn<|Yg<|Qv O<|Zh<|Zn ?_;refine Wp.cutK [1000000] (fun f w_27=>∃ col_28 v_29,S5 v_29=some r∧St w0 (Zi col) col_28 w_27∧[2].map f=[.bool v_29]) ?_ ?_
 ·intro f w_27 hJ;obtain ⟨col_28,v_29,hm,hst,hs⟩:=hJ;rw [S5.eq_1] at hm;refine .lL [2] hs<|W3 ?_;cases hm;exact ⟨O,O,hst.below⟩
 refine go ?_;refine Z6 hm (fun hg_30 hm=>go ?_) fun hg_30 hm=>go ?_
 ·refine lV (.bool (decide ((p0_s.size:Int)≤64))) (Zw (congrArg Value.bool hg_30) O)<|Xw O ?_;refine Z6 hm (fun hg_31 hm=>go ?_) fun hg_31 hm=>go ?_
  ·obtain ⟨e_32,hj_33,hm⟩:=bZ hm;refine lV (.int .u8 e_32) (V9 (s:=p0_s) underlying9 O O hj_33)<|go ?_;obtain ⟨r_34,hr_35,hm⟩:=bZ hm;refine Zf (Zij (col:=(Zi col)) hr_35) ?_;rintro _ w_36 ⟨rfl,hg_37⟩;refine ⟨_,O,?_⟩;replace hg_37:Zg (Zi col) w0 (Zi col) w_36:=.of_below hg_37;refine lV (.bool r_34) (Zw (congrArg Value.bool hg_31) O)<|Xw O ?_;replace hst:=hst.grow hg_37;refine Z6 hm (fun hg_38 hm=>go ?_) fun hg_38 hm=>go ?_
   ·obtain ⟨r_39,hr_40,hm⟩:=bZ hm;refine Zf (Zm3 (col:=(Zi col)) hr_40) ?_;rintro _ w_41 ⟨rfl,hg_42⟩;refine ⟨_,O,?_⟩;replace hg_42:Zg (Zi col) w_36 (Zi col) w_41:=.of_below hg_42;refine go ?_;refine lV (.bool (decide (r_39=(p0_s.size:Int)))) (Zw (congrArg Value.bool hg_38) O)<|go ?_;replace hst:=hst.grow hg_42;exact ⟨O,_,_,hm,hst,O⟩
   refine lV (.bool false) (Zx (congrArg Value.bool hg_38) O)<|go ?_;exact ⟨O,_,_,hm,hst,O⟩
  refine lV (.bool false) (Zx (congrArg Value.bool hg_31) O)<|Xw O<|lP 15 O O<|lP 15 O O<|lP 15 O O<|lP 15 O O<|lP 15 O O<|lV (.bool false) (Zx O O)<|go ?_;exact ⟨O,_,_,hm,hst,O⟩
 refine lV (.bool false) (Zx (congrArg Value.bool hg_30) O)<|Xw O<|lP 10 O O<|lP 10 O O<|lP 10 O O<|lV (.bool false) (Zx O O)<|Xw O<|lP 15 O O<|lP 15 O O<|lP 15 O O<|lP 15 O O<|lP 15 O O<|lV (.bool false) (Zx O O)<|go ?_;exact ⟨O,_,_,hm,hst,O⟩
def Yo (s:ByteArray):Bool:=decide (1≤s.size)&&decide (s.size≤64)&&Vy ((Ze s).headD 0)&&decide (Z9 Xl (Ze s)=s.size)
theorem Z0t {N:Nat} {s:ByteArray} (hs:s.size≤1099511627776) (hN:s.size<N):Zgj N s=some (Yo s):=by
 rw [Zgj,Yo]
 by_cases h0:1≤s.size
 ·rw [if_pos (by rw [decide_eq_false (fun e=>by rw [e] at h0;exact absurd h0 (by decide))];decide),decide_eq_true h0,Bool.true_and]
  by_cases h1:s.size≤64
  ·rw [if_pos (decide_eq_true (by omega)),Zi0 h0,Option.bind_some,Zja,Option.bind_some,decide_eq_true h1,Bool.true_and]
   cases h2:Vy ((Ze s).headD 0) with
   | true=>
    have h3:=Znw (N:=N) hs (at_:=0) (by omega) hN
    rw [List.drop_zero] at h3
    rw [if_pos rfl,show (0:Int)=((0:Nat):Int) from rfl,h3,Option.bind_some,S5,Bool.true_and]
    congr 1
    exact decide_eq_decide.2 ⟨fun h=>by omega,fun h=>by omega⟩
   | false=>rw [if_neg (by decide),S5];rfl
  ·rw [if_neg (by rw [decide_eq_false (by omega)];decide),S5,decide_eq_false h1];rfl
 ·have:s=⟨#[]⟩:=Z2h (by omega)
  rw [if_neg (by rw [decide_eq_true this];decide),S5,decide_eq_false h0];rfl
theorem Z20 {s:ByteArray} (h:(Yu s).2.1.1=1):Vy ((Ze s).headD 0)=true∧Z9 Xl (Ze s)≤64∧Yu s=(Z9 Xl (Ze s),(1,s.extract 0 (Z9 Xl (Ze s))),(0,⟨#[]⟩)):=by
 rw [Yu] at h ⊢
 split at h
 ·rename_i c1
  split at h
  ·exact absurd h (by show ¬ (0:Int)=1;decide)
  ·rename_i c2
   rw [if_pos c1,if_neg c2]
   exact ⟨c1,by omega,rfl⟩
 ·split at h
  ·split at h
   ·exact absurd h (by show ¬ (0:Int)=1;decide)
   ·exact absurd h (by show ¬ (2:Int)=1;decide)
  ·split at h
   ·split at h
    ·exact absurd h (by show ¬ (0:Int)=1;decide)
    ·exact absurd h (by show ¬ (3:Int)=1;decide)
   ·split at h
    ·exact absurd h (by show ¬ (4:Int)=1;decide)
    ·exact absurd h (by show ¬ (0:Int)=1;decide)
theorem Zu3 {B:Int→Bool}:∀ {l:List Int},(∀ x ∈ l,B x=true)→l.takeWhile B=l
 | [],_=>rfl
 | x :: l,h=>by rw [List.takeWhile_cons,if_pos (h x List.mem_cons_self),Zu3 fun y hy=>h y (List.mem_cons_of_mem _ hy)]
theorem Z06 {s:ByteArray} (h:Vy ((Ze s).headD 0)=true) (h2:Z9 Xl (Ze s)≤64):Yo (s.extract 0 (Z9 Xl (Ze s)))=true:=by
 have hl:=Xu s
 have hr:=Zfj Xl (Ze s)
 have hx:Ze (s.extract 0 (Z9 Xl (Ze s)))=(Ze s).takeWhile Xl:=by rw [Zug,Zqc]
 have hz:(s.extract 0 (Z9 Xl (Ze s))).size=Z9 Xl (Ze s):=by rw [ByteArray.size_extract];omega
 have hne:Ze s≠[]:=fun e=>by rw [e] at h;exact absurd h (by decide)
 have h1:1≤Z9 Xl (Ze s):=Zi1 (by rw [Xl,h];rfl) hne
 have hh:((Ze s).takeWhile Xl).headD 0=(Ze s).headD 0:=by
  cases hs:Ze s with
  | nil=>exact absurd hs hne
  | cons c r=>
   rw [hs] at h
   have hc:Xl c=true:=by rw [Xl,show Vy c=true from h];rfl
   rw [List.takeWhile_cons,if_pos hc];rfl
 have hrr:Z9 Xl ((Ze s).takeWhile Xl)=Z9 Xl (Ze s):=by
  rw [Z9,Zu3 fun x hx=>List.all_eq_true.1 List.all_takeWhile x hx];rfl
 rw [Yo,hx,hh,h,hrr,hz,decide_eq_true h1,decide_eq_true h2,decide_eq_true rfl];rfl
theorem Zpt:∀ (xs:List Int) (p:Nat×List Int),Vd xs=some p→p.2.length≤p.1
 | [],p,h=>by rw [Vd] at h;cases h
 | c :: [],p,h=>by
  rw [Zps] at h
  split at h
  ·cases h;simp
  ·split at h
   ·cases h
   ·split at h
    ·cases h
    ·rw [Vd] at h;cases h
 | c :: d :: r,p,h=>by
  rw [Zps] at h
  split at h
  ·cases h;simp
  ·split at h
   ·cases h
   ·split at h
    ·dsimp only at h
     split at h
     ·obtain ⟨q,hq,rfl⟩:=Option.map_eq_some_iff.1 h
      have:=Zpt r q hq
      simp only [List.length_cons];omega
     ·cases h
    ·obtain ⟨q,hq,rfl⟩:=Option.map_eq_some_iff.1 h
     have:=Zpt (d :: r) q hq
     simp only [List.length_cons];omega
theorem Z21 {s:ByteArray} (hc:(Yu s).2.2.1=0):(Yu s).2.1.2.size≤(Yu s).1:=by
 rw [Yu] at hc ⊢
 have hx:∀ n,(s.extract 0 n).size≤n:=fun n=>by rw [ByteArray.size_extract];omega
 split at hc
 ·rename_i c1
  rw [if_pos c1]
  split at hc
  ·exact absurd hc (by show ¬ (20:Int)=0;decide)
  ·rename_i c2
   rw [if_neg c2];exact hx _
 ·rename_i c1
  rw [if_neg c1]
  split at hc
  ·rename_i c2
   rw [if_pos c2]
   split at hc
   ·exact absurd hc (by show ¬ (22:Int)=0;decide)
   ·rename_i c3
    rw [if_neg c3];exact hx _
  ·rename_i c2
   rw [if_neg c2]
   split at hc
   ·rename_i c3
    rw [if_pos c3]
    cases hq:Vd ((Ze s).drop 1) with
    | none=>rw [hq] at hc;exact absurd hc (by show ¬ (21:Int)=0;decide)
    | some p=>
     obtain ⟨r1,r2,r3,r4⟩:=Zhw _ p (fun x hx=>Zbt (List.mem_of_mem_drop hx)) hq
     have h1:=Zpt _ p hq
     show (Vl p.2).size≤1+p.1
     rw [← Xu,Zue r1];omega
   ·rename_i c3
    rw [if_neg c3]
    split at hc
    ·rename_i c4
     rw [if_pos c4];exact hx _
    ·exact absurd hc (by show ¬ (20:Int)=0;decide)
theorem Zwo {b:Int} (h:V6 b=true):Vy b=false∧X7 b=false∧Xl b=false∧b≠46∧b≠101∧b≠69∧b≠47∧b≠42:=by
 have:=of_decide_eq_true h
 simp only [List.mem_cons,List.not_mem_nil,or_false] at this
 rcases this with rfl | rfl | rfl | rfl <;> decide
section
variable {t:ByteArray} {a':Nat} {p':Int×Int} {ok:Bool}
theorem Zwm (g r:List Int) {a:Nat} {p:Int×Int} (hg:g≠[]) (h:(Ze t).drop a=g++r) (hk:Tj (g++r)=some g.length) (hr:Wv t (a+g.length) (plc g p) ok a' p'):Wv t a p ok a' p':=by
 have hl:=congrArg List.length h
 rw [List.length_drop,Xu,List.length_append] at hl
 have hp:0<g.length:=List.length_pos_iff.2 hg
 refine .skip (k:=g.length) (by omega) (by rw [h];exact hk) hp (by omega) ?_
 rw [h,List.take_left];exact hr
theorem Zwl (b:Int) (r:List Int) {a:Nat} {p:Int×Int} (hb:V6 b=true) (h:(Ze t).drop a=b :: r) (hr:Wv t (a+1) (plc [b] p) ok a' p'):Wv t a p ok a' p':=by
 refine Zwm [b] r (by simp) h ?_ hr
 obtain ⟨_,_,_,_,_,_,b7,_⟩:=Zwo hb
 rw [Tj,if_neg (fun e=>b7 (Option.some.inj e.1)),if_neg (fun e=>b7 (Option.some.inj e.1)),if_pos (show V6 (([b]++r).headD 0)=true from hb)];rfl
theorem Znk {a:Nat} {g r:List Int} (h:(Ze t).drop a=g++r):(Ze t).drop (a+g.length)=r:=by
 rw [← List.drop_drop,h,List.drop_left]
theorem Zqv:∀ (g r:List Int) {a:Nat} {p:Int×Int},(∀ c ∈ g,V6 c=true)→(Ze t).drop a=g++r→Wv t (a+g.length) (plc g p) ok a' p'→Wv t a p ok a' p'
 | [],r,a,p,_,h,hr=>hr
 | b :: g,r,a,p,hb,h,hr=>by
  refine Zwl b (g++r) (hb b List.mem_cons_self) h ?_
  refine Zqv g r (fun c hc=>hb c (List.mem_cons_of_mem _ hc)) (Znk (g:=[b]) h) ?_
  rw [List.length_cons] at hr
  rw [show a+1+g.length=a+(g.length+1) by omega]
  exact hr
end
abbrev Yj:=Int×List Int×List Int
def Yz:List Yj→List Int
 | []=>[]
 | x :: r=>x.2.1++(x.2.2++Yz r)
theorem Qk:∀ a b:List Yj,Yz (a++b)=Yz a++Yz b
 | [],b=>rfl
 | x :: a,b=>by rw [List.cons_append,Yz,Qk a b,Yz];simp [List.append_assoc]
def nmI (w:List Int):Prop:=w≠[]∧Vy (w.headD 0)=true∧(∀ c ∈ w,Xl c=true)∧w.length≤64
def U0 (l:List Int):Prop:=Xl (l.headD 0)=false
def Zmv (g:List Int):Prop:=∀ (t:ByteArray) (a:Nat) (r:List Int) (p:Int×Int) (ok:Bool) (a':Nat) (p':Int×Int),(Ze t).drop a=g++r→Wv t (a+g.length) (plc g p) ok a' p'→Wv t a p ok a' p'
theorem Zpp {g:List Int} (h:∀ c ∈ g,V6 c=true):Zmv g:=fun t a r p ok a' p' h1 h2=>Zqv g r h h1 h2
def W6:List Yj→Prop
 | []=>True
 | x :: r=>((x.1=1∧nmI x.2.1∧U0 (x.2.2++Yz r))∨(x.1=4∧∃ c,x.2.1=[c]∧Zdj c=true∧c≠47))∧Zmv x.2.2∧W6 r
def V0 (l:List Yj):List Tk:=l.map fun x=>(x.1,Vl x.2.1)
theorem Zqb {w r:List Int} (h:∀ c ∈ w,Xl c=true) (hr:U0 r):Z9 Xl (w++r)=w.length:=by
 induction w with
 | nil=>
  cases r with
  | nil=>rfl
  | cons c r=>rw [List.nil_append,Zdg,if_neg (by rw [show Xl c=false from hr];decide)];rfl
 | cons c w ih=>
  rw [List.cons_append,Zdg,if_pos (h c List.mem_cons_self),ih fun x hx=>h x (List.mem_cons_of_mem _ hx),List.length_cons]
theorem Z2g {c:Int} (h:Zdj c=true):Vy c=false∧X7 c=false∧Xl c=false∧c≠34∧V6 c=false:=by
 have:=of_decide_eq_true h
 simp only [Zuc,List.mem_cons,List.not_mem_nil,or_false] at this
 rcases this with rfl | rfl | rfl | rfl | rfl | rfl | rfl | rfl | rfl | rfl | rfl | rfl | rfl | rfl <;> decide
theorem Z0n {c:Int} (h:Vy c=true):c≠47∧V6 c=false:=by
 refine ⟨fun e=>by subst e;exact absurd h (by decide),?_⟩
 cases hb:V6 c with
 | false=>rfl
 | true=>
  have:=of_decide_eq_true hb
  simp only [List.mem_cons,List.not_mem_nil,or_false] at this
  rcases this with rfl | rfl | rfl | rfl <;> exact absurd h (by decide)
theorem Zuj {c:Int} {r:List Int} (h:c≠47) (hb:V6 c=false):Tj (c :: r)=some 0:=by
 rw [Tj,if_neg (fun e=>h (Option.some.inj e.1)),if_neg (fun e=>h (Option.some.inj e.1)),if_neg (by show ¬ V6 c=true;rw [hb];decide)]
theorem Z22 {s:ByteArray} {k:Int} {w g r:List Int} (h:(k=1∧nmI w∧U0 (g++r))∨(k=4∧∃ c,w=[c]∧Zdj c=true∧c≠47)) (hs:Ze s=w++(g++r)):
  Yu s=(w.length,(k,Vl w),(0,⟨#[]⟩))∧Tj (Ze s)=some 0∧w≠[]:=by
 have hx:s.extract 0 w.length=Vl w:=by
  rw [← Zft (s.extract 0 w.length),Zug,hs,List.take_left]
 rcases h with ⟨rfl,⟨h0,h1,h2,h3⟩,h4⟩ | ⟨rfl,c,rfl,h1,h2⟩
 ·obtain ⟨c,w',rfl⟩:∃ c w',w=c :: w':=by
   cases w with
   | nil=>exact absurd rfl h0
   | cons c w'=>exact ⟨c,w',rfl⟩
  have hr:=Zqb h2 h4
  obtain ⟨n1,n2⟩:=Z0n (show Vy c=true from h1)
  refine ⟨?_,by rw [hs];exact Zuj n1 n2,by simp⟩
  have hh:Vy ((Ze s).headD 0)=true:=by rw [hs];exact h1
  rw [Yu,if_pos hh,hs,hr,if_neg (by omega),hx]
 ·obtain ⟨s1,s2,s3,s4,s5⟩:=Z2g h1
  have hh:(Ze s).headD 0=c:=by rw [hs];rfl
  refine ⟨?_,by rw [hs];exact Zuj h2 s5,by simp⟩
  rw [Yu,hh,if_neg (by rw [s1];decide),if_neg (by rw [s2];decide),if_neg s4,if_pos h1]
  rw [show s.extract 0 1=Vl [c] from hx];rfl
theorem Zus {t:ByteArray}:∀ (sp:List Yj) (b:Nat) (q:Int×Int) (g:List Int),W6 sp→Zmv g→(Ze t).drop b=g++Yz sp→b≤t.size→
  ∃ l,Up t b q l none∧V2 l=V0 sp++[(0,⟨#[]⟩)]
 | [],b,q,g,hok,hg,hs,hb=>by
  have hl:=congrArg List.length hs
  rw [List.length_drop,Xu,Yz,List.append_nil] at hl
  refine ⟨_,.fin (p':=plc g q) ?_,rfl⟩
  refine hg t b [] q _ _ _ hs ?_
  rw [show b+g.length=t.size by omega]
  exact .fin rfl
 | x :: sp,b,q,g,hok,hg,hs,hb=>by
  obtain ⟨h1,h2,h3⟩:=hok
  rw [Yz] at hs
  have hd:=Znk hs
  have hl:=congrArg List.length hs
  rw [List.length_drop,Xu,List.length_append,List.length_append] at hl
  have hx:=Zbu t (b+g.length)
  obtain ⟨k1,k2,k3⟩:=Z22 (s:=t.extract (b+g.length) t.size) h1 (by rw [hx,hd])
  have k4:0<x.2.1.length:=List.length_pos_iff.2 k3
  rw [hx] at k2
  have hB:Wv t b q true (b+g.length) (plc g q):=hg t b _ q _ _ _ hs (.done (by omega) k2)
  have hd2:=Znk hd
  obtain ⟨l,i1,i2⟩:=Zus sp (b+g.length+x.2.1.length) (plc (((Ze t).drop (b+g.length)).take x.2.1.length) (plc g q)) x.2.2 h3 h2 hd2 (by omega)
  have ht:=Up.tok (t:=t) (a:=b) (p:=q) hB (by omega) (by rw [k1]) (l:=l) (f:=none) (by rw [k1];exact i1)
  rw [k1] at ht
  exact ⟨_,ht,by rw [V0,List.map_cons,List.cons_append];show (x.1,Vl x.2.1) :: V2 l=_;rw [i2];rfl⟩
theorem Z2q {t:ByteArray} {sp:List Yj} (h:W6 sp) (hs:Ze t=Yz sp):∃ l,Up t 0 (1,1) l none∧V2 l=V0 sp++[(0,⟨#[]⟩)]:=
 Zus sp 0 (1,1) [] h (Zpp fun c hc=>by cases hc) (by rw [List.drop_zero,hs];rfl) (Nat.zero_le _)
theorem Zri (col:Zc) (w0:World) (a0:Option Addr) (cap0:Nat) (p0_elems:List ByteArray) (p1_sep:ByteArray) (h0:Sl Za.str col w0 a0 cap0 p0_elems) (r:ByteArray) (hm:Zeb p0_elems p1_sep=some r):
    Calls prog 51 #[.slice a0 p0_elems.length cap0,.string p1_sep] w0 (fun e w'=>e= .returned ((.string r))∧Below w0.heap.size w0 w'):=
  Zz9 col w0 a0 cap0 p0_elems p1_sep h0 r hm
def Zez (p1_s:ByteArray) (w_3:Bool) (w_4:List Int) (w_8:Int) (w_9:Bool):Option (ByteArray×((Bool×List Int)×Int×Bool)):=
  some (p1_s,((w_3,w_4),w_8,w_9))
def Zbb (N:Nat) (p0_w:((Bool×List Int)×Int×Bool)) (p1_s:ByteArray):Option (ByteArray×((Bool×List Int)×Int×Bool)):=
  if p0_w.2.2=true then (Zez p1_s p0_w.1.1 p0_w.1.2 p0_w.2.1 true) else ((Zgj N p1_s).bind fun r_15=>Zez p1_s p0_w.1.1 p0_w.1.2 p0_w.2.1 (!r_15))
theorem Zim {N g0 cap0_2:Nat} {a0_2:Option Addr} {col:Zc} {w0:World} {p0_w:((Bool×List Int)×Int×Bool)} {p1_s:ByteArray} {r:(ByteArray×((Bool×List Int)×Int×Bool))} (qc0 qc0_1:Nat) (hm:Zbb N p0_w p1_s=some r) (hd:Yf [qc0,qc0_1]=true) (h0_2:Zb (Za.int .u8) 5 qc0_1 col w0 a0_2 cap0_2 p0_w.1.2) (hb0:Zd 84 qc0 col w0 g0 #[.pointer (bif p0_w.1.1 then some ⟨g0,0,none⟩ else none),.slice a0_2 p0_w.1.2.length cap0_2,.int .i64 p0_w.2.1,.bool p0_w.2.2]):
    Calls prog 35 #[.pointer (some ⟨g0,0,none⟩),.string p1_s] w0 (fun e w'=>∃ (col':Zc) (oa1:Option Addr) (oc2:Nat),e= .returned ((.string r.1))∧Zp (pS [qc0,qc0_1]) col w0 col' w'∧Zb (Za.int .u8) 5 qc0_1 col' w' oa1 oc2 r.2.1.2∧Zd 84 qc0 col' w' g0 #[.pointer (bif r.2.1.1 then some ⟨g0,0,none⟩ else none),.slice oa1 r.2.1.2.length oc2,.int .i64 r.2.2.1,.bool r.2.2.2]):=by
 refine Zz 4 (m:=18) func35 O O O O O ?_;rw [Zbb.eq_1] at hm;have hst:=St.startL (l:=[qc0,qc0_1]) O col w0;replace hb0:=hb0.startL (Yb hd 0 O) (Ya hd 0 O);replace h0_2:=h0_2.startL (Yb hd 1 O) (Ya hd 1 O);refine Zn<|Yg<|Zi4 O<|Zh<|Zn ?_;refine Wp.cutK [1,1000000] (fun f w_1=>∃ col_2 w_3 a_5 cap_6 w_4 w_8 w_9,Zez p1_s w_3 w_4 w_8 w_9=some r∧St w0 (Zv [qc0,qc0_1] col) col_2 w_1∧Zb (Za.int .u8) 5 441 col_2 w_1 a_5 cap_6 w_4∧Zd 84 440 col_2 w_1 g0 #[.pointer (bif w_3 then some ⟨g0,0,none⟩ else none),.slice a_5 w_4.length cap_6,.int .i64 w_8,.bool w_9]) ?_ ?_
 ·intro f w_1 hJ;obtain ⟨col_2,w_3,a_5,cap_6,w_4,w_8,w_9,hm,hst,h_7,hb0⟩:=hJ;rw [Zez.eq_1] at hm;refine go ?_;cases hm;exact ⟨O,Xv w0.heap.size [qc0,qc0_1] col col_2 (fun n=>bif Nat.beq n 441 then qc0_1 else bif Nat.beq n 440 then qc0 else 0),a_5,cap_6,O,hst.finL O (fun n=>bif Nat.beq n 441 then qc0_1 else bif Nat.beq n 440 then qc0 else 0),hst.finOwnL (g:=(fun n=>bif Nat.beq n 441 then qc0_1 else bif Nat.beq n 440 then qc0 else 0)) O h_7 (by decide) (by decide) O,hst.finBoxL (g:=(fun n=>bif Nat.beq n 441 then qc0_1 else bif Nat.beq n 440 then qc0 else 0)) hb0 (by decide) (by decide) O⟩
 refine go ?_;refine lV (.pointer (some ⟨g0,0,none⟩)) (Z4 O)<|Z2 hb0<|Xw O ?_;refine Z6 hm (fun hg_10 hm=>go ?_) fun hg_10 hm=>go ?_
 ·refine lV (.bool true) (Zw (congrArg Value.bool hg_10) O)<|lV (.pointer (some ⟨g0,0,none⟩)) (Z4 O)<|Z0 ⟨_,_,O⟩ ?_;refine X9 (off:=3) (v:=(.bool true)) hb0 sizeOf4 O O (by intro u hu;simp only [Value.cells,List.mem_cons,List.not_mem_nil,or_false] at hu;subst hu;rfl) O O ?_;intro w_11 hk_12 hs_13 hb_14;replace hb_14:Zd 84 440 (Zv [qc0,qc0_1] col) w_11 g0 #[.pointer (bif p0_w.1.1 then some ⟨g0,0,none⟩ else none),.slice a0_2 p0_w.1.2.length cap0_2,.int .i64 p0_w.2.1,.bool true]:=hb_14;refine Zh ?_;replace h0_2:=h0_2.kp hk_12;replace hst:=hst.kp hk_12 hs_13;exact ⟨O,_,_,_,_,_,_,_,hm,hst,h0_2,hb_14⟩
 obtain ⟨r_15,hr_16,hm⟩:=bZ hm;refine Zf (Zxa (col:=(Zv [qc0,qc0_1] col)) hr_16) ?_;rintro _ w_17 ⟨rfl,hg_18⟩;refine ⟨_,O,?_⟩;replace hg_18:Zg (Zv [qc0,qc0_1] col) w0 (Zv [qc0,qc0_1] col) w_17:=.of_below hg_18;refine go ?_;refine lV (.bool (!r_15)) (Zx (congrArg Value.bool hg_10) O)<|lV (.pointer (some ⟨g0,0,none⟩)) (Z4 O)<|Z0 ⟨_,_,O⟩ ?_;replace hb0:=hb0.gr hg_18;refine X9 (off:=3) (v:=(.bool (!r_15))) hb0 sizeOf4 O O (by intro u hu;simp only [Value.cells,List.mem_cons,List.not_mem_nil,or_false] at hu;subst hu;rfl) O O ?_;intro w_19 hk_20 hs_21 hb_22;replace hb_22:Zd 84 440 (Zv [qc0,qc0_1] col) w_19 g0 #[.pointer (bif p0_w.1.1 then some ⟨g0,0,none⟩ else none),.slice a0_2 p0_w.1.2.length cap0_2,.int .i64 p0_w.2.1,.bool (!r_15)]:=hb_22;refine Zh ?_;replace h0_2:=(h0_2.gr hg_18).kp hk_20;replace hst:=(hst.grow hg_18).kp hk_20 hs_21;exact ⟨O,_,_,_,_,_,_,_,hm,hst,h0_2,hb_22⟩
def Zbc (N:Nat) (p1_l:List ByteArray):List ByteArray→Bool→(List Int)→Int→Bool→Option (ByteArray×((Bool×List Int)×Int×Bool))
  | [],w_5,w_6,w_10,w_11=>(Zeb p1_l (⟨#[44,32]⟩)).bind fun r_14=>some (r_14,((w_5,w_6),w_10,w_11))
  | x_12 :: l_13,w_5,w_6,w_10,w_11=>(Zbb N ((w_5,w_6),w_10,w_11) x_12).bind fun r_18=>(Zbc N p1_l l_13) r_18.2.1.1 r_18.2.1.2 r_18.2.2.1 r_18.2.2.2
termination_by structural x=>x
def Zkl (N:Nat) (p0_w:((Bool×List Int)×Int×Bool)) (p1_l:List ByteArray):Option (ByteArray×((Bool×List Int)×Int×Bool)):=
  Zbc N p1_l p1_l p0_w.1.1 p0_w.1.2 p0_w.2.1 p0_w.2.2
theorem Zxy {N g0 cap0_2 cap1:Nat} {a0_2 a1:Option Addr} {col:Zc} {w0:World} {p0_w:((Bool×List Int)×Int×Bool)} {p1_l:(List ByteArray)} {r:(ByteArray×((Bool×List Int)×Int×Bool))} (qc0 qc0_1:Nat) (hm:Zkl N p0_w p1_l=some r) (hd:Yf [qc0,qc0_1]=true) (h0_2:Zb (Za.int .u8) 5 qc0_1 col w0 a0_2 cap0_2 p0_w.1.2) (hb0:Zd 84 qc0 col w0 g0 #[.pointer (bif p0_w.1.1 then some ⟨g0,0,none⟩ else none),.slice a0_2 p0_w.1.2.length cap0_2,.int .i64 p0_w.2.1,.bool p0_w.2.2]) (h1:Sl Za.str col w0 a1 cap1 p1_l):
    Calls prog 49 #[.pointer (some ⟨g0,0,none⟩),.slice a1 p1_l.length cap1] w0 (fun e w'=>∃ (col':Zc) (oa1:Option Addr) (oc2:Nat),e= .returned ((.string r.1))∧Zp (pS [qc0,qc0_1]) col w0 col' w'∧Zb (Za.int .u8) 5 qc0_1 col' w' oa1 oc2 r.2.1.2∧Zd 84 qc0 col' w' g0 #[.pointer (bif r.2.1.1 then some ⟨g0,0,none⟩ else none),.slice oa1 r.2.1.2.length oc2,.int .i64 r.2.2.1,.bool r.2.2.2]):=by
 refine Zz 4 (m:=19) func49 O O O O O ?_;rw [Zkl.eq_1] at hm;have hst:=St.startL (l:=[qc0,qc0_1]) O col w0;replace hb0:=hb0.startL (Yb hd 0 O) (Ya hd 0 O);replace h0_2:=h0_2.startL (Yb hd 1 O) (Ya hd 1 O);refine go ?_;refine Z5 [0,1,7,8,1000000] (fun n f w_3=>∃ col_4 w_5 a_7 cap_8 w_6 w_10 w_11 k_1 l_2,n=l_2.length∧p1_l.drop k_1=l_2∧Zbc N p1_l l_2 w_5 w_6 w_10 w_11=some r∧St w0 (Zv [qc0,qc0_1] col) col_4 w_3∧Zb (Za.int .u8) 5 441 col_4 w_3 a_7 cap_8 w_6∧Zd 84 440 col_4 w_3 g0 #[.pointer (bif w_5 then some ⟨g0,0,none⟩ else none),.slice a_7 w_6.length cap_8,.int .i64 w_10,.bool w_11]∧[9].map f=[.int .i64 k_1]) p1_l.length ⟨_,_,_,_,_,_,_,0,_,O,O,hm,hst,h0_2,hb0,O⟩ ?_;clear hm;intro n f w_3 hI;obtain ⟨col_4,w_5,a_7,cap_8,w_6,w_10,w_11,k_1,l_2,hn,hl,hm,hst,h_9,hb0,hs⟩:=hI;subst hn;refine .lL [9] hs ?_;replace h1:=h1.keep (Zk.startL [qc0,qc0_1] col w0)
 cases l_2 with
 | nil=>
  have hk:¬ ((k_1:Int)<(p1_l.length:Int)):=by have:=List.drop_eq_nil_iff.1 hl;omega
  have hkb:=decide_eq_false hk;rw [Zbc.eq_1] at hm;refine go ?_;refine Yd (congrArg Value.bool hkb)<|go ?_;obtain ⟨r_14,hr_15,hm⟩:=bZ hm;refine Zf (Zri col_4 _ a1 cap1 p1_l (⟨#[44,32]⟩) (h1.ks hst) r_14 hr_15) ?_;rintro _ w_16 ⟨rfl,hg_17⟩;refine ⟨_,O,?_⟩;replace hg_17:Zg col_4 w_3 col_4 w_16:=.of_below hg_17;refine go ?_;cases hm;replace h_9:=h_9.gr hg_17;replace hb0:=hb0.gr hg_17;replace hst:=hst.grow hg_17;exact ⟨O,Xv w0.heap.size [qc0,qc0_1] col col_4 (fun n=>bif Nat.beq n 441 then qc0_1 else bif Nat.beq n 440 then qc0 else 0),a_7,cap_8,O,hst.finL O (fun n=>bif Nat.beq n 441 then qc0_1 else bif Nat.beq n 440 then qc0 else 0),hst.finOwnL (g:=(fun n=>bif Nat.beq n 441 then qc0_1 else bif Nat.beq n 440 then qc0 else 0)) O h_9 (by decide) (by decide) O,hst.finBoxL (g:=(fun n=>bif Nat.beq n 441 then qc0_1 else bif Nat.beq n 440 then qc0 else 0)) hb0 (by decide) (by decide) O⟩
 | cons x_12 l_13=>
  obtain ⟨hat,hl2_L1,hlt_L1⟩:=Yx hl;have hk:(k_1:Int)<(p1_l.length:Int):=by omega
  have hkb:=decide_eq_true hk;rw [Zbc.eq_2] at hm;refine go ?_;refine X8 (congrArg Value.bool hkb)<|go ?_;refine lI hat ((h1.ks hst).addr hat)<|lW ((h1.ks hst).atStr hat) ?_;refine go ?_;obtain ⟨r_18,hr_19,hm⟩:=bZ hm;refine Zf (Zim 440 441 hr_19 O h_9 hb0) ?_;rintro _ w_24 ⟨col_26,oa_20,oc_21,rfl,hg_25,oh_22,ohb_23⟩;refine ⟨_,O,go ?_⟩;replace hst:=hst.kpp hg_25;exact ⟨l_13.length,by simp,O,⟨_,_,_,_,_,_,_,_,_,O,hl2_L1,hm,hst,oh_22,ohb_23,(Y6 (congrArg (Value.int .i64) (Y0 (Nat.lt_of_lt_of_le hlt_L1 (h1.ks hst).1.1))) O)⟩⟩
def Zhd (N:Nat) (p0_w:((Bool×List Int)×Int×Bool)) (p1_q:(Int×(List (ByteArray×ByteArray))×(List (ByteArray×ByteArray))×Int×List ByteArray×(Bool×Bool))):Option (ByteArray×((Bool×List Int)×Int×Bool)):=
  if (decide (p1_q.2.2.2.1=1))=true then (some (⟨#[117,115,101,32,102,105,108,108]⟩,((p0_w.1.1,p0_w.1.2),p0_w.2.1,p0_w.2.2))) else (if (decide (p1_q.2.2.2.1=2))=true then (some (⟨#[117,115,101,32,100,101,103,114,101,101]⟩,((p0_w.1.1,p0_w.1.2),p0_w.2.1,p0_w.2.2))) else (if (decide (p1_q.2.2.2.1=3))=true then ((Zkl N ((p0_w.1.1,p0_w.1.2),p0_w.2.1,p0_w.2.2) p1_q.2.2.2.2.1).bind fun r_6=>Zr ((⟨#[117,115,101,32,111,114,100,101,114,40]⟩:ByteArray).size+r_6.1.size≤maxLen) (Zr (((⟨#[117,115,101,32,111,114,100,101,114,40]⟩:ByteArray)++r_6.1).size+(⟨#[41]⟩:ByteArray).size≤maxLen) (some (((⟨#[117,115,101,32,111,114,100,101,114,40]⟩:ByteArray)++r_6.1)++(⟨#[41]⟩),((r_6.2.1.1,r_6.2.1.2),r_6.2.2.1,r_6.2.2.2))))) else (some (⟨#[]⟩,((p0_w.1.1,p0_w.1.2),p0_w.2.1,true)))))
theorem Zxz {N g0 cap0_2 cap1_0 cap1_2 cap1_4:Nat} {a0_2 a1_0 a1_2 a1_4:Option Addr} {col:Zc} {w0:World} {p0_w:((Bool×List Int)×Int×Bool)} {p1_q:(Int×(List (ByteArray×ByteArray))×(List (ByteArray×ByteArray))×Int×List ByteArray×(Bool×Bool))} {r:(ByteArray×((Bool×List Int)×Int×Bool))} (qc0 qc0_1:Nat) (hm:Zhd N p0_w p1_q=some r) (hd:Yf [qc0,qc0_1]=true) (h0_2:Zb (Za.int .u8) 5 qc0_1 col w0 a0_2 cap0_2 p0_w.1.2) (hb0:Zd 84 qc0 col w0 g0 #[.pointer (bif p0_w.1.1 then some ⟨g0,0,none⟩ else none),.slice a0_2 p0_w.1.2.length cap0_2,.int .i64 p0_w.2.1,.bool p0_w.2.2]) (h1_0:Sl (Za.pair Za.str Za.str) col w0 a1_0 cap1_0 p1_q.2.1) (h1_2:Sl (Za.pair Za.str Za.str) col w0 a1_2 cap1_2 p1_q.2.2.1) (h1_4:Sl Za.str col w0 a1_4 cap1_4 p1_q.2.2.2.2.1):
    Calls prog 32 #[.pointer (some ⟨g0,0,none⟩),(.agg #[.int .i8 p1_q.1,.slice a1_0 p1_q.2.1.length cap1_0,.slice a1_2 p1_q.2.2.1.length cap1_2,.int .i8 p1_q.2.2.2.1,.slice a1_4 p1_q.2.2.2.2.1.length cap1_4,.bool p1_q.2.2.2.2.2.1,.bool p1_q.2.2.2.2.2.2])] w0 (fun e w'=>∃ (col':Zc) (oa1:Option Addr) (oc2:Nat),e= .returned ((.string r.1))∧Zp (pS [qc0,qc0_1]) col w0 col' w'∧Zb (Za.int .u8) 5 qc0_1 col' w' oa1 oc2 r.2.1.2∧Zd 84 qc0 col' w' g0 #[.pointer (bif r.2.1.1 then some ⟨g0,0,none⟩ else none),.slice oa1 r.2.1.2.length oc2,.int .i64 r.2.2.1,.bool r.2.2.2]):=by
 refine Zz 4 (m:=22) func32 O O O O O ?_;rw [Zhd.eq_1] at hm;have hst:=St.startL (l:=[qc0,qc0_1]) O col w0;replace hb0:=hb0.startL (Yb hd 0 O) (Ya hd 0 O);replace h0_2:=h0_2.startL (Yb hd 1 O) (Ya hd 1 O);refine go ?_;refine Yt (col:=(Zv [qc0,qc0_1] col)) 1 O ?_;intro g_1 w_2 col_3 hg_4 hb_5;refine go ?_;refine Z2 hb_5 ?_;refine go ?_;replace h1_4:=h1_4.keep (Zk.startL [qc0,qc0_1] col w0);replace h0_2:=h0_2.gr hg_4;replace hb0:=hb0.gr hg_4;replace hst:=hst.grow hg_4;refine Zl hm (fun hb hm=>go ?_) fun hb hm=>go ?_
 ·cases hm;exact ⟨O,Xv w0.heap.size [qc0,qc0_1] col col_3 (fun n=>bif Nat.beq n 441 then qc0_1 else bif Nat.beq n 440 then qc0 else 0),a0_2,cap0_2,O,hst.finL O (fun n=>bif Nat.beq n 441 then qc0_1 else bif Nat.beq n 440 then qc0 else 0),hst.finOwnL (g:=(fun n=>bif Nat.beq n 441 then qc0_1 else bif Nat.beq n 440 then qc0 else 0)) O h0_2 (by decide) (by decide) O,hst.finBoxL (g:=(fun n=>bif Nat.beq n 441 then qc0_1 else bif Nat.beq n 440 then qc0 else 0)) hb0 (by decide) (by decide) O⟩
 refine Zl hm (fun hb hm=>go ?_) fun hb hm=>go ?_
 ·cases hm;exact ⟨O,Xv w0.heap.size [qc0,qc0_1] col col_3 (fun n=>bif Nat.beq n 441 then qc0_1 else bif Nat.beq n 440 then qc0 else 0),a0_2,cap0_2,O,hst.finL O (fun n=>bif Nat.beq n 441 then qc0_1 else bif Nat.beq n 440 then qc0 else 0),hst.finOwnL (g:=(fun n=>bif Nat.beq n 441 then qc0_1 else bif Nat.beq n 440 then qc0 else 0)) O h0_2 (by decide) (by decide) O,hst.finBoxL (g:=(fun n=>bif Nat.beq n 441 then qc0_1 else bif Nat.beq n 440 then qc0 else 0)) hb0 (by decide) (by decide) O⟩
 refine Zl hm (fun hb hm=>go ?_) fun hb hm=>go ?_
 ·refine Z2 hb_5 ?_;obtain ⟨r_6,hr_7,hm⟩:=bZ hm;refine Zf (Zxy 440 441 hr_7 O h0_2 hb0 (h1_4.ks hst)) ?_;rintro _ w_12 ⟨col_14,oa_8,oc_9,rfl,hg_13,oh_10,ohb_11⟩;refine ⟨_,O,?_⟩;obtain ⟨hb_15,hm⟩:=Zu hm;refine lV (.string ((⟨#[117,115,101,32,111,114,100,101,114,40]⟩:ByteArray)++r_6.1)) (Un underlying9 O O hb_15) ?_;obtain ⟨hb_16,hm⟩:=Zu hm;refine lV (.string (((⟨#[117,115,101,32,111,114,100,101,114,40]⟩:ByteArray)++r_6.1)++(⟨#[41]⟩))) (Un underlying9 O O hb_16)<|go ?_;cases hm;replace hst:=hst.kpp hg_13;exact ⟨O,Xv w0.heap.size [qc0,qc0_1] col col_14 (fun n=>bif Nat.beq n 441 then qc0_1 else bif Nat.beq n 440 then qc0 else 0),oa_8,oc_9,O,hst.finL O (fun n=>bif Nat.beq n 441 then qc0_1 else bif Nat.beq n 440 then qc0 else 0),hst.finOwnL (g:=(fun n=>bif Nat.beq n 441 then qc0_1 else bif Nat.beq n 440 then qc0 else 0)) O oh_10 (by decide) (by decide) O,hst.finBoxL (g:=(fun n=>bif Nat.beq n 441 then qc0_1 else bif Nat.beq n 440 then qc0 else 0)) ohb_11 (by decide) (by decide) O⟩
 refine lV (.pointer (some ⟨g0,0,none⟩)) (Z4 O)<|Z0 ⟨_,_,O⟩ ?_;refine X9 (off:=3) (v:=(.bool true)) hb0 sizeOf4 O O (by intro u hu;simp only [Value.cells,List.mem_cons,List.not_mem_nil,or_false] at hu;subst hu;rfl) O O ?_;intro w_17 hk_18 hs_19 hb_20;replace hb_20:Zd 84 440 col_3 w_17 g0 #[.pointer (bif p0_w.1.1 then some ⟨g0,0,none⟩ else none),.slice a0_2 p0_w.1.2.length cap0_2,.int .i64 p0_w.2.1,.bool true]:=hb_20;refine go ?_;cases hm;replace h0_2:=h0_2.kp hk_18;replace hst:=hst.kp hk_18 hs_19;exact ⟨O,Xv w0.heap.size [qc0,qc0_1] col col_3 (fun n=>bif Nat.beq n 441 then qc0_1 else bif Nat.beq n 440 then qc0 else 0),a0_2,cap0_2,O,hst.finL O (fun n=>bif Nat.beq n 441 then qc0_1 else bif Nat.beq n 440 then qc0 else 0),hst.finOwnL (g:=(fun n=>bif Nat.beq n 441 then qc0_1 else bif Nat.beq n 440 then qc0 else 0)) O h0_2 (by decide) (by decide) O,hst.finBoxL (g:=(fun n=>bif Nat.beq n 441 then qc0_1 else bif Nat.beq n 440 then qc0 else 0)) hb_20 (by decide) (by decide) O⟩
theorem Zzl:W1 prog 9 1 16:=⟨Tryz.t9,_,rfl,rfl,rfl,rfl,rfl⟩
def Zbe (N:Nat) (p1_head:ByteArray):List (ByteArray×ByteArray)→Bool→(List Int)→Int→Bool→(List ByteArray)→Option (ByteArray×((Bool×List Int)×Int×Bool))
  | [],w_5,w_6,w_10,w_11,parts_12=>if (decide ((parts_12.length:Int)=0))=true then (some (⟨#[]⟩,((w_5,w_6),w_10,w_11))) else ((Zeb parts_12 (⟨#[44,32]⟩)).bind fun r_18=>Zr (p1_head.size+r_18.size≤maxLen) (some (p1_head++r_18,((w_5,w_6),w_10,w_11))))
  | x_16 :: l_17,w_5,w_6,w_10,w_11,parts_12=>(Zbb N ((w_5,w_6),w_10,w_11) x_16.1).bind fun r_38=>Zr (r_38.1.size+(⟨#[61]⟩:ByteArray).size≤maxLen) ((Zbb N ((r_38.2.1.1,r_38.2.1.2),r_38.2.2.1,r_38.2.2.2) x_16.2).bind fun r_49=>Zr ((r_38.1++(⟨#[61]⟩)).size+r_49.1.size≤maxLen) (Zr ((parts_12.length+([(r_38.1++(⟨#[61]⟩))++r_49.1]:List ByteArray).length) * 16≤140737488355328∧parts_12.length+([(r_38.1++(⟨#[61]⟩))++r_49.1]:List ByteArray).length≤maxLen) ((Zbe N p1_head l_17) r_49.2.1.1 r_49.2.1.2 r_49.2.2.1 r_49.2.2.2 (parts_12++([(r_38.1++(⟨#[61]⟩))++r_49.1]:List ByteArray)))))
termination_by structural x=>x
def Zbd (N:Nat) (p0_w:((Bool×List Int)×Int×Bool)) (p1_head:ByteArray) (p2_l:(List (ByteArray×ByteArray))):Option (ByteArray×((Bool×List Int)×Int×Bool)):=
  Zbe N p1_head p2_l p0_w.1.1 p0_w.1.2 p0_w.2.1 p0_w.2.2 ([]:List ByteArray)
theorem Zin {N g0 cap0_2 cap2:Nat} {a0_2 a2:Option Addr} {col:Zc} {w0:World} {p0_w:((Bool×List Int)×Int×Bool)} {p1_head:ByteArray} {p2_l:(List (ByteArray×ByteArray))} {r:(ByteArray×((Bool×List Int)×Int×Bool))} (qc0 qc0_1:Nat) (hm:Zbd N p0_w p1_head p2_l=some r) (hd:Yf [qc0,qc0_1]=true) (h0_2:Zb (Za.int .u8) 5 qc0_1 col w0 a0_2 cap0_2 p0_w.1.2) (hb0:Zd 84 qc0 col w0 g0 #[.pointer (bif p0_w.1.1 then some ⟨g0,0,none⟩ else none),.slice a0_2 p0_w.1.2.length cap0_2,.int .i64 p0_w.2.1,.bool p0_w.2.2]) (h2:Sl (Za.pair Za.str Za.str) col w0 a2 cap2 p2_l):
    Calls prog 34 #[.pointer (some ⟨g0,0,none⟩),.string p1_head,.slice a2 p2_l.length cap2] w0 (fun e w'=>∃ (col':Zc) (oa1:Option Addr) (oc2:Nat),e= .returned ((.string r.1))∧Zp (pS [qc0,qc0_1]) col w0 col' w'∧Zb (Za.int .u8) 5 qc0_1 col' w' oa1 oc2 r.2.1.2∧Zd 84 qc0 col' w' g0 #[.pointer (bif r.2.1.1 then some ⟨g0,0,none⟩ else none),.slice oa1 r.2.1.2.length oc2,.int .i64 r.2.2.1,.bool r.2.2.2]):=by
 refine Zz 6 (m:=37) func34 O O O O O ?_;rw [Zbd.eq_1] at hm;have hst:=St.startL (l:=[qc0,qc0_1]) O col w0;replace hb0:=hb0.startL (Yb hd 0 O) (Ya hd 0 O);replace h0_2:=h0_2.startL (Yb hd 1 O) (Ya hd 1 O);refine go ?_;refine Z5 [0,1,10,11,1000000] (fun n f w_3=>∃ col_4 w_5 a_7 cap_8 w_6 w_10 w_11 k_1 a_13 cap_14 parts_12 l_2,n=l_2.length∧p2_l.drop k_1=l_2∧Zbe N p1_head l_2 w_5 w_6 w_10 w_11 parts_12=some r∧St w0 (Zv [qc0,qc0_1] col) col_4 w_3∧Zb (Za.int .u8) 5 441 col_4 w_3 a_7 cap_8 w_6∧Zd 84 440 col_4 w_3 g0 #[.pointer (bif w_5 then some ⟨g0,0,none⟩ else none),.slice a_7 w_6.length cap_8,.int .i64 w_10,.bool w_11]∧Zb Za.str 9 1 col_4 w_3 a_13 cap_14 parts_12∧[12,7].map f=[.int .i64 k_1,.slice a_13 parts_12.length cap_14]) p2_l.length ⟨_,_,_,_,_,_,_,0,none,0,_,_,O,O,hm,hst,h0_2,hb0,Zb.nil,O⟩ ?_;clear hm;intro n f w_3 hI;obtain ⟨col_4,w_5,a_7,cap_8,w_6,w_10,w_11,k_1,a_13,cap_14,parts_12,l_2,hn,hl,hm,hst,h_9,hb0,h_15,hs⟩:=hI;subst hn;refine .lL [12,7] hs ?_;replace h2:=h2.keep (Zk.startL [qc0,qc0_1] col w0)
 cases l_2 with
 | nil=>
  have hk:¬ ((k_1:Int)<(p2_l.length:Int)):=by have:=List.drop_eq_nil_iff.1 hl;omega
  have hkb:=decide_eq_false hk;rw [Zbe.eq_1] at hm;refine go ?_;refine Yd (congrArg Value.bool hkb)<|go ?_;refine Zl hm (fun hb hm=>go ?_) fun hb hm=>go ?_
  ·cases hm;exact ⟨O,Xv w0.heap.size [qc0,qc0_1] col col_4 (fun n=>bif Nat.beq n 441 then qc0_1 else bif Nat.beq n 440 then qc0 else 0),a_7,cap_8,O,hst.finL O (fun n=>bif Nat.beq n 441 then qc0_1 else bif Nat.beq n 440 then qc0 else 0),hst.finOwnL (g:=(fun n=>bif Nat.beq n 441 then qc0_1 else bif Nat.beq n 440 then qc0 else 0)) O h_9 (by decide) (by decide) O,hst.finBoxL (g:=(fun n=>bif Nat.beq n 441 then qc0_1 else bif Nat.beq n 440 then qc0 else 0)) hb0 (by decide) (by decide) O⟩
  obtain ⟨r_18,hr_19,hm⟩:=bZ hm;refine Zf (Zri (Yn 1 col_4) _ a_13 cap_14 parts_12 (⟨#[44,32]⟩) (h_15.toSlF Zj.str) r_18 hr_19) ?_;rintro _ w_20 ⟨rfl,hg_21⟩;refine ⟨_,O,?_⟩;replace hg_21:Zg col_4 w_3 col_4 w_20:=.of_below hg_21;obtain ⟨hb_22,hm⟩:=Zu hm;refine lV (.string (p1_head++r_18)) (Un underlying9 O O hb_22)<|go ?_;cases hm;replace h_9:=h_9.gr hg_21;replace hb0:=hb0.gr hg_21;replace hst:=hst.grow hg_21;exact ⟨O,Xv w0.heap.size [qc0,qc0_1] col col_4 (fun n=>bif Nat.beq n 441 then qc0_1 else bif Nat.beq n 440 then qc0 else 0),a_7,cap_8,O,hst.finL O (fun n=>bif Nat.beq n 441 then qc0_1 else bif Nat.beq n 440 then qc0 else 0),hst.finOwnL (g:=(fun n=>bif Nat.beq n 441 then qc0_1 else bif Nat.beq n 440 then qc0 else 0)) O h_9 (by decide) (by decide) O,hst.finBoxL (g:=(fun n=>bif Nat.beq n 441 then qc0_1 else bif Nat.beq n 440 then qc0 else 0)) hb0 (by decide) (by decide) O⟩
 | cons x_16 l_17=>
  obtain ⟨hat,hl2_L1,hlt_L1⟩:=Yx hl;have hk:(k_1:Int)<(p2_l.length:Int):=by omega
  have hkb:=decide_eq_true hk;rw [Zbe.eq_2] at hm;refine go ?_;refine X8 (congrArg Value.bool hkb)<|go ?_;refine lI hat ((h2.ks hst).addr hat) ?_;obtain ⟨_,hr_23,hA_24⟩:=(h2.ks hst).atN hat;obtain ⟨_,_,rfl,hp_25,hp_26⟩:=Ym hr_23;obtain ⟨rfl,_⟩:=hp_25;obtain ⟨rfl,_⟩:=hp_26;refine lV (.agg #[.string x_16.1,.string x_16.2]) (Ws isAgg56 sizeOf56 O O hA_24)<|Xy (col:=col_4) #[.string (⟨#[]⟩),.string (⟨#[]⟩)] 2 zeroValue56 ?_;intro g_27 w_28 col_29 hg_30 hb_31;refine Xi hb_31 ?_;intro w_32 hk_33 hs_34 hb_35;refine Zh<|Zml (col:=col_29) (pS [440,441]) [(0,1),(1,1),(2,1),(3,0),(6,1),(7,1),(8,5),(4,4),(5,1),(9,2),(10,1),(11,3),(12,2),(13,1)] (by kernel_rfl) (by kernel_rfl)<|W0 (v:=(.slice a_13 parts_12.length cap_14)) O O (fun _=>Wn O) ?_;refine W0 (v:=(.pointer (some ⟨g0,0,none⟩))) O O (fun _=>Wn O) ?_;refine W0 (v:=(.pointer ((some (⟨g_27,0,none⟩:Addr)).map (·.add 0)))) O O (fun _=>Te (sz:=1) (off:=0) underlying56 O sizeOf9 (by decide) O O ⟨_,_,O⟩) ?_;refine Zfp (v:=(.string x_16.1)) O O (fun _ hC=>Tf isAgg9 O (((hb_35.atN).nth (q:=0) (v:=(.string x_16.1)) O).gr (hC.bl col_29))) ?_;refine W0 (v:=(.pointer (some ⟨g0,0,none⟩))) O O (fun _=>Wn O) ?_;refine W0 (v:=(.pointer ((some (⟨g_27,0,none⟩:Addr)).map (·.add 1)))) O O (fun _=>Te (sz:=1) (off:=1) underlying56 O sizeOf9 (by decide) O O ⟨_,_,O⟩) ?_;refine Zmp (v:=(.string x_16.2)) O O (fun _ hC=>Tf isAgg9 O (((hb_35.dk hC O O).atN).nth (q:=1) (v:=(.string x_16.2)) O)) ?_;refine Tv O O ?_;intro w_36 hC0;have hC:=hC0.bl col_29;replace h_9:=((h_9.gr hg_30).kp hk_33).gr hC;replace h_15:=((h_15.gr hg_30).kp hk_33).gr hC;replace hb0:=((hb0.gr hg_30).kp hk_33).gr hC;replace hst:=((hst.grow hg_30).kp hk_33 hs_34).grow hC;have hkd_37:Zp (pS [440,441]) col_29 w_32 col_29 w_36:=hC.toP;obtain ⟨r_38,hr_39,hm⟩:=bZ hm;refine Zf (Zim 440 441 hr_39 O h_9 hb0) ?_;rintro _ w_44 ⟨col_46,oa_40,oc_41,rfl,hg_45,oh_42,ohb_43⟩;refine ⟨_,O,?_⟩;replace h_15:=h_15.kpp hg_45;replace hkd_37:=hkd_37.trans (hg_45.mono (by first | exact Zlp O | exact pS_p1 O | exact Zlq O));refine Zh ?_;refine ⟨fun w'=>Zg col_46 w_44 col_46 w',fun w'=>∃ c',Zp (pS [440,441]) col_46 w_44 c' w',Zg.refl _ _,fun _ h=>⟨_,h.toP⟩,fun h=>absurd h (by decide),fun _ _ ⟨c9,h⟩=>⟨c9,hkd_37.trans h⟩,?_⟩;obtain ⟨hb_47,hm⟩:=Zu hm;refine W0 (v:=(.string (r_38.1++(⟨#[61]⟩)))) O O (fun _=>Un underlying9 O O hb_47) ?_;refine Tv O O ?_;intro w_48 hC0;have hC:=hC0.bl col_46;obtain ⟨r_49,hr_50,hm⟩:=bZ hm;replace oh_42:=oh_42.gr hC
  replace ohb_43:=ohb_43.gr hC;refine Zf (Zim 440 441 hr_50 O oh_42 ohb_43) ?_;rintro _ w_55 ⟨col_57,oa_51,oc_52,rfl,hg_56,oh_53,ohb_54⟩;refine ⟨_,O,?_⟩;refine Zh ?_;refine ⟨fun w'=>Zg col_57 w_55 col_57 w',fun w'=>∃ c',Zp (pS [440,441]) col_57 w_55 c' w',Zg.refl _ _,fun _ h=>⟨_,h.toP⟩,fun h=>absurd h (by decide),fun h=>absurd h (by decide),?_⟩;obtain ⟨hb_58,hm⟩:=Zu hm;refine W0 (v:=(.string ((r_38.1++(⟨#[61]⟩))++r_49.1))) O O (fun _=>Un underlying9 O O hb_58) ?_;refine Tv O O ?_;intro w_59 hC0;replace hst:=((hst.kpp hg_45).grow hC).kpp hg_56;replace h_15:=(h_15.gr hC).kpp hg_56;have hC:=hC0.bl col_57;replace oh_53:=oh_53.gr hC;replace h_15:=h_15.gr hC;replace ohb_54:=ohb_54.gr hC;replace hst:=hst.grow hC;have hkd_60:Zp (pS [440,441]) col_57 w_55 col_57 w_59:=hC.toP;refine Sk (col:=col_57) ([(r_38.1++(⟨#[61]⟩))++r_49.1]:List ByteArray) 3 ?_;intro a_61 w_62 col_63 hg_64 h_65;replace hkd_60:=hkd_60.gr hg_64;refine Zh ?_;refine ⟨fun w'=>Zg col_63 w_62 col_63 w',fun w'=>∃ c',Zp (pS [440,441]) col_63 w_62 c' w',Zg.refl _ _,fun _ h=>⟨_,h.toP⟩,fun _ _ h=>Zao hC0 hg_64 h,fun _ _ ⟨c9,h⟩=>⟨c9,hkd_60.trans h⟩,?_⟩;refine Tv O O ?_;intro w_66 hC0;have hC:=hC0.bl col_63;obtain ⟨hb_67,hm⟩:=Zu hm;replace h_15:=(h_15.gr hg_64).gr hC;replace h_65:=h_65.gr hC;refine Zf5 (col:=col_63) (w:=w_66) (r:=Za.str) (c:=1) (c2:=1) (h_15.ex) (h_65.srcN NB.str) O underlying40 Zzl O O O hb_67.1 hb_67.2 (by decide) ?_;intro a_68 cap_69 w_70 col_71 hk_72 h_73;refine Zh ?_;refine ⟨fun w'=>Zg col_71 w_70 col_71 w',fun w'=>∃ c',Zp (pS [440,441]) col_71 w_70 c' w',Zg.refl _ _,fun _ h=>⟨_,h.toP⟩,fun h=>absurd h (by decide),fun h=>absurd h (by decide),?_⟩;refine W0 (v:=(.slice a_68 ((parts_12++([(r_38.1++(⟨#[61]⟩))++r_49.1]:List ByteArray)).length) cap_69)) O O (fun _=>Y7 O) ?_;have h_74:=h_73.new;refine Zmo ?_;replace oh_53:=((oh_53.gr hg_64).gr hC).kpp hk_72;replace ohb_54:=((ohb_54.gr hg_64).gr hC).kpp hk_72;replace hst:=((hst.grow hg_64).grow hC).kpp hk_72;intro w_75 hC;replace hC:=hC.bl col_71;refine go ?_;replace oh_53:=oh_53.gr hC;replace h_74:=h_74.gr hC;replace ohb_54:=ohb_54.gr hC;replace hst:=hst.grow hC;exact ⟨l_17.length,by simp,O,⟨_,_,_,_,_,_,_,_,_,_,_,_,O,hl2_L1,hm,hst,oh_53,ohb_54,h_74,(Y6 (congrArg (Value.int .i64) (Y0 (Nat.lt_of_lt_of_le hlt_L1 (h2.ks hst).1.1))) O)⟩⟩
theorem Zym (col:Zc) (w0:World) (qc0:Nat) (qc0_1:Nat) (hd:Yf [qc0,qc0_1]=true) (g0:Nat) (p0_b:((Bool×List Int)×Int×Bool)) (a0_2:Option Addr) (cap0_2:Nat) (h0_2:Zb (Za.int .u8) 5 qc0_1 col w0 a0_2 cap0_2 p0_b.1.2) (hb0:Zd 84 qc0 col w0 g0 #[.pointer (bif p0_b.1.1 then some ⟨g0,0,none⟩ else none),.slice a0_2 p0_b.1.2.length cap0_2,.int .i64 p0_b.2.1,.bool p0_b.2.2]) (r:((Bool×List Int)×Int×Bool)) (hm:Zjb p0_b=some r):
    Calls prog 68 #[.pointer (some ⟨g0,0,none⟩)] w0 (fun e w'=>∃ (col':Zc) (oa1:Option Addr) (oc2:Nat),e= .returned (.tuple #[])∧Zp (pS [qc0,qc0_1]) col w0 col' w'∧Zb (Za.int .u8) 5 qc0_1 col' w' oa1 oc2 r.1.2∧Zd 84 qc0 col' w' g0 #[.pointer (bif r.1.1 then some ⟨g0,0,none⟩ else none),.slice oa1 r.1.2.length oc2,.int .i64 r.2.1,.bool r.2.2]):=
  Zwf col w0 qc0 qc0_1 hd g0 p0_b a0_2 cap0_2 h0_2 hb0 r hm
def Zk4 (p0_b:((Bool×List Int)×Int×Bool)) (p1_s:ByteArray):Option (Int×(Option (Int×Int×Int×ByteArray))×((Bool×List Int)×Int×Bool)):=
  (Zjb ((p0_b.1.1,p0_b.1.2),p0_b.2.1,p0_b.2.2)).bind fun r_1=>Zr (r_1.1.2.length+p1_s.size≤140737488355328) (some ((p1_s.size:Int),(none:(Option (Int×Int×Int×ByteArray))),((r_1.1.1,r_1.1.2++Ze p1_s),r_1.2.1,r_1.2.2)))
theorem Zyk {g0 cap0_2:Nat} {a0_2:Option Addr} {col:Zc} {w0:World} {p0_b:((Bool×List Int)×Int×Bool)} {p1_s:ByteArray} {r:(Int×(Option (Int×Int×Int×ByteArray))×((Bool×List Int)×Int×Bool))} (qc0 qc0_1:Nat) (hm:Zk4 p0_b p1_s=some r) (hd:Yf [qc0,qc0_1]=true) (h0_2:Zb (Za.int .u8) 5 qc0_1 col w0 a0_2 cap0_2 p0_b.1.2) (hb0:Zd 84 qc0 col w0 g0 #[.pointer (bif p0_b.1.1 then some ⟨g0,0,none⟩ else none),.slice a0_2 p0_b.1.2.length cap0_2,.int .i64 p0_b.2.1,.bool p0_b.2.2]):
    Calls prog 50 #[.pointer (some ⟨g0,0,none⟩),.string p1_s] w0 (fun e w'=>∃ (col':Zc) (rv1:Value) (oa3:Option Addr) (oc4:Nat),e= .returned (.tuple #[.int .i64 r.1,rv1])∧Zp (pS [qc0,qc0_1]) col w0 col' w'∧Rd (Za.err 72 29 (Za.pair (Za.int .i64) (Za.pair (Za.int .i64) (Za.pair (Za.int .i64) Za.str)))) col' w' [rv1] r.2.1∧Zb (Za.int .u8) 5 qc0_1 col' w' oa3 oc4 r.2.2.1.2∧Zd 84 qc0 col' w' g0 #[.pointer (bif r.2.2.1.1 then some ⟨g0,0,none⟩ else none),.slice oa3 r.2.2.1.2.length oc4,.int .i64 r.2.2.2.1,.bool r.2.2.2.2]):=by
 refine Zcb 4 5 (m:=19) (args:=[.pointer (some ⟨g0,0,none⟩),.string p1_s]) func50 O O O O O ?_;rw [Zk4.eq_1] at hm;have hst:=St.startL (l:=[qc0,qc0_1]) O col w0;replace hb0:=hb0.startL (Yb hd 0 O) (Ya hd 0 O);replace h0_2:=h0_2.startL (Yb hd 1 O) (Ya hd 1 O);refine go ?_;refine lv (v:=.nilIface) O O (Y7 O)<|go ?_;obtain ⟨r_1,hr_2,hm⟩:=bZ hm;refine Zf (Zym (Zv [qc0,qc0_1] col) _ 440 441 O g0 ((p0_b.1.1,p0_b.1.2),p0_b.2.1,p0_b.2.2) a0_2 cap0_2 h0_2 hb0 r_1 hr_2) ?_;rintro _ w_7 ⟨col_9,oa_3,oc_4,rfl,hg_8,oh_5,ohb_6⟩;refine ⟨_,O,go ?_⟩;refine lV (.pointer ((some (⟨g0,0,none⟩:Addr)).map (·.add 0))) (Z4 O)<|Z0 ⟨_,_,O⟩ ?_;refine lW ((((ohb_6.atN).part 0 2 _ O)).nth (q:=1) O)<|Zf4 O ?_;obtain ⟨hb_10,hm⟩:=Zu hm;refine Z0c (col:=col_9) (w:=w_7) (c:=441) (xs:=r_1.1.2) (s:=p1_s) oh_5 O underlying80 underlying9 (show prog.info? 5=some Tryz.t5 from O) O O O O O hb_10 (by decide) ?_;intro a_11 cap_12 w_13 col_14 hk_15 hs_16 h_17;refine lV (.pointer ((some (⟨g0,0,none⟩:Addr)).map (·.add 0))) (Z4 O)<|Z0 ⟨_,_,O⟩ ?_;replace ohb_6:=ohb_6.kp hk_15;refine X9 (off:=1) (v:=(.slice a_11 ((r_1.1.2++Ze p1_s).length) cap_12)) ohb_6 sizeOf80 O O (by intro u hu;simp only [Value.cells,List.mem_cons,List.not_mem_nil,or_false] at hu;subst hu;rfl) O O ?_;intro w_18 hk_19 hs_20 hb_21;replace hb_21:Zd 84 440 col_14 w_18 g0 #[.pointer (bif r_1.1.1 then some ⟨g0,0,none⟩ else none),.slice a_11 ((r_1.1.2++Ze p1_s).length) cap_12,.int .i64 r_1.2.1,.bool r_1.2.2]:=hb_21;refine go ?_;refine lv (v:=.nilIface) O O (Y7 O)<|go ?_;cases hm;replace hst:=((hst.kpp hg_8).kp hk_15 hs_16).kp hk_19 hs_20;replace h_17:=h_17.kp hk_19;exact ⟨O,Xv w0.heap.size [qc0,qc0_1] col col_14 (fun n=>bif Nat.beq n 441 then qc0_1 else bif Nat.beq n 440 then qc0 else 0),.nilIface,a_11,cap_12,O,hst.finL O (fun n=>bif Nat.beq n 441 then qc0_1 else bif Nat.beq n 440 then qc0 else 0),Zh2,hst.finOwnL (g:=(fun n=>bif Nat.beq n 441 then qc0_1 else bif Nat.beq n 440 then qc0 else 0)) O h_17 (by decide) (by decide) O,hst.finBoxL (g:=(fun n=>bif Nat.beq n 441 then qc0_1 else bif Nat.beq n 440 then qc0 else 0)) hb_21 (by decide) (by decide) O⟩
def T7 (p0_w:((Bool×List Int)×Int×Bool)) (p1_words:ByteArray):Option ((Bool×List Int)×Int×Bool):=
  Zr (p1_words.size+(⟨#[59,10]⟩:ByteArray).size≤maxLen) ((Zk4 ((p0_w.1.1,p0_w.1.2),p0_w.2.1,p0_w.2.2) (p1_words++(⟨#[59,10]⟩))).bind fun r_2=>some ((r_2.2.2.1.1,r_2.2.2.1.2),i64.wrap (r_2.2.2.2.1+1),r_2.2.2.2.2))
theorem Zdy {g0 cap0_2:Nat} {a0_2:Option Addr} {col:Zc} {w0:World} {p0_w:((Bool×List Int)×Int×Bool)} {p1_words:ByteArray} {r:((Bool×List Int)×Int×Bool)} (qc0 qc0_1:Nat) (hm:T7 p0_w p1_words=some r) (hd:Yf [qc0,qc0_1]=true) (h0_2:Zb (Za.int .u8) 5 qc0_1 col w0 a0_2 cap0_2 p0_w.1.2) (hb0:Zd 84 qc0 col w0 g0 #[.pointer (bif p0_w.1.1 then some ⟨g0,0,none⟩ else none),.slice a0_2 p0_w.1.2.length cap0_2,.int .i64 p0_w.2.1,.bool p0_w.2.2]):
    Calls prog 33 #[.pointer (some ⟨g0,0,none⟩),.string p1_words] w0 (fun e w'=>∃ (col':Zc) (oa1:Option Addr) (oc2:Nat),e= .returned (.tuple #[])∧Zp (pS [qc0,qc0_1]) col w0 col' w'∧Zb (Za.int .u8) 5 qc0_1 col' w' oa1 oc2 r.1.2∧Zd 84 qc0 col' w' g0 #[.pointer (bif r.1.1 then some ⟨g0,0,none⟩ else none),.slice oa1 r.1.2.length oc2,.int .i64 r.2.1,.bool r.2.2]):=by
 refine Zan (m:=17) (args:=[.pointer (some ⟨g0,0,none⟩),.string p1_words]) func33 O O O O ?_;rw [T7.eq_1] at hm;have hst:=St.startL (l:=[qc0,qc0_1]) O col w0;replace hb0:=hb0.startL (Yb hd 0 O) (Ya hd 0 O);replace h0_2:=h0_2.startL (Yb hd 1 O) (Ya hd 1 O);refine go ?_;refine lV (.pointer (some ⟨g0,0,none⟩)) (Z4 O)<|Z0 ⟨_,_,O⟩ ?_;refine Zf4 O ?_;obtain ⟨hb_1,hm⟩:=Zu hm;refine lV (.string (p1_words++(⟨#[59,10]⟩))) (Un underlying9 O O hb_1) ?_;obtain ⟨r_2,hr_3,hm⟩:=bZ hm;refine Zf (Zyk 440 441 hr_3 O h0_2 hb0) ?_;rintro _ w_10 ⟨col_12,rv_4,oa_6,oc_7,rfl,hg_11,rh_5,oh_8,ohb_9⟩;refine ⟨_,O,go ?_⟩;refine lV (.pointer (some ⟨g0,0,none⟩)) (Z4 O)<|Z2 ohb_9 ?_;refine go ?_;refine lV (.pointer (some ⟨g0,0,none⟩)) (Z4 O)<|Z0 ⟨_,_,O⟩ ?_;refine X9 (off:=2) (v:=(.int .i64 (i64.wrap (r_2.2.2.2.1+1)))) ohb_9 sizeOf3 O O (by intro u hu;simp only [Value.cells,List.mem_cons,List.not_mem_nil,or_false] at hu;subst hu;rfl) O O ?_;intro w_13 hk_14 hs_15 hb_16;replace hb_16:Zd 84 440 col_12 w_13 g0 #[.pointer (bif r_2.2.2.1.1 then some ⟨g0,0,none⟩ else none),.slice oa_6 r_2.2.2.1.2.length oc_7,.int .i64 (i64.wrap (r_2.2.2.2.1+1)),.bool r_2.2.2.2.2]:=hb_16;refine Zh ?_;cases hm;replace hst:=(hst.kpp hg_11).kp hk_14 hs_15;replace oh_8:=oh_8.kp hk_14;exact ⟨O,Xv w0.heap.size [qc0,qc0_1] col col_12 (fun n=>bif Nat.beq n 441 then qc0_1 else bif Nat.beq n 440 then qc0 else 0),oa_6,oc_7,O,hst.finL O (fun n=>bif Nat.beq n 441 then qc0_1 else bif Nat.beq n 440 then qc0 else 0),hst.finOwnL (g:=(fun n=>bif Nat.beq n 441 then qc0_1 else bif Nat.beq n 440 then qc0 else 0)) O oh_8 (by decide) (by decide) O,hst.finBoxL (g:=(fun n=>bif Nat.beq n 441 then qc0_1 else bif Nat.beq n 440 then qc0 else 0)) hb_16 (by decide) (by decide) O⟩
abbrev Ud:=List (ByteArray×ByteArray)
abbrev Yi:=Int×Ud×Ud×Int×List ByteArray×(Bool×Bool)
theorem Zwu {a b:ByteArray} (h:a.data.toList=b.data.toList):a=b:=ByteArray.ext (Array.toList_inj.1 h)
def Vx:List ByteArray→ByteArray
 | []=>⟨#[]⟩
 | y :: r=>(⟨#[44,32]⟩++y)++Vx r
def jn:List ByteArray→ByteArray
 | []=>⟨#[]⟩
 | x :: r=>x++Vx r
def X5 (l:List ByteArray):Nat:=(l.map fun s=>s.size+2).sum
theorem Zby (x:ByteArray) (l:List ByteArray):X5 (x :: l)=x.size+2+X5 l:=by simp [X5]
theorem Z2x (a b:List ByteArray):X5 (a++b)=X5 a+X5 b:=by simp [X5]
theorem Zr8:∀ l:List ByteArray,(Vx l).size≤X5 l
 | []=>Nat.zero_le _
 | x :: l=>by
  have:=Zr8 l
  have h2:(⟨#[44,32]⟩:ByteArray).size=2:=rfl
  rw [Vx,Zby,ByteArray.size_append,ByteArray.size_append,h2];omega
theorem Zf3 (l:List ByteArray):(jn l).size≤X5 l:=by
 cases l with
 | nil=>exact Nat.zero_le _
 | cons x l=>
  have:=Zr8 l
  rw [jn,Zby,ByteArray.size_append];omega
theorem Zr6:∀ l:List ByteArray,(Vx l).data.toList=Lib.joinTail [44,32] (l.map (·.data.toList))
 | []=>rfl
 | x :: l=>by
  rw [Vx,ByteArray.toList_data_append,ByteArray.toList_data_append,Zr6 l,Lib.joinTail,Lib.joinTail,List.map_cons,List.map_cons,List.flatten_cons]
theorem Z0a (l:List ByteArray):Zi2 l ⟨#[44,32]⟩=jn l:=by
 apply Zwu
 cases l with
 | nil=>rfl
 | cons x l=>
  rw [jn,ByteArray.toList_data_append,Zr6]
  show Lib.join _ [44,32]=_
  rw [List.map_cons,Lib.join_cons]
theorem Zsh {l:List ByteArray} (h:X5 l≤140737488355328) (h2:l.length≤140737488355328):Zeb l ⟨#[44,32]⟩=some (jn l):=by
 have e:=Z0a l
 have h3:(Lib.join (l.map (·.data.toList)) (⟨#[44,32]⟩:ByteArray).data.toList).length=(Zi2 l ⟨#[44,32]⟩).size:=by
  exact List.size_toArray.symm
 have h4:=Zf3 l
 rw [Zeb,Xx ⟨by rw [h3,e];omega,h2⟩,e]
def wd (p:ByteArray×ByteArray):ByteArray:=(p.1++⟨#[61]⟩)++p.2
def Z1 (l:Ud):Nat:=(l.map fun p=>p.1.size+p.2.size+3).sum
theorem Zbx (p:ByteArray×ByteArray) (l:Ud):Z1 (p :: l)=p.1.size+p.2.size+3+Z1 l:=by simp [Z1]
theorem Zme:∀ l:Ud,3 * l.length≤Z1 l
 | []=>by simp
 | p :: l=>by have:=Zme l;rw [Zbx,List.length_cons];omega
theorem Zh7:∀ l:List ByteArray,2 * l.length≤X5 l
 | []=>by simp
 | p :: l=>by have:=Zh7 l;rw [Zby,List.length_cons];omega
theorem Zve (p:ByteArray×ByteArray):(wd p).size=p.1.size+p.2.size+1:=by
 have h2:(⟨#[61]⟩:ByteArray).size=1:=rfl
 rw [wd,ByteArray.size_append,ByteArray.size_append,h2];omega
theorem Zdm:∀ l:Ud,X5 (l.map wd)=Z1 l
 | []=>rfl
 | p :: l=>by rw [List.map_cons,Zby,Zbx,Zdm l,Zve]
/-! the program's writer -/
abbrev Zfr:=(Bool×List Int)×Int×Bool
def W2 (p:ByteArray×ByteArray):Bool:=Yo p.1&&Yo p.2
theorem Zmm {N:Nat} {w:Zfr} {s:ByteArray} (hs:s.size≤1099511627776) (hN:s.size<N):Zbb N w s=some (s,((w.1.1,w.1.2),w.2.1,w.2.2||!Yo s)):=by
 rw [Zbb]
 cases h:w.2.2 with
 | true=>rw [if_pos rfl,Zez];rfl
 | false=>rw [if_neg (by decide),Z0t hs hN,Option.bind_some,Zez];rfl
theorem Zvg {N:Nat} {L:List ByteArray} (hL:X5 L≤1099511627776):∀ (l:List ByteArray) (fl:Bool) (xs:List Int) (n:Int) (o:Bool),X5 l≤1099511627776→X5 l<N→Zbc N L l fl xs n o=some (jn L,((fl,xs),n,o||!(l.all Yo)))
 | [],fl,xs,n,o,h,_=>by
  have:=Zh7 L
  rw [Zbc.eq_1,Zsh (by omega) (by omega),Option.bind_some]
  simp
 | x :: l,fl,xs,n,o,h,hN=>by
  rw [Zby] at h hN
  rw [Zbc.eq_2,Zmm (by omega) (by omega),Option.bind_some,Zvg hL l fl xs n _ (by omega) (by omega),List.all_cons]
  cases o <;> cases Yo x <;> simp
theorem Z3a {N:Nat} {w:Zfr} {l:List ByteArray} (h:X5 l≤1099511627776) (hN:X5 l<N):Zkl N w l=some (jn l,((w.1.1,w.1.2),w.2.1,w.2.2||!(l.all Yo))):=Zvg h l _ _ _ _ h hN
def Vi (head:ByteArray) (ps:List ByteArray):ByteArray:=if ps=[] then ⟨#[]⟩ else head++jn ps
theorem Zvi {N:Nat} {head:ByteArray} (hh:head.size≤1099511627776):∀ (l:Ud) (fl:Bool) (xs:List Int) (n:Int) (o:Bool) (ps:List ByteArray),X5 ps+Z1 l≤1099511627776→Z1 l<N→
  Zbe N head l fl xs n o ps=some (Vi head (ps++l.map wd),((fl,xs),n,o||!(l.all W2)))
 | [],fl,xs,n,o,ps,h,_=>by
  have h1:=Zh7 ps
  have h2:=Zf3 ps
  rw [Zbe.eq_1,List.map_nil,List.append_nil,Vi]
  by_cases hp:ps=[]
  ·subst hp;simp
  ·have:ps.length≠0:=fun e=>hp (List.length_eq_zero_iff.1 e)
   rw [if_neg (by rw [decide_eq_false (by omega)];decide),Zsh (by omega) (by omega),Option.bind_some,Xx (by simp only [maxLen];omega),if_neg hp]
   simp
 | p :: l,fl,xs,n,o,ps,h,hN=>by
  have h1:=Zh7 ps
  have e1:(⟨#[61]⟩:ByteArray).size=1:=rfl
  rw [Zbx] at h hN
  rw [Zbe.eq_2,Zmm (by omega) (by omega),Option.bind_some,Xx (by rw [e1];simp only [maxLen];omega),Zmm (by omega) (by omega),Option.bind_some,Xx (by rw [ByteArray.size_append,e1];simp only [maxLen];omega),Xx (by simp only [List.length_cons,List.length_nil,maxLen];omega)]
  have e2:X5 (ps++[wd p])=X5 ps+(p.1.size+p.2.size+3):=by rw [Z2x,Zby,Zve];rfl
  have ih:=Zvi (N:=N) hh l fl xs n ((o||!Yo p.1)||!Yo p.2) (ps++[wd p]) (by rw [e2];omega) (by omega)
  rw [wd] at ih
  refine ih.trans ?_
  rw [List.all_cons,W2,List.map_cons,List.append_assoc,List.singleton_append,wd]
  cases o <;> cases Yo p.1 <;> cases Yo p.2 <;> simp
theorem Zmn {N:Nat} {w:Zfr} {head:ByteArray} {l:Ud} (hh:head.size≤1099511627776) (h:Z1 l≤1099511627776) (hN:Z1 l<N):Zbd N w head l=some (Vi head (l.map wd),((w.1.1,w.1.2),w.2.1,w.2.2||!(l.all W2))):=by
 rw [Zbd]
 have:=Zvi (N:=N) hh l w.1.1 w.1.2 w.2.1 w.2.2 [] (by simpa [X5] using h) hN
 simpa using this
theorem Zfn {w:Zfr} {s:ByteArray} (h:w.1.2.length+s.size+2≤140737488355328):T7 w s=some ((true,w.1.2++Ze (s++⟨#[59,10]⟩)),i64.wrap (w.2.1+1),w.2.2):=by
 have e1:(⟨#[59,10]⟩:ByteArray).size=2:=rfl
 rw [T7,Xx (by rw [e1];simp only [maxLen];omega),Zk4,Zjb,Option.bind_some,Xx (by rw [ByteArray.size_append,e1];show w.1.2.length+_≤_;omega),Option.bind_some]
theorem Zda (head:ByteArray) (ps:List ByteArray):(Vi head ps).size≤head.size+X5 ps:=by
 rw [Vi]
 split
 ·exact Nat.zero_le _
 ·have:=Zf3 ps
  rw [ByteArray.size_append];omega
def X0 (q:Yi):ByteArray:=if q.2.2.2.1=1 then ⟨#[117,115,101,32,102,105,108,108]⟩ else if q.2.2.2.1=2 then ⟨#[117,115,101,32,100,101,103,114,101,101]⟩ else if q.2.2.2.1=3 then ((⟨#[117,115,101,32,111,114,100,101,114,40]⟩:ByteArray)++jn q.2.2.2.2.1)++⟨#[41]⟩ else ⟨#[]⟩
def Ut (q:Yi):Bool:=decide (q.2.2.2.1=1∨q.2.2.2.1=2∨q.2.2.2.1=3)
def Uw (q:Yi):Bool:=!decide (q.2.2.2.1=3)||q.2.2.2.2.1.all Yo
theorem Zqk (q:Yi):(X0 q).size≤X5 q.2.2.2.2.1+11:=by
 have:=Zf3 q.2.2.2.2.1
 have e1:(⟨#[117,115,101,32,102,105,108,108]⟩:ByteArray).size=8:=rfl
 have e2:(⟨#[117,115,101,32,100,101,103,114,101,101]⟩:ByteArray).size=10:=rfl
 have e3:(⟨#[117,115,101,32,111,114,100,101,114,40]⟩:ByteArray).size=10:=rfl
 have e4:(⟨#[41]⟩:ByteArray).size=1:=rfl
 have e5:(⟨#[]⟩:ByteArray).size=0:=rfl
 rw [X0]
 split
 ·omega
 ·split
  ·omega
  ·split
   ·rw [ByteArray.size_append,ByteArray.size_append];omega
   ·omega
theorem Z3e {N:Nat} {w:Zfr} {q:Yi} (h:X5 q.2.2.2.2.1≤1099511627776) (hN:X5 q.2.2.2.2.1<N):Zhd N w q=some (X0 q,((w.1.1,w.1.2),w.2.1,w.2.2||!(Ut q&&Uw q))):=by
 have e3:(⟨#[117,115,101,32,111,114,100,101,114,40]⟩:ByteArray).size=10:=rfl
 have e4:(⟨#[41]⟩:ByteArray).size=1:=rfl
 have h5:=Zf3 q.2.2.2.2.1
 rw [Zhd,X0,Ut,Uw]
 by_cases h1:q.2.2.2.1=1
 ·rw [if_pos (decide_eq_true h1),if_pos h1];simp [h1]
 ·by_cases h2:q.2.2.2.1=2
  ·rw [if_neg (by rw [decide_eq_false h1];decide),if_pos (decide_eq_true h2),if_neg h1,if_pos h2];simp [h2]
  ·by_cases h3:q.2.2.2.1=3
   ·rw [if_neg (by rw [decide_eq_false h1];decide),if_neg (by rw [decide_eq_false h2];decide),if_pos (decide_eq_true h3),if_neg h1,if_neg h2,if_pos h3,Z3a h hN,Option.bind_some,Xx (by rw [e3];simp only [maxLen];omega),Xx (by rw [ByteArray.size_append,e3,e4];simp only [maxLen];omega)]
    simp [h3]
   ·rw [if_neg (by rw [decide_eq_false h1];decide),if_neg (by rw [decide_eq_false h2];decide),if_neg (by rw [decide_eq_false h3];decide),if_neg h1,if_neg h2,if_neg h3]
    simp [h1,h2,h3]
theorem Zyj (col:Zc) (w0:World) (qc0:Nat) (qc0_1:Nat) (hd:Yf [qc0,qc0_1]=true) (g0:Nat) (p0_b:((Bool×List Int)×Int×Bool)) (a0_2:Option Addr) (cap0_2:Nat) (h0_2:Zb (Za.int .u8) 5 qc0_1 col w0 a0_2 cap0_2 p0_b.1.2) (hb0:Zd 84 qc0 col w0 g0 #[.pointer (bif p0_b.1.1 then some ⟨g0,0,none⟩ else none),.slice a0_2 p0_b.1.2.length cap0_2,.int .i64 p0_b.2.1,.bool p0_b.2.2]) (r:ByteArray) (hm:Zjd p0_b=some r):
    Calls prog 36 #[.pointer (some ⟨g0,0,none⟩)] w0 (fun e w'=>∃ (col':Zc),e= .returned ((.string r))∧Zp (pS [qc0,qc0_1]) col w0 col' w'):=
  Zwt col w0 qc0 qc0_1 hd g0 p0_b a0_2 cap0_2 h0_2 hb0 r hm
def Q5 (p0_q:(Int×(List (ByteArray×ByteArray))×(List (ByteArray×ByteArray))×Int×List ByteArray×(Bool×Bool))):Option Bool:=
  if (decide (p0_q.1=1))=true then (some (decide ((p0_q.2.2.1.length:Int)=0))) else (if (decide (p0_q.1=2))=true then (some (decide (0<(p0_q.2.1.length:Int)))) else (if (decide (p0_q.1=3))=true then (some (decide ((p0_q.2.1.length:Int)=1))) else (some false)))
theorem Zil {cap0_0 cap0_2 cap0_4:Nat} {a0_0 a0_2 a0_4:Option Addr} {col:Zc} {w0:World} {p0_q:(Int×(List (ByteArray×ByteArray))×(List (ByteArray×ByteArray))×Int×List ByteArray×(Bool×Bool))} {r:Bool} (hm:Q5 p0_q=some r) (h0_0:Sl (Za.pair Za.str Za.str) col w0 a0_0 cap0_0 p0_q.2.1) (h0_2:Sl (Za.pair Za.str Za.str) col w0 a0_2 cap0_2 p0_q.2.2.1) (h0_4:Sl Za.str col w0 a0_4 cap0_4 p0_q.2.2.2.2.1):
    Calls prog 31 #[(.agg #[.int .i8 p0_q.1,.slice a0_0 p0_q.2.1.length cap0_0,.slice a0_2 p0_q.2.2.1.length cap0_2,.int .i8 p0_q.2.2.2.1,.slice a0_4 p0_q.2.2.2.2.1.length cap0_4,.bool p0_q.2.2.2.2.2.1,.bool p0_q.2.2.2.2.2.2])] w0 (fun e w'=>e= .returned ((.bool r))∧Below w0.heap.size w0 w'):=by
 refine Zz 2 (m:=23) func31 O O O O O ?_;rw [Q5.eq_1] at hm;have hst:=St.start col w0;refine go ?_;refine Yt (col:=(Zi col)) 1 O ?_;intro g_1 w_2 col_3 hg_4 hb_5;refine go ?_;refine Z2 hb_5 ?_;refine go ?_;replace hst:=hst.grow hg_4;refine Zl hm (fun hb hm=>go ?_) fun hb hm=>go ?_
 ·refine Z2 hb_5 ?_;refine go ?_;cases hm;exact ⟨O,O,hst.below⟩
 refine Zl hm (fun hb hm=>go ?_) fun hb hm=>go ?_
 ·refine Z2 hb_5 ?_;refine go ?_;cases hm;exact ⟨O,O,hst.below⟩
 refine Zl hm (fun hb hm=>go ?_) fun hb hm=>go ?_
 ·refine Z2 hb_5 ?_;refine go ?_;cases hm;exact ⟨O,O,hst.below⟩
 cases hm;exact ⟨O,O,hst.below⟩
def Zes (v_19:Bool) (v_20:List Int) (v_24:Int) (v_25:Bool) (v_35:Bool):Option (ByteArray×Int):=
  if v_35=true then (some (⟨#[]⟩,50)) else ((Zjd ((v_19,v_20),v_24,v_25)).bind fun r_36=>some (r_36,0))
def Qa (kk_L1:(Bool→(List Int)→Int→Bool→ByteArray→Bool→Bool→Option (ByteArray×Int))) (v_44:Bool) (v_45:List Int) (v_49:Int) (v_50:Bool) (used_51:ByteArray) (pruned_52:Bool) (pruned_53:Bool):Option (ByteArray×Int):=
  kk_L1 v_44 v_45 v_49 v_50 used_51 pruned_52 pruned_53
def Za8 (N:Nat) (kk_L1:(Bool→(List Int)→Int→Bool→ByteArray→Bool→Bool→Option (ByteArray×Int))) (x_29:(Int×(List (ByteArray×ByteArray))×(List (ByteArray×ByteArray))×Int×List ByteArray×(Bool×Bool))) (used_104:ByteArray):List (ByteArray×ByteArray)→Bool→(List Int)→Int→Bool→Option (ByteArray×Int)
  | [],v_184,v_185,v_189,v_190=>Qa kk_L1 v_184 v_185 v_189 v_190 used_104 x_29.2.2.2.2.2.1 x_29.2.2.2.2.2.2
  | x_191 :: l_192,v_184,v_185,v_189,v_190=>(Zbb N ((v_184,v_185),v_189,v_190) x_191.1).bind fun r_208=>Zr ((⟨#[97,108,108,32]⟩:ByteArray).size+r_208.1.size≤maxLen) ((Zbd N ((r_208.2.1.1,r_208.2.1.2),r_208.2.2.1,r_208.2.2.2) (⟨#[32,124,32]⟩) x_29.2.2.1).bind fun r_219=>Zr (((⟨#[97,108,108,32]⟩:ByteArray)++r_208.1).size+r_219.1.size≤maxLen) ((T7 ((r_219.2.1.1,r_219.2.1.2),r_219.2.2.1,r_219.2.2.2) (((⟨#[97,108,108,32]⟩:ByteArray)++r_208.1)++r_219.1)).bind fun r_230=>(Za8 N kk_L1 x_29 used_104 l_192) r_230.1.1 r_230.1.2 r_230.2.1 r_230.2.2))
termination_by structural x=>x
def Zew (N:Nat) (kk_L1:(Bool→(List Int)→Int→Bool→ByteArray→Bool→Bool→Option (ByteArray×Int))) (x_29:(Int×(List (ByteArray×ByteArray))×(List (ByteArray×ByteArray))×Int×List ByteArray×(Bool×Bool))) (used_104:ByteArray) (v_116:Bool) (v_117:List Int) (v_121:Int) (v_122:Bool):Option (ByteArray×Int):=
  if (decide (x_29.1=1))=true then ((Zbd N ((v_116,v_117),v_121,v_122) (⟨#[32]⟩) x_29.2.1).bind fun r_127=>Zr ((⟨#[99,104,97,110,99,101]⟩:ByteArray).size+r_127.1.size≤maxLen) ((T7 ((r_127.2.1.1,r_127.2.1.2),r_127.2.2.1,r_127.2.2.2) ((⟨#[99,104,97,110,99,101]⟩:ByteArray)++r_127.1)).bind fun r_137=>Qa kk_L1 r_137.1.1 r_137.1.2 r_137.2.1 r_137.2.2 used_104 x_29.2.2.2.2.2.1 x_29.2.2.2.2.2.2)) else (if (decide (x_29.1=2))=true then ((Zbd N ((v_116,v_117),v_121,v_122) (⟨#[32]⟩) x_29.2.1).bind fun r_148=>Zr ((⟨#[97,115,107]⟩:ByteArray).size+r_148.1.size≤maxLen) ((Zbd N ((r_148.2.1.1,r_148.2.1.2),r_148.2.2.1,r_148.2.2.2) (⟨#[32,124,32]⟩) x_29.2.2.1).bind fun r_159=>Zr (((⟨#[97,115,107]⟩:ByteArray)++r_148.1).size+r_159.1.size≤maxLen) ((T7 ((r_159.2.1.1,r_159.2.1.2),r_159.2.2.1,r_159.2.2.2) (((⟨#[97,115,107]⟩:ByteArray)++r_148.1)++r_159.1)).bind fun r_170=>Qa kk_L1 r_170.1.1 r_170.1.2 r_170.2.1 r_170.2.2 used_104 x_29.2.2.2.2.2.1 x_29.2.2.2.2.2.2))) else (if (decide (x_29.1=3))=true then (Za8 N kk_L1 x_29 used_104 x_29.2.1 v_116 v_117 v_121 v_122) else (Qa kk_L1 v_116 v_117 v_121 v_122 used_104 x_29.2.2.2.2.2.1 x_29.2.2.2.2.2.2)))
def Zev (N:Nat) (pruned_28:Bool) (kk_L1:(Bool→(List Int)→Int→Bool→ByteArray→Bool→Bool→Option (ByteArray×Int))) (x_29:(Int×(List (ByteArray×ByteArray))×(List (ByteArray×ByteArray))×Int×List ByteArray×(Bool×Bool))) (used_104:ByteArray) (v_107:Bool) (v_108:List Int) (v_112:Int) (v_113:Bool):Option (ByteArray×Int):=
  if (!decide (x_29.2.2.2.2.2.2=pruned_28))=true then (Zr ((⟨#[112,114,117,110,101,32]⟩:ByteArray).size+(⟨#[97,112,97,114,116]⟩:ByteArray).size≤maxLen) (Zr (((⟨#[112,114,117,110,101,32]⟩:ByteArray)++(⟨#[97,112,97,114,116]⟩)).size+(⟨#[32]⟩:ByteArray).size≤maxLen) ((some (Wr ([]:List (Bool×ByteArray)) true (⟨#[111,110]⟩))).bind fun es_252=>(some (Wr es_252 false (⟨#[111,102,102]⟩))).bind fun es_258=>Zr ((((⟨#[112,114,117,110,101,32]⟩:ByteArray)++(⟨#[97,112,97,114,116]⟩))++(⟨#[32]⟩)).size+((X4 es_258 x_29.2.2.2.2.2.2).getD (⟨#[]⟩)).size≤maxLen) ((T7 ((v_107,v_108),v_112,v_113) ((((⟨#[112,114,117,110,101,32]⟩:ByteArray)++(⟨#[97,112,97,114,116]⟩))++(⟨#[32]⟩))++((X4 es_258 x_29.2.2.2.2.2.2).getD (⟨#[]⟩)))).bind fun r_261=>Zew N kk_L1 x_29 used_104 r_261.1.1 r_261.1.2 r_261.2.1 r_261.2.2)))) else (Zew N kk_L1 x_29 used_104 v_107 v_108 v_112 v_113)
def Zeu (N:Nat) (pruned_27:Bool) (pruned_28:Bool) (kk_L1:(Bool→(List Int)→Int→Bool→ByteArray→Bool→Bool→Option (ByteArray×Int))) (x_29:(Int×(List (ByteArray×ByteArray))×(List (ByteArray×ByteArray))×Int×List ByteArray×(Bool×Bool))) (v_97:Bool) (v_98:List Int) (v_102:Int) (v_103:Bool) (used_104:ByteArray):Option (ByteArray×Int):=
  if (!decide (x_29.2.2.2.2.2.1=pruned_27))=true then (Zr ((⟨#[112,114,117,110,101,32]⟩:ByteArray).size+(⟨#[98,97,114,114,101,110]⟩:ByteArray).size≤maxLen) (Zr (((⟨#[112,114,117,110,101,32]⟩:ByteArray)++(⟨#[98,97,114,114,101,110]⟩)).size+(⟨#[32]⟩:ByteArray).size≤maxLen) ((some (Wr ([]:List (Bool×ByteArray)) true (⟨#[111,110]⟩))).bind fun es_282=>(some (Wr es_282 false (⟨#[111,102,102]⟩))).bind fun es_288=>Zr ((((⟨#[112,114,117,110,101,32]⟩:ByteArray)++(⟨#[98,97,114,114,101,110]⟩))++(⟨#[32]⟩)).size+((X4 es_288 x_29.2.2.2.2.2.1).getD (⟨#[]⟩)).size≤maxLen) ((T7 ((v_97,v_98),v_102,v_103) ((((⟨#[112,114,117,110,101,32]⟩:ByteArray)++(⟨#[98,97,114,114,101,110]⟩))++(⟨#[32]⟩))++((X4 es_288 x_29.2.2.2.2.2.1).getD (⟨#[]⟩)))).bind fun r_291=>Zev N pruned_28 kk_L1 x_29 used_104 r_291.1.1 r_291.1.2 r_291.2.1 r_291.2.2)))) else (Zev N pruned_28 kk_L1 x_29 used_104 v_97 v_98 v_102 v_103)
def Zet (N:Nat) (used_26:ByteArray) (pruned_27:Bool) (pruned_28:Bool) (kk_L1:(Bool→(List Int)→Int→Bool→ByteArray→Bool→Bool→Option (ByteArray×Int))) (x_29:(Int×(List (ByteArray×ByteArray))×(List (ByteArray×ByteArray))×Int×List ByteArray×(Bool×Bool))) (v_88:Bool) (v_89:List Int) (v_93:Int) (v_94:Bool):Option (ByteArray×Int):=
  (Zhd N ((v_88,v_89),v_93,v_94) (x_29.1,x_29.2.1,x_29.2.2.1,x_29.2.2.2.1,x_29.2.2.2.2.1,(x_29.2.2.2.2.2.1,x_29.2.2.2.2.2.2))).bind fun r_300=>if (!decide (r_300.1=used_26))=true then ((T7 ((r_300.2.1.1,r_300.2.1.2),r_300.2.2.1,r_300.2.2.2) r_300.1).bind fun r_309=>Zeu N pruned_27 pruned_28 kk_L1 x_29 r_309.1.1 r_309.1.2 r_309.2.1 r_309.2.2 r_300.1) else (Zeu N pruned_27 pruned_28 kk_L1 x_29 r_300.2.1.1 r_300.2.1.2 r_300.2.2.1 r_300.2.2.2 used_26)
def V7 (N:Nat):List (Int×(List (ByteArray×ByteArray))×(List (ByteArray×ByteArray))×Int×List ByteArray×(Bool×Bool))→Bool→(List Int)→Int→Bool→ByteArray→Bool→Bool→Option (ByteArray×Int)
  | [],v_19,v_20,v_24,v_25,used_26,pruned_27,pruned_28=>if v_25=true then (Zes v_19 v_20 v_24 v_25 true) else (Zes v_19 v_20 v_24 v_25 (decide (4096<v_24)))
  | x_29 :: l_30,v_19,v_20,v_24,v_25,used_26,pruned_27,pruned_28=>if v_25=true then (Zet N used_26 pruned_27 pruned_28 (V7 N l_30) x_29 v_19 v_20 v_24 true) else ((Q5 (x_29.1,x_29.2.1,x_29.2.2.1,x_29.2.2.2.1,x_29.2.2.2.2.1,(x_29.2.2.2.2.2.1,x_29.2.2.2.2.2.2))).bind fun r_323=>Zet N used_26 pruned_27 pruned_28 (V7 N l_30) x_29 v_19 v_20 v_24 (!r_323))
termination_by structural x=>x
def Zer (N:Nat) (p0_l:(List (Int×(List (ByteArray×ByteArray))×(List (ByteArray×ByteArray))×Int×List ByteArray×(Bool×Bool)))):Option (ByteArray×Int):=
  V7 N p0_l false ([]:List Int) 0 false (⟨#[117,115,101,32,102,105,108,108]⟩) false false
theorem Zq7 {N cap0:Nat} {a0:Option Addr} {col:Zc} {w0:World} {p0_l:(List (Int×(List (ByteArray×ByteArray))×(List (ByteArray×ByteArray))×Int×List ByteArray×(Bool×Bool)))} {r:(ByteArray×Int)} (hm:Zer N p0_l=some r) (h0:Sl (Za.pair (Za.int .i8) (Za.pair (Za.slice (Za.pair Za.str Za.str)) (Za.pair (Za.slice (Za.pair Za.str Za.str)) (Za.pair (Za.int .i8) (Za.pair (Za.slice Za.str) (Za.pair Za.bool Za.bool)))))) col w0 a0 cap0 p0_l):
    Calls prog 10 #[.slice a0 p0_l.length cap0] w0 (fun e w'=>e= .returned (.tuple #[.string r.1,.int .i64 r.2])∧Below w0.heap.size w0 w'):=by
 refine Zcb 2 3 (m:=136) (args:=[.slice a0 p0_l.length cap0]) func10 O O O O O ?_;rw [Zer.eq_1] at hm;have hst:=St.start col w0;refine go ?_;refine Xy (col:=(Zi col)) #[.pointer none,.slice none (([]:List Int).length) 0,.int .i64 0,.bool false] 1 zeroValue84 ?_;intro g_1 w_2 col_3 hg_4 hb_5;refine go ?_;refine lV (.agg #[.bool false,.bool false]) (Zpu underlying48 sizeOf4 zeroValue48 O)<|Xy (col:=col_3) #[.bool false,.bool false] 2 zeroValue48 ?_;intro g_6 w_7 col_8 hg_9 hb_10;refine Zi4 O<|Xi hb_10 ?_;intro w_11 hk_12 hs_13 hb_14;refine go ?_;replace hst:=((hst.grow hg_4).grow hg_9).kp hk_12 hs_13;replace hb_5:=(hb_5.gr hg_9).kp hk_12;refine Z5 [16,17,4,6,1000000] (fun n f w_17=>∃ col_18 k_15 v_19 a_21 cap_22 v_20 v_24 v_25 used_26 pruned_27 pruned_28 l_16,n=l_16.length∧p0_l.drop k_15=l_16∧V7 N l_16 v_19 v_20 v_24 v_25 used_26 pruned_27 pruned_28=some r∧St w0 (Zi col) col_18 w_17∧Zb (Za.int .u8) 5 3 col_18 w_17 a_21 cap_22 v_20∧Zd 84 1 col_18 w_17 g_1 #[.pointer (bif v_19 then some ⟨g_1,0,none⟩ else none),.slice a_21 v_20.length cap_22,.int .i64 v_24,.bool v_25]∧Zd 48 2 col_18 w_17 g_6 #[.bool pruned_27,.bool pruned_28]∧[18,5].map f=[.int .i64 k_15,.string used_26]) p0_l.length ⟨_,0,_,none,0,_,0,_,_,_,_,_,O,O,hm,hst,Zb.nil,hb_5,hb_14,O⟩ ?_;clear hm;intro n f w_17 hI;obtain ⟨col_18,k_15,v_19,a_21,cap_22,v_20,v_24,v_25,used_26,pruned_27,pruned_28,l_16,hn,hl,hm,hst,h_23,hb_5,hb_14,hs⟩:=hI;subst hn;refine .lL [18,5] hs ?_;replace h0:=h0.keep (Zk.start col w0)
 cases l_16 with
 | nil=>
  have hk:¬ ((k_15:Int)<(p0_l.length:Int)):=by have:=List.drop_eq_nil_iff.1 hl;omega
  have hkb:=decide_eq_false hk;rw [V7.eq_1] at hm;refine go ?_;refine Yd (congrArg Value.bool hkb) ?_;refine Qm (Qu ?_);refine Zn<|Zn ?_;refine Wp.cutK [4,1000000] (fun f w_33=>∃ col_34 v_35,Zes v_19 v_20 v_24 v_25 v_35=some r∧St w0 (Zi col) col_34 w_33∧Zb (Za.int .u8) 5 3 col_34 w_33 a_21 cap_22 v_20∧Zd 84 1 col_34 w_33 g_1 #[.pointer (bif v_19 then some ⟨g_1,0,none⟩ else none),.slice a_21 v_20.length cap_22,.int .i64 v_24,.bool v_25]∧[131].map f=[.bool v_35]) ?_ ?_
  ·intro f w_33 hJ;obtain ⟨col_34,v_35,hm,hst,h_23,hb_5,hs⟩:=hJ;rw [Zes.eq_1] at hm;refine .lL [131] hs ?_;refine Zl hm (fun hb hm=>go ?_) fun hb hm=>go ?_
   ·cases hm;exact ⟨O,O,hst.below⟩
   refine lV (.pointer (some ⟨g_1,0,none⟩)) (Z4 O)<|Z0 ⟨_,_,O⟩ ?_;obtain ⟨r_36,hr_37,hm⟩:=bZ hm;refine Zf (Zyj col_34 _ 1 3 O g_1 ((v_19,v_20),v_24,v_25) a_21 cap_22 h_23 hb_5 r_36 hr_37) ?_;rintro _ w_38 ⟨col_40,rfl,hg_39⟩;refine ⟨_,O,go ?_⟩;cases hm;replace hst:=hst.kpp hg_39;exact ⟨O,O,hst.below⟩
  refine go ?_;refine lV (.pointer (some ⟨g_1,0,none⟩)) (Z4 O)<|Z2 hb_5<|Xw O ?_;refine Z6 hm (fun hg_41 hm=>go ?_) fun hg_41 hm=>go ?_
  ·refine lV (.bool true) (Zw (congrArg Value.bool hg_41) O)<|Zh ?_;exact ⟨O,_,_,hm,hst,h_23,hb_5,O⟩
  refine lV (.pointer (some ⟨g_1,0,none⟩)) (Z4 O)<|go ?_;refine Z0 ⟨_,_,O⟩ ?_;refine go ?_;refine lW ((hb_5.atN).nth (q:=2) O)<|go ?_;refine lV (.bool (decide (4096<v_24))) (Zx (congrArg Value.bool hg_41) O)<|Zh ?_;exact ⟨O,_,_,hm,hst,h_23,hb_5,O⟩
 | cons x_29 l_30=>
  obtain ⟨hat,hl2_L1,hlt_L1⟩:=Yx hl;have hk:(k_15:Int)<(p0_l.length:Int):=by omega
  have hkb:=decide_eq_true hk;rw [V7.eq_2] at hm;refine go ?_;refine X8 (congrArg Value.bool hkb)<|Zy<|Zn ?_;refine Wp.cutK [16,17,18,4,6,1000000] (fun f w_42=>∃ col_43 v_44 a_46 cap_47 v_45 v_49 v_50 used_51 pruned_52 pruned_53,Qa (V7 N l_30) v_44 v_45 v_49 v_50 used_51 pruned_52 pruned_53=some r∧St w0 (Zi col) col_43 w_42∧Zb (Za.int .u8) 5 3 col_43 w_42 a_46 cap_47 v_45∧Zd 84 1 col_43 w_42 g_1 #[.pointer (bif v_44 then some ⟨g_1,0,none⟩ else none),.slice a_46 v_45.length cap_47,.int .i64 v_49,.bool v_50]∧Zd 48 2 col_43 w_42 g_6 #[.bool pruned_52,.bool pruned_53]∧[5].map f=[.string used_51]) ?_ ?_
  ·intro f w_42 hJ;obtain ⟨col_43,v_44,a_46,cap_47,v_45,v_49,v_50,used_51,pruned_52,pruned_53,hm,hst,h_48,hb_5,hb_14,hs⟩:=hJ;rw [Qa.eq_1] at hm;refine .lL [5] hs<|go ?_;exact ⟨l_30.length,by simp,O,⟨_,_,_,_,_,_,_,_,_,_,_,_,O,hl2_L1,hm,hst,h_48,hb_5,hb_14,(Y6 (congrArg (Value.int .i64) (Y0 (Nat.lt_of_lt_of_le hlt_L1 (h0.ks hst).1.1))) O)⟩⟩
  refine go ?_;refine lI hat ((h0.ks hst).addr hat) ?_;obtain ⟨_,hr_54,hA_55⟩:=(h0.ks hst).atN hat;obtain ⟨_,_,rfl,hp_56,hp_57⟩:=Ym hr_54;obtain ⟨rfl,_⟩:=hp_56;obtain ⟨_,_,rfl,hp_58,hp_59⟩:=Ym hp_57;obtain ⟨⟨a_60,cap_61,rfl,h_62⟩,_⟩:=hp_58;obtain ⟨_,_,rfl,hp_63,hp_64⟩:=Ym hp_59;obtain ⟨⟨a_65,cap_66,rfl,h_67⟩,_⟩:=hp_63;obtain ⟨_,_,rfl,hp_68,hp_69⟩:=Ym hp_64;obtain ⟨rfl,_⟩:=hp_68;obtain ⟨_,_,rfl,hp_70,hp_71⟩:=Ym hp_69;obtain ⟨⟨a_72,cap_73,rfl,h_74⟩,_⟩:=hp_70;obtain ⟨_,_,rfl,hp_75,hp_76⟩:=Ym hp_71;obtain ⟨rfl,_⟩:=hp_75;obtain ⟨rfl,_⟩:=hp_76;refine lV (.agg #[.int .i8 x_29.1,.slice a_60 x_29.2.1.length cap_61,.slice a_65 x_29.2.2.1.length cap_66,.int .i8 x_29.2.2.2.1,.slice a_72 x_29.2.2.2.2.1.length cap_73,.bool x_29.2.2.2.2.2.1,.bool x_29.2.2.2.2.2.2]) (Ws isAgg50 sizeOf50 O O hA_55)<|Xy (col:=col_18) #[.int .i8 0,.slice none (([]:List (ByteArray×ByteArray)).length) 0,.slice none (([]:List (ByteArray×ByteArray)).length) 0,.int .i8 0,.slice none (([]:List ByteArray).length) 0,.bool false,.bool false] 4 zeroValue50 ?_;intro g_77 w_78 col_79 hg_80 hb_81;refine Xi hb_81 ?_;intro w_82 hk_83 hs_84 hb_85;refine Zh<|Zn ?_;replace h_23:=(h_23.gr hg_80).kp hk_83;replace h_62:=(h_62.gr hg_80).kp hk_83;replace h_67:=(h_67.gr hg_80).kp hk_83;replace h_74:=(h_74.gr hg_80).kp hk_83;replace hb_5:=(hb_5.gr hg_80).kp hk_83;replace hb_14:=(hb_14.gr hg_80).kp hk_83;replace hst:=(hst.grow hg_80).kp hk_83 hs_84;refine Wp.cutK [16,17,18,4,5,6,8,1000000] (fun f w_86=>∃ col_87 v_88 a_90 cap_91 v_89 v_93 v_94,Zet N used_26 pruned_27 pruned_28 (V7 N l_30) x_29 v_88 v_89 v_93 v_94=some r∧St w0 (Zi col) col_87 w_86∧Zb (Za.int .u8) 5 3 col_87 w_86 a_90 cap_91 v_89∧Zd 84 1 col_87 w_86 g_1 #[.pointer (bif v_88 then some ⟨g_1,0,none⟩ else none),.slice a_90 v_89.length cap_91,.int .i64 v_93,.bool v_94]∧Zd 48 2 col_87 w_86 g_6 #[.bool pruned_27,.bool pruned_28]∧Sl (Za.pair Za.str Za.str) col_87 w_86 a_60 cap_61 x_29.2.1∧Sl (Za.pair Za.str Za.str) col_87 w_86 a_65 cap_66 x_29.2.2.1∧Sl Za.str col_87 w_86 a_72 cap_73 x_29.2.2.2.2.1∧Zd 50 4 col_87 w_86 g_77 #[.int .i8 x_29.1,.slice a_60 x_29.2.1.length cap_61,.slice a_65 x_29.2.2.1.length cap_66,.int .i8 x_29.2.2.2.1,.slice a_72 x_29.2.2.2.2.1.length cap_73,.bool x_29.2.2.2.2.2.1,.bool x_29.2.2.2.2.2.2]) ?_ ?_
  ·intro f w_86 hJ;obtain ⟨col_87,v_88,a_90,cap_91,v_89,v_93,v_94,hm,hst,h_92,hb_5,hb_14,h_62,h_67,h_74,hb_85⟩:=hJ;rw [Zet.eq_1] at hm;refine Zn ?_;refine Wp.cutK [16,17,18,4,6,8,1000000] (fun f w_95=>∃ col_96 v_97 a_99 cap_100 v_98 v_102 v_103 used_104,Zeu N pruned_27 pruned_28 (V7 N l_30) x_29 v_97 v_98 v_102 v_103 used_104=some r∧St w0 (Zi col) col_96 w_95∧Zb (Za.int .u8) 5 3 col_96 w_95 a_99 cap_100 v_98∧Zd 84 1 col_96 w_95 g_1 #[.pointer (bif v_97 then some ⟨g_1,0,none⟩ else none),.slice a_99 v_98.length cap_100,.int .i64 v_102,.bool v_103]∧Zd 48 2 col_96 w_95 g_6 #[.bool pruned_27,.bool pruned_28]∧Sl (Za.pair Za.str Za.str) col_96 w_95 a_60 cap_61 x_29.2.1∧Sl (Za.pair Za.str Za.str) col_96 w_95 a_65 cap_66 x_29.2.2.1∧Sl Za.str col_96 w_95 a_72 cap_73 x_29.2.2.2.2.1∧Zd 50 4 col_96 w_95 g_77 #[.int .i8 x_29.1,.slice a_60 x_29.2.1.length cap_61,.slice a_65 x_29.2.2.1.length cap_66,.int .i8 x_29.2.2.2.1,.slice a_72 x_29.2.2.2.2.1.length cap_73,.bool x_29.2.2.2.2.2.1,.bool x_29.2.2.2.2.2.2]∧[5].map f=[.string used_104]) ?_ ?_
   ·intro f w_95 hJ;obtain ⟨col_96,v_97,a_99,cap_100,v_98,v_102,v_103,used_104,hm,hst,h_101,hb_5,hb_14,h_62,h_67,h_74,hb_85,hs⟩:=hJ;rw [Zeu.eq_1] at hm;refine .lL [5] hs<|go ?_;refine lV (.agg #[.string (⟨#[98,97,114,114,101,110]⟩),.string (⟨#[97,112,97,114,116]⟩)]) (Zpu underlying87 sizeOf9 zeroValue87 O)<|go ?_;refine Z28 3<|Zqp<|go ?_;refine X8 O<|Zy<|Zn ?_;refine Wp.cutK [16,17,18,4,44,45,5,6,8,1000000] (fun f w_105=>∃ col_106 v_107 a_109 cap_110 v_108 v_112 v_113,Zev N pruned_28 (V7 N l_30) x_29 used_104 v_107 v_108 v_112 v_113=some r∧St w0 (Zi col) col_106 w_105∧Zb (Za.int .u8) 5 3 col_106 w_105 a_109 cap_110 v_108∧Zd 84 1 col_106 w_105 g_1 #[.pointer (bif v_107 then some ⟨g_1,0,none⟩ else none),.slice a_109 v_108.length cap_110,.int .i64 v_112,.bool v_113]∧Zd 48 2 col_106 w_105 g_6 #[.bool pruned_27,.bool pruned_28]∧Sl (Za.pair Za.str Za.str) col_106 w_105 a_60 cap_61 x_29.2.1∧Sl (Za.pair Za.str Za.str) col_106 w_105 a_65 cap_66 x_29.2.2.1∧Sl Za.str col_106 w_105 a_72 cap_73 x_29.2.2.2.2.1∧Zd 50 4 col_106 w_105 g_77 #[.int .i8 x_29.1,.slice a_60 x_29.2.1.length cap_61,.slice a_65 x_29.2.2.1.length cap_66,.int .i8 x_29.2.2.2.1,.slice a_72 x_29.2.2.2.2.1.length cap_73,.bool x_29.2.2.2.2.2.1,.bool x_29.2.2.2.2.2.2]) ?_ ?_
    ·intro f w_105 hJ;obtain ⟨col_106,v_107,a_109,cap_110,v_108,v_112,v_113,hm,hst,h_111,hb_5,hb_14,h_62,h_67,h_74,hb_85⟩:=hJ;rw [Zev.eq_1] at hm;refine go ?_;refine Zqp<|go ?_;refine X8 O<|Zy<|Zn ?_;refine Wp.cutK [16,17,18,4,44,45,5,6,8,1000000] (fun f w_114=>∃ col_115 v_116 a_118 cap_119 v_117 v_121 v_122,Zew N (V7 N l_30) x_29 used_104 v_116 v_117 v_121 v_122=some r∧St w0 (Zi col) col_115 w_114∧Zb (Za.int .u8) 5 3 col_115 w_114 a_118 cap_119 v_117∧Zd 84 1 col_115 w_114 g_1 #[.pointer (bif v_116 then some ⟨g_1,0,none⟩ else none),.slice a_118 v_117.length cap_119,.int .i64 v_121,.bool v_122]∧Zd 48 2 col_115 w_114 g_6 #[.bool pruned_27,.bool pruned_28]∧Sl (Za.pair Za.str Za.str) col_115 w_114 a_60 cap_61 x_29.2.1∧Sl (Za.pair Za.str Za.str) col_115 w_114 a_65 cap_66 x_29.2.2.1∧Sl Za.str col_115 w_114 a_72 cap_73 x_29.2.2.2.2.1∧Zd 50 4 col_115 w_114 g_77 #[.int .i8 x_29.1,.slice a_60 x_29.2.1.length cap_61,.slice a_65 x_29.2.2.1.length cap_66,.int .i8 x_29.2.2.2.1,.slice a_72 x_29.2.2.2.2.1.length cap_73,.bool x_29.2.2.2.2.2.1,.bool x_29.2.2.2.2.2.2]) ?_ ?_
     ·intro f w_114 hJ;obtain ⟨col_115,v_116,a_118,cap_119,v_117,v_121,v_122,hm,hst,h_120,hb_5,hb_14,h_62,h_67,h_74,hb_85⟩:=hJ;rw [Zew.eq_1] at hm;refine go ?_;refine Zqp<|go ?_;refine Yd O<|go ?_;refine Z0 ⟨_,_,O⟩ ?_;refine lV (.agg #[.bool x_29.2.2.2.2.2.1,.bool x_29.2.2.2.2.2.2]) (Ws isAgg48 sizeOf48 O O ((hb_85.atN).part 5 2 _ O))<|Xi hb_14 ?_;intro w_123 hk_124 hs_125 hb_126;refine go ?_;refine Z0 ⟨_,_,O⟩ ?_;replace hb_85:=hb_85.kp hk_124;refine lW ((hb_85.atN).nth (q:=0) O)<|go ?_;replace h_120:=h_120.kp hk_124;replace h_62:=h_62.kp hk_124;replace h_67:=h_67.kp hk_124;replace h_74:=h_74.kp hk_124;replace hb_5:=hb_5.kp hk_124;replace hst:=hst.kp hk_124 hs_125;refine Zl hm (fun hb hm=>go ?_) fun hb hm=>go ?_
      ·refine Z2 hb_85 ?_;obtain ⟨r_127,hr_128,hm⟩:=bZ hm;refine Zf (Zin 1 3 hr_128 O h_120 hb_5 h_62) ?_;rintro _ w_133 ⟨col_135,oa_129,oc_130,rfl,hg_134,oh_131,ohb_132⟩;refine ⟨_,O,?_⟩;obtain ⟨hb_136,hm⟩:=Zu hm;refine lV (.string ((⟨#[99,104,97,110,99,101]⟩:ByteArray)++r_127.1)) (Un underlying9 O O hb_136) ?_;obtain ⟨r_137,hr_138,hm⟩:=bZ hm;refine Zf (Zdy 1 3 hr_138 O oh_131 ohb_132) ?_;rintro _ w_143 ⟨col_145,oa_139,oc_140,rfl,hg_144,oh_141,ohb_142⟩;refine ⟨_,O,?_⟩;refine Zh ?_;replace hb_126:=(hb_126.kpp hg_134).kpp hg_144;replace hst:=(hst.kpp hg_134).kpp hg_144;exact ⟨O,_,_,_,_,_,_,_,_,_,_,hm,hst,oh_141,ohb_142,hb_126,O⟩
      refine Zl hm (fun hb hm=>?_) fun hb hm=>go ?_
      ·refine Zml (col:=col_115) (pS [1,3]) [(0,1),(1,1),(2,1),(3,0),(6,1),(7,1),(8,5),(4,4),(5,1),(9,2),(10,1),(11,2)] (by kernel_rfl) (by kernel_rfl)<|W0 (v:=(.pointer (some ⟨g_1,0,none⟩))) O O (fun _=>Wn O) ?_;refine W0 (v:=(.pointer (some ⟨g_1,0,none⟩))) O O (fun _=>Wn O) ?_;refine W0 (v:=(.pointer ((some (⟨g_77,0,none⟩:Addr)).map (·.add 1)))) O O (fun _=>Te (sz:=1) (off:=1) underlying50 O sizeOf47 (by decide) O O ⟨_,_,O⟩) ?_;refine Zfp (v:=(.slice a_60 x_29.2.1.length cap_61)) O O (fun _ hC=>Tf isAgg47 O (((hb_85.atN).nth (q:=1) (v:=(.slice a_60 x_29.2.1.length cap_61)) O).gr (hC.bl col_115))) ?_;refine W0 (v:=(.pointer (some ⟨g_1,0,none⟩))) O O (fun _=>Wn O) ?_;refine W0 (v:=(.pointer ((some (⟨g_77,0,none⟩:Addr)).map (·.add 2)))) O O (fun _=>Te (sz:=1) (off:=2) underlying50 O sizeOf47 (by decide) O O ⟨_,_,O⟩) ?_;refine Zmp (v:=(.slice a_65 x_29.2.2.1.length cap_66)) O O (fun _ hC=>Tf isAgg47 O (((hb_85.dk hC O O).atN).nth (q:=2) (v:=(.slice a_65 x_29.2.2.1.length cap_66)) O)) ?_;refine Tv O O ?_;intro w_146 hC0;have hC:=hC0.bl col_115;replace h_120:=h_120.gr hC;replace h_62:=h_62.gr hC;replace h_67:=h_67.gr hC;replace hb_5:=hb_5.gr hC;replace hb_126:=hb_126.gr hC;replace hst:=hst.grow hC;have hkd_147:Zp (pS [1,3]) col_115 w_123 col_115 w_146:=hC.toP;obtain ⟨r_148,hr_149,hm⟩:=bZ hm;refine Zf (Zin 1 3 hr_149 O h_120 hb_5 h_62) ?_;rintro _ w_154 ⟨col_156,oa_150,oc_151,rfl,hg_155,oh_152,ohb_153⟩;refine ⟨_,O,?_⟩;replace h_67:=h_67.kpp hg_155;replace hb_126:=hb_126.kpp hg_155;replace hkd_147:=hkd_147.trans (hg_155.mono (by first | exact Zlp O | exact pS_p1 O | exact Zlq O));refine Zh ?_;refine ⟨fun w'=>Zg col_156 w_154 col_156 w',fun w'=>∃ c',Zp (pS [1,3]) col_156 w_154 c' w',Zg.refl _ _,fun _ h=>⟨_,h.toP⟩,fun h=>absurd h (by decide),fun _ _ ⟨c9,h⟩=>⟨c9,hkd_147.trans h⟩,?_⟩;obtain ⟨hb_157,hm⟩:=Zu hm;refine W0 (v:=(.string ((⟨#[97,115,107]⟩:ByteArray)++r_148.1))) O O (fun _=>Un underlying9 O O hb_157) ?_;refine Tv O O ?_;intro w_158 hC0;have hC:=hC0.bl col_156;obtain ⟨r_159,hr_160,hm⟩:=bZ hm;replace oh_152:=oh_152.gr hC;replace h_67:=h_67.gr hC;replace ohb_153:=ohb_153.gr hC;refine Zf (Zin 1 3 hr_160 O oh_152 ohb_153 h_67) ?_;rintro _ w_165 ⟨col_167,oa_161,oc_162,rfl,hg_166,oh_163,ohb_164⟩;refine ⟨_,O,?_⟩;refine Zh ?_
       refine ⟨fun w'=>Zg col_167 w_165 col_167 w',fun w'=>∃ c',Zp (pS [1,3]) col_167 w_165 c' w',Zg.refl _ _,fun _ h=>⟨_,h.toP⟩,fun h=>absurd h (by decide),fun h=>absurd h (by decide),?_⟩;obtain ⟨hb_168,hm⟩:=Zu hm;refine W0 (v:=(.string (((⟨#[97,115,107]⟩:ByteArray)++r_148.1)++r_159.1))) O O (fun _=>Un underlying9 O O hb_168) ?_;refine Tv O O ?_;intro w_169 hC0;replace hst:=((hst.kpp hg_155).grow hC).kpp hg_166;replace hb_126:=(hb_126.gr hC).kpp hg_166;have hC:=hC0.bl col_167;obtain ⟨r_170,hr_171,hm⟩:=bZ hm;replace oh_163:=oh_163.gr hC;replace ohb_164:=ohb_164.gr hC;refine Zf (Zdy 1 3 hr_171 O oh_163 ohb_164) ?_;rintro _ w_176 ⟨col_178,oa_172,oc_173,rfl,hg_177,oh_174,ohb_175⟩;refine ⟨_,O,?_⟩;refine Zh ?_;refine ⟨fun w'=>Zg col_178 w_176 col_178 w',fun w'=>∃ c',Zp (pS [1,3]) col_178 w_176 c' w',Zg.refl _ _,fun _ h=>⟨_,h.toP⟩,fun h=>absurd h (by decide),fun h=>absurd h (by decide),?_⟩;refine Zmo ?_;replace hb_126:=(hb_126.gr hC).kpp hg_177;replace hst:=(hst.grow hC).kpp hg_177;intro w_179 hC;replace hC:=hC.bl col_178;replace oh_174:=oh_174.gr hC;replace ohb_175:=ohb_175.gr hC;replace hb_126:=hb_126.gr hC;replace hst:=hst.grow hC;exact ⟨O,_,_,_,_,_,_,_,_,_,_,hm,hst,oh_174,ohb_175,hb_126,O⟩
      refine Zl hm (fun hb hm=>go ?_) fun hb hm=>?_
      ·refine Z2 hb_85 ?_;refine go ?_;refine Z5 [101,102,16,17,18,4,5,6,8,1000000] (fun n f w_182=>∃ col_183 k_180 v_184 a_186 cap_187 v_185 v_189 v_190 l_181,n=l_181.length∧x_29.2.1.drop k_180=l_181∧Za8 N (V7 N l_30) x_29 used_104 l_181 v_184 v_185 v_189 v_190=some r∧St w0 (Zi col) col_183 w_182∧Sl (Za.pair Za.str Za.str) col_183 w_182 a_60 cap_61 x_29.2.1∧Zb (Za.int .u8) 5 3 col_183 w_182 a_186 cap_187 v_185∧Zd 84 1 col_183 w_182 g_1 #[.pointer (bif v_184 then some ⟨g_1,0,none⟩ else none),.slice a_186 v_185.length cap_187,.int .i64 v_189,.bool v_190]∧Zd 48 2 col_183 w_182 g_6 #[.bool x_29.2.2.2.2.2.1,.bool x_29.2.2.2.2.2.2]∧Sl (Za.pair Za.str Za.str) col_183 w_182 a_65 cap_66 x_29.2.2.1∧Sl Za.str col_183 w_182 a_72 cap_73 x_29.2.2.2.2.1∧Zd 50 4 col_183 w_182 g_77 #[.int .i8 x_29.1,.slice a_60 x_29.2.1.length cap_61,.slice a_65 x_29.2.2.1.length cap_66,.int .i8 x_29.2.2.2.1,.slice a_72 x_29.2.2.2.2.1.length cap_73,.bool x_29.2.2.2.2.2.1,.bool x_29.2.2.2.2.2.2]∧[103].map f=[.int .i64 k_180]) x_29.2.1.length ⟨_,0,_,_,_,_,_,_,_,O,O,hm,hst,h_62,h_120,hb_5,hb_126,h_67,h_74,hb_85,O⟩ ?_;clear hm;intro n f w_182 hI;obtain ⟨col_183,k_180,v_184,a_186,cap_187,v_185,v_189,v_190,l_181,hn,hl,hm,hst,h_62,h_188,hb_5,hb_126,h_67,h_74,hb_85,hs⟩:=hI;subst hn;refine .lL [103] hs ?_
       cases l_181 with
       | nil=>
        have hk:¬ ((k_180:Int)<(x_29.2.1.length:Int)):=by have:=List.drop_eq_nil_iff.1 hl;omega
        have hkb:=decide_eq_false hk;rw [Za8.eq_1] at hm;refine go ?_;refine Yd (congrArg Value.bool hkb)<|go ?_;exact ⟨O,_,_,_,_,_,_,_,_,_,_,hm,hst,h_188,hb_5,hb_126,O⟩
       | cons x_191 l_192=>
        obtain ⟨hat,hl2_L2,hlt_L2⟩:=Yx hl;have hk:(k_180:Int)<(x_29.2.1.length:Int):=by omega
        have hkb:=decide_eq_true hk;rw [Za8.eq_2] at hm;refine go ?_;refine X8 (congrArg Value.bool hkb)<|go ?_;refine lI hat (h_62.addr hat) ?_;obtain ⟨_,hr_193,hA_194⟩:=h_62.atN hat;obtain ⟨_,_,rfl,hp_195,hp_196⟩:=Ym hr_193;obtain ⟨rfl,_⟩:=hp_195;obtain ⟨rfl,_⟩:=hp_196;refine lV (.agg #[.string x_191.1,.string x_191.2]) (Ws isAgg56 sizeOf56 O O hA_194)<|Xy (col:=col_183) #[.string (⟨#[]⟩),.string (⟨#[]⟩)] 5 zeroValue56 ?_;intro g_197 w_198 col_199 hg_200 hb_201;refine Xi hb_201 ?_;intro w_202 hk_203 hs_204 hb_205;refine Zh<|Zml (col:=col_199) (pS [1,3]) [(0,1),(1,1),(2,1),(3,0),(6,1),(7,1),(8,5),(4,4),(5,1),(9,2),(10,1),(11,2)] (by kernel_rfl) (by kernel_rfl)<|W0 (v:=(.pointer (some ⟨g_1,0,none⟩))) O O (fun _=>Wn O) ?_;refine W0 (v:=(.pointer (some ⟨g_1,0,none⟩))) O O (fun _=>Wn O) ?_;refine W0 (v:=(.pointer ((some (⟨g_197,0,none⟩:Addr)).map (·.add 0)))) O O (fun _=>Te (sz:=1) (off:=0) underlying56 O sizeOf9 (by decide) O O ⟨_,_,O⟩) ?_;refine Zfp (v:=(.string x_191.1)) O O (fun _ hC=>Tf isAgg9 O (((hb_205.atN).nth (q:=0) (v:=(.string x_191.1)) O).gr (hC.bl col_199))) ?_;refine W0 (v:=(.pointer (some ⟨g_1,0,none⟩))) O O (fun _=>Wn O) ?_;refine W0 (v:=(.pointer ((some (⟨g_77,0,none⟩:Addr)).map (·.add 2)))) O O (fun _=>Te (sz:=1) (off:=2) underlying50 O sizeOf47 (by decide) O O ⟨_,_,O⟩) ?_;replace hb_85:=(hb_85.gr hg_200).kp hk_203;refine Zmp (v:=(.slice a_65 x_29.2.2.1.length cap_66)) O O (fun _ hC=>Tf isAgg47 O (((hb_85.dk hC O O).atN).nth (q:=2) (v:=(.slice a_65 x_29.2.2.1.length cap_66)) O)) ?_;refine Tv O O ?_;intro w_206 hC0;have hC:=hC0.bl col_199;replace h_62:=((h_62.gr hg_200).kp hk_203).gr hC;replace h_188:=((h_188.gr hg_200).kp hk_203).gr hC;replace h_67:=((h_67.gr hg_200).kp hk_203).gr hC;replace h_74:=((h_74.gr hg_200).kp hk_203).gr hC;replace hb_5:=((hb_5.gr hg_200).kp hk_203).gr hC;replace hb_126:=((hb_126.gr hg_200).kp hk_203).gr hC;replace hst:=((hst.grow hg_200).kp hk_203 hs_204).grow hC;replace hb_85:=hb_85.gr hC;have hkd_207:Zp (pS [1,3]) col_199 w_202 col_199 w_206:=hC.toP;obtain ⟨r_208,hr_209,hm⟩:=bZ hm;refine Zf (Zim 1 3 hr_209 O h_188 hb_5) ?_;rintro _ w_214 ⟨col_216,oa_210,oc_211,rfl,hg_215,oh_212,ohb_213⟩;refine ⟨_,O,?_⟩;replace h_62:=h_62.kpp hg_215;replace h_67:=h_67.kpp hg_215;replace h_74:=h_74.kpp hg_215;replace hb_126:=hb_126.kpp hg_215;replace hb_85:=hb_85.kpp hg_215;replace hkd_207:=hkd_207.trans (hg_215.mono (by first | exact Zlp O | exact pS_p1 O | exact Zlq O));refine Zh ?_
        refine ⟨fun w'=>Zg col_216 w_214 col_216 w',fun w'=>∃ c',Zp (pS [1,3]) col_216 w_214 c' w',Zg.refl _ _,fun _ h=>⟨_,h.toP⟩,fun h=>absurd h (by decide),fun _ _ ⟨c9,h⟩=>⟨c9,hkd_207.trans h⟩,?_⟩;obtain ⟨hb_217,hm⟩:=Zu hm;refine W0 (v:=(.string ((⟨#[97,108,108,32]⟩:ByteArray)++r_208.1))) O O (fun _=>Un underlying9 O O hb_217) ?_;refine Tv O O ?_;intro w_218 hC0;have hC:=hC0.bl col_216;obtain ⟨r_219,hr_220,hm⟩:=bZ hm;replace oh_212:=oh_212.gr hC;replace h_67:=h_67.gr hC;replace ohb_213:=ohb_213.gr hC;refine Zf (Zin 1 3 hr_220 O oh_212 ohb_213 h_67) ?_;rintro _ w_225 ⟨col_227,oa_221,oc_222,rfl,hg_226,oh_223,ohb_224⟩;refine ⟨_,O,?_⟩;refine Zh ?_;refine ⟨fun w'=>Zg col_227 w_225 col_227 w',fun w'=>∃ c',Zp (pS [1,3]) col_227 w_225 c' w',Zg.refl _ _,fun _ h=>⟨_,h.toP⟩,fun h=>absurd h (by decide),fun h=>absurd h (by decide),?_⟩;obtain ⟨hb_228,hm⟩:=Zu hm;refine W0 (v:=(.string (((⟨#[97,108,108,32]⟩:ByteArray)++r_208.1)++r_219.1))) O O (fun _=>Un underlying9 O O hb_228) ?_;refine Tv O O ?_;intro w_229 hC0;replace hst:=((hst.kpp hg_215).grow hC).kpp hg_226;replace h_62:=(h_62.gr hC).kpp hg_226;replace h_74:=(h_74.gr hC).kpp hg_226;replace hb_126:=(hb_126.gr hC).kpp hg_226;replace hb_85:=(hb_85.gr hC).kpp hg_226;have hC:=hC0.bl col_227;obtain ⟨r_230,hr_231,hm⟩:=bZ hm;replace oh_223:=oh_223.gr hC;replace ohb_224:=ohb_224.gr hC;refine Zf (Zdy 1 3 hr_231 O oh_223 ohb_224) ?_;rintro _ w_236 ⟨col_238,oa_232,oc_233,rfl,hg_237,oh_234,ohb_235⟩;refine ⟨_,O,?_⟩;refine Zh ?_;refine ⟨fun w'=>Zg col_238 w_236 col_238 w',fun w'=>∃ c',Zp (pS [1,3]) col_238 w_236 c' w',Zg.refl _ _,fun _ h=>⟨_,h.toP⟩,fun h=>absurd h (by decide),fun h=>absurd h (by decide),?_⟩;refine Zmo ?_;replace h_67:=((h_67.kpp hg_226).gr hC).kpp hg_237;replace h_62:=(h_62.gr hC).kpp hg_237;replace h_74:=(h_74.gr hC).kpp hg_237;replace hb_126:=(hb_126.gr hC).kpp hg_237;replace hb_85:=(hb_85.gr hC).kpp hg_237;replace hst:=(hst.grow hC).kpp hg_237;intro w_239 hC;replace hC:=hC.bl col_238;refine go ?_;replace h_62:=h_62.gr hC;replace oh_234:=oh_234.gr hC;replace h_67:=h_67.gr hC;replace h_74:=h_74.gr hC;replace ohb_235:=ohb_235.gr hC;replace hb_126:=hb_126.gr hC;replace hb_85:=hb_85.gr hC;replace hst:=hst.grow hC
        exact ⟨l_192.length,by simp,O,⟨_,_,_,_,_,_,_,_,_,O,hl2_L2,hm,hst,h_62,oh_234,ohb_235,hb_126,h_67,h_74,hb_85,(Y6 (congrArg (Value.int .i64) (Y0 (Nat.lt_of_lt_of_le hlt_L2 h_62.1.1))) O)⟩⟩
      refine Zy ?_;exact ⟨O,_,_,_,_,_,_,_,_,_,_,hm,hst,h_120,hb_5,hb_126,O⟩
     refine go ?_;refine lV (.string (⟨#[97,112,97,114,116]⟩)) (Zpz (j:=1) underlying87 sizeOf9 isAgg9 O O (by decide) (by decide) O)<|go ?_;refine V4 (col:=col_106) (by kernel_rfl) (by kernel_rfl)<|go ?_;refine qF ⟨_,_,O⟩ ?_;refine qv (v:=(.pointer (((some (⟨g_77,0,none⟩:Addr)).map (·.add 5)).map (·.add 1)))) O (fun _ hC=>Zbq (sz:=1) (j:=1) underlying48 sizeOf4 O O (by decide) (by decide) (Ql ⟨_,_,O⟩)) ?_;refine qW (fun _ hC=>((((hb_85.atN).part 5 2 _ O)).nth (q:=1) O).gr (hC.bl col_106)) ?_;refine go ?_;refine qv (v:=(.pointer ((some (⟨g_6,0,none⟩:Addr)).map (·.add 1)))) O (fun _ hC=>Zbq (sz:=1) (j:=1) underlying48 sizeOf4 O O (by decide) (by decide) ⟨_,_,O⟩) ?_;refine qW (fun _ hC=>((hb_14.atN).nth (q:=1) O).gr (hC.bl col_106)) ?_;refine go ?_;refine Wm ?_;intro w_240 hC;replace hC:=hC.bl col_106;replace h_111:=h_111.gr hC;replace h_62:=h_62.gr hC;replace h_67:=h_67.gr hC;replace h_74:=h_74.gr hC;replace hb_5:=hb_5.gr hC;replace hb_14:=hb_14.gr hC;replace hb_85:=hb_85.gr hC;replace hst:=hst.grow hC;refine Zl hm (fun hb hm=>go ?_) fun hb hm=>?_
     ·obtain ⟨hb_241,hm⟩:=Zu hm;refine lV (.string ((⟨#[112,114,117,110,101,32]⟩:ByteArray)++(⟨#[97,112,97,114,116]⟩))) (Un underlying9 O O hb_241) ?_;obtain ⟨hb_242,hm⟩:=Zu hm;refine lV (.string (((⟨#[112,114,117,110,101,32]⟩:ByteArray)++(⟨#[97,112,97,114,116]⟩))++(⟨#[32]⟩))) (Un underlying9 O O hb_242)<|Zi8 (col:=col_106) (fk:=Value.bool) (fv:=Value.string) 6 O ?_;intro g_243 w_244 col_245 hg_246 h_247;obtain ⟨es_252,hz_253,hm⟩:=bZ hm;have hz_253:es_252=Wr ([]:List (Bool×ByteArray)) true (⟨#[111,110]⟩):=(Option.some.inj hz_253).symm;refine Zi9 (k:=true) (v:=(⟨#[111,110]⟩)) Wa.bool h_247 underlying88 underlying4 O O O ?_;intro w_248 hk_249 hs_250 h_251;rw [← hz_253] at h_251;obtain ⟨es_258,hz_259,hm⟩:=bZ hm;have hz_259:es_258=Wr es_252 false (⟨#[111,102,102]⟩):=(Option.some.inj hz_259).symm;refine Zi9 (k:=false) (v:=(⟨#[111,102,102]⟩)) Wa.bool h_251 underlying88 underlying4 O O O ?_;intro w_254 hk_255 hs_256 h_257;rw [← hz_259] at h_257;refine go ?_;refine Z0 ⟨_,_,O⟩ ?_;refine lV (.pointer (((some (⟨g_77,0,none⟩:Addr)).map (·.add 5)).map (·.add 1))) (Zbq (sz:=1) (j:=1) underlying48 sizeOf4 O O (by decide) (by decide) (Ql ⟨_,_,O⟩)) ?_;replace hb_85:=((hb_85.gr hg_246).kp hk_249).kp hk_255;refine lW ((((hb_85.atN).part 5 2 _ O)).nth (q:=1) O)<|lV (.string ((X4 es_258 x_29.2.2.2.2.2.2).getD (⟨#[]⟩))) (Zfh Wa.bool h_257 underlying88 underlying4 zeroValue9 O O) ?_;obtain ⟨hb_260,hm⟩:=Zu hm;refine lV (.string ((((⟨#[112,114,117,110,101,32]⟩:ByteArray)++(⟨#[97,112,97,114,116]⟩))++(⟨#[32]⟩))++((X4 es_258 x_29.2.2.2.2.2.2).getD (⟨#[]⟩)))) (Un underlying9 O O hb_260) ?_;obtain ⟨r_261,hr_262,hm⟩:=bZ hm;replace h_111:=((h_111.gr hg_246).kp hk_249).kp hk_255;replace hb_5:=((hb_5.gr hg_246).kp hk_249).kp hk_255;refine Zf (Zdy 1 3 hr_262 O h_111 hb_5) ?_;rintro _ w_267 ⟨col_269,oa_263,oc_264,rfl,hg_268,oh_265,ohb_266⟩;refine ⟨_,O,?_⟩;refine Zh ?_;replace h_62:=(((h_62.gr hg_246).kp hk_249).kp hk_255).kpp hg_268;replace h_67:=(((h_67.gr hg_246).kp hk_249).kp hk_255).kpp hg_268;replace h_74:=(((h_74.gr hg_246).kp hk_249).kp hk_255).kpp hg_268;replace hb_14:=(((hb_14.gr hg_246).kp hk_249).kp hk_255).kpp hg_268;replace hst:=(((hst.grow hg_246).kp hk_249 hs_250).kp hk_255 hs_256).kpp hg_268;replace hb_85:=hb_85.kpp hg_268;exact ⟨O,_,_,_,_,_,_,_,hm,hst,oh_265,ohb_266,hb_14,h_62,h_67,h_74,hb_85⟩
     refine Zy ?_;exact ⟨O,_,_,_,_,_,_,_,hm,hst,h_111,hb_5,hb_14,h_62,h_67,h_74,hb_85⟩
    refine go ?_;refine lV (.string (⟨#[98,97,114,114,101,110]⟩)) (Zpz (j:=0) underlying87 sizeOf9 isAgg9 O O (by decide) (by decide) O)<|go ?_;refine V4 (col:=col_96) (by kernel_rfl) (by kernel_rfl)<|go ?_;refine qF ⟨_,_,O⟩ ?_;refine qv (v:=(.pointer (((some (⟨g_77,0,none⟩:Addr)).map (·.add 5)).map (·.add 0)))) O (fun _ hC=>Zbq (sz:=1) (j:=0) underlying48 sizeOf4 O O (by decide) (by decide) (Ql ⟨_,_,O⟩)) ?_;refine qW (fun _ hC=>((((hb_85.atN).part 5 2 _ O)).nth (q:=0) O).gr (hC.bl col_96)) ?_;refine go ?_;refine qv (v:=(.pointer ((some (⟨g_6,0,none⟩:Addr)).map (·.add 0)))) O (fun _ hC=>Zbq (sz:=1) (j:=0) underlying48 sizeOf4 O O (by decide) (by decide) ⟨_,_,O⟩) ?_;refine qW (fun _ hC=>((hb_14.atN).nth (q:=0) O).gr (hC.bl col_96)) ?_;refine go ?_;refine Wm ?_;intro w_270 hC;replace hC:=hC.bl col_96;replace h_101:=h_101.gr hC;replace h_62:=h_62.gr hC;replace h_67:=h_67.gr hC;replace h_74:=h_74.gr hC;replace hb_5:=hb_5.gr hC;replace hb_14:=hb_14.gr hC;replace hb_85:=hb_85.gr hC;replace hst:=hst.grow hC;refine Zl hm (fun hb hm=>go ?_) fun hb hm=>?_
    ·obtain ⟨hb_271,hm⟩:=Zu hm;refine lV (.string ((⟨#[112,114,117,110,101,32]⟩:ByteArray)++(⟨#[98,97,114,114,101,110]⟩))) (Un underlying9 O O hb_271) ?_;obtain ⟨hb_272,hm⟩:=Zu hm;refine lV (.string (((⟨#[112,114,117,110,101,32]⟩:ByteArray)++(⟨#[98,97,114,114,101,110]⟩))++(⟨#[32]⟩))) (Un underlying9 O O hb_272)<|Zi8 (col:=col_96) (fk:=Value.bool) (fv:=Value.string) 7 O ?_;intro g_273 w_274 col_275 hg_276 h_277;obtain ⟨es_282,hz_283,hm⟩:=bZ hm;have hz_283:es_282=Wr ([]:List (Bool×ByteArray)) true (⟨#[111,110]⟩):=(Option.some.inj hz_283).symm;refine Zi9 (k:=true) (v:=(⟨#[111,110]⟩)) Wa.bool h_277 underlying88 underlying4 O O O ?_;intro w_278 hk_279 hs_280 h_281;rw [← hz_283] at h_281;obtain ⟨es_288,hz_289,hm⟩:=bZ hm;have hz_289:es_288=Wr es_282 false (⟨#[111,102,102]⟩):=(Option.some.inj hz_289).symm;refine Zi9 (k:=false) (v:=(⟨#[111,102,102]⟩)) Wa.bool h_281 underlying88 underlying4 O O O ?_;intro w_284 hk_285 hs_286 h_287;rw [← hz_289] at h_287;refine go ?_;refine Z0 ⟨_,_,O⟩ ?_;refine lV (.pointer (((some (⟨g_77,0,none⟩:Addr)).map (·.add 5)).map (·.add 0))) (Zbq (sz:=1) (j:=0) underlying48 sizeOf4 O O (by decide) (by decide) (Ql ⟨_,_,O⟩)) ?_;replace hb_85:=((hb_85.gr hg_276).kp hk_279).kp hk_285;refine lW ((((hb_85.atN).part 5 2 _ O)).nth (q:=0) O)<|lV (.string ((X4 es_288 x_29.2.2.2.2.2.1).getD (⟨#[]⟩))) (Zfh Wa.bool h_287 underlying88 underlying4 zeroValue9 O O) ?_;obtain ⟨hb_290,hm⟩:=Zu hm;refine lV (.string ((((⟨#[112,114,117,110,101,32]⟩:ByteArray)++(⟨#[98,97,114,114,101,110]⟩))++(⟨#[32]⟩))++((X4 es_288 x_29.2.2.2.2.2.1).getD (⟨#[]⟩)))) (Un underlying9 O O hb_290) ?_;obtain ⟨r_291,hr_292,hm⟩:=bZ hm;replace h_101:=((h_101.gr hg_276).kp hk_279).kp hk_285;replace hb_5:=((hb_5.gr hg_276).kp hk_279).kp hk_285;refine Zf (Zdy 1 3 hr_292 O h_101 hb_5) ?_;rintro _ w_297 ⟨col_299,oa_293,oc_294,rfl,hg_298,oh_295,ohb_296⟩;refine ⟨_,O,?_⟩;refine Zh ?_;replace h_62:=(((h_62.gr hg_276).kp hk_279).kp hk_285).kpp hg_298;replace h_67:=(((h_67.gr hg_276).kp hk_279).kp hk_285).kpp hg_298;replace h_74:=(((h_74.gr hg_276).kp hk_279).kp hk_285).kpp hg_298;replace hb_14:=(((hb_14.gr hg_276).kp hk_279).kp hk_285).kpp hg_298;replace hst:=(((hst.grow hg_276).kp hk_279 hs_280).kp hk_285 hs_286).kpp hg_298;replace hb_85:=hb_85.kpp hg_298;exact ⟨O,_,_,_,_,_,_,_,hm,hst,oh_295,ohb_296,hb_14,h_62,h_67,h_74,hb_85⟩
    refine Zy ?_;exact ⟨O,_,_,_,_,_,_,_,hm,hst,h_101,hb_5,hb_14,h_62,h_67,h_74,hb_85⟩
   refine go ?_;refine lV _ (Y8 isAgg50 sizeOf50 hb_85) ?_;obtain ⟨r_300,hr_301,hm⟩:=bZ hm;refine Zf (Zxz 1 3 hr_301 O h_92 hb_5 h_62 h_67 h_74) ?_;rintro _ w_306 ⟨col_308,oa_302,oc_303,rfl,hg_307,oh_304,ohb_305⟩;refine ⟨_,O,go ?_⟩;replace h_62:=h_62.kpp hg_307;replace h_67:=h_67.kpp hg_307;replace h_74:=h_74.kpp hg_307;replace hb_14:=hb_14.kpp hg_307;replace hb_85:=hb_85.kpp hg_307;replace hst:=hst.kpp hg_307;refine Zl hm (fun hb hm=>go ?_) fun hb hm=>?_
   ·obtain ⟨r_309,hr_310,hm⟩:=bZ hm;refine Zf (Zdy 1 3 hr_310 O oh_304 ohb_305) ?_;rintro _ w_315 ⟨col_317,oa_311,oc_312,rfl,hg_316,oh_313,ohb_314⟩;refine ⟨_,O,go ?_⟩;replace h_62:=h_62.kpp hg_316;replace h_67:=h_67.kpp hg_316;replace h_74:=h_74.kpp hg_316;replace hb_14:=hb_14.kpp hg_316;replace hb_85:=hb_85.kpp hg_316;replace hst:=hst.kpp hg_316;exact ⟨O,_,_,_,_,_,_,_,_,hm,hst,oh_313,ohb_314,hb_14,h_62,h_67,h_74,hb_85,O⟩
   refine Zy ?_;exact ⟨O,_,_,_,_,_,_,_,_,hm,hst,oh_304,ohb_305,hb_14,h_62,h_67,h_74,hb_85,O⟩
  refine go ?_;refine lV (.pointer (some ⟨g_1,0,none⟩)) (Z4 O)<|Z2 hb_5<|Xw O ?_;refine Z6 hm (fun hg_318 hm=>go ?_) fun hg_318 hm=>go ?_
  ·refine lV (.bool true) (Zw (congrArg Value.bool hg_318) O)<|lV (.pointer (some ⟨g_1,0,none⟩)) (Z4 O)<|Z0 ⟨_,_,O⟩ ?_;refine X9 (off:=3) (v:=(.bool true)) hb_5 sizeOf4 O O (by intro u hu;simp only [Value.cells,List.mem_cons,List.not_mem_nil,or_false] at hu;subst hu;rfl) O O ?_;intro w_319 hk_320 hs_321 hb_322;replace hb_322:Zd 84 1 col_79 w_319 g_1 #[.pointer (bif v_19 then some ⟨g_1,0,none⟩ else none),.slice a_21 v_20.length cap_22,.int .i64 v_24,.bool true]:=hb_322;refine Zh ?_;replace h_23:=h_23.kp hk_320;replace h_62:=h_62.kp hk_320;replace h_67:=h_67.kp hk_320;replace h_74:=h_74.kp hk_320;replace hb_14:=hb_14.kp hk_320;replace hb_85:=hb_85.kp hk_320;replace hst:=hst.kp hk_320 hs_321;exact ⟨O,_,_,_,_,_,_,_,hm,hst,h_23,hb_322,hb_14,h_62,h_67,h_74,hb_85⟩
  refine lV _ (Y8 isAgg50 sizeOf50 hb_85)<|go ?_;obtain ⟨r_323,hr_324,hm⟩:=bZ hm;refine Zf (Zil hr_324 h_62 h_67 h_74) ?_;rintro _ w_325 ⟨rfl,hg_326⟩;refine ⟨_,O,?_⟩;replace hg_326:Zg col_79 w_82 col_79 w_325:=.of_below hg_326;refine go ?_;refine lV (.bool (!r_323)) (Zx (congrArg Value.bool hg_318) O)<|lV (.pointer (some ⟨g_1,0,none⟩)) (Z4 O)<|Z0 ⟨_,_,O⟩ ?_;replace hb_5:=hb_5.gr hg_326;refine X9 (off:=3) (v:=(.bool (!r_323))) hb_5 sizeOf4 O O (by intro u hu;simp only [Value.cells,List.mem_cons,List.not_mem_nil,or_false] at hu;subst hu;rfl) O O ?_;intro w_327 hk_328 hs_329 hb_330;replace hb_330:Zd 84 1 col_79 w_327 g_1 #[.pointer (bif v_19 then some ⟨g_1,0,none⟩ else none),.slice a_21 v_20.length cap_22,.int .i64 v_24,.bool (!r_323)]:=hb_330;refine Zh ?_;replace h_23:=(h_23.gr hg_326).kp hk_328;replace h_62:=(h_62.gr hg_326).kp hk_328;replace h_67:=(h_67.gr hg_326).kp hk_328;replace h_74:=(h_74.gr hg_326).kp hk_328;replace hb_14:=(hb_14.gr hg_326).kp hk_328;replace hb_85:=(hb_85.gr hg_326).kp hk_328;replace hst:=(hst.grow hg_326).kp hk_328 hs_329;exact ⟨O,_,_,_,_,_,_,_,hm,hst,h_23,hb_330,hb_14,h_62,h_67,h_74,hb_85⟩
abbrev Ub:ByteArray:=⟨#[59,10]⟩
theorem Ts:Ub.size=2:=rfl
abbrev Uz:ByteArray:=⟨#[32,124,32]⟩
abbrev Sg:ByteArray:=⟨#[32]⟩
def Zbw (on:Bool):ByteArray:=if on=true then ⟨#[32,111,110]⟩ else ⟨#[32,111,102,102]⟩
theorem Z2w (on:Bool):(Zbw on).size≤4:=by cases on <;> decide
def Zfd (p:ByteArray×ByteArray) (given:Ud):ByteArray:=((⟨#[97,108,108,32]⟩:ByteArray)++p.1)++Vi Uz (given.map wd)
def Qp (given:Ud):Ud→ByteArray
 | []=>⟨#[]⟩
 | p :: l=>(Zfd p given++Ub)++Qp given l
def Sh (q:Yi):ByteArray:=if q.1=1 then ((⟨#[99,104,97,110,99,101]⟩:ByteArray)++Vi Sg (q.2.1.map wd))++Ub else if q.1=2 then (((⟨#[97,115,107]⟩:ByteArray)++Vi Sg (q.2.1.map wd))++Vi Uz (q.2.2.1.map wd))++Ub else if q.1=3 then Qp q.2.2.1 q.2.1 else ⟨#[]⟩
def Ur (q:Yi):Nat:=if q.1=1 then 1 else if q.1=2 then 1 else if q.1=3 then q.2.1.length else 0
def Zab (q:Yi):Bool:=if q.1=1 then !q.2.1.all W2 else if q.1=2 then !q.2.1.all W2||!q.2.2.1.all W2 else if q.1=3 then q.2.1.any fun p=>!Yo p.1||!q.2.2.1.all W2 else false
def Tn (q:Yi):Bool:=if q.1=1 then decide (q.2.2.1.length=0) else if q.1=2 then decide (0<q.2.1.length) else if q.1=3 then decide (q.2.1.length=1) else false
def Vo (q:Yi):Bool:=Tn q&&(Ut q&&Uw q)&&!Zab q
def Zb2 (u:ByteArray) (q:Yi):ByteArray:=if X0 q=u then ⟨#[]⟩ else X0 q++Ub
def U2 (name:ByteArray) (a on:Bool):ByteArray:=if on=a then ⟨#[]⟩ else (name++Zbw on)++Ub
abbrev Sf:ByteArray:=⟨#[112,114,117,110,101,32,98,97,114,114,101,110]⟩
abbrev Tw:ByteArray:=⟨#[112,114,117,110,101,32,97,112,97,114,116]⟩
def Zbv (u:ByteArray) (a b:Bool) (q:Yi):ByteArray:=((Zb2 u q++U2 Sf a q.2.2.2.2.2.1)++U2 Tw b q.2.2.2.2.2.2)++Sh q
def Sv (u:ByteArray) (a b:Bool) (q:Yi):Nat:=(if X0 q=u then 0 else 1)+(if q.2.2.2.2.2.1=a then 0 else 1)+(if q.2.2.2.2.2.2=b then 0 else 1)+Ur q
def Th:List Yi→ByteArray→Bool→Bool→ByteArray
 | [],_,_,_=>⟨#[]⟩
 | q :: l,u,a,b=>Zbv u a b q++Th l (X0 q) q.2.2.2.2.2.1 q.2.2.2.2.2.2
def Vf:List Yi→ByteArray→Bool→Bool→Nat
 | [],_,_,_=>0
 | q :: l,u,a,b=>Sv u a b q+Vf l (X0 q) q.2.2.2.2.2.1 q.2.2.2.2.2.2
def tq (q:Yi):Nat:=Z1 q.2.1+Z1 q.2.2.1+X5 q.2.2.2.2.1+130
def Zfl (l:List Yi):Nat:=(l.map tq).sum
theorem Zu2 (q:Yi) (l:List Yi):Zfl (q :: l)=tq q+Zfl l:=by simp [Zfl]
theorem Zs4 (p:ByteArray×ByteArray) (given:Ud):(Zfd p given).size≤7+p.1.size+Z1 given:=by
 have h1:=Zda Uz (given.map wd)
 rw [Zdm] at h1
 have e1:(⟨#[97,108,108,32]⟩:ByteArray).size=4:=rfl
 have e2:Uz.size=3:=rfl
 rw [Zfd,ByteArray.size_append,ByteArray.size_append];omega
theorem Zqr (given:Ud):∀ l:Ud,(Qp given l).size≤Z1 l+l.length * (9+Z1 given)
 | []=>Nat.zero_le _
 | p :: l=>by
  have h1:=Zqr given l
  have h2:=Zs4 p given
  rw [Qp,ByteArray.size_append,ByteArray.size_append,Ts,Zbx,List.length_cons,Nat.add_mul,Nat.one_mul]
  generalize l.length * (9+Z1 given)=M at *
  omega
theorem Zwp {A:Nat} {q:Yi} (hA:q.2.1.length≤A):(Sh q).size≤(A+1) * (Z1 q.2.1+Z1 q.2.2.1+20):=by
 have h1:=Zda Sg (q.2.1.map wd)
 have h2:=Zda Uz (q.2.2.1.map wd)
 have h3:=Zqr q.2.2.1 q.2.1
 rw [Zdm] at h1 h2
 have e1:(⟨#[99,104,97,110,99,101]⟩:ByteArray).size=6:=rfl
 have e2:Uz.size=3:=rfl
 have e3:Sg.size=1:=rfl
 have e4:(⟨#[97,115,107]⟩:ByteArray).size=3:=rfl
 have e5:(⟨#[]⟩:ByteArray).size=0:=rfl
 have h4:q.2.1.length * (9+Z1 q.2.2.1)≤A * (Z1 q.2.1+Z1 q.2.2.1+20):=Nat.mul_le_mul hA (by omega)
 rw [Nat.add_mul,Nat.one_mul]
 generalize A * (Z1 q.2.1+Z1 q.2.2.1+20)=M at *
 rw [Sh]
 split
 ·rw [ByteArray.size_append,ByteArray.size_append,Ts];omega
 ·split
  ·rw [ByteArray.size_append,ByteArray.size_append,ByteArray.size_append,Ts];omega
  ·split
   ·omega
   ·omega
theorem Z24 (u:ByteArray) (q:Yi):(Zb2 u q).size≤X5 q.2.2.2.2.1+13:=by
 have:=Zqk q
 rw [Zb2]
 split
 ·exact Nat.zero_le _
 ·rw [ByteArray.size_append,Ts];omega
theorem Zlz (name:ByteArray) (a on:Bool):(U2 name a on).size≤name.size+6:=by
 have:=Z2w on
 rw [U2]
 split
 ·exact Nat.zero_le _
 ·rw [ByteArray.size_append,ByteArray.size_append,Ts];omega
theorem Z2v {A:Nat} {q:Yi} (hA:q.2.1.length≤A) (u:ByteArray) (a b:Bool):(Zbv u a b q).size≤(A+2) * tq q:=by
 have h1:=Z24 u q
 have h2:=Zlz Sf a q.2.2.2.2.2.1
 have h3:=Zlz Tw b q.2.2.2.2.2.2
 have h4:=Zwp hA
 have e1:Sf.size=12:=rfl
 have e2:Tw.size=11:=rfl
 have h5:(A+1) * (Z1 q.2.1+Z1 q.2.2.1+20)≤(A+1) * tq q:=Nat.mul_le_mul_left _ (by rw [tq];omega)
 rw [Zbv,ByteArray.size_append,ByteArray.size_append,ByteArray.size_append,show A+2=(A+1)+1 from rfl,Nat.add_mul (A+1),Nat.one_mul]
 have h6:X5 q.2.2.2.2.1+130≤tq q:=by rw [tq];omega
 omega
theorem Zpq (h:ByteArray) {ps:List ByteArray} (hp:ps≠[]):Vi h ps=h++jn ps:=if_neg hp
/-! the document's words -/
theorem Zzu (q:Yi):Q5 q=some (Tn q):=by
 rw [Q5,Tn]
 by_cases h1:q.1=1
 ·rw [if_pos (decide_eq_true h1),if_pos h1];congr 1;exact decide_eq_decide.2 (by omega)
 ·by_cases h2:q.1=2
  ·rw [if_neg (by rw [decide_eq_false h1];decide),if_pos (decide_eq_true h2),if_neg h1,if_pos h2];congr 1;exact decide_eq_decide.2 (by omega)
  ·by_cases h3:q.1=3
   ·rw [if_neg (by rw [decide_eq_false h1];decide),if_neg (by rw [decide_eq_false h2];decide),if_pos (decide_eq_true h3),if_neg h1,if_neg h2,if_pos h3];congr 1;exact decide_eq_decide.2 (by omega)
   ·rw [if_neg (by rw [decide_eq_false h1];decide),if_neg (by rw [decide_eq_false h2];decide),if_neg (by rw [decide_eq_false h3];decide),if_neg h1,if_neg h2,if_neg h3]
section
variable {N:Nat} {q:Yi} {A:Nat} (hA:q.2.1.length≤A) (ha:Z1 q.2.1≤1099511627776) (hg:Z1 q.2.2.1≤1099511627776) (ho:X5 q.2.2.2.2.1≤1099511627776) (hN:1099511627776<N)
include ha hg hN
omit ha in
theorem Zu0 (kk:Bool→List Int→Int→Bool→ByteArray→Bool→Bool→Option (ByteArray×Int)) (u:ByteArray):∀ (l:Ud) (fl:Bool) (xs:List Int) (n:Int) (o:Bool),Z1 l≤1099511627776→0≤n→n+l.length<4611686018427387904→xs.length+(Z1 l+l.length * (9+Z1 q.2.2.1))≤140737488355328→
  ∃ fl',Za8 N kk q u l fl xs n o=kk fl' (xs++Ze (Qp q.2.2.1 l)) (n+l.length) (o||l.any fun p=>!Yo p.1||!q.2.2.1.all W2) u q.2.2.2.2.2.1 q.2.2.2.2.2.2
 | [],fl,xs,n,o,_,_,_,_=>by
  refine ⟨fl,?_⟩
  rw [Za8.eq_1,Qa,Qp,show Ze ⟨#[]⟩=[] from rfl,List.append_nil]
  simp
 | p :: l,fl,xs,n,o,hl,h0,h1,h2=>by
  rw [Zbx] at hl h2
  rw [List.length_cons] at h1 h2
  rw [Nat.add_mul,Nat.one_mul] at h2
  have e1:(⟨#[97,108,108,32]⟩:ByteArray).size=4:=rfl
  have hp:(Vi (⟨#[32,124,32]⟩:ByteArray) (q.2.2.1.map wd)).size≤3+Z1 q.2.2.1:=by have:=Zda Uz (q.2.2.1.map wd);rwa [Zdm] at this
  have e2:(⟨#[32,124,32]⟩:ByteArray).size=3:=rfl
  have h3:=Zs4 p q.2.2.1
  rw [Za8.eq_2,Zmm (by omega) (by omega),Option.bind_some,Xx (by rw [e1];simp only [maxLen];omega),Zmn (by rw [e2];omega) hg (by omega),Option.bind_some,Xx (by rw [ByteArray.size_append,e1];simp only [maxLen];omega)]
  generalize hM:l.length * (9+Z1 q.2.2.1)=M at h2
  rw [Zfn (by show xs.length+(Zfd p q.2.2.1).size+2≤_;omega),Option.bind_some]
  dsimp only
  rw [Yw (by omega)]
  obtain ⟨fl',ih⟩:=Zu0 kk u l true (xs++Ze (Zfd p q.2.2.1++Ub)) (n+1) ((o||!Yo p.1)||!q.2.2.1.all W2) (by omega) (by omega) (by omega) (by rw [hM,List.length_append,Xu,ByteArray.size_append,Ts];omega)
  refine ⟨fl',ih.trans ?_⟩
  rw [Qp,Xt (_++Ub),List.append_assoc,List.any_cons,List.length_cons,show n+1+(l.length:Int)=n+((l.length+1:Nat):Int) by omega]
  congr 1
  cases o <;> cases Yo p.1 <;> cases q.2.2.1.all W2 <;> simp
include hA
theorem Zuz (kk:Bool→List Int→Int→Bool→ByteArray→Bool→Bool→Option (ByteArray×Int)) (u:ByteArray) (fl:Bool) (xs:List Int) (n:Int) (o:Bool) (h0:0≤n) (h1:n+A<4611686018427387904) (h2:xs.length+(A+1) * (Z1 q.2.1+Z1 q.2.2.1+20)≤140737488355328):
  ∃ fl',Zew N kk q u fl xs n o=kk fl' (xs++Ze (Sh q)) (n+Ur q) (o||Zab q) u q.2.2.2.2.2.1 q.2.2.2.2.2.2:=by
 have e1:(⟨#[99,104,97,110,99,101]⟩:ByteArray).size=6:=rfl
 have e2:(⟨#[32,124,32]⟩:ByteArray).size=3:=rfl
 have e3:(⟨#[32]⟩:ByteArray).size=1:=rfl
 have e4:(⟨#[97,115,107]⟩:ByteArray).size=3:=rfl
 have p1:(Vi (⟨#[32]⟩:ByteArray) (q.2.1.map wd)).size≤1+Z1 q.2.1:=by have:=Zda Sg (q.2.1.map wd);rwa [Zdm] at this
 have p2:(Vi (⟨#[32,124,32]⟩:ByteArray) (q.2.2.1.map wd)).size≤3+Z1 q.2.2.1:=by have:=Zda Uz (q.2.2.1.map wd);rwa [Zdm] at this
 have h4:q.2.1.length * (9+Z1 q.2.2.1)≤A * (Z1 q.2.1+Z1 q.2.2.1+20):=Nat.mul_le_mul hA (by omega)
 rw [Nat.add_mul,Nat.one_mul] at h2
 have h5:A * (Z1 q.2.1+Z1 q.2.2.1+20)+(Z1 q.2.1+Z1 q.2.2.1+20)+xs.length≤140737488355328:=by omega
 generalize hM:A * (Z1 q.2.1+Z1 q.2.2.1+20)=M at h4 h5
 generalize hM2:q.2.1.length * (9+Z1 q.2.2.1)=M2 at h4
 rw [Zew,Sh,Ur,Zab]
 by_cases k1:q.1=1
 ·rw [if_pos (decide_eq_true k1),if_pos k1,if_pos k1,if_pos k1,Zmn (by rw [e3];omega) ha (by omega),Option.bind_some,Xx (by rw [e1];simp only [maxLen];omega),Zfn (by show xs.length+((⟨#[99,104,97,110,99,101]⟩:ByteArray)++Vi (⟨#[32]⟩:ByteArray) (q.2.1.map wd)).size+2≤_;rw [ByteArray.size_append,e1];omega),Option.bind_some,Qa]
  dsimp only
  rw [Yw (by omega)]
  exact ⟨true,rfl⟩
 ·by_cases k2:q.1=2
  ·rw [if_neg (by rw [decide_eq_false k1];decide),if_pos (decide_eq_true k2),if_neg k1,if_pos k2,if_neg k1,if_pos k2,if_neg k1,if_pos k2,Zmn (by rw [e3];omega) ha (by omega),Option.bind_some,Xx (by rw [e4];simp only [maxLen];omega),Zmn (by rw [e2];omega) hg (by omega),Option.bind_some,Xx (by rw [ByteArray.size_append,e4];simp only [maxLen];omega),
    Zfn (by show xs.length+(((⟨#[97,115,107]⟩:ByteArray)++Vi (⟨#[32]⟩:ByteArray) (q.2.1.map wd))++Vi (⟨#[32,124,32]⟩:ByteArray) (q.2.2.1.map wd)).size+2≤_;rw [ByteArray.size_append,ByteArray.size_append,e4];omega),Option.bind_some,Qa]
   dsimp only
   rw [Yw (by omega),Bool.or_assoc]
   exact ⟨true,rfl⟩
  ·by_cases k3:q.1=3
   ·rw [if_neg (by rw [decide_eq_false k1];decide),if_neg (by rw [decide_eq_false k2];decide),if_pos (decide_eq_true k3),if_neg k1,if_neg k2,if_pos k3,if_neg k1,if_neg k2,if_pos k3,if_neg k1,if_neg k2,if_pos k3]
    exact Zu0 hg hN kk u q.2.1 fl xs n o ha h0 (by omega) (by rw [hM2];omega)
   ·rw [if_neg (by rw [decide_eq_false k1];decide),if_neg (by rw [decide_eq_false k2];decide),if_neg (by rw [decide_eq_false k3];decide),if_neg k1,if_neg k2,if_neg k3,if_neg k1,if_neg k2,if_neg k3,if_neg k1,if_neg k2,if_neg k3,Qa,show Ze ⟨#[]⟩=[] from rfl,List.append_nil,Bool.or_false]
    exact ⟨fl,by simp⟩
end
theorem Zsl (b:Bool):(X4 (Wr (Wr ([]:List (Bool×ByteArray)) true ⟨#[111,110]⟩) false ⟨#[111,102,102]⟩) b).getD ⟨#[]⟩=if b=true then ⟨#[111,110]⟩ else ⟨#[111,102,102]⟩:=by cases b <;> rfl
section
variable {N:Nat} {q:Yi} {A:Nat} (hA:q.2.1.length≤A) (ha:Z1 q.2.1≤1099511627776) (hg:Z1 q.2.2.1≤1099511627776) (ho:X5 q.2.2.2.2.1≤1099511627776) (hN:1099511627776<N)
include hA ha hg hN
theorem Zuy (kk:Bool→List Int→Int→Bool→ByteArray→Bool→Bool→Option (ByteArray×Int)) (b:Bool) (u:ByteArray) (fl:Bool) (xs:List Int) (n:Int) (o:Bool) (h0:0≤n) (h1:n+A+1<4611686018427387904) (h2:xs.length+17+(A+1) * (Z1 q.2.1+Z1 q.2.2.1+20)≤140737488355328):
  ∃ fl',Zev N b kk q u fl xs n o=kk fl' (xs++Ze (U2 Tw b q.2.2.2.2.2.2++Sh q)) (n+(((if q.2.2.2.2.2.2=b then 0 else 1)+Ur q:Nat):Int)) (o||Zab q) u q.2.2.2.2.2.1 q.2.2.2.2.2.2:=by
 have e1:(⟨#[112,114,117,110,101,32]⟩:ByteArray).size=6:=rfl
 have e2:(⟨#[97,112,97,114,116]⟩:ByteArray).size=5:=rfl
 have e3:(⟨#[32]⟩:ByteArray).size=1:=rfl
 rw [Zev,U2]
 by_cases hb:q.2.2.2.2.2.2=b
 ·rw [if_neg (by rw [decide_eq_true hb];decide),if_pos hb,if_pos hb,Zla,Nat.zero_add]
  exact Zuz hA ha hg hN kk u fl xs n o h0 (by omega) (by omega)
 ·have ew:((((⟨#[112,114,117,110,101,32]⟩:ByteArray)++(⟨#[97,112,97,114,116]⟩))++(⟨#[32]⟩))++(if q.2.2.2.2.2.2=true then (⟨#[111,110]⟩:ByteArray) else ⟨#[111,102,102]⟩))=Tw++Zbw q.2.2.2.2.2.2:=by cases q.2.2.2.2.2.2 <;> rfl
  have es:(if q.2.2.2.2.2.2=true then (⟨#[111,110]⟩:ByteArray) else ⟨#[111,102,102]⟩).size≤3:=by cases q.2.2.2.2.2.2 <;> decide
  have ez:(Tw++Zbw q.2.2.2.2.2.2).size≤15:=by cases q.2.2.2.2.2.2 <;> decide
  rw [if_pos (by rw [decide_eq_false hb];decide),if_neg hb,if_neg hb,Xx (by rw [e1,e2];decide),Xx (by rw [ByteArray.size_append,e1,e2,e3];decide),Option.bind_some,Option.bind_some,Zsl,Xx (by rw [ByteArray.size_append,ByteArray.size_append,e1,e2,e3];simp only [maxLen];omega),ew,Zfn (by show xs.length+_+_≤_;omega),Option.bind_some]
  dsimp only
  rw [Yw (by omega)]
  obtain ⟨fl',ih⟩:=Zuz hA ha hg hN kk u true (xs++Ze ((Tw++Zbw q.2.2.2.2.2.2)++Ub)) (n+1) o (by omega) (by omega) (by rw [List.length_append,Xu,ByteArray.size_append,Ts];omega)
  refine ⟨fl',ih.trans ?_⟩
  rw [Xt (_++Ub),List.append_assoc,show n+1+(Ur q:Int)=n+((1+Ur q:Nat):Int) by omega]
theorem Zux (kk:Bool→List Int→Int→Bool→ByteArray→Bool→Bool→Option (ByteArray×Int)) (a b:Bool) (u:ByteArray) (fl:Bool) (xs:List Int) (n:Int) (o:Bool) (h0:0≤n) (h1:n+A+2<4611686018427387904) (h2:xs.length+35+(A+1) * (Z1 q.2.1+Z1 q.2.2.1+20)≤140737488355328):
  ∃ fl',Zeu N a b kk q fl xs n o u=kk fl' (xs++Ze (U2 Sf a q.2.2.2.2.2.1++(U2 Tw b q.2.2.2.2.2.2++Sh q))) (n+(((if q.2.2.2.2.2.1=a then 0 else 1)+((if q.2.2.2.2.2.2=b then 0 else 1)+Ur q):Nat):Int)) (o||Zab q) u q.2.2.2.2.2.1 q.2.2.2.2.2.2:=by
 have e1:(⟨#[112,114,117,110,101,32]⟩:ByteArray).size=6:=rfl
 have e2:(⟨#[98,97,114,114,101,110]⟩:ByteArray).size=6:=rfl
 have e3:(⟨#[32]⟩:ByteArray).size=1:=rfl
 rw [Zeu,U2]
 by_cases hb:q.2.2.2.2.2.1=a
 ·rw [if_neg (by rw [decide_eq_true hb];decide),if_pos hb,if_pos hb,Zla,Nat.zero_add]
  exact Zuy hA ha hg hN kk b u fl xs n o h0 (by omega) (by omega)
 ·have ew:((((⟨#[112,114,117,110,101,32]⟩:ByteArray)++(⟨#[98,97,114,114,101,110]⟩))++(⟨#[32]⟩))++(if q.2.2.2.2.2.1=true then (⟨#[111,110]⟩:ByteArray) else ⟨#[111,102,102]⟩))=Sf++Zbw q.2.2.2.2.2.1:=by cases q.2.2.2.2.2.1 <;> rfl
  have es:(if q.2.2.2.2.2.1=true then (⟨#[111,110]⟩:ByteArray) else ⟨#[111,102,102]⟩).size≤3:=by cases q.2.2.2.2.2.1 <;> decide
  have ez:(Sf++Zbw q.2.2.2.2.2.1).size≤16:=by cases q.2.2.2.2.2.1 <;> decide
  rw [if_pos (by rw [decide_eq_false hb];decide),if_neg hb,if_neg hb,Xx (by rw [e1,e2];decide),Xx (by rw [ByteArray.size_append,e1,e2,e3];decide),Option.bind_some,Option.bind_some,Zsl,Xx (by rw [ByteArray.size_append,ByteArray.size_append,e1,e2,e3];simp only [maxLen];omega),ew,Zfn (by show xs.length+_+_≤_;omega),Option.bind_some]
  dsimp only
  rw [Yw (by omega)]
  obtain ⟨fl',ih⟩:=Zuy hA ha hg hN kk b u true (xs++Ze ((Sf++Zbw q.2.2.2.2.2.1)++Ub)) (n+1) o (by omega) (by omega) (by rw [List.length_append,Xu,ByteArray.size_append,Ts];omega)
  refine ⟨fl',ih.trans ?_⟩
  rw [Xt (_++Ub),List.append_assoc,show n+1+(((if q.2.2.2.2.2.2=b then 0 else 1)+Ur q:Nat):Int)=n+((1+((if q.2.2.2.2.2.2=b then 0 else 1)+Ur q):Nat):Int) by omega]
include ho
theorem Zuw (kk:Bool→List Int→Int→Bool→ByteArray→Bool→Bool→Option (ByteArray×Int)) (a b:Bool) (u:ByteArray) (fl:Bool) (xs:List Int) (n:Int) (o:Bool) (h0:0≤n) (h1:n+A+3<4611686018427387904) (h2:xs.length+(A+2) * tq q≤140737488355328):
  ∃ fl',Zet N u a b kk q fl xs n o=kk fl' (xs++Ze (Zbv u a b q)) (n+Sv u a b q) ((o||!(Ut q&&Uw q))||Zab q) (X0 q) q.2.2.2.2.2.1 q.2.2.2.2.2.2:=by
 have h5:(A+1) * (Z1 q.2.1+Z1 q.2.2.1+20)≤(A+1) * tq q:=Nat.mul_le_mul_left _ (by rw [tq];omega)
 have h6:X5 q.2.2.2.2.1+130≤tq q:=by rw [tq];omega
 have h7:=Zqk q
 rw [show A+2=(A+1)+1 from rfl,Nat.add_mul (A+1),Nat.one_mul] at h2
 rw [Zet,Z3e (by exact ho) (show X5 q.2.2.2.2.1<N by omega),Option.bind_some,Zbv,Sv,Zb2]
 dsimp only
 by_cases hu:X0 q=u
 ·obtain ⟨fl',ih⟩:=Zux hA ha hg hN kk a b u fl xs n (o||!(Ut q&&Uw q)) h0 (by omega) (by omega)
  refine ⟨fl',?_⟩
  rw [if_neg (by rw [decide_eq_true (show X0 (q.1,q.2.1,q.2.2.1,q.2.2.2.1,q.2.2.2.2.1,(q.2.2.2.2.2.1,q.2.2.2.2.2.2))=u from hu)];decide),if_pos hu,if_pos hu,Zla,ByteArray.append_assoc,Nat.zero_add,Nat.add_assoc,hu]
  exact ih
 ·rw [if_pos (by rw [decide_eq_false (show ¬ X0 (q.1,q.2.1,q.2.2.1,q.2.2.2.1,q.2.2.2.2.1,(q.2.2.2.2.2.1,q.2.2.2.2.2.2))=u from hu)];decide),if_neg hu,if_neg hu]
  have hc:T7 ((fl,xs),n,o||!(Ut q&&Uw q)) (X0 q)=some ((true,xs++Ze (X0 q++Ub)),i64.wrap (n+1),o||!(Ut q&&Uw q)):=Zfn (by show xs.length+_+_≤_;omega)
  have hc2:T7 ((fl,xs),n,o||!(Ut (q.1,q.2.1,q.2.2.1,q.2.2.2.1,q.2.2.2.2.1,(q.2.2.2.2.2.1,q.2.2.2.2.2.2))&&Uw (q.1,q.2.1,q.2.2.1,q.2.2.2.1,q.2.2.2.2.1,(q.2.2.2.2.2.1,q.2.2.2.2.2.2)))) (X0 (q.1,q.2.1,q.2.2.1,q.2.2.2.1,q.2.2.2.2.1,(q.2.2.2.2.2.1,q.2.2.2.2.2.2)))=some ((true,xs++Ze (X0 q++Ub)),i64.wrap (n+1),o||!(Ut q&&Uw q)):=hc
  rw [hc2,Option.bind_some]
  dsimp only
  rw [Yw (by omega)]
  obtain ⟨fl',ih⟩:=Zux hA ha hg hN kk a b (X0 q) true (xs++Ze (X0 q++Ub)) (n+1) (o||!(Ut q&&Uw q)) (by omega) (by omega) (by rw [List.length_append,Xu,ByteArray.size_append,Ts];omega)
  refine ⟨fl',ih.trans ?_⟩
  rw [List.append_assoc,← Xt]
  simp only [ByteArray.append_assoc]
  rw [show n+1+(((if q.2.2.2.2.2.1=a then 0 else 1)+((if q.2.2.2.2.2.2=b then 0 else 1)+Ur q):Nat):Int)=n+((1+(if q.2.2.2.2.2.1=a then 0 else 1)+(if q.2.2.2.2.2.2=b then 0 else 1)+Ur q:Nat):Int) by omega]
end
structure Qn (A:Nat) (q:Yi):Prop where
 n:q.2.1.length≤A
 t:tq q≤68719476736
theorem Qn.a {A:Nat} {q:Yi} (h:Qn A q):Z1 q.2.1≤1099511627776:=by have:=h.t;rw [tq] at this;omega
theorem Qn.g {A:Nat} {q:Yi} (h:Qn A q):Z1 q.2.2.1≤1099511627776:=by have:=h.t;rw [tq] at this;omega
theorem Qn.o {A:Nat} {q:Yi} (h:Qn A q):X5 q.2.2.2.2.1≤1099511627776:=by have:=h.t;rw [tq] at this;omega
def Zub (bad:Bool) (s:ByteArray):ByteArray×Int:=if bad=true then (⟨#[]⟩,50) else (s,0)
theorem Z2t {A:Nat} {q:Yi} (h:q.2.1.length≤A) (u:ByteArray) (a b:Bool):Sv u a b q≤A+4:=by
 have hb:Ur q≤A+1:=by
  rw [Ur]
  split
  ·omega
  ·split
   ·omega
   ·split <;> omega
 rw [Sv]
 split <;> split <;> split <;> omega
section
variable {N A:Nat} (hN:1099511627776<N) (hA2:A≤1099511627776)
include hN hA2
theorem Ztm:∀ (l:List Yi) (fl:Bool) (s:ByteArray) (n:Int) (o:Bool) (u:ByteArray) (a b:Bool),(∀ q ∈ l,Qn A q)→0≤n→n+l.length * (A+4)<4611686018427387904→s.size+(A+2) * Zfl l≤140737488355328→
  V7 N l fl (Ze s) n o u a b=some (Zub (o||!(l.all Vo)||decide (4096<n+Vf l u a b)) (s++Th l u a b))
 | [],fl,s,n,o,u,a,b,_,h0,h1,h2=>by
  rw [V7.eq_1,Th,Vf,Zif]
  cases o with
  | true=>rw [if_pos rfl,Zes,if_pos rfl];rfl
  | false=>
   rw [if_neg (by decide),Zes]
   by_cases h:4096<n
   ·rw [if_pos (decide_eq_true h),decide_eq_true (by omega),Bool.or_true];rfl
   ·rw [if_neg (by rw [decide_eq_false h];decide),decide_eq_false (by omega),Zjd,Xx fun x hx=>Zbt hx,Option.bind_some,Zft];rfl
 | q :: l,fl,s,n,o,u,a,b,h,h0,h1,h2=>by
  have hq:=h q List.mem_cons_self
  rw [List.length_cons,show ((l.length+1:Nat):Int) * ((A:Int)+4)=l.length * ((A:Int)+4)+(A+4) by rw [Int.natCast_add,Int.add_mul];omega] at h1
  have hL:(0:Int)≤l.length * ((A:Int)+4):=Int.mul_nonneg (by omega) (by omega)
  rw [Zu2,Nat.mul_add] at h2
  have hz:=Z2v hq.n u a b
  have hn:Sv u a b q≤A+4:=Z2t hq.n _ _ _
  have step:∃ fl',V7 N (q :: l) fl (Ze s) n o u a b=V7 N l fl' (Ze (s++Zbv u a b q)) (n+Sv u a b q) (o||!Vo q) (X0 q) q.2.2.2.2.2.1 q.2.2.2.2.2.2:=by
   rw [V7.eq_2,Xt]
   cases o with
   | true=>
    rw [if_pos rfl]
    obtain ⟨fl',ih⟩:=Zuw hq.n hq.a hq.g hq.o hN (V7 N l) a b u fl (Ze s) n true h0 (by omega) (by rw [Xu];omega)
    exact ⟨fl',by rw [ih];simp⟩
   | false=>
    have hf:Q5 (q.1,q.2.1,q.2.2.1,q.2.2.2.1,q.2.2.2.2.1,(q.2.2.2.2.2.1,q.2.2.2.2.2.2))=some (Tn q):=Zzu q
    rw [if_neg (by decide),hf,Option.bind_some]
    obtain ⟨fl',ih⟩:=Zuw hq.n hq.a hq.g hq.o hN (V7 N l) a b u fl (Ze s) n (!Tn q) h0 (by omega) (by rw [Xu];omega)
    refine ⟨fl',ih.trans ?_⟩
    congr 1
    rw [Vo]
    cases Tn q <;> cases Ut q <;> cases Uw q <;> cases Zab q <;> rfl
  obtain ⟨fl',hst⟩:=step
  rw [hst,Ztm l fl' _ _ _ _ _ _ (fun x hx=>h x (List.mem_cons_of_mem _ hx)) (by omega) (by omega) (by rw [ByteArray.size_append];omega),Th,Vf,List.all_cons,ByteArray.append_assoc]
  congr 2
  ·rw [show n+(Sv u a b q:Int)+(Vf l (X0 q) q.2.2.2.2.2.1 q.2.2.2.2.2.2:Int)=n+((Sv u a b q+Vf l (X0 q) q.2.2.2.2.2.1 q.2.2.2.2.2.2:Nat):Int) by omega]
   cases o <;> cases Vo q <;> simp
theorem Z2y (l:List Yi) (h:∀ q ∈ l,Qn A q) (h1:l.length * (A+4)<4611686018427387904) (h2:(A+2) * Zfl l≤140737488355328):
  Zer N l=some (Zub (!(l.all Vo)||decide (4096<Vf l ⟨#[117,115,101,32,102,105,108,108]⟩ false false)) (Th l ⟨#[117,115,101,32,102,105,108,108]⟩ false false)):=by
 have e0:decide ((4096:Int)<0+((Vf l ⟨#[117,115,101,32,102,105,108,108]⟩ false false:Nat):Int))=decide (4096<Vf l ⟨#[117,115,101,32,102,105,108,108]⟩ false false):=decide_eq_decide.2 (by omega)
 have h3:(0:Int)+l.length * ((A:Int)+4)<4611686018427387904:=by
  have:=Int.ofNat_lt.2 h1
  rw [Int.natCast_mul] at this
  simpa using this
 have:=Ztm hN hA2 l false ⟨#[]⟩ 0 false ⟨#[117,115,101,32,102,105,108,108]⟩ false false h (by omega) h3 (by rw [show (⟨#[]⟩:ByteArray).size=0 from rfl];omega)
 rw [e0,Zla] at this
 exact this
end

end Go.Proofs.YtdpdogdkolblnaaGreatDoor
