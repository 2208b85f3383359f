/-
  What functions of the program compute, as plain Lean functions (m_..), and proofs that they compute it (c_..). Printed by a program of the author; no conditions.
-/
import Derived.Test.YtdpdogdkolblnaaGreatDoorQueryBlanksBFloat
import Derived.Test.YtdpdogdkolblnaaGreatDoorProg
import Derived.Test.YtdpdogdkolblnaaGreatDoorQueryBlanksBBrief
import Derived.Test.YtdpdogdkolblnaaGreatDoorQueryBlanksBBulk
import Derived.Test.YtdpdogdkolblnaaGreatDoorQueryBlanksBErr
import Derived.Test.YtdpdogdkolblnaaGreatDoorQueryBlanksF4
set_option linter.unusedVariables false
set_option linter.unusedSectionVars false
set_option maxRecDepth 100000
set_option maxHeartbeats 2000000
namespace Go.Proofs.YtdpdogdkolblnaaGreatDoor
open Go Go.RowKit
open Go.IntKind (i8 i16 i32 i64 u8 u16 u32 u64)
open Go.Proofs.Tryz

def Zh0 (i_34:Int) (kk_L1:(ByteArray→Int→Option Bool)) (s_37:ByteArray):Option Bool:=
  kk_L1 s_37 (i64.wrap (i_34+1))
def Zct (r_15:((List (Int×ByteArray×Int×Int))×(Option (Int×Int×Int×ByteArray)))) (s_33:ByteArray) (i_34:Int) (kk_L1:(ByteArray→Int→Option Bool)) (k_40:Int):Option Bool:=
  (Zr r_15.1 i_34).bind fun e_41=>(Zr ([⟨#[32]⟩,⟨#[10,9]⟩,⟨#[32,47,42,32,59,32,42,47,32]⟩,⟨#[32,47,47,32,97,61,98,59,10]⟩]:List ByteArray) k_40).bind fun e_57=>Zs (s_33.size+e_57.size≤maxLen) (Zs ((s_33++e_57).size+e_41.2.1.size≤maxLen) (Zh0 i_34 kk_L1 ((s_33++e_57)++e_41.2.1)))
def Zcu (v_88:Bool):Option Bool:=
  some v_88
def Tn (N:Nat) (p1_blanks:List Int) (r_1:Bool) (r_5:((List (Int×(List (ByteArray×ByteArray))×(List (ByteArray×ByteArray))×Int×List ByteArray×(Bool×Bool)))×(Option (Int×Int×Int×ByteArray)))) (r_15:((List (Int×ByteArray×Int×Int))×(Option (Int×Int×Int×ByteArray)))):Nat→ByteArray→Int→Option Bool
  | 0,_,_=>none
  | n_30+1,s_33,i_34=>if (decide (i_34<(r_15.1.length:Int)))=true then (if (decide (i_34<(p1_blanks.length:Int)))=true then ((Zr p1_blanks i_34).bind fun e_62=>Zct r_15 s_33 i_34 (Tn N p1_blanks r_1 r_5 r_15 n_30) (Vz .i64 e_62 3)) else (Zct r_15 s_33 i_34 (Tn N p1_blanks r_1 r_5 r_15 n_30) 0)) else ((S4 N s_33).bind fun r_64=>if r_1=true then (if (!r_64.2.isSome)=true then ((Zbp N r_64.1 r_5.1).bind fun r_91=>Zcu r_91) else (Zcu false)) else (Zcu false))
termination_by structural x=>x
def Za8 (N:Nat) (p1_blanks:List Int) (r_1:Bool) (r_5:((List (Int×(List (ByteArray×ByteArray))×(List (ByteArray×ByteArray))×Int×List ByteArray×(Bool×Bool)))×(Option (Int×Int×Int×ByteArray)))) (r_15:((List (Int×ByteArray×Int×Int))×(Option (Int×Int×Int×ByteArray)))) (v_29:Bool):Option Bool:=
  if v_29=true then (some r_1) else (Tn N p1_blanks r_1 r_5 r_15 N (⟨#[]⟩) 0)
def Zeu (N:Nat) (p0_text:ByteArray) (p1_blanks:List Int):Option Bool:=
  (Zev N).bind fun r_1=>if (decide (65536<(p0_text.size:Int)))=true then (some r_1) else ((S4 N p0_text).bind fun r_5=>(Zex N p0_text).bind fun r_15=>if r_5.2.isSome=true then (Za8 N p1_blanks r_1 r_5 r_15 true) else (Za8 N p1_blanks r_1 r_5 r_15 r_15.2.isSome))
theorem Zu9 (N:Nat) (col:Zc) (w0:World) (p0_text:ByteArray) (a1:Option Addr) (cap1:Nat) (p1_blanks:List Int) (h1:Sl (Za.int .i64) col w0 a1 cap1 p1_blanks) (hgl:Gl (.iface 141 (.agg #[.pointer (some ⟨4,24,none⟩)])) col w0) (r:Bool) (hm:Zeu N p0_text p1_blanks=some r):
    Calls prog 7 #[.string p0_text,.slice a1 p1_blanks.length cap1] w0 (fun e w'=>e= .returned ((.bool r))∧Below w0.heap.size w0 w'):=by
 refine Zz 4 (m:=78) func7 O O O O O ?_;rw [Zeu.eq_1] at hm;have hst:=St.start col w0;refine go ?_;obtain ⟨r_1,hr_2,hm⟩:=bZ hm;replace hgl:=hgl.keep (Zj.start col w0);refine lc O O (Zge call12) (Zva hr_2 hgl:) ?_;rintro _ w_3 ⟨rfl,hg_4⟩;refine ⟨_,O,?_⟩;replace h1:=h1.keep (Zj.start col w0);replace hg_4:Zf (Zi col) w0 (Zi col) w_3:=.of_below hg_4;refine go ?_;replace hgl:=hgl.gr hg_4;replace hst:=hst.grow hg_4;refine Zl hm (fun hb hm=>go ?_) fun hb hm=>go ?_
 ·cases hm;exact ⟨O,O,hst.below⟩
 obtain ⟨r_5,hr_6,hm⟩:=bZ hm;refine Ze (Zli 1 hr_6 hgl) ?_;rintro _ w_12 ⟨col_14,ra_7,rc_8,rv_10,rfl,hg_13,rh_9,rh_11⟩;refine ⟨_,O,?_⟩;refine lM (.tuple #[.slice ra_7 r_5.1.length rc_8,rv_10])<|lV (.slice ra_7 r_5.1.length rc_8) (Xg O O)<|lv (v:=rv_10) O O (Xg O O)<|Qw O<|lv (v:=rv_10) O O (Yn O)<|go ?_;obtain ⟨r_15,hr_16,hm⟩:=bZ hm;replace hgl:=hgl.gr hg_13;refine Ze (Zvd 2 hr_16 hgl) ?_;rintro _ w_22 ⟨col_24,ra_17,rc_18,rv_20,rfl,hg_23,rh_19,rh_21⟩;refine ⟨_,O,?_⟩;refine lM (.tuple #[.slice ra_17 r_15.1.length rc_18,rv_20])<|lV (.slice ra_17 r_15.1.length rc_18) (Xg O O)<|lv (v:=rv_20) O O (Xg O O)<|Qw O<|lv (v:=rv_20) O O (Yn O)<|Zh<|Zn<|Zn ?_;replace hst:=(hst.grow hg_13).grow hg_23;replace hgl:=hgl.gr hg_23;replace rh_9:=rh_9.gr hg_23;replace rh_11:=rh_11.gr hg_23;refine Wp.cutK [1,5,6,8,1000000] (fun f w_27=>∃ col_28 v_29,Za8 N p1_blanks r_1 r_5 r_15 v_29=some r∧St w0 (Zi col) col_28 w_27∧Zb (Za.pair (Za.int .i8) (Za.pair (Za.row 56 (Za.pair Za.str Za.str)) (Za.pair (Za.row 56 (Za.pair Za.str Za.str)) (Za.pair (Za.int .i8) (Za.pair (Za.row 9 Za.str) (Za.pair Za.bool Za.bool)))))) 50 1 col_28 w_27 ra_7 rc_8 r_5.1∧Zb (Za.pair (Za.int .i8) (Za.pair Za.str (Za.pair (Za.int .i64) (Za.int .i64)))) 63 2 col_28 w_27 ra_17 rc_18 r_15.1∧Gl (.iface 141 (.agg #[.pointer (some ⟨4,24,none⟩)])) col_28 w_27∧[34].map f=[.bool v_29]) ?_ ?_
 ·intro f w_27 hJ;obtain ⟨col_28,v_29,hm,hst,rh_9,rh_19,hgl,hs⟩:=hJ;rw [Za8.eq_1] at hm;refine .lL [34] hs ?_;refine Zl hm (fun hb hm=>go ?_) fun hb hm=>go ?_
  ·cases hm;exact ⟨O,O,hst.below⟩
  refine Z2 [1,5,6,8,1000000] (fun n f w_31=>∃ col_32 s_33 i_34 n_30,n_30=n∧Tn N p1_blanks r_1 r_5 r_15 n_30 s_33 i_34=some r∧St w0 (Zi col) col_32 w_31∧Zb (Za.pair (Za.int .i8) (Za.pair (Za.row 56 (Za.pair Za.str Za.str)) (Za.pair (Za.row 56 (Za.pair Za.str Za.str)) (Za.pair (Za.int .i8) (Za.pair (Za.row 9 Za.str) (Za.pair Za.bool Za.bool)))))) 50 1 col_32 w_31 ra_7 rc_8 r_5.1∧Zb (Za.pair (Za.int .i8) (Za.pair Za.str (Za.pair (Za.int .i64) (Za.int .i64)))) 63 2 col_32 w_31 ra_17 rc_18 r_15.1∧Gl (.iface 141 (.agg #[.pointer (some ⟨4,24,none⟩)])) col_32 w_31∧[10,11].map f=[.string s_33,.int .i64 i_34]) N ⟨_,_,0,_,O,hm,hst,rh_9,rh_19,hgl,O⟩ ?_;clear hm;intro n f w_31 hI;obtain ⟨col_32,s_33,i_34,n_30,hn,hm,hst,rh_9,rh_19,hgl,hs⟩:=hI;subst hn;refine .lL [10,11] hs ?_
  cases n_30 with
  | zero=>rw [Tn.eq_1] at hm;cases hm
  | succ n_30=>
   rw [Tn.eq_2] at hm;refine go ?_;refine Zl hm (fun hb hm=>?_) fun hb hm=>go ?_
   ·refine Zy<|Zn ?_;refine Wp.cutK [1,11,5,6,8,1000000] (fun f w_35=>∃ col_36 s_37,Zh0 i_34 (Tn N p1_blanks r_1 r_5 r_15 n_30) s_37=some r∧St w0 (Zi col) col_36 w_35∧Zb (Za.pair (Za.int .i8) (Za.pair (Za.row 56 (Za.pair Za.str Za.str)) (Za.pair (Za.row 56 (Za.pair Za.str Za.str)) (Za.pair (Za.int .i8) (Za.pair (Za.row 9 Za.str) (Za.pair Za.bool Za.bool)))))) 50 1 col_36 w_35 ra_7 rc_8 r_5.1∧Zb (Za.pair (Za.int .i8) (Za.pair Za.str (Za.pair (Za.int .i64) (Za.int .i64)))) 63 2 col_36 w_35 ra_17 rc_18 r_15.1∧Gl (.iface 141 (.agg #[.pointer (some ⟨4,24,none⟩)])) col_36 w_35∧[10].map f=[.string s_37]) ?_ ?_
    ·intro f w_35 hJ;obtain ⟨col_36,s_37,hm,hst,rh_9,rh_19,hgl,hs⟩:=hJ;rw [Zh0.eq_1] at hm;refine .lL [10] hs<|go ?_;exact ⟨n_30,by omega,O,⟨_,_,_,_,O,hm,hst,rh_9,rh_19,hgl,O⟩⟩
    refine Qk<|Zn<|Yc<|Yk O<|Zh<|Zn ?_;refine Wp.cutK [1,10,11,5,6,8,1000000] (fun f w_38=>∃ col_39 k_40,Zct r_15 s_33 i_34 (Tn N p1_blanks r_1 r_5 r_15 n_30) k_40=some r∧St w0 (Zi col) col_39 w_38∧Zb (Za.pair (Za.int .i8) (Za.pair (Za.row 56 (Za.pair Za.str Za.str)) (Za.pair (Za.row 56 (Za.pair Za.str Za.str)) (Za.pair (Za.int .i8) (Za.pair (Za.row 9 Za.str) (Za.pair Za.bool Za.bool)))))) 50 1 col_39 w_38 ra_7 rc_8 r_5.1∧Zb (Za.pair (Za.int .i8) (Za.pair Za.str (Za.pair (Za.int .i64) (Za.int .i64)))) 63 2 col_39 w_38 ra_17 rc_18 r_15.1∧Gl (.iface 141 (.agg #[.pointer (some ⟨4,24,none⟩)])) col_39 w_38∧[12].map f=[.int .i64 k_40]) ?_ ?_
    ·intro f w_38 hJ;obtain ⟨col_39,k_40,hm,hst,rh_9,rh_19,hgl,hs⟩:=hJ;rw [Zct.eq_1] at hm;refine .lL [12] hs<|Vp (col:=col_39) [(0,1),(2,1),(6,1),(7,1),(8,1),(9,1),(10,0),(1,3),(3,1),(4,0),(5,1),(11,1),(12,1)] (by kernel_rfl) (by kernel_rfl)<|xu O O (fun _=>Zke O) ?_;refine xu O O (fun _=>W7 O) ?_;refine xu O O (fun _=>Qd O) ?_;refine xu O O (fun _=>W7 O) ?_;obtain ⟨e_41,hj_42,hm⟩:=bZ hm;refine xu O O (fun _=>Vv underlying59 sizeOf63 O O (X0 hj_42).1 (X0 hj_42).2.1 (rh_19.addr hj_42)) ?_;refine xF (Tu (rh_19.addr hj_42)) ?_;obtain ⟨_,hr_43,hA_44⟩:=rh_19.atN hj_42;obtain ⟨_,_,rfl,hp_45,hp_46⟩:=hr_43.parts;obtain rfl:=hp_45.int;obtain ⟨_,_,rfl,hp_47,hp_48⟩:=hp_46.parts;obtain rfl:=hp_47.str;obtain ⟨_,_,rfl,hp_49,hp_50⟩:=hp_48.parts;obtain rfl:=hp_49.int;obtain rfl:=hp_50.int;refine xW (fun _ hC=>((hA_44).nth (q:=1) O).gr (hC.bl col_39)) ?_;refine xe O O ?_;intro w_51 hC0;have hC:=hC0.bl col_39;refine Tb (col:=col_39) ([⟨#[32]⟩,⟨#[10,9]⟩,⟨#[32,47,42,32,59,32,42,47,32]⟩,⟨#[32,47,47,32,97,61,98,59,10]⟩]:List ByteArray) 3 ?_;intro a_52 w_53 col_54 hg_55 h_56;refine Zh<|Wv col_54 hC0 hg_55 ?_;obtain ⟨e_57,hj_58,hm⟩:=bZ hm;refine xu O O (fun _=>Vv underlying40 sizeOf9 O O (X0 hj_58).1 (X0 hj_58).2.1 (h_56.addr hj_58)) ?_;refine xW (fun _ hC=>(h_56.gr (hC.bl col_54)).atStr hj_58) ?_;obtain ⟨hb_59,hm⟩:=Zu hm;refine xu (v:=(.string (s_33++e_57))) O O (fun _=>Vu underlying9 O O hb_59) ?_;obtain ⟨hb_60,hm⟩:=Zu hm;refine xu (v:=(.string ((s_33++e_57)++e_41.2.1))) O O (fun _=>Vu underlying9 O O hb_60) ?_;refine xu O O (fun _=>r_aT O) ?_;refine Va ?_;replace rh_9:=(rh_9.gr hC).gr hg_55;replace rh_19:=(rh_19.gr hC).gr hg_55;replace hgl:=(hgl.gr hC).gr hg_55;replace hst:=(hst.grow hC).grow hg_55;intro w_61 hC;replace hC:=hC.bl col_54;replace rh_9:=rh_9.gr hC;replace rh_19:=rh_19.gr hC;replace hgl:=hgl.gr hC;replace hst:=hst.grow hC;exact ⟨O,_,_,hm,hst,rh_9,rh_19,hgl,O⟩
    refine go ?_;refine Zl hm (fun hb hm=>go ?_) fun hb hm=>?_
    ·obtain ⟨e_62,hj_63,hm⟩:=bZ hm;refine lI hj_63 ((h1.ks hst).addr hj_63)<|lW ((h1.ks hst).atInt hj_63) ?_;refine go ?_;exact ⟨O,_,_,hm,hst,rh_9,rh_19,hgl,O⟩
    refine Zy ?_;exact ⟨O,_,0,hm,hst,rh_9,rh_19,hgl,O⟩
   obtain ⟨r_64,hr_65,hm⟩:=bZ hm;refine Ze (Zli 4 hr_65 hgl) ?_;rintro _ w_71 ⟨col_73,ra_66,rc_67,rv_69,rfl,hg_72,rh_68,rh_70⟩;refine ⟨_,O,?_⟩;refine lM (.tuple #[.slice ra_66 r_64.1.length rc_67,rv_69])<|lV (.slice ra_66 r_64.1.length rc_67) (Xg O O)<|lv (v:=rv_69) O O (Xg O O)<|Qw O<|lv (v:=rv_69) O O (Yn O)<|Zh<|Zn ?_;replace rh_9:=rh_9.gr hg_72;replace hgl:=hgl.gr hg_72;replace hst:=hst.grow hg_72;refine Wp.cutK [1000000] (fun f w_86=>∃ col_87 v_88,Zcu v_88=some r∧St w0 (Zi col) col_87 w_86∧Gl (.iface 141 (.agg #[.pointer (some ⟨4,24,none⟩)])) col_87 w_86∧[4].map f=[.bool v_88]) ?_ ?_
   ·intro f w_86 hJ;obtain ⟨col_87,v_88,hm,hst,hgl,hs⟩:=hJ;rw [Zcu.eq_1] at hm;refine .lL [4] hs<|Wu ?_;cases hm;exact ⟨O,O,hst.below⟩
   refine go ?_;refine Xb hm (fun hg_89 hm=>go ?_) fun hg_89 hm=>go ?_
   ·refine lv (v:=rv_69) O O (Yz O)<|go ?_;refine lV (.bool (!r_64.2.isSome)) (Zzx rh_70 underlying24 O)<|lV (.bool (!r_64.2.isSome)) (Zw (congrArg Value.bool hg_89) O)<|Xv O ?_;refine Xb hm (fun hg_90 hm=>go ?_) fun hg_90 hm=>go ?_
    ·obtain ⟨r_91,hr_92,hm⟩:=bZ hm;refine Ze (Zwe hr_92 ((rh_68.toSlF (Zk.pair (Zk.int .i8) (Zk.pair (Zk.row (Zk.pair Zk.str Zk.str)) (Zk.pair (Zk.row (Zk.pair Zk.str Zk.str)) (Zk.pair (Zk.int .i8) (Zk.pair (Zk.row Zk.str) (Zk.pair Zk.bool Zk.bool))))))).froz 1) ((rh_9.froz 4 (by decide)).toSlF (Zk.pair (Zk.int .i8) (Zk.pair (Zk.row (Zk.pair Zk.str Zk.str)) (Zk.pair (Zk.row (Zk.pair Zk.str Zk.str)) (Zk.pair (Zk.int .i8) (Zk.pair (Zk.row Zk.str) (Zk.pair Zk.bool Zk.bool)))))))) ?_;rintro _ w_93 ⟨rfl,hg_94⟩;refine ⟨_,O,?_⟩;replace hg_94:Zf col_73 w_71 col_73 w_93:=.of_below hg_94;refine lV (.bool r_91) (Zw (congrArg Value.bool hg_90) O)<|go ?_;replace hgl:=hgl.gr hg_94;replace hst:=hst.grow hg_94;exact ⟨O,_,_,hm,hst,hgl,O⟩
    refine lV (.bool false) (Zx (congrArg Value.bool hg_90) O)<|go ?_;exact ⟨O,_,_,hm,hst,hgl,O⟩
   refine lV (.bool false) (Zx (congrArg Value.bool hg_89) O)<|Xv O<|lP 73 O O<|lP 73 O O<|lP 73 O O<|lV (.bool false) (Zx O O)<|go ?_;exact ⟨O,_,_,hm,hst,hgl,O⟩
 refine Yc<|lv (v:=rv_10) O O (Yz O)<|lV (.bool r_5.2.isSome) (Zgh rh_11 underlying24 O)<|Xv O ?_;refine Xb hm (fun hg_95 hm=>go ?_) fun hg_95 hm=>go ?_
 ·refine lV (.bool true) (Zw (congrArg Value.bool hg_95) O)<|Zh ?_;exact ⟨O,_,_,hm,hst,rh_9,rh_19,hgl,O⟩
 refine lv (v:=rv_20) O O (Yz O)<|go ?_;refine lV (.bool r_15.2.isSome) (Zgh rh_21 underlying24 O)<|lV (.bool r_15.2.isSome) (Zx (congrArg Value.bool hg_95) O)<|Zh ?_;exact ⟨O,_,_,hm,hst,rh_9,rh_19,hgl,O⟩
def Cl (v:List Tk):Prop:=∀ x ∈ v,(x.1=1∧Uf x.2=true)∨(x.1=4∧x.2 ∈ [Wn,Y0,X7,Ti,Wz,Uc])
def Y2 (w w':List Tk):Prop:=∃ v,w=v++w'∧Cl v
theorem Y2.refl (w:List Tk):Y2 w w:=⟨[],rfl,fun x hx=>by cases hx⟩
theorem Y2.trans {a b c:List Tk} (h:Y2 a b) (h2:Y2 b c):Y2 a c:=by
 obtain ⟨v,rfl,h1⟩:=h
 obtain ⟨v',rfl,h2⟩:=h2
 exact ⟨v++v',(List.append_assoc ..).symm,fun x hx=>(List.mem_append.1 hx).elim (h1 x) (h2 x)⟩
theorem Y2.good {a b:List Tk} (h:Y2 a b) (hg:Yg a):Yg b:=by
 obtain ⟨v,rfl,h1⟩:=h
 exact fun x hx=>hg x (List.mem_append_right _ hx)
theorem Zeg {w:List Tk} (hg:Yg w) (h:Zm 1 eB w≠[]):Y2 w (Zm 1 eB w):=by
 obtain ⟨s,h1,_,h3⟩:=Zd2 h
 refine ⟨[(1,s)],h1,fun x hx=>?_⟩
 rw [List.mem_singleton.1 hx]
 exact .inl ⟨rfl,by rw [← h3];exact Zd1 hg h⟩
theorem Sp {c:ByteArray} (hc:c ∈ [Wn,Y0,X7,Ti,Wz,Uc]) {w:List Tk} (h:Zm 4 c w≠[]):Y2 w (Zm 4 c w):=by
 obtain ⟨s,h1,h2,h3⟩:=Zd2 h
 have h0:c≠eB:=by
  simp only [List.mem_cons,List.not_mem_nil,or_false] at hc
  rcases hc with rfl | rfl | rfl | rfl | rfl | rfl <;> decide
 refine ⟨[(4,s)],h1,fun x hx=>?_⟩
 rw [List.mem_singleton.1 hx,h2 h0]
 exact .inr ⟨rfl,hc⟩
theorem Zls {ws:List ByteArray} {w:List Tk} (hg:Yg w) (h:Zq ws w≠[]):Y2 w (Zq ws w):=by
 obtain ⟨h1,_⟩:=Qc h
 refine ⟨[(1,Ya ws w)],h1,fun x hx=>?_⟩
 rw [List.mem_singleton.1 hx]
 have hm:((1:Int),Ya ws w) ∈ (1,Ya ws w) :: Zq ws w:=List.mem_cons_self
 rw [← h1] at hm
 exact .inl ⟨rfl,hg _ hm rfl⟩
theorem Zlt:∀ (f:Nat) (w:List Tk),Yg w→(Xh f w).2≠[]→Y2 w (Xh f w).2
 | 0,w,hg,h=>absurd rfl h
 | f+1,w,hg,h=>by
  have key:∀ w3:List Tk,w3≠[]→w3=Zm 1 eB (Zm 4 Wn (Zm 1 eB w))→Y2 w w3:=by
   intro w3 h3 e
   subst e
   have h2:=Uu h3
   have h1:=Uu h2
   have c1:=Zeg hg h1
   have c2:=c1.trans (Sp (by simp) h2)
   exact c2.trans (Zeg (c2.good hg) h3)
  rw [Xh] at h ⊢
  split at h
  ·rename_i hc
   rw [if_pos hc]
   have h4:Zm 4 Y0 (Zm 1 eB (Zm 4 Wn (Zm 1 eB w)))≠[]:=V5 (Tr f _).1 h
   have k1:=(key _ (Uu h4) rfl).trans (Sp (by simp) h4)
   exact k1.trans (Zlt f _ (k1.good hg) h)
  ·rename_i hc
   rw [if_neg hc]
   exact key _ h rfl
theorem Zqd (f:Nat) (w:List Tk) (hg:Yg w) (h:(X9 f w).2≠[]):Y2 w (X9 f w).2:=by
 rw [X9] at h ⊢
 split at h
 ·rename_i hc
  rw [if_pos hc]
  have h1:Zm 4 Ti w≠[]:=V5 (Tr f _).1 h
  have k1:=Sp (by simp) h1
  exact k1.trans (Zlt f _ (k1.good hg) h)
 ·rename_i hc
  rw [if_neg hc];exact Y2.refl w
theorem Zqe:∀ (f:Nat) (w:List Tk),Yg w→(Vj f w).2≠[]→Y2 w (Vj f w).2
 | 0,w,hg,h=>absurd rfl h
 | f+1,w,hg,h=>by
  rw [Vj] at h ⊢
  split at h
  ·rename_i hc
   rw [if_pos hc]
   have h2:Zm 1 eB (Zm 4 Y0 w)≠[]:=V5 (Zdp f _).1 h
   have k1:=Sp (c:=Y0) (by simp) (Uu h2)
   have k2:=k1.trans (Zeg (k1.good hg) h2)
   exact k2.trans (Zqe f _ (k2.good hg) h)
  ·rename_i hc
   rw [if_neg hc]
   exact Sp (by simp) h
theorem Zw5 (f:Nat) (w:List Tk) (hg:Yg w) (h:(Wk f w).2≠[]):Y2 w (Wk f w).2:=by
 rw [Wk] at h ⊢
 split at h
 ·rename_i hc
  rw [if_pos hc]
  have h2:Zm 4 Uc (Zm 4 Wz w)≠[]:=h
  exact (Sp (by simp) (Uu h2)).trans (Sp (by simp) h2)
 ·rename_i hc
  rw [if_neg hc]
  have h2:Zm 1 eB (Zm 4 Wz w)≠[]:=V5 (Zdp f _).1 h
  have k1:=Sp (c:=Wz) (by simp) (Uu h2)
  have k2:=k1.trans (Zeg (k1.good hg) h2)
  exact k2.trans (Zqe f _ (k2.good hg) h)
theorem Zqc {w:List Tk} {K:List Tk→Option (List Xm)} {L:List Xm} (h:Y9 w K=some L) (hK:∀ v,K v=some L→v≠[]):w≠[]∧Y2 w (Zm 4 X7 w)∧K (Zm 4 X7 w)=some L:=by
 obtain ⟨e1,e2⟩:=Sq h
 exact ⟨e1,Sp (by simp) (hK _ e2),e2⟩
theorem Zsy {G:Nat}:∀ (f k:Nat) (how:Int) (ord:List ByteArray) (c0 c1:Bool) (L:List Xm),Wy G f k how ord c0 c1 []≠some L
 | 0,k,how,ord,c0,c1,L=>by intro h;cases h
 | f+1,k,how,ord,c0,c1,L=>by
  rw [Zkj,if_neg (by decide)]
  split
  ·intro h;cases h
  ·have e:Sm G (Wy G f (k+1)) how ord c0 c1 []=none:=by
    rw [Sm,Zrn]
    have hX:Ya [Z4,Z9,Z8,Z7,Xc] []=⟨#[]⟩:=rfl
    rw [hX,if_neg (by decide),if_neg (by decide),if_neg (by decide),if_neg (by decide)]
    cases G <;> rfl
   rw [e];intro h;cases h
theorem Zr8 {q:Xm} {o:Option (List Xm)} {L:List Xm} (h:U1 q o=some L):∃ L',o=some L':=by
 obtain ⟨L',h1,_⟩:=Zgb h
 exact ⟨L',h1⟩
theorem Zsx {G:Nat}:∀ (f k:Nat) (how:Int) (ord:List ByteArray) (c0 c1:Bool) (w:List Tk) (L:List Xm),Wy G f k how ord c0 c1 w=some L→Yg w→∃ s r,Y2 w ((0,s) :: r)
 | 0,k,how,ord,c0,c1,w,L,h,hg=>by cases h
 | f+1,k,how,ord,c0,c1,w,L,h,hg=>by
  rw [Zkj] at h
  split at h
  ·rename_i h0
   cases w with
   | nil=>cases h0
   | cons x r=>
    refine ⟨x.2,r,?_⟩
    have:x=(0,x.2):=by rw [← show x.1=0 from h0]
    rw [← this];exact Y2.refl _
  ·split at h
   ·cases h
   ·rw [Sm] at h
    have go:∀ w2:List Tk,Y2 w w2→∀ (how':Int) (ord':List ByteArray) (d0 d1:Bool) (L':List Xm),Wy G f (k+1) how' ord' d0 d1 w2=some L'→∃ s r,Y2 w ((0,s) :: r):=by
     intro w2 hc how' ord' d0 d1 L' hL
     obtain ⟨s,r,h3⟩:=Zsx f (k+1) how' ord' d0 d1 w2 L' hL (hc.good hg)
     exact ⟨s,r,hc.trans h3⟩
    have e1:∀ (w3:List Tk) (how':Int) (ord':List ByteArray) (d0 d1:Bool),(w3≠[]→Y2 w w3)→Y9 w3 (Wy G f (k+1) how' ord' d0 d1)=some L→∃ s r,Y2 w ((0,s) :: r):=by
     intro w3 how' ord' d0 d1 hc hE
     obtain ⟨n1,n2,n3⟩:=Zqc hE (fun v hv e=>by rw [e] at hv;exact Zsy f (k+1) _ _ _ _ _ hv)
     exact go _ ((hc n1).trans n2) how' ord' d0 d1 L n3
    have e2:∀ (w3:List Tk) (q:Xm),(w3≠[]→Y2 w w3)→Y9 w3 (fun v=>U1 q (Wy G f (k+1) how ord c0 c1 v))=some L→∃ s r,Y2 w ((0,s) :: r):=by
     intro w3 q hc hE
     obtain ⟨n1,n2,n3⟩:=Zqc hE (fun v hv e=>by
      obtain ⟨L',hL'⟩:=Zr8 hv
      rw [e] at hL';exact Zsy f (k+1) _ _ _ _ _ hL')
     obtain ⟨L',hL'⟩:=Zr8 n3
     exact go _ ((hc n1).trans n2) how ord c0 c1 L' hL'
    have x0:Zq [Z4,Z9,Z8,Z7,Xc] w≠[]→Y2 w (Zq [Z4,Z9,Z8,Z7,Xc] w):=fun hn=>Zls hg hn
    generalize Zq [Z4,Z9,Z8,Z7,Xc] w=w2 at *
    generalize Ya [Z4,Z9,Z8,Z7,Xc] w=T at *
    have x1:∀ ws,Zq ws w2≠[]→Y2 w (Zq ws w2):=by
     intro ws hn
     have h2:w2≠[]:=fun e=>by rw [e] at hn;exact hn O
     have k1:=x0 h2
     exact k1.trans (Zls (k1.good hg) hn)
    split at h
    ·split at h
     ·exact e1 _ _ _ _ _ (x1 _) h
     ·split at h
      ·exact e1 _ _ _ _ _ (x1 _) h
      ·refine e1 _ _ _ _ _ (fun hn=>?_) h
       have h2:Zq [Yp,Yo,Yy] w2≠[]:=V5 (Zn8 G _).1 hn
       have k1:=x1 _ h2
       exact k1.trans (Zw5 G _ (k1.good hg) hn)
    ·split at h
     ·have x2:Zq [Vd,V1] (Zq [W9,Wr] w2)≠[]→Y2 w (Zq [Vd,V1] (Zq [W9,Wr] w2)):=by
       intro hn
       have h2:Zq [W9,Wr] w2≠[]:=fun e=>by rw [e] at hn;exact hn O
       have k1:=x1 _ h2
       exact k1.trans (Zls (k1.good hg) hn)
      split at h
      ·exact e1 _ _ _ _ _ x2 h
      ·exact e1 _ _ _ _ _ x2 h
     ·have xp:(Xh G w2).2≠[]→Y2 w (Xh G w2).2:=by
       intro hn
       have h2:w2≠[]:=V5 (Tr G _).1 hn
       have k1:=x0 h2
       exact k1.trans (Zlt G _ (k1.good hg) hn)
      split at h
      ·split at h
       ·exact e2 _ _ x0 h
       ·exact e2 _ _ xp h
      ·split at h
       ·refine e2 _ _ (fun hn=>?_) h
        have h2:(Xh G w2).2≠[]:=V5 (Zcl G _).1 hn
        have k1:=xp h2
        exact k1.trans (Zqd G _ (k1.good hg) hn)
       ·refine e2 _ _ (fun hn=>?_) h
        have h2:Zm 1 eB w2≠[]:=V5 (Zcl G _).1 hn
        have k1:=x0 (Uu h2)
        have k2:=k1.trans (Zeg (k1.good hg) h2)
        exact k2.trans (Zqd G _ (k2.good hg) hn)
theorem Zyu {t:ByteArray} {a:Nat} {p:Int×Int} {l:List X8} {f:Option Yd} (h:V3 t a p l f) (ha:a≤t.size):∀ v s r,Yx l=v++(0,s) :: r→r=[]∧s=eB∧f=none:=by
 induction h with
 | opn _=>intro v s r e;cases v <;> cases e
 | bad _ _ _=>intro v s r e;cases v <;> cases e
 | fin _=>
  intro v s r e
  have e:[((0:Int),eB)]=v++(0,s) :: r:=e
  cases v with
  | nil=>cases e;exact ⟨rfl,rfl,rfl⟩
  | cons x v=>cases v <;> cases e
 | @tok a p a' p' l f hbl hlt hc hr ih=>
  intro v s r e
  have hle:=hbl.le
  have hz:(t.extract a' t.size).size=t.size - a':=by rw [ByteArray.size_extract];omega
  obtain ⟨z1,z2,z3⟩:=Zgp (s:=t.extract a' t.size) (by omega) hc
  have e:((Yi (t.extract a' t.size)).2.1.1,(Yi (t.extract a' t.size)).2.1.2) :: Yx l=v++(0,s) :: r:=e
  cases v with
  | nil=>
   rw [List.nil_append] at e
   exact absurd (congrArg Prod.fst (List.cons.inj e).1) z3
  | cons x v=>exact ih (by omega) v s r (List.cons.inj e).2
/-! ### the words,put together anew -/
abbrev Sn:List ByteArray:=[⟨#[32]⟩,⟨#[10,9]⟩,⟨#[32,47,42,32,59,32,42,47,32]⟩,⟨#[32,47,47,32,97,61,98,59,10]⟩]
theorem Zk7:∀ b ∈ Sn,Zgs (Zg b)∧Zeh (Zg b)∧Zg b≠[]∧b.size≤9:=by
 intro b hb
 simp only [List.mem_cons,List.not_mem_nil,or_false] at hb
 have go:∀ (g:List Int) (r:List Int) (t:ByteArray) (a:Nat) (p:Int×Int) (ok:Bool) (a':Nat) (p':Int×Int),g≠[]→V6 (g++r)=some g.length→(Zg t).drop a=g++r→Wb t (a+g.length) (plc g p) ok a' p'→Wb t a p ok a' p':=
  fun g r t a p ok a' p' h0 hk h1 h2=>Zg1 g r h0 h1 hk h2
 rcases hb with rfl | rfl | rfl | rfl
 ·exact ⟨Zr1 (by intro c hc;rw [List.mem_singleton.1 hc];decide),by exact (by decide:Xo 32=false),by decide,by decide⟩
 ·refine ⟨Zr1 (by
   intro c hc
   have hc:c ∈ ([10,9]:List Int):=hc
   simp only [List.mem_cons,List.not_mem_nil,or_false] at hc
   rcases hc with rfl | rfl <;> decide),by exact (by decide:Xo 10=false),by decide,by decide⟩
 ·refine ⟨fun t a r p ok a' p' h hr=>?_,by exact (by decide:Xo 32=false),by decide,by decide⟩
  have e3:Zg (⟨#[32,47,42,32,59,32,42,47,32]⟩:ByteArray)=[32,47,42,32,59,32,42,47,32]:=O
  rw [e3] at h hr
  refine Zeb _ _ O h ?_
  refine Zg1 [47,42,32,59,32,42,47] (32 :: r) (by simp) (Zax (g:=[32]) h) (by simp [V6,T0]) ?_
  exact Zeb 32 r O (Zax (g:=[32,47,42,32,59,32,42,47]) h) hr
 ·refine ⟨fun t a r p ok a' p' h hr=>?_,by exact (by decide:Xo 32=false),by decide,by decide⟩
  have e3:Zg (⟨#[32,47,47,32,97,61,98,59,10]⟩:ByteArray)=[32,47,47,32,97,61,98,59,10]:=O
  rw [e3] at h hr
  refine Zeb _ _ O h ?_
  refine Zg1 [47,47,32,97,61,98,59] (10 :: r) (by simp) (Zax (g:=[32]) h) (by simp [V6,Z6,U0]) ?_
  exact Zeb 10 r O (Zax (g:=[32,47,47,32,97,61,98,59]) h) hr
def Ty (v:List Tk) (H:Nat→ByteArray):List Int:=match v with
 | []=>Zg (H 0)
 | x :: v=>Zg (H 0)++(Zg x.2++Ty v fun k=>H (k+1))
def Sk (v:List Tk) (H:Nat→ByteArray):List Zb8:=match v with
 | []=>[]
 | x :: v=>(x.1,Zg x.2,Zg (H 1)) :: Sk v fun k=>H (k+1)
theorem Zpa:∀ (v:List Tk) (H:Nat→ByteArray),Ty v H=Zg (H 0)++Qi (Sk v H)
 | [],H=>by rw [Ty,Sk,Qi,List.append_nil]
 | x :: v,H=>by rw [Ty,Sk,Qi,Zpa v]
theorem Zpb:∀ (v:List Tk) (H:Nat→ByteArray),Cl v→(∀ k,H k ∈ Sn)→Zk3 (Sk v H)∧Zkn (Sk v H)=v
 | [],H,hc,hH=>⟨trivial,rfl⟩
 | x :: v,H,hc,hH=>by
  obtain ⟨i1,i2⟩:=Zpb v (fun k=>H (k+1)) (fun y hy=>hc y (List.mem_cons_of_mem _ hy)) fun k=>hH _
  obtain ⟨b1,b2,b3,b4⟩:=Zk7 _ (hH 1)
  have he:Zeh (Zg (H 1)++Qi (Sk v fun k=>H (k+1))):=by
   cases hb:Zg (H 1) with
   | nil=>exact absurd hb b3
   | cons c r=>rw [hb] at b2;exact b2
  refine ⟨⟨?_,b1,i1⟩,?_⟩
  ·rcases hc x List.mem_cons_self with ⟨h1,h2⟩ | ⟨h1,h2⟩
   ·exact .inl ⟨h1,Zza h2,he⟩
   ·refine .inr ⟨h1,?_⟩
    simp only [List.mem_cons,List.not_mem_nil,or_false] at h2
    show ∃ c,Zg x.2=[c]∧_
    rcases h2 with h | h | h | h | h | h <;> rw [h] <;> exact ⟨_,rfl,by decide,by decide⟩
  ·show (x.1,Vn (Zg x.2)) :: Zkn (Sk v fun k=>H (k+1))=_
   rw [i2,Zg2]
theorem Ztw {v:List Tk} {H:Nat→ByteArray} (hc:Cl v) (hH:∀ k,H k ∈ Sn) {t:ByteArray} (ht:Zg t=Ty v H):∃ W,V3 t 0 (1,1) W none∧Yx W=v++[(0,eB)]:=by
 obtain ⟨i1,i2⟩:=Zpb v H hc hH
 obtain ⟨W,h1,h2⟩:=Zs8 (t:=t) (Sk v H) 0 (1,1) (Zg (H 0)) i1 (Zk7 _ (hH 0)).1 (by rw [List.drop_zero,ht,Zpa]) (Nat.zero_le _)
 exact ⟨W,h1,by rw [h2,i2]⟩
def Ts:Nat→List Tk→(Nat→ByteArray)→List Int
 | 0,_,_=>[]
 | n+1,[],H=>[]
 | n+1,x :: v,H=>Zg (H 0)++(Zg x.2++Ts n v fun k=>H (k+1))
theorem Zr6:∀ (n:Nat) (v:List Tk) (H:Nat→ByteArray) (h:n<v.length),Ts (n+1) v H=Ts n v H++(Zg (H n)++Zg (v[n]).2)
 | 0,[],H,h=>by simp at h
 | 0,x :: v,H,h=>by simp [Ts]
 | n+1,[],H,h=>by simp at h
 | n+1,x :: v,H,h=>by
  rw [List.length_cons] at h
  have:=Zr6 n v (fun k=>H (k+1)) (by omega)
  rw [Ts,this,Ts]
  simp [List.append_assoc]
theorem Zr5:∀ (v:List Tk) (H:Nat→ByteArray),Ts (v.length+1) (v++[(0,eB)]) H=Ty v H
 | [],H=>by
  show Zg (H 0)++(Zg eB++[])=Ty [] H
  rw [Ty,show Zg eB=[] from rfl];simp
 | x :: v,H=>by
  rw [List.cons_append,List.length_cons,Ts,Zr5 v,Ty]
theorem Zoe:∀ (n:Nat) (v:List Tk) (H:Nat→ByteArray),(∀ k,H k ∈ Sn)→(Ts n v H).length≤Xx v+9 * n
 | 0,v,H,hH=>Nat.zero_le _
 | n+1,[],H,hH=>Nat.zero_le _
 | n+1,x :: v,H,hH=>by
  have ih:=Zoe n v (fun k=>H (k+1)) fun k=>hH _
  have h9:=(Zk7 _ (hH 0)).2.2.2
  rw [Ts,List.length_append,List.length_append,Xr,Xr,Zcd];omega
theorem Zx7 (e:Int):0≤Vz .i64 e 3∧Vz .i64 e 3<4:=by
 rw [Vz,BitVec.toNat_and]
 have h3:(BitVec.ofInt i64.bits 3).toNat=3:=by decide
 have h4:(BitVec.ofInt i64.bits e).toNat&&& 3≤3:=Nat.and_le_right
 rw [h3]
 rw [Y1 (by omega)]
 omega
def Uj (bl:List Int) (i:Nat):Int:=match bl[i]? with | some e=>Vz .i64 e 3 | none=>0
theorem Zpe (bl:List Int) (i:Nat):0≤Uj bl i∧Uj bl i<4:=by
 rw [Uj]
 split
 ·exact Zx7 _
 ·omega
def So (bl:List Int) (i:Nat):ByteArray:=Sn.getD (Uj bl i).toNat ⟨#[32]⟩
theorem Zur (bl:List Int) (i:Nat):Zr Sn (Uj bl i)=some (So bl i):=by
 obtain ⟨h1,h2⟩:=Zpe bl i
 have hl:(Uj bl i).toNat<Sn.length:=by show _<4;omega
 rw [show Uj bl i=(((Uj bl i).toNat:Nat):Int) by omega,Zgx,So,List.getD_eq_getElem?_getD,List.getElem?_eq_getElem (by simpa using hl)]
 rfl
theorem Zk8 (bl:List Int) (i:Nat):So bl i ∈ Sn:=by
 obtain ⟨h1,h2⟩:=Zpe bl i
 have hl:(Uj bl i).toNat<Sn.length:=by show _<4;omega
 rw [So,List.getD_eq_getElem?_getD,List.getElem?_eq_getElem hl]
 exact List.getElem_mem hl
def Zsz (l:List X8):Option Yd→List X8×Option Yd
 | none=>(l,none)
 | some e=>([],some e)
theorem Zs0 (f:Option Yd) (v:List X8) (e0:Option Yd):∀ (l acc:List X8),acc.length+l.length≤33554435→
  Sv (l.map (fun x=>(x,none))++Qv f) v e0 acc=some (Zsz (acc++l) f)
 | [],acc,h=>by
  cases f with
  | none=>rw [List.map_nil,List.nil_append,Qv,Sv.eq_1,List.append_nil];rfl
  | some e=>rw [List.map_nil,List.nil_append,Qv,Sv.eq_2,List.append_nil];rfl
 | x :: l,acc,h=>by
  rw [List.length_cons] at h
  rw [List.map_cons,List.cons_append,Sv.eq_2,if_neg (by exact fun e=>by cases e)]
  have hc:(acc.length+[x].length) * 40≤140737488355328∧acc.length+[x].length≤maxLen:=by
   have:[x].length=1:=rfl
   rw [this];simp only [maxLen];omega
  refine (Y4 hc).trans ?_
  have:=Zs0 f v e0 l (acc++[x]) (by rw [List.length_append];simp only [List.length_cons,List.length_nil];omega)
  rw [List.append_assoc] at this
  exact this
theorem Z0k {N:Nat} {t:ByteArray} (ht:t.size≤33554432) (hN:33554467≤N) {l:List X8} {f:Option Yd} (h:V3 t 0 (1,1) l f):Zex N t=some (Zsz l f):=by
 have:=h.facts (by omega)
 rw [Zex,Zq4 ht (by omega) (by omega) h (by omega),Option.bind_some,Zs0 f _ _ l [] (by simp;omega)]
 rfl
theorem Zph {N:Nat} (hN:1099511627776<N) (bl:List Int) {W:List X8} {v:List Tk} (hv:Yx W=v++[(0,eB)]) (hc:Cl v) (hb:Xx (Yx W)≤131073) (hW:W.length≤65537) {L:List Xm} (hL:Wy 1048580 1048580 0 1 [] false false (Yx W)=some L)
  (hsm:Zbp N L L=some true):∀ (f i:Nat) (s:ByteArray),Zg s=Ts i (Yx W) (So bl)→i≤W.length→W.length<f+i→
  Tn N bl true (L,none) (W,none) f s (i:Int)=some true
 | 0,i,s,hs,h1,h2=>by omega
 | f+1,i,s,hs,h1,h2=>by
  have hz:=Zoe i (Yx W) (So bl) (Zk8 bl)
  rw [← hs,Xr] at hz
  have htl:(Yx W).length=W.length:=Zkq
  rw [Tn.eq_2]
  by_cases hi:i<W.length
  ·have hst:=Zr6 i (Yx W) (So bl) (by omega)
   have hz2:=Zoe (i+1) (Yx W) (So bl) (Zk8 bl)
   rw [hst,← hs,List.length_append,List.length_append,Xr,Xr,Xr] at hz2
   have hwi:(Yx W)[i]'(by omega)=(W[i].1,W[i].2.1):=by simp [Yx]
   rw [hwi] at hst hz2
   dsimp only at hst hz2
   have key:Zct (W,none) s (i:Int) (Tn N bl true (L,none) (W,none) f) (Uj bl i)=some true:=by
    rw [Zct]
    show ((Zr W (i:Int)).bind _)=_
    rw [Zd8 hi,Option.bind_some,Zur,Option.bind_some,Y4 (by simp only [maxLen];omega),Y4 (by rw [ByteArray.size_append];simp only [maxLen];omega),Zh0,Y1 (by omega),show (i:Int)+1=((i+1:Nat):Int) by omega]
    exact Zph hN bl hv hc hb hW hL hsm f (i+1) _ (by rw [Zs3,Zs3,hs,hst,List.append_assoc]) (by omega) (by omega)
   show (if (decide ((i:Int)<(W.length:Int)))=true then _ else _)=_
   rw [if_pos (decide_eq_true (by omega))]
   by_cases hbi:i<bl.length
   ·have hg:Uj bl i=Vz .i64 bl[i] 3:=by rw [Uj,List.getElem?_eq_getElem hbi]
    rw [if_pos (decide_eq_true (by omega)),Zd8 hbi,Option.bind_some,← hg]
    exact key
   ·have hg:Uj bl i=0:=by rw [Uj,List.getElem?_eq_none (by omega)]
    rw [if_neg (nd (by omega))]
    rw [hg] at key
    exact key
  ·have hi:i=W.length:=by omega
   subst hi
   have hlv:v.length+1=W.length:=by rw [← htl,hv,List.length_append];rfl
   have hs2:Zg s=Ty v (So bl):=by rw [hs,← hlv,hv,Zr5]
   obtain ⟨W',k1,k2⟩:=Ztw hc (Zk8 bl) hs2
   have hp:=Zrz (N:=N) (by omega) (by omega) k1
   rw [k2,← hv,hL] at hp
   have hp:S4 N s=some (L,none):=hp
   show (if (decide ((W.length:Int)<(W.length:Int)))=true then _ else _)=_
   rw [if_neg (nd (by omega)),hp,Option.bind_some,if_pos rfl]
   show (if (!((none:Option Yd)).isSome)=true then ((Zbp N L L).bind fun r_91=>Zcu r_91) else _)=_
   rw [if_pos (by rfl),hsm,Option.bind_some];rfl
theorem Zzs {N:Nat} (hal:Zev N=some true) (hN:1099511627776<N) (t:ByteArray) (bl:List Int):Zeu N t bl=some true:=by
 rw [Zeu,hal,Option.bind_some]
 by_cases hs:65536<t.size
 ·rw [if_pos (decide_eq_true (by omega))]
 ·rw [if_neg (nd (by omega))]
  obtain ⟨W,f,h⟩:=Zyt t t.size 0 (1,1) (by omega) (by omega)
  have hp:=Zrz (N:=N) (by omega) (by omega) h
  obtain ⟨g1,g2⟩:=Zyy h (Nat.zero_le _)
  have hfa:=h.facts (Nat.zero_le _)
  rw [Z0k (N:=N) (by omega) (by omega) h]
  cases hsc:Wy 1048580 1048580 0 1 [] false false (Yx W) with
  | none=>
   rw [hsc] at hp
   obtain ⟨b,hb⟩:=hp
   rw [hb,Option.bind_some,Option.bind_some]
   show (if (some b:Option Yd).isSome=true then _ else _)=_
   rw [if_pos (by rfl),Za8,if_pos rfl]
  | some L=>
   rw [hsc] at hp
   have hp:S4 N t=some (L,none):=hp
   obtain ⟨s,r,v,hv,hc⟩:=Zsx 1048580 0 1 [] false false (Yx W) L hsc g1
   obtain ⟨rfl,rfl,rfl⟩:=Zyu h (Nat.zero_le _) v s r hv
   obtain ⟨a1,a2,a3,a4⟩:=Qf (B:=131073) 1048580 0 1 [] false false (Yx W) L hsc g1 ⟨.inl rfl,fun _=>rfl,fun _=>rfl⟩ (by omega) (Nat.zero_le _) (by omega)
   have hln:∀ q ∈ L,q.2.1.length≤43691∧q.2.2.1.length≤43691∧q.2.2.2.2.1.length≤65537:=by
    intro q hq
    obtain ⟨_,_,c1,c2,c3⟩:=a1 q hq
    have:=Zkp q.2.1
    have:=Zkp q.2.2.1
    have:=Ztd q.2.2.2.2.1
    omega
   have hsm:=Z0i (N:=N) (by omega) (l:=L) (by omega) (fun q hq=>⟨by have:=(hln q hq).1;omega,by have:=(hln q hq).2.1;omega,by have:=(hln q hq).2.2;omega⟩)
   rw [hp,Option.bind_some,Option.bind_some]
   show (if (none:Option Yd).isSome=true then _ else Za8 N bl true (L,none) (W,none) (none:Option Yd).isSome)=_
   rw [if_neg (by decide),Za8,if_neg (by decide)]
   exact Zph hN bl hv hc (by omega) (by omega) hsc hsm N 0 ⟨#[]⟩ rfl (Nat.zero_le _) (by omega)
theorem Ztv:Zev 4611686018427387904=some true:=by decide+kernel
theorem Zut (y0:ByteArray) (y1:List Int):Zeu 4611686018427387904 y0 y1=some true:=Zzs Ztv (by omega) y0 y1

end Go.Proofs.YtdpdogdkolblnaaGreatDoor
