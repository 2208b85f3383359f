/-
  What functions of the program compute, as plain Lean functions (m_..), and proofs that they compute it (c_..). Printed by a program of the author; no conditions.
-/
import Derived.Test.YtbmjpjhbankpoaaGreatJointSharesBFloat
import Derived.Test.YtbmjpjhbankpoaaGreatProg
import Derived.Test.YtbmjpjhbankpoaaGreatJointSharesBBrief
import Derived.Test.YtbmjpjhbankpoaaGreatJointSharesBLibSort
import Derived.Test.YtbmjpjhbankpoaaGreatShelf
import Derived.Test.YtbmjpjhbankpoaaGreatJointSharesBThree
import Derived.Test.YtbmjpjhbankpoaaGreatJointSharesBView
import Derived.Test.YtbmjpjhbankpoaaGreatJointSharesF3
set_option linter.unusedVariables false
set_option maxRecDepth 100000
set_option maxHeartbeats 2000000
namespace Go.Proofs.YtbmjpjhbankpoaaGreat
open Go Go.RowKit
open Go.IntKind (i8 i16 i32 i64 u8 u16 u32 u64)
open Go.Proofs.Tryz

def Zc1 (N:Nat) (aa:R0):List R6→Option (List Re)
  | []=>some []
  | ac :: ad=>(Zff N (aa.1,aa.2.1,aa.2.2.1,aa.2.2.2.1,aa.2.2.2.2) ac.2).bind fun ab=>(Zcf ac.2).bind fun ae=>((Zc1 N aa ad)).bind fun af=>some ((ae,((ab.1.1.1,ab.1.1.2),ab.1.2)) :: af)
termination_by structural x=>x
def Zkb (N:Nat) (aa:List Int) (ab:R0):Option (List Re):=
  (Zh6 N aa).bind fun ac=>Zc1 N ab ac
theorem Zw0 (N:Nat) (cy:Nat) (col:Zd) (w0:World) (g0:Nat) (af0:Option Addr) (capf0:Nat) (az:List Int) (hf0:Sl (Za.int .i64) col w0 af0 capf0 az) (hb0:Zk 40 450 col w0 g0 #[.slice af0 az.length capf0]) (g1:Nat) (a2:Option Addr) (a3:Nat) (a4:Option Addr) (a5:Nat) (a6:Option Addr) (a7:Nat) (a8:Option Addr) (a9:Nat) (ah:R0) (ab:Sl Za.str col w0 a2 a3 ah.2.1) (ac:Sl (Za.slice Za.str) col w0 a4 a5 ah.2.2.1) (ad:Sl (Za.slice (Za.int .i64)) col w0 a6 a7 ah.2.2.2.1) (ae:Sl (Za.slice (Za.pair (Za.pair Za.bool (Za.slice (Za.int .u32))) (Za.slice (Za.int .u32)))) col w0 a8 a9 ah.2.2.2.2) (hb1:Zk 27 450 col w0 g1 #[.string ah.1,.slice a2 ah.2.1.length a3,.slice a4 ah.2.2.1.length a5,.slice a6 ah.2.2.2.1.length a7,.slice a8 ah.2.2.2.2.length a9]) (r:List Re) (hm:Zkb N az ah=some r):
    Zcr prog 2 141 [.pointer (some ⟨g0,0,none⟩),.pointer (some ⟨g1,0,none⟩)] (fun (y:List Int×R1) (col:Zd) (w:World) (args:List Value)=>∃ (a0:Option Addr) (bf:Nat) (a1_0_1:Option Addr) (c1_0_1:Nat) (bg:Option Addr) (bh:Nat),args=[.slice a0 y.1.length bf,.agg #[.bool y.2.1.1,.slice a1_0_1 y.2.1.2.length c1_0_1,.slice bg y.2.2.length bh]]∧Zc (Za.int .i64) 3 cy col w a0 bf y.1∧Sl (Za.int .u32) col w a1_0_1 c1_0_1 y.2.1.2∧Sl (Za.int .u32) col w bg bh y.2.2) r col w0:=by
 intro l J X hjs hxs hy aa;refine Zp1 (mc:=1998) (m:=24) (args:=[.func (.yield l) #[] #[],.pointer (some ⟨g0,0,none⟩),.pointer (some ⟨g1,0,none⟩)]) func141 rfl rfl rfl rfl ?_;rw [Zkb.eq_1] at hm;have hmk:Yf 1998 col w0 []:=.nil;refine go ?_;refine Qm (col:=col) (v:=(.func (.yield l) #[] #[])) 1001 rfl rfl ?_;intro bi bq br ax af;replace hf0:=hf0.gr ax;replace ab:=ab.gr ax;replace ac:=ac.gr ax;replace ad:=ad.gr ax;replace ae:=ae.gr ax;replace hb0:=hb0.gr ax;replace hb1:=hb1.gr ax;replace hmk:=hmk.gr ax;replace aa:=hjs _ _ _ _ _ aa ax.toP;replace af:Zk 158 1001 br bq bi #[(.func (.yield l) #[] #[])]:=af;refine go ?_;refine lW hb0.at1 ?_;obtain ⟨bs,bt,hm⟩:=bZ hm;refine Zh (Zxs 1002 bt hf0) ?_;rintro _ cf ⟨bu,cg,rfl,aw,bv⟩;refine ⟨_,rfl,?_⟩;replace ab:=ab.gr aw;replace ac:=ac.gr aw;replace ad:=ad.gr aw;replace ae:=ae.gr aw;replace hf0:=hf0.gr aw;replace hb0:=hb0.gr aw;replace hb1:=hb1.gr aw;replace af:=af.gr aw;replace hmk:=hmk.gr aw;replace aa:=hjs _ _ _ _ _ aa aw.toP;refine go ?_;refine Zgo (psl:=[10,11]) (arr:=(fun (y:Int×List Int) (col:Zd) (w:World) (args:List Value)=>∃ (a1:Option Addr) (bj:Nat),args=[.int .i64 y.1,.slice a1 y.2.length bj]∧Zc (Za.int .i64) 3 1002 col w a1 bj y.2)) (ys:=bs) (col:=bu) 1999 rfl bv rfl hmk rfl rfl (by rintro _ _ _ _ ⟨_,_,rfl,_⟩;rfl) (fun ys_ ag al=>∃ (r:List Re),Zc1 N ah ys_=some r∧J r ag al∧Sl Za.str ag al a2 a3 ah.2.1∧Sl (Za.slice Za.str) ag al a4 a5 ah.2.2.1∧Sl (Za.slice (Za.int .i64)) ag al a6 a7 ah.2.2.2.1∧Sl (Za.slice (Za.pair (Za.pair Za.bool (Za.slice (Za.int .u32))) (Za.slice (Za.int .u32)))) ag al a8 a9 ah.2.2.2.2∧Zk 27 450 ag al g1 #[.string ah.1,.slice a2 ah.2.1.length a3,.slice a4 ah.2.2.1.length a5,.slice a6 ah.2.2.2.1.length a7,.slice a8 ah.2.2.2.2.length a9]∧Zk 158 1001 ag al bi #[(.func (.yield l) #[] #[])]∧Sl (Za.int .i64) ag al af0 capf0 az∧Zk 40 450 ag al g0 #[.slice af0 az.length capf0]) (fun c_ ag al=>(c_= .ret∧X ag al)) ?_ ?_ ⟨r,hm,aa,ab,ac,ad,ae,hb1,af,hf0,hb0⟩ ?_ ?_ ?_
 ·intro ys_ ag al col2_ w2_ hJ hk;obtain ⟨r,hm,aa,ab,ac,ad,ae,hb1,af,hf0,hb0⟩:=hJ;exact ⟨r,hm,(hjs _ _ _ _ _ aa (hk.mono fun _=>Ztc)),ab.kpp hk rfl,ac.kpp hk rfl,ad.kpp hk rfl,ae.kpp hk rfl,hb1.kpp hk rfl,af.kpp hk rfl,hf0.kpp hk rfl,hb0.kpp hk rfl⟩
 ·intro c_ ag al col2_ w2_ hX hk;obtain ⟨rfl,hX⟩:=hX;exact ⟨rfl,hxs _ _ _ _ hX (hk.mono fun _=>Ztc)⟩
 ·intro ch ci cj ck cl ag al args hJ hrec hmk harr;obtain ⟨r,hm,aa,ab,ac,ad,ae,hb1,af,hf0,hb0⟩:=hJ;rw [Zc1.eq_2] at hm;have hki:=Zx.refl (pC 1) ag al;obtain ⟨cn,co,rfl,aq⟩:=harr;refine go ?_;refine ⟨_,hrec,?_⟩;intro bw cp ar bk hrec2;replace ab:=ab.kp ar;replace ac:=ac.kp ar;replace ad:=ad.kp ar;replace ae:=ae.kp ar;replace aq:=aq.kp ar;replace hf0:=hf0.kp ar;replace hb1:=hb1.kp ar;replace af:=af.kp ar;replace hb0:=hb0.kp ar;replace hmk:=hmk.kp ar;replace hki:=hki.kp ar bk rfl;replace aa:=hjs _ _ _ _ _ aa (ar.toP bk rfl);have hrec:=hrec2;refine go ?_;refine lV _ (Xh isAgg27 sizeOf27 hb1)<|Y0 rfl ?_;obtain ⟨au,bx,hm⟩:=bZ hm;refine Zh (Zw7 1003 1004 bx (ab.froz 1002) (ac.froz 1002) (ad.froz 1002) (ae.froz 1002) (aq.toSlF (Zg.int .i64))) ?_;rintro _ cq ⟨bz,ba,bb,bc,bd,rfl,am,ai,aj⟩;refine ⟨_,rfl,?_⟩;replace ai:=ai.thaw (Z0 .u32) am ((Fz.refl (col:=ag)).froz 1002) (by decide);replace aj:=aj.thaw (Z0 .u32) am ((Fz.refl (col:=ag)).froz 1002) (by decide);replace am:=am.thawR (col:=ag);generalize Xc bw.heap.size ag bz=b0 at *;replace ab:=ab.gr am;replace ac:=ac.gr am;replace ad:=ad.gr am;replace ae:=ae.gr am;replace aq:=aq.gr am;replace hf0:=hf0.gr am;replace hb1:=hb1.gr am;replace af:=af.gr am;replace hb0:=hb0.gr am;replace hrec:=hrec.gr am;replace hmk:=hmk.gr am;replace hki:=hki.gr am;replace aa:=hjs _ _ _ _ _ aa am.toP;refine lM (.tuple #[(.agg #[.bool au.1.1.1,.slice ba au.1.1.2.length bb,.slice bc au.1.2.length bd]),.int .i64 au.2])<|lV (.agg #[.bool au.1.1.1,.slice ba au.1.1.2.length bb,.slice bc au.1.2.length bd]) (Xe rfl rfl)<|lV (.int .i64 au.2) (Xe rfl rfl)<|Xr (col:=b0) #[.bool false,.slice none (([]:List Int).length) 0,.slice none (([]:List Int).length) 0] 1005 zeroValue47 ?_;intro cr cs ay an b1;replace ab:=ab.gr an;replace ac:=ac.gr an;replace ad:=ad.gr an;replace ae:=ae.gr an;replace aq:=aq.gr an;replace ai:=ai.gr an;replace aj:=aj.gr an;replace hf0:=hf0.gr an;replace hb1:=hb1.gr an;replace af:=af.gr an;replace hb0:=hb0.gr an;replace hrec:=hrec.gr an;replace hmk:=hmk.gr an;replace hki:=hki.gr an;replace aa:=hjs _ _ _ _ _ aa an.toP;refine Z5 b1 ?_;intro ct ao bm b2
  replace ab:=ab.kp ao;replace ac:=ac.kp ao;replace ad:=ad.kp ao;replace ae:=ae.kp ao;replace aq:=aq.kp ao;replace ai:=ai.kp ao;replace aj:=aj.kp ao;replace hf0:=hf0.kp ao;replace hb1:=hb1.kp ao;replace af:=af.kp ao;replace hb0:=hb0.kp ao;replace hrec:=hrec.kp ao;replace hmk:=hmk.kp ao;replace hki:=hki.kp ao bm rfl;replace aa:=hjs _ _ _ _ _ aa (ao.toP bm rfl);refine go ?_;refine Wk (col:=ay) [(0,0),(1,1),(3,0),(2,3),(4,2),(5,1)] (by kernel_rfl) (by kernel_rfl)<|xW (fun _ hC=>af.at1.gr (hC.bl ay)) ?_;refine xu rfl rfl (fun _=>Vt rfl) ?_;refine xv rfl rfl (fun _ hC=>Xh isAgg47 sizeOf47 (b2.gr (hC.bl ay))) ?_;refine xe rfl rfl ?_;intro b3 hC0;have hC:=hC0.bl ay;replace ab:=ab.gr hC;replace ac:=ac.gr hC;replace ad:=ad.gr hC;replace ae:=ae.gr hC;replace aq:=aq.gr hC;replace ai:=ai.gr hC;replace aj:=aj.gr hC;replace hf0:=hf0.gr hC;replace hb1:=hb1.gr hC;replace af:=af.gr hC;replace hb0:=hb0.gr hC;replace hrec:=hrec.gr hC;replace hmk:=hmk.gr hC;replace hki:=hki.gr hC;replace aa:=hjs _ _ _ _ _ aa hC.toP;obtain ⟨b4,b5,hm⟩:=bZ hm;refine Zh (Zmn 1006 b5 (aq.toSlF (Zg.int .i64))) ?_;rintro _ cu ⟨b6,bn,bo,rfl,ak,av⟩;refine ⟨_,rfl,?_⟩;replace av:=av.thaw (Z0 .i64) ak ((Fz.refl (col:=ay)).froz 1002) (by decide);replace ak:=ak.thawR (col:=ay);generalize Xc b3.heap.size ay b6=bp at *;replace ab:=ab.gr ak;replace ac:=ac.gr ak;replace ad:=ad.gr ak;replace ae:=ae.gr ak;replace ai:=ai.gr ak;replace aj:=aj.gr ak;replace hf0:=hf0.gr ak;replace hb1:=hb1.gr ak;replace af:=af.gr ak;replace hb0:=hb0.gr ak;replace hrec:=hrec.gr ak;replace hmk:=hmk.gr ak;replace hki:=hki.gr ak;replace aa:=hjs _ _ _ _ _ aa ak.toP;refine Zm<|X0 bp hC0 ak<|xe rfl rfl ?_;intro cv hC0;have hC:=hC0.bl bp;replace ab:=ab.gr hC;replace ac:=ac.gr hC;replace ad:=ad.gr hC;replace ae:=ae.gr hC;replace ai:=ai.gr hC;replace aj:=aj.gr hC;replace av:=av.gr hC;replace hf0:=hf0.gr hC;replace hb1:=hb1.gr hC;replace af:=af.gr hC;replace hb0:=hb0.gr hC;replace hrec:=hrec.gr hC;replace hmk:=hmk.gr hC;replace hki:=hki.gr hC;replace aa:=hjs _ _ _ _ _ aa hC.toP;replace ab:=ab.froz 1003;replace ac:=ac.froz 1003;replace ad:=ad.froz 1003;replace ae:=ae.froz 1003;replace ai:=(ai).toSlF (Zg.int .u32);replace aj:=aj.froz 1003 (by decide);replace av:=av.froz 1003 (by decide);replace hf0:=hf0.froz 1003
  replace hb1:=hb1.froz 1003 (by decide);replace af:=af.froz 1003 (by decide);replace hb0:=hb0.froz 1003 (by decide);replace hrec:=hrec.froz 1003 (by decide);replace hmk:=hmk.froz 1003 (by decide);replace hki:=hki.froz 1003 rfl;replace aa:=hjs _ _ _ _ _ aa ((Zx.refl _ _ _).froz 1003 rfl);replace ab:=ab.froz 1004;replace ac:=ac.froz 1004;replace ad:=ad.froz 1004;replace ae:=ae.froz 1004;replace ai:=ai.froz 1004;replace aj:=(aj).toSlF (Zg.int .u32);replace av:=av.froz 1004 (by decide);replace hf0:=hf0.froz 1004;replace hb1:=hb1.froz 1004 (by decide);replace af:=af.froz 1004 (by decide);replace hb0:=hb0.froz 1004 (by decide);replace hrec:=hrec.froz 1004 (by decide);replace hmk:=hmk.froz 1004 (by decide);replace hki:=hki.froz 1004 rfl;replace aa:=hjs _ _ _ _ _ aa ((Zx.refl _ _ _).froz 1004 rfl);replace ab:=ab.recol 1006 cy (by decide);replace ac:=ac.recol 1006 cy (by decide);replace ad:=ad.recol 1006 cy (by decide);replace ae:=ae.recol 1006 cy (by decide);replace ai:=ai.recol 1006 cy (by decide);replace aj:=aj.recol 1006 cy (by decide);replace av:=av.recolSelf cy (by decide);replace hf0:=hf0.recol 1006 cy (by decide);replace hb1:=hb1.recol 1006 cy (by decide);replace af:=af.recol 1006 cy (by decide);replace hb0:=hb0.recol 1006 cy (by decide);replace hrec:=hrec.recol 1006 cy (by decide);replace hmk:=hmk.recol 1006 cy (by decide);replace hki:=hki.recol 1006 cy rfl;replace aa:=hjs _ _ _ _ _ aa ((Zx.refl _ _ _).recol 1006 cy rfl);obtain ⟨b7,hc_68m,b8⟩:=bZ hm;cases b8;have hm:=hc_68m;refine ly2 rfl rfl rfl rfl (hy _ _ _ _ [.slice bn b4.length bo,(.agg #[.bool au.1.1.1,.slice ba au.1.1.2.length bb,.slice bc au.1.2.length bd])] aa ⟨bn,bo,ba,bb,bc,bd,rfl,av,ai,aj⟩) ?_;rintro _ cw ⟨be,ap,⟨rfl,hJ⟩ | ⟨rfl,hX⟩⟩
  ·refine ⟨_,rfl,?_⟩;replace ab:=ab.kpp ap;replace ac:=ac.kpp ap;replace ad:=ad.kpp ap;replace ae:=ae.kpp ap;replace hf0:=hf0.kpp ap;replace hb1:=hb1.kpp ap;replace af:=af.kpp ap;replace hb0:=hb0.kpp ap;replace hrec:=hrec.kpp ap;replace hmk:=hmk.kpp ap;replace hki:=hki.trans (ap.mono (by first | exact Ziq rfl | exact pCo_p1 rfl | exact pCo_pS rfl | exact fun _=>Zip | exact fun _ h=>h | exact fun _ _=>rfl));have aa:=hJ;refine Zm<|xk be<|xu rfl rfl (fun _=>Ziu _ rfl) ?_;refine Y7 ?_;intro cx hC;replace hC:=hC.bl be;replace ab:=ab.gr hC;replace ac:=ac.gr hC;replace ad:=ad.gr hC;replace ae:=ae.gr hC;replace hf0:=hf0.gr hC;replace hb1:=hb1.gr hC;replace af:=af.gr hC;replace hb0:=hb0.gr hC;replace hrec:=hrec.gr hC;replace hmk:=hmk.gr hC;replace hki:=hki.gr hC;replace aa:=hjs _ _ _ _ _ aa hC.toP;refine X3 rfl<|X8 ?_;exact ⟨_,hki,⟨b7,hm,aa,ab,ac,ad,ae,hb1,af,hf0,hb0⟩,hrec,hmk⟩
  refine ⟨_,rfl,?_⟩;replace hrec:=hrec.kpp ap;replace hmk:=hmk.kpp ap;replace hki:=hki.trans (ap.mono (by first | exact Ziq rfl | exact pCo_p1 rfl | exact pCo_pS rfl | exact fun _=>Zip | exact fun _ h=>h | exact fun _ _=>rfl));have aa:=hX;refine Zm<|xk be<|xu rfl rfl (fun _=>Ziu _ rfl) ?_;refine Y7 ?_;intro cz hC;replace hC:=hC.bl be;replace hrec:=hrec.gr hC;replace hmk:=hmk.gr hC;replace hki:=hki.gr hC;replace aa:=hxs _ _ _ _ aa hC.toP;refine X4 rfl<|W7 ?_;exact ⟨_,hki,⟨rfl,aa⟩,hrec,hmk⟩
 ·intro b9 ag al hJ hmk;obtain ⟨r,hm,aa,ab,ac,ad,ae,hb1,af,hf0,hb0⟩:=hJ;rw [Zc1.eq_1] at hm;cases hm;refine ⟨_,(b9 :: []),rfl,hmk,?_⟩;intro c0 ca cb;replace aa:=hjs _ _ _ _ _ aa (ca.toP cb rfl);exact ⟨⟨_,rfl⟩,_,.inl aa⟩
 intro c_ cc ag al hX hmk;obtain ⟨rfl,hX⟩:=hX;have aa:=hX;refine W7 ?_;refine ⟨_,(cc :: []),rfl,hmk,?_⟩;intro c1 cd ce;replace aa:=hxs _ _ _ _ aa (cd.toP ce rfl);exact ⟨⟨_,rfl⟩,_,.inr aa⟩
def Zal (N:Nat) (aa:R0):Option (List Re):=
  (Up N (aa.1,aa.2.1,aa.2.2.1,aa.2.2.2.1,aa.2.2.2.2) ([]:List R3) ([]:List Int)).bind fun ac=>if (!decide (ac.2=0))=true then Zni else ((Ze6 N (aa.1,aa.2.1,aa.2.2.1,aa.2.2.2.1,aa.2.2.2.2)).bind fun ab=>Zkb N ac.1 (ab.1,ab.2.1,ab.2.2.1,ab.2.2.2.1,ab.2.2.2.2))
theorem Zpk {N bc bd be bf:Nat} {bg bh bi bj:Option Addr} {col:Zd} {w0:World} {ai:R0} {r:(List Re)} (cy:Nat) (hm:Zal N ai=some r) (ar:Sl Za.str col w0 bg bc ai.2.1) (au:Sl (Za.slice Za.str) col w0 bh bd ai.2.2.1) (av:Sl (Za.slice (Za.int .i64)) col w0 bi be ai.2.2.2.1) (aw:Sl (Za.slice (Za.pair (Za.pair Za.bool (Za.slice (Za.int .u32))) (Za.slice (Za.int .u32)))) col w0 bj bf ai.2.2.2.2):
    Calls prog 49 #[(.agg #[.string ai.1,.slice bg ai.2.1.length bc,.slice bh ai.2.2.1.length bd,.slice bi ai.2.2.2.1.length be,.slice bj ai.2.2.2.2.length bf])] w0 (fun e w'=>∃ (col':Zd) (rv1:Value),e= .returned (rv1)∧Zi col w0 col' w'∧It prog 2 rv1 (fun (y:List Int×R1) (col:Zd) (w:World) (args:List Value)=>∃ (a0:Option Addr) (bk:Nat) (a1_0_1:Option Addr) (c1_0_1:Nat) (bm:Option Addr) (bn:Nat),args=[.slice a0 y.1.length bk,.agg #[.bool y.2.1.1,.slice a1_0_1 y.2.1.2.length c1_0_1,.slice bm y.2.2.length bn]]∧Zc (Za.int .i64) 3 cy col w a0 bk y.1∧Sl (Za.int .u32) col w a1_0_1 c1_0_1 y.2.1.2∧Sl (Za.int .u32) col w bm bn y.2.2) r q0 col' w'):=by
 refine Xk 2 (m:=16) func49 rfl rfl rfl rfl rfl ?_;rw [Zal.eq_1] at hm;have aa:=St.start col w0;refine go ?_;refine Ye (col:=(Zj col)) 1 rfl ?_;intro b9 ca cb bp ax;refine lv (v:=_) rfl rfl (Uk rfl)<|go ?_;refine lV _ (Xh isAgg27 sizeOf27 ax) ?_;obtain ⟨ak,bq,hm⟩:=bZ hm;replace ar:=ar.keep (Zl.start col w0);replace au:=au.keep (Zl.start col w0);replace av:=av.keep (Zl.start col w0);replace aw:=aw.keep (Zl.start col w0);replace aa:=aa.grow bp;refine Zh (Zjl 2 bq (ar.ks aa) (au.ks aa) (av.ks aa) (aw.ks aa) Sl.nil Sl.nil) ?_;rintro _ cc ⟨br,ao,ap,rfl,bo,ab⟩;refine ⟨_,rfl,?_⟩;refine lM (.tuple #[.slice ao ak.1.length ap,.int .i64 ak.2])<|lV (.slice ao ak.1.length ap) (Xe rfl rfl)<|lV (.int .i64 ak.2) (Xe rfl rfl)<|Zcx (col:=br) (v:=(.slice none (([]:List Int).length) 0)) 3 rfl zeroValue40 ?_;intro an bs az a1 a2;replace a2:Zk 40 3 az bs an #[.slice none (([]:List Int).length) 0]:=a2;refine Sy (v:=(.slice ao ak.1.length ap)) a2 sizeOf40 rfl rfl (by intro u hu;simp only [Value.cells,List.mem_cons,List.not_mem_nil,or_false] at hu;subst hu;rfl) rfl rfl ?_;intro bt a3 bu ac;replace ac:Zk 40 3 az bt an #[.slice ao ak.1.length ap]:=ac;refine go ?_;replace ax:=((ax.gr bo).gr a1).kp a3;replace aa:=((aa.grow bo).grow a1).kp a3 bu;replace ab:=(ab.gr a1).kp a3;refine Zr hm (fun hb hm=>go ?_) fun hb hm=>go ?_
 ·refine lA (.func (.func 139) #[] #[])<|go ?_;refine ⟨rfl,Ww w0.heap.size col az (fun n=>0),_,rfl,aa.fin (fun n=>0),139,[],rfl,call139,?_⟩;intro col9 w9 aj hk9;exact Zwz cy col9 w9 r hm
 refine lV _ (Xh isAgg27 sizeOf27 ax) ?_;obtain ⟨aq,bv,hm⟩:=bZ hm;refine Zh (Zw1 4 5 6 7 bv (ar.ks aa) (au.ks aa) (av.ks aa) (aw.ks aa)) ?_;rintro _ cd ⟨bw,bx,bz,b0,b1,b2,b3,b4,b5,rfl,a4,ad,ae,af,ag⟩;refine ⟨_,rfl,?_⟩;refine Xr (col:=bw) #[.string (⟨#[]⟩),.slice none (([]:List ByteArray).length) 0,.slice none (([]:List R5).length) 0,.slice none (([]:List R2).length) 0,(.slice none (([]:List R8).length) 0)] 8 zeroValue27 ?_;intro ay ce b6 al b7;refine Z5 b7 ?_;intro cf am b8 ah;refine go ?_;refine lV (.func (.func 141) #[] #[.pointer (some ⟨an,0,none⟩),.pointer (some ⟨ay,0,none⟩)]) (Zoe rfl rfl)<|lA (.func (.func 141) #[] #[.pointer (some ⟨an,0,none⟩),.pointer (some ⟨ay,0,none⟩)])<|go ?_;replace ab:=((ab.gr a4).gr al).kp am;replace ab:=(ab).toSlF (Zg.int .i64);replace ad:=(ad.gr al).kp am;replace ad:=ad.froz 2 (by decide);replace ae:=(ae.gr al).kp am;replace ae:=ae.froz 2 (by decide);replace af:=(af.gr al).kp am;replace af:=af.froz 2 (by decide);replace ag:=(ag.gr al).kp am;replace ag:=ag.froz 2 (by decide);replace ac:=((ac.gr a4).gr al).kp am;replace ac:=ac.froz 2 (by decide);replace ah:=ah.froz 2 (by decide);replace aa:=((aa.grow a4).grow al).kp am b8;replace aa:=aa.froz 2 (by decide) (by decide);replace ab:=ab.froz 4;replace ad:=(ad).toSlF Zg.str;replace ae:=ae.froz 4 (by decide);replace af:=af.froz 4 (by decide);replace ag:=ag.froz 4 (by decide);replace ac:=ac.froz 4 (by decide);replace ah:=ah.froz 4 (by decide);replace aa:=aa.froz 4 (by decide) (by decide);replace ab:=ab.froz 5;replace ad:=ad.froz 5;replace ae:=(ae).toSlF (Zg.row Zg.str);replace af:=af.froz 5 (by decide);replace ag:=ag.froz 5 (by decide);replace ac:=ac.froz 5 (by decide);replace ah:=ah.froz 5 (by decide);replace aa:=aa.froz 5 (by decide) (by decide);replace ab:=ab.froz 6;replace ad:=ad.froz 6;replace ae:=ae.froz 6;replace af:=(af).toSlF (Zg.row (Zg.int .i64));replace ag:=ag.froz 6 (by decide);replace ac:=ac.froz 6 (by decide);replace ah:=ah.froz 6 (by decide);replace aa:=aa.froz 6 (by decide) (by decide);replace ab:=ab.froz 7;replace ad:=ad.froz 7;replace ae:=ae.froz 7;replace af:=af.froz 7
 replace ag:=(ag).toSlF (Zg.row (Zg.pair (Zg.pair Zg.bool (Zg.row (Zg.int .u32))) (Zg.row (Zg.int .u32))));replace ac:=ac.froz 7 (by decide);replace ah:=ah.froz 7 (by decide);replace aa:=aa.froz 7 (by decide) (by decide);have a5:=aa.finBox (G:=(fun n=>bif Nat.beq n 3 then 450 else bif Nat.beq n 8 then 450 else 0)) ac (by decide) (by decide) (show (fun n=>bif Nat.beq n 3 then 450 else bif Nat.beq n 8 then 450 else 0) 3=450 from rfl);have a6:=aa.finSl (g:=(fun n=>bif Nat.beq n 3 then 450 else bif Nat.beq n 8 then 450 else 0)) rfl ab;have a7:=aa.finBox (G:=(fun n=>bif Nat.beq n 3 then 450 else bif Nat.beq n 8 then 450 else 0)) ah (by decide) (by decide) (show (fun n=>bif Nat.beq n 3 then 450 else bif Nat.beq n 8 then 450 else 0) 8=450 from rfl);have a8:=aa.finSl (g:=(fun n=>bif Nat.beq n 3 then 450 else bif Nat.beq n 8 then 450 else 0)) rfl ad;have a9:=aa.finSl (g:=(fun n=>bif Nat.beq n 3 then 450 else bif Nat.beq n 8 then 450 else 0)) rfl ae;have ba:=aa.finSl (g:=(fun n=>bif Nat.beq n 3 then 450 else bif Nat.beq n 8 then 450 else 0)) rfl af;have bb:=aa.finSl (g:=(fun n=>bif Nat.beq n 3 then 450 else bif Nat.beq n 8 then 450 else 0)) rfl ag;refine ⟨rfl,Ww w0.heap.size col (Yl 7 (Yl 6 (Yl 5 (Yl 4 (Yl 2 b6))))) (fun n=>bif Nat.beq n 3 then 450 else bif Nat.beq n 8 then 450 else 0),_,rfl,aa.fin (fun n=>bif Nat.beq n 3 then 450 else bif Nat.beq n 8 then 450 else 0),141,[.pointer (some ⟨an,0,none⟩),.pointer (some ⟨ay,0,none⟩)],rfl,call141,?_⟩;intro col9 w9 aj hk9;replace a5:=a5.itk aj hk9 rfl;replace a6:=a6.itk aj hk9 rfl;replace a7:=a7.itk aj hk9 rfl;replace a8:=a8.itk aj hk9 rfl;replace a9:=a9.itk aj hk9 rfl;replace ba:=ba.itk aj hk9 rfl;replace bb:=bb.itk aj hk9 rfl;exact Zw0 N cy col9 w9 an ao ap ak.1 a6 a5 ay bx bz b0 b1 b2 b3 b4 b5 (aq.1,aq.2.1,aq.2.2.1,aq.2.2.2.1,aq.2.2.2.2) a8 a9 ba bb a7 r hm
/-! a network whose lists are its own -/
def Wc (x:QV):QV:=Zp (Xn x)
def Vf (n:Zy):Zy:=(n.1,n.2.1,n.2.2.1,n.2.2.2.1,n.2.2.2.2.map (List.map Wc))
theorem Zmx (x:QV):Xn (Wc x)=Xn x:=Wx _
theorem Zmw (T:List (List QV)) (v:Nat):(T.map (List.map Wc)).getD v []=(T.getD v []).map Wc:=by
 rw [List.getD_eq_getElem?_getD,List.getD_eq_getElem?_getD,List.getElem?_map]
 cases T[v]? with
 | none=>rfl
 | some t=>rfl
theorem Zyu (l:List QV):Vi (l.map Wc)=Vi l:=by
 rw [Vi,Vi,List.map_map]
 congr 1
 exact List.map_congr_left fun x _=>Zmx x
theorem Zqe (c:Nat):∀ (m:Nat) (l:List QV),U3 c m (l.map Wc)=U3 c m l
 | 0,l=>rfl
 | m+1,l=>by rw [U3,U3,← List.map_take,← List.map_drop,Zyu,Zqe c m]
theorem Zqh (vals:List R5) (P:List R2) (T:List (List QV)):∀ m v,Tp vals P (T.map (List.map Wc)) m v=Tp vals P T m v
 | 0,v=>rfl
 | m+1,v=>by rw [Tp,Tp,Zmw,List.length_map,Zqh vals P T m]
theorem Zqi (vals:List R5) (P:List R2) (T:List (List QV)):∀ m v,Zcl vals P (T.map (List.map Wc)) m v=Zcl vals P T m v
 | 0,v=>rfl
 | m+1,v=>by rw [Zcl,Zcl,Zmw,Zqe,Zqi vals P T m]
theorem Zyr (T:List (List QV)):Zag (T.map (List.map Wc))=Zag T:=by
 rw [Zag,Zag,List.any_map]
 congr 1
 funext t
 show (t.map Wc).any Vg=t.any Vg
 rw [List.any_map]
 congr 1
 funext x
 show Vg (Wc x)=Vg x
 rw [Vg,Vg,Zmx]
theorem Zyt {N:Nat} {n:Zy} (hf:Ya N n):Ya N (Vf n) where
 ev:=⟨hf.ev.v,hf.ev.p,by show (n.2.2.2.2.map (List.map Wc)).length=_;rw [List.length_map];exact hf.ev.t,hf.ev.i,hf.ev.ne⟩
 le:=hf.le
 nm:=hf.nm
 sh:=(Zqh _ _ _ _ _).trans hf.sh
 en:=(Zyr _).trans hf.en
 su:=(Zqi _ _ _ _ _).trans hf.su
 tw:=hf.tw
 or:=hf.or
theorem Zyv {n:Zy} {W:Nat} (hs:Ws n W) (hq:∀ t ∈ n.2.2.2.2,Xz (t.map Wc)≤W):Ws (Vf n) W:=by
 refine ⟨hs.nm,hs.vl,hs.pn,fun t ht=>?_,fun t ht=>?_,fun t ht x hx=>?_⟩
 ·obtain ⟨u,hu,rfl⟩:=List.mem_map.1 ht
  rw [List.length_map];exact hs.tl u hu
 ·obtain ⟨u,hu,rfl⟩:=List.mem_map.1 ht
  exact hq u hu
 ·obtain ⟨u,hu,rfl⟩:=List.mem_map.1 ht
  obtain ⟨y,hy,rfl⟩:=List.mem_map.1 hx
  exact ⟨Z9 _,Z9 _⟩
theorem Zys (n:Zy) (w:List Int) (v:Nat):ent (Vf n) w v=ent n w v:=by
 have hr:∀ (ps:List Int) (r:Nat),Za9 (Vf n) w ps r=Za9 n w ps r:=fun ps=>by
  induction ps with
  | nil=>intro r;rfl
  | cons p ps ih=>intro r;rw [Za9,Za9,ih];rfl
 have hi:Uv (Vf n) w v=Uv n w v:=hr _ _
 have hT:Vk (Vf n) w v=(Vk n w v).map Wc:=by
  rw [Vk,Vk,hi,List.map_take,List.map_drop]
  show List.take (cnt n v) (List.drop (Uv n w v * cnt n v) ((n.2.2.2.2.map (List.map Wc)).getD v []))=_
  rw [Zmw]
 rw [ent,ent,hT]
 generalize (w.getD v 0).toNat=j
 rw [List.getD_eq_getElem?_getD,List.getD_eq_getElem?_getD,List.getElem?_map]
 cases (Vk n w v)[j]? with
 | none=>rfl
 | some x=>exact Zmx x
theorem Zqf (n:Zy) (w:List Int):∀ m k q,V0 (Vf n) w m k q=V0 n w m k q
 | 0,k,q=>rfl
 | m+1,k,q=>by rw [V0,V0,Zys,Zqf n w m]
section
variable {N W K:Nat} {n:Zy} (hf:Ya N n) (hs:Ws n W) (hr:Xm N (8 * K+40)) (hWK:1025 * (W+2)+4≤K) (hN:2000000<N)
include hf hs hr hWK hN
omit hf hs hN in
theorem Zqc (v:Int) (m1:ByteArray) (m2:List ByteArray) (m3:List R5) (m4:List R2) (m5:List (List QV)) (h5:m5.length≤1048576) (kk:Int→ByteArray→List ByteArray→List R5→List R2→List (List QV)→Option Zy) (r1:List ByteArray) (r2:List Int):∀ (l out:List QV),(∀ x ∈ l,Vc x∧max x.1.2.length x.2.length≤W)→out.length+l.length≤1048576→
  Zbu N v m1 m2 m3 m4 m5 kk r1 r2 l out=kk (i64.wrap (v+1)) m1 m2 (m3++[r1]) (m4++[r2]) (m5++[out++l.map Wc])
 | [],out,_,h2=>by
  rw [Zbu.eq_1,Z7 (by simp only [List.length_singleton,maxLen];omega),List.map_nil,List.append_nil]
 | x :: l,out,h1,h2=>by
  obtain ⟨x1,x2⟩:=h1 x List.mem_cons_self
  have hz:RV 0 ((false,([]:List Int)),([]:List Int)):=⟨by simp [Zn],by simp [Zn],by simp,by simp⟩
  have hz2:Xn ((false,([]:List Int)),([]:List Int))=0:=by rw [Xn];simp [Zt,Zb]
  have ad:Vs N ((x.1.1,x.1.2),x.2) ((false,([]:List Int)),([]:List Int))=some (Wc x):=by
   have:=Zbi ((Zgl x1.1 x1.2).mono x2) hz (hr.mono (by omega))
   rwa [hz2,Rat.add_zero] at this
  rw [nC] at h2
  rw [Zbu.eq_2,ad,oB,Z7 (by simp only [List.length_singleton,maxLen];omega)]
  have ih:=Zqc v m1 m2 m3 m4 m5 h5 kk r1 r2 l (out++[Wc x]) (fun y hy=>h1 y (List.mem_cons_of_mem _ hy)) (by rw [nA,List.length_singleton];omega)
  rw [List.append_assoc] at ih
  exact ih
omit hN in
theorem Zqb:∀ (f v:Nat),v≤n.2.1.length→n.2.1.length<f+v→Zap N n f (v:Int) n.1 n.2.1 (n.2.2.1.take v) (n.2.2.2.1.take v) ((n.2.2.2.2.take v).map (List.map Wc))=some (Vf n)
 | 0,v,h1,h2=>by omega
 | f+1,v,h1,h2=>by
  have hv:=hf.ev.v;have hp:=hf.ev.p;have ht:=hf.ev.t;have hle:=hf.le
  rw [Zap.eq_2]
  by_cases hk:v<n.2.1.length
  ·have a1:v<n.2.2.1.length:=by omega
   have a2:v<n.2.2.2.1.length:=by omega
   have a3:v<n.2.2.2.2.length:=by omega
   have c1:Zdz n.2.2.1[v]=some n.2.2.1[v]:=by
    have:=hs.vl _ (List.getElem_mem a1)
    rw [Zdz,Z7 (by simp only [nN,maxLen];omega),List.nil_append]
   have c2:Zcf n.2.2.2.1[v]=some n.2.2.2.1[v]:=Zmt (by have:=hs.pn.ls _ (List.getElem_mem a2);omega)
   have hmem:=fun x hx=>Zm2 hf hs hk x (by rw [Yu a3];exact hx)
   have l2:=Zqc hr hWK (v:Int) n.1 n.2.1 (n.2.2.1.take v) (n.2.2.2.1.take v) ((n.2.2.2.2.take v).map (List.map Wc)) (by rw [List.length_map,nK];omega) (Zap N n f) n.2.2.1[v] n.2.2.2.1[v] n.2.2.2.2[v] [] hmem (by have:=hs.tl _ (List.getElem_mem a3);simpa using this)
   have ih:=Zqb f (v+1) (by omega) (by omega)
   rw [List.take_succ_eq_append_getElem a1,List.take_succ_eq_append_getElem a2,List.take_succ_eq_append_getElem a3,List.map_append,List.map_singleton] at ih
   rw [if_pos (dT (by omega)),Xg a1,oB,c1,oB,Z7 (by simp only [nK,List.length_singleton,maxLen];omega),Xg a2,oB,c2,oB,Z7 (by simp only [nK,List.length_singleton,maxLen];omega),Xg a3,oB,l2,wS (by omega),List.nil_append]
   exact ih
  ·rw [if_neg (dF (by omega)),List.take_of_length_le (by omega),List.take_of_length_le (by omega),List.take_of_length_le (by omega)];rfl
theorem Zyq:Ze6 N n=some (Vf n):=by
 have hle:=hf.le
 have h:=Zqb hf hs hr hWK N 0 (Nat.zero_le _) (by omega)
 rw [List.take_zero,List.take_zero,List.take_zero,List.map_nil] at h
 rw [Ze6,Zdz,Z7 (by simp only [nN,maxLen];omega),oB,List.nil_append]
 exact h
/-! how many -/
def Zf (n:Zy):List Nat:=n.2.2.1.map List.length
omit hs hr hWK hN in
theorem W6:∀ s ∈ Zf n,0<s:=fun s h=>by
 obtain ⟨l,hl,rfl⟩:=List.mem_map.1 h
 exact List.length_pos_iff.2 (hf.ev.ne l hl)
omit hr hWK hf hN hs in
theorem Znc:∀ (l:List R5) (out:List Int),out.length+l.length≤1048576→Zbx l out=some (out++Xb (l.map List.length))
 | [],out,_=>by rw [Zbx.eq_1,List.map_nil,Xb,List.map_nil,List.append_nil]
 | x :: l,out,h=>by
  rw [nC] at h
  rw [Zbx.eq_2,Z7 (by simp only [List.length_singleton,maxLen];omega),Znc l _ (by rw [nA,List.length_singleton];omega),List.append_assoc];rfl
theorem Zz4 (hb:Zo (Zf n)≤65536):Up N n [] []=some (Xb (Zf n),0):=by
 have hv:=hf.ev.v;have hle:=hf.le
 have hC:U2 N (n.1,n.2.1,n.2.2.1,n.2.2.2.1,n.2.2.2.2)=some 0:=Zmr hf hs (hr.mono (by omega)) hN
 have sz:Zdc (n.1,n.2.1,n.2.2.1,n.2.2.2.1,n.2.2.2.2)=some (Xb (Zf n)):=by
  have:=Znc n.2.2.1 [] (by simp only [nN];omega)
  rw [List.nil_append] at this
  rw [Zdc];exact this
 have hlen:(Xb (Zf n)).length=n.2.1.length:=by rw [Xb,Zf,List.length_map,List.length_map,hv]
 have ct:=Zlt (W6 hf) hb
 rw [Up,hC,oB,if_neg (by decide),sz,oB,Tj.eq_1,T9.eq_1,Z7 (by rw [hlen];simp only [maxLen];omega),Zao.eq_1,S6.eq_1,ct,oB]
 dsimp only
 rw [if_neg (show ¬ (!decide ((0:Int)=0))=true by decide),decide_eq_false (by omega),Zbt,if_neg (by decide)]
omit hs hr hWK hN in
theorem Zac {w:List Int} (h:Qi (Zf n) w):V6 n w:=by
 have key:∀ (L:List R5) (w:List Int),Qi (L.map List.length) w→w.length=L.length∧∀ i,i<w.length→0≤w.getD i 0∧w.getD i 0<((L.getD i []).length:Int):=by
  intro L
  induction L with
  | nil=>
   intro w hw
   cases w with
   | nil=>exact ⟨rfl,fun i hi=>by simp at hi⟩
   | cons d w=>exact hw.elim
  | cons l L ih=>
   intro w hw
   cases w with
   | nil=>exact hw.elim
   | cons d w=>
    obtain ⟨h1,h2⟩:=ih w hw.2
    refine ⟨by rw [nC,nC,h1],fun i hi=>?_⟩
    cases i with
    | zero=>exact hw.1
    | succ i=>exact h2 i (by simpa using hi)
 obtain ⟨h1,h2⟩:=key n.2.2.1 w h
 exact ⟨by rw [h1,hf.ev.v],h2⟩
def Ta (n:Zy):Nat→Nat→List (List Int×QV)
 | _,0=>[]
 | k,m+1=>(Xq (Zf n) k,Zp (V0 n (Xq (Zf n) k) n.2.1.length 0 1)) :: Ta n (k+1) m
theorem Zpb (hq:∀ t ∈ n.2.2.2.2,Xz (t.map Wc)≤W) (hb:Zo (Zf n)≤65536):∀ (m k:Nat),k+m=Zo (Zf n)→Zc1 N (Vf n) (Zer (Zf n) k m)=some (Ta n k m)
 | 0,k,_=>rfl
 | m+1,k,h=>by
  have hf':=Zyt hf
  have hs':=Zyv hs hq
  have hC':=Zmr hf' hs' (hr.mono (by omega)) hN
  have hle:=hf.le
  have hd:=Zac hf (Tz (Zf n) k (W6 hf) (by omega))
  obtain ⟨p,e,ch,cs⟩:=Zyj hf' hs' hr hWK hN hC' (Xq (Zf n) k)
  have hin:(decide ((Xq (Zf n) k).length=(Vf n).2.1.length)&&T3 (Vf n) (Xq (Zf n) k) 0)=true:=by
   have:∀ (l:List Int) (j:Nat),(Xq (Zf n) k).drop j=l→T3 (Vf n) l j=true:=by
    intro l
    induction l with
    | nil=>intro j _;rfl
    | cons x l ihl=>
     intro j hj
     have hjl:j<(Xq (Zf n) k).length:=by
      rcases Nat.lt_or_ge j (Xq (Zf n) k).length with h | h
      ·exact h
      ·rw [List.drop_eq_nil_of_le h] at hj;cases hj
     rw [List.drop_eq_getElem_cons hjl] at hj
     obtain ⟨a1,a2⟩:=List.cons.inj hj
     have hok:=hd.ok j hjl
     rw [Yu hjl,a1] at hok
     have hcn:cnt (Vf n) j=cnt n j:=rfl
     rw [T3,ihl (j+1) a2,hcn,decide_eq_false (by omega),decide_eq_false (by omega)];rfl
   rw [this (Xq (Zf n) k) 0 (by rw [List.drop_zero]),Bool.and_true]
   exact decide_eq_true hd.len
  rcases cs with ⟨_,h0⟩ | ⟨_,_,hp⟩
  ·rw [hin] at h0;cases h0
  ·have ch':Zff N ((Vf n).1,(Vf n).2.1,(Vf n).2.2.1,(Vf n).2.2.2.1,(Vf n).2.2.2.2) (Xq (Zf n) k)=some (p,e):=ch
   have hlen:(Xq (Zf n) k).length≤1099511627776:=by rw [hd.len];omega
   rw [Zer,Zc1.eq_2]
   dsimp only
   rw [ch',oB,Zmt hlen,oB,Zpb hq hb m (k+1) (by omega),oB,hp,Zqf]
   rfl
theorem Zro (hq:∀ t ∈ n.2.2.2.2,Xz (t.map Wc)≤W) (hb:Zo (Zf n)≤65536):Zal N n=some (Ta n 0 (Zo (Zf n))):=by
 have hle:=hf.le;have hv:=hf.ev.v
 have jc:Up N (n.1,n.2.1,n.2.2.1,n.2.2.2.1,n.2.2.2.2) [] []=some (Xb (Zf n),0):=Zz4 hf hs hr hWK hN hb
 have cp:Ze6 N (n.1,n.2.1,n.2.2.1,n.2.2.2.1,n.2.2.2.2)=some (Vf n):=Zyq hf hs hr hWK hN
 have ra:=Z18 (N:=N) (W6 hf) (by rw [Zf,List.length_map];omega) (by omega) hb
 rw [Zal,jc,oB]
 dsimp only
 rw [if_neg (show ¬ (!decide ((0:Int)=0))=true by decide),cp,oB,Zkb,ra,oB]
 exact Zpb hf hs hr hWK hN hq hb (Zo (Zf n)) 0 (by omega)
end
/-! the next one -/
theorem Zm0 {ss:List Nat}:∀ {w:List Int},Qi ss w→ss.length=w.length∧∀ i,i<w.length→0≤w.getD i 0∧w.getD i 0<((ss.getD i 0:Nat):Int):=by
 induction ss with
 | nil=>
  intro w hw
  cases w with
  | nil=>exact ⟨rfl,fun i hi=>by simp at hi⟩
  | cons d w=>exact hw.elim
 | cons s ss ih=>
  intro w hw
  cases w with
  | nil=>exact hw.elim
  | cons d w=>
   obtain ⟨h1,h2⟩:=ih hw.2
   refine ⟨by rw [nC,nC,h1],fun i hi=>?_⟩
   cases i with
   | zero=>exact hw.1
   | succ i=>exact h2 i (by simpa using hi)
def Zh5 (aa:Bool):Option Bool:=
  some aa
def Zsb (ab:R0) (aa:R3):Option Bool:=
  if (decide (aa.1<0))=true then (Zh5 true) else (if (decide ((ab.2.1.length:Int)≤aa.1))=true then (Zh5 true) else (if (decide (aa.2<0))=true then (Zh5 true) else ((Zq ab.2.2.1 aa.1).bind fun ac=>Zh5 (decide ((ac.length:Int)≤aa.2)))))
def Vy (n:Zy) (f:Int×Int):Bool:=decide (0≤f.1)&&(decide (f.1<(n.2.1.length:Int))&&(decide (0≤f.2)&&decide (f.2<(cnt n f.1.toNat:Int))))
def Sj (n:Zy) (v:Int):Bool:=decide (0≤v)&&decide (v<(n.2.1.length:Int))
def Y2 (n:Zy) (F:List R3) (V:List Int):Int:=
 if F.all (Vy n)=true then if V.all (Sj n)=true then if (F.map (·.1)++V).Nodup then if 65536<Zo (Zf n) then 4 else 0 else 40 else 3 else 3
section
variable {N W K:Nat} {n:Zy} (hf:Ya N n) (hs:Ws n W)
include hf hs
/-! the document -/
omit hs in
theorem Z3a (f:Int×Int):Zsb n f=some (!Vy n f):=by
 have hv:=hf.ev.v
 rw [Zsb,Vy]
 by_cases h1:f.1<0
 ·rw [if_pos (dT h1),decide_eq_false (show ¬ 0≤f.1 by omega)];rfl
 ·rw [if_neg (dF h1),decide_eq_true (show 0≤f.1 by omega),Bool.true_and]
  by_cases h2:(n.2.1.length:Int)≤f.1
  ·rw [if_pos (dT h2),decide_eq_false (show ¬ f.1<(n.2.1.length:Int) by omega)];rfl
  ·rw [if_neg (dF h2),decide_eq_true (show f.1<(n.2.1.length:Int) by omega),Bool.true_and]
   by_cases h3:f.2<0
   ·rw [if_pos (dT h3),decide_eq_false (show ¬ 0≤f.2 by omega)];rfl
   ·have hat:Zq n.2.2.1 f.1=some (n.2.2.1.getD f.1.toNat []):=by
     have:=Um (l:=n.2.2.1) [] (j:=f.1.toNat) (by omega)
     rwa [show ((f.1.toNat:Nat):Int)=f.1 by omega] at this
    rw [if_neg (dF h3),decide_eq_true (show 0≤f.2 by omega),Bool.true_and,hat,oB,Zh5]
    rw [show ((n.2.2.1.getD f.1.toNat []).length:Int)=(cnt n f.1.toNat:Int) from rfl]
    by_cases h4:f.2<(cnt n f.1.toNat:Int)
    ·rw [decide_eq_true h4,decide_eq_false (by omega)];rfl
    ·rw [decide_eq_false h4,decide_eq_true (by omega)];rfl
omit hf hs in
theorem Ztj:∀ (ss:List Nat) (c:Nat),0<c→c≤2147483647→(∀ s ∈ ss,0<s)→∃ a b,Se (Xb ss) (c:Int)=some (a,b)∧((b=0∧a=((c * Zo ss:Nat):Int))∨(b≠0∧65536<c * Zo ss))
 | [],c,_,_,_=>⟨_,_,by rw [Xb,List.map_nil,Se.eq_1],.inl ⟨rfl,by rw [Zo,Nat.mul_one]⟩⟩
 | s :: ss,c,hc,hcm,hs=>by
  have hp:=Zgi ss fun x hx=>hs x (List.mem_cons_of_mem _ hx)
  have h0:=hs s List.mem_cons_self
  have e:Int.tdiv 2147483647 (c:Int)=((2147483647 / c:Nat):Int):=rfl
  have h3:2147483647 / c≤2147483647:=Nat.div_le_self _ _
  have e2:(c:Int) * (s:Int)=((c * s:Nat):Int):=(Int.natCast_mul c s).symm
  have hw:i64.wrap ((2147483647 / c:Nat):Int)=((2147483647 / c:Nat):Int):=by
   generalize 2147483647 / c=z at h3 ⊢
   exact Z2 (by omega)
  rw [Xb,List.map_cons,Se.eq_2,Z7 (by omega),e,hw,Zo,← Nat.mul_assoc]
  by_cases h:2147483647 / c<s
  ·have h4:2147483647<c * s:=by
    have:=(Nat.div_lt_iff_lt_mul hc).1 h
    rwa [Nat.mul_comm] at this
   have h5:c * s≤c * s * Zo ss:=Nat.le_mul_of_pos_right _ hp
   rw [if_pos (dT (Int.ofNat_lt.2 h))]
   exact ⟨_,_,rfl,.inr ⟨by decide,by omega⟩⟩
  ·have h4:c * s≤2147483647:=by
    have:=(Nat.le_div_iff_mul_le hc).1 (Nat.not_lt.1 h)
    rwa [Nat.mul_comm] at this
   rw [if_neg (by rw [decide_eq_false fun g=>h (Int.ofNat_lt.1 g)];decide),e2,Z2 (by omega)]
   exact Ztj ss (c * s) (Nat.mul_pos hc h0) h4 fun x hx=>hs x (List.mem_cons_of_mem _ hx)
omit hs in
theorem Zti:∀ (l S:List Int) (seen:List Bool),seen.length=n.2.1.length→(∀ x ∈ l,0≤x∧x<(n.2.1.length:Int))→S.Nodup→(∀ i,i<n.2.1.length→(seen.getD i false=true↔(i:Int) ∈ S))→
  ∃ a e,S6 (Xb (Zf n)) l seen=some (a,e)∧e=(if (S++l).Nodup then if 65536<Zo (Zf n) then 4 else 0 else 40)∧(e=0→a=Xb (Zf n))
 | [],S,seen,hsl,hl,hS,hseen=>by
  obtain ⟨a,b,c1,c2⟩:=Ztj (Zf n) 1 (by decide) (by decide) (W6 hf)
  rw [Nat.one_mul] at c2
  have ct:Q5 (Xb (Zf n))=some (a,b):=by
   rw [Q5,Zoq _ (Zf n) (W6 hf)];exact c1
  rw [S6.eq_1,ct,oB,List.append_nil,if_pos hS]
  dsimp only
  rcases c2 with ⟨hb,ha⟩ | ⟨hb,hlt⟩
  ·subst hb ha
   rw [if_neg (show ¬ (!decide ((0:Int)=0))=true by decide)]
   by_cases h:65536<Zo (Zf n)
   ·rw [decide_eq_true (by omega),Zbt,if_pos rfl,if_pos h]
    exact ⟨_,_,rfl,rfl,fun h=>by cases h⟩
   ·rw [decide_eq_false (by omega),Zbt,if_neg (by decide),if_neg h]
    exact ⟨_,_,rfl,rfl,fun _=>rfl⟩
  ·rw [if_pos (by rw [decide_eq_false hb];rfl),Zbt,if_pos rfl,if_pos hlt]
   exact ⟨_,_,rfl,rfl,fun h=>by cases h⟩
 | x :: l,S,seen,hsl,hl,hS,hseen=>by
  have hx:=hl x List.mem_cons_self
  obtain ⟨i,rfl⟩:∃ i:Nat,x=(i:Int):=⟨x.toNat,by omega⟩
  have hi:i<n.2.1.length:=by omega
  have hiff:=hseen i hi
  rw [S6.eq_2,Um false (by omega),oB]
  by_cases hm:(i:Int) ∈ S
  ·rw [if_pos (hiff.2 hm),if_neg (fun h=>by
    rw [List.nodup_append] at h
    exact h.2.2 _ hm _ List.mem_cons_self rfl)]
   exact ⟨_,_,rfl,rfl,fun h=>by cases h⟩
  ·have hs':seen.getD i false=false:=by
    cases h:seen.getD i false with
    | false=>rfl
    | true=>exact absurd (hiff.1 h) hm
   rw [if_neg (by rw [hs'];decide),oB,Int.toNat_natCast]
   have ih:=Zti l (S++[(i:Int)]) (seen.set i true) (by rw [nS];exact hsl) (fun y hy=>hl y (List.mem_cons_of_mem _ hy)) (by
    rw [List.nodup_append]
    refine ⟨hS,by simp,fun a ha b hb=>?_⟩
    rw [List.mem_singleton] at hb
    intro e
    exact hm (by rw [← hb,← e];exact ha)) fun j hj=>by
    rw [Sz seen false i _ _ (by omega),List.mem_append,List.mem_singleton]
    by_cases e:j=i
    ·rw [if_pos e]
     exact ⟨fun _=>.inr (by rw [e]),fun _=>rfl⟩
    ·rw [if_neg e,hseen j hj]
     exact ⟨.inl,fun h=>h.elim id fun h=>absurd (by omega) e⟩
   rwa [List.append_assoc,List.singleton_append] at ih
omit hs in
theorem Zth:∀ (F:List R3) (V:List Int),V.length+F.length≤4194304→Zao (Xb (Zf n)) F V=S6 (Xb (Zf n)) (V++F.map (·.1)) (List.replicate (Xb (Zf n)).length false)
 | [],V,_=>by rw [Zao.eq_1,List.map_nil,List.append_nil]
 | f :: F,V,h=>by
  have hv:=hf.ev.v;have hle:=hf.le
  rw [nC] at h
  have tk:V.take (Int.toNat (V.length:Int))=V:=by rw [Int.toNat_natCast,List.take_length]
  rw [Zao.eq_2,tk,Z7 (by omega),Z7 (by simp only [List.length_singleton,maxLen];omega),Zth F (V++[f.1]) (by rw [nA,List.length_singleton];omega),List.append_assoc,List.map_cons,List.singleton_append]
omit hs in
theorem Ztg (F:List R3) (V:List Int) (hl:V.length+F.length≤4194304):∀ l:List Int,T9 F V (Xb (Zf n)) l=if l.all (Sj n)=true then S6 (Xb (Zf n)) (V++F.map (·.1)) (List.replicate (Xb (Zf n)).length false) else some ([],3)
 | []=>by
  have hv:=hf.ev.v;have hle:=hf.le
  have hlen:(Xb (Zf n)).length=n.2.1.length:=by rw [Xb,Zf,List.length_map,List.length_map,hv]
  rw [T9.eq_1,Z7 (by rw [hlen];simp only [maxLen];omega),Zth hf F V hl,List.all_nil,if_pos rfl]
 | x :: l=>by
  have hv:=hf.ev.v
  have hlen:(Xb (Zf n)).length=n.2.1.length:=by rw [Xb,Zf,List.length_map,List.length_map,hv]
  have ih:=Ztg F V hl l
  rw [hlen] at ih
  rw [T9.eq_2,List.all_cons,Sj,hlen]
  by_cases g1:x<0
  ·rw [if_pos (dT g1),Ze5,if_pos rfl,decide_eq_false (show ¬ 0≤x by omega)];rfl
  ·rw [if_neg (by rw [decide_eq_false g1];decide),decide_eq_true (show 0≤x by omega),Bool.true_and,Ze5]
   by_cases g2:(n.2.1.length:Int)≤x
   ·rw [if_pos (dT g2),decide_eq_false (show ¬ x<(n.2.1.length:Int) by omega)];rfl
   ·rw [if_neg (by rw [decide_eq_false g2];decide),decide_eq_true (show x<(n.2.1.length:Int) by omega),Bool.true_and]
    exact ih
omit hs in
theorem Ztf (F:List R3) (V:List Int):∀ l:List R3,Tj F V (Xb (Zf n)) l=if l.all (Vy n)=true then T9 F V (Xb (Zf n)) V else some ([],3)
 | []=>by rw [Tj.eq_1,List.all_nil,if_pos rfl]
 | f :: l=>by
  have hv:=hf.ev.v
  have hlen:(Xb (Zf n)).length=n.2.1.length:=by rw [Xb,Zf,List.length_map,List.length_map,hv]
  have ih:=Ztf F V l
  rw [Tj.eq_2,List.all_cons,Vy,hlen]
  by_cases h1:f.1<0
  ·rw [if_pos (dT h1),Qw,if_pos rfl,decide_eq_false (show ¬ 0≤f.1 by omega)];rfl
  ·rw [if_neg (dF h1),decide_eq_true (show 0≤f.1 by omega),Bool.true_and]
   by_cases h2:(n.2.1.length:Int)≤f.1
   ·rw [if_pos (dT h2),Qw,if_pos rfl,decide_eq_false (show ¬ f.1<(n.2.1.length:Int) by omega)];rfl
   ·rw [if_neg (dF h2),decide_eq_true (show f.1<(n.2.1.length:Int) by omega),Bool.true_and]
    by_cases h3:f.2<0
    ·rw [if_pos (dT h3),Qw,if_pos rfl,decide_eq_false (show ¬ 0≤f.2 by omega)];rfl
    ·have hk:f.1.toNat<(Zf n).length:=by rw [Zf,List.length_map];omega
     have hat:Zq (Xb (Zf n)) f.1=some (cnt n f.1.toNat:Int):=by
      have h:=Ziy hk
      rw [show ((f.1.toNat:Nat):Int)=f.1 by omega] at h
      rw [h]
      have hk1:f.1.toNat<n.2.2.1.length:=by omega
      congr 2
      rw [cnt,Yu hk,Yu hk1]
      simp only [Zf,List.getElem_map]
     rw [if_neg (dF h3),decide_eq_true (show 0≤f.2 by omega),Bool.true_and,hat,oB,Qw]
     by_cases h4:f.2<(cnt n f.1.toNat:Int)
     ·rw [decide_eq_true h4,decide_eq_false (by omega),if_neg (by decide),Bool.true_and]
      exact ih
     ·rw [decide_eq_false h4,decide_eq_true (by omega),if_pos rfl];rfl
theorem Zj3 (hr:Xm N (8 * W+40)) (hN:4194305<N) (F:List R3) (V:List Int) (hF:F.length≤2097152) (hV:V.length≤1048576):
  ∃ a,Up N n F V=some (a,Y2 n F V)∧(Y2 n F V=0→a=Xb (Zf n)):=by
 have hv:=hf.ev.v;have hle:=hf.le
 have hlen:(Xb (Zf n)).length=n.2.1.length:=by rw [Xb,Zf,List.length_map,List.length_map,hv]
 have hC:U2 N (n.1,n.2.1,n.2.2.1,n.2.2.2.1,n.2.2.2.2)=some 0:=Zmr hf hs hr (by omega)
 have sz:Zdc (n.1,n.2.1,n.2.2.1,n.2.2.2.1,n.2.2.2.2)=some (Xb (Zf n)):=by
  have:=Znc n.2.2.1 [] (by simp only [nN];omega)
  rw [List.nil_append] at this
  rw [Zdc];exact this
 rw [Up,hC,oB,if_neg (by decide),sz,oB,Ztf hf,Y2]
 by_cases g1:F.all (Vy n)=true
 ·rw [if_pos g1,if_pos g1,Ztg hf F V (by omega)]
  by_cases g2:V.all (Sj n)=true
  ·rw [if_pos g2,if_pos g2]
   have hrg:∀ x ∈ V++F.map (·.1),0≤x∧x<(n.2.1.length:Int):=fun x hx=>by
    rcases List.mem_append.1 hx with h | h
    ·have:=List.all_eq_true.1 g2 x h
     simp only [Sj,Bool.and_eq_true,decide_eq_true_eq] at this
     exact this
    ·obtain ⟨f,hf',rfl⟩:=List.mem_map.1 h
     have:=List.all_eq_true.1 g1 f hf'
     simp only [Vy,Bool.and_eq_true,decide_eq_true_eq] at this
     exact ⟨this.1,this.2.1⟩
   obtain ⟨a,e,h1,h2,h3⟩:=Zti hf (V++F.map (·.1)) [] (List.replicate (Xb (Zf n)).length false) (by rw [List.length_replicate,hlen]) hrg List.nodup_nil fun i hi=>by
    rw [List.getD_eq_getElem?_getD,List.getElem?_replicate,hlen,if_pos hi]
    simp
   have hsw:(V++F.map (·.1)).Nodup↔(F.map (·.1)++V).Nodup:=List.perm_append_comm.nodup_iff
   rw [List.nil_append] at h2
   simp only [hsw] at h2
   subst h2
   exact ⟨a,h1,h3⟩
  ·rw [if_neg g2,if_neg g2]
   exact ⟨_,rfl,fun h=>by cases h⟩
 ·rw [if_neg g1,if_neg g1]
  exact ⟨_,rfl,fun h=>by cases h⟩
end
/-! the probability is the interval's length -/
def Z1 (f:Nat→Rat):Nat→Nat→Rat
 | _,0=>0
 | k,m+1=>f k+Z1 f (k+1) m
theorem Zgm {f g:Nat→Rat}:∀ (m k:Nat),(∀ i,k≤i→i<k+m→f i=g i)→Z1 f k m=Z1 g k m
 | 0,k,_=>rfl
 | m+1,k,h=>by rw [Z1,Z1,h k (Nat.le_refl _) (by omega),Zgm m (k+1) fun i a b=>h i (by omega) (by omega)]
theorem Zvr (f g:Nat→Rat):∀ (m k:Nat),Z1 (fun i=>f i+g i) k m=Z1 f k m+Z1 g k m
 | 0,k=>by rw [Z1,Z1,Z1,Rat.add_zero]
 | m+1,k=>by rw [Z1,Z1,Z1,Zvr f g m];grind
theorem Zoz:∀ (m k:Nat),Z1 (fun _=>0) k m=0
 | 0,k=>rfl
 | m+1,k=>by rw [Z1,Zoz m,Rat.add_zero]
theorem Zow (f:Nat→Rat):∀ (m k l:Nat),Z1 f k (m+l)=Z1 f k m+Z1 f (k+m) l
 | 0,k,l=>by rw [Nat.zero_add,Z1,Rat.zero_add,Nat.add_zero]
 | m+1,k,l=>by rw [show m+1+l=m+l+1 by omega,Z1,Z1,Zow f m (k+1) l,show k+1+m=k+(m+1) by omega,Rat.add_assoc]
theorem Zvw (f:Nat→Nat→Rat) (b:Nat):∀ (a k:Nat),Z1 (fun i=>Z1 (fun j=>f i j) 0 b) k a=Z1 (fun j=>Z1 (fun i=>f i j) k a) 0 b
 | 0,k=>by simp only [Z1];rw [Zoz]
 | a+1,k=>by
  simp only [Z1]
  rw [Zvw f b a (k+1),← Zvr]
/-! a common denominator -/
def Vp:List (List QV)→Nat
 | []=>1
 | t :: T=>Td t * Vp T
theorem Zjr:∀ T:List (List QV),Vp T≠0
 | []=>by simp [Vp]
 | t :: T=>Nat.mul_ne_zero (Zjt t) (Zjr T)
theorem Zqj {W:Nat}:∀ T:List (List QV),(∀ t ∈ T,Xz t≤W∧∀ x ∈ t,Vc x)→(Ze (Vp T)).length≤T.length * (W+1)+1
 | [],_=>by rw [Vp,Th];simp
 | t :: T,h=>by
  obtain ⟨h1,h2⟩:=h t List.mem_cons_self
  have h3:=Zqu t h2
  have h4:=Zqj T fun u hu=>h u (List.mem_cons_of_mem _ hu)
  have h5:=U1 (Td t) (Vp T)
  rw [Vp,nC,Nat.add_mul,Nat.one_mul];omega
theorem Zqt {x:QV}:∀ t:List QV,x ∈ t→∃ E,E≠0∧Td t=Yq x.2 * E
 | y :: t,h=>by
  rcases List.mem_cons.1 h with rfl | h
  ·exact ⟨Td t,Zjt t,rfl⟩
  ·obtain ⟨E,h1,h2⟩:=Zqt t h
   exact ⟨Yq y.2 * E,Nat.mul_ne_zero (Tf _) h1,by rw [Td,h2,Nat.mul_left_comm]⟩
section
variable {N:Nat} {n:Zy} (hf:Ya N n)
include hf
theorem Ztm {w:List Int} (hw:V6 n w):∀ (T:List (List QV)) (k:Nat) (q:Rat) (D:Nat),n.2.2.2.2.drop k=T→D≠0→Bd D 1 q→Bd (D * Vp T) 1 (V0 n w T.length k q)
 | [],k,q,D,_,_,h=>by rw [Vp,Nat.mul_one];exact h
 | t :: T,k,q,D,hd,hD,h=>by
  have hk:k<n.2.2.2.2.length:=by
   rcases Nat.lt_or_ge k n.2.2.2.2.length with h | h
   ·exact h
   ·rw [List.drop_eq_nil_of_le h] at hd;cases hd
  have hv:k<n.2.1.length:=by have:=hf.ev.t;omega
  rw [List.drop_eq_getElem_cons hk] at hd
  obtain ⟨e1,e2⟩:=List.cons.inj hd
  have hwk:=hw.ok k (by rw [hw.len];exact hv)
  have hq:(w.getD k 0).toNat<(Vk n w k).length:=by rw [hf.rowT_len hw hv];omega
  have hmem:=Zk8 (List.getElem_mem hq)
  have hent:=hf.ent hv _ hmem
  rw [Yu hk,e1] at hmem
  obtain ⟨E,h1,h2⟩:=Zqt t hmem
  have hb:=(Zwo hent.1 hent.2).lift E (Tf _) h1
  rw [← h2] at hb
  have he:ent n w k=Xn (Vk n w k)[(w.getD k 0).toNat]:=by rw [ent,Yu hq]
  have hm:=h.mul hb
  rw [Nat.one_mul,← he] at hm
  have:=Ztm hw T (k+1) (q * ent n w k) (D * Td t) e2 (Nat.mul_ne_zero hD (Zjt t)) hm
  rw [nC,V0,Vp,← Nat.mul_assoc]
  exact this
theorem Zli {w:List Int} (hw:V6 n w):Bd (Vp n.2.2.2.2) 1 (V0 n w n.2.1.length 0 1):=by
 have:=Ztm hf hw n.2.2.2.2 0 1 1 (by rw [List.drop_zero]) (by decide) Bd.one
 rw [hf.ev.t,Nat.one_mul] at this
 exact this
omit hf in
theorem Zvs {f:Nat→Rat} {D:Nat} (hD:D≠0):∀ (m k:Nat),(∀ i,k≤i→i<k+m→Bd D 1 (f i))→Bd D m (Z1 f k m)
 | 0,k,_=>Bd.zero D 0
 | m+1,k,h=>by
  have h1:=(h k (Nat.le_refl _) (by omega)).add (Zvs hD m (k+1) fun i a b=>h i (by omega) (by omega)) hD
  rw [Nat.add_comm] at h1
  exact h1
end
def Zc3 (aa:List Int):List R3→Option Bool
  | []=>some true
  | ab :: ac=>(Zq aa ab.1).bind fun ad=>if (!decide (ad=ab.2))=true then (some false) else (Zc3 aa ac)
termination_by structural x=>x
def Ze7 (aa:List Int) (ab:R9):Option Bool:=
  Zc3 aa ab
theorem Zpl {aj ak:Nat} {a0 a1:Option Addr} {col:Zd} {w0:World} {af:R2} {ab:R9} {r:Bool} (hm:Ze7 af ab=some r) (h0:Sl (Za.int .i64) col w0 a0 aj af) (h1:Sl (Za.pair (Za.int .i64) (Za.int .i64)) col w0 a1 ak ab):
    Calls prog 170 #[.slice a0 af.length aj,.slice a1 ab.length ak] w0 (fun e w'=>e= .returned ((.bool r))∧Below w0.heap.size w0 w'):=by
 refine Xk 4 (m:=22) func170 rfl rfl rfl rfl rfl ?_;rw [Ze7.eq_1] at hm;have aa:=St.start col w0;refine go ?_;refine Z8 [0,7,8,1000000] (fun n f al=>∃ ag ac ad,n=ad.length∧ab.drop ac=ad∧Zc3 af ad=some r∧St w0 (Zj col) ag al∧[9].map f=[.int .i64 ac]) ab.length ⟨_,0,_,rfl,rfl,hm,aa,rfl⟩ ?_;clear hm;intro n f al hI;obtain ⟨ag,ac,ad,hn,hl,hm,aa,hs⟩:=hI;subst hn;refine .lL [9] hs ?_;replace h0:=h0.keep (Zl.start col w0);replace h1:=h1.keep (Zl.start col w0)
 cases ad with
 | nil=>
  have hk:¬ ((ac:Int)<(ab.length:Int)):=by have:=List.drop_eq_nil_iff.1 hl;omega
  have hkb:=decide_eq_false hk;rw [Zc3.eq_1] at hm;refine go ?_;refine X3 (congrArg Value.bool hkb)<|go ?_;cases hm;exact ⟨rfl,rfl,aa.below⟩
 | cons am ao=>
  obtain ⟨ah,ap,aq⟩:=Yk hl;have hk:(ac:Int)<(ab.length:Int):=by omega
  have hkb:=decide_eq_true hk;rw [Zc3.eq_2] at hm;refine go ?_;refine X4 (congrArg Value.bool hkb)<|go ?_;refine lI ah ((h1.ks aa).addr ah) ?_;obtain ⟨_,ar,au⟩:=(h1.ks aa).atN ah;obtain ⟨_,_,rfl,av,aw⟩:=Uf ar;obtain ⟨rfl,_⟩:=av;obtain ⟨rfl,_⟩:=aw;refine lV (.agg #[.int .i64 am.1,.int .i64 am.2]) (Wj isAgg97 sizeOf97 rfl rfl au)<|Xr (col:=ag) #[.int .i64 0,.int .i64 0] 1 zeroValue97 ?_;intro a3 a4 ae ax ay;refine Z5 ay ?_;intro a5 az a2 an;refine go ?_;refine Tq (col:=ae) (by kernel_rfl) (by kernel_rfl)<|go ?_;refine qF ⟨_,_,rfl⟩ ?_;refine qW (fun _ hC=>((an.atN).nth (q:=0) rfl).gr (hC.bl ae)) ?_;obtain ⟨a6,ai,hm⟩:=bZ hm;replace aa:=(aa.grow ax).kp az a2;refine qI ai ((h0.ks aa).addr ai)<|qW (fun _ hC=>((h0.ks aa).gr (hC.bl ae)).atInt ai) ?_;refine qF ⟨_,_,rfl⟩ ?_;refine qW (fun _ hC=>((an.atN).nth (q:=1) rfl).gr (hC.bl ae)) ?_;refine go ?_;refine Vh ?_;intro a7 hC;replace hC:=hC.bl ae;replace aa:=aa.grow hC;refine Zr hm (fun hb hm=>go ?_) fun hb hm=>go ?_
  ·cases hm;exact ⟨rfl,rfl,aa.below⟩
  exact ⟨ao.length,by simp,rfl,⟨_,_,_,rfl,ap,hm,aa,(Yo (congrArg (Value.int .i64) (Yn (Nat.lt_of_lt_of_le aq (h1.ks aa).1.1))) rfl)⟩⟩
def Zaq (N:Nat) (ae:R9):List Re→Bool→R2→R2→Option R1
  | [],aa,ab,ac=>some ((aa,ab),ac)
  | ad :: ag,aa,ab,ac=>(Ze7 ad.1 ae).bind fun ah=>if ah=true then ((Vs N ((aa,ab),ac) ((ad.2.1.1,ad.2.1.2),ad.2.2)).bind fun af=>(Zaq N ae ag) af.1.1 af.1.2 af.2) else ((Zaq N ae ag) aa ab ac)
termination_by structural x=>x
def Qx (N:Nat) (aa:R0) (ac:R9):Option R1:=
  (Ti N ([]:List R1)).bind fun ab=>(Zal N (aa.1,aa.2.1,aa.2.2.1,aa.2.2.2.1,aa.2.2.2.2)).bind fun ad=>Zaq N ac ad ab.1.1 ab.1.2 ab.2
theorem Zmc {N be bf bg bh a5:Nat} {bi bj bk bm a1:Option Addr} {col:Zd} {w0:World} {ad:R0} {ao:R9} {r:R1} (c1 c2:Nat) (hm:Qx N ad ao=some r) (bn:Sl Za.str col w0 bi be ad.2.1) (bo:Sl (Za.slice Za.str) col w0 bj bf ad.2.2.1) (bp:Sl (Za.slice (Za.int .i64)) col w0 bk bg ad.2.2.2.1) (bq:Sl (Za.slice (Za.pair (Za.pair Za.bool (Za.slice (Za.int .u32))) (Za.slice (Za.int .u32)))) col w0 bm bh ad.2.2.2.2) (h1:Sl (Za.pair (Za.int .i64) (Za.int .i64)) col w0 a1 a5 ao):
    Calls prog 144 #[(.agg #[.string ad.1,.slice bi ad.2.1.length be,.slice bj ad.2.2.1.length bf,.slice bk ad.2.2.2.1.length bg,.slice bm ad.2.2.2.2.length bh]),.slice a1 ao.length a5] w0 (fun e w'=>∃ (col':Zd) (ra1:Option Addr) (rc2:Nat) (ra4:Option Addr) (rc5:Nat),e= .returned ((.agg #[.bool r.1.1,.slice ra1 r.1.2.length rc2,.slice ra4 r.2.length rc5]))∧Zi col w0 col' w'∧Zc (Za.int .u32) 79 c1 col' w' ra1 rc2 r.1.2∧Zc (Za.int .u32) 79 c2 col' w' ra4 rc5 r.2):=by
 refine Zmp (m:=20) (args:=[(.agg #[.string ad.1,.slice bi ad.2.1.length be,.slice bj ad.2.2.1.length bf,.slice bk ad.2.2.2.1.length bg,.slice bm ad.2.2.2.2.length bh]),.slice a1 ao.length a5]) func144 rfl rfl rfl ?_;rw [Qx.eq_1] at hm;have aa:=St.start col w0;replace bn:=bn.keep (Zl.start col w0);replace bo:=bo.keep (Zl.start col w0);replace bp:=bp.keep (Zl.start col w0);replace bq:=bq.keep (Zl.start col w0);replace h1:=h1.keep (Zl.start col w0);have hmk:Yf 499 (Zj col) w0 []:=.nil;refine go ?_;refine Ye (col:=(Zj col)) 1 rfl ?_;intro c8 c9 cc br bs;refine Qm (col:=cc) (v:=(.slice a1 ao.length a5)) 2 rfl rfl ?_;intro b3 cd b4 bb ab;replace ab:Zk 82 2 b4 cd b3 #[.slice a1 ao.length a5]:=ab;refine Xr (col:=b4) #[.bool false,.slice none (([]:List Int).length) 0,.slice none (([]:List Int).length) 0] 3 zeroValue47 ?_;intro ce da cf a9 ac;refine go ?_;obtain ⟨bt,cg,hm⟩:=bZ hm;refine Zh (Zel (col:=cf) 4 5 cg Sl.nil) ?_;rintro _ db ⟨ch,ci,cj,ck,cl,rfl,a7,bu,bv⟩;refine ⟨_,rfl,?_⟩;refine Xr (col:=ch) #[.bool false,.slice none (([]:List Int).length) 0,.slice none (([]:List Int).length) 0] 6 zeroValue47 ?_;intro cn dc dd au co;refine Z5 co ?_;intro de av cp ae;refine go ?_;replace bs:=((((bs.gr bb).gr a9).gr a7).gr au).kp av;refine lV _ (Xh isAgg27 sizeOf27 bs) ?_;obtain ⟨cq,cr,hm⟩:=bZ hm;replace aa:=(((((aa.grow br).grow bb).grow a9).grow a7).grow au).kp av cp;refine Zh (Zpk 7 cr (bn.ks aa) (bo.ks aa) (bp.ks aa) (bq.ks aa)) ?_;rintro _ df ⟨cs,dg,rfl,aw,ct⟩;refine ⟨_,rfl,go ?_⟩;replace h1:=((((((h1.gr br).gr bb).gr a9).gr a7).gr au).kp av).gr aw;replace hmk:=((((((hmk.gr br).gr bb).gr a9).gr a7).gr au).kp av).gr aw;replace ab:=((((ab.gr a9).gr a7).gr au).kp av).gr aw;replace ac:=(((ac.gr a7).gr au).kp av).gr aw;replace bu:=((bu.gr au).kp av).gr aw;replace bv:=((bv.gr au).kp av).gr aw;replace ae:=ae.gr aw;replace aa:=aa.grow aw
 refine Zgo (psl:=[11,12]) (arr:=(fun (y:List Int×R1) (col:Zd) (w:World) (args:List Value)=>∃ (a0:Option Addr) (b5:Nat) (a1_0_1:Option Addr) (c1_0_1:Nat) (b6:Option Addr) (b7:Nat),args=[.slice a0 y.1.length b5,.agg #[.bool y.2.1.1,.slice a1_0_1 y.2.1.2.length c1_0_1,.slice b6 y.2.2.length b7]]∧Zc (Za.int .i64) 3 7 col w a0 b5 y.1∧Sl (Za.int .u32) col w a1_0_1 c1_0_1 y.2.1.2∧Sl (Za.int .u32) col w b6 b7 y.2.2)) (ys:=cq) (col:=cs) 498 rfl ct rfl hmk rfl rfl (by rintro _ _ _ _ ⟨_,_,_,_,_,_,rfl,_⟩;rfl) (fun ys_ ag al=>∃ (a6:Bool) (ax:Option Addr) (ay:Nat) (az:List Int) (a2:Option Addr) (a3:Nat) (a4:List Int),Zaq N ao ys_ a6 az a4=some r∧St w0 (Zj col) ag al∧Sl (Za.pair (Za.int .i64) (Za.int .i64)) ag al a1 a5 ao∧Zk 82 2 ag al b3 #[.slice a1 ao.length a5]∧Zk 47 3 ag al ce #[.bool false,.slice none (([]:List Int).length) 0,.slice none (([]:List Int).length) 0]∧Zc (Za.int .u32) 79 4 ag al ax ay az∧Zc (Za.int .u32) 79 5 ag al a2 a3 a4∧Zk 47 6 ag al cn #[.bool a6,.slice ax az.length ay,.slice a2 a4.length a3]) (fun _ _ _=>False) ?_ ?_ ⟨bt.1.1,ci,cj,bt.1.2,ck,cl,bt.2,hm,aa,h1,ab,ac,bu,bv,ae⟩ ?_ ?_ ?_
 ·intro ys_ ag al col2_ w2_ hJ hk;obtain ⟨a6,ax,ay,az,a2,a3,a4,hm,aa,h1,ab,ac,am,an,ae⟩:=hJ;exact ⟨a6,ax,ay,az,a2,a3,a4,hm,aa.kpp hk rfl rfl,h1.kpp hk rfl,ab.kpp hk rfl,ac.kpp hk rfl,am.kpp hk rfl rfl,an.kpp hk rfl rfl,ae.kpp hk rfl⟩
 ·intro _ _ _ _ _ h _;exact h
 ·intro dh di dj dk dl ag al args hJ hrec hmk harr;obtain ⟨a6,ax,ay,az,a2,a3,a4,hm,aa,h1,ab,ac,am,an,ae⟩:=hJ;rw [Zaq.eq_2] at hm;have hki:=Zx.refl (pC 2) ag al;obtain ⟨dm,dn,dp,dq,dr,ds,rfl,bw,bx,bz⟩:=harr;refine go ?_;refine Xr (col:=ag) #[.bool false,.slice none (([]:List Int).length) 0,.slice none (([]:List Int).length) 0] 8 zeroValue47 ?_;intro dt du a8 ah cu;refine Z5 cu ?_;intro dv ai b8 b0;refine Zm ?_;replace hrec:=(hrec.gr ah).kp ai;refine ⟨_,hrec,?_⟩;intro cv dw aj b9 hrec2;have hrec:=hrec2;refine go ?_;replace ab:=((ab.gr ah).kp ai).kp aj;refine lW ab.at1 ?_;obtain ⟨dx,cw,hm⟩:=bZ hm;replace h1:=((h1.gr ah).kp ai).kp aj;replace bw:=((bw.gr ah).kp ai).kp aj;refine Zh (Zpl cw (bw.toSlF (Zg.int .i64)) (h1.froz 7)) ?_;rintro _ ca ⟨rfl,af⟩;refine ⟨_,rfl,?_⟩;replace af:Zi a8 cv a8 ca:=.of_below af;refine Zm ?_;replace am:=(((am.gr ah).kp ai).kp aj).gr af;replace an:=(((an.gr ah).kp ai).kp aj).gr af;replace bx:=(((bx.gr ah).kp ai).kp aj).gr af;replace bz:=(((bz.gr ah).kp ai).kp aj).gr af;replace ac:=(((ac.gr ah).kp ai).kp aj).gr af;replace ae:=(((ae.gr ah).kp ai).kp aj).gr af;replace hmk:=(((hmk.gr ah).kp ai).kp aj).gr af;replace hki:=(((hki.gr ah).kp ai b8 rfl).kp aj b9 rfl).gr af;replace aa:=(((aa.grow ah).kp ai b8).kp aj b9).grow af;replace b0:=(b0.kp aj).gr af;replace h1:=h1.gr af;replace ab:=ab.gr af;replace hrec:=hrec.gr af;refine Zr hm (fun hb hm=>?_) fun hb hm=>?_
  ·refine Wr<|lV _ (Xh isAgg47 sizeOf47 ae)<|lV _ (Xh isAgg47 sizeOf47 b0) ?_;obtain ⟨b1,cx,hm⟩:=bZ hm;refine Zh (Zej 9 10 cx ((am.toSlF (Zg.int .u32)).froz 5) ((an.froz 4 (by decide)).toSlF (Zg.int .u32)) ((bx.froz 4).froz 5) ((bz.froz 4).froz 5)) ?_;rintro _ dy ⟨cy,cz,c0,c3,c4,rfl,ak,ap,aq⟩;refine ⟨_,rfl,?_⟩;replace ap:=ap.thaw (Z0 .u32) ak (((Fz.refl (col:=a8)).froz 4).froz 5) (by decide);replace aq:=aq.thaw (Z0 .u32) ak (((Fz.refl (col:=a8)).froz 4).froz 5) (by decide);replace ak:=ak.thawR (col:=a8);generalize Xc ca.heap.size a8 cy=dz at *;replace ae:=ae.gr ak;refine Z5 ae ?_;intro d0 ar cb ba;refine Zm ?_;replace h1:=(h1.gr ak).kp ar;replace h1:=h1.recol 9 4 (by decide);replace ap:=ap.kp ar;replace ap:=ap.recolSelf 4 (by decide);replace aq:=aq.kp ar;replace aq:=aq.recol 9 4 (by decide);replace ab:=(ab.gr ak).kp ar;replace ab:=ab.recol 9 4 (by decide);replace ac:=(ac.gr ak).kp ar;replace ac:=ac.recol 9 4 (by decide);replace ba:=ba.recol 9 4 (by decide);replace hrec:=(hrec.gr ak).kp ar;replace hrec:=hrec.recol 9 4 (by decide);replace hmk:=(hmk.gr ak).kp ar;replace hmk:=hmk.recol 9 4 (by decide);replace hki:=(hki.gr ak).kp ar cb rfl;replace hki:=hki.recol 9 4 rfl;replace aa:=(aa.grow ak).kp ar cb;replace aa:=aa.recol 9 4 (by decide) (by decide);replace h1:=h1.recol 10 5 (by decide);replace ap:=ap.recol 10 5 (by decide);replace aq:=aq.recolSelf 5 (by decide);replace ab:=ab.recol 10 5 (by decide);replace ac:=ac.recol 10 5 (by decide);replace ba:=ba.recol 10 5 (by decide);replace hrec:=hrec.recol 10 5 (by decide);replace hmk:=hmk.recol 10 5 (by decide);replace hki:=hki.recol 10 5 rfl;replace aa:=aa.recol 10 5 (by decide) (by decide);exact ⟨_,hki,⟨b1.1.1,cz,c0,b1.1.2,c3,c4,b1.2,hm,aa,h1,ab,ac,ap,aq,ba⟩,hrec,hmk⟩
  refine X8 ?_;exact ⟨_,hki,⟨a6,ax,ay,az,a2,a3,a4,hm,aa,h1,ab,ac,am,an,ae⟩,hrec,hmk⟩
 ·intro c5 ag al hJ hmk;obtain ⟨a6,ax,ay,az,a2,a3,a4,hm,aa,h1,ab,ac,am,an,ae⟩:=hJ;rw [Zaq.eq_1] at hm;refine go ?_;refine lV _ (Xh isAgg47 sizeOf47 ae)<|Z5 ac ?_;intro d1 bc c6 b2;refine go ?_;cases hm;replace hmk:=hmk.kp bc;refine ⟨_,(c5 :: []),rfl,hmk,?_⟩;intro d2 bd c7;replace am:=(am.kp bc).kp bd;replace an:=(an.kp bc).kp bd;replace aa:=(aa.kp bc c6).kp bd c7;replace b2:=b2.kp bd;exact ⟨_,Zus rfl rfl isAgg47 sizeOf47 rfl rfl b2.atN,Ww w0.heap.size col ag (fun n=>bif Nat.beq n 4 then c1 else bif Nat.beq n 5 then c2 else 0),ax,ay,a2,a3,rfl,aa.fin (fun n=>bif Nat.beq n 4 then c1 else bif Nat.beq n 5 then c2 else 0),aa.finOwn (g:=(fun n=>bif Nat.beq n 4 then c1 else bif Nat.beq n 5 then c2 else 0)) rfl am (by decide) (by decide) rfl,aa.finOwn (g:=(fun n=>bif Nat.beq n 4 then c1 else bif Nat.beq n 5 then c2 else 0)) rfl an (by decide) (by decide) rfl⟩
 intro _ _ _ _ h;exact h.elim
def Zan (N:Nat) (aa:R0) (ac:R9):Option (R1×Int):=
  (Up N (aa.1,aa.2.1,aa.2.2.1,aa.2.2.2.1,aa.2.2.2.2) ac ([]:List Int)).bind fun ad=>if (!decide (ad.2=0))=true then (some (((false,([]:List Int)),([]:List Int)),ad.2)) else ((Qx N (aa.1,aa.2.1,aa.2.2.1,aa.2.2.2.1,aa.2.2.2.2) ac).bind fun ab=>some (((ab.1.1,ab.1.2),ab.2),0))
theorem Zma {N ao ap aq ar au:Nat} {av aw ax ay a1:Option Addr} {col:Zd} {w0:World} {ab:R0} {aj:R9} {r:(R1×Int)} (c1 c2:Nat) (hm:Zan N ab aj=some r) (ae:Sl Za.str col w0 av ao ab.2.1) (af:Sl (Za.slice Za.str) col w0 aw ap ab.2.2.1) (ag:Sl (Za.slice (Za.int .i64)) col w0 ax aq ab.2.2.2.1) (ah:Sl (Za.slice (Za.pair (Za.pair Za.bool (Za.slice (Za.int .u32))) (Za.slice (Za.int .u32)))) col w0 ay ar ab.2.2.2.2) (h1:Sl (Za.pair (Za.int .i64) (Za.int .i64)) col w0 a1 au aj):
    Calls prog 52 #[(.agg #[.string ab.1,.slice av ab.2.1.length ao,.slice aw ab.2.2.1.length ap,.slice ax ab.2.2.2.1.length aq,.slice ay ab.2.2.2.2.length ar]),.slice a1 aj.length au] w0 (fun e w'=>∃ (col':Zd) (ra1:Option Addr) (rc2:Nat) (ra4:Option Addr) (rc5:Nat),e= .returned (.tuple #[(.agg #[.bool r.1.1.1,.slice ra1 r.1.1.2.length rc2,.slice ra4 r.1.2.length rc5]),.int .i64 r.2])∧Zi col w0 col' w'∧Zc (Za.int .u32) 79 c1 col' w' ra1 rc2 r.1.1.2∧Zc (Za.int .u32) 79 c2 col' w' ra4 rc5 r.1.2):=by
 refine Wi (m:=21) func52 rfl rfl rfl ?_;rw [Zan.eq_1] at hm;have aa:=St.start col w0;refine go ?_;refine Ye (col:=(Zj col)) 1 rfl ?_;intro bd be a4 a5 ac;refine Xr (col:=a4) #[.bool false,.slice none (([]:List Int).length) 0,.slice none (([]:List Int).length) 0] 2 zeroValue47 ?_;intro bf bg bh az ad;refine go ?_;replace ac:=ac.gr az;refine lV _ (Xh isAgg27 sizeOf27 ac)<|Y0 rfl ?_;obtain ⟨ai,a6,hm⟩:=bZ hm;replace ae:=ae.keep (Zl.start col w0);replace af:=af.keep (Zl.start col w0);replace ag:=ag.keep (Zl.start col w0);replace ah:=ah.keep (Zl.start col w0);replace h1:=h1.keep (Zl.start col w0);replace aa:=(aa.grow a5).grow az;refine Zh (Zjl 3 a6 (ae.ks aa) (af.ks aa) (ag.ks aa) (ah.ks aa) (h1.ks aa) Sl.nil) ?_;rintro _ bi ⟨bj,a0,a2,rfl,ak,bk⟩;refine ⟨_,rfl,?_⟩;refine lM (.tuple #[.slice a0 ai.1.length a2,.int .i64 ai.2])<|lV (.slice a0 ai.1.length a2) (Xe rfl rfl)<|lV (.int .i64 ai.2) (Xe rfl rfl)<|go ?_;replace ac:=ac.gr ak;replace ad:=ad.gr ak;replace aa:=aa.grow ak;refine Zr hm (fun hb hm=>go ?_) fun hb hm=>go ?_
 ·refine lV (.agg #[.bool false,.slice none (([]:List Int).length) 0,.slice none (([]:List Int).length) 0]) (Wg (l:=[_,_]) (qs:=[(0,2),(2,1)]) underlying47 zeroValue47 ⟨rfl,sizeOf45,rfl,sizeOf43,trivial⟩ rfl)<|Yd rfl<|Z5 ad ?_;intro bm a7 a8 a9;refine go ?_;cases hm;replace aa:=aa.kp a7 a8;exact ⟨rfl,_,Ue a9.atN,_,none,0,none,0,rfl,aa.fin (cm []),Zc.nil,Zc.nil⟩
 refine lV _ (Xh isAgg27 sizeOf27 ac)<|Y0 rfl ?_;obtain ⟨bn,ba,hm⟩:=bZ hm;refine Zh (Zmc 4 5 ba (ae.ks aa) (af.ks aa) (ag.ks aa) (ah.ks aa) (h1.ks aa)) ?_;rintro _ bo ⟨bp,bq,br,bs,bt,rfl,a3,al,am⟩;refine ⟨_,rfl,?_⟩;replace ad:=ad.gr a3;refine Z5 ad ?_;intro bu an bb bc;refine go ?_;cases hm;replace aa:=(aa.grow a3).kp an bb;replace al:=al.kp an;replace am:=am.kp an;exact ⟨rfl,_,Ue bc.atN,_,_,_,_,_,rfl,aa.fin (cm [(4,c1),(5,c2)]),aa.fo al,aa.fo am⟩
theorem Zzg:Y4 prog 97 2 16:=⟨Tryz.t97,_,rfl,rfl,rfl,rfl,rfl⟩
def Zib (aa:R9):Option R9:=
  Zz ((([]:List R3).length+aa.length) * 16≤140737488355328∧([]:List R3).length+aa.length≤maxLen) (some (([]:List R3)++aa))
theorem Zx1 {ad:Nat} {a0:Option Addr} {col:Zd} {w0:World} {ac r:R9} (c1:Nat) (hm:Zib ac=some r) (h0:Sl (Za.pair (Za.int .i64) (Za.int .i64)) col w0 a0 ad ac):
    Calls prog 145 #[.slice a0 ac.length ad] w0 (fun e w'=>∃ (col':Zd) (ra1:Option Addr) (rc2:Nat),e= .returned ((.slice ra1 r.length rc2))∧Zi col w0 col' w'∧Zc (Za.pair (Za.int .i64) (Za.int .i64)) 97 c1 col' w' ra1 rc2 r):=by
 refine Xk 2 (m:=8) func145 rfl rfl rfl rfl rfl ?_;rw [Zib.eq_1] at hm;have aa:=St.start col w0;refine go ?_;replace h0:=h0.keep (Zl.start col w0);rcases Zlb h0 with ab | ab
 ·replace hm:some ([]:List R3)=some r:=by have h0:=ab.2;subst h0;simpa [Zz,maxLen] using hm
  refine lv (v:=.bool a0.isNone) rfl rfl (Zci underlying82 rfl)<|.ld (d:=4) (v:=.bool true) (congrArg Value.bool ab.1)<|Zm<|X4 rfl<|go ?_;cases hm;exact ⟨rfl,_,none,0,rfl,aa.fin (cm []),Zc.nil⟩
 refine lv (v:=.bool a0.isNone) rfl rfl (Zci underlying82 rfl)<|.ld (d:=4) (v:=.bool false) (congrArg Value.bool ab)<|Zm<|X3 rfl<|go ?_;refine Zg4 (col:=(Zj col)) (r:=(Za.pair (Za.int .i64) (Za.int .i64))) 1 rfl underlying82 Zzg rfl ?_;intro aj ak al ae af;refine Y0 rfl ?_;obtain ⟨ag,hm⟩:=Z3 hm;replace h0:=h0.gr ae;refine Vq af h0.srcC ag ?_;intro am an ao ap ah ai;refine go ?_;cases hm;replace aa:=(aa.grow ae).kpp ah;exact ⟨rfl,_,_,_,rfl,aa.fin (cm [(1,c1)]),aa.fo ai⟩
def Zam (N:Nat) (aa:R0) (ah:R9) (ab:R9):Option (R1×Int):=
  (Zib ah).bind fun ac=>Zz ((ac.length+ab.length) * 16≤140737488355328∧ac.length+ab.length≤maxLen) ((Up N (aa.1,aa.2.1,aa.2.2.1,aa.2.2.2.1,aa.2.2.2.2) (ac++ab) ([]:List Int)).bind fun ag=>if (!decide (ag.2=0))=true then (some (((false,([]:List Int)),([]:List Int)),ag.2)) else ((Qx N (aa.1,aa.2.1,aa.2.2.1,aa.2.2.2.1,aa.2.2.2.2) (ac++ab)).bind fun ae=>(Qx N (aa.1,aa.2.1,aa.2.2.1,aa.2.2.2.1,aa.2.2.2.2) ab).bind fun af=>(Ze3 N ((ae.1.1,ae.1.2),ae.2) ((af.1.1,af.1.2),af.2)).bind fun ad=>if (!decide (ad.2=0))=true then (some (((false,([]:List Int)),([]:List Int)),52)) else (some (((ad.1.1.1,ad.1.1.2),ad.1.2),0))))
theorem Zl9 {N a9 ba bb bc bx bo:Nat} {bd be bf bg a1 a2:Option Addr} {col:Zd} {w0:World} {ab:R0} {bp a0:R9} {r:(R1×Int)} (c1 c2:Nat) (hm:Zam N ab bp a0=some r) (a3:Sl Za.str col w0 bd a9 ab.2.1) (a4:Sl (Za.slice Za.str) col w0 be ba ab.2.2.1) (a5:Sl (Za.slice (Za.int .i64)) col w0 bf bb ab.2.2.2.1) (a6:Sl (Za.slice (Za.pair (Za.pair Za.bool (Za.slice (Za.int .u32))) (Za.slice (Za.int .u32)))) col w0 bg bc ab.2.2.2.2) (h1:Sl (Za.pair (Za.int .i64) (Za.int .i64)) col w0 a1 bx bp) (h2:Sl (Za.pair (Za.int .i64) (Za.int .i64)) col w0 a2 bo a0):
    Calls prog 53 #[(.agg #[.string ab.1,.slice bd ab.2.1.length a9,.slice be ab.2.2.1.length ba,.slice bf ab.2.2.2.1.length bb,.slice bg ab.2.2.2.2.length bc]),.slice a1 bp.length bx,.slice a2 a0.length bo] w0 (fun e w'=>∃ (col':Zd) (ra1:Option Addr) (rc2:Nat) (ra4:Option Addr) (rc5:Nat),e= .returned (.tuple #[(.agg #[.bool r.1.1.1,.slice ra1 r.1.1.2.length rc2,.slice ra4 r.1.2.length rc5]),.int .i64 r.2])∧Zi col w0 col' w'∧Zc (Za.int .u32) 79 c1 col' w' ra1 rc2 r.1.1.2∧Zc (Za.int .u32) 79 c2 col' w' ra4 rc5 r.1.2):=by
 refine Wi (m:=41) func53 rfl rfl rfl ?_;rw [Zam.eq_1] at hm;have aa:=St.start col w0;refine go ?_;refine Ye (col:=(Zj col)) 1 rfl ?_;intro c4 c5 b7 b8 ag;refine Xr (col:=b7) #[.bool false,.slice none (([]:List Int).length) 0,.slice none (([]:List Int).length) 0] 2 zeroValue47 ?_;intro c6 c7 c8 bz ac;refine go ?_;obtain ⟨b9,ca,hm⟩:=bZ hm;replace h1:=h1.keep (Zl.start col w0);replace aa:=(aa.grow b8).grow bz;refine Zh (Zx1 3 ca (h1.ks aa)) ?_;rintro _ c9 ⟨da,db,dc,rfl,bq,cb⟩;refine ⟨_,rfl,?_⟩;refine Y0 rfl ?_;obtain ⟨cc,hm⟩:=Z3 hm;replace h2:=h2.keep (Zl.start col w0);replace aa:=aa.grow bq;refine Vq cb (h2.ks aa).srcC cc ?_;intro cd ce cf b0 br aw;refine go ?_;replace ag:=((ag.gr bz).gr bq).kpp br;refine lV _ (Xh isAgg27 sizeOf27 ag)<|Y0 rfl ?_;obtain ⟨bh,cg,hm⟩:=bZ hm;replace a3:=a3.keep (Zl.start col w0);replace a4:=a4.keep (Zl.start col w0);replace a5:=a5.keep (Zl.start col w0);replace a6:=a6.keep (Zl.start col w0);replace aa:=aa.kpp br;refine Zh (Zjl 4 cg ((a3.ks aa).froz 3) ((a4.ks aa).froz 3) ((a5.ks aa).froz 3) ((a6.ks aa).froz 3) (aw.toSlF (Zg.pair (Zg.int .i64) (Zg.int .i64))) Sl.nil) ?_;rintro _ ao ⟨ch,b1,b2,rfl,ax,dd⟩;refine ⟨_,rfl,?_⟩;replace ax:=ax.thawR (col:=b0);generalize Xc cf.heap.size b0 ch=ah at *;refine lM (.tuple #[.slice b1 bh.1.length b2,.int .i64 bh.2])<|lV (.slice b1 bh.1.length b2) (Xe rfl rfl)<|lV (.int .i64 bh.2) (Xe rfl rfl)<|go ?_;replace ac:=((ac.gr bq).kpp br).gr ax;replace aw:=aw.gr ax;replace ag:=ag.gr ax;replace aa:=aa.grow ax;refine Zr hm (fun hb hm=>go ?_) fun hb hm=>go ?_
 ·refine lV (.agg #[.bool false,.slice none (([]:List Int).length) 0,.slice none (([]:List Int).length) 0]) (Wg (l:=[_,_]) (qs:=[(0,2),(2,1)]) underlying47 zeroValue47 ⟨rfl,sizeOf45,rfl,sizeOf43,trivial⟩ rfl)<|Yd rfl<|Z5 ac ?_;intro de ci cj ck;refine go ?_;cases hm;replace aa:=aa.kp ci cj;exact ⟨rfl,_,Ue ck.atN,_,none,0,none,0,rfl,aa.fin (cm []),Zc.nil,Zc.nil⟩
 have bi:=Zx.clip (fun _=>false) ah ao;refine Zwb (col:=ah) [(0,0),(1,1),(3,0),(4,1),(2,3),(5,3),(6,3),(7,1),(8,1),(9,1),(10,4),(11,2),(12,1)] (by kernel_rfl) (by kernel_rfl) ⟨fun h=>absurd h (by decide),fun h=>absurd h (by decide),fun h=>absurd h (by decide),fun h=>absurd h (by decide),fun h=>absurd h (by decide),fun h=>absurd h (by decide),fun h=>absurd h (by decide),fun h=>absurd h (by decide),fun h=>absurd h (by decide),fun h=>absurd h (by decide),fun _=>⟨_,_,_,rfl,Zjx zeroValue47⟩,fun h=>absurd h (by decide),fun h=>absurd h (by decide),trivial⟩ ?_;replace ag:=ag.kpp bi;refine Zgq (v:=(.agg #[.string ab.1,.slice bd ab.2.1.length a9,.slice be ab.2.2.1.length ba,.slice bf ab.2.2.2.1.length bb,.slice bg ab.2.2.2.2.length bc])) rfl rfl (fun _ hC=>Wj isAgg27 sizeOf27 rfl rfl (ag.atN.gr (hC.bl (Zu ao ah)))) ?_;refine Zco (v:=(.slice cd ((b9++a0).length) ce)) rfl rfl (fun _=>Ud rfl) ?_;refine Zgq (v:=(.agg #[.string ab.1,.slice bd ab.2.1.length a9,.slice be ab.2.2.1.length ba,.slice bf ab.2.2.2.1.length bb,.slice bg ab.2.2.2.2.length bc])) rfl rfl (fun _ hC=>Wj isAgg27 sizeOf27 rfl rfl (ag.atN.gr (hC.bl (Zu ao ah)))) ?_;refine Zco (v:=(.slice a2 a0.length bo)) rfl rfl (fun _=>Ud rfl) ?_;refine Zaa rfl rfl ?_;intro cl hC0;have hC:=hC0.bl (Zu ao ah);obtain ⟨df,cn,hm⟩:=bZ hm;replace aw:=(aw.kpp bi).gr hC;replace aa:=(aa.kpp bi).grow hC;refine Zh (Zmc 5 6 cn ((a3.ks aa).froz 3) ((a4.ks aa).froz 3) ((a5.ks aa).froz 3) ((a6.ks aa).froz 3) (aw.toSlF (Zg.pair (Zg.int .i64) (Zg.int .i64)))) ?_;rintro _ ay ⟨co,dg,dh,di,dj,rfl,ai,ar,au⟩;refine ⟨_,rfl,?_⟩;replace ar:=ar.thaw (Z0 .u32) ai ((Fz.refl (col:=(Zu ao ah))).froz 3) (by decide);replace au:=au.thaw (Z0 .u32) ai ((Fz.refl (col:=(Zu ao ah))).froz 3) (by decide);replace ai:=ai.thawR (col:=(Zu ao ah));generalize Xc cl.heap.size (Zu ao ah) co=a7 at *;refine Zm ?_;refine ⟨fun w'=>Zi (Zu ay a7) ay (Zu ay a7) w',fun g=>(Zu ay a7) g=497,Zi.refl _ _,Sx,fun _=>⟨fun _ h=>Zab hC0 ai h,fun b hb=>ai.below.block b hb,fun g x1 x2=>Zbj ai g x1 (by first | exact x2 | (simp only [Yl,x2];rfl) | (simp only [Yl,Xf,x2];rfl))⟩,?_⟩;have bj:=Zx.clip (fun _=>false) a7 ay;refine Zaa rfl rfl ?_;intro dk hC0
 replace ac:=(((ac.kpp bi).gr hC).gr ai).kpp bj;have hC:=hC0.bl (Zu ay a7);obtain ⟨dl,cp,hm⟩:=bZ hm;replace aa:=((aa.grow ai).kpp bj).grow hC;refine Zh (Zmc 7 8 cp (a3.ks aa) (a4.ks aa) (a5.ks aa) (a6.ks aa) (h2.ks aa)) ?_;rintro _ af ⟨aj,dm,dn,dp,dq,rfl,av,bs,bt⟩;refine ⟨_,rfl,?_⟩;refine Zm ?_;refine ⟨fun w'=>Zi (Zu af aj) af (Zu af aj) w',fun g=>(Zu af aj) g=497,Zi.refl _ _,Sx,fun _=>⟨fun _ h=>Zab hC0 av h,fun b hb=>av.below.block b hb,fun g x1 x2=>Zbj av g x1 (by first | exact x2 | (simp only [Yl,x2];rfl) | (simp only [Yl,Xf,x2];rfl))⟩,?_⟩;have az:=Zx.clip (fun _=>false) aj af;refine Zaa rfl rfl ?_;intro cq hC0;replace ar:=(((ar.kpp bj).gr hC).gr av).kpp az;replace au:=(((au.kpp bj).gr hC).gr av).kpp az;replace ac:=((ac.gr hC).gr av).kpp az;have hC:=hC0.bl (Zu af aj);obtain ⟨ak,cr,hm⟩:=bZ hm;replace bs:=(bs.kpp az).gr hC;replace bt:=(bt.kpp az).gr hC;replace ar:=ar.gr hC;replace au:=au.gr hC;refine Zh (Zwx 9 10 cr ((((ar.toSlF (Zg.int .u32)).froz 6).froz 7).froz 8) ((((au.froz 5 (by decide)).toSlF (Zg.int .u32)).froz 7).froz 8) ((((bs.froz 5 (by decide)).froz 6 (by decide)).toSlF (Zg.int .u32)).froz 8) ((((bt.froz 5 (by decide)).froz 6 (by decide)).froz 7 (by decide)).toSlF (Zg.int .u32))) ?_;rintro _ ad ⟨cs,b3,b4,b5,b6,rfl,al,am,an⟩;refine ⟨_,rfl,?_⟩;replace am:=am.thaw (Z0 .u32) al (((((Fz.refl (col:=(Zu af aj))).froz 5).froz 6).froz 7).froz 8) (by decide);replace an:=an.thaw (Z0 .u32) al (((((Fz.refl (col:=(Zu af aj))).froz 5).froz 6).froz 7).froz 8) (by decide);replace al:=al.thawR (col:=(Zu af aj));generalize Xc cq.heap.size (Zu af aj) cs=ae at *;refine Zm ?_;refine ⟨fun w'=>Zi (Zu ad ae) ad (Zu ad ae) w',fun g=>(Zu ad ae) g=497,Zi.refl _ _,Sx,fun _=>⟨fun _ h=>Zab hC0 al h,fun b hb=>al.below.block b hb,fun g x1 x2=>Zbj al g x1 (by first | exact x2 | (simp only [Yl,x2];rfl) | (simp only [Yl,Xf,x2];rfl))⟩,?_⟩;have bk:=Zx.clip (fun _=>false) ae ad;refine Zco (v:=(.tuple #[(.agg #[.bool ak.1.1.1,.slice b3 ak.1.1.2.length b4,.slice b5 ak.1.2.length b6]),.int .i64 ak.2])) rfl rfl (fun _=>Ud rfl) ?_
 refine Zco (v:=(.agg #[.bool ak.1.1.1,.slice b3 ak.1.1.2.length b4,.slice b5 ak.1.2.length b6])) rfl rfl (fun _=>Xe rfl rfl) ?_;refine Zco (v:=(.int .i64 ak.2)) rfl rfl (fun _=>Xe rfl rfl) ?_;refine xaF rfl rfl (Zjx zeroValue47) ?_;intro ap ct;refine Zaa rfl rfl ?_;intro cu ⟨hC0,hZ0⟩;replace aa:=((((aa.grow av).kpp az).grow hC).grow al).kpp bk;replace ac:=((ac.gr hC).gr al).kpp bk;have hC:=hC0.bl (Zu ad ae);obtain ⟨bm,bu⟩:=Zpf (col:=(Zu ad ae)) 11 hZ0 ct;replace bu:Zk 47 11 (W1 ap 11 (Zu ad ae)) cu ap #[.bool false,.slice none (([]:List Int).length) 0,.slice none (([]:List Int).length) 0]:=bu;refine Z5 bu ?_;intro aq bn cv bv;refine Zm ?_;refine ⟨fun w'=>Zi (Zu aq (W1 ap 11 (Zu ad ae))) aq (Zu aq (W1 ap 11 (Zu ad ae))) w',fun g=>(Zu aq (W1 ap 11 (Zu ad ae))) g=497,Zi.refl _ _,Sx,fun h=>absurd h (by decide),?_⟩;have a8:=Zx.clip (fun _=>false) (W1 ap 11 (Zu ad ae)) aq;refine Zco (v:=(.int .i64 ak.2)) rfl rfl (fun _=>Uk rfl) ?_;refine Zwg ?_;replace am:=((((am.kpp bk).gr hC).kpp bm).kp bn).kpp a8;replace an:=((((an.kpp bk).gr hC).kpp bm).kp bn).kpp a8;replace ac:=(((ac.gr hC).kpp bm).kp bn).kpp a8;replace aa:=(((aa.grow hC).kpp bm).kp bn cv).kpp a8;intro cw hC;replace hC:Zi (Zu aq (W1 ap 11 (Zu ad ae))) aq (Zu aq (W1 ap 11 (Zu ad ae))) cw:=.of_below hC.below;refine go ?_;replace bv:=(bv.kpp a8).gr hC;replace am:=am.gr hC;replace an:=an.gr hC;replace ac:=ac.gr hC;replace aa:=aa.grow hC;refine Zr hm (fun hb hm=>go ?_) fun hb hm=>go ?_
 ·refine lV (.agg #[.bool false,.slice none (([]:List Int).length) 0,.slice none (([]:List Int).length) 0]) (Wg (l:=[_,_]) (qs:=[(0,2),(2,1)]) underlying47 zeroValue47 ⟨rfl,sizeOf45,rfl,sizeOf43,trivial⟩ rfl)<|Z5 ac ?_;intro dr cx cy cz;refine go ?_;cases hm;replace aa:=aa.kp cx cy;exact ⟨rfl,_,Ue cz.atN,_,none,0,none,0,rfl,aa.fin (cm []),Zc.nil,Zc.nil⟩
 refine lV _ (Xh isAgg47 sizeOf47 bv)<|Z5 ac ?_;intro ds bw c0 c3;refine go ?_;cases hm;replace am:=am.kp bw;replace an:=an.kp bw;replace aa:=aa.kp bw c0;exact ⟨rfl,_,Ue c3.atN,_,_,_,_,_,rfl,aa.fin (cm [(9,c1),(10,c2)]),aa.fo am,aa.fo an⟩
def Uc (n:Zy) (k:Nat):Rat:=V0 n (Xq (Zf n) k) n.2.1.length 0 1
def Wz (w:List Int) (F:List R3):Bool:=F.all fun f=>decide (w.getD f.1.toNat 0=f.2)
def Zbb (n:Zy) (F:List R3):Nat→Nat→Rat→Rat
 | _,0,q=>q
 | k,m+1,q=>Zbb n F (k+1) m (if Wz (Xq (Zf n) k) F=true then q+Uc n k else q)
section
variable {N W K:Nat} {n:Zy} (hf:Ya N n)
include hf
variable (hs:Ws n W) (hr:Xm N (8 * K+40)) (hWK:1025 * (W+2)+15≤K) (hN:4611686018427387903<N) (hP:Zo (Zf n)≤65536)
include hs hr hWK hN hP
omit hf hs hr hWK hP hN in
theorem Zn2 {w:List Int} (hw:V6 n w):∀ F:List R3,F.all (Vy n)=true→Zc3 w F=some (Wz w F)
 | [],_=>rfl
 | f :: F,h=>by
  rw [List.all_cons,Bool.and_eq_true] at h
  have h1:=h.1
  simp only [Vy,Bool.and_eq_true,decide_eq_true_eq] at h1
  have hat:Zq w f.1=some (w.getD f.1.toNat 0):=by
   have:=Um (l:=w) 0 (j:=f.1.toNat) (by rw [hw.len];omega)
   rwa [show ((f.1.toNat:Nat):Int)=f.1 by omega] at this
  have ih:=Zn2 hw F h.2
  rw [Zc3.eq_2,hat,oB,Wz,List.all_cons]
  by_cases he:w.getD f.1.toNat 0=f.2
  ·rw [if_neg (by rw [decide_eq_true he];decide),ih,decide_eq_true he,Bool.true_and,Wz]
  ·rw [if_pos (by rw [decide_eq_false he];rfl),decide_eq_false he,Bool.false_and]
variable (h6:Zo (Zf n)≤600)
include h6
omit hN hP hr h6 in
theorem Ziw {q:Rat} {j:Nat} (hj:j≤600) (h:Bd (Vp n.2.2.2.2) j q):qs q≤K:=by
 have ht:=hf.ev.t;have hle:=hf.le
 have hD:=Zjr n.2.2.2.2
 have h2:=(h.up (K:=600) hj).qs hD (by decide)
 have h3:=U1 600 (Vp n.2.2.2.2)
 have h4:=Zqj (W:=W) n.2.2.2.2 fun t h=>⟨hs.tq t h,hs.lim t h⟩
 have h5:(Ze 600).length≤1:=Wq.2 (by decide)
 have h6:n.2.2.2.2.length * (W+1)≤1024 * (W+1):=Nat.mul_le_mul_right _ (by omega)
 omega
omit hN in
theorem Zn5 (F:List R3) (hF:F.all (Vy n)=true):∀ (m k:Nat) (q:Rat),k+m=Zo (Zf n)→Bd (Vp n.2.2.2.2) k q→Zaq N F (Ta n k m) (Zp q).1.1 (Zp q).1.2 (Zp q).2=some (Zp (Zbb n F k m q))∧qs (Zbb n F k m q)≤K
 | 0,k,q,hk,hb=>⟨by rw [Ta,Zaq.eq_1,Zbb],by rw [Zbb];exact Ziw hf hs hWK (by omega) hb⟩
 | m+1,k,q,hk,hb=>by
  have hd:=Zac hf (Tz (Zf n) k (W6 hf) (by omega))
  have hh:Ze7 (Xq (Zf n) k) F=some (Wz (Xq (Zf n) k) F):=Zn2 hd F hF
  have hpb:Bd (Vp n.2.2.2.2) 1 (Uc n k):=Zli hf hd
  have q1:=Ziw hf hs hWK (by omega) hb
  have q2:=Ziw hf hs hWK (by decide) hpb
  rw [Ta,Zaq.eq_2]
  dsimp only
  rw [hh,oB,Zbb]
  cases hb2:Wz (Xq (Zf n) k) F with
  | true=>
   have ad:Vs N (((Zp q).1.1,(Zp q).1.2),(Zp q).2) (((Zp (Uc n k)).1.1,(Zp (Uc n k)).1.2),(Zp (Uc n k)).2)=some (Zp (q+Uc n k)):=by
    have:=Zbi (W5 q1) (W5 q2) (hr.mono (by omega))
    rwa [Wx,Wx] at this
   have hD:=Zjr n.2.2.2.2
   have ih:=Zn5 F hF m (k+1) (q+Uc n k) (by omega) (hb.add hpb hD)
   have ad':Vs N (((Zp q).1.1,(Zp q).1.2),(Zp q).2) (((Zp (V0 n (Xq (Zf n) k) n.2.1.length 0 1)).1.1,(Zp (V0 n (Xq (Zf n) k) n.2.1.length 0 1)).1.2),(Zp (V0 n (Xq (Zf n) k) n.2.1.length 0 1)).2)=some (Zp (q+Uc n k)):=ad
   rw [if_pos rfl,if_pos rfl,ad',oB]
   exact ih
  | false=>
   rw [if_neg (by decide),if_neg (by decide)]
   exact Zn5 F hF m (k+1) q (by omega) (hb.up (by omega))
omit hf hs hr hWK hN hP h6 in
theorem Znx {F:List R3} {V:List Int} (h:Y2 n F V=0):F.all (Vy n)=true:=by
 rw [Y2] at h
 split at h
 ·assumption
 ·cases h
end
def Zgd:List Int→Option R2
  | []=>some []
  | aa :: ab=>((Zgd ab)).bind fun ac=>some (aa :: ac)
termination_by structural x=>x
def Zk7 (aa:List Int):Option R2:=
  Zgd aa
theorem Zyb (col:Zd) (w0:World) (g0:Nat) (af0:Option Addr) (capf0:Nat) (aa:List Int) (hf0:Sl (Za.int .i64) col w0 af0 capf0 aa) (hb0:Zk 40 0 col w0 g0 #[.slice af0 aa.length capf0]) (r:List Int) (hm:Zk7 aa=some r):
    Zcr prog 1 248 [.pointer (some ⟨g0,0,none⟩)] (fun (y:Int) (col:Zd) (w:World) (args:List Value)=>args=[.int .i64 y]) r col w0:=by
 intro l J X hjs hxs hy ab;refine Zcu (m:=16) (args:=[.func (.yield l) #[] #[],.pointer (some ⟨g0,0,none⟩)]) func248 rfl rfl rfl rfl ?_;rw [Zk7.eq_1] at hm;refine go ?_;refine lW hb0.at1<|go ?_;refine Z8 [0,5,6,1000000] (fun n f ae=>∃ af r ac ad,n=ad.length∧aa.drop ac=ad∧Zgd ad=some r∧J r af ae∧Sl (Za.int .i64) af ae af0 capf0 aa∧Zk 40 0 af ae g0 #[.slice af0 aa.length capf0]∧[7].map f=[.int .i64 ac]) aa.length ⟨_,_,0,_,rfl,rfl,hm,ab,hf0,hb0,rfl⟩ ?_;clear hm;intro n f ae hI;obtain ⟨af,r,ac,ad,hn,hl,hm,ab,hf0,hb0,hs⟩:=hI;subst hn;refine .lL [7] hs ?_
 cases ad with
 | nil=>
  have hk:¬ ((ac:Int)<(aa.length:Int)):=by have:=List.drop_eq_nil_iff.1 hl;omega
  have hkb:=decide_eq_false hk;rw [Zgd.eq_1] at hm;refine go ?_;refine X3 (congrArg Value.bool hkb)<|go ?_;cases hm;exact ⟨rfl,⟨_,rfl⟩,_,.inl ab⟩
 | cons ai aj=>
  obtain ⟨ag,ak,al⟩:=Yk hl;have hk:(ac:Int)<(aa.length:Int):=by omega
  have hkb:=decide_eq_true hk;rw [Zgd.eq_2] at hm;refine go ?_;refine X4 (congrArg Value.bool hkb)<|go ?_;refine lI ag (hf0.addr ag)<|lW (hf0.atInt ag) ?_;refine go ?_;refine lM (.func (.yield l) #[] #[])<|Yd rfl ?_;obtain ⟨an,hc_8m,am⟩:=bZ hm;cases am;have hm:=hc_8m;refine ly1 rfl rfl rfl (hy _ _ _ _ [.int .i64 ai] ab rfl) ?_;rintro _ ao ⟨ap,ah,⟨rfl,hJ⟩ | ⟨rfl,hX⟩⟩
  ·refine ⟨_,rfl,?_⟩;have ab:=hJ;refine go ?_;refine X3 rfl<|go ?_;replace hf0:=hf0.kpp ah;replace hb0:=hb0.kpp ah;exact ⟨aj.length,by simp,rfl,⟨_,_,_,_,rfl,ak,hm,ab,hf0,hb0,(Yo (congrArg (Value.int .i64) (Yn (Nat.lt_of_lt_of_le al hf0.1.1))) rfl)⟩⟩
  refine ⟨_,rfl,?_⟩;have ab:=hX;refine go ?_;refine X4 rfl<|W7 ?_;exact ⟨rfl,⟨_,rfl⟩,_,.inr ab⟩
def Zif (aa:List Int):Option R2:=
  Zk7 aa
theorem Zya {ac:Nat} {a0:Option Addr} {col:Zd} {w0:World} {aa r:R2} (hm:Zif aa=some r) (h0:Sl (Za.int .i64) col w0 a0 ac aa):
    Calls prog 168 #[.slice a0 aa.length ac] w0 (fun e w'=>∃ (col':Zd) (rv1:Value),e= .returned (rv1)∧Zi col w0 col' w'∧It prog 1 rv1 (fun (y:Int) (col:Zd) (w:World) (args:List Value)=>args=[.int .i64 y]) r qz col' w'):=by
 refine Xk 2 (m:=4) func168 rfl rfl rfl rfl rfl ?_;rw [Zif.eq_1] at hm;have ab:=St.start col w0;refine go ?_;refine Qm (col:=(Zj col)) (v:=(.slice a0 aa.length ac)) 1 rfl rfl ?_;intro ad ai ag aj ae;replace ae:Zk 40 1 ag ai ad #[.slice a0 aa.length ac]:=ae;refine lv (v:=_) rfl rfl (Uk rfl)<|go ?_;refine lV (.func (.func 248) #[] #[.pointer (some ⟨ad,0,none⟩)]) (Zud rfl)<|lA (.func (.func 248) #[] #[.pointer (some ⟨ad,0,none⟩)])<|go ?_;replace ab:=ab.grow aj;have af:=ab.finBox (G:=(fun n=>bif Nat.beq n 1 then 0 else 0)) ae (by decide) (by decide) (show (fun n=>bif Nat.beq n 1 then 0 else 0) 1=0 from rfl);replace h0:=h0.keep (Zl.start col w0);have h0f:=ab.finSl (g:=(fun n=>bif Nat.beq n 1 then 0 else 0)) rfl (h0.ks ab);refine ⟨rfl,Ww w0.heap.size col ag (fun n=>bif Nat.beq n 1 then 0 else 0),_,rfl,ab.fin (fun n=>bif Nat.beq n 1 then 0 else 0),248,[.pointer (some ⟨ad,0,none⟩)],rfl,call248,?_⟩;intro col9 w9 ah hk9;replace af:=af.itk ah hk9 rfl;replace h0f:=h0f.itk ah hk9 rfl;exact Zyb col9 w9 ad a0 ac aa h0f af r hm
theorem Zy9:Y4 prog 3 1 8:=⟨Tryz.t3,_,rfl,rfl,rfl,rfl,rfl⟩
def Zcc:List Int→R2→Option R2
  | [],aa=>some aa
  | ab :: ac,aa=>Zz ((aa.length+[ab].length) * 8≤140737488355328∧aa.length+[ab].length≤maxLen) ((Zcc ac) (aa++[ab]))
termination_by structural x=>x
def Zkx (aa:List Int):Option R2:=
  Zcc aa ([]:List Int)
theorem Zxw {col:Zd} {w0:World} {v1:Value} {an:List Int} {r:R2} (c1:Nat) (hm:Zkx an=some r) (h1:It prog 1 v1 (fun (y:Int) (col:Zd) (w:World) (args:List Value)=>args=[.int .i64 y]) an qz col w0):
    Calls prog 280 #[.slice none 0 0,v1] w0 (fun e w'=>∃ (col':Zd) (ra1:Option Addr) (rc2:Nat),e= .returned ((.slice ra1 r.length rc2))∧Zi col w0 col' w'∧Zc (Za.int .i64) 3 c1 col' w' ra1 rc2 r):=by
 refine Zp2 4 (mc:=499) (m:=13) (args:=[.slice none 0 0,v1]) func280 rfl rfl rfl rfl rfl ?_;rw [Zkx.eq_1] at hm;have aa:=St.start col w0;replace h1:=h1.keep (Zl.start col w0);have hmk:Yf 499 (Zj col) w0 []:=.nil;refine go ?_;refine Qm (col:=(Zj col)) (v:=(.slice none (([]:List Int).length) 0)) 1 rfl rfl ?_;intro ao a1 aw ap ab;replace ab:Zk 40 1 aw a1 ao #[.slice none (([]:List Int).length) 0]:=ab;refine go ?_;refine lv (v:=v1) rfl rfl (Ud rfl)<|go ?_;replace h1:=h1.gr ap;replace hmk:=hmk.gr ap;replace aa:=aa.grow ap;refine Zgo (psl:=[7]) (arr:=(fun (y:Int) (col:Zd) (w:World) (args:List Value)=>args=[.int .i64 y])) (ys:=an) (col:=aw) 498 rfl h1 rfl hmk rfl rfl (by rintro _ _ _ _ rfl;rfl) (fun ys_ ad af=>∃ (ag:Option Addr) (ah:Nat) (ac:List Int),Zcc ys_ ac=some r∧St w0 (Zj col) ad af∧Zc (Za.int .i64) 3 2 ad af ag ah ac∧Zk 40 1 ad af ao #[.slice ag ac.length ah]) (fun _ _ _=>False) ?_ ?_ ⟨none,0,([]:List Int),hm,aa,Zc.nil,ab⟩ ?_ ?_ ?_
 ·intro ys_ ad af col2_ w2_ hJ hk;obtain ⟨ag,ah,ac,hm,aa,ae,ab⟩:=hJ;exact ⟨ag,ah,ac,hm,aa.kpp hk rfl rfl,ae.kpp hk rfl rfl,ab.kpp hk rfl⟩
 ·intro _ _ _ _ _ h _;exact h
 ·intro ba bb bc am bd ad af args hJ hrec hmk harr;obtain ⟨ag,ah,ac,hm,aa,ae,ab⟩:=hJ;rw [Zcc.eq_2] at hm;have hki:=Zx.refl (pC 1) ad af;subst harr;refine go ?_;refine ⟨_,hrec,?_⟩;intro be bf aj ax hrec2;have hrec:=hrec2;refine go ?_;replace ab:=ab.kp aj;refine lW ab.at1<|Yd rfl<|Vr (col:=ad) [am] 3 ?_;intro bg a2 a3 ai a4;obtain ⟨ay,hm⟩:=Z3 hm;replace ae:=(ae.kp aj).gr ai;refine Zbl (col:=a3) (w:=a2) (r:=(Za.int .i64)) (c:=2) (c2:=2) (ae.ex) (a4.srcN (NB.int (k:=.i64))) rfl underlying40 Zy9 rfl rfl rfl ay.1 ay.2 (by decide) ?_;intro aq ar bh a5 ak au;replace hmk:=((hmk.kp aj).gr ai).kpp ak;replace hki:=(hki.kp aj ax rfl).gr ai;replace ab:=(ab.gr ai).kpp ak;replace hrec:=(hrec.gr ai).kpp ak;replace hki:=hki.trans (ak.mono (by first | exact Ziq rfl | exact pCo_p1 rfl | exact pCo_pS rfl | exact fun _=>Zip | exact fun _ h=>h | exact fun _ _=>rfl));refine Sy (v:=(.slice aq ((ac++[am]).length) ar)) ab sizeOf40 rfl rfl (by intro u hu;simp only [Value.cells,List.mem_cons,List.not_mem_nil,or_false] at hu;subst hu;rfl) rfl rfl ?_;intro a6 al az av;replace av:Zk 40 1 a5 a6 ao #[.slice aq ((ac++[am]).length) ar]:=av;replace au:=au.kp al;have a7:=au.new;refine Zm ?_;replace aa:=(((aa.kp aj ax).grow ai).kpp ak).kp al az;replace hrec:=hrec.kp al;replace hmk:=hmk.kp al;replace hki:=hki.kp al az rfl;exact ⟨_,hki,⟨aq,ar,(ac++[am]),hm,aa,a7,av⟩,hrec,hmk⟩
 ·intro a8 ad af hJ hmk;obtain ⟨ag,ah,ac,hm,aa,ae,ab⟩:=hJ;rw [Zcc.eq_1] at hm;refine go ?_;refine lW ab.at1<|go ?_;cases hm;refine ⟨_,(a8 :: []),rfl,hmk,?_⟩;intro bi a0 a9;replace ae:=ae.kp a0;replace aa:=aa.kp a0 a9;exact ⟨Ww w0.heap.size col ad (fun n=>bif Nat.beq n 2 then c1 else 0),ag,ah,rfl,aa.fin (fun n=>bif Nat.beq n 2 then c1 else 0),aa.finOwn (g:=(fun n=>bif Nat.beq n 2 then c1 else 0)) rfl ae (by decide) (by decide) rfl⟩
 intro _ _ _ _ h;exact h.elim
def Zk3 (aa:List Int):Option R2:=
  (Zkx aa).bind fun ab=>some ab
theorem Zx2 {col:Zd} {w0:World} {v0:Value} {ab:List Int} {r:R2} (c1:Nat) (hm:Zk3 ab=some r) (h0:It prog 1 v0 (fun (y:Int) (col:Zd) (w:World) (args:List Value)=>args=[.int .i64 y]) ab qz col w0):
    Calls prog 246 #[v0] w0 (fun e w'=>∃ (col':Zd) (ra1:Option Addr) (rc2:Nat),e= .returned ((.slice ra1 r.length rc2))∧Zi col w0 col' w'∧Zc (Za.int .i64) 3 c1 col' w' ra1 rc2 r):=by
 refine Xk 2 (m:=5) func246 rfl rfl rfl rfl rfl ?_;rw [Zk3.eq_1] at hm;have aa:=St.start col w0;refine go ?_;refine lv (v:=v0) rfl rfl (Ud rfl) ?_;obtain ⟨af,ac,hm⟩:=bZ hm;replace h0:=h0.keep (Zl.start col w0);refine Zh (Zxw 1 ac h0) ?_;rintro _ ag ⟨ah,ai,aj,rfl,ad,ae⟩;refine ⟨_,rfl,go ?_⟩;cases hm;replace aa:=aa.grow ad;exact ⟨rfl,_,_,_,rfl,aa.fin (cm [(1,c1)]),aa.fo ae⟩
theorem Zx8 (col:Zd) (w0:World) (qc0:Nat) (hd:Te [qc0]=true) (a0:Option Addr) (ab:Nat) (aa:List Int) (h0:Zc (Za.int .i64) 3 qc0 col w0 a0 ab aa) (r:List Int) (hm:Zj7 aa=some r):
    Calls prog 247 #[.slice a0 aa.length ab] w0 (fun e w'=>∃ (col':Zd),e= .returned (.tuple #[])∧Zx (pS [qc0]) col w0 col' w'∧Zc (Za.int .i64) 3 qc0 col' w' a0 ab r∧r.length=aa.length):=
  Z2r Tryz.slices_Sort_int Tryz.slices_Sort_int_none col w0 qc0 hd a0 ab aa h0 r hm
def Zie (aa:List Int):Option R2:=
  (Zk3 aa).bind fun ab=>(Zj7 ab).bind fun ac=>some ac
theorem Zx9 {col:Zd} {w0:World} {v0:Value} {af:List Int} {r:R2} (c1:Nat) (hm:Zie af=some r) (h0:It prog 1 v0 (fun (y:Int) (col:Zd) (w:World) (args:List Value)=>args=[.int .i64 y]) af qz col w0):
    Calls prog 167 #[v0] w0 (fun e w'=>∃ (col':Zd) (ra1:Option Addr) (rc2:Nat),e= .returned ((.slice ra1 r.length rc2))∧Zi col w0 col' w'∧Zc (Za.int .i64) 3 c1 col' w' ra1 rc2 r):=by
 refine Xk 2 (m:=9) func167 rfl rfl rfl rfl rfl ?_;rw [Zie.eq_1] at hm;have ad:=St.start col w0;refine go ?_;refine lv (v:=v0) rfl rfl (Ud rfl) ?_;obtain ⟨ae,ah,hm⟩:=bZ hm;replace h0:=h0.keep (Zl.start col w0);refine Zh (Zx2 1 ah h0) ?_;rintro _ ao ⟨ai,aa,ab,rfl,aj,ak⟩;refine ⟨_,rfl,go ?_⟩;obtain ⟨ac,al,hm⟩:=bZ hm;refine Zh (Zx8 ai _ 1 rfl aa ab ae ak ac al) ?_;rintro _ ap ⟨aq,rfl,am,an,ag⟩;refine ⟨_,rfl,?_⟩;refine .ld (d:=3) (v:=(.slice aa ac.length ab)) (congrArg (fun n=>Value.slice aa n ab) (show ae.length=ac.length from ag.symm)) ?_;refine .ld (d:=6) (v:=(.slice aa ac.length ab)) (congrArg (fun n=>Value.slice aa n ab) (show ae.length=ac.length from ag.symm)) ?_;refine go ?_;cases hm;replace ad:=(ad.grow aj).kpp am;exact ⟨rfl,_,_,_,rfl,ad.fin (cm [(1,c1)]),ad.fo an⟩
def Zh8 (ab:List Int) (aa:Nat) (ac:Int) (kk_L1:(Nat→Int→Option R3)) (ad:Int) (ae:Bool):Option R3:=
  if ae=true then (some (0,3)) else ((Zq ab (aa:Int)).bind fun af=>kk_L1 (aa+1) (i64.wrap ((i64.wrap (ac * af))+ad)))
def Q4 (aa:List Int):List Int→Nat→Int→Option R3
  | [],ab,ac=>some (ac,0)
  | ad :: ae,ab,ac=>if (decide (ad<0))=true then (Zh8 aa ab ac (Q4 aa ae) ad true) else ((Zq aa (ab:Int)).bind fun af=>Zh8 aa ab ac (Q4 aa ae) ad (decide (af≤ad)))
termination_by structural x=>x
def Zh7 (aa:List Int) (ab:List Int):Option R3:=
  (Q5 aa).bind fun ac=>if (!decide (ac.2=0))=true then (some (0,ac.2)) else (if (!decide ((ab.length:Int)=(aa.length:Int)))=true then (some (0,60)) else (Q4 aa ab 0 0))
theorem Zxu {ah ai:Nat} {a0 a1:Option Addr} {col:Zd} {w0:World} {ac ab:R2} {r:R3} (hm:Zh7 ac ab=some r) (h0:Sl (Za.int .i64) col w0 a0 ah ac) (h1:Sl (Za.int .i64) col w0 a1 ai ab):
    Calls prog 171 #[.slice a0 ac.length ah,.slice a1 ab.length ai] w0 (fun e w'=>e= .returned (.tuple #[.int .i64 r.1,.int .i64 r.2])∧Below w0.heap.size w0 w'):=by
 refine Zep 4 5 (m:=51) (args:=[.slice a0 ac.length ah,.slice a1 ab.length ai]) func171 rfl rfl rfl rfl rfl ?_;rw [Zh7.eq_1] at hm;have aa:=St.start col w0;refine go ?_;obtain ⟨af,ax,hm⟩:=bZ hm;replace h0:=h0.keep (Zl.start col w0);refine Zh (Zjp ax (h0.ks aa)) ?_;rintro _ ay ⟨rfl,aj⟩;refine ⟨_,rfl,?_⟩;replace h1:=h1.keep (Zl.start col w0);replace aj:Zi (Zj col) w0 (Zj col) ay:=.of_below aj;refine lM (.tuple #[.int .i64 af.1,.int .i64 af.2])<|lV (.int .i64 af.1) (Xe rfl rfl)<|lV (.int .i64 af.2) (Xe rfl rfl)<|go ?_;replace aa:=aa.grow aj;refine Zr hm (fun hb hm=>go ?_) fun hb hm=>go ?_
 ·cases hm;exact ⟨rfl,rfl,aa.below⟩
 refine Zr hm (fun hb hm=>go ?_) fun hb hm=>go ?_
 ·cases hm;exact ⟨rfl,rfl,aa.below⟩
 refine Z8 [0,24,25,1000000] (fun n f ap=>∃ aq ad ag ae,n=ae.length∧ab.drop ad=ae∧Q4 ac ae ad ag=some r∧St w0 (Zj col) aq ap∧[26,8].map f=[.int .i64 ad,.int .i64 ag]) ab.length ⟨_,0,0,_,rfl,rfl,hm,aa,rfl⟩ ?_;clear hm;intro n f ap hI;obtain ⟨aq,ad,ag,ae,hn,hl,hm,aa,hs⟩:=hI;subst hn;refine .lL [26,8] hs ?_
 cases ae with
 | nil=>
  have hk:¬ ((ad:Int)<(ab.length:Int)):=by have:=List.drop_eq_nil_iff.1 hl;omega
  have hkb:=decide_eq_false hk;rw [Q4.eq_1] at hm;refine go ?_;refine X3 (congrArg Value.bool hkb)<|go ?_;cases hm;exact ⟨rfl,rfl,aa.below⟩
 | cons ar au=>
  obtain ⟨ak,az,a2⟩:=Yk hl;have hk:(ad:Int)<(ab.length:Int):=by omega
  have hkb:=decide_eq_true hk;rw [Q4.eq_2] at hm;refine go ?_;refine X4 (congrArg Value.bool hkb)<|go ?_;refine lI ak ((h1.ks aa).addr ak)<|lW ((h1.ks aa).atInt ak)<|Yr rfl<|Yr rfl<|Zm<|Zw<|Zw ?_;refine Wp.cutK [0,10,24,25,26,8,9,1000000] (fun f av=>∃ aw al,Zh8 ac ad ag (Q4 ac au) ar al=some r∧St w0 (Zj col) aw av∧[40].map f=[.bool al]) ?_ ?_
  ·intro f av hJ;obtain ⟨aw,al,hm,aa,hs⟩:=hJ;rw [Zh8.eq_1] at hm;refine .lL [40] hs ?_;refine Zr hm (fun hb hm=>go ?_) fun hb hm=>go ?_
   ·cases hm;exact ⟨rfl,rfl,aa.below⟩
   obtain ⟨a4,am,hm⟩:=bZ hm;refine lI am ((h0.ks aa).addr am)<|lW ((h0.ks aa).atInt am) ?_;refine go ?_;exact ⟨au.length,by simp,rfl,⟨_,_,_,_,rfl,az,hm,aa,(Yo (congrArg (Value.int .i64) (Yn (Nat.lt_of_lt_of_le a2 (h1.ks aa).1.1))) rfl)⟩⟩
  refine go ?_;refine X1 hm (fun an hm=>go ?_) fun an hm=>go ?_
  ·refine lV (.bool true) (Xs (congrArg Value.bool an) rfl)<|Zm ?_;exact ⟨rfl,_,_,hm,aa,rfl⟩
  obtain ⟨a3,ao,hm⟩:=bZ hm;refine lI ao ((h0.ks aa).addr ao) ?_;refine go ?_;refine lW ((h0.ks aa).atInt ao)<|go ?_;refine lV (.bool (decide (a3≤ar))) (Xl (congrArg Value.bool an) rfl)<|Zm ?_;exact ⟨rfl,_,_,hm,aa,rfl⟩
theorem Zza:Y4 prog 3 1 8:=⟨Tryz.t3,_,rfl,rfl,rfl,rfl,rfl⟩
theorem Zzd:Y4 prog 47 3 56:=⟨Tryz.t47,_,rfl,rfl,rfl,rfl,rfl⟩
def Zbs (N:Nat) (ah:List Int) (ac:List Int) (ad:List R1) (kk_L3:(List Int→R2→R8→Option R7)) (aa:List Int×R1):List Int→R2→Option R7
  | [],ab=>(Zh7 ac ab).bind fun ai=>(Zq ad ai.1).bind fun ae=>(Vs N ((ae.1.1,ae.1.2),ae.2) ((aa.2.1.1,aa.2.1.2),aa.2.2)).bind fun af=>(some (ad.set (Int.toNat ai.1) ((af.1.1,af.1.2),af.2))).bind fun aj=>kk_L3 ah ac aj
  | ak :: al,ab=>(Zq aa.1 ak).bind fun ag=>Zz ((ab.length+[ag].length) * 8≤140737488355328∧ab.length+[ag].length≤maxLen) ((Zbs N ah ac ad kk_L3 aa al) (ab++[ag]))
termination_by structural x=>x
def S5 (N:Nat) (ad:R9):List Re→R2→R2→R8→Option R7
  | [],aa,ab,ac=>some ((aa,ab,ac),0)
  | ae :: af,aa,ab,ac=>(Ze7 ae.1 ad).bind fun ag=>if (!ag)=true then ((S5 N ad af) aa ab ac) else (Zbs N aa ab ac (S5 N ad af) ae aa ([]:List Int))
termination_by structural x=>x
def Zbr (N:Nat) (ab:R0) (ad:R9) (ae:R3):Nat→R2→R2→R8→Int→Option R7
  | 0,_,_,_,_=>none
  | ai+1,af,ag,ac,ah=>if (decide (ah<ae.1))=true then ((Ti N ([]:List R1)).bind fun aa=>Zz ((ac.length+[((aa.1.1,aa.1.2),aa.2)].length) * 56≤140737488355328∧ac.length+[((aa.1.1,aa.1.2),aa.2)].length≤maxLen) ((Zbr N ab ad ae ai) af ag (ac++[((aa.1.1,aa.1.2),aa.2)]) (i64.wrap (ah+1)))) else ((Zal N (ab.1,ab.2.1,ab.2.2.1,ab.2.2.2.1,ab.2.2.2.2)).bind fun aj=>S5 N ad aj af ag ac)
termination_by structural x=>x
def Zc2 (N:Nat) (ae:R0) (af:R9) (ag:Rc) (ah:List Int):Nat→R2→R2→R8→Int→Option R7
  | 0,_,_,_,_=>none
  | aj+1,ab,aa,ai,ac=>if (decide (ac<(ah.length:Int)))=true then ((Zq ab ac).bind fun ak=>(Zq ag.1 ak).bind fun ad=>Zz ((aa.length+[ad].length) * 8≤140737488355328∧aa.length+[ad].length≤maxLen) ((Zc2 N ae af ag ah aj) ab (aa++[ad]) ai (i64.wrap (ac+1)))) else ((Q5 aa).bind fun al=>Zbr N ae af al N ab aa ai 0)
termination_by structural x=>x
def S4 (N:Nat) (aa:R0) (ac:List Int) (ad:R9):Option R7:=
  (Up N (aa.1,aa.2.1,aa.2.2.1,aa.2.2.2.1,aa.2.2.2.2) ad ac).bind fun ab=>if (!decide (ab.2=0))=true then (some ((([]:List Int),([]:List Int),([]:List R1)),ab.2)) else ((Zif ac).bind fun af=>(Zie af).bind fun ae=>Zc2 N aa ad ab ae N ae ([]:List Int) ([]:List R1) 0)
theorem Zmb {N ck cl cn co d0 a8:Nat} {cp cq cr ct a1 a2:Option Addr} {col:Zd} {w0:World} {ah:R0} {di:R2} {al:R9} {r:R7} (c1 c2 c3:Nat) (hm:S4 N ah di al=some r) (dj:Sl Za.str col w0 cp ck ah.2.1) (dk:Sl (Za.slice Za.str) col w0 cq cl ah.2.2.1) (dl:Sl (Za.slice (Za.int .i64)) col w0 cr cn ah.2.2.2.1) (dm:Sl (Za.slice (Za.pair (Za.pair Za.bool (Za.slice (Za.int .u32))) (Za.slice (Za.int .u32)))) col w0 ct co ah.2.2.2.2) (h1:Sl (Za.int .i64) col w0 a1 d0 di) (h2:Sl (Za.pair (Za.int .i64) (Za.int .i64)) col w0 a2 a8 al):
    Calls prog 63 #[(.agg #[.string ah.1,.slice cp ah.2.1.length ck,.slice cq ah.2.2.1.length cl,.slice cr ah.2.2.2.1.length cn,.slice ct ah.2.2.2.2.length co]),.slice a1 di.length d0,.slice a2 al.length a8] w0 (fun e w'=>∃ (col':Zd) (ra1:Option Addr) (rc2:Nat) (ra4:Option Addr) (rc5:Nat) (ra7:Option Addr) (rc8:Nat),e= .returned (.tuple #[(.agg #[.slice ra1 r.1.1.length rc2,.slice ra4 r.1.2.1.length rc5,.slice ra7 r.1.2.2.length rc8]),.int .i64 r.2])∧Zi col w0 col' w'∧Zc (Za.int .i64) 3 c1 col' w' ra1 rc2 r.1.1∧Zc (Za.int .i64) 3 c2 col' w' ra4 rc5 r.1.2.1∧Zc (Za.pair (Za.pair Za.bool (Za.row 79 (Za.int .u32))) (Za.row 79 (Za.int .u32))) 47 c3 col' w' ra7 rc8 r.1.2.2):=by
 refine Zmp (m:=112) (args:=[(.agg #[.string ah.1,.slice cp ah.2.1.length ck,.slice cq ah.2.2.1.length cl,.slice cr ah.2.2.2.1.length cn,.slice ct ah.2.2.2.2.length co]),.slice a1 di.length d0,.slice a2 al.length a8]) func63 rfl rfl rfl ?_;rw [S4.eq_1] at hm;have aa:=St.start col w0;replace dj:=dj.keep (Zl.start col w0);replace dk:=dk.keep (Zl.start col w0);replace dl:=dl.keep (Zl.start col w0);replace dm:=dm.keep (Zl.start col w0);replace h1:=h1.keep (Zl.start col w0);replace h2:=h2.keep (Zl.start col w0);have hmk:Yf 499 (Zj col) w0 []:=.nil;refine go ?_;refine Ye (col:=(Zj col)) 1 rfl ?_;intro ey hz fp d1 ae;refine Qm (col:=fp) (v:=(.slice a2 al.length a8)) 2 rfl rfl ?_;intro cu fq ez dn ab;replace ab:Zk 82 2 ez fq cu #[.slice a2 al.length a8]:=ab;refine Xr (col:=ez) #[.slice none (([]:List Int).length) 0,.slice none (([]:List Int).length) 0,(.slice none (([]:List R1).length) 0)] 3 zeroValue91 ?_;intro dp h0 h3 cv ad;refine go ?_;replace ae:=(ae.gr dn).gr cv;refine lV _ (Xh isAgg27 sizeOf27 ae) ?_;replace ab:=ab.gr cv;refine lW ab.at1<|Y0 rfl ?_;obtain ⟨cc,fr,hm⟩:=bZ hm;replace h2:=((h2.gr d1).gr dn).gr cv;replace aa:=((aa.grow d1).grow dn).grow cv;refine Zh (Zjl 4 fr (dj.ks aa) (dk.ks aa) (dl.ks aa) (dm.ks aa) h2 (h1.ks aa)) ?_;rintro _ h4 ⟨ft,d2,d3,rfl,cd,ax⟩;refine ⟨_,rfl,?_⟩;refine lM (.tuple #[.slice d2 cc.1.length d3,.int .i64 cc.2])<|lV (.slice d2 cc.1.length d3) (Xe rfl rfl)<|lV (.int .i64 cc.2) (Xe rfl rfl)<|go ?_;replace hmk:=(((hmk.gr d1).gr dn).gr cv).gr cd;replace h2:=h2.gr cd;replace ae:=ae.gr cd;replace ab:=ab.gr cd;replace ad:=ad.gr cd;replace aa:=aa.grow cd;refine Zr hm (fun hb hm=>go ?_) fun hb hm=>go ?_
 ·refine lV (.agg #[.slice none (([]:List Int).length) 0,.slice none (([]:List Int).length) 0,(.slice none (([]:List R1).length) 0)]) (Wg (l:=[_,_,_]) (qs:=[(0,1),(1,1),(2,1)]) underlying91 zeroValue91 ⟨rfl,sizeOf40,rfl,sizeOf40,rfl,sizeOf56,trivial⟩ rfl)<|Yd rfl<|Z5 ad ?_;intro h5 e0 fu d4;refine go ?_;cases hm;replace hmk:=hmk.kp e0;refine ⟨_,[],rfl,hmk,?_⟩;intro h6 e1 fv;replace aa:=(aa.kp e0 fu).kp e1 fv;replace d4:=d4.kp e1;exact ⟨_,Zom rfl rfl isAgg91 sizeOf91 rfl rfl d4.atN rfl rfl,Ww w0.heap.size col ft (fun n=>0),none,0,none,0,none,0,rfl,aa.fin (fun n=>0),Zc.nil,Zc.nil,Zc.nil⟩
 obtain ⟨h7,fw,hm⟩:=bZ hm;refine Zh (Zya fw (h1.ks aa)) ?_;rintro _ h8 ⟨h9,ia,rfl,b7,fx⟩;refine ⟨_,rfl,?_⟩;obtain ⟨e2,fy,hm⟩:=bZ hm;refine Zh (Zx9 5 fy fx) ?_;rintro _ ib ⟨fz,f0,f1,rfl,b8,d5⟩;refine ⟨_,rfl,?_⟩;refine lV (.agg #[.slice f0 e2.length f1,.slice none (([]:List Int).length) 0,(.slice none (([]:List R1).length) 0)]) (Wg (l:=[_,_,_]) (qs:=[(0,1),(1,1),(2,1)]) underlying91 zeroValue91 ⟨rfl,sizeOf40,rfl,sizeOf40,rfl,sizeOf56,trivial⟩ rfl)<|Xr (col:=fz) #[.slice none (([]:List Int).length) 0,.slice none (([]:List Int).length) 0,(.slice none (([]:List R1).length) 0)] 6 zeroValue91 ?_;intro b9 ic id b4 f2;refine Z5 f2 ?_;intro ie b5 f3 ac;refine go ?_;refine Xu ac ?_;refine go ?_;replace h2:=(((h2.gr b7).gr b8).gr b4).kp b5;replace ax:=(((ax.gr b7).gr b8).gr b4).kp b5;replace ae:=(((ae.gr b7).gr b8).gr b4).kp b5;replace ab:=(((ab.gr b7).gr b8).gr b4).kp b5;replace ad:=(((ad.gr b7).gr b8).gr b4).kp b5;replace hmk:=(((hmk.gr b7).gr b8).gr b4).kp b5;replace aa:=(((aa.grow b7).grow b8).grow b4).kp b5 f3;replace d5:=(d5.gr b4).kp b5
 refine Z8 [10,3,39,5,6,8,1000000] (fun n f a9=>∃ ak cw cx ce d6 d7 cf dq dr cy d8 cg,cg=n∧Zc2 N ah al cc e2 cg ce cf cy d8=some r∧St w0 (Zj col) ak a9∧Zc (Za.int .i64) 3 5 ak a9 cw cx ce∧Zc (Za.int .i64) 3 7 ak a9 d6 d7 cf∧Zc (Za.pair (Za.pair Za.bool (Za.row 79 (Za.int .u32))) (Za.row 79 (Za.int .u32))) 47 8 ak a9 dq dr cy∧Zk 91 6 ak a9 b9 #[.slice cw ce.length cx,.slice d6 cf.length d7,.slice dq cy.length dr]∧Zk 27 1 ak a9 ey #[.string ah.1,.slice cp ah.2.1.length ck,.slice cq ah.2.2.1.length cl,.slice cr ah.2.2.2.1.length cn,.slice ct ah.2.2.2.2.length co]∧Sl (Za.pair (Za.int .i64) (Za.int .i64)) ak a9 a2 a8 al∧Zk 82 2 ak a9 cu #[.slice a2 al.length a8]∧Zk 91 3 ak a9 dp #[.slice none (([]:List Int).length) 0,.slice none (([]:List Int).length) 0,(.slice none (([]:List R1).length) 0)]∧Zc (Za.int .i64) 3 4 ak a9 d2 d3 cc.1∧Yf 499 ak a9 []∧[38,40].map f=[.slice cw ce.length cx,.int .i64 d8]) N ⟨_,_,_,_,none,0,_,none,0,_,0,_,rfl,hm,aa,d5,Zc.nil,Zc.nil,ac,ae,h2,ab,ad,ax,hmk,rfl⟩ ?_;clear hm;intro n f a9 hI;obtain ⟨ak,cw,cx,ce,d6,d7,cf,dq,dr,cy,d8,cg,hn,hm,aa,a4,b0,bd,ac,ae,h2,ab,ad,ax,hmk,hs⟩:=hI;subst hn;refine .lL [38,40] hs ?_
 cases cg with
 | zero=>rw [Zc2.eq_1] at hm;cases hm
 | succ cg=>
  rw [Zc2.eq_2] at hm;refine go ?_;refine Zr hm (fun hb hm=>go ?_) fun hb hm=>go ?_
  ·obtain ⟨ig,d9,hm⟩:=bZ hm;refine lI d9 (a4.addr d9)<|lW (a4.atInt d9) ?_;refine go ?_;refine Wk (col:=ak) [(0,1),(1,0),(2,1),(3,1),(4,1),(5,0),(6,3),(7,2),(8,1),(9,2)] (by kernel_rfl) (by kernel_rfl)<|xF ⟨_,_,rfl⟩ ?_;refine xW (fun _ hC=>((ac.atN).nth (q:=1) rfl).gr (hC.bl ak)) ?_;refine xu rfl rfl (fun _=>Vt rfl) ?_;refine xu rfl rfl (fun _=>Yw rfl) ?_;obtain ⟨ea,ds,hm⟩:=bZ hm;refine xu rfl rfl (fun _=>Y9 underlying40 sizeOf3 rfl rfl (Xj ds).1 (Xj ds).2.1 (ax.addr ds)) ?_;refine xW (fun _ hC=>(ax.gr (hC.bl ak)).atInt ds) ?_;refine xe rfl rfl ?_;intro ih hC0;have hC:=hC0.bl ak;refine Vr (col:=ak) [ea] 9 ?_;intro ii ij eb be ec;refine Zm<|X0 eb hC0 be<|xe rfl rfl ?_;intro f4 hC0;replace a4:=(a4.gr hC).gr be;replace b0:=(b0.gr hC).gr be;replace bd:=(bd.gr hC).gr be;replace h2:=(h2.gr hC).gr be;replace ax:=(ax.gr hC).gr be;replace ac:=(ac.gr hC).gr be;replace ae:=(ae.gr hC).gr be;replace ab:=(ab.gr hC).gr be;replace ad:=(ad.gr hC).gr be;replace hmk:=(hmk.gr hC).gr be;replace aa:=(aa.grow hC).grow be;have hC:=hC0.bl eb;obtain ⟨e3,hm⟩:=Z3 hm;replace b0:=b0.gr hC;replace ec:=ec.gr hC;refine Zbl (col:=eb) (w:=f4) (r:=(Za.int .i64)) (c:=7) (c2:=7) (b0.ex) (ec.srcN (NB.int (k:=.i64))) rfl underlying40 Zza rfl rfl rfl e3.1 e3.2 (by decide) ?_;intro e4 e5 ik cz bs ed;refine Zm<|xk cz<|xF ⟨_,_,rfl⟩ ?_;refine xe rfl rfl ?_;intro il hC0;replace a4:=(a4.gr hC).kpp bs;replace bd:=(bd.gr hC).kpp bs;replace h2:=(h2.gr hC).kpp bs;replace ax:=(ax.gr hC).kpp bs;replace ac:=(ac.gr hC).kpp bs;replace ae:=(ae.gr hC).kpp bs;replace ab:=(ab.gr hC).kpp bs;replace ad:=(ad.gr hC).kpp bs;replace hmk:=(hmk.gr hC).kpp bs;replace aa:=(aa.grow hC).kpp bs;have hC:=hC0.bl cz;replace ac:=ac.gr hC;refine Qn (off:=1) (v:=(.slice e4 ((cf++[ea]).length) e5)) ac sizeOf40 rfl rfl (by intro u hu;simp only [Value.cells,List.mem_cons,List.not_mem_nil,or_false] at hu;subst hu;rfl) rfl rfl ?_;intro f5 bt f6 c0;replace c0:Zk 91 6 cz f5 b9 #[.slice cw ce.length cx,.slice e4 ((cf++[ea]).length) e5,.slice dq cy.length dr]:=c0;refine Zm<|xk cz ?_;replace ed:=(ed.gr hC).kp bt;have ee:=ed.new;refine Y7 ?_;replace a4:=(a4.gr hC).kp bt;replace bd:=(bd.gr hC).kp bt;replace h2:=(h2.gr hC).kp bt;replace ax:=(ax.gr hC).kp bt;replace ae:=(ae.gr hC).kp bt;replace ab:=(ab.gr hC).kp bt;replace ad:=(ad.gr hC).kp bt
   replace hmk:=(hmk.gr hC).kp bt;replace aa:=(aa.grow hC).kp bt f6;intro im hC;replace hC:=hC.bl cz;refine go ?_;replace a4:=a4.gr hC;replace ee:=ee.gr hC;replace bd:=bd.gr hC;replace h2:=h2.gr hC;replace ax:=ax.gr hC;replace c0:=c0.gr hC;replace ae:=ae.gr hC;replace ab:=ab.gr hC;replace ad:=ad.gr hC;replace hmk:=hmk.gr hC;replace aa:=aa.grow hC;exact ⟨cg,by omega,rfl,⟨_,_,_,_,_,_,_,_,_,_,_,_,rfl,hm,aa,a4,ee,bd,c0,ae,h2,ab,ad,ax,hmk,rfl⟩⟩
  refine Xu ac ?_;obtain ⟨c4,f7,hm⟩:=bZ hm;refine Zh (Zjp f7 (b0.toSlF (Zg.int .i64))) ?_;rintro _ f8 ⟨rfl,bf⟩;refine ⟨_,rfl,?_⟩;replace bf:Zi ak a9 ak f8:=.of_below bf;refine lM (.tuple #[.int .i64 c4.1,.int .i64 c4.2])<|lV (.int .i64 c4.1) (Xe rfl rfl)<|lV (.int .i64 c4.2) (Xe rfl rfl)<|go ?_;replace a4:=a4.gr bf;replace b0:=b0.gr bf;replace bd:=bd.gr bf;replace h2:=h2.gr bf;replace ac:=ac.gr bf;replace ae:=ae.gr bf;replace ab:=ab.gr bf;replace ad:=ad.gr bf;replace hmk:=hmk.gr bf;replace aa:=aa.grow bf;refine Z8 [10,3,5,6,60,1000000] (fun n f bp=>∃ ay c5 c6 ch c7 c8 ci dt du ca ef cj,cj=n∧Zbr N ah al c4 cj ch ci ca ef=some r∧St w0 (Zj col) ay bp∧Zc (Za.int .i64) 3 5 ay bp c5 c6 ch∧Zc (Za.int .i64) 3 7 ay bp c7 c8 ci∧Zc (Za.pair (Za.pair Za.bool (Za.row 79 (Za.int .u32))) (Za.row 79 (Za.int .u32))) 47 8 ay bp dt du ca∧Zk 91 6 ay bp b9 #[.slice c5 ch.length c6,.slice c7 ci.length c8,.slice dt ca.length du]∧Zk 27 1 ay bp ey #[.string ah.1,.slice cp ah.2.1.length ck,.slice cq ah.2.2.1.length cl,.slice cr ah.2.2.2.1.length cn,.slice ct ah.2.2.2.2.length co]∧Sl (Za.pair (Za.int .i64) (Za.int .i64)) ay bp a2 a8 al∧Zk 82 2 ay bp cu #[.slice a2 al.length a8]∧Zk 91 3 ay bp dp #[.slice none (([]:List Int).length) 0,.slice none (([]:List Int).length) 0,(.slice none (([]:List R1).length) 0)]∧Yf 499 ay bp []∧[61].map f=[.int .i64 ef]) N ⟨_,_,_,_,_,_,_,_,_,_,0,_,rfl,hm,aa,a4,b0,bd,ac,ae,h2,ab,ad,hmk,rfl⟩ ?_;clear hm;intro n f bp hI;obtain ⟨ay,c5,c6,ch,c7,c8,ci,dt,du,ca,ef,cj,hn,hm,aa,ap,aq,bg,ac,ae,h2,ab,ad,hmk,hs⟩:=hI;subst hn;refine .lL [61] hs ?_
  cases cj with
  | zero=>rw [Zbr.eq_1] at hm;cases hm
  | succ cj=>
   rw [Zbr.eq_2] at hm;refine go ?_;refine Zr hm (fun hb hm=>go ?_) fun hb hm=>go ?_
   ·refine Wk (col:=ay) [(0,1),(1,0),(2,3),(3,3),(4,2),(5,1),(6,2)] (by kernel_rfl) (by kernel_rfl)<|xF ⟨_,_,rfl⟩ ?_;refine xW (fun _ hC=>((ac.atN).nth (q:=2) rfl).gr (hC.bl ay)) ?_;refine xe rfl rfl ?_;intro io hC0;have hC:=hC0.bl ay;obtain ⟨ar,f9,hm⟩:=bZ hm;refine Zh (Zel (col:=ay) 10 11 f9 Sl.nil) ?_;rintro _ ip ⟨eg,e6,e7,e8,e9,rfl,bq,eh,ei⟩;refine ⟨_,rfl,?_⟩;refine Zm<|X0 eg hC0 bq<|xe rfl rfl ?_;intro iq hC0;replace ap:=(ap.gr hC).gr bq;replace aq:=(aq.gr hC).gr bq;replace bg:=(bg.gr hC).gr bq;replace h2:=(h2.gr hC).gr bq;replace ac:=(ac.gr hC).gr bq;replace ae:=(ae.gr hC).gr bq;replace ab:=(ab.gr hC).gr bq;replace ad:=(ad.gr hC).gr bq;replace hmk:=(hmk.gr hC).gr bq;replace aa:=(aa.grow hC).grow bq;have hC:=hC0.bl eg;replace eh:=eh.gr hC;replace ei:=ei.gr hC;have ga:=Xp.join (Xp.joinL (Sp ar.1.1) eh.has) ei.has (by decide) (by decide);replace ap:=ap.gr hC;replace ap:=ap.recol 11 10 (by decide);replace aq:=aq.gr hC;replace aq:=aq.recol 11 10 (by decide);replace bg:=bg.gr hC;replace bg:=bg.recol 11 10 (by decide);replace h2:=h2.gr hC;replace h2:=h2.recol 11 10 (by decide);replace ac:=ac.gr hC;replace ac:=ac.recol 11 10 (by decide);replace ae:=ae.gr hC;replace ae:=ae.recol 11 10 (by decide);replace ab:=ab.gr hC;replace ab:=ab.recol 11 10 (by decide);replace ad:=ad.gr hC;replace ad:=ad.recol 11 10 (by decide);replace hmk:=hmk.gr hC;replace hmk:=hmk.recol 11 10 (by decide);replace aa:=aa.grow hC;replace aa:=aa.recol 11 10 (by decide) (by decide);refine Uh (col:=(Xf 11 10 eg)) (r:=(Za.pair (Za.pair Za.bool (Za.row 79 (Za.int .u32))) (Za.row 79 (Za.int .u32)))) (xs:=[((ar.1.1,ar.1.2),ar.2)]) [(.agg #[.bool ar.1.1,.slice e6 ar.1.2.length e7,.slice e8 ar.2.length e9])] 10 (Yt.cons1 (cs:=[.bool ar.1.1,.slice e6 ar.1.2.length e7,.slice e8 ar.2.length e9]) ga Rows.nil0) ?_;intro ir it ej br ek;refine Zm<|X0 ej hC0 br<|xe rfl rfl ?_;intro gb hC0;have hC:=hC0.bl ej;obtain ⟨fa,hm⟩:=Z3 hm;replace bg:=(bg.gr br).gr hC;replace ek:=ek.gr hC;refine Zbl (col:=ej) (w:=gb) (r:=(Za.pair (Za.pair Za.bool (Za.row 79 (Za.int .u32))) (Za.row 79 (Za.int .u32)))) (c:=8) (c2:=10) (bg.ex) (ek.srcC (by decide)) rfl underlying56 Zzd rfl rfl rfl fa.1 fa.2 (by decide) ?_;intro fb fc iu c9 b1 el;refine Zm<|xk c9<|xF ⟨_,_,rfl⟩ ?_
    refine xe rfl rfl ?_;intro iv hC0;replace ap:=((ap.gr br).gr hC).kpp b1;replace aq:=((aq.gr br).gr hC).kpp b1;replace h2:=((h2.gr br).gr hC).kpp b1;replace ac:=((ac.gr br).gr hC).kpp b1;replace ae:=((ae.gr br).gr hC).kpp b1;replace ab:=((ab.gr br).gr hC).kpp b1;replace ad:=((ad.gr br).gr hC).kpp b1;replace hmk:=((hmk.gr br).gr hC).kpp b1;replace aa:=((aa.grow br).grow hC).kpp b1;have hC:=hC0.bl c9;replace ac:=ac.gr hC;refine Qn (off:=2) (v:=(.slice fb ((ca++[((ar.1.1,ar.1.2),ar.2)]).length) fc)) ac sizeOf56 rfl rfl (by intro u hu;simp only [Value.cells,List.mem_cons,List.not_mem_nil,or_false] at hu;subst hu;rfl) rfl rfl ?_;intro gc b2 gd da;replace da:Zk 91 6 c9 gc b9 #[.slice c5 ch.length c6,.slice c7 ci.length c8,(.slice fb ((ca++[((ar.1.1,ar.1.2),ar.2)]).length) fc)]:=da;refine Zm<|xk c9 ?_;replace el:=(el.gr hC).kp b2;have em:=el.new;refine Y7 ?_;replace ap:=(ap.gr hC).kp b2;replace aq:=(aq.gr hC).kp b2;replace h2:=(h2.gr hC).kp b2;replace ae:=(ae.gr hC).kp b2;replace ab:=(ab.gr hC).kp b2;replace ad:=(ad.gr hC).kp b2;replace hmk:=(hmk.gr hC).kp b2;replace aa:=(aa.grow hC).kp b2 gd;intro iw hC;replace hC:=hC.bl c9;refine go ?_;replace ap:=ap.gr hC;replace aq:=aq.gr hC;replace em:=em.gr hC;replace h2:=h2.gr hC;replace da:=da.gr hC;replace ae:=ae.gr hC;replace ab:=ab.gr hC;replace ad:=ad.gr hC;replace hmk:=hmk.gr hC;replace aa:=aa.grow hC;exact ⟨cj,by omega,rfl,⟨_,_,_,_,_,_,_,_,_,_,_,_,rfl,hm,aa,ap,aq,em,da,ae,h2,ab,ad,hmk,rfl⟩⟩
   refine lV _ (Xh isAgg27 sizeOf27 ae) ?_;obtain ⟨ge,gf,hm⟩:=bZ hm;refine Zh (Zpk 12 gf (dj.ks aa) (dk.ks aa) (dl.ks aa) (dm.ks aa)) ?_;rintro _ ix ⟨gg,iy,rfl,b3,gh⟩;refine ⟨_,rfl,go ?_⟩;replace ap:=ap.gr b3;replace aq:=aq.gr b3;replace bg:=bg.gr b3;replace h2:=h2.gr b3;replace ac:=ac.gr b3;replace ab:=ab.gr b3;replace ad:=ad.gr b3;replace hmk:=hmk.gr b3;replace aa:=aa.grow b3;refine Zgo (psl:=[72,73]) (arr:=(fun (y:List Int×R1) (col:Zd) (w:World) (args:List Value)=>∃ (a0:Option Addr) (fd:Nat) (a1_0_1:Option Addr) (c1_0_1:Nat) (fe:Option Addr) (ff:Nat),args=[.slice a0 y.1.length fd,.agg #[.bool y.2.1.1,.slice a1_0_1 y.2.1.2.length c1_0_1,.slice fe y.2.2.length ff]]∧Zc (Za.int .i64) 3 12 col w a0 fd y.1∧Sl (Za.int .u32) col w a1_0_1 c1_0_1 y.2.1.2∧Sl (Za.int .u32) col w fe ff y.2.2)) (ys:=ge) (col:=gg) 498 rfl gh rfl hmk rfl rfl (by rintro _ _ _ _ ⟨_,_,_,_,_,_,rfl,_⟩;rfl) (fun ys_ az ba=>∃ (bh:Option Addr) (bi:Nat) (an:List Int) (bj:Option Addr) (bk:Nat) (bb:List Int) (bm:Option Addr) (bn:Nat) (bc:List R1),S5 N al ys_ an bb bc=some r∧St w0 (Zj col) az ba∧Zc (Za.int .i64) 3 5 az ba bh bi an∧Zc (Za.int .i64) 3 7 az ba bj bk bb∧Zc (Za.pair (Za.pair Za.bool (Za.row 79 (Za.int .u32))) (Za.row 79 (Za.int .u32))) 47 8 az ba bm bn bc∧Zk 91 6 az ba b9 #[.slice bh an.length bi,.slice bj bb.length bk,.slice bm bc.length bn]∧Sl (Za.pair (Za.int .i64) (Za.int .i64)) az ba a2 a8 al∧Zk 82 2 az ba cu #[.slice a2 al.length a8]∧Zk 91 3 az ba dp #[.slice none (([]:List Int).length) 0,.slice none (([]:List Int).length) 0,(.slice none (([]:List R1).length) 0)]) (fun _ _ _=>False) ?_ ?_ ⟨c5,c6,ch,c7,c8,ci,dt,du,ca,hm,aa,ap,aq,bg,ac,h2,ab,ad⟩ ?_ ?_ ?_
   ·intro ys_ az ba col2_ w2_ hJ hk;obtain ⟨bh,bi,an,bj,bk,bb,bm,bn,bc,hm,aa,ag,ai,aj,ac,h2,ab,ad⟩:=hJ;exact ⟨bh,bi,an,bj,bk,bb,bm,bn,bc,hm,aa.kpp hk rfl rfl,ag.kpp hk rfl rfl,ai.kpp hk rfl rfl,aj.kpp hk rfl rfl,ac.kpp hk rfl,h2.kpp hk rfl,ab.kpp hk rfl,ad.kpp hk rfl⟩
   ·intro _ _ _ _ _ h _;exact h
   ·intro gi iz gj cb gk az ba args hJ hrec hmk harr;obtain ⟨bh,bi,an,bj,bk,bb,bm,bn,bc,hm,aa,ag,ai,aj,ac,h2,ab,ad⟩:=hJ;rw [S5.eq_2] at hm;have hki:=Zx.refl (pC 2) az ba;obtain ⟨gl,gm,fg,fh,fi,fj,rfl,bo,bu,bv⟩:=harr;refine go ?_;refine Xr (col:=az) #[.bool false,.slice none (([]:List Int).length) 0,.slice none (([]:List Int).length) 0] 13 zeroValue47 ?_;intro gp i0 fk a5 gs;refine Z5 gs ?_;intro i1 a6 fl bw;refine Zm ?_;replace hrec:=(hrec.gr a5).kp a6;refine ⟨_,hrec,?_⟩;intro gt gu a7 fm hrec2;have hrec:=hrec2;refine go ?_;replace ab:=((ab.gr a5).kp a6).kp a7;refine lW ab.at1 ?_;obtain ⟨i2,gv,hm⟩:=bZ hm;replace h2:=((h2.gr a5).kp a6).kp a7;replace bo:=((bo.gr a5).kp a6).kp a7;refine Zh (Zpl gv (bo.toSlF (Zg.int .i64)) (h2.froz 12)) ?_;rintro _ gw ⟨rfl,ao⟩;refine ⟨_,rfl,?_⟩;replace ao:Zi fk gt fk gw:=.of_below ao;refine go ?_;replace ag:=(((ag.gr a5).kp a6).kp a7).gr ao;replace ai:=(((ai.gr a5).kp a6).kp a7).gr ao;replace aj:=(((aj.gr a5).kp a6).kp a7).gr ao;replace bu:=(((bu.gr a5).kp a6).kp a7).gr ao;replace bv:=(((bv.gr a5).kp a6).kp a7).gr ao;replace ac:=(((ac.gr a5).kp a6).kp a7).gr ao;replace ad:=(((ad.gr a5).kp a6).kp a7).gr ao;replace hmk:=(((hmk.gr a5).kp a6).kp a7).gr ao;replace hki:=(((hki.gr a5).kp a6 fl rfl).kp a7 fm rfl).gr ao;replace aa:=(((aa.grow a5).kp a6 fl).kp a7 fm).grow ao;replace bw:=(bw.kp a7).gr ao;replace h2:=h2.gr ao;replace bo:=bo.gr ao;replace ab:=ab.gr ao;replace hrec:=hrec.gr ao;refine Zr hm (fun hb hm=>go ?_) fun hb hm=>go ?_
    ·exact ⟨_,hki,⟨bh,bi,an,bj,bk,bb,bm,bn,bc,hm,aa,ag,ai,aj,ac,h2,ab,ad⟩,hrec,hmk⟩
    refine Xu ac ?_;refine go ?_;refine Z8 [10,15,16,5,6,79,80,1000000] (fun n f am=>∃ af en eo dv db dc,n=dc.length∧an.drop db=dc∧Zbs N an bb bc (S5 N al gk) cb dc dv=some r∧St w0 (Zj col) af am∧Zc (Za.int .i64) 3 5 af am bh bi an∧Zc (Za.int .i64) 3 7 af am bj bk bb∧Zc (Za.pair (Za.pair Za.bool (Za.row 79 (Za.int .u32))) (Za.row 79 (Za.int .u32))) 47 8 af am bm bn bc∧Zk 91 6 af am b9 #[.slice bh an.length bi,.slice bj bb.length bk,.slice bm bc.length bn]∧Zc (Za.int .i64) 3 12 af am gl gm cb.1∧Sl (Za.int .u32) af am fg fh cb.2.1.2∧Sl (Za.int .u32) af am fi fj cb.2.2∧Zk 47 13 af am gp #[.bool cb.2.1.1,.slice fg cb.2.1.2.length fh,.slice fi cb.2.2.length fj]∧Zc (Za.int .i64) 3 14 af am en eo dv∧Sl (Za.pair (Za.int .i64) (Za.int .i64)) af am a2 a8 al∧Zk 82 2 af am cu #[.slice a2 al.length a8]∧Zk 91 3 af am dp #[.slice none (([]:List Int).length) 0,.slice none (([]:List Int).length) 0,(.slice none (([]:List R1).length) 0)]∧Wb 498 af am gi gu∧Yf 499 af am gj∧Zx (pC 2) az ba af am∧[81,17].map f=[.int .i64 db,.slice en dv.length eo]) an.length ⟨_,none,0,_,0,_,rfl,rfl,hm,aa,ag,ai,aj,ac,bo,bu,bv,bw,Zc.nil,h2,ab,ad,hrec,hmk,hki,rfl⟩ ?_;clear hm;intro n f am hI;obtain ⟨af,en,eo,dv,db,dc,hn,hl,hm,aa,ag,ai,aj,ac,bo,bu,bv,bw,dw,h2,ab,ad,hrec,hmk,hki,hs⟩:=hI;subst hn;refine .lL [81,17] hs ?_
    cases dc with
    | nil=>
     have hk:¬ ((db:Int)<(an.length:Int)):=by have:=List.drop_eq_nil_iff.1 hl;omega
     have hkb:=decide_eq_false hk;rw [Zbs.eq_1] at hm;refine go ?_;refine X3 (congrArg Value.bool hkb)<|go ?_;refine Xu ac<|Y0 rfl ?_;obtain ⟨dd,gx,hm⟩:=bZ hm;refine Zh (Zxu gx ((ai.toSlF (Zg.int .i64)).froz 14) ((dw.froz 7 (by decide)).toSlF (Zg.int .i64))) ?_;rintro _ gy ⟨rfl,au⟩;refine ⟨_,rfl,?_⟩;replace au:Zi af am af gy:=.of_below au;refine lM (.tuple #[.int .i64 dd.1,.int .i64 dd.2])<|lV (.int .i64 dd.1) (Xe rfl rfl)<|lV (.int .i64 dd.2) (Xe rfl rfl)<|go ?_;refine Wk (col:=af) [(0,1),(1,0),(2,1),(3,1),(4,0),(5,1),(6,1),(7,0),(8,0),(9,3),(10,1),(11,2)] (by kernel_rfl) (by kernel_rfl)<|xF ⟨_,_,rfl⟩ ?_;replace ac:=ac.gr au;refine xW (fun _ hC=>((ac.atN).nth (q:=2) rfl).gr (hC.bl af)) ?_;refine xu rfl rfl (fun _=>Yw rfl) ?_;refine xF ⟨_,_,rfl⟩ ?_;refine xW (fun _ hC=>((ac.atN).nth (q:=2) rfl).gr (hC.bl af)) ?_;refine xu rfl rfl (fun _=>Yw rfl) ?_;obtain ⟨ep,b6,hm⟩:=bZ hm;replace aj:=aj.gr au;refine xu rfl rfl (fun _=>Y9 underlying56 sizeOf47 rfl rfl (Xj b6).1 (Xj b6).2.1 (aj.addr b6)) ?_;obtain ⟨_,gz,g0⟩:=aj.atN b6;obtain ⟨_,_,rfl,g1,g2⟩:=gz.parts;obtain ⟨_,_,rfl,g3,g4⟩:=g1.parts;obtain rfl:=g3.bool;obtain ⟨g5,g6,rfl,eq⟩:=g4.row;obtain ⟨g7,g8,rfl,er⟩:=g2.row;refine xv (v:=(.agg #[.bool ep.1.1,.slice g5 ep.1.2.length g6,.slice g7 ep.2.length g8])) rfl rfl (fun _ hC=>Wj isAgg47 sizeOf47 rfl rfl (g0.gr (hC.bl af))) ?_;replace bw:=bw.gr au;refine xv rfl rfl (fun _ hC=>Xh isAgg47 sizeOf47 (bw.gr (hC.bl af))) ?_;refine xe rfl rfl ?_;intro g9 hC0;have hC:=hC0.bl af;obtain ⟨bx,ha,hm⟩:=bZ hm;replace bu:=(bu.gr au).gr hC;replace bv:=(bv.gr au).gr hC;replace eq:=eq.gr hC;replace er:=er.gr hC;refine Zh (Zej 15 16 ha (eq.toSlF (Zg.int .u32)) (er.toSlF (Zg.int .u32)) (bu.froz 8) (bv.froz 8)) ?_;rintro _ i3 ⟨hc,hd,he,hf,hg,rfl,av,de,df⟩;refine ⟨_,rfl,?_⟩;replace de:=de.thaw (Z0 .u32) av ((Fz.refl (col:=af)).froz 8) (by decide);replace df:=df.thaw (Z0 .u32) av ((Fz.refl (col:=af)).froz 8) (by decide);replace av:=av.thawR (col:=af);generalize Xc g9.heap.size af hc=fn at *;refine Zm<|X0 fn hC0 av ?_
     replace aj:=(aj.gr hC).gr av;refine xu rfl rfl (fun _=>Y9 underlying56 sizeOf47 rfl rfl (Xj b6).1 (Xj b6).2.1 (aj.addr b6)) ?_;refine xe rfl rfl ?_;intro i4 hC0;replace ag:=((ag.gr au).gr hC).gr av;replace ai:=((ai.gr au).gr hC).gr av;replace h2:=((h2.gr au).gr hC).gr av;replace ab:=((ab.gr au).gr hC).gr av;replace ad:=((ad.gr au).gr hC).gr av;replace hrec:=((hrec.gr au).gr hC).gr av;replace hmk:=((hmk.gr au).gr hC).gr av;replace hki:=((hki.gr au).gr hC).gr av;replace aa:=((aa.grow au).grow hC).grow av;replace ac:=(ac.gr hC).gr av;have hC:=hC0.bl fn;replace de:=de.gr hC;replace df:=df.gr hC;have hh:=Xp.join (Xp.joinL (Sp bx.1.1) de.has) df.has (by decide) (by decide);replace ag:=ag.gr hC;replace ag:=ag.recol 16 15 (by decide);replace ai:=ai.gr hC;replace ai:=ai.recol 16 15 (by decide);replace aj:=aj.gr hC;replace aj:=aj.recol 16 15 (by decide);replace h2:=h2.gr hC;replace h2:=h2.recol 16 15 (by decide);replace ac:=ac.gr hC;replace ac:=ac.recol 16 15 (by decide);replace ab:=ab.gr hC;replace ab:=ab.recol 16 15 (by decide);replace ad:=ad.gr hC;replace ad:=ad.recol 16 15 (by decide);replace hrec:=hrec.gr hC;replace hrec:=hrec.recol 16 15 (by decide);replace hmk:=hmk.gr hC;replace hmk:=hmk.recol 16 15 (by decide);replace hki:=hki.gr hC;replace hki:=hki.recol 16 15 rfl;replace aa:=aa.grow hC;replace aa:=aa.recol 16 15 (by decide) (by decide);obtain ⟨dx,dy,hm⟩:=bZ hm;have dy:dx=bc.set (Int.toNat dd.1) ((bx.1.1,bx.1.2),bx.2):=(Option.some.inj dy).symm;refine Z0f (x1:=((bx.1.1,bx.1.2),bx.2)) (v:=(.agg #[.bool bx.1.1,.slice hd bx.1.2.length he,.slice hf bx.2.length hg])) aj b6 rfl sizeOf47 hh rfl rfl (by decide) ?_;intro hi es bz dz;rw [← dy] at dz;replace ag:=ag.kpp bz;replace ai:=ai.kpp bz;replace h2:=h2.kpp bz;replace ac:=ac.kpp bz;replace ab:=ab.kpp bz;replace ad:=ad.kpp bz;replace hrec:=hrec.kpp bz;replace hmk:=hmk.kpp bz;replace hki:=hki.trans (bz.mono (by first | exact Ziq rfl | exact pCo_p1 rfl | exact pCo_pS rfl | exact fun _=>Zip | exact fun _ h=>h | exact fun _ _=>rfl));replace ac:Zk 91 6 es hi b9 #[.slice bh an.length bi,.slice bj bb.length bk,.slice bm dx.length bn]:=by rw [← (show bc.length=dx.length by rw [dy,nS])];exact ac
     refine Zm<|xk es<|Y7 ?_;intro i5 hC;replace hC:=hC.bl es;replace aa:=(aa.kpp bz).grow hC;replace ag:=ag.gr hC;replace ai:=ai.gr hC;replace dz:=dz.gr hC;replace h2:=h2.gr hC;replace ac:=ac.gr hC;replace ab:=ab.gr hC;replace ad:=ad.gr hC;replace hrec:=hrec.gr hC;replace hmk:=hmk.gr hC;replace hki:=hki.gr hC;exact ⟨_,hki,⟨bh,bi,an,bj,bk,bb,bm,bn,dx,hm,aa,ag,ai,dz,ac,h2,ab,ad⟩,hrec,hmk⟩
    | cons i6 hj=>
     obtain ⟨et,ho,hp⟩:=Yk hl;have hk:(db:Int)<(an.length:Int):=by omega
     have hkb:=decide_eq_true hk;rw [Zbs.eq_2] at hm;refine go ?_;refine X4 (congrArg Value.bool hkb)<|go ?_;refine lI et (ag.addr et)<|lW (ag.atInt et) ?_;refine go ?_;obtain ⟨hq,eu,hm⟩:=bZ hm;refine lI eu (bo.addr eu)<|lW (bo.atInt eu)<|Vr (col:=af) [hq] 17 ?_;intro i7 i8 i9 aw hr;obtain ⟨ht,hm⟩:=Z3 hm;replace dw:=dw.gr aw;refine Vq dw (hr.srcN (NB.int (k:=.i64))) ht ?_;intro ja jb jc jd a3 hv;replace ag:=(ag.gr aw).kpp a3;replace ai:=(ai.gr aw).kpp a3;replace aj:=(aj.gr aw).kpp a3;replace bo:=(bo.gr aw).kpp a3;replace bu:=(bu.gr aw).kpp a3;replace bv:=(bv.gr aw).kpp a3;replace h2:=(h2.gr aw).kpp a3;replace ac:=(ac.gr aw).kpp a3;replace bw:=(bw.gr aw).kpp a3;replace ab:=(ab.gr aw).kpp a3;replace ad:=(ad.gr aw).kpp a3;replace hrec:=(hrec.gr aw).kpp a3;replace hmk:=(hmk.gr aw).kpp a3;replace hki:=hki.gr aw;replace hki:=hki.trans (a3.mono (by first | exact Ziq rfl | exact pCo_p1 rfl | exact pCo_pS rfl | exact fun _=>Zip | exact fun _ h=>h | exact fun _ _=>rfl));refine go ?_;replace aa:=(aa.grow aw).kpp a3;exact ⟨hj.length,by simp,rfl,⟨_,_,_,_,_,_,rfl,ho,hm,aa,ag,ai,aj,ac,bo,bu,bv,bw,hv,h2,ab,ad,hrec,hmk,hki,(Yo (congrArg (Value.int .i64) (Yn (Nat.lt_of_lt_of_le hp ag.len))) rfl)⟩⟩
   ·intro hw az ba hJ hmk;obtain ⟨bh,bi,an,bj,bk,bb,bm,bn,bc,hm,aa,ag,ai,aj,ac,h2,ab,ad⟩:=hJ;rw [S5.eq_1] at hm;refine go ?_;refine lV _ (Xh isAgg91 sizeOf91 ac)<|Z5 ad ?_;intro je dg hx ew;refine go ?_;cases hm;replace hmk:=hmk.kp dg;refine ⟨_,(hw :: []),rfl,hmk,?_⟩;intro jf dh hy;replace ag:=(ag.kp dg).kp dh;replace ai:=(ai.kp dg).kp dh;replace aj:=(aj.kp dg).kp dh;replace aa:=(aa.kp dg hx).kp dh hy;replace ew:=ew.kp dh;exact ⟨_,Zom rfl rfl isAgg91 sizeOf91 rfl rfl ew.atN rfl rfl,Ww w0.heap.size col az (fun n=>bif Nat.beq n 5 then c1 else bif Nat.beq n 7 then c2 else bif Nat.beq n 8 then c3 else 0),bh,bi,bj,bk,bm,bn,rfl,aa.fin (fun n=>bif Nat.beq n 5 then c1 else bif Nat.beq n 7 then c2 else bif Nat.beq n 8 then c3 else 0),aa.finOwn (g:=(fun n=>bif Nat.beq n 5 then c1 else bif Nat.beq n 7 then c2 else bif Nat.beq n 8 then c3 else 0)) rfl ag (by decide) (by decide) rfl,aa.finOwn (g:=(fun n=>bif Nat.beq n 5 then c1 else bif Nat.beq n 7 then c2 else bif Nat.beq n 8 then c3 else 0)) rfl ai (by decide) (by decide) rfl,aa.finOwn (g:=(fun n=>bif Nat.beq n 5 then c1 else bif Nat.beq n 7 then c2 else bif Nat.beq n 8 then c3 else 0)) rfl aj (by decide) (by decide) rfl⟩
   intro _ _ _ _ h;exact h.elim
/-! values in order -/
theorem Zz6 (l:List Int):Zif l=some l:=by
 unfold Zif Zk7
 induction l with
 | nil=>rfl
 | cons x l ih=>rw [Zgd.eq_2,ih];rfl
theorem Zrp:∀ (l s:List Int),s.length+l.length≤17592186044000→Zcc l s=some (s++l)
 | [],s,_=>by rw [Zcc.eq_1,List.append_nil]
 | y :: l,s,h=>by
  simp only [nC] at h
  rw [Zcc.eq_2,Z7 (by simp only [List.length_singleton,maxLen];omega),Zrp l _ (by simp;omega),List.append_assoc];rfl
theorem Zz5 (l:List Int) (h:l.length≤17592186044000):Zie l=some (X9 l):=by
 unfold Zie Zk3 Zkx
 rw [Zrp l [] (by simpa using h)]
 simp only [List.nil_append,oB]
 unfold Zj7
 rw [Z7 (by omega)];rfl
/-! digits at some places -/
def Z6 (Z:List Nat) (S:List Int):List Nat:=S.map fun v=>Z.getD v.toNat 0
def Uy (w:List Int) (S:List Int):List Int:=S.map fun v=>w.getD v.toNat 0
theorem Zmy {Z:List Nat} {w:List Int} (h:Qi Z w):∀ S:List Int,(∀ v ∈ S,0≤v∧v<(w.length:Int))→Qi (Z6 Z S) (Uy w S)
 | [],_=>trivial
 | v :: S,hS=>by
  have hv:=hS v List.mem_cons_self
  exact ⟨(Zm0 h).2 v.toNat (by omega),Zmy h S fun x hx=>hS x (List.mem_cons_of_mem _ hx)⟩
theorem Z1g {l r:List Nat} (h:l.Perm r):Zo l=Zo r:=by
 induction h with
 | nil=>rfl
 | cons x _ ih=>rw [Zo,Zo,ih]
 | swap x y l=>rw [Zo,Zo,Zo,Zo,Nat.mul_left_comm]
 | trans _ _ a b=>exact a.trans b
theorem Zto {f:Int→Nat}:∀ (S R:List Int),S.Nodup→(∀ v ∈ S,v ∈ R)→(∀ v ∈ R,0<f v)→Zo (S.map f)≤Zo (R.map f)
 | [],R,_,_,h=>by
  have:=Zgi (R.map f) fun s hs=>by obtain ⟨v,hv,rfl⟩:=List.mem_map.1 hs;exact h v hv
  rw [List.map_nil,Zo];exact this
 | v :: S,R,hn,hS,h=>by
  have hp:R.Perm (v :: R.erase v):=List.perm_cons_erase (hS v List.mem_cons_self)
  have hn':=List.nodup_cons.1 hn
  rw [Z1g (hp.map f),List.map_cons,List.map_cons,Zo,Zo]
  refine Nat.mul_le_mul_left _ (Zto S (R.erase v) hn'.2 (fun x hx=>?_) fun x hx=>h x (List.mem_of_mem_erase hx))
  have hne:x≠v:=fun e=>hn'.1 (e ▸ hx)
  exact (List.mem_erase_of_ne hne).2 (hS x (List.mem_cons_of_mem _ hx))
theorem Zn4 {Z:List Nat} (hZ:∀ s ∈ Z,0<s) {S:List Int} (hn:S.Nodup) (hS:∀ v ∈ S,0≤v∧v<(Z.length:Int)):Zo (Z6 Z S)≤Zo Z:=by
 have h:=Zto (f:=fun v=>Z.getD v.toNat 0) S ((List.range Z.length).map fun i:Nat=>(i:Int)) hn (fun v hv=>by
  have:=hS v hv
  exact List.mem_map.2 ⟨v.toNat,List.mem_range.2 (by omega),by omega⟩) fun v hv=>by
  obtain ⟨i,hi,rfl⟩:=List.mem_map.1 hv
  have hi:=List.mem_range.1 hi
  rw [Int.toNat_natCast,List.getD_eq_getElem?_getD,List.getElem?_eq_getElem hi]
  exact hZ _ (List.getElem_mem hi)
 have e:((List.range Z.length).map fun i:Nat=>(i:Int)).map (fun v=>Z.getD v.toNat 0)=Z:=by
  rw [List.map_map]
  refine List.ext_getElem (by rw [List.length_map,List.length_range]) fun i h1 h2=>?_
  rw [List.getElem_map,List.getElem_range]
  show Z.getD ((i:Int)).toNat 0=Z[i]
  rw [Int.toNat_natCast,List.getD_eq_getElem?_getD,List.getElem?_eq_getElem h2];rfl
 rw [e] at h
 exact h
/-! the place of digits -/
theorem Zvf {Z:List Nat} (hb:Zo Z≤65536):∀ (d:List Int) (k a:Nat),Qi (Z.drop k) d→a * Zo (Z.drop k)+Vz (Z.drop k) d<Zo Z→Q4 (Xb Z) d k (a:Int)=some (((a * Zo (Z.drop k)+Vz (Z.drop k) d:Nat):Int),0)
 | [],k,a,hd,hl=>by
  have hz:Z.drop k=[]:=by
   cases h:Z.drop k with
   | nil=>rfl
   | cons s t=>rw [h] at hd;exact absurd hd id
  rw [hz,Q4.eq_1,Zo,Nat.mul_one,Vz,Nat.add_zero]
  intro s ss d w h;cases h
 | x :: d,k,a,hd,hl=>by
  have hk:k<Z.length:=by
   rcases Nat.lt_or_ge k Z.length with h | h
   ·exact h
   ·rw [List.drop_eq_nil_of_le h] at hd;exact absurd hd id
  have hdr:=List.drop_eq_getElem_cons hk
  rw [hdr] at hd hl ⊢
  obtain ⟨⟨x0,x1⟩,hd2⟩:=hd
  have hat:Zq (Xb Z) (k:Int)=some ((Z[k]:Nat):Int):=by
   rw [Ziy hk,List.getD_eq_getElem?_getD,List.getElem?_eq_getElem hk];rfl
  have e:a * Zo (Z[k] :: Z.drop (k+1))+Vz (Z[k] :: Z.drop (k+1)) (x :: d)=(a * Z[k]+x.toNat) * Zo (Z.drop (k+1))+Vz (Z.drop (k+1)) d:=by
   rw [Zo,Vz,Nat.add_mul,Nat.mul_assoc];omega
  have hpl:=Zir _ _ hd2
  have hle:a * Z[k]+x.toNat≤(a * Z[k]+x.toNat) * Zo (Z.drop (k+1)):=Nat.le_mul_of_pos_right _ (by omega)
  rw [e] at hl ⊢
  have ih:=Zvf hb d (k+1) (a * Z[k]+x.toNat) hd2 hl
  have ew:(a:Int) * ((Z[k]:Nat):Int)=((a * Z[k]:Nat):Int):=(Int.natCast_mul _ _).symm
  rw [Q4.eq_2,if_neg (dF (by omega)),hat,oB,decide_eq_false (by omega),Zh8,if_neg (by decide),hat,oB,ew,Z2 (x:=((a * Z[k]:Nat):Int)) (by omega),Z2 (by omega),
   show ((a * Z[k]:Nat):Int)+x=((a * Z[k]+x.toNat:Nat):Int) by omega]
  exact ih
theorem Z2l {Z:List Nat} {d:List Int} (hZ:∀ s ∈ Z,0<s) (hb:Zo Z≤65536) (hd:Qi Z d):Zh7 (Xb Z) d=some (((Vz Z d:Nat):Int),0):=by
 have hl:d.length=Z.length:=(Zm0 hd).1.symm
 have h:=Zvf hb d 0 0 (by rw [List.drop_zero];exact hd) (by rw [List.drop_zero,Nat.zero_mul,Nat.zero_add];exact Zir _ _ hd)
 rw [List.drop_zero,Nat.zero_mul,Nat.zero_add] at h
 rw [Zh7,Zlt hZ hb,oB,if_neg (show ¬ (!decide ((0:Int)=0))=true by decide),if_neg (by rw [Xb,List.length_map,hl,decide_eq_true rfl];decide)]
 exact h
/-! cells -/
def Ve (n:Zy) (G:List R3) (S:List Int) (c a:Nat):Rat:=if Wz (Xq (Zf n) a) G=true then if Vz (Z6 (Zf n) S) (Uy (Xq (Zf n) a) S)=c then Uc n a else 0 else 0
def Y8 (n:Zy) (G:List R3) (S:List Int) (k:Nat):List QV:=(List.range (Zo (Z6 (Zf n) S))).map fun c=>Zp (Z1 (Ve n G S c) 0 k)
theorem Zvv (f:Nat→Rat) (k:Nat):Z1 f 0 (k+1)=Z1 f 0 k+f k:=by
 rw [Zow,Nat.zero_add,Z1,Z1,Rat.add_zero]
section
variable {N W K:Nat} {n:Zy} (hf:Ya N n)
variable (hs:Ws n W) (hr:Xm N (8 * K+40)) (hWK:1025 * (W+2)+15≤K) (h6:Zo (Zf n)≤600)
include hf hs hr hWK h6
omit hs hr hWK h6 in
theorem Zyh {G:List R3} {S:List Int} {c a:Nat} (ha:a<Zo (Zf n)):Bd (Vp n.2.2.2.2) 1 (Ve n G S c a):=by
 rw [Ve]
 split
 ·split
  ·exact Zli hf (Zac hf (Tz _ _ (W6 hf) ha))
  ·exact Bd.zero _ _
 ·exact Bd.zero _ _
omit hr in
theorem Zvu {f:Nat→Rat} (h:∀ a,a<Zo (Zf n)→Bd (Vp n.2.2.2.2) 1 (f a)) {k:Nat} (hk:k≤Zo (Zf n)):qs (Z1 f 0 k)≤K:=
 Ziw hf hs hWK (by omega) (Zvs (Zjr _) k 0 fun i _ hi=>h i (by omega))
theorem Zts {G:List R3} {S:List Int} (hS:∀ v ∈ S,0≤v∧v<((Zf n).length:Int)) (hSl:S.length≤1048576) (hSP:Zo (Z6 (Zf n) S)≤600) {k:Nat} (hk:k<Zo (Zf n)) (hh:Wz (Xq (Zf n) k) G=true) (kk:List Int→List Int→List QV→Option ((List Int×List Int×List QV)×Int)):
  ∀ (l pre:List Int),S=pre++l→Zbs N S (Xb (Z6 (Zf n) S)) (Y8 n G S k) kk (Xq (Zf n) k,Zp (Uc n k)) l (Uy (Xq (Zf n) k) pre)=kk S (Xb (Z6 (Zf n) S)) (Y8 n G S (k+1))
 | [],pre,e=>by
  rw [List.append_nil] at e
  subst e
  have hdk:=Tz (Zf n) k (W6 hf) hk
  have hlen:=Zg1 (Zf n) k
  have hd:=Zmy hdk S (by rw [hlen];exact hS)
  have hZ:∀ s ∈ Z6 (Zf n) S,0<s:=fun s hs=>by
   obtain ⟨v,hv,rfl⟩:=List.mem_map.1 hs
   have:=hS v hv
   rw [Yu (show v.toNat<(Zf n).length by omega)]
   exact W6 hf _ (List.getElem_mem _)
  have hat:=Z2l hZ (by omega) hd
  have hpl:=Zir _ _ hd
  generalize hc:Vz (Z6 (Zf n) S) (Uy (Xq (Zf n) k) S)=c at *
  have hcl:c<(Y8 n G S k).length:=by rw [Y8,List.length_map,List.length_range];exact hpl
  have hget:(Y8 n G S k)[c]=Zp (Z1 (Ve n G S c) 0 k):=by simp only [Y8,List.getElem_map,List.getElem_range]
  have q1:=Zvu hf hs hWK h6 (f:=Ve n G S c) (fun a ha=>Zyh hf ha) (Nat.le_of_lt hk)
  have q2:=Ziw hf hs hWK (j:=1) (by decide) (Zli hf (Zac hf hdk))
  have ad:Vs N (((Zp (Z1 (Ve n G S c) 0 k)).1.1,(Zp (Z1 (Ve n G S c) 0 k)).1.2),(Zp (Z1 (Ve n G S c) 0 k)).2) (((Zp (Uc n k)).1.1,(Zp (Uc n k)).1.2),(Zp (Uc n k)).2)=some (Zp (Z1 (Ve n G S c) 0 k+Uc n k)):=by
   have:=Zbi (W5 q1) (W5 q2) (hr.mono (by omega))
   rwa [Wx,Wx] at this
  have hset:(Y8 n G S k).set c (Zp (Z1 (Ve n G S c) 0 k+Uc n k))=Y8 n G S (k+1):=by
   refine List.ext_getElem (by simp only [nS,Y8,List.length_map]) fun i h1 h2=>?_
   simp only [Y8,List.getElem_set,List.getElem_map,List.getElem_range,Zvv]
   by_cases hi:c=i
   ·subst hi;rw [if_pos rfl,Ve,if_pos hh,if_pos hc]
   ·rw [if_neg hi,show Ve n G S i k=0 by rw [Ve,if_pos hh,hc,if_neg hi],Rat.add_zero]
  rw [Zbs.eq_1,hat,oB]
  dsimp only
  rw [Xg hcl,oB,hget,ad,oB,oB,Int.toNat_natCast]
  exact congrArg (kk S (Xb (Z6 (Zf n) S))) hset
 | v :: l,pre,e=>by
  have hv:=hS v (by rw [e];exact List.mem_append_right _ List.mem_cons_self)
  have hlen:=Zg1 (Zf n) k
  have hat:Zq (Xq (Zf n) k) v=some ((Xq (Zf n) k).getD v.toNat 0):=by
   have:=Um (l:=Xq (Zf n) k) 0 (j:=v.toNat) (by omega)
   rwa [show ((v.toNat:Nat):Int)=v by omega] at this
  have hpl:pre.length<S.length:=by rw [e,nA,nC];omega
  have ih:=Zts hS hSl hSP hk hh kk l (pre++[v]) (by rw [List.append_assoc];exact e)
  have e2:Uy (Xq (Zf n) k) (pre++[v])=Uy (Xq (Zf n) k) pre++[(Xq (Zf n) k).getD v.toNat 0]:=by rw [Uy,List.map_append];rfl
  rw [e2] at ih
  rw [Zbs.eq_2]
  dsimp only
  rw [hat,oB,Z7 (by simp only [Uy,List.length_map,List.length_singleton,maxLen];omega)]
  exact ih
theorem Ztr {G:List R3} (hG:G.all (Vy n)=true) {S:List Int} (hS:∀ v ∈ S,0≤v∧v<((Zf n).length:Int)) (hSl:S.length≤1048576) (hSP:Zo (Z6 (Zf n) S)≤600):∀ (m k:Nat),k+m=Zo (Zf n)→S5 N G (Ta n k m) S (Xb (Z6 (Zf n) S)) (Y8 n G S k)=some ((S,Xb (Z6 (Zf n) S),Y8 n G S (Zo (Zf n))),0)
 | 0,k,hk=>by rw [← hk,Nat.add_zero];rfl
 | m+1,k,hk=>by
  have hd:=Zac hf (Tz (Zf n) k (W6 hf) (by omega))
  have hh:Ze7 (Xq (Zf n) k) G=some (Wz (Xq (Zf n) k) G):=Zn2 hd G hG
  have ih:=Ztr hG hS hSl hSP m (k+1) (by omega)
  rw [Ta,S5.eq_2]
  dsimp only
  rw [hh,oB]
  cases hb2:Wz (Xq (Zf n) k) G with
  | true=>
   rw [if_neg (by decide)]
   have h4:=Zts hf hs hr hWK h6 hS hSl hSP (show k<Zo (Zf n) by omega) hb2 (S5 N G (Ta n (k+1) m)) S [] rfl
   exact h4.trans ih
  | false=>
   rw [if_pos (show (!false)=true from rfl)]
   have e:Y8 n G S k=Y8 n G S (k+1):=by
    refine List.map_congr_left fun c _=>?_
    rw [Zvv,show Ve n G S c k=0 by rw [Ve,hb2,if_neg (by decide)],Rat.add_zero]
   rw [e]
   exact ih
omit hf hs hr hWK h6 in
theorem Ztp {G:List R3} {S:List Int} {fin:Option ((List Int×List Int×List QV)×Int)} {e:Int} (hS:∀ v ∈ S,0≤v∧v<((Zf n).length:Int)) (hSl:S.length≤1048576) (hSP:Zo (Z6 (Zf n) S)≤600) (hZ:∀ s ∈ Z6 (Zf n) S,0<s)
  (hfin:Zbr N n G (((Zo (Z6 (Zf n) S):Nat):Int),0) N S (Xb (Z6 (Zf n) S)) [] 0=fin):∀ (f i:Nat),i≤S.length→S.length<f+i→Zc2 N n G (Xb (Zf n),e) S f S (Xb (Z6 (Zf n) (S.take i))) [] (i:Int)=fin
 | 0,i,h1,h2=>by omega
 | f+1,i,h1,h2=>by
  rw [Zc2.eq_2]
  by_cases hi:i<S.length
  ·have hv:=hS _ (List.getElem_mem hi)
   have hat:Zq (Xb (Zf n)) S[i]=some (((Zf n).getD S[i].toNat 0:Nat):Int):=by
    have:=Ziy (ss:=Zf n) (k:=S[i].toNat) (by omega)
    rwa [show ((S[i].toNat:Nat):Int)=S[i] by omega] at this
   have e2:Xb (Z6 (Zf n) (S.take i))++[(((Zf n).getD S[i].toNat 0:Nat):Int)]=Xb (Z6 (Zf n) (S.take (i+1))):=by
    rw [List.take_succ_eq_append_getElem hi,Xb,Xb,Z6,Z6,List.map_append,List.map_append];rfl
   rw [if_pos (dT (by omega)),Xg hi,oB,hat,oB,Z7 (by simp only [Xb,Z6,List.length_map,nK,List.length_singleton,maxLen];omega),e2,wS (by omega)]
   exact Ztp hS hSl hSP hZ hfin f (i+1) (by omega) (by omega)
  ·rw [if_neg (dF (by omega)),List.take_of_length_le (by omega),Zlt hZ (by omega),oB]
   exact hfin
omit hf hs hWK h6 in
theorem Ztq (hN:4611686018427387903<N) {G:List R3} {S:List Int} {e:Int} (hP:Zo (Z6 (Zf n) S)≤600) (ja:Zal N (n.1,n.2.1,n.2.2.1,n.2.2.2.1,n.2.2.2.2)=some (Ta n 0 (Zo (Zf n)))):∀ (f j:Nat),j≤Zo (Z6 (Zf n) S)→Zo (Z6 (Zf n) S)<f+j→
  Zbr N n G (((Zo (Z6 (Zf n) S):Nat):Int),e) f S (Xb (Z6 (Zf n) S)) ((List.range j).map fun c=>Zp (Z1 (Ve n G S c) 0 0)) (j:Int)=S5 N G (Ta n 0 (Zo (Zf n))) S (Xb (Z6 (Zf n) S)) (Y8 n G S 0)
 | 0,j,h1,h2=>by omega
 | f+1,j,h1,h2=>by
  rw [Zbr.eq_2]
  by_cases hj:j<Zo (Z6 (Zf n) S)
  ·have e2:((List.range j).map fun c=>Zp (Z1 (Ve n G S c) 0 0))++[Zp 0]=(List.range (j+1)).map fun c=>Zp (Z1 (Ve n G S c) 0 0):=by
    rw [List.range_succ,List.map_append];rfl
   have ih:=Ztq hN (G:=G) (e:=e) hP ja f (j+1) (by omega) (by omega)
   rw [← e2] at ih
   rw [if_pos (dT (by dsimp only;omega)),Zjz (hr.mono (by omega)),oB,Z7 (by simp only [List.length_map,List.length_range,List.length_singleton,maxLen];omega),wS (by omega)]
   exact ih
  ·have hj:j=Zo (Z6 (Zf n) S):=by omega
   rw [if_neg (by dsimp only;rw [decide_eq_false (by omega)];decide),ja,oB,hj];rfl
theorem Ztt (hN:4611686018427387903<N) (hq:∀ t ∈ n.2.2.2.2,Xz (t.map Wc)≤W) {G:List R3} {V:List Int} (hGl:G.length≤2097152) (hVl:V.length≤1048576) (hw:Y2 n G V=0):
  S4 N n V G=some ((X9 V,Xb (Z6 (Zf n) (X9 V)),Y8 n G (X9 V) (Zo (Zf n))),0):=by
 have hle:=hf.le;have hv:=hf.ev.v
 have hszl:(Zf n).length=n.2.1.length:=by rw [Zf,List.length_map,hv]
 obtain ⟨ga,g2,g3⟩:=Zj3 hf hs (hr.mono (by omega)) (by omega) G V hGl hVl
 have g2':Up N (n.1,n.2.1,n.2.2.1,n.2.2.2.1,n.2.2.2.2) G V=some (ga,Y2 n G V):=g2
 have hga:=g3 hw
 have ja:Zal N (n.1,n.2.1,n.2.2.1,n.2.2.2.1,n.2.2.2.2)=some (Ta n 0 (Zo (Zf n))):=Zro hf hs hr (by omega) (by omega) hq (show Zo (Zf n)≤65536 by omega)
 have hG:=Znx hw
 have hp:=Zg3 V
 have hVn:V.all (Sj n)=true∧(G.map (·.1)++V).Nodup:=by
  rw [Y2,if_pos hG] at hw
  by_cases h1:V.all (Sj n)=true
  ·rw [if_pos h1] at hw
   by_cases h2:(G.map (·.1)++V).Nodup
   ·exact ⟨h1,h2⟩
   ·rw [if_neg h2] at hw;exact absurd hw (by decide)
  ·rw [if_neg h1] at hw;exact absurd hw (by decide)
 have hS:∀ v ∈ X9 V,0≤v∧v<((Zf n).length:Int):=fun v hv=>by
  have:=List.all_eq_true.1 hVn.1 v (hp.mem_iff.1 hv)
  simp only [Sj,Bool.and_eq_true,decide_eq_true_eq] at this
  omega
 have hnd:(X9 V).Nodup:=hp.nodup_iff.2 (List.nodup_append.1 hVn.2).2.1
 have hSl:(X9 V).length≤1048576:=by rw [hp.length_eq];exact hVl
 have hSP:Zo (Z6 (Zf n) (X9 V))≤600:=Nat.le_trans (Zn4 (W6 hf) hnd hS) h6
 have hZ:∀ s ∈ Z6 (Zf n) (X9 V),0<s:=fun s hs=>by
  obtain ⟨v,hv,rfl⟩:=List.mem_map.1 hs
  have:=hS v hv
  rw [Yu (show v.toNat<(Zf n).length by omega)]
  exact W6 hf _ (List.getElem_mem _)
 rw [S4,g2',oB]
 dsimp only
 rw [hw,if_neg (show ¬ (!decide ((0:Int)=0))=true by decide),Zz6,oB,Zz5 _ (by omega),oB,hga]
 refine Ztp (fin:=some ((X9 V,Xb (Z6 (Zf n) (X9 V)),Y8 n G (X9 V) (Zo (Zf n))),0)) hS hSl hSP hZ ?_ N 0 (Nat.zero_le _) (by omega)
 exact (Ztq hr hN hSP ja N 0 (Nat.zero_le _) (by omega)).trans (Ztr hf hs hr hWK h6 hG hS hSl hSP (Zo (Zf n)) 0 (by omega))
end
abbrev Zl3:=ByteArray×List ByteArray×List R5×List R2×List (List QV)
structure Zi7 (n:Zl3):Prop where
 nm:n.2.1.length≤1048576
 vn:n.2.2.1.length≤1048576
 vl:∀ l ∈ n.2.2.1,l.length≤1048576
 pn:n.2.2.2.1.length≤1048576
 pl:∀ l ∈ n.2.2.2.1,l.length≤1048576
 tn:n.2.2.2.2.length≤1048576
 tl:∀ t ∈ n.2.2.2.2,t.length≤1048576
 tm:∀ t ∈ n.2.2.2.2,∀ x ∈ t,x.1.2.length≤1048576∧x.2.length≤1048576
def Zgc (ae:R0) (aa:Int) (kk_L1:(Int→Int→Option Int)) (ab:Int) (ac:Int) (kk_L2:(Int→Int→Option Int)) (af:Bool):Option Int:=
  if af=true then ((Zq ae.2.2.2.2 aa).bind fun ag=>(Zq ag ac).bind fun ad=>kk_L2 (i64.wrap ((i64.wrap (ab+(ad.1.2.length:Int)))+(ad.2.length:Int))) (i64.wrap (ac+1))) else (kk_L1 ab (i64.wrap (aa+1)))
def Za6 (N:Nat) (aa:R0) (ab:Int) (kk_L1:(Int→Int→Option Int)):Nat→Int→Int→Option Int
  | 0,_,_=>none
  | ae+1,ac,ad=>(Zq aa.2.2.2.2 ab).bind fun af=>if (decide (ad<(af.length:Int)))=true then (Zgc aa ab kk_L1 ac ad (Za6 N aa ab kk_L1 ae) (decide (ac<10000))) else (Zgc aa ab kk_L1 ac ad (Za6 N aa ab kk_L1 ae) false)
termination_by structural x=>x
def Qc (N:Nat) (aa:R0):Nat→Int→Int→Option Int
  | 0,_,_=>none
  | ad+1,ab,ac=>if (decide (ac<(aa.2.2.2.2.length:Int)))=true then (Za6 N aa ac (Qc N aa ad) N ab 0) else (some (if 10000<ab then 10000 else ab))
termination_by structural x=>x
def Zkv (N:Nat) (aa:R0):Option Int:=
  Qc N aa N 0 0
theorem Zxr {N al am an ao:Nat} {ap aq ar au:Option Addr} {col:Zd} {w0:World} {aa:R0} {r:Int} (hm:Zkv N aa=some r) (bs:Sl Za.str col w0 ap al aa.2.1) (bt:Sl (Za.slice Za.str) col w0 aq am aa.2.2.1) (bu:Sl (Za.slice (Za.int .i64)) col w0 ar an aa.2.2.2.1) (ag:Sl (Za.slice (Za.pair (Za.pair Za.bool (Za.slice (Za.int .u32))) (Za.slice (Za.int .u32)))) col w0 au ao aa.2.2.2.2):
    Calls prog 84 #[(.agg #[.string aa.1,.slice ap aa.2.1.length al,.slice aq aa.2.2.1.length am,.slice ar aa.2.2.2.1.length an,.slice au aa.2.2.2.2.length ao])] w0 (fun e w'=>e= .returned ((.int .i64 r))∧Below w0.heap.size w0 w'):=by
 refine Xk 2 (m:=53) func84 rfl rfl rfl rfl rfl ?_;rw [Zkv.eq_1] at hm;have ab:=St.start col w0;refine go ?_;refine Ye (col:=(Zj col)) 1 rfl ?_;intro ay bv bw a8 ac;refine go ?_;replace ab:=ab.grow a8;refine Z8 [1,1000000] (fun n f az=>∃ a0 ai aj ae,ae=n∧Qc N aa ae ai aj=some r∧St w0 (Zj col) a0 az∧Zk 27 1 a0 az ay #[.string aa.1,.slice ap aa.2.1.length al,.slice aq aa.2.2.1.length am,.slice ar aa.2.2.2.1.length an,.slice au aa.2.2.2.2.length ao]∧[3,4].map f=[.int .i64 ai,.int .i64 aj]) N ⟨_,0,0,_,rfl,hm,ab,ac,rfl⟩ ?_;clear hm;intro n f az hI;obtain ⟨a0,ai,aj,ae,hn,hm,ab,ac,hs⟩:=hI;subst hn;refine .lL [3,4] hs ?_;replace ag:=ag.keep (Zl.start col w0)
 cases ae with
 | zero=>rw [Qc.eq_1] at hm;cases hm
 | succ ae=>
  rw [Qc.eq_2] at hm;refine go ?_;refine Xu ac ?_;refine go ?_;refine Zr hm (fun hb hm=>go ?_) fun hb hm=>go ?_
  ·refine Z8 [1,4,1000000] (fun n f a1=>∃ a2 av aw ah,ah=n∧Za6 N aa aj (Qc N aa ae) ah av aw=some r∧St w0 (Zj col) a2 a1∧Zk 27 1 a2 a1 ay #[.string aa.1,.slice ap aa.2.1.length al,.slice aq aa.2.2.1.length am,.slice ar aa.2.2.2.1.length an,.slice au aa.2.2.2.2.length ao]∧[3,5].map f=[.int .i64 av,.int .i64 aw]) N ⟨_,_,0,_,rfl,hm,ab,ac,rfl⟩ ?_;clear hm;intro n f a1 hI;obtain ⟨a2,av,aw,ah,hn,hm,ab,ac,hs⟩:=hI;subst hn;refine .lL [3,5] hs ?_
   cases ah with
   | zero=>rw [Za6.eq_1] at hm;cases hm
   | succ ah=>
    rw [Za6.eq_2] at hm;refine Zw<|Zw ?_;refine Wp.cutK [1,3,4,5,1000000] (fun f a3=>∃ ad a4,Zgc aa aj (Qc N aa ae) av aw (Za6 N aa aj (Qc N aa ae) ah) a4=some r∧St w0 (Zj col) ad a3∧Zk 27 1 ad a3 ay #[.string aa.1,.slice ap aa.2.1.length al,.slice aq aa.2.2.1.length am,.slice ar aa.2.2.2.1.length an,.slice au aa.2.2.2.2.length ao]∧[24].map f=[.bool a4]) ?_ ?_
    ·intro f a3 hJ;obtain ⟨ad,a4,hm,ab,ac,hs⟩:=hJ;rw [Zgc.eq_1] at hm;refine .lL [24] hs ?_;refine Zr hm (fun hb hm=>go ?_) fun hb hm=>go ?_
     ·refine Tq (col:=ad) (by kernel_rfl) (by kernel_rfl)<|go ?_;refine qF ⟨_,_,rfl⟩ ?_;refine qW (fun _ hC=>((ac.atN).nth (q:=4) rfl).gr (hC.bl ad)) ?_;refine go ?_;obtain ⟨bx,ak,hm⟩:=bZ hm;refine qI ak ((ag.ks ab).addr ak) ?_;obtain ⟨_,a9,ba⟩:=(ag.ks ab).atN ak;obtain ⟨⟨bz,b0,rfl,ax⟩,_⟩:=a9;refine qW (fun _ hC=>ba.one.gr (hC.bl ad)) ?_;refine go ?_;obtain ⟨b1,af,hm⟩:=bZ hm;refine qI af (ax.addr af)<|qF (U5 (ax.addr af)) ?_;refine qF (U5 (U5 (ax.addr af))) ?_;obtain ⟨_,bb,bc⟩:=ax.atN af;obtain ⟨_,_,rfl,bd,be⟩:=Uf bb;obtain ⟨_,_,rfl,bf,bg⟩:=Uf bd;obtain ⟨rfl,_⟩:=bf;obtain ⟨⟨b2,b3,rfl,b4⟩,_⟩:=bg;obtain ⟨⟨b5,b6,rfl,b7⟩,_⟩:=be;refine qW (fun _ hC=>((((bc).part 0 2 _ rfl)).nth (q:=1) rfl).gr (hC.bl ad)) ?_;refine go ?_;refine qF ⟨_,_,rfl⟩ ?_;refine qW (fun _ hC=>((ac.atN).nth (q:=4) rfl).gr (hC.bl ad)) ?_;refine go ?_;refine qI ak ((ag.ks ab).addr ak) ?_;obtain ⟨_,bh,bi⟩:=(ag.ks ab).atN ak;obtain ⟨⟨b8,b9,rfl,a5⟩,_⟩:=bh;refine qW (fun _ hC=>bi.one.gr (hC.bl ad)) ?_;refine go ?_;refine qI af (a5.addr af)<|qF (U5 (a5.addr af)) ?_;obtain ⟨_,bj,bk⟩:=a5.atN af;obtain ⟨_,_,rfl,bm,bn⟩:=Uf bj;obtain ⟨_,_,rfl,bo,bp⟩:=Uf bm;obtain ⟨rfl,_⟩:=bo;obtain ⟨⟨ca,cb,rfl,cc⟩,_⟩:=bp;obtain ⟨⟨cd,ce,rfl,cf⟩,_⟩:=bn;refine qW (fun _ hC=>((bk).nth (q:=2) rfl).gr (hC.bl ad)) ?_;refine go ?_;refine Vh ?_;intro cg hC;replace hC:=hC.bl ad;refine go ?_;replace ac:=ac.gr hC;replace ab:=ab.grow hC;exact ⟨ah,by omega,rfl,⟨_,_,_,_,rfl,hm,ab,ac,rfl⟩⟩
     exact ⟨ae,by omega,rfl,⟨_,_,_,_,rfl,hm,ab,ac,rfl⟩⟩
    refine go ?_;refine Xu ac<|Yd rfl ?_;obtain ⟨ch,a6,hm⟩:=bZ hm;refine lI a6 ((ag.ks ab).addr a6) ?_;obtain ⟨_,bq,br⟩:=(ag.ks ab).atN a6;obtain ⟨⟨ci,cj,rfl,ck⟩,_⟩:=bq;refine lW br.one<|go ?_;refine X1 hm (fun a7 hm=>go ?_) fun a7 hm=>go ?_
    ·refine lV (.bool (decide (av<10000))) (Xs (congrArg Value.bool a7) rfl)<|Zm ?_;exact ⟨rfl,_,_,hm,ab,ac,rfl⟩
    refine lV (.bool false) (Xl (congrArg Value.bool a7) rfl)<|Zm ?_;exact ⟨rfl,_,_,hm,ab,ac,rfl⟩
  refine lV (.int .i64 (if 10000<ai then 10000 else ai)) (Zoh ai 10000 rfl rfl)<|go ?_;cases hm;exact ⟨rfl,rfl,ab.below⟩
theorem Zr6 {N:Nat} {n:Zy} (hb:∀ t ∈ n.2.2.2.2,t.length≤1048576∧∀ x ∈ t,x.1.2.length≤1048576∧x.2.length≤1048576) {i:Nat} (hi:i<n.2.2.2.2.length) (hib:i<4611686018427387904) (kk:Int→Int→Option Int) (hkk:∀ s:Int,0≤s→s≤3000000→∃ r,kk s ((i+1:Nat):Int)=some r):∀ (f k:Nat) (s:Int),0≤s→s≤3000000→k≤n.2.2.2.2[i].length→n.2.2.2.2[i].length<f+k→∃ r,Za6 N n (i:Int) kk f s (k:Int)=some r
 | 0,k,s,_,_,h1,h2=>by omega
 | f+1,k,s,s1,s2,h1,h2=>by
  have ht:=hb _ (List.getElem_mem hi)
  rw [Za6.eq_2,Xg hi,oB]
  by_cases hk:k<n.2.2.2.2[i].length
  ·have hx:=ht.2 _ (List.getElem_mem hk)
   rw [if_pos (dT (by omega)),Zgc]
   by_cases hs:s<10000
   ·rw [decide_eq_true hs,if_pos rfl,Xg hi,oB,Xg hk,oB,Z2 (x:=s+_) (by omega),Z2 (by omega),wS (by omega)]
    exact Zr6 hb hi hib kk hkk f (k+1) _ (by omega) (by omega) (by omega) (by omega)
   ·rw [decide_eq_false hs,if_neg (by decide),wS (by omega)]
    exact hkk s s1 s2
  ·rw [if_neg (dF (by omega)),Zgc,if_neg (by decide),wS (by omega)]
   exact hkk s s1 s2
theorem Zr5 {N:Nat} {n:Zy} (hb:∀ t ∈ n.2.2.2.2,t.length≤1048576∧∀ x ∈ t,x.1.2.length≤1048576∧x.2.length≤1048576) (hl:n.2.2.2.2.length≤1048576) (hN:1048577<N):∀ (f i:Nat) (s:Int),0≤s→s≤3000000→i≤n.2.2.2.2.length→n.2.2.2.2.length<f+i→∃ r,Qc N n f s (i:Int)=some r
 | 0,i,s,_,_,h1,h2=>by omega
 | f+1,i,s,s1,s2,h1,h2=>by
  rw [Qc.eq_2]
  by_cases hi:i<n.2.2.2.2.length
  ·rw [if_pos (dT (by omega))]
   have ht:=hb _ (List.getElem_mem hi)
   have:=Zr6 (N:=N) hb hi (by omega) (Qc N n f) (fun s' a b=>Zr5 hb hl hN f (i+1) s' a b (by omega) (by omega)) N 0 s s1 s2 (Nat.zero_le _) (by omega)
   exact this
  ·rw [if_neg (dF (by omega))]
   exact ⟨_,rfl⟩
theorem Zvt (p:Nat) (x:Rat):∀ m k,Z1 (fun c=>if p=c then x else 0) k m=if k≤p∧p<k+m then x else 0
 | 0,k=>by rw [Z1,if_neg (by omega)]
 | m+1,k=>by
  rw [Z1,Zvt p x m (k+1)]
  by_cases h:p=k
  ·subst h
   rw [if_pos rfl,if_neg (by omega),if_pos (by omega),Rat.add_zero]
  ·rw [if_neg h,Rat.zero_add]
   by_cases h2:k+1≤p∧p<k+1+m
   ·rw [if_pos h2,if_pos (by omega)]
   ·rw [if_neg h2,if_neg (by omega)]
def Tg (p:Nat→Nat) (g:Nat→Rat) (c a:Nat):Rat:=if p a=c then g a else 0
theorem Zj2 (p:Nat→Nat) (g:Nat→Rat) (P m k:Nat):Z1 (fun c=>Z1 (Tg p g c) 0 P) k m=Z1 (fun a=>if k≤p a∧p a<k+m then g a else 0) 0 P:=by
 rw [Zvw]
 exact Zgm P 0 fun a _ _=>Zvt (p a) (g a) m k
theorem Zoy {f g:Nat→Rat}:∀ (m k:Nat),(∀ i,k≤i→i<k+m→f i≤g i)→Z1 f k m≤Z1 g k m
 | 0,k,_=>Rat.le_refl
 | m+1,k,h=>by
  have h1:=h k (Nat.le_refl _) (by omega)
  have h2:=Zoy m (k+1) fun i a b=>h i (by omega) (by omega)
  rw [Z1,Z1]
  exact Rat.le_trans (Rat.add_le_add_right.2 h1) (Rat.add_le_add_left.2 h2)
theorem Z2w {f:Nat→Rat} (m k:Nat) (h:∀ i,k≤i→i<k+m→0≤f i):0≤Z1 f k m:=by
 have:=Zoy (f:=fun _=>0) (g:=f) m k h
 rwa [Zoz] at this
def W3 (n:Zy) (G:List R3) (a:Nat):Rat:=if Wz (Xq (Zf n) a) G=true then Uc n a else 0
theorem Zvq (n:Zy) (F:List R3):∀ (m k:Nat) (q:Rat),Zbb n F k m q=q+Z1 (W3 n F) k m
 | 0,k,q=>by rw [Zbb,Z1,Rat.add_zero]
 | m+1,k,q=>by
  rw [Zbb,Z1,Zvq n F m (k+1),W3]
  split
  ·rw [Rat.add_assoc]
  ·rw [Rat.zero_add]
def Ub (n:Zy) (S:List Int) (a:Nat):Nat:=Vz (Z6 (Zf n) S) (Uy (Xq (Zf n) a) S)
theorem Zyi (n:Zy) (G:List R3) (S:List Int) (c:Nat):Ve n G S c=Tg (Ub n S) (W3 n G) c:=by
 funext a
 rw [Ve,Tg,W3,Ub]
 by_cases h1:Wz (Xq (Zf n) a) G=true
 ·rw [if_pos h1,if_pos h1]
 ·rw [if_neg h1,if_neg h1];split <;> rfl
theorem Zzi {N:Nat} {n:Zy} (hf:Ya N n) {w:List Int} (hw:V6 n w) {v:Nat} (hv:v<n.2.1.length):0≤ent n w v:=by
 have h1:=hw.ok v (by rw [hw.len];exact hv)
 have hq:(w.getD v 0).toNat<(Vk n w v).length:=by rw [hf.rowT_len hw hv];omega
 rw [ent,Yu hq]
 exact (hf.ent hv _ (Zk8 (List.getElem_mem hq))).1
theorem Ztn {N:Nat} {n:Zy} (hf:Ya N n) {w:List Int} (hw:V6 n w):∀ (m k:Nat) (q:Rat),0≤q→k+m≤n.2.1.length→0≤V0 n w m k q
 | 0,k,q,h,_=>h
 | m+1,k,q,h,hk=>by
  rw [V0]
  exact Ztn hf hw m (k+1) _ (Rat.mul_nonneg h (Zzi hf hw (by omega))) (by omega)
theorem Z1f {N:Nat} {n:Zy} (hf:Ya N n) {a:Nat} (ha:a<Zo (Zf n)):0≤Uc n a:=
 Ztn hf (Zac hf (Tz _ _ (W6 hf) ha)) _ _ _ (by decide) (by omega)
theorem Zrh {N:Nat} {n:Zy} (hf:Ya N n) (G:List R3) {a:Nat} (ha:a<Zo (Zf n)):0≤W3 n G a:=by
 rw [W3]
 split
 ·exact Z1f hf ha
 ·exact Rat.le_refl
theorem Zm9 {N:Nat} {n:Zy} (hf:Ya N n) (G:List R3) {a:Nat} (ha:a<Zo (Zf n)):Bd (Vp n.2.2.2.2) 1 (W3 n G a):=by
 rw [W3]
 split
 ·exact Zli hf (Zac hf (Tz _ _ (W6 hf) ha))
 ·exact Bd.zero _ _
theorem Zrf {D M:Nat} {q:Rat} {c:Prop} [Decidable c] (h:Bd D M q):Bd D M (if c then q else 0):=by
 split
 ·exact h
 ·exact Bd.zero _ _
theorem Zzy (w:List Int) (A G:List R3):Wz w (A++G)=(Wz w A&&Wz w G):=by
 rw [Wz,Wz,Wz,List.all_append]
def Xa (n:Zy) (G:List R3):Rat:=Z1 (W3 n G) 0 (Zo (Zf n))
theorem Z2v {N:Nat} {n:Zy} (hf:Ya N n) (G:List R3):0≤Xa n G:=
 Z2w _ _ fun i _ hi=>Zrh hf G (by omega)
theorem Z2u {N:Nat} {n:Zy} (hf:Ya N n) (A G:List R3):Xa n (A++G)≤Xa n G:=
 Zoy _ _ fun i _ hi=>by
  have h:=Zrh hf G (a:=i) (by omega)
  rw [W3,Zzy]
  rw [W3] at h ⊢
  cases Wz (Xq (Zf n) i) A with
  | true=>rw [Bool.true_and];exact Rat.le_refl
  | false=>rw [Bool.false_and,if_neg (by decide)];exact h
abbrev zQ:QV:=((false,[]),[])
section
variable {N W K:Nat} {n:Zy} (hf:Ya N n) (hs:Ws n W) (hr:Xm N (8 * K+40)) (hWK:1025 * (W+2)+15≤K) (h6:Zo (Zf n)≤600)
include hf hs hWK h6
theorem Zn0 {f:Nat→Rat} (h:∀ a,a<Zo (Zf n)→Bd (Vp n.2.2.2.2) 1 (f a)):qs (Z1 f 0 (Zo (Zf n)))≤K:=Zvu hf hs hWK h6 h (Nat.le_refl _)
theorem Zd9 (G:List R3):qs (Xa n G)≤K:=Zn0 hf hs hWK h6 fun a ha=>Zm9 hf G ha
variable (hq:∀ t ∈ n.2.2.2.2,Xz (t.map Wc)≤W) (hN:4611686018427387903<N)
include hr hq hN
theorem Zn6 {F:List R3} (hF:F.all (Vy n)=true):Qx N n F=some (Zp (Xa n F)):=by
 have ja:Zal N (n.1,n.2.1,n.2.2.1,n.2.2.2.1,n.2.2.2.2)=some (Ta n 0 (Zo (Zf n))):=Zro hf hs hr (by omega) (by omega) hq (show Zo (Zf n)≤65536 by omega)
 obtain ⟨p1,p2⟩:=Zn5 hf hs hr hWK (by omega) h6 F hF (Zo (Zf n)) 0 0 (by omega) (Bd.zero _ _)
 rw [Zvq,Rat.zero_add] at p1
 rw [Qx,Zjz (hr.mono (by omega)),oB,ja,oB]
 exact p1
theorem Ztd {G:List R3} (hG:G.length≤2097152):Zan N n G=some (if Y2 n G []=0 then (Zp (Xa n G),0) else (zQ,Y2 n G [])):=by
 obtain ⟨ga,g2,_⟩:=Zj3 hf hs (hr.mono (by omega)) (by omega) G [] hG (by simp)
 have g2':Up N (n.1,n.2.1,n.2.2.1,n.2.2.2.1,n.2.2.2.2) G []=some (ga,Y2 n G []):=g2
 rw [Zan,g2',oB]
 dsimp only
 by_cases hw:Y2 n G []=0
 ·have s1:Qx N (n.1,n.2.1,n.2.2.1,n.2.2.2.1,n.2.2.2.2) G=some (Zp (Xa n G)):=Zn6 hf hs hr hWK h6 hq hN (Znx hw)
  rw [hw,if_neg (show ¬ (!decide ((0:Int)=0))=true by decide),s1,oB,if_pos rfl]
 ·rw [if_pos (by rw [decide_eq_false hw];rfl),if_neg hw]
theorem Zs8 {A G:List R3} (hA:A.length≤1048576) (hG:G.length≤1048576):Zam N n A G=some (if Y2 n (A++G) []=0 then if Xa n G=0 then (zQ,52) else (Zp (Xa n (A++G) / Xa n G),0) else (zQ,Y2 n (A++G) [])):=by
 have hl:(A++G).length≤2097152:=by rw [nA];omega
 have cA:Zib A=some A:=by
  rw [Zib,Z7 (by simp only [nN,maxLen];omega),List.nil_append]
 obtain ⟨ga,g2,_⟩:=Zj3 hf hs (hr.mono (by omega)) (by omega) (A++G) [] hl (by simp)
 have g2':Up N (n.1,n.2.1,n.2.2.1,n.2.2.2.1,n.2.2.2.2) (A++G) []=some (ga,Y2 n (A++G) []):=g2
 rw [Zam,cA,oB,Z7 (by simp only [maxLen];omega),g2',oB]
 dsimp only
 by_cases hw:Y2 n (A++G) []=0
 ·have okAG:=Znx hw
  have okG:G.all (Vy n)=true:=by rw [List.all_append,Bool.and_eq_true] at okAG;exact okAG.2
  have s1:Qx N (n.1,n.2.1,n.2.2.1,n.2.2.2.1,n.2.2.2.2) (A++G)=some (Zp (Xa n (A++G))):=Zn6 hf hs hr hWK h6 hq hN okAG
  have s2:Qx N (n.1,n.2.1,n.2.2.1,n.2.2.2.1,n.2.2.2.2) G=some (Zp (Xa n G)):=Zn6 hf hs hr hWK h6 hq hN okG
  have q1:=Zd9 hf hs hWK h6 (A++G)
  have q2:=Zd9 hf hs hWK h6 G
  have d1:Ze3 N (((Zp (Xa n (A++G))).1.1,(Zp (Xa n (A++G))).1.2),(Zp (Xa n (A++G))).2) (((Zp (Xa n G)).1.1,(Zp (Xa n G)).1.2),(Zp (Xa n G)).2)=some (if Xa n G=0 then (zQ,11) else (Zp (Xa n (A++G) / Xa n G),0)):=by
   have:=Zzk (W5 q1) (W5 q2) (hr.mono (by omega))
   rwa [Wx,Wx] at this
  rw [hw,if_neg (show ¬ (!decide ((0:Int)=0))=true by decide),s1,oB,s2,oB,d1,oB,if_pos rfl]
  by_cases hu:Xa n G=0
  ·rw [if_pos hu,if_pos (show (!decide ((11:Int)=0))=true by decide),if_pos hu]
  ·rw [if_neg hu,if_neg hu]
   dsimp only
   rw [if_neg (show ¬ (!decide ((0:Int)=0))=true by decide)]
 ·have hc1:(!decide (Y2 n (A++G) []=0))=true:=by rw [decide_eq_false hw];rfl
  rw [if_pos hc1,if_neg hw]
end
def Zkf (aa:Bool):Option Bool:=
  some aa
def Zda (N:Nat) (aa:R0):Nat→Int→Int→Option Bool
  | 0,_,_=>none
  | ad+1,ac,ab=>if (decide (ab<(aa.2.2.2.2.length:Int)))=true then ((Zq aa.2.2.2.2 ab).bind fun ae=>(Zda N aa ad) (i64.wrap (ac+(ae.length:Int))) (i64.wrap (ab+1))) else (if (decide (3000<ac))=true then (Zkf true) else ((Zkv N (aa.1,aa.2.1,aa.2.2.1,aa.2.2.2.1,aa.2.2.2.2)).bind fun af=>Zkf (decide (6000<af))))
termination_by structural x=>x
def Zc9 (N:Nat) (aa:R0):Nat→Int→Int→Option Bool
  | 0,_,_=>none
  | ae+1,ad,ac=>if (decide (ac<(aa.2.2.1.length:Int)))=true then ((Zq aa.2.2.1 ac).bind fun ab=>if (decide (600<(i64.wrap (ad * (if (ab.length:Int)>1 then (ab.length:Int) else 1)))))=true then (some true) else ((Zc9 N aa ae) (i64.wrap (ad * (if (ab.length:Int)>1 then (ab.length:Int) else 1))) (i64.wrap (ac+1)))) else (Zda N aa N 0 0)
termination_by structural x=>x
def Zke (N:Nat) (aa:R0):Option Bool:=
  Zc9 N aa N 1 0
theorem Zw4 {N ai aj ak al:Nat} {am an ao ap:Option Addr} {col:Zd} {w0:World} {ab:R0} {r:Bool} (hm:Zke N ab=some r) (ar:Sl Za.str col w0 am ai ab.2.1) (af:Sl (Za.slice Za.str) col w0 an aj ab.2.2.1) (au:Sl (Za.slice (Za.int .i64)) col w0 ao ak ab.2.2.2.1) (ag:Sl (Za.slice (Za.pair (Za.pair Za.bool (Za.slice (Za.int .u32))) (Za.slice (Za.int .u32)))) col w0 ap al ab.2.2.2.2):
    Calls prog 68 #[(.agg #[.string ab.1,.slice am ab.2.1.length ai,.slice an ab.2.2.1.length aj,.slice ao ab.2.2.2.1.length ak,.slice ap ab.2.2.2.2.length al])] w0 (fun e w'=>e= .returned ((.bool r))∧Below w0.heap.size w0 w'):=by
 refine Xk 2 (m:=47) func68 rfl rfl rfl rfl rfl ?_;rw [Zke.eq_1] at hm;have aa:=St.start col w0;refine go ?_;refine Ye (col:=(Zj col)) 1 rfl ?_;intro a7 bi bj ba ac;refine go ?_;replace aa:=aa.grow ba;refine Z8 [1,1000000] (fun n f av=>∃ aw ax ay ad,ad=n∧Zc9 N ab ad ax ay=some r∧St w0 (Zj col) aw av∧Zk 27 1 aw av a7 #[.string ab.1,.slice am ab.2.1.length ai,.slice an ab.2.2.1.length aj,.slice ao ab.2.2.2.1.length ak,.slice ap ab.2.2.2.2.length al]∧[3,4].map f=[.int .i64 ax,.int .i64 ay]) N ⟨_,1,0,_,rfl,hm,aa,ac,rfl⟩ ?_;clear hm;intro n f av hI;obtain ⟨aw,ax,ay,ad,hn,hm,aa,ac,hs⟩:=hI;subst hn;refine .lL [3,4] hs ?_;replace ar:=ar.keep (Zl.start col w0);replace af:=af.keep (Zl.start col w0);replace au:=au.keep (Zl.start col w0);replace ag:=ag.keep (Zl.start col w0)
 cases ad with
 | zero=>rw [Zc9.eq_1] at hm;cases hm
 | succ ad=>
  rw [Zc9.eq_2] at hm;refine go ?_;refine Xu ac ?_;refine go ?_;refine Zr hm (fun hb hm=>go ?_) fun hb hm=>go ?_
  ·refine Xu ac<|Yd rfl ?_;obtain ⟨az,a0,hm⟩:=bZ hm;refine lI a0 ((af.ks aa).addr a0) ?_;obtain ⟨_,bb,bc⟩:=(af.ks aa).atN a0;obtain ⟨⟨bk,bm,rfl,bn⟩,_⟩:=bb;refine lW bc.one<|go ?_;refine lV (.int .i64 (if (az.length:Int)>1 then (az.length:Int) else 1)) (Z12 1 (az.length:Int) rfl rfl)<|go ?_;refine Zr hm (fun hb hm=>go ?_) fun hb hm=>go ?_
   ·cases hm;exact ⟨rfl,rfl,aa.below⟩
   exact ⟨ad,by omega,rfl,⟨_,_,_,_,rfl,hm,aa,ac,rfl⟩⟩
  refine Z8 [1,1000000] (fun n f aq=>∃ ah a1 a2 ae,ae=n∧Zda N ab ae a1 a2=some r∧St w0 (Zj col) ah aq∧Zk 27 1 ah aq a7 #[.string ab.1,.slice am ab.2.1.length ai,.slice an ab.2.2.1.length aj,.slice ao ab.2.2.2.1.length ak,.slice ap ab.2.2.2.2.length al]∧[5,6].map f=[.int .i64 a1,.int .i64 a2]) N ⟨_,0,0,_,rfl,hm,aa,ac,rfl⟩ ?_;clear hm;intro n f aq hI;obtain ⟨ah,a1,a2,ae,hn,hm,aa,ac,hs⟩:=hI;subst hn;refine .lL [5,6] hs ?_
  cases ae with
  | zero=>rw [Zda.eq_1] at hm;cases hm
  | succ ae=>
   rw [Zda.eq_2] at hm;refine go ?_;refine Xu ac ?_;refine go ?_;refine Zr hm (fun hb hm=>go ?_) fun hb hm=>?_
   ·refine Xu ac<|Yd rfl ?_;obtain ⟨bo,a3,hm⟩:=bZ hm;refine lI a3 ((ag.ks aa).addr a3) ?_;obtain ⟨_,bd,be⟩:=(ag.ks aa).atN a3;obtain ⟨⟨bp,bq,rfl,br⟩,_⟩:=bd;refine lW be.one<|go ?_;exact ⟨ae,by omega,rfl,⟨_,_,_,_,rfl,hm,aa,ac,rfl⟩⟩
   refine Zeb (Zcv ?_);refine Zw ?_;refine Wp.cutK [1000000] (fun f a8=>∃ a9 a4,Zkf a4=some r∧St w0 (Zj col) a9 a8∧[2].map f=[.bool a4]) ?_ ?_
   ·intro f a8 hJ;obtain ⟨a9,a4,hm,aa,hs⟩:=hJ;rw [Zkf.eq_1] at hm;refine .lL [2] hs<|W7 ?_;cases hm;exact ⟨rfl,rfl,aa.below⟩
   refine go ?_;refine X1 hm (fun a5 hm=>go ?_) fun a5 hm=>go ?_
   ·refine lV (.bool true) (Xs (congrArg Value.bool a5) rfl)<|go ?_;exact ⟨rfl,_,_,hm,aa,rfl⟩
   refine lV _ (Xh isAgg27 sizeOf27 ac)<|go ?_;obtain ⟨bf,bg,hm⟩:=bZ hm;refine Zh (Zxr bg (ar.ks aa) (af.ks aa) (au.ks aa) (ag.ks aa)) ?_;rintro _ bh ⟨rfl,a6⟩;refine ⟨_,rfl,?_⟩;replace a6:Zi ah aq ah bh:=.of_below a6;refine go ?_;refine lV (.bool (decide (6000<bf))) (Xl (congrArg Value.bool a5) rfl)<|go ?_;replace aa:=aa.grow a6;exact ⟨rfl,_,_,hm,aa,rfl⟩
/-! which networks are gone through -/
theorem Zsd {N:Nat} {n:Zy} (hb:∀ t ∈ n.2.2.2.2,t.length≤1048576∧∀ x ∈ t,x.1.2.length≤1048576∧x.2.length≤1048576) (hl:n.2.2.2.2.length≤1048576) (hN:1048577<N):∀ (f i:Nat) (s:Int),0≤s→s≤1048576 * (i:Int)→i≤n.2.2.2.2.length→n.2.2.2.2.length<f+i→∃ r,Zda N n f s (i:Int)=some r
 | 0,i,s,_,_,h1,h2=>by omega
 | f+1,i,s,s1,s2,h1,h2=>by
  rw [Zda.eq_2]
  by_cases hi:i<n.2.2.2.2.length
  ·have ht:=hb _ (List.getElem_mem hi)
   rw [if_pos (dT (by omega)),Xg hi,oB,Z2 (x:=s+_) (by omega),wS (by omega)]
   exact Zsd hb hl hN f (i+1) _ (by omega) (by omega) (by omega) (by omega)
  ·rw [if_neg (dF (by omega))]
   by_cases h3:3000<s
   ·rw [if_pos (dT h3)];exact ⟨_,rfl⟩
   ·rw [if_neg (dF h3)]
    obtain ⟨r,hr⟩:=Zr5 (N:=N) hb hl hN N 0 0 (by omega) (by omega) (Nat.zero_le _) (by omega)
    have hr':Zkv N (n.1,n.2.1,n.2.2.1,n.2.2.2.1,n.2.2.2.2)=some r:=hr
    rw [hr',oB];exact ⟨_,rfl⟩
theorem Zsc {N W:Nat} {n:Zy} (hf:Ya N n) (hs:Ws n W) (hb:∀ t ∈ n.2.2.2.2,t.length≤1048576∧∀ x ∈ t,x.1.2.length≤1048576∧x.2.length≤1048576) (hN:1048577<N):∀ (f v c:Nat),v≤n.2.1.length→c≤600→n.2.1.length<f+v→∃ r,Zc9 N n f (c:Int) (v:Int)=some r∧(r=false→c * Zo ((Zf n).drop v)≤600)
 | 0,v,c,h1,h2,h3=>by omega
 | f+1,v,c,h1,h2,h3=>by
  have hv:=hf.ev.v;have hle:=hf.le;have ht:=hf.ev.t
  have hsz:(Zf n).length=n.2.1.length:=by rw [Zf,List.length_map,hv]
  rw [Zc9.eq_2]
  by_cases hk:v<n.2.1.length
  ·have hk1:v<n.2.2.1.length:=by omega
   have hl:=hs.vl _ (List.getElem_mem hk1)
   have hne:=List.length_pos_iff.2 (hf.ev.ne _ (List.getElem_mem hk1))
   have hm:c * n.2.2.1[v].length≤600 * 1048576:=Nat.mul_le_mul h2 hl
   have e0:(if (n.2.2.1[v].length:Int)>1 then (n.2.2.1[v].length:Int) else 1)=(n.2.2.1[v].length:Int):=by
    split <;> omega
   have e:(c:Int) * (n.2.2.1[v].length:Int)=((c * n.2.2.1[v].length:Nat):Int):=(Int.natCast_mul _ _).symm
   have hdr:(Zf n).drop v=n.2.2.1[v].length :: (Zf n).drop (v+1):=by
    rw [List.drop_eq_getElem_cons (by omega)]
    simp only [Zf,List.getElem_map]
   rw [if_pos (dT (by omega)),Xg hk1,oB,e0,e,Z2 (by omega)]
   by_cases h4:600<((c * n.2.2.1[v].length:Nat):Int)
   ·rw [if_pos (dT h4)];exact ⟨_,rfl,fun h=>Bool.noConfusion h⟩
   ·rw [if_neg (dF h4),wS (by omega)]
    obtain ⟨r,r1,r2⟩:=Zsc hf hs hb hN f (v+1) (c * n.2.2.1[v].length) (by omega) (by omega) (by omega)
    exact ⟨r,r1,fun h=>by rw [hdr,Zo,← Nat.mul_assoc];exact r2 h⟩
  ·rw [if_neg (dF (by omega))]
   obtain ⟨r,hr⟩:=Zsd (N:=N) hb (by omega) hN N 0 0 (by omega) (by omega) (Nat.zero_le _) (by omega)
   exact ⟨r,hr,fun _=>by rw [List.drop_eq_nil_of_le (by omega),Zo,Nat.mul_one];exact h2⟩
theorem Zyk {N W:Nat} {n:Zy} (hs:Ws n W) (hr:Xm N (8 * W+40)) (hN:2000000<N):∃ e,U2 N n=some e∧(e=0→Ya N n):=by
 have hnm:=hs.nm
 rw [U2]
 by_cases hv:n.2.2.1.length=n.2.1.length
 ·by_cases hp:n.2.2.2.1.length=n.2.1.length
  ·by_cases ht:n.2.2.2.2.length=n.2.1.length
   ·rw [if_neg (by rw [decide_eq_true (by omega)];decide),if_neg (by rw [decide_eq_true (by omega)];decide),show (!decide ((n.2.2.2.2.length:Int)=(n.2.1.length:Int)))=false by rw [decide_eq_true (by omega)];rfl,Qz,if_neg (show ¬ (false=true) by decide)]
    by_cases hk:1024<n.2.1.length
    ·rw [if_pos (dT (by omega))]
     exact ⟨4,rfl,fun h=>by cases h⟩
    ·rw [if_neg (dF (by omega))]
     have nn:Zdd (n.1,n.2.1,n.2.2.1,n.2.2.2.1,n.2.2.2.2)=some (Q7 n.2.1 n.2.2.1 n.2.1.length 0):=Zsv n hv
     rw [nn,oB]
     by_cases hnms:Q7 n.2.1 n.2.2.1 n.2.1.length 0=0
     ·rw [if_neg (by rw [decide_eq_true hnms];decide)]
      have hne:∀ l ∈ n.2.2.1,l≠[]:=fun l hl=>by
       obtain ⟨i,hi,rfl⟩:=List.mem_iff_getElem.1 hl
       have:=(Zsx _ 0 hnms i (by omega) (by omega)).1
       rw [Yu hi] at this;exact this
      have fin:∀ e,S0 N n.2.2.2.1=some e→e≠0→∃ e,((S0 N n.2.2.2.1).bind fun r_17=>if (!decide (r_17=0))=true then some r_17 else Zau N n n.2.2.2.2 0)=some e∧(e=0→Ya N n):=fun e h1 h3=>by
       rw [h1,oB,if_pos (by rw [decide_eq_false h3];decide)]
       exact ⟨e,rfl,fun h=>absurd h h3⟩
      rcases Zvj hs.pn hN with ⟨e,D,R,h3⟩ | ⟨_,_,l,_,_,_,_,D,R⟩ | ⟨hI,hT,l,ho,hok,hmx,hle,D,R⟩
      ·exact fin e (by rw [S0,D];rfl) (by rcases h3 with h | h <;> omega)
      ·exact fin 42 (by rw [S0,D];rfl) (by decide)
      ·have D':S0 N n.2.2.2.1=some 0:=by rw [S0,D];rfl
       have he:Tr n:=⟨hv,hp,ht,hI,hne⟩
       have ms:=Zns (N:=N) hs he n.2.2.2.2 0 (by simp) (by omega)
       rw [D',oB,if_neg (by decide),ms,ht]
       by_cases hsh:Tp n.2.2.1 n.2.2.2.1 n.2.2.2.2 n.2.1.length 0=0
       ·have me:=Znp (N:=N) (n:=n) (W:=W) (hr.mono (by omega)) n.2.2.2.2 (fun t h=>⟨hs.tl t h,hs.tq t h,hs.lim t h⟩)
        rw [if_pos hsh,me]
        by_cases hen:Zag n.2.2.2.2=true
        ·rw [if_pos hen]
         exact ⟨45,rfl,fun h=>by cases h⟩
        ·have m6:=Znt (N:=N) hs he hsh hr (by omega) n.2.2.2.2 0 (by simp) (by omega)
         rw [if_neg hen,m6,ht]
         exact ⟨_,rfl,fun h=>⟨he,by omega,hnms,hsh,Bool.eq_false_iff.2 hen,h,hT,l,D,ho,R,hok,hle⟩⟩
       ·rw [if_neg hsh]
        exact ⟨_,rfl,fun h=>absurd h hsh⟩
     ·rw [if_pos (by rw [decide_eq_false hnms];decide)]
      exact ⟨_,rfl,fun h=>absurd h hnms⟩
   ·rw [if_neg (by rw [decide_eq_true (by omega)];decide),if_neg (by rw [decide_eq_true (by omega)];decide),decide_eq_false (by omega),Qz,if_pos (by decide)]
    exact ⟨60,rfl,fun h=>by cases h⟩
  ·rw [if_neg (by rw [decide_eq_true (by omega)];decide),if_pos (by rw [decide_eq_false (by omega)];decide),Qz,if_pos rfl]
   exact ⟨60,rfl,fun h=>by cases h⟩
 ·rw [if_pos (by rw [decide_eq_false (by omega)];decide),Qz,if_pos rfl]
  exact ⟨60,rfl,fun h=>by cases h⟩
theorem Zy6:Y4 prog 3 1 8:=⟨Tryz.t3,_,rfl,rfl,rfl,rfl,rfl⟩
def Zh4 (N:Nat):Option R0:=
  (Q3 N 4 5).bind fun aa=>(Q3 N 1 5).bind fun ab=>(Q3 N 9 10).bind fun ac=>(Q3 N 1 10).bind fun ad=>(Q3 N 1 10).bind fun ae=>(Q3 N 9 10).bind fun af=>some (⟨#[114,97,105,110]⟩,([⟨#[114,97,105,110]⟩,⟨#[103,114,97,115,115]⟩]:List ByteArray),([([⟨#[110,111]⟩,⟨#[121,101,115]⟩]:List ByteArray),([⟨#[100,114,121]⟩,⟨#[119,101,116]⟩]:List ByteArray)]:List R5),[([]:List Int),[0]],[[((aa.1.1,aa.1.2),aa.2),((ab.1.1,ab.1.2),ab.2)],[((ac.1.1,ac.1.2),ac.2),((ad.1.1,ad.1.2),ad.2),((ae.1.1,ae.1.2),ae.2),((af.1.1,af.1.2),af.2)]])
theorem Zml {N:Nat} {col:Zd} {w0:World} {r:R0} (c1 c2 c3 c4:Nat) (hm:Zh4 N=some r):
    Calls prog 172 #[] w0 (fun e w'=>∃ (col':Zd) (ra1:Option Addr) (rc2:Nat) (ra4:Option Addr) (rc5:Nat) (ra7:Option Addr) (rc8:Nat) (ra10:Option Addr) (rc11:Nat),e= .returned ((.agg #[.string r.1,.slice ra1 r.2.1.length rc2,.slice ra4 r.2.2.1.length rc5,.slice ra7 r.2.2.2.1.length rc8,.slice ra10 r.2.2.2.2.length rc11]))∧Zi col w0 col' w'∧Zc Za.str 9 c1 col' w' ra1 rc2 r.2.1∧Zc (Za.row 9 Za.str) 22 c2 col' w' ra4 rc5 r.2.2.1∧Zc (Za.row 3 (Za.int .i64)) 40 c3 col' w' ra7 rc8 r.2.2.2.1∧Zc (Za.row 47 (Za.pair (Za.pair Za.bool (Za.row 79 (Za.int .u32))) (Za.row 79 (Za.int .u32)))) 56 c4 col' w' ra10 rc11 r.2.2.2.2):=by
 refine Wi (m:=18) func172 rfl rfl rfl ?_;rw [Zh4.eq_1] at hm;have aa:=St.start col w0;refine go ?_;refine Xr (col:=(Zj col)) #[.string (⟨#[]⟩),.slice none (([]:List ByteArray).length) 0,.slice none (([]:List R5).length) 0,.slice none (([]:List R2).length) 0,(.slice none (([]:List R8).length) 0)] 1 zeroValue27 ?_;intro ed ee cw cx ab;refine go ?_;refine Znf (col:=cw) ([⟨#[114,97,105,110]⟩,⟨#[103,114,97,115,115]⟩]:List ByteArray) 2 ?_;intro cy ef cz cq ac;refine Znf (col:=cz) ([⟨#[110,111]⟩,⟨#[121,101,115]⟩]:List ByteArray) 3 ?_;intro bc eg c0 bd be;refine Znf (col:=c0) ([⟨#[100,114,121]⟩,⟨#[119,101,116]⟩]:List ByteArray) 4 ?_;intro bf cr bg a8 c5;replace be:=be.gr a8;have c6:Xp (Za.row 9 Za.str) 3 bg cr [.slice bc (([⟨#[110,111]⟩,⟨#[121,101,115]⟩]:List ByteArray).length) 2] ([⟨#[110,111]⟩,⟨#[121,101,115]⟩]:List ByteArray):=be.has;have c7:Xp (Za.row 9 Za.str) 4 bg cr [.slice bf (([⟨#[100,114,121]⟩,⟨#[119,101,116]⟩]:List ByteArray).length) 2] ([⟨#[100,114,121]⟩,⟨#[119,101,116]⟩]:List ByteArray):=c5.has;have c8:=Yt.cons (cs:=[.slice bc (([⟨#[110,111]⟩,⟨#[121,101,115]⟩]:List ByteArray).length) 2]) c6 (Yt.cons1 (cs:=[.slice bf (([⟨#[100,114,121]⟩,⟨#[119,101,116]⟩]:List ByteArray).length) 2]) c7 Rows.nil0) (by decide) (by decide);replace ac:=(ac.gr bd).gr a8;replace ac:=ac.recol 3 4 (by decide);replace ab:=((ab.gr cq).gr bd).gr a8;replace ab:=ab.recol 3 4 (by decide);replace aa:=(((aa.grow cx).grow cq).grow bd).grow a8;replace aa:=aa.recol 3 4 (by decide) (by decide);refine Uh (col:=(Xf 3 4 bg)) (r:=(Za.row 9 Za.str)) (xs:=([([⟨#[110,111]⟩,⟨#[121,101,115]⟩]:List ByteArray),([⟨#[100,114,121]⟩,⟨#[119,101,116]⟩]:List ByteArray)]:List R5)) [.slice bc (([⟨#[110,111]⟩,⟨#[121,101,115]⟩]:List ByteArray).length) 2,.slice bf (([⟨#[100,114,121]⟩,⟨#[119,101,116]⟩]:List ByteArray).length) 2] 4 c8 ?_;intro c9 eh da bh ad;refine Zg4 (col:=da) (r:=(Za.int .i64)) 5 rfl underlying40 Zy6 rfl ?_;intro bi ei db a9 bj;refine Vr (col:=db) [0] 6 ?_;intro bk ct bm a0 dc;replace bj:=bj.gr a0;have dd:Xp (Za.row 3 (Za.int .i64)) 5 bm ct [.slice bi (([]:List Int).length) 0] ([]:List Int):=bj.has;have de:Xp (Za.row 3 (Za.int .i64)) 6 bm ct [.slice bk ([0].length) 1] [0]:=dc.has;have df:=Yt.cons (cs:=[.slice bi (([]:List Int).length) 0]) dd (Yt.cons1 (cs:=[.slice bk ([0].length) 1]) de Rows.nil0) (by decide) (by decide);replace ac:=((ac.gr bh).gr a9).gr a0
 replace ac:=ac.recol 5 6 (by decide);replace ad:=(ad.gr a9).gr a0;replace ad:=ad.recol 5 6 (by decide);replace ab:=((ab.gr bh).gr a9).gr a0;replace ab:=ab.recol 5 6 (by decide);replace aa:=((aa.grow bh).grow a9).grow a0;replace aa:=aa.recol 5 6 (by decide) (by decide);refine Uh (col:=(Xf 5 6 bm)) (r:=(Za.row 3 (Za.int .i64))) (xs:=[([]:List Int),[0]]) [.slice bi (([]:List Int).length) 0,.slice bk ([0].length) 1] 6 df ?_;intro dg ej dh ba ak;obtain ⟨ae,di,hm⟩:=bZ hm;refine Zh (Zeo (col:=dh) 7 8 di) ?_;rintro _ ek ⟨dj,bn,bo,bp,bq,rfl,a1,br,bs⟩;refine ⟨_,rfl,?_⟩;obtain ⟨af,dk,hm⟩:=bZ hm;refine Zh (Zeo (col:=dj) 9 10 dk) ?_;rintro _ cu ⟨bt,bu,bv,bw,bx,rfl,aq,bz,b0⟩;refine ⟨_,rfl,?_⟩;replace br:=br.gr aq;replace bs:=bs.gr aq;have dl:=Xp.join (Xp.joinL (Sp ae.1.1) br.has) bs.has (by decide) (by decide);replace ac:=((ac.gr ba).gr a1).gr aq;replace ac:=ac.recol 8 7 (by decide);replace ad:=((ad.gr ba).gr a1).gr aq;replace ad:=ad.recol 8 7 (by decide);replace ak:=(ak.gr a1).gr aq;replace ak:=ak.recol 8 7 (by decide);replace bz:=bz.recol 8 7 (by decide);replace b0:=b0.recol 8 7 (by decide);replace ab:=((ab.gr ba).gr a1).gr aq;replace ab:=ab.recol 8 7 (by decide);replace aa:=((aa.grow ba).grow a1).grow aq;replace aa:=aa.recol 8 7 (by decide) (by decide);have b1:Xp (Za.pair (Za.pair Za.bool (Za.row 79 (Za.int .u32))) (Za.row 79 (Za.int .u32))) 7 (Xf 8 7 bt) cu [.bool ae.1.1,.slice bn ae.1.2.length bo,.slice bp ae.2.length bq] ((ae.1.1,ae.1.2),ae.2):=dl;have dm:=Xp.join (Xp.joinL (Sp af.1.1) bz.has) b0.has (by decide) (by decide);replace ac:=ac.recol 10 9 (by decide);replace ad:=ad.recol 10 9 (by decide);replace ak:=ak.recol 10 9 (by decide);replace ab:=ab.recol 10 9 (by decide);replace aa:=aa.recol 10 9 (by decide) (by decide);replace b1:=b1.recol 10 9 (by decide);have dn:Xp (Za.pair (Za.pair Za.bool (Za.row 79 (Za.int .u32))) (Za.row 79 (Za.int .u32))) 9 (Xf 10 9 (Xf 8 7 bt)) cu [.bool af.1.1,.slice bu af.1.2.length bv,.slice bw af.2.length bx] ((af.1.1,af.1.2),af.2):=dm;have dp:=Yt.cons (cs:=[.bool ae.1.1,.slice bn ae.1.2.length bo,.slice bp ae.2.length bq]) b1 (Yt.cons1 (cs:=[.bool af.1.1,.slice bu af.1.2.length bv,.slice bw af.2.length bx]) dn Rows.nil0) (by decide) (by decide);replace ac:=ac.recol 7 9 (by decide);replace ad:=ad.recol 7 9 (by decide)
 replace ak:=ak.recol 7 9 (by decide);replace ab:=ab.recol 7 9 (by decide);replace aa:=aa.recol 7 9 (by decide) (by decide);refine Uh (col:=(Xf 7 9 (Xf 10 9 (Xf 8 7 bt)))) (r:=(Za.pair (Za.pair Za.bool (Za.row 79 (Za.int .u32))) (Za.row 79 (Za.int .u32)))) (xs:=[((ae.1.1,ae.1.2),ae.2),((af.1.1,af.1.2),af.2)]) [(.agg #[.bool ae.1.1,.slice bn ae.1.2.length bo,.slice bp ae.2.length bq]),(.agg #[.bool af.1.1,.slice bu af.1.2.length bv,.slice bw af.2.length bx])] 9 dp ?_;intro b2 el dq a2 al;obtain ⟨ag,dr,hm⟩:=bZ hm;refine Zh (Zeo (col:=dq) 11 12 dr) ?_;rintro _ em ⟨ds,b3,b4,b5,b6,rfl,ay,b7,b8⟩;refine ⟨_,rfl,?_⟩;obtain ⟨ah,dt,hm⟩:=bZ hm;refine Zh (Zeo (col:=ds) 13 14 dt) ?_;rintro _ en ⟨du,b9,ca,cb,cc,rfl,ap,a3,a4⟩;refine ⟨_,rfl,?_⟩;obtain ⟨ai,dv,hm⟩:=bZ hm;refine Zh (Zeo (col:=du) 15 16 dv) ?_;rintro _ eo ⟨dw,cd,ce,cf,cg,rfl,ao,ar,au⟩;refine ⟨_,rfl,?_⟩;obtain ⟨aj,dx,hm⟩:=bZ hm;refine Zh (Zeo (col:=dw) 17 18 dx) ?_;rintro _ bb ⟨a5,ch,ci,cj,ck,rfl,am,av,aw⟩;refine ⟨_,rfl,?_⟩;replace b7:=((b7.gr ap).gr ao).gr am;replace b8:=((b8.gr ap).gr ao).gr am;have dy:=Xp.join (Xp.joinL (Sp ag.1.1) b7.has) b8.has (by decide) (by decide);replace ac:=((((ac.gr a2).gr ay).gr ap).gr ao).gr am;replace ac:=ac.recol 12 11 (by decide);replace ad:=((((ad.gr a2).gr ay).gr ap).gr ao).gr am;replace ad:=ad.recol 12 11 (by decide);replace ak:=((((ak.gr a2).gr ay).gr ap).gr ao).gr am;replace ak:=ak.recol 12 11 (by decide);replace al:=(((al.gr ay).gr ap).gr ao).gr am;replace al:=al.recol 12 11 (by decide);replace a3:=(a3.gr ao).gr am;replace a3:=a3.recol 12 11 (by decide);replace a4:=(a4.gr ao).gr am;replace a4:=a4.recol 12 11 (by decide);replace ar:=ar.gr am;replace ar:=ar.recol 12 11 (by decide);replace au:=au.gr am;replace au:=au.recol 12 11 (by decide);replace av:=av.recol 12 11 (by decide);replace aw:=aw.recol 12 11 (by decide);replace ab:=((((ab.gr a2).gr ay).gr ap).gr ao).gr am;replace ab:=ab.recol 12 11 (by decide);replace aa:=((((aa.grow a2).grow ay).grow ap).grow ao).grow am;replace aa:=aa.recol 12 11 (by decide) (by decide)
 have an:Xp (Za.pair (Za.pair Za.bool (Za.row 79 (Za.int .u32))) (Za.row 79 (Za.int .u32))) 11 (Xf 12 11 a5) bb [.bool ag.1.1,.slice b3 ag.1.2.length b4,.slice b5 ag.2.length b6] ((ag.1.1,ag.1.2),ag.2):=dy;have dz:=Xp.join (Xp.joinL (Sp ah.1.1) a3.has) a4.has (by decide) (by decide);replace ac:=ac.recol 14 13 (by decide);replace ad:=ad.recol 14 13 (by decide);replace ak:=ak.recol 14 13 (by decide);replace al:=al.recol 14 13 (by decide);replace ar:=ar.recol 14 13 (by decide);replace au:=au.recol 14 13 (by decide);replace av:=av.recol 14 13 (by decide);replace aw:=aw.recol 14 13 (by decide);replace ab:=ab.recol 14 13 (by decide);replace aa:=aa.recol 14 13 (by decide) (by decide);replace an:=an.recol 14 13 (by decide);have ax:Xp (Za.pair (Za.pair Za.bool (Za.row 79 (Za.int .u32))) (Za.row 79 (Za.int .u32))) 13 (Xf 14 13 (Xf 12 11 a5)) bb [.bool ah.1.1,.slice b9 ah.1.2.length ca,.slice cb ah.2.length cc] ((ah.1.1,ah.1.2),ah.2):=dz;have d0:=Xp.join (Xp.joinL (Sp ai.1.1) ar.has) au.has (by decide) (by decide);replace ac:=ac.recol 16 15 (by decide);replace ad:=ad.recol 16 15 (by decide);replace ak:=ak.recol 16 15 (by decide);replace al:=al.recol 16 15 (by decide);replace av:=av.recol 16 15 (by decide);replace aw:=aw.recol 16 15 (by decide);replace ab:=ab.recol 16 15 (by decide);replace aa:=aa.recol 16 15 (by decide) (by decide);replace an:=an.recol 16 15 (by decide);replace ax:=ax.recol 16 15 (by decide);have cl:Xp (Za.pair (Za.pair Za.bool (Za.row 79 (Za.int .u32))) (Za.row 79 (Za.int .u32))) 15 (Xf 16 15 (Xf 14 13 (Xf 12 11 a5))) bb [.bool ai.1.1,.slice cd ai.1.2.length ce,.slice cf ai.2.length cg] ((ai.1.1,ai.1.2),ai.2):=d0;have d1:=Xp.join (Xp.joinL (Sp aj.1.1) av.has) aw.has (by decide) (by decide);replace ac:=ac.recol 18 17 (by decide);replace ad:=ad.recol 18 17 (by decide);replace ak:=ak.recol 18 17 (by decide);replace al:=al.recol 18 17 (by decide);replace ab:=ab.recol 18 17 (by decide);replace aa:=aa.recol 18 17 (by decide) (by decide);replace an:=an.recol 18 17 (by decide);replace ax:=ax.recol 18 17 (by decide);replace cl:=cl.recol 18 17 (by decide);have d2:Xp (Za.pair (Za.pair Za.bool (Za.row 79 (Za.int .u32))) (Za.row 79 (Za.int .u32))) 17 (Xf 18 17 (Xf 16 15 (Xf 14 13 (Xf 12 11 a5)))) bb [.bool aj.1.1,.slice ch aj.1.2.length ci,.slice cj aj.2.length ck] ((aj.1.1,aj.1.2),aj.2):=d1
 have d3:=Yt.cons (cs:=[.bool ai.1.1,.slice cd ai.1.2.length ce,.slice cf ai.2.length cg]) cl (Yt.cons1 (cs:=[.bool aj.1.1,.slice ch aj.1.2.length ci,.slice cj aj.2.length ck]) d2 Rows.nil0) (by decide) (by decide);replace an:=an.recol 15 17 (by decide);replace ax:=ax.recol 15 17 (by decide);replace ac:=ac.recol 15 17 (by decide);replace ad:=ad.recol 15 17 (by decide);replace ak:=ak.recol 15 17 (by decide);replace al:=al.recol 15 17 (by decide);replace ab:=ab.recol 15 17 (by decide);replace aa:=aa.recol 15 17 (by decide) (by decide);have d4:=Yt.cons (cs:=[.bool ah.1.1,.slice b9 ah.1.2.length ca,.slice cb ah.2.length cc]) ax d3 (by decide) (by decide);replace an:=an.recol 13 17 (by decide);replace ac:=ac.recol 13 17 (by decide);replace ad:=ad.recol 13 17 (by decide);replace ak:=ak.recol 13 17 (by decide);replace al:=al.recol 13 17 (by decide);replace ab:=ab.recol 13 17 (by decide);replace aa:=aa.recol 13 17 (by decide) (by decide);have d5:=Yt.cons (cs:=[.bool ag.1.1,.slice b3 ag.1.2.length b4,.slice b5 ag.2.length b6]) an d4 (by decide) (by decide);replace ac:=ac.recol 11 17 (by decide);replace ad:=ad.recol 11 17 (by decide);replace ak:=ak.recol 11 17 (by decide);replace al:=al.recol 11 17 (by decide);replace ab:=ab.recol 11 17 (by decide);replace aa:=aa.recol 11 17 (by decide) (by decide);refine Uh (col:=(Xf 11 17 (Xf 13 17 (Xf 15 17 (Xf 18 17 (Xf 16 15 (Xf 14 13 (Xf 12 11 a5)))))))) (r:=(Za.pair (Za.pair Za.bool (Za.row 79 (Za.int .u32))) (Za.row 79 (Za.int .u32)))) (xs:=[((ag.1.1,ag.1.2),ag.2),((ah.1.1,ah.1.2),ah.2),((ai.1.1,ai.1.2),ai.2),((aj.1.1,aj.1.2),aj.2)]) [(.agg #[.bool ag.1.1,.slice b3 ag.1.2.length b4,.slice b5 ag.2.length b6]),(.agg #[.bool ah.1.1,.slice b9 ah.1.2.length ca,.slice cb ah.2.length cc]),(.agg #[.bool ai.1.1,.slice cd ai.1.2.length ce,.slice cf ai.2.length cg]),(.agg #[.bool aj.1.1,.slice ch aj.1.2.length ci,.slice cj aj.2.length ck])] 17 d5 ?_;intro cn cv co az d6;replace al:=al.gr az;have d7:Xp (Za.row 47 (Za.pair (Za.pair Za.bool (Za.row 79 (Za.int .u32))) (Za.row 79 (Za.int .u32)))) 9 co cv [.slice b2 ([((ae.1.1,ae.1.2),ae.2),((af.1.1,af.1.2),af.2)].length) 2] [((ae.1.1,ae.1.2),ae.2),((af.1.1,af.1.2),af.2)]:=al.has
 have d8:Xp (Za.row 47 (Za.pair (Za.pair Za.bool (Za.row 79 (Za.int .u32))) (Za.row 79 (Za.int .u32)))) 17 co cv [.slice cn ([((ag.1.1,ag.1.2),ag.2),((ah.1.1,ah.1.2),ah.2),((ai.1.1,ai.1.2),ai.2),((aj.1.1,aj.1.2),aj.2)].length) 4] [((ag.1.1,ag.1.2),ag.2),((ah.1.1,ah.1.2),ah.2),((ai.1.1,ai.1.2),ai.2),((aj.1.1,aj.1.2),aj.2)]:=d6.has;have d9:=Yt.cons (cs:=[.slice b2 ([((ae.1.1,ae.1.2),ae.2),((af.1.1,af.1.2),af.2)].length) 2]) d7 (Yt.cons1 (cs:=[.slice cn ([((ag.1.1,ag.1.2),ag.2),((ah.1.1,ah.1.2),ah.2),((ai.1.1,ai.1.2),ai.2),((aj.1.1,aj.1.2),aj.2)].length) 4]) d8 Rows.nil0) (by decide) (by decide);replace ac:=ac.gr az;replace ac:=ac.recol 9 17 (by decide);replace ad:=ad.gr az;replace ad:=ad.recol 9 17 (by decide);replace ak:=ak.gr az;replace ak:=ak.recol 9 17 (by decide);replace ab:=ab.gr az;replace ab:=ab.recol 9 17 (by decide);replace aa:=aa.grow az;replace aa:=aa.recol 9 17 (by decide) (by decide);refine Uh (col:=(Xf 9 17 co)) (r:=(Za.row 47 (Za.pair (Za.pair Za.bool (Za.row 79 (Za.int .u32))) (Za.row 79 (Za.int .u32))))) (xs:=[[((ae.1.1,ae.1.2),ae.2),((af.1.1,af.1.2),af.2)],[((ag.1.1,ag.1.2),ag.2),((ah.1.1,ah.1.2),ah.2),((ai.1.1,ai.1.2),ai.2),((aj.1.1,aj.1.2),aj.2)]]) [.slice b2 ([((ae.1.1,ae.1.2),ae.2),((af.1.1,af.1.2),af.2)].length) 2,.slice cn ([((ag.1.1,ag.1.2),ag.2),((ah.1.1,ah.1.2),ah.2),((ai.1.1,ai.1.2),ai.2),((aj.1.1,aj.1.2),aj.2)].length) 4] 17 d9 ?_;intro ea ep eq a6 cp;refine lV (.agg #[.string (⟨#[114,97,105,110]⟩),.slice cy (([⟨#[114,97,105,110]⟩,⟨#[103,114,97,115,115]⟩]:List ByteArray).length) 2,.slice c9 (([([⟨#[110,111]⟩,⟨#[121,101,115]⟩]:List ByteArray),([⟨#[100,114,121]⟩,⟨#[119,101,116]⟩]:List ByteArray)]:List R5).length) 2,.slice dg ([([]:List Int),[0]].length) 2,.slice ea ([[((ae.1.1,ae.1.2),ae.2),((af.1.1,af.1.2),af.2)],[((ag.1.1,ag.1.2),ag.2),((ah.1.1,ah.1.2),ah.2),((ai.1.1,ai.1.2),ai.2),((aj.1.1,aj.1.2),aj.2)]].length) 2]) (Wg (l:=[_,_,_,_,_]) (qs:=[(0,1),(1,1),(2,1),(3,1),(4,1)]) underlying27 zeroValue27 ⟨rfl,sizeOf9,rfl,sizeOf22,rfl,sizeOf23,rfl,sizeOf24,rfl,sizeOf25,trivial⟩ rfl) ?_;replace ab:=ab.gr a6;refine Z5 ab ?_;intro er a7 eb ec;refine go ?_;cases hm;replace ac:=(ac.gr a6).kp a7;replace ad:=(ad.gr a6).kp a7;replace ak:=(ak.gr a6).kp a7;replace aa:=(aa.grow a6).kp a7 eb
 replace cp:=cp.kp a7;exact ⟨rfl,_,ra ec.atN,_,_,2,_,2,_,2,_,2,rfl,aa.fin (cm [(2,c1),(4,c2),(6,c3),(17,c4)]),aa.fo ac,aa.fo ad,aa.fo ak,aa.fo cp⟩
def Zid (N:Nat):Nat→R2→Int→Int→Option R2
  | 0,_,_,_=>none
  | ae+1,ab,ac,aa=>if (decide (ac<aa))=true then ((Zq ab aa).bind fun af=>(Zq ab ac).bind fun ag=>(some (ab.set (Int.toNat ac) af)).bind fun ad=>(Zq ad aa).bind fun ai=>(some (ad.set (Int.toNat aa) ag)).bind fun ah=>(Zid N ae) ah (i64.wrap (ac+1)) (i64.wrap (aa - 1))) else (some ab)
termination_by structural x=>x
def Znm (N:Nat) (aa:List Int):Option R2:=
  Zid N N aa 0 (i64.wrap ((aa.length:Int) - 1))
theorem Zx7 {N aa:Nat} {a0:Option Addr} {col:Zd} {w0:World} {af r:R2} (qc0:Nat) (hm:Znm N af=some r) (hd:Te [qc0]=true) (h0:Zc (Za.int .u8) 5 qc0 col w0 a0 aa af):
    Calls prog 284 #[.slice a0 af.length aa] w0 (fun e w'=>∃ (col':Zd),e= .returned (.tuple #[])∧Zx (pS [qc0]) col w0 col' w'∧Zc (Za.int .u8) 5 qc0 col' w' a0 aa r∧r.length=af.length):=by
 refine Zcu (m:=28) (args:=[.slice a0 af.length aa]) func284 rfl rfl rfl rfl ?_;rw [Znm.eq_1] at hm;have ab:=St.startL (l:=[qc0]) rfl col w0;replace h0:=h0.startL (Zaf hd 0 rfl) (Zae hd 0 rfl);refine go ?_;refine Z8 [1000000] (fun n f au=>∃ ac ad an ao ai,ai=n∧Zid N ai ad an ao=some r∧St w0 (Xt [qc0] col) ac au∧Zc (Za.int .u8) 5 440 ac au a0 aa ad∧ad.length=af.length∧ad.length=af.length∧[0,2,3].map f=[.slice a0 ad.length aa,.int .i64 an,.int .i64 ao]) N ⟨_,_,0,_,_,rfl,hm,ab,h0,rfl,rfl,rfl⟩ ?_;clear hm;intro n f au hI;obtain ⟨ac,ad,an,ao,ai,hn,hm,ab,ag,ay,az,hs⟩:=hI;subst hn;refine .lL [0,2,3] hs ?_
 cases ai with
 | zero=>rw [Zid.eq_1] at hm;cases hm
 | succ ai=>
  rw [Zid.eq_2] at hm;refine go ?_;refine Zr hm (fun hb hm=>go ?_) fun hb hm=>go ?_
  ·refine Wk (col:=ac) [(0,1),(1,1),(2,1),(3,1),(4,1),(5,1),(6,1),(7,0),(8,1),(9,1),(10,1),(11,0),(12,1),(13,2),(14,1),(15,2)] (by kernel_rfl) (by kernel_rfl)<|xu rfl rfl (fun _=>Vt rfl) ?_;refine xu rfl rfl (fun _=>Yw rfl) ?_;refine xu rfl rfl (fun _=>Vt rfl) ?_;refine xu rfl rfl (fun _=>Yw rfl) ?_;refine xu rfl rfl (fun _=>Vt rfl) ?_;refine xu rfl rfl (fun _=>Yw rfl) ?_;obtain ⟨av,ap,hm⟩:=bZ hm;refine xu rfl rfl (fun _=>Y9 underlying217 sizeOf5 rfl rfl (Xj ap).1 (Xj ap).2.1 (ag.addr ap)) ?_;refine xW (fun _ hC=>(ag.gr (hC.bl ac)).atInt ap) ?_;refine xu rfl rfl (fun _=>Vt rfl) ?_;refine xu rfl rfl (fun _=>Yw rfl) ?_;obtain ⟨aw,ah,hm⟩:=bZ hm;refine xu rfl rfl (fun _=>Y9 underlying217 sizeOf5 rfl rfl (Xj ah).1 (Xj ah).2.1 (ag.addr ah)) ?_;refine xW (fun _ hC=>(ag.gr (hC.bl ac)).atInt ah) ?_;refine xu rfl rfl (fun _=>Y9 underlying217 sizeOf5 rfl rfl (Xj ah).1 (Xj ah).2.1 (ag.addr ah)) ?_;refine xe rfl rfl ?_;intro a6 hC0;have hC:=hC0.bl ac;obtain ⟨ae,aj,hm⟩:=bZ hm;have aj:ae=ad.set (Int.toNat an) av:=(Option.some.inj aj).symm;replace ag:=ag.gr hC;refine Wd (x1:=av) ag ah ?_;intro a7 a1 a2 ak;rw [← aj] at ak;have a3:ae.length=af.length:=(show ad.length=ae.length by rw [aj,nS]).symm.trans ay;refine .ld (d:=0) (v:=(.slice a0 ae.length aa)) (congrArg (fun n=>Value.slice a0 n aa) (show ad.length=ae.length by rw [aj,nS])) ?_;refine .ld (d:=16) (v:=(.slice a0 ae.length aa)) (congrArg (fun n=>Value.slice a0 n aa) (show ad.length=ae.length by rw [aj,nS])) ?_;refine Zm<|xk ac ?_;obtain ⟨a8,aq,hm⟩:=bZ hm;refine xu rfl rfl (fun _=>Y9 underlying217 sizeOf5 rfl rfl (Xj aq).1 (Xj aq).2.1 (ak.addr aq)) ?_;refine xe rfl rfl ?_;intro a9 hC0;replace ab:=(ab.grow hC).kp a1 a2;have hC:=hC0.bl ac;obtain ⟨al,am,hm⟩:=bZ hm;have am:al=ae.set (Int.toNat ao) aw:=(Option.some.inj am).symm;replace ak:=ak.gr hC;refine Wd (x1:=aw) ak aq ?_;intro ba a4 a5 ar;rw [← am] at ar;have ax:al.length=af.length:=(show ae.length=al.length by rw [am,nS]).symm.trans a3;refine .ld (d:=0) (v:=(.slice a0 al.length aa)) (congrArg (fun n=>Value.slice a0 n aa) (show ae.length=al.length by rw [am,nS])) ?_;refine Zm<|xk ac<|Y7 ?_;replace ab:=(ab.grow hC).kp a4 a5;intro bb hC;replace hC:=hC.bl ac;refine go ?_;replace ar:=ar.gr hC;replace ab:=ab.grow hC
   exact ⟨ai,by omega,rfl,⟨_,_,_,_,_,rfl,hm,ab,ar,ax,ax,rfl⟩⟩
  cases hm;exact ⟨rfl,_,rfl,ab.finL rfl (cm [(440,qc0)]),ab.foL ag,az⟩
def Znl (ab:List Int) (aa:Int) (ac:Int) (kk_L2:(List Int→Int→Int→Option ByteArray)):Option ByteArray:=
  Zz ((ab.length+[u8.wrap (48+(u8.wrap (Int.tmod aa 10)))].length) * 1≤140737488355328∧ab.length+[u8.wrap (48+(u8.wrap (Int.tmod aa 10)))].length≤maxLen) (kk_L2 (ab++[u8.wrap (48+(u8.wrap (Int.tmod aa 10)))]) (u32.wrap (Int.tdiv aa 10)) (i64.wrap (ac+1)))
def Zhk (kk_L1:(List Int→R2→Option ByteArray)) (ab:List Int) (aa:List Int) (ac:Int) (ad:Int) (kk_L2:(List Int→Int→Int→Option ByteArray)) (ae:Bool):Option ByteArray:=
  if ae=true then (Znl aa ac ad kk_L2) else (kk_L1 ab aa)
def Zay (N:Nat) (kk_L1:(List Int→R2→Option ByteArray)) (aa:List Int):Nat→R2→Int→Int→Option ByteArray
  | 0,_,_,_=>none
  | ad+1,ae,ab,ac=>if (decide (ac<9))=true then (if (decide (0<(aa.length:Int)))=true then (Zhk kk_L1 aa ae ab ac (Zay N kk_L1 aa ad) true) else (Zhk kk_L1 aa ae ab ac (Zay N kk_L1 aa ad) (decide (0<ab)))) else (Zhk kk_L1 aa ae ab ac (Zay N kk_L1 aa ad) false)
termination_by structural x=>x
def Zax (N:Nat):Nat→R2→R2→Option ByteArray
  | 0,_,_=>none
  | ad+1,aa,ab=>if (decide (0<(aa.length:Int)))=true then ((Zfv N aa 1000000000).bind fun ac=>(Zb6 N ac.2).bind fun ae=>Zay N (Zax N ad) ae N ab ac.1 0) else ((Znm N ab).bind fun af=>some (Zeg af))
termination_by structural x=>x
def Zhj (N:Nat) (ab:List Int):Option ByteArray:=
  (V9 N ab).bind fun aa=>if (decide ((aa.length:Int)=0))=true then (some (⟨#[48]⟩)) else (Zax N N aa ([]:List Int))
theorem Zmh {N bc:Nat} {a0:Option Addr} {col:Zd} {w0:World} {a6:R2} {r:ByteArray} (hm:Zhj N a6=some r) (h0:Sl (Za.int .u32) col w0 a0 bc a6):
    Calls prog 251 #[.slice a0 a6.length bc] w0 (fun e w'=>e= .returned ((.string r))∧Below w0.heap.size w0 w'):=by
 refine Xk 2 (m:=45) func251 rfl rfl rfl rfl rfl ?_;rw [Zhj.eq_1] at hm;have aa:=St.start col w0;refine go ?_;obtain ⟨bw,bi,hm⟩:=bZ hm;replace h0:=h0.keep (Zl.start col w0);refine Zh (Tb 1 bi (h0.ks aa)) ?_;rintro _ bx ⟨bz,b0,b1,rfl,bj,bk⟩;refine ⟨_,rfl,go ?_⟩;replace aa:=aa.grow bj;refine Zr hm (fun hb hm=>go ?_) fun hb hm=>go ?_
 ·cases hm;exact ⟨rfl,rfl,aa.below⟩
 refine Z8 [1000000] (fun n f av=>∃ aw ah ai am aj ak an ad,ad=n∧Zax N ad am an=some r∧St w0 (Zj col) aw av∧Zc (Za.int .u32) 79 1 aw av ah ai am∧Zc (Za.int .u8) 5 2 aw av aj ak an∧[3,4].map f=[.slice ah am.length ai,.slice aj an.length ak]) N ⟨_,_,_,_,none,0,_,_,rfl,hm,aa,bk,Zc.nil,rfl⟩ ?_;clear hm;intro n f av hI;obtain ⟨aw,ah,ai,am,aj,ak,an,ad,hn,hm,aa,bm,ax,hs⟩:=hI;subst hn;refine .lL [3,4] hs ?_
 cases ad with
 | zero=>rw [Zax.eq_1] at hm;cases hm
 | succ ad=>
  rw [Zax.eq_2] at hm;refine go ?_;refine Zr hm (fun hb hm=>go ?_) fun hb hm=>go ?_
  ·obtain ⟨ay,bn,hm⟩:=bZ hm;refine Zh (Zpr 1 bn rfl bm) ?_;rintro _ b2 ⟨b3,rfl,bd,bo,be⟩;refine ⟨_,rfl,?_⟩;refine .ld (d:=3) (v:=(.slice ah ay.2.length ai)) (congrArg (fun n=>Value.slice ah n ai) (show am.length=ay.2.length from be.symm)) ?_;refine .ld (d:=15) (v:=(.slice ah ay.2.length ai)) (congrArg (fun n=>Value.slice ah n ai) (show am.length=ay.2.length from be.symm)) ?_;refine go ?_;obtain ⟨al,bp,hm⟩:=bZ hm;refine Zh (Zmi 1 bp rfl bo) ?_;rintro _ b4 ⟨b5,a7,a8,rfl,bf,ab⟩;refine ⟨_,rfl,go ?_⟩;replace ax:=(ax.kpp bd).kpp bf;replace aa:=(aa.kpp bd).kpp bf;refine Z8 [3,1000000] (fun n f az=>∃ a1 ao ap af ac aq ag,ag=n∧Zay N (Zax N ad) al ag af ac aq=some r∧St w0 (Zj col) a1 az∧Zc (Za.int .u32) 79 1 a1 az a7 a8 al∧Zc (Za.int .u8) 5 2 a1 az ao ap af∧[4,5,6].map f=[.slice ao af.length ap,.int .u32 ac,.int .i64 aq]) N ⟨_,_,_,_,_,0,_,rfl,hm,aa,ab,ax,rfl⟩ ?_;clear hm;intro n f az hI;obtain ⟨a1,ao,ap,af,ac,aq,ag,hn,hm,aa,ab,ae,hs⟩:=hI;subst hn;refine .lL [4,5,6] hs ?_
   cases ag with
   | zero=>rw [Zay.eq_1] at hm;cases hm
   | succ ag=>
    rw [Zay.eq_2] at hm;refine Zw ?_;refine Wp.cutK [3,4,5,6,1000000] (fun f a2=>∃ ar,Znl af ac aq (Zay N (Zax N ad) al ag)=some r∧St w0 (Zj col) ar a2∧Zc (Za.int .u32) 79 1 ar a2 a7 a8 al∧Zc (Za.int .u8) 5 2 ar a2 ao ap af) ?_ ?_
    ·intro f a2 hJ;obtain ⟨ar,hm,aa,ab,ae⟩:=hJ;rw [Znl.eq_1] at hm;refine go ?_;refine lV (.int .u32 (Int.tmod ac 10)) (Sn ac 10 rfl rfl (by decide))<|go ?_;refine Vr (col:=ar) [u8.wrap (48+(u8.wrap (Int.tmod ac 10)))] 3 ?_;intro b6 b7 b8 a9 bq;obtain ⟨br,hm⟩:=Z3 hm;replace ae:=ae.gr a9;refine Vq ae (bq.srcN (NB.int (k:=.u8))) br ?_;intro b9 ca cb cc bg bs;refine go ?_;refine lV (.int .u32 (u32.wrap (Int.tdiv ac 10))) (V2 ac 10 rfl rfl (by decide))<|go ?_;replace ab:=(ab.gr a9).kpp bg;replace aa:=(aa.grow a9).kpp bg;exact ⟨ag,by omega,rfl,⟨_,_,_,_,_,_,_,rfl,hm,aa,ab,bs,rfl⟩⟩
    refine Zw ?_;refine Wp.cutK [3,4,5,6,1000000] (fun f a3=>∃ a4 ba,Zhk (Zax N ad) al af ac aq (Zay N (Zax N ad) al ag) ba=some r∧St w0 (Zj col) a4 a3∧Zc (Za.int .u32) 79 1 a4 a3 a7 a8 al∧Zc (Za.int .u8) 5 2 a4 a3 ao ap af∧[29].map f=[.bool ba]) ?_ ?_
    ·intro f a3 hJ;obtain ⟨a4,ba,hm,aa,ab,ae,hs⟩:=hJ;rw [Zhk.eq_1] at hm;refine .lL [29] hs ?_;refine Zr hm (fun hb hm=>?_) fun hb hm=>go ?_
     ·refine X8 ?_;exact ⟨rfl,_,hm,aa,ab,ae⟩
     exact ⟨ad,by omega,rfl,⟨_,_,_,_,_,_,_,_,rfl,hm,aa,ab,ae,rfl⟩⟩
    refine go ?_;refine X1 hm (fun a5 hm=>go ?_) fun a5 hm=>go ?_
    ·refine X1 hm (fun bb hm=>go ?_) fun bb hm=>go ?_
     ·refine lV (.bool true) (Xs (congrArg Value.bool bb) rfl)<|lV (.bool true) (Xs (congrArg Value.bool a5) rfl)<|Zm ?_;exact ⟨rfl,_,_,hm,aa,ab,ae,rfl⟩
     refine lV (.bool (decide (0<ac))) (Xl (congrArg Value.bool bb) rfl)<|lV (.bool (decide (0<ac))) (Xs (congrArg Value.bool a5) rfl)<|Zm ?_;exact ⟨rfl,_,_,hm,aa,ab,ae,rfl⟩
    refine lpU 25 rfl rfl rfl rfl<|lpU 25 rfl rfl rfl rfl<|go ?_;refine lV (.bool false) (Xl (congrArg Value.bool a5) rfl)<|Zm ?_;exact ⟨rfl,_,_,hm,aa,ab,ae,rfl⟩
  obtain ⟨au,bt,hm⟩:=bZ hm;refine Zh (Zx7 2 bt rfl ax) ?_;rintro _ cd ⟨ce,rfl,bu,bv,bh⟩;refine ⟨_,rfl,?_⟩;refine .ld (d:=4) (v:=(.slice aj au.length ak)) (congrArg (fun n=>Value.slice aj n ak) (show an.length=au.length from bh.symm)) ?_;refine .ld (d:=41) (v:=(.slice aj au.length ak)) (congrArg (fun n=>Value.slice aj n ak) (show an.length=au.length from bh.symm)) ?_;refine go ?_;refine lV (.string (Zeg au)) (Z1s (c:=1) (c2:=1) (bv.srcN NB.int) underlying217 underlying5 underlying9 rfl)<|go ?_;cases hm;replace aa:=aa.kpp bu;exact ⟨rfl,rfl,aa.below⟩
def Znn (N:Nat) (aa:R4):Option ByteArray:=
  (Za7 N (aa.1,aa.2)).bind fun ac=>if (decide (ac<0))=true then ((Zhj N aa.2).bind fun ab=>Zz ((⟨#[45]⟩:ByteArray).size+ab.size≤maxLen) (some ((⟨#[45]⟩)++ab))) else ((Zhj N aa.2).bind fun ad=>some ad)
theorem Zyg {N aj:Nat} {ak:Option Addr} {col:Zd} {w0:World} {ae:R4} {r:ByteArray} (hm:Znn N ae=some r) (ac:Sl (Za.int .u32) col w0 ak aj ae.2):
    Calls prog 249 #[(.agg #[.bool ae.1,.slice ak ae.2.length aj])] w0 (fun e w'=>e= .returned ((.string r))∧Below w0.heap.size w0 w'):=by
 refine Xk 2 (m:=13) func249 rfl rfl rfl rfl rfl ?_;rw [Znn.eq_1] at hm;have aa:=St.start col w0;refine go ?_;refine Ye (col:=(Zj col)) 1 rfl ?_;intro aw al ab am ad;refine go ?_;refine lV _ (Xh isAgg45 sizeOf45 ad) ?_;obtain ⟨ax,an,hm⟩:=bZ hm;replace ac:=ac.keep (Zl.start col w0);replace aa:=aa.grow am;refine Zh (Zgz an (ac.ks aa)) ?_;rintro _ ag ⟨rfl,af⟩;refine ⟨_,rfl,?_⟩;replace af:Zi ab al ab ag:=.of_below af;refine go ?_;replace ad:=ad.gr af;replace aa:=aa.grow af;refine Zr hm (fun hb hm=>go ?_) fun hb hm=>go ?_
 ·refine Xu ad ?_;obtain ⟨ao,ap,hm⟩:=bZ hm;refine Zh (Zmh ap (ac.ks aa)) ?_;rintro _ aq ⟨rfl,ah⟩;refine ⟨_,rfl,?_⟩;replace ah:Zi ab ag ab aq:=.of_below ah;obtain ⟨ar,hm⟩:=Z3 hm;refine lV (.string ((⟨#[45]⟩)++ao)) (Zoc underlying9 rfl rfl ar)<|go ?_;cases hm;replace aa:=aa.grow ah;exact ⟨rfl,rfl,aa.below⟩
 refine Xu ad ?_;obtain ⟨ay,au,hm⟩:=bZ hm;refine Zh (Zmh au (ac.ks aa)) ?_;rintro _ av ⟨rfl,ai⟩;refine ⟨_,rfl,?_⟩;replace ai:Zi ab ag ab av:=.of_below ai;refine go ?_;cases hm;replace aa:=aa.grow ai;exact ⟨rfl,rfl,aa.below⟩
def Zka (aa:ByteArray):Option ByteArray:=
  some aa
def Zg8 (N:Nat) (aa:R1):Option ByteArray:=
  (Uo N ((aa.1.1,aa.1.2),aa.2)).bind fun ae=>(Zak N aa.1.1 aa.1.2 ae).bind fun ab=>(Znn N (ab.1.1,ab.1.2)).bind fun ac=>(Q1 N 1).bind fun af=>(Zb1 N ab.2 af).bind fun ag=>if (!decide (ag=0))=true then ((Zhj N ab.2).bind fun ad=>Zz ((⟨#[47]⟩:ByteArray).size+ad.size≤maxLen) (Zz (ac.size+((⟨#[47]⟩)++ad).size≤maxLen) (Zka (ac++((⟨#[47]⟩)++ad))))) else (Zka ac)
theorem Zl8 {N ay az:Nat} {a0 a1:Option Addr} {col:Zd} {w0:World} {ai:R1} {r:ByteArray} (hm:Zg8 N ai=some r) (an:Sl (Za.int .u32) col w0 a0 ay ai.1.2) (ap:Sl (Za.int .u32) col w0 a1 az ai.2):
    Calls prog 173 #[(.agg #[.bool ai.1.1,.slice a0 ai.1.2.length ay,.slice a1 ai.2.length az])] w0 (fun e w'=>e= .returned ((.string r))∧Below w0.heap.size w0 w'):=by
 refine Xk 2 (m:=28) func173 rfl rfl rfl rfl rfl ?_;rw [Zg8.eq_1] at hm;have aa:=St.start col w0;refine go ?_;refine Ye (col:=(Zj col)) 1 rfl ?_;intro bs bt al a6 ad;refine go ?_;refine Wk (col:=al) [(0,1),(1,1),(2,0),(3,1),(4,1),(5,0),(6,0),(7,3),(8,3),(9,2)] (by kernel_rfl) (by kernel_rfl)<|xF ⟨_,_,rfl⟩ ?_;refine xF (U5 ⟨_,_,rfl⟩) ?_;refine xW (fun _ hC=>((((ad.atN).part 0 2 _ rfl)).nth (q:=0) rfl).gr (hC.bl al)) ?_;refine xF ⟨_,_,rfl⟩ ?_;refine xF (U5 ⟨_,_,rfl⟩) ?_;refine xW (fun _ hC=>((((ad.atN).part 0 2 _ rfl)).nth (q:=1) rfl).gr (hC.bl al)) ?_;refine xv rfl rfl (fun _ hC=>Xh isAgg47 sizeOf47 (ad.gr (hC.bl al))) ?_;refine xe rfl rfl ?_;intro bu hC0;have hC:=hC0.bl al;obtain ⟨bv,a7,hm⟩:=bZ hm;replace an:=an.keep (Zl.start col w0);replace ap:=ap.keep (Zl.start col w0);replace aa:=(aa.grow a6).grow hC;refine Zh (Su 2 a7 (an.ks aa) (ap.ks aa)) ?_;rintro _ bw ⟨aj,bx,bz,rfl,aq,ar⟩;refine ⟨_,rfl,?_⟩;refine Zm<|X0 aj hC0 aq<|xe rfl rfl ?_;intro a8 hC0;replace ad:=(ad.gr hC).gr aq;have hC:=hC0.bl aj;obtain ⟨a2,a9,hm⟩:=bZ hm;replace aa:=(aa.grow aq).grow hC;replace ar:=ar.gr hC;refine Zh (Zgy 3 4 a9 ((an.ks aa).froz 2) (ar.toSlF (Zg.int .u32))) ?_;rintro _ b0 ⟨ba,bb,bc,b1,b2,rfl,ag,ah,ab⟩;refine ⟨_,rfl,?_⟩;replace ah:=ah.thaw (Z0 .u32) ag ((Fz.refl (col:=aj)).froz 2) (by decide);replace ab:=ab.thaw (Z0 .u32) ag ((Fz.refl (col:=aj)).froz 2) (by decide);replace ag:=ag.thawR (col:=aj);generalize Xc a8.heap.size aj ba=ae at *;refine Zm<|X0 ae hC0 ag<|xe rfl rfl ?_;intro b3 hC0;replace ad:=(ad.gr hC).gr ag;have hC:=hC0.bl ae;replace ad:=ad.gr hC;refine Z5 ad ?_;intro b4 au bd ac;refine Zm<|xk ae<|Y7 ?_;replace aa:=((aa.grow ag).grow hC).kp au bd;replace ah:=(ah.gr hC).kp au;replace ab:=(ab.gr hC).kp au;intro be hC;replace hC:=hC.bl ae;refine go ?_;refine Y5 ⟨_,_,rfl⟩ ?_;replace ac:=ac.gr hC;refine lV (.agg #[.bool a2.1.1,.slice bb a2.1.2.length bc]) (Wj isAgg45 sizeOf45 rfl rfl ((ac.atN).part 0 2 _ rfl)) ?_;obtain ⟨bf,bg,hm⟩:=bZ hm;replace ah:=ah.gr hC;refine Zh (Zyg bg (ah.toSlF (Zg.int .u32))) ?_;rintro _ bh ⟨rfl,am⟩;refine ⟨_,rfl,?_⟩;replace am:Zi ae be ae bh:=.of_below am;refine lAT rfl<|Zm<|Zw ?_
 replace ab:=(ab.gr hC).gr am;replace aa:=(aa.grow hC).grow am;replace ac:=ac.gr am;refine Wp.cutK [1000000] (fun f a3=>∃ a4 av,Zka av=some r∧St w0 (Zj col) a4 a3∧[3].map f=[.string av]) ?_ ?_
 ·intro f a3 hJ;obtain ⟨a4,av,hm,aa,hs⟩:=hJ;rw [Zka.eq_1] at hm;refine .lL [3] hs<|go ?_;cases hm;exact ⟨rfl,rfl,aa.below⟩
 refine Zw<|Wk (col:=ae) [(0,1),(1,0),(2,3),(3,3),(4,1)] (by kernel_rfl) (by kernel_rfl)<|xF ⟨_,_,rfl⟩ ?_;refine xW (fun _ hC=>((ac.atN).nth (q:=2) rfl).gr (hC.bl ae)) ?_;refine xe rfl rfl ?_;intro b5 hC0;have hC:=hC0.bl ae;obtain ⟨b6,bi,hm⟩:=bZ hm;refine Zh (Zen (col:=ae) 5 bi) ?_;rintro _ b7 ⟨af,b8,b9,rfl,ao,aw⟩;refine ⟨_,rfl,?_⟩;refine Zm<|X0 af hC0 ao<|xe rfl rfl ?_;intro bj hC0;replace ab:=(ab.gr hC).gr ao;replace ac:=(ac.gr hC).gr ao;replace aa:=(aa.grow hC).grow ao;have hC:=hC0.bl af;obtain ⟨ca,bk,hm⟩:=bZ hm;replace ab:=ab.gr hC;replace aw:=aw.gr hC;refine Zh (Zjm bk ((ab.toSlF (Zg.int .u32)).froz 5) ((aw.froz 4 (by decide)).toSlF (Zg.int .u32))) ?_;rintro _ bm ⟨rfl,ak⟩;refine ⟨_,rfl,?_⟩;replace ak:Zi af bj af bm:=.of_below ak;refine Zm<|X0 af hC0 ak<|xu rfl rfl (fun _=>Zd5 _ _ rfl rfl) ?_;refine Y7 ?_;replace ac:=(ac.gr hC).gr ak;replace aa:=(aa.grow hC).grow ak;intro bn hC;replace hC:=hC.bl af;replace ab:=(ab.gr ak).gr hC;replace ac:=ac.gr hC;replace aa:=aa.grow hC;refine Zr hm (fun hb hm=>go ?_) fun hb hm=>?_
 ·refine Xu ac ?_;obtain ⟨a5,bo,hm⟩:=bZ hm;refine Zh (Zmh bo (ab.toSlF (Zg.int .u32))) ?_;rintro _ bp ⟨rfl,ax⟩;refine ⟨_,rfl,?_⟩;replace ax:Zi af bn af bp:=.of_below ax;obtain ⟨bq,hm⟩:=Z3 hm;refine lV (.string ((⟨#[47]⟩)++a5)) (Zoc underlying9 rfl rfl bq) ?_;obtain ⟨br,hm⟩:=Z3 hm;refine lV (.string (bf++((⟨#[47]⟩)++a5))) (Zoc underlying9 rfl rfl br)<|go ?_;replace aa:=aa.grow ax;exact ⟨rfl,_,_,hm,aa,rfl⟩
 refine X8 ?_;exact ⟨rfl,_,_,hm,aa,rfl⟩
def Zar (aa:Bool):Option Bool:=
  some aa
def Znj (N:Nat):Option Bool:=
  (Zh4 N).bind fun aa=>(Zan N (aa.1,aa.2.1,aa.2.2.1,aa.2.2.2.1,aa.2.2.2.2) [(1,1)]).bind fun ad=>(Zh4 N).bind fun ab=>(Zam N (ab.1,ab.2.1,ab.2.2.1,ab.2.2.2.1,ab.2.2.2.2) [(0,1)] [(1,1)]).bind fun ae=>(Zh4 N).bind fun ac=>(S4 N (ac.1,ac.2.1,ac.2.2.1,ac.2.2.2.1,ac.2.2.2.2) [0] [(1,1)]).bind fun af=>if (decide (ad.2=0))=true then (if (decide (ae.2=0))=true then (if (decide (af.2=0))=true then ((Zg8 N ((ad.1.1.1,ad.1.1.2),ad.1.2)).bind fun ah=>if (decide (ah=(⟨#[49,51,47,53,48]⟩)))=true then ((Zg8 N ((ae.1.1.1,ae.1.1.2),ae.1.2)).bind fun ai=>if (decide (ai=(⟨#[57,47,49,51]⟩)))=true then (if (decide ((af.1.2.2.length:Int)=2))=true then ((Zq af.1.2.2 1).bind fun ag=>(Zg8 N ((ag.1.1,ag.1.2),ag.2)).bind fun aj=>Zar (decide (aj=(⟨#[57,47,53,48]⟩)))) else (Zar false)) else (Zar false)) else (Zar false)) else (Zar false)) else (Zar false)) else (Zar false)
theorem Zw3 (N:Nat) (col:Zd) (w0:World) (r:Bool) (hm:Znj N=some r):
    Calls prog 66 #[] w0 (fun e w'=>e= .returned ((.bool r))∧Below w0.heap.size w0 w'):=by
 refine Xk 0 (m:=65) func66 rfl rfl rfl rfl rfl ?_;rw [Znj.eq_1] at hm;have aa:=St.start col w0;refine go ?_;obtain ⟨d1,ci,hm⟩:=bZ hm;refine lc rfl rfl (Zch call172) (Zml (col:=(Zj col)) 1 2 3 4 ci:) ?_;rintro _ d2 ⟨cj,d3,d4,d5,d6,d7,d8,d9,ea,rfl,ck,a6,a7,a8,a9⟩;refine ⟨_,rfl,?_⟩;refine lV (.agg #[.int .i64 1,.int .i64 1]) (Wg (l:=[_,_]) (qs:=[(0,1),(1,1)]) underlying97 zeroValue97 ⟨rfl,sizeOf3,rfl,sizeOf3,trivial⟩ rfl)<|Uh (col:=cj) (r:=(Za.pair (Za.int .i64) (Za.int .i64))) (xs:=[(1,1)]) [(.agg #[.int .i64 1,.int .i64 1])] 5 (Yt.ofF (Rows.consF (r:=(Za.pair (Za.int .i64) (Za.int .i64))) (x:=(1,1)) (cs:=[.int .i64 1,.int .i64 1]) (Zd7 (V3 .i64 1) (V3 .i64 1)) Rows.nil0)) ?_;intro eb cl a3 ax cn;obtain ⟨ai,co,hm⟩:=bZ hm;replace a6:=a6.gr ax;replace a7:=a7.gr ax;replace a8:=a8.gr ax;replace a9:=a9.gr ax;refine Zh (Zma 6 7 co (((((a6.toSlF Zg.str).froz 2).froz 3).froz 4).froz 5) (((((a7.froz 1 (by decide)).toSlF (Zg.row Zg.str)).froz 3).froz 4).froz 5) (((((a8.froz 1 (by decide)).froz 2 (by decide)).toSlF (Zg.row (Zg.int .i64))).froz 4).froz 5) (((((a9.froz 1 (by decide)).froz 2 (by decide)).froz 3 (by decide)).toSlF (Zg.row (Zg.pair (Zg.pair Zg.bool (Zg.row (Zg.int .u32))) (Zg.row (Zg.int .u32))))).froz 5) (((((cn.froz 1 (by decide)).froz 2 (by decide)).froz 3 (by decide)).froz 4 (by decide)).toSlF (Zg.pair (Zg.int .i64) (Zg.int .i64)))) ?_;rintro _ ec ⟨cp,b0,b1,b2,b3,rfl,ay,az,a0⟩;refine ⟨_,rfl,?_⟩;replace az:=az.thaw (Z0 .u32) ay ((((((Fz.refl (col:=a3)).froz 1).froz 2).froz 3).froz 4).froz 5) (by decide);replace a0:=a0.thaw (Z0 .u32) ay ((((((Fz.refl (col:=a3)).froz 1).froz 2).froz 3).froz 4).froz 5) (by decide);replace ay:=ay.thawR (col:=a3);generalize Xc cl.heap.size a3 cp=cq at *;refine lM (.tuple #[(.agg #[.bool ai.1.1.1,.slice b0 ai.1.1.2.length b1,.slice b2 ai.1.2.length b3]),.int .i64 ai.2])<|lV (.agg #[.bool ai.1.1.1,.slice b0 ai.1.1.2.length b1,.slice b2 ai.1.2.length b3]) (Xe rfl rfl)<|lV (.int .i64 ai.2) (Xe rfl rfl)<|Xr (col:=cq) #[.bool false,.slice none (([]:List Int).length) 0,.slice none (([]:List Int).length) 0] 8 zeroValue47 ?_;intro ed ee cr ba ct;refine Z5 ct ?_;intro ef bb cu bc;refine go ?_;obtain ⟨eg,cv,hm⟩:=bZ hm
 refine lc rfl rfl (Zch call172) (Zml (col:=cr) 9 10 11 12 cv:) ?_;rintro _ eh ⟨cw,ei,ej,ek,el,em,en,eo,ep,rfl,a4,bd,be,bf,bg⟩;refine ⟨_,rfl,?_⟩;refine lV (.agg #[.int .i64 0,.int .i64 1]) (Wg (l:=[_,_]) (qs:=[(0,1),(1,1)]) underlying97 zeroValue97 ⟨rfl,sizeOf3,rfl,sizeOf3,trivial⟩ rfl)<|Uh (col:=cw) (r:=(Za.pair (Za.int .i64) (Za.int .i64))) (xs:=[(0,1)]) [(.agg #[.int .i64 0,.int .i64 1])] 13 (Yt.ofF (Rows.consF (r:=(Za.pair (Za.int .i64) (Za.int .i64))) (x:=(0,1)) (cs:=[.int .i64 0,.int .i64 1]) (Zd7 (V3 .i64 0) (V3 .i64 1)) Rows.nil0)) ?_;intro eq er cx aj bh;refine lV (.agg #[.int .i64 1,.int .i64 1]) (Wg (l:=[_,_]) (qs:=[(0,1),(1,1)]) underlying97 zeroValue97 ⟨rfl,sizeOf3,rfl,sizeOf3,trivial⟩ rfl)<|Uh (col:=cx) (r:=(Za.pair (Za.int .i64) (Za.int .i64))) (xs:=[(1,1)]) [(.agg #[.int .i64 1,.int .i64 1])] 14 (Yt.ofF (Rows.consF (r:=(Za.pair (Za.int .i64) (Za.int .i64))) (x:=(1,1)) (cs:=[.int .i64 1,.int .i64 1]) (Zd7 (V3 .i64 1) (V3 .i64 1)) Rows.nil0)) ?_;intro es cy a5 ag cz;obtain ⟨ah,c0,hm⟩:=bZ hm;replace bd:=(bd.gr aj).gr ag;replace be:=(be.gr aj).gr ag;replace bf:=(bf.gr aj).gr ag;replace bg:=(bg.gr aj).gr ag;replace bh:=bh.gr ag;refine Zh (Zl9 15 16 c0 ((((((bd.toSlF Zg.str).froz 10).froz 11).froz 12).froz 13).froz 14) ((((((be.froz 9 (by decide)).toSlF (Zg.row Zg.str)).froz 11).froz 12).froz 13).froz 14) ((((((bf.froz 9 (by decide)).froz 10 (by decide)).toSlF (Zg.row (Zg.int .i64))).froz 12).froz 13).froz 14) ((((((bg.froz 9 (by decide)).froz 10 (by decide)).froz 11 (by decide)).toSlF (Zg.row (Zg.pair (Zg.pair Zg.bool (Zg.row (Zg.int .u32))) (Zg.row (Zg.int .u32))))).froz 13).froz 14) ((((((bh.froz 9 (by decide)).froz 10 (by decide)).froz 11 (by decide)).froz 12 (by decide)).toSlF (Zg.pair (Zg.int .i64) (Zg.int .i64))).froz 14) ((((((cz.froz 9 (by decide)).froz 10 (by decide)).froz 11 (by decide)).froz 12 (by decide)).froz 13 (by decide)).toSlF (Zg.pair (Zg.int .i64) (Zg.int .i64)))) ?_;rintro _ et ⟨c1,b4,b5,b6,b7,rfl,ak,ao,ap⟩;refine ⟨_,rfl,?_⟩;replace ao:=ao.thaw (Z0 .u32) ak (((((((Fz.refl (col:=a5)).froz 9).froz 10).froz 11).froz 12).froz 13).froz 14) (by decide);replace ap:=ap.thaw (Z0 .u32) ak (((((((Fz.refl (col:=a5)).froz 9).froz 10).froz 11).froz 12).froz 13).froz 14) (by decide)
 replace ak:=ak.thawR (col:=a5);generalize Xc cy.heap.size a5 c1=c2 at *;refine lM (.tuple #[(.agg #[.bool ah.1.1.1,.slice b4 ah.1.1.2.length b5,.slice b6 ah.1.2.length b7]),.int .i64 ah.2])<|lV (.agg #[.bool ah.1.1.1,.slice b4 ah.1.1.2.length b5,.slice b6 ah.1.2.length b7]) (Xe rfl rfl)<|lV (.int .i64 ah.2) (Xe rfl rfl)<|Xr (col:=c2) #[.bool false,.slice none (([]:List Int).length) 0,.slice none (([]:List Int).length) 0] 17 zeroValue47 ?_;intro eu ew c3 ar c4;refine Z5 c4 ?_;intro ey au c5 a1;refine go ?_;obtain ⟨ez,c6,hm⟩:=bZ hm;refine lc rfl rfl (Zch call172) (Zml (col:=c3) 18 19 20 21 c6:) ?_;rintro _ e0 ⟨c7,e1,e2,e3,e4,e5,e6,e7,e8,rfl,aq,bi,bj,bk,bm⟩;refine ⟨_,rfl,?_⟩;refine Vr (col:=c7) [0] 22 ?_;intro e9 fa c8 ac bn;refine lV (.agg #[.int .i64 1,.int .i64 1]) (Wg (l:=[_,_]) (qs:=[(0,1),(1,1)]) underlying97 zeroValue97 ⟨rfl,sizeOf3,rfl,sizeOf3,trivial⟩ rfl)<|Uh (col:=c8) (r:=(Za.pair (Za.int .i64) (Za.int .i64))) (xs:=[(1,1)]) [(.agg #[.int .i64 1,.int .i64 1])] 23 (Yt.ofF (Rows.consF (r:=(Za.pair (Za.int .i64) (Za.int .i64))) (x:=(1,1)) (cs:=[.int .i64 1,.int .i64 1]) (Zd7 (V3 .i64 1) (V3 .i64 1)) Rows.nil0)) ?_;intro fb c9 bo ab da;obtain ⟨ad,db,hm⟩:=bZ hm;replace bi:=(bi.gr ac).gr ab;replace bj:=(bj.gr ac).gr ab;replace bk:=(bk.gr ac).gr ab;replace bm:=(bm.gr ac).gr ab;replace bn:=bn.gr ab;refine Zh (Zmb 24 25 26 db ((((((bi.toSlF Zg.str).froz 19).froz 20).froz 21).froz 22).froz 23) ((((((bj.froz 18 (by decide)).toSlF (Zg.row Zg.str)).froz 20).froz 21).froz 22).froz 23) ((((((bk.froz 18 (by decide)).froz 19 (by decide)).toSlF (Zg.row (Zg.int .i64))).froz 21).froz 22).froz 23) ((((((bm.froz 18 (by decide)).froz 19 (by decide)).froz 20 (by decide)).toSlF (Zg.row (Zg.pair (Zg.pair Zg.bool (Zg.row (Zg.int .u32))) (Zg.row (Zg.int .u32))))).froz 22).froz 23) ((((((bn.froz 18 (by decide)).froz 19 (by decide)).froz 20 (by decide)).froz 21 (by decide)).toSlF (Zg.int .i64)).froz 23) ((((((da.froz 18 (by decide)).froz 19 (by decide)).froz 20 (by decide)).froz 21 (by decide)).froz 22 (by decide)).toSlF (Zg.pair (Zg.int .i64) (Zg.int .i64)))) ?_
 rintro _ fc ⟨dc,b8,b9,ca,cb,cc,cd,rfl,ae,fd,fe,af⟩;refine ⟨_,rfl,?_⟩;replace af:=af.thaw (Zjv (Zjv Zq4 (Zjw (Z0 .u32))) (Zjw (Z0 .u32))) ae (((((((Fz.refl (col:=bo)).froz 18).froz 19).froz 20).froz 21).froz 22).froz 23) (by decide);replace ae:=ae.thawR (col:=bo);generalize Xc c9.heap.size bo dc=dd at *;refine lM (.tuple #[(.agg #[.slice b8 ad.1.1.length b9,.slice ca ad.1.2.1.length cb,.slice cc ad.1.2.2.length cd]),.int .i64 ad.2])<|lV (.agg #[.slice b8 ad.1.1.length b9,.slice ca ad.1.2.1.length cb,.slice cc ad.1.2.2.length cd]) (Xe rfl rfl)<|lV (.int .i64 ad.2) (Xe rfl rfl)<|Xr (col:=dd) #[.slice none (([]:List Int).length) 0,.slice none (([]:List Int).length) 0,(.slice none (([]:List R1).length) 0)] 27 zeroValue91 ?_;intro ff fg av al de;refine Z5 de ?_;intro df am dg aw;refine Yr rfl<|Zm<|Zw ?_;replace aa:=((((((((((((((((aa.grow ck).grow ax).grow ay).grow ba).kp bb cu).grow a4).grow aj).grow ag).grow ak).grow ar).kp au c5).grow aq).grow ac).grow ab).grow ae).grow al).kp am dg;replace az:=(((((((((((((az.gr ba).kp bb).gr a4).gr aj).gr ag).gr ak).gr ar).kp au).gr aq).gr ac).gr ab).gr ae).gr al).kp am;replace a0:=(((((((((((((a0.gr ba).kp bb).gr a4).gr aj).gr ag).gr ak).gr ar).kp au).gr aq).gr ac).gr ab).gr ae).gr al).kp am;replace bc:=(((((((((((bc.gr a4).gr aj).gr ag).gr ak).gr ar).kp au).gr aq).gr ac).gr ab).gr ae).gr al).kp am;replace ao:=(((((((ao.gr ar).kp au).gr aq).gr ac).gr ab).gr ae).gr al).kp am;replace ap:=(((((((ap.gr ar).kp au).gr aq).gr ac).gr ab).gr ae).gr al).kp am;replace a1:=(((((a1.gr aq).gr ac).gr ab).gr ae).gr al).kp am;replace af:=(af.gr al).kp am;refine Wp.cutK [1000000] (fun f ce=>∃ cf bp,Zar bp=some r∧St w0 (Zj col) cf ce∧[0].map f=[.bool bp]) ?_ ?_
 ·intro f ce hJ;obtain ⟨cf,bp,hm,aa,hs⟩:=hJ;rw [Zar.eq_1] at hm;refine .lL [0] hs<|W7 ?_;cases hm;exact ⟨rfl,rfl,aa.below⟩
 refine go ?_;refine X1 hm (fun bq hm=>go ?_) fun bq hm=>go ?_
 ·refine lV (.bool (decide (ah.2=0))) (Xs (congrArg Value.bool bq) rfl)<|Y6 rfl ?_;refine X1 hm (fun br hm=>go ?_) fun br hm=>go ?_
  ·refine lV (.bool (decide (ad.2=0))) (Xs (congrArg Value.bool br) rfl)<|Y6 rfl ?_;refine X1 hm (fun bs hm=>go ?_) fun bs hm=>go ?_
   ·refine lV _ (Xh isAgg47 sizeOf47 bc)<|go ?_;obtain ⟨dh,di,hm⟩:=bZ hm;refine Zh (Zl8 di ((az.toSlF (Zg.int .u32)).froz 7) ((a0.froz 6 (by decide)).toSlF (Zg.int .u32))) ?_;rintro _ cg ⟨rfl,an⟩;refine ⟨_,rfl,?_⟩;replace an:Zi av df av cg:=.of_below an;refine go ?_;refine lV (.bool (decide (dh=(⟨#[49,51,47,53,48]⟩)))) (Xs (congrArg Value.bool bs) rfl)<|Y6 rfl ?_;replace ao:=ao.gr an;replace ap:=ap.gr an;replace af:=af.gr an;replace a1:=a1.gr an;replace aw:=aw.gr an;replace aa:=aa.grow an;refine X1 hm (fun bt hm=>go ?_) fun bt hm=>go ?_
    ·refine lV _ (Xh isAgg47 sizeOf47 a1)<|go ?_;obtain ⟨dj,dk,hm⟩:=bZ hm;refine Zh (Zl8 dk ((ao.toSlF (Zg.int .u32)).froz 16) ((ap.froz 15 (by decide)).toSlF (Zg.int .u32))) ?_;rintro _ ch ⟨rfl,a2⟩;refine ⟨_,rfl,?_⟩;replace a2:Zi av cg av ch:=.of_below a2;refine go ?_;refine lV (.bool (decide (dj=(⟨#[57,47,49,51]⟩)))) (Xs (congrArg Value.bool bt) rfl)<|Y6 rfl ?_;replace af:=af.gr a2;replace aw:=aw.gr a2;replace aa:=aa.grow a2;refine X1 hm (fun bu hm=>go ?_) fun bu hm=>go ?_
     ·refine Y5 ⟨_,_,rfl⟩ ?_;refine go ?_;refine lW ((aw.atN).nth (q:=2) rfl)<|go ?_;refine lV (.bool (decide ((ad.1.2.2.length:Int)=2))) (Xs (congrArg Value.bool bu) rfl)<|Y6 rfl ?_;refine X1 hm (fun bv hm=>go ?_) fun bv hm=>go ?_
      ·refine Y5 ⟨_,_,rfl⟩ ?_;refine go ?_;refine lW ((aw.atN).nth (q:=2) rfl)<|go ?_;obtain ⟨bw,bx,hm⟩:=bZ hm;refine lI bx (af.addr bx) ?_;refine go ?_;obtain ⟨_,dl,dm⟩:=af.atN bx;obtain ⟨_,_,rfl,dn,dp⟩:=dl.parts;obtain ⟨_,_,rfl,dq,dr⟩:=dn.parts;obtain rfl:=dq.bool;obtain ⟨ds,dt,rfl,du⟩:=dr.row;obtain ⟨dv,dw,rfl,dx⟩:=dp.row;refine lV (.agg #[.bool bw.1.1,.slice ds bw.1.2.length dt,.slice dv bw.2.length dw]) (Wj isAgg47 sizeOf47 rfl rfl dm)<|go ?_;obtain ⟨dy,dz,hm⟩:=bZ hm;refine Zh (Zl8 dz (du.toSlF (Zg.int .u32)) (dx.toSlF (Zg.int .u32))) ?_;rintro _ d0 ⟨rfl,bz⟩;refine ⟨_,rfl,?_⟩;replace bz:Zi av ch av d0:=.of_below bz;refine go ?_;refine lV (.bool (decide (dy=(⟨#[57,47,53,48]⟩)))) (Xs (congrArg Value.bool bv) rfl)<|go ?_;replace aa:=aa.grow bz;exact ⟨rfl,_,_,hm,aa,rfl⟩
      refine lV (.bool false) (Xl (congrArg Value.bool bv) rfl)<|go ?_;exact ⟨rfl,_,_,hm,aa,rfl⟩
     refine lV (.bool false) (Xl (congrArg Value.bool bu) rfl)<|Y6 rfl<|lP 57 rfl rfl<|lP 57 rfl rfl<|lP 57 rfl rfl<|lP 57 rfl rfl<|lP 57 rfl rfl<|lP 57 rfl rfl<|lV (.bool false) (Xl rfl rfl)<|go ?_;exact ⟨rfl,_,_,hm,aa,rfl⟩
    refine lV (.bool false) (Xl (congrArg Value.bool bt) rfl)<|Y6 rfl<|lP 51 rfl rfl<|lP 51 rfl rfl<|lP 51 rfl rfl<|lP 51 rfl rfl<|lV (.bool false) (Xl rfl rfl)<|Y6 rfl<|lP 57 rfl rfl<|lP 57 rfl rfl<|lP 57 rfl rfl<|lP 57 rfl rfl<|lP 57 rfl rfl<|lP 57 rfl rfl<|lV (.bool false) (Xl rfl rfl)<|go ?_;exact ⟨rfl,_,_,hm,aa,rfl⟩
   refine lV (.bool false) (Xl (congrArg Value.bool bs) rfl)<|Y6 rfl<|lP 46 rfl rfl<|lP 46 rfl rfl<|lP 46 rfl rfl<|lV (.bool false) (Xl rfl rfl)<|Y6 rfl<|lP 51 rfl rfl<|lP 51 rfl rfl<|lP 51 rfl rfl<|lP 51 rfl rfl<|lV (.bool false) (Xl rfl rfl)<|Y6 rfl<|lP 57 rfl rfl<|lP 57 rfl rfl<|lP 57 rfl rfl<|lP 57 rfl rfl<|lP 57 rfl rfl<|lP 57 rfl rfl<|lV (.bool false) (Xl rfl rfl)<|go ?_;exact ⟨rfl,_,_,hm,aa,rfl⟩
  refine lV (.bool false) (Xl (congrArg Value.bool br) rfl)<|Y6 rfl<|lP 41 rfl rfl<|lP 41 rfl rfl<|lP 41 rfl rfl<|lV (.bool false) (Xl rfl rfl)<|Y6 rfl<|lP 46 rfl rfl<|lP 46 rfl rfl<|lP 46 rfl rfl<|lV (.bool false) (Xl rfl rfl)<|Y6 rfl<|lP 51 rfl rfl<|lP 51 rfl rfl<|lP 51 rfl rfl<|lP 51 rfl rfl<|lV (.bool false) (Xl rfl rfl)<|Y6 rfl<|lP 57 rfl rfl<|lP 57 rfl rfl<|lP 57 rfl rfl<|lP 57 rfl rfl<|lP 57 rfl rfl<|lP 57 rfl rfl<|lV (.bool false) (Xl rfl rfl)<|go ?_;exact ⟨rfl,_,_,hm,aa,rfl⟩
 refine lV (.bool false) (Xl (congrArg Value.bool bq) rfl)<|Y6 rfl<|lP 37 rfl rfl<|lP 37 rfl rfl<|lV (.bool false) (Xl rfl rfl)<|Y6 rfl<|lP 41 rfl rfl<|lP 41 rfl rfl<|lP 41 rfl rfl<|lV (.bool false) (Xl rfl rfl)<|Y6 rfl<|lP 46 rfl rfl<|lP 46 rfl rfl<|lP 46 rfl rfl<|lV (.bool false) (Xl rfl rfl)<|Y6 rfl<|lP 51 rfl rfl<|lP 51 rfl rfl<|lP 51 rfl rfl<|lP 51 rfl rfl<|lV (.bool false) (Xl rfl rfl)<|Y6 rfl<|lP 57 rfl rfl<|lP 57 rfl rfl<|lP 57 rfl rfl<|lP 57 rfl rfl<|lP 57 rfl rfl<|lP 57 rfl rfl<|lV (.bool false) (Xl rfl rfl)<|go ?_;exact ⟨rfl,_,_,hm,aa,rfl⟩
theorem Z22:Znj 3000000=some true:=by decide+kernel
def Zo1:Option Bool:=some true
theorem Zz7 (col:Zd) (w0:World) (r:Bool) (hm:Zo1=some r):Calls prog 66 #[] w0 (fun e w'=>e= .returned ((.bool r))∧Below w0.heap.size w0 w'):=by
 cases hm;exact Zw3 3000000 col w0 true Z22
def Zhc (N:Nat) (ab:Int) (ac:Int):Option R1:=
  (Ze4 N ab ac).bind fun aa=>some ((aa.1.1.1,aa.1.1.2),aa.1.2)
theorem Zw5 {N:Nat} {col:Zd} {w0:World} {ai aj:Int} {r:R1} (c1 c2:Nat) (hm:Zhc N ai aj=some r):
    Calls prog 74 #[.int .i64 ai,.int .i64 aj] w0 (fun e w'=>∃ (col':Zd) (ra1:Option Addr) (rc2:Nat) (ra4:Option Addr) (rc5:Nat),e= .returned ((.agg #[.bool r.1.1,.slice ra1 r.1.2.length rc2,.slice ra4 r.2.length rc5]))∧Zi col w0 col' w'∧Zc (Za.int .u32) 79 c1 col' w' ra1 rc2 r.1.2∧Zc (Za.int .u32) 79 c2 col' w' ra4 rc5 r.2):=by
 refine Wi (m:=14) func74 rfl rfl rfl ?_;rw [Zhc.eq_1] at hm;have ab:=St.start col w0;refine go ?_;refine Xr (col:=(Zj col)) #[.bool false,.slice none (([]:List Int).length) 0,.slice none (([]:List Int).length) 0] 1 zeroValue47 ?_;intro a0 a1 ap aq ae;refine go ?_;obtain ⟨aa,ar,hm⟩:=bZ hm;refine Zh (Zpj (col:=ap) 2 3 ar) ?_;rintro _ a2 ⟨au,ak,al,am,an,rfl,ao,af,ag⟩;refine ⟨_,rfl,?_⟩;refine lM (.tuple #[(.agg #[.bool aa.1.1.1,.slice ak aa.1.1.2.length al,.slice am aa.1.2.length an]),.int .i64 aa.2])<|lV (.agg #[.bool aa.1.1.1,.slice ak aa.1.1.2.length al,.slice am aa.1.2.length an]) (Xe rfl rfl)<|lV (.int .i64 aa.2) (Xe rfl rfl)<|Xr (col:=au) #[.bool false,.slice none (([]:List Int).length) 0,.slice none (([]:List Int).length) 0] 4 zeroValue47 ?_;intro a3 a4 a5 ac av;refine Z5 av ?_;intro a6 ad aw ax;refine go ?_;refine lV _ (Xh isAgg47 sizeOf47 ax) ?_;replace ae:=((ae.gr ao).gr ac).kp ad;refine Z5 ae ?_;intro a7 ah ay az;refine go ?_;cases hm;replace ab:=((((ab.grow aq).grow ao).grow ac).kp ad aw).kp ah ay;replace af:=((af.gr ac).kp ad).kp ah;replace ag:=((ag.gr ac).kp ad).kp ah;exact ⟨rfl,_,ra az.atN,_,_,_,_,_,rfl,ab.fin (cm [(2,c1),(3,c2)]),ab.fo af,ab.fo ag⟩

end Go.Proofs.YtbmjpjhbankpoaaGreat
