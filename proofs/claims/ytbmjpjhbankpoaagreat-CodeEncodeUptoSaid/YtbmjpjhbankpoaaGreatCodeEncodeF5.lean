/-
  What functions of the program compute, as plain Lean functions (m_..), and proofs that they compute it (c_..). Printed by a program of the author; no conditions.
-/
import Derived.Test.YtbmjpjhbankpoaaGreatCodeEncodeBFloat
import Derived.Test.YtbmjpjhbankpoaaGreatProg
import Derived.Test.YtbmjpjhbankpoaaGreatCodeEncodeBBrief
import Derived.Test.YtbmjpjhbankpoaaGreatCodeEncodeBMixD
import Derived.Test.YtbmjpjhbankpoaaGreatCodeEncodeBThree
import Derived.Test.YtbmjpjhbankpoaaGreatCodeEncodeBView
import Derived.Test.YtbmjpjhbankpoaaGreatCodeEncodeF4
set_option linter.unusedVariables false
set_option maxRecDepth 100000
set_option maxHeartbeats 2000000
namespace Go.Proofs.YtbmjpjhbankpoaaGreat
open Go Go.RowKit
open Go.IntKind (i8 i16 i32 i64 u8 u16 u32 u64)
open Go.Proofs.Tryz

def Zed (aa:Bool) (ab:List Int) (ac:Bool) (ad:List Int):Option Rf:=
  some ((aa,ab),(ac,ad),0)
def Zee (N:Nat) (ab:R4) (aa:Rf) (af:Bool):Option Rf:=
  if af=true then ((Sq N 1).bind fun ac=>(Zef N (aa.1.1,aa.1.2) (ac.1,ac.2)).bind fun ad=>(Zaa N (aa.2.1.1,aa.2.1.2) (ab.1,ab.2)).bind fun ae=>Zed ad.1 ad.2 ae.1 ae.2) else (Zed aa.1.1 aa.1.2 aa.2.1.1 aa.2.1.2)
def Zjv (N:Nat) (ac:R4) (ab:R4):Option Rf:=
  (Zhb N (ac.1,ac.2) (ab.1,ab.2)).bind fun aa=>if (!decide (aa.2.2=0))=true then (some ((aa.1.1,aa.1.2),(aa.2.1.1,aa.2.1.2),aa.2.2)) else ((Tz N (aa.2.1.1,aa.2.1.2)).bind fun ad=>if (!decide (ad=0))=true then ((Tz N (aa.2.1.1,aa.2.1.2)).bind fun ae=>(Tz N (ab.1,ab.2)).bind fun af=>Zee N ab aa (!decide (ae=af))) else (Zee N ab aa false))
theorem Zy4 {N ca bv:Nat} {cb bw:Option Addr} {col:Zf} {w0:World} {bj av:R4} {r:Rf} (c1 c2:Nat) (hm:Zjv N bj av=some r) (bx:Sl (Za.int .u32) col w0 cb ca bj.2) (a6:Sl (Za.int .u32) col w0 bw bv av.2):
    Calls Tryz.prog 274 #[(.agg #[.bool bj.1,.slice cb bj.2.length ca]),(.agg #[.bool av.1,.slice bw av.2.length bv])] w0 (fun e w'=>∃ (col':Zf) (ra1:Option Addr) (rc2:Nat) (ra4:Option Addr) (rc5:Nat),e= .returned (.tuple #[(.agg #[.bool r.1.1,.slice ra1 r.1.2.length rc2]),(.agg #[.bool r.2.1.1,.slice ra4 r.2.1.2.length rc5]),.int .i64 r.2.2])∧Zg col w0 col' w'∧Zc (Za.int .u32) 79 c1 col' w' ra1 rc2 r.1.2∧Zc (Za.int .u32) 79 c2 col' w' ra4 rc5 r.2.1.2):=by
 refine X2 (m:=40) func274 rfl rfl rfl ?_;rw [Zjv.eq_1] at hm;have aa:=St.start col w0;refine go ?_;refine Xd (col:=(Zi col)) 1 rfl ?_;intro dm dn cq cr bz;refine Xd (col:=cq) 2 rfl ?_;intro cs dp ct cc ag;refine Xf (col:=ct) #[.bool false,.slice none (([]:List Int).length) 0] 3 zeroValue45 ?_;intro cd dq cu b0 ac;refine Xf (col:=cu) #[.bool false,.slice none (([]:List Int).length) 0] 4 zeroValue45 ?_;intro ce dr ds bk ab;refine go ?_;replace bz:=((bz.gr cc).gr b0).gr bk;refine lV _ (Xa isAgg45 sizeOf45 bz) ?_;replace ag:=(ag.gr b0).gr bk;refine lV _ (Xa isAgg45 sizeOf45 ag) ?_;obtain ⟨af,cv,hm⟩:=bZ hm;replace bx:=bx.keep (Zj.start col w0);replace a6:=a6.keep (Zj.start col w0);replace aa:=(((aa.grow cr).grow cc).grow b0).grow bk;refine Zh (Zy5 5 6 cv (bx.ks aa) (a6.ks aa)) ?_;rintro _ dt ⟨cw,a7,a8,a9,ba,rfl,bm,ah,ad⟩;refine ⟨_,rfl,?_⟩;refine lM (.tuple #[(.agg #[.bool af.1.1,.slice a7 af.1.2.length a8]),(.agg #[.bool af.2.1.1,.slice a9 af.2.1.2.length ba]),.int .i64 af.2.2])<|lV (.agg #[.bool af.1.1,.slice a7 af.1.2.length a8]) (Xl rfl rfl)<|lV (.agg #[.bool af.2.1.1,.slice a9 af.2.1.2.length ba]) (Xl rfl rfl)<|lV (.int .i64 af.2.2) (Xl rfl rfl)<|Xf (col:=cw) #[.bool false,.slice none (([]:List Int).length) 0] 7 zeroValue45 ?_;intro cf du cx a4 b1;refine Xf (col:=cx) #[.bool false,.slice none (([]:List Int).length) 0] 8 zeroValue45 ?_;intro cg dv ai aw b2;replace b1:=b1.gr aw;refine Zw b1 ?_;intro dw ax cy aj;replace b2:=b2.kp ax;refine Zw b2 ?_;intro cz ay c0 ae;refine go ?_;replace ac:=(((((ac.gr bk).gr bm).gr a4).gr aw).kp ax).kp ay;replace ag:=((((ag.gr bm).gr a4).gr aw).kp ax).kp ay;replace ab:=((((ab.gr bm).gr a4).gr aw).kp ax).kp ay;replace aa:=((((aa.grow bm).grow a4).grow aw).kp ax cy).kp ay c0;replace ah:=(((ah.gr a4).gr aw).kp ax).kp ay;replace ad:=(((ad.gr a4).gr aw).kp ax).kp ay;replace aj:=aj.kp ay;refine Zq hm (fun hb hm=>?_) fun hb hm=>?_
 ·refine Zy<|Zpv (col:=ai) (pS [3]) [(0,0),(1,5),(2,1),(3,4),(4,2),(5,1)] (by kernel_rfl) (by kernel_rfl)<|xvD (v:=(.agg #[.bool af.1.1,.slice a7 af.1.2.length a8])) rfl rfl (fun _ hC=>Xn isAgg45 sizeOf45 rfl rfl (aj.atN.gr (hC.bl ai))) ?_;refine xsD (v:=(.agg #[.bool af.2.1.1,.slice a9 af.2.1.2.length ba])) rfl rfl (fun _ hC=>Xn isAgg45 sizeOf45 rfl rfl (ae.dk hC rfl rfl).atN) ?_;refine Zku (v:=(.int .i64 af.2.2)) rfl rfl (fun _=>W0 rfl) ?_;refine Zih rfl rfl ?_;intro c3 hC0;have hC:=hC0.bl ai;replace ah:=ah.gr hC;replace ad:=ad.gr hC;replace ac:=ac.gr hC;replace ab:=ab.gr hC;replace aa:=aa.grow hC;have b3:Zz (pS [3]) ai cz ai c3:=hC.toP;refine Zw ac ?_;intro ch bb ci bc;replace b3:=b3.kp bb ci rfl;refine Zk ?_;refine ⟨fun w'=>Zg ai ch ai w',fun w'=>∃ c',Zz (pS [3]) ai ch c' w',Zg.refl _ _,fun _ h=>⟨_,h.toP⟩,fun h=>absurd h (by decide),fun _ _ ⟨c9,h⟩=>⟨c9,b3.trans h⟩,?_⟩;refine Zih rfl rfl ?_;intro dx hC0;have hC:=hC0.bl ai;replace ab:=(ab.kp bb).gr hC;refine Zw ab ?_;intro cj bn c4 b4;refine Zk ?_;refine ⟨fun w'=>Zg ai cj ai w',fun w'=>∃ c',Zz (pS [3]) ai cj c' w',Zg.refl _ _,fun _ h=>⟨_,h.toP⟩,fun h=>absurd h (by decide),fun h=>absurd h (by decide),?_⟩;refine Zku (v:=(.int .i64 af.2.2)) rfl rfl (fun _=>Uq rfl) ?_;refine Zpz ?_;replace ah:=((ah.kp bb).gr hC).kp bn;replace ad:=((ad.kp bb).gr hC).kp bn;replace aa:=((aa.kp bb ci).grow hC).kp bn c4;replace bc:=(bc.gr hC).kp bn;intro dy hC;replace hC:=hC.bl ai;refine Ys ?_;cases hm;replace ah:=ah.gr hC;replace ad:=ad.gr hC;replace bc:=bc.gr hC;replace b4:=b4.gr hC;replace aa:=aa.grow hC;exact ⟨rfl,_,Zc9 rfl rfl isAgg45 sizeOf45 rfl rfl bc.atN rfl isAgg45 sizeOf45 rfl rfl b4.atN rfl rfl,_,_,_,_,_,rfl,aa.fin (cm [(5,c1),(6,c2)]),aa.fo ah,aa.fo ad⟩
 refine X8<|Zy ?_;refine Wp.cutK [4,5,7,8,1000000] (fun f ao=>∃ ak bo bp bq bd br bs bt be,Zed bo bd br be=some r∧St w0 (Zi col) ak ao∧Zn 45 3 ak ao cd #[.bool false,.slice none (([]:List Int).length) 0]∧Zn 45 4 ak ao ce #[.bool false,.slice none (([]:List Int).length) 0]∧Zc (Za.int .u32) 79 5 ak ao bp bq bd∧Zn 45 7 ak ao cf #[.bool bo,.slice bp bd.length bq]∧Zc (Za.int .u32) 79 6 ak ao bs bt be∧Zn 45 8 ak ao cg #[.bool br,.slice bs be.length bt]) ?_ ?_
 ·intro f ao hJ;obtain ⟨ak,bo,bp,bq,bd,br,bs,bt,be,hm,aa,ac,ab,az,aj,a0,ae⟩:=hJ;rw [Zed.eq_1] at hm;refine Zy<|Zpv (col:=ak) (pS [3]) [(0,0),(1,5),(2,4),(3,2),(4,1)] (by kernel_rfl) (by kernel_rfl)<|xvD (v:=(.agg #[.bool bo,.slice bp bd.length bq])) rfl rfl (fun _ hC=>Xn isAgg45 sizeOf45 rfl rfl (aj.atN.gr (hC.bl ak))) ?_;refine xsD (v:=(.agg #[.bool br,.slice bs be.length bt])) rfl rfl (fun _ hC=>Xn isAgg45 sizeOf45 rfl rfl (ae.dk hC rfl rfl).atN) ?_;refine Zih rfl rfl ?_;intro c5 hC0;have hC:=hC0.bl ak;replace az:=az.gr hC;replace a0:=a0.gr hC;replace ac:=ac.gr hC;replace ab:=ab.gr hC;replace aa:=aa.grow hC;have b5:Zz (pS [3]) ak ao ak c5:=hC.toP;refine Zw ac ?_;intro ck bf cl bg;replace b5:=b5.kp bf cl rfl;refine Zk ?_;refine ⟨fun w'=>Zg ak ck ak w',fun w'=>∃ c',Zz (pS [3]) ak ck c' w',Zg.refl _ _,fun _ h=>⟨_,h.toP⟩,fun h=>absurd h (by decide),fun _ _ ⟨c9,h⟩=>⟨c9,b5.trans h⟩,?_⟩;refine Zih rfl rfl ?_;intro dz hC0;have hC:=hC0.bl ak;replace ab:=(ab.kp bf).gr hC;refine Zw ab ?_;intro cn bu c6 b6;refine Zk ?_;refine ⟨fun w'=>Zg ak cn ak w',fun w'=>∃ c',Zz (pS [3]) ak cn c' w',Zg.refl _ _,fun _ h=>⟨_,h.toP⟩,fun h=>absurd h (by decide),fun h=>absurd h (by decide),?_⟩;refine Zku (v:=(.int .i64 0)) rfl rfl (fun _=>Uq rfl) ?_;refine Zpz ?_;replace az:=((az.kp bf).gr hC).kp bu;replace a0:=((a0.kp bf).gr hC).kp bu;replace aa:=((aa.kp bf cl).grow hC).kp bu c6;replace bg:=(bg.gr hC).kp bu;intro d0 hC;replace hC:=hC.bl ak;refine Ys ?_;cases hm;replace az:=az.gr hC;replace a0:=a0.gr hC;replace bg:=bg.gr hC;replace b6:=b6.gr hC;replace aa:=aa.grow hC;exact ⟨rfl,_,Zc9 rfl rfl isAgg45 sizeOf45 rfl rfl bg.atN rfl isAgg45 sizeOf45 rfl rfl b6.atN rfl rfl,_,_,_,_,_,rfl,aa.fin (cm [(5,c1),(6,c2)]),aa.fo az,aa.fo a0⟩
 refine Zy ?_;refine Wp.cutK [3,4,5,7,8,1000000] (fun f ap=>∃ al b7,Zee N av af b7=some r∧St w0 (Zi col) al ap∧Zn 45 2 al ap cs #[.bool av.1,.slice bw av.2.length bv]∧Zn 45 3 al ap cd #[.bool false,.slice none (([]:List Int).length) 0]∧Zn 45 4 al ap ce #[.bool false,.slice none (([]:List Int).length) 0]∧Zc (Za.int .u32) 79 5 al ap a7 a8 af.1.2∧Zn 45 7 al ap cf #[.bool af.1.1,.slice a7 af.1.2.length a8]∧Zc (Za.int .u32) 79 6 al ap a9 ba af.2.1.2∧Zn 45 8 al ap cg #[.bool af.2.1.1,.slice a9 af.2.1.2.length ba]∧[31].map f=[.bool b7]) ?_ ?_
 ·intro f ap hJ;obtain ⟨al,b7,hm,aa,ag,ac,ab,ah,aj,ad,ae,hs⟩:=hJ;rw [Zee.eq_1] at hm;refine .lL [31] hs ?_;refine Zq hm (fun hb hm=>?_) fun hb hm=>?_
  ·refine Zy<|Yv (col:=al) [(0,0),(1,3),(2,3),(3,2)] (by kernel_rfl) (by kernel_rfl)<|xv rfl rfl (fun _ hC=>Xa isAgg45 sizeOf45 (aj.gr (hC.bl al))) ?_;refine xe rfl rfl ?_;intro d1 hC0;have hC:=hC0.bl al;obtain ⟨d2,c7,hm⟩:=bZ hm;refine Zh (Ziu (col:=al) 9 c7) ?_;rintro _ d3 ⟨bh,d4,d5,rfl,aq,b8⟩;refine ⟨_,rfl,?_⟩;refine Zk<|Xg bh hC0 aq<|xe rfl rfl ?_;intro c8 hC0;replace ah:=(ah.gr hC).gr aq;replace ad:=(ad.gr hC).gr aq;replace ag:=(ag.gr hC).gr aq;replace ac:=(ac.gr hC).gr aq;replace ab:=(ab.gr hC).gr aq;replace aj:=(aj.gr hC).gr aq;replace ae:=(ae.gr hC).gr aq;replace aa:=(aa.grow hC).grow aq;have hC:=hC0.bl bh;obtain ⟨d6,da,hm⟩:=bZ hm;replace ah:=ah.gr hC;replace b8:=b8.gr hC;refine Zh (Zqw 10 da ((ah.toSlF (Zl.int .u32)).froz 9) ((b8.froz 5 (by decide)).toSlF (Zl.int .u32))) ?_;rintro _ d7 ⟨db,d8,d9,rfl,am,an⟩;refine ⟨_,rfl,?_⟩;replace an:=an.thaw (Zv .u32) am (((Fz.refl (col:=bh)).froz 5).froz 9) (by decide);replace am:=am.thawR (col:=bh);generalize Z4 c8.heap.size bh db=a1 at *;refine Zk<|Xg a1 hC0 am<|xe rfl rfl ?_;intro ea hC0;replace ad:=(ad.gr hC).gr am;replace ag:=(ag.gr hC).gr am;replace ac:=(ac.gr hC).gr am;replace ab:=(ab.gr hC).gr am;replace aj:=(aj.gr hC).gr am;replace ae:=(ae.gr hC).gr am;replace aa:=(aa.grow hC).grow am;have hC:=hC0.bl a1;replace aj:=aj.gr hC;refine Zw aj ?_;intro eb a2 dc a3;refine Zk<|xk a1<|Yn ?_;replace ad:=(ad.gr hC).kp a2;replace an:=(an.gr hC).kp a2;replace ag:=(ag.gr hC).kp a2;replace ac:=(ac.gr hC).kp a2;replace ab:=(ab.gr hC).kp a2;replace ae:=(ae.gr hC).kp a2;replace aa:=(aa.grow hC).kp a2 dc;intro dd hC;replace hC:=hC.bl a1;refine Wd ?_;replace ae:=ae.gr hC;refine lV _ (Xa isAgg45 sizeOf45 ae) ?_;replace ag:=ag.gr hC;refine lV _ (Xa isAgg45 sizeOf45 ag) ?_;obtain ⟨ec,de,hm⟩:=bZ hm;replace ad:=ad.gr hC;replace aa:=aa.grow hC;refine Zh (Zld 11 de (ad.toSlF (Zl.int .u32)) ((a6.ks aa).froz 6)) ?_;rintro _ ed ⟨df,ee,ef,rfl,ar,au⟩;refine ⟨_,rfl,?_⟩
   replace au:=au.thaw (Zv .u32) ar ((Fz.refl (col:=a1)).froz 6) (by decide);replace ar:=ar.thawR (col:=a1);generalize Z4 dd.heap.size a1 df=eg at *;replace ae:=ae.gr ar;refine Zw ae ?_;intro eh a5 dg bi;refine Zk ?_;replace an:=((an.gr hC).gr ar).kp a5;replace an:=an.recolSelf 5 (by decide);replace au:=au.kp a5;replace au:=au.recol 10 5 (by decide);replace ac:=((ac.gr hC).gr ar).kp a5;replace ac:=ac.recol 10 5 (by decide);replace ab:=((ab.gr hC).gr ar).kp a5;replace ab:=ab.recol 10 5 (by decide);replace a3:=((a3.gr hC).gr ar).kp a5;replace a3:=a3.recol 10 5 (by decide);replace bi:=bi.recol 10 5 (by decide);replace aa:=(aa.grow ar).kp a5 dg;replace aa:=aa.recol 10 5 (by decide) (by decide);replace an:=an.recol 11 6 (by decide);replace au:=au.recolSelf 6 (by decide);replace ac:=ac.recol 11 6 (by decide);replace ab:=ab.recol 11 6 (by decide);replace a3:=a3.recol 11 6 (by decide);replace bi:=bi.recol 11 6 (by decide);replace aa:=aa.recol 11 6 (by decide) (by decide);exact ⟨rfl,_,_,_,_,_,_,_,_,_,hm,aa,ac,ab,an,a3,au,bi⟩
  refine X8 ?_;exact ⟨rfl,_,_,_,_,_,_,_,_,_,hm,aa,ac,ab,ah,aj,ad,ae⟩
 refine Wc (col:=ai) (by kernel_rfl) (by kernel_rfl)<|qv rfl (fun _ hC=>Xa isAgg45 sizeOf45 (ae.gr (hC.bl ai))) ?_;obtain ⟨dh,di,hm⟩:=bZ hm;refine qc (v:=(.int .i64 dh)) rfl (fun _ hC=>⟨_,_,S0 call204 rfl,(Zfl di ((ad.gr (hC.bl ai)).toSlF (Zl.int .u32)):).mono fun _ _ h=>⟨h.1,hC.trans (.of_below h.2)⟩⟩) ?_;refine go ?_;refine Xv hm (fun b9 hm=>go ?_) fun b9 hm=>go ?_
 ·refine qv rfl (fun _ hC=>Xa isAgg45 sizeOf45 (ae.gr (hC.bl ai))) ?_;refine go ?_;obtain ⟨co,dj,hm⟩:=bZ hm;refine qc (v:=(.int .i64 co)) rfl (fun _ hC=>⟨_,_,S0 call204 rfl,(Zfl dj ((ad.gr (hC.bl ai)).toSlF (Zl.int .u32)):).mono fun _ _ h=>⟨h.1,hC.trans (.of_below h.2)⟩⟩) ?_;refine go ?_;refine qv rfl (fun _ hC=>Xa isAgg45 sizeOf45 (ag.gr (hC.bl ai))) ?_;refine go ?_;obtain ⟨cp,dl,hm⟩:=bZ hm;refine qc (v:=(.int .i64 cp)) rfl (fun _ hC=>⟨_,_,S0 call204 rfl,(Zfl dl ((a6.ks aa).gr (hC.bl ai)):).mono fun _ _ h=>⟨h.1,hC.trans (.of_below h.2)⟩⟩) ?_;refine go ?_;refine qv (v:=(.bool (!decide (co=cp)))) rfl (fun _ hC=>Xj (congrArg Value.bool b9) rfl) ?_;refine Yf ?_;intro ei hC;replace hC:=hC.bl ai;replace ah:=ah.gr hC;replace ad:=ad.gr hC;replace ag:=ag.gr hC;replace ac:=ac.gr hC;replace ab:=ab.gr hC;replace aj:=aj.gr hC;replace ae:=ae.gr hC;replace aa:=aa.grow hC;exact ⟨rfl,_,_,hm,aa,ag,ac,ab,ah,aj,ad,ae,rfl⟩
 refine qv (v:=(.bool false)) rfl (fun _ hC=>Xs (congrArg Value.bool b9) rfl) ?_;refine Yf ?_;intro ej hC;replace hC:=hC.bl ai;replace ah:=ah.gr hC;replace ad:=ad.gr hC;replace ag:=ag.gr hC;replace ac:=ac.gr hC;replace ab:=ab.gr hC;replace aj:=aj.gr hC;replace ae:=ae.gr hC;replace aa:=aa.grow hC;exact ⟨rfl,_,_,hm,aa,ag,ac,ab,ah,aj,ad,ae,rfl⟩
def Zjw (N:Nat) (aa:R1):Option R4:=
  (U7 N ((aa.1.1,aa.1.2),aa.2)).bind fun ad=>(Sr ad).bind fun ab=>(Zjv N (aa.1.1,aa.1.2) (ab.1,ab.2)).bind fun ac=>some (ac.1.1,ac.1.2)
theorem Zy6 {N a0 a9:Nat} {a1 ba:Option Addr} {col:Zf} {w0:World} {ah:R1} {r:R4} (c1:Nat) (hm:Zjw N ah=some r) (a2:Sl (Za.int .u32) col w0 a1 a0 ah.1.2) (bb:Sl (Za.int .u32) col w0 ba a9 ah.2):
    Calls Tryz.prog 225 #[(.agg #[.bool ah.1.1,.slice a1 ah.1.2.length a0,.slice ba ah.2.length a9])] w0 (fun e w'=>∃ (col':Zf) (ra1:Option Addr) (rc2:Nat),e= .returned ((.agg #[.bool r.1,.slice ra1 r.2.length rc2]))∧Zg col w0 col' w'∧Zc (Za.int .u32) 79 c1 col' w' ra1 rc2 r.2):=by
 refine X2 (m:=17) func225 rfl rfl rfl ?_;rw [Zjw.eq_1] at hm;have ac:=St.start col w0;refine go ?_;refine Xd (col:=(Zi col)) 1 rfl ?_;intro br b5 bs bt a3;refine Xf (col:=bs) #[.bool false,.slice none (([]:List Int).length) 0] 2 zeroValue45 ?_;intro b6 a4 an bi ae;refine go ?_;have bc:=Zz.clip (fun _=>false) an a4;refine Zbr (col:=an) [(0,1),(1,0),(2,0),(3,3),(4,3),(5,3),(6,1),(7,1),(8,1),(9,1),(10,4),(11,4),(12,2),(13,2),(14,1)] (by kernel_rfl) (by kernel_rfl) ⟨fun h=>absurd h (by decide),fun h=>absurd h (by decide),fun h=>absurd h (by decide),fun h=>absurd h (by decide),fun h=>absurd h (by decide),fun h=>absurd h (by decide),fun h=>absurd h (by decide),fun h=>absurd h (by decide),fun h=>absurd h (by decide),fun h=>absurd h (by decide),fun _=>⟨_,_,_,rfl,Ve zeroValue45⟩,fun _=>⟨_,_,_,rfl,Ve zeroValue45⟩,fun h=>absurd h (by decide),fun h=>absurd h (by decide),fun h=>absurd h (by decide),trivial⟩<|X5 (v:=(.pointer ((some (⟨br,0,none⟩:Addr)).map (·.add 0)))) rfl rfl (fun _=>Ux (sz:=2) (off:=0) underlying47 rfl sizeOf45 (by decide) rfl rfl ⟨_,_,rfl⟩) ?_;replace a3:=(a3.gr bi).kpp bc;refine Y9 (v:=(.agg #[.bool ah.1.1,.slice a1 ah.1.2.length a0])) rfl rfl (fun _ hC=>Xn isAgg45 sizeOf45 rfl rfl (((a3.atN).part 0 2 _ rfl).gr (hC.bl (Ze a4 an)))) ?_;refine Y9 (v:=(.agg #[.bool ah.1.1,.slice a1 ah.1.2.length a0,.slice ba ah.2.length a9])) rfl rfl (fun _ hC=>Xn isAgg47 sizeOf47 rfl rfl (a3.atN.gr (hC.bl (Ze a4 an)))) ?_;refine Ym rfl rfl ?_;intro b7 hC0;have hC:=hC0.bl (Ze a4 an);obtain ⟨b8,bu,hm⟩:=bZ hm;replace a2:=a2.keep (Zj.start col w0);replace bb:=bb.keep (Zj.start col w0);replace ac:=(((ac.grow bt).grow bi).kpp bc).grow hC;refine Zh (Qt 3 bu (a2.ks ac) (bb.ks ac)) ?_;rintro _ al ⟨ao,b9,ca,rfl,ap,aq⟩;refine ⟨_,rfl,?_⟩;refine Zk ?_;refine ⟨fun w'=>Zg (Ze al ao) al (Ze al ao) w',fun g=>(Ze al ao) g=497,Zg.refl _ _,Yk,fun _=>⟨fun _ h=>Wm hC0 ap h,fun b hb=>ap.below.block b hb,fun g x1 x2=>Wr ap g x1 (by first | exact x2 | (simp only [Xk,x2];rfl) | (simp only [Xk,Xz,x2];rfl))⟩,?_⟩;have bd:=Zz.clip (fun _=>false) ao al;refine Ym rfl rfl ?_;intro cb hC0;replace ae:=(((ae.kpp bc).gr hC).gr ap).kpp bd;have hC:=hC0.bl (Ze al ao);replace aq:=(aq.kpp bd).gr hC;replace aq:=(aq).toSlF (Zl.int .u32);replace ae:=ae.gr hC;replace ae:=ae.froz 3 (by decide)
 replace ac:=((ac.grow ap).kpp bd).grow hC;replace ac:=ac.froz 3 (by decide) (by decide);obtain ⟨cc,bv,hm⟩:=bZ hm;refine Zh (Ziv bv aq) ?_;rintro _ am ⟨ar,cd,ce,rfl,au,be⟩;refine ⟨_,rfl,?_⟩;refine Zk ?_;refine ⟨fun w'=>Zg (Ze am ar) am (Ze am ar) w',fun g=>(Ze am ar) g=497,Zg.refl _ _,Yk,fun _=>⟨fun _ h=>Wm hC0 au h,fun b hb=>au.below.block b hb,fun g x1 x2=>Wr au g x1 (by first | exact x2 | (simp only [Xk,x2];rfl) | (simp only [Xk,Xz,x2];rfl))⟩,?_⟩;have bf:=Zz.clip (fun _=>false) ar am;refine Ym rfl rfl ?_;intro cf hC0;have hC:=hC0.bl (Ze am ar);obtain ⟨ai,bw,hm⟩:=bZ hm;replace ac:=((ac.grow au).kpp bf).grow hC;replace be:=(be.kpp bf).gr hC;refine Zh (Zy4 4 5 bw (a2.ks ac) be) ?_;rintro _ aa ⟨ab,bj,bk,bm,bn,rfl,av,ak,cg⟩;refine ⟨_,rfl,?_⟩;refine Zk ?_;refine ⟨fun w'=>Zg (Ze aa ab) aa (Ze aa ab) w',fun g=>(Ze aa ab) g=497,Zg.refl _ _,Yk,fun _=>⟨fun _ h=>Wm hC0 av h,fun b hb=>av.below.block b hb,fun g x1 x2=>Wr av g x1 (by first | exact x2 | (simp only [Xk,x2];rfl) | (simp only [Xk,Xz,x2];rfl))⟩,?_⟩;have bg:=Zz.clip (fun _=>false) ab aa;refine X5 (v:=(.tuple #[(.agg #[.bool ai.1.1,.slice bj ai.1.2.length bk]),(.agg #[.bool ai.2.1.1,.slice bm ai.2.1.2.length bn]),.int .i64 ai.2.2])) rfl rfl (fun _=>W0 rfl) ?_;refine X5 (v:=(.agg #[.bool ai.1.1,.slice bj ai.1.2.length bk])) rfl rfl (fun _=>Xl rfl rfl) ?_;refine X5 (v:=(.agg #[.bool ai.2.1.1,.slice bm ai.2.1.2.length bn])) rfl rfl (fun _=>Xl rfl rfl) ?_;refine X5 (v:=(.int .i64 ai.2.2)) rfl rfl (fun _=>Xl rfl rfl) ?_;refine Qm rfl rfl (Ve zeroValue45) ?_;intro ad bx;refine Qm rfl rfl (Ve zeroValue45) ?_;intro af bo;refine Ym rfl rfl ?_;intro bp ⟨⟨hC0,hZ0⟩,hZ1⟩;replace ae:=((((ae.gr au).kpp bf).gr hC).gr av).kpp bg;have hC:=hC0.bl (Ze aa ab);obtain ⟨bh,aw⟩:=S4 (col:=(Ze aa ab)) 6 hZ0 bx;replace aw:Zn 45 6 (Zu ad 6 (Ze aa ab)) bp ad #[.bool false,.slice none (([]:List Int).length) 0]:=aw;obtain ⟨a5,ax⟩:=S4 (col:=(Zu ad 6 (Ze aa ab))) 7 hZ1 ((if_neg bo.2:Zu ad 6 _ af=_).trans bo.1);replace ax:Zn 45 7 (Zu af 7 (Zu ad 6 (Ze aa ab))) bp af #[.bool false,.slice none (([]:List Int).length) 0]:=ax;replace aw:=aw.kpp a5;refine Zw aw ?_
 intro ag a6 bz ay;refine Zk ?_;refine ⟨fun w'=>Zg (Ze ag (Zu af 7 (Zu ad 6 (Ze aa ab)))) ag (Ze ag (Zu af 7 (Zu ad 6 (Ze aa ab)))) w',fun g=>(Ze ag (Zu af 7 (Zu ad 6 (Ze aa ab)))) g=497,Zg.refl _ _,Yk,fun h=>absurd h (by decide),?_⟩;have az:=Zz.clip (fun _=>false) (Zu af 7 (Zu ad 6 (Ze aa ab))) ag;refine Ym rfl rfl ?_;intro b0 hC0;replace ac:=((((((ac.grow av).kpp bg).grow hC).kpp bh).kpp a5).kp a6 bz).kpp az;replace ak:=(((((ak.kpp bg).gr hC).kpp bh).kpp a5).kp a6).kpp az;replace ae:=((((ae.gr hC).kpp bh).kpp a5).kp a6).kpp az;have hC:Zg (Ze ag (Zu af 7 (Zu ad 6 (Ze aa ab)))) ag (Ze ag (Zu af 7 (Zu ad 6 (Ze aa ab)))) b0:=.of_below hC0.below;replace ax:=((ax.kp a6).kpp az).gr hC;refine Zw ax ?_;intro aj a7 b1 ch;refine Zk ?_;refine ⟨fun w'=>Zg (Ze aj (Ze ag (Zu af 7 (Zu ad 6 (Ze aa ab))))) aj (Ze aj (Ze ag (Zu af 7 (Zu ad 6 (Ze aa ab))))) w',fun g=>(Ze aj (Ze ag (Zu af 7 (Zu ad 6 (Ze aa ab))))) g=497,Zg.refl _ _,Yk,fun h=>absurd h (by decide),?_⟩;have a8:=Zz.clip (fun _=>false) (Ze ag (Zu af 7 (Zu ad 6 (Ze aa ab)))) aj;refine X5 (v:=(.int .i64 ai.2.2)) rfl rfl (fun _=>Uq rfl) ?_;refine Zbs ?_;replace ay:=(((ay.kpp az).gr hC).kp a7).kpp a8;replace ak:=((ak.gr hC).kp a7).kpp a8;replace ae:=((ae.gr hC).kp a7).kpp a8;replace ac:=((ac.grow hC).kp a7 b1).kpp a8;intro b2 hC;replace hC:Zg (Ze aj (Ze ag (Zu af 7 (Zu ad 6 (Ze aa ab))))) aj (Ze aj (Ze ag (Zu af 7 (Zu ad 6 (Ze aa ab))))) b2:=.of_below hC.below;refine go ?_;replace ay:=ay.gr hC;refine lV _ (Xa isAgg45 sizeOf45 ay) ?_;replace ae:=ae.gr hC;refine Zw ae ?_;intro ci bq b3 b4;refine go ?_;cases hm;replace ak:=(ak.gr hC).kp bq;replace ac:=(ac.grow hC).kp bq b3;exact ⟨rfl,_,ra b4.atN,_,_,_,rfl,ac.fin (cm [(4,c1)]),ac.fo ak⟩
theorem Zrr (s:Bool) (n d:Nat) (hd:d≠0):(if Zr (s,Zd (n % d))<0 then Zr (s,Zd (n / d)) - 1 else Zr (s,Zd (n / d)))=Zr (s,Zd n) / (d:Int):=by
 have h1:=Nat.div_add_mod n d
 have h2:=Nat.mod_lt n (Nat.pos_of_ne_zero hd)
 generalize hq:n / d=q at *
 generalize hr:n % d=r at *
 have e:(n:Int)=(d:Int) * (q:Int)+(r:Int):=by rw [← h1];simp
 simp only [Zr,Z0]
 cases s with
 | false=>
  simp only [Bool.false_eq_true,↓reduceIte]
  rw [if_neg (by omega)]
  refine ((Int.ediv_emod_unique (a:=(n:Int)) (r:=(r:Int)) (q:=(q:Int)) (show (0:Int)<d by omega)).2 ⟨?_,by omega,by omega⟩).1.symm
  rw [e,Int.add_comm]
 | true=>
  rw [if_pos rfl,if_pos rfl,if_pos rfl]
  by_cases h0:r=0
  ·subst h0
   rw [if_neg (by omega)]
   refine ((Int.ediv_emod_unique (a:= -(n:Int)) (r:=0) (q:= -(q:Int)) (show (0:Int)<d by omega)).2 ⟨?_,by omega,by omega⟩).1.symm
   rw [e,Int.mul_neg];omega
  ·rw [if_pos (by omega)]
   refine ((Int.ediv_emod_unique (a:= -(n:Int)) (r:=(d:Int) - r) (q:= -(q:Int) - 1) (show (0:Int)<d by omega)).2 ⟨?_,by omega,by omega⟩).1.symm
   rw [e,Int.mul_sub,Int.mul_neg,Int.mul_one];omega
theorem Zxt (a:ZV):Zr (a.1,Zd (Zb a.2))=Zr a:=by
 simp only [Zr,Z0]
theorem Zlo (s:Bool) (n:Nat):(Zs (Zr (s,Zd n))).2.length≤(Zd n).length:=Zok (a:=(s,Zd n)) (Z2 _)
section
variable {N k l:Nat} {a:ZV} {d:Nat} (hm:Zp a.2) (hk:a.2.length≤k) (hd:d≠0) (hl:(Zd d).length≤l) (hr:Xe N (k+l+8))
include hm hk hd hl hr
theorem Z43:Zh4 N a (false,Zd d)=some (Zs (Zr (a.1,Zd (Zb a.2 / d))),Zs (Zr (a.1,Zd (Zb a.2 % d))),0):=by
 have h1:(Zd (Zb a.2 / d)).length≤k:=Nat.le_trans (Y3 (Nat.div_le_self _ _)) (Nat.le_trans (X0 hm) hk)
 have h2:(Zd (Zb a.2 % d)).length≤k:=Nat.le_trans (Y3 (Nat.mod_le _ _)) (Nat.le_trans (X0 hm) hk)
 have e:=Ziy (N:=N) hm (Z2 d) (by have:=hr.1;omega) (by have:=hr.2;omega)
 have f:(!decide (a.1=false))=a.1:=by cases a.1 <;> rfl
 rw [Z0,if_neg hd] at e
 rw [Zh4,e,Option.bind_some,if_neg (show ¬ (!decide ((0:Int)=0))=true by decide),f,Zal (Z2 _) h1 (hr.mono (by omega)),Option.bind_some,Zal (Z2 _) h2 (hr.mono (by omega)),Option.bind_some]
theorem Z4c:Zhb N a (false,Zd d)=some (Zs (Zr (a.1,Zd (Zb a.2 / d))),Zs (Zr (a.1,Zd (Zb a.2 % d))),0):=by
 have h1:(Zd (Zb a.2 / d)).length≤k:=Nat.le_trans (Y3 (Nat.div_le_self _ _)) (Nat.le_trans (X0 hm) hk)
 have h2:(Zd (Zb a.2 % d)).length≤k:=Nat.le_trans (Y3 (Nat.mod_le _ _)) (Nat.le_trans (X0 hm) hk)
 have e:=Zpe (N:=N) hm (Z2 d) (by rw [Z0];have:=hr.1;omega) (by have:=hr.1;omega) (by rw [Z0];have:=hr.2;omega) (by have:=hr.2;omega)
 have f:(!decide (a.1=false))=a.1:=by cases a.1 <;> rfl
 rw [Z0,if_neg hd] at e
 rw [Zhb,e,Option.bind_some,if_neg (show ¬ (!decide ((0:Int)=0))=true by decide),f,Zai (Z2 _) h1 (hr.mono (by omega)),Option.bind_some,Zai (Z2 _) h2 (hr.mono (by omega)),Option.bind_some]
theorem Z4x:∃ t,Zka N a (false,Zd d)=some (Zs (Zr a / (d:Int)),t):=by
 have h1:(Zd (Zb a.2 / d)).length≤k:=Nat.le_trans (Y3 (Nat.div_le_self _ _)) (Nat.le_trans (X0 hm) hk)
 have h2:(Zd (Zb a.2 % d)).length≤k:=Nat.le_trans (Y3 (Nat.mod_le _ _)) (Nat.le_trans (X0 hm) hk)
 have l1:=Nat.le_trans (Zlo a.1 (Zb a.2 / d)) h1
 have l2:=Nat.le_trans (Zlo a.1 (Zb a.2 % d)) h2
 have h:=Zrr a.1 (Zb a.2) d hd
 rw [Zxt] at h
 have hq:Zh4 N (a.1,a.2) ((false,Zd d).1,(false,Zd d).2)=_:=Z43 hm hk hd hl hr
 have s1:Sw N (((Zs (Zr (a.1,Zd (Zb a.2 % d)))).1,(Zs (Zr (a.1,Zd (Zb a.2 % d)))).2))=some (Zr (a.1,Zd (Zb a.2 % d))).sign:=by
  have:=Zig (N:=N) (a:=Zs (Zr (a.1,Zd (Zb a.2 % d)))) (Yj _) l2 (hr.mono (by omega))
  rwa [Yt] at this
 have s2:Sw N (((false,Zd d):ZV).1,((false,Zd d):ZV).2)=some 1:=by
  have:=Zig (N:=N) (a:=(false,Zd d)) (Z2 _) hl (hr.mono (by omega))
  rw [Zij,Int.sign_eq_one_of_pos (by omega)] at this
  exact this
 have hz:-1≤(Zr (a.1,Zd (Zb a.2 % d))).sign∧(Zr (a.1,Zd (Zb a.2 % d))).sign≤1:=by
  rcases Int.lt_trichotomy (Zr (a.1,Zd (Zb a.2 % d))) 0 with g | g | g
  ·rw [Int.sign_eq_neg_one_of_neg g];decide
  ·rw [g];decide
  ·rw [Int.sign_eq_one_of_pos g];decide
 rw [Zka,hq,Option.bind_some,if_neg (show ¬ (!decide ((0:Int)=0))=true by decide),s1,Option.bind_some,s2,Option.bind_some,Int.mul_one,Zt (by omega)]
 by_cases hn:Zr (a.1,Zd (Zb a.2 % d))<0
 ·rw [if_pos hn] at h
  have o1:Zc3 N 1=some (Zs 1):=Zpw (by omega) (hr.mono (by omega))
  have lo:(Zs 1).2.length≤1:=by rw [Vm];simp [W8]
  have su:=Zxq (N:=N) (a:=Zs (Zr (a.1,Zd (Zb a.2 / d)))) (b:=Zs 1) (Yj _) (Yj _) l1 lo (hr.mono (by omega))
  have ad:=Zps (N:=N) (a:=Zs (Zr (a.1,Zd (Zb a.2 % d)))) (b:=(false,Zd d)) (Yj _) (Z2 _) l2 hl (hr.mono (by omega))
  rw [Yt,Yt,h] at su
  have su':Ze4 N ((Zs (Zr (a.1,Zd (Zb a.2 / d)))).1,(Zs (Zr (a.1,Zd (Zb a.2 / d)))).2) ((Zs 1).1,(Zs 1).2)=_:=su
  have ad':Zc2 N ((Zs (Zr (a.1,Zd (Zb a.2 % d)))).1,(Zs (Zr (a.1,Zd (Zb a.2 % d)))).2) (((false,Zd d):ZV).1,((false,Zd d):ZV).2)=_:=ad
  rw [Int.sign_eq_neg_one_of_neg hn,Zh2,if_neg (by decide),o1,Option.bind_some,su',Option.bind_some,ad',Option.bind_some]
  exact ⟨_,rfl⟩
 ·rw [if_neg hn] at h
  rw [decide_eq_true (Int.sign_nonneg_iff.2 (by omega)),Zh2,if_pos rfl,h]
  exact ⟨_,rfl⟩
theorem Z32:∃ t,Zjv N a (false,Zd d)=some (Zs (Zr a / (d:Int)),t):=by
 have h1:(Zd (Zb a.2 / d)).length≤k:=Nat.le_trans (Y3 (Nat.div_le_self _ _)) (Nat.le_trans (X0 hm) hk)
 have h2:(Zd (Zb a.2 % d)).length≤k:=Nat.le_trans (Y3 (Nat.mod_le _ _)) (Nat.le_trans (X0 hm) hk)
 have l1:=Nat.le_trans (Zlo a.1 (Zb a.2 / d)) h1
 have l2:=Nat.le_trans (Zlo a.1 (Zb a.2 % d)) h2
 have h:=Zrr a.1 (Zb a.2) d hd
 rw [Zxt] at h
 have hq:Zhb N (a.1,a.2) ((false,Zd d).1,(false,Zd d).2)=_:=Z4c hm hk hd hl hr
 have s1:Tz N (((Zs (Zr (a.1,Zd (Zb a.2 % d)))).1,(Zs (Zr (a.1,Zd (Zb a.2 % d)))).2))=some (Zr (a.1,Zd (Zb a.2 % d))).sign:=by
  have:=Zfc (N:=N) (a:=Zs (Zr (a.1,Zd (Zb a.2 % d)))) (Yj _) l2 (hr.mono (by omega))
  rwa [Yt] at this
 have s2:Tz N (((false,Zd d):ZV).1,((false,Zd d):ZV).2)=some 1:=by
  have:=Zfc (N:=N) (a:=(false,Zd d)) (Z2 _) hl (hr.mono (by omega))
  rw [Zij,Int.sign_eq_one_of_pos (by omega)] at this
  exact this
 rw [Zjv,hq,Option.bind_some,if_neg (show ¬ (!decide ((0:Int)=0))=true by decide),s1,Option.bind_some]
 by_cases hn:Zr (a.1,Zd (Zb a.2 % d))<0
 ·rw [if_pos hn] at h
  have o1:Sq N 1=some (Zs 1):=Zkm (by omega) (hr.mono (by omega))
  have lo:(Zs 1).2.length≤1:=by rw [Vm];simp [W8]
  have su:=Zwu (N:=N) (a:=Zs (Zr (a.1,Zd (Zb a.2 / d)))) (b:=Zs 1) (Yj _) (Yj _) l1 lo (hr.mono (by omega))
  have ad:=Zmv (N:=N) (a:=Zs (Zr (a.1,Zd (Zb a.2 % d)))) (b:=(false,Zd d)) (Yj _) (Z2 _) l2 hl (hr.mono (by omega))
  rw [Yt,Yt,h] at su
  have su':Zef N ((Zs (Zr (a.1,Zd (Zb a.2 / d)))).1,(Zs (Zr (a.1,Zd (Zb a.2 / d)))).2) ((Zs 1).1,(Zs 1).2)=_:=su
  have ad':Zaa N ((Zs (Zr (a.1,Zd (Zb a.2 % d)))).1,(Zs (Zr (a.1,Zd (Zb a.2 % d)))).2) (((false,Zd d):ZV).1,((false,Zd d):ZV).2)=_:=ad
  rw [Int.sign_eq_neg_one_of_neg hn,if_pos (by decide),Option.bind_some,s2,Option.bind_some,Zee,if_pos (by decide),o1,Option.bind_some,su',Option.bind_some,ad',Option.bind_some,Zed]
  exact ⟨_,rfl⟩
 ·rw [if_neg hn] at h
  by_cases hz:Zr (a.1,Zd (Zb a.2 % d))=0
  ·rw [hz,if_neg (by decide),Zee,if_neg (by decide),Zed,h]
   exact ⟨_,rfl⟩
  ·rw [Int.sign_eq_one_of_pos (by omega),if_pos (by decide),Option.bind_some,s2,Option.bind_some,Zee,if_neg (by decide),Zed,h]
   exact ⟨_,rfl⟩
end
def V6 (q:Rat):Int:=q.num / (q.den:Int)
theorem Zt9 (q:Rat):Zr (Zm q).1=q.num:=by
 rw [Zm];exact Yt _
theorem Zt7 (q:Rat):Xx (Zm q).2=q.den:=by
 rw [Zm];exact Zru q.den_nz
theorem Z02 {N k:Nat} {q:Rat} (hq:qs q≤k) (hr:Xe N (2 * k+16)):Zi7 N (((Zm q).1.1,(Zm q).1.2),(Zm q).2)=some (Zs (V6 q)):=by
 have hv:=Y2 hq
 have u:Vy N (((Zm q).1.1,(Zm q).1.2),(Zm q).2)=some (Zd q.den):=by
  have:=Zak hv (N:=N) (hr.mono (by omega))
  rwa [Zt7] at this
 have hl:(Zd q.den).length≤k:=Nat.le_trans (Nat.le_max_right _ _) hq
 obtain ⟨t,ht⟩:=Z4x (N:=N) (a:=((Zm q).1.1,(Zm q).1.2)) hv.m hv.lm q.den_nz hl (hr.mono (by omega))
 rw [Zi7,u,Option.bind_some,ht,Option.bind_some]
 have:Zr ((Zm q).1.1,(Zm q).1.2)=q.num:=Zt9 q
 rw [this];rfl
theorem Z31 {N k:Nat} {q:Rat} (hq:qs q≤k) (hr:Xe N (2 * k+16)):Zjw N (((Zm q).1.1,(Zm q).1.2),(Zm q).2)=some (Zs (V6 q)):=by
 have hv:=Y2 hq
 have u:U7 N (((Zm q).1.1,(Zm q).1.2),(Zm q).2)=some (Zd q.den):=by
  have:=Zc8 hv (N:=N) (hr.mono (by omega))
  rwa [Zt7] at this
 have hl:(Zd q.den).length≤k:=Nat.le_trans (Nat.le_max_right _ _) hq
 obtain ⟨t,ht⟩:=Z32 (N:=N) (a:=((Zm q).1.1,(Zm q).1.2)) hv.m hv.lm q.den_nz hl (hr.mono (by omega))
 rw [Zjw,u,Option.bind_some,Sr,Option.bind_some,ht,Option.bind_some]
 have:Zr ((Zm q).1.1,(Zm q).1.2)=q.num:=Zt9 q
 rw [this];rfl
theorem Z09 (q:Rat):q<(V6 q:Rat)+1:=by
 have hd:(0:Int)<q.den:=by have:=q.den_nz;omega
 have h:q.num<(V6 q+1) * (q.den:Int):=by
  have h1:=Int.emod_lt_of_pos q.num hd
  have h2:=Int.mul_ediv_add_emod q.num q.den
  rw [V6,Int.add_mul,Int.one_mul,Int.mul_comm];omega
 have e:(V6 q:Rat)+1=mkRat (V6 q+1) 1:=by
  rw [Rat.mkRat_one];simp
 rw [e]
 conv=>lhs;rw [← Rat.mkRat_self q]
 rw [Zbm q.den_nz (by decide)]
 simpa using h
theorem Zn9 (q:Rat):(Zs (V6 q)).2.length≤qs q+1:=by
 rw [Vm]
 have hd:(0:Int)<q.den:=by have:=q.den_nz;omega
 have h:(V6 q).natAbs≤q.num.natAbs+1:=by
  have h1:=Int.natAbs_ediv_le_natAbs q.num q.den
  rw [V6];omega
 refine Nat.le_trans (Y3 h) (Zft (Nat.le_max_left _ _) ?_)
 rw [W8]
 exact Zuz q
def Zon (aa:Int) (kk_L1:(Int→R2→Option Rd)) (ab:List Int):Option Rd:=
  kk_L1 (i64.wrap (aa+1)) ab
def Zlt (ab:Int) (aa:Int) (ac:List Int) (kk_L1:(Int→R2→Option Rd)) (ad:Int):Option Rd:=
  (Zo ac aa).bind fun ae=>Z1 (0≤(Int.tmod (i64.wrap (-ab)) 32)) ((some (ac.set (Int.toNat aa) (u32.wrap (X4 .u64 (Yi .u64 (Xq .u64 ad 32) (u64.wrap ae)) (Int.tmod (i64.wrap (-ab)) 32))))).bind fun af=>Zon aa kk_L1 af)
def Zcg (N:Nat) (ac:Int) (ad:List Int):Nat→Int→R2→Option Rd
  | 0,_,_=>none
  | ae+1,aa,ab=>if (decide (aa<(ad.length:Int)))=true then (if (decide ((i64.wrap (aa+1))<(ab.length:Int)))=true then ((Zo ab (i64.wrap (aa+1))).bind fun af=>Zlt ac aa ab (Zcg N ac ad ae) (u64.wrap af)) else (Zlt ac aa ab (Zcg N ac ad ae) 0)) else ((Ua N ab).bind fun ag=>some (ag,0))
termination_by structural x=>x
def Zjj (N:Nat) (ae:List Int) (aa:Int) (af:Bool):Option Rd:=
  if af=true then (some (([]:List Int),3)) else ((Un N ae).bind fun ab=>if (decide (0≤aa))=true then (Z1 (((Int.toNat (i64.wrap ((i64.wrap ((i64.wrap (Int.tdiv aa 32))+(ab.length:Int)))+1))) * 4≤281474976710656∧(Int.toNat (i64.wrap ((i64.wrap ((i64.wrap (Int.tdiv aa 32))+(ab.length:Int)))+1)))≤maxLen∧0≤(i64.wrap ((i64.wrap ((i64.wrap (Int.tdiv aa 32))+(ab.length:Int)))+1)))∧0≤(i64.wrap (Int.tdiv aa 32))∧(Int.toNat (i64.wrap (Int.tdiv aa 32)))≤(Int.toNat (i64.wrap ((i64.wrap ((i64.wrap (Int.tdiv aa 32))+(ab.length:Int)))+1)))) ((Zd1 ab (Int.tmod aa 32)).bind fun ac=>Z1 (((List.replicate (Int.toNat (i64.wrap (Int.tdiv aa 32))) (0:Int)).length+ac.length) * 4≤140737488355328∧(List.replicate (Int.toNat (i64.wrap (Int.tdiv aa 32))) (0:Int)).length+ac.length≤maxLen) ((Ua N ((List.replicate (Int.toNat (i64.wrap (Int.tdiv aa 32))) (0:Int))++ac)).bind fun ag=>some (ag,0)))) else (if (decide ((ab.length:Int)≤(i64.wrap (Int.tdiv (i64.wrap (-aa)) 32))))=true then (some (([]:List Int),0)) else (Z1 ((0:Int)≤(i64.wrap (Int.tdiv (i64.wrap (-aa)) 32))∧(i64.wrap (Int.tdiv (i64.wrap (-aa)) 32))≤(ab.length:Int)) ((Zc1 (ab.drop (Int.toNat (i64.wrap (Int.tdiv (i64.wrap (-aa)) 32))))).bind fun ad=>Zcg N aa ad N 0 ad))))
def Zji (N:Nat) (ab:List Int) (aa:Int):Option Rd:=
  if (decide (aa<(-262144)))=true then (Zjj N ab aa true) else (Zjj N ab aa (decide (262144<aa)))
theorem Zyy {N az:Nat} {a0:Option Addr} {col:Zf} {w0:World} {al:R2} {aa:Int} {r:Rd} (c1:Nat) (hm:Zji N al aa=some r) (h0:Sl (Za.int .u32) col w0 a0 az al):
    Calls Tryz.prog 233 #[.slice a0 al.length az,.int .i64 aa] w0 (fun e w'=>∃ (col':Zf) (ra1:Option Addr) (rc2:Nat),e= .returned (.tuple #[.slice ra1 r.1.length rc2,.int .i64 r.2])∧Zg col w0 col' w'∧Zc (Za.int .u32) 79 c1 col' w' ra1 rc2 r.1):=by
 refine Zdg 4 5 (m:=82) (args:=[.slice a0 al.length az,.int .i64 aa]) func233 rfl rfl rfl rfl rfl ?_;rw [Zji.eq_1] at hm;have ab:=St.start col w0;refine Zy<|Wd<|Tt rfl<|Yu rfl<|Zk<|Zy<|Zy ?_;replace h0:=h0.keep (Zj.start col w0);refine Wp.cutK [0,1,1000000] (fun f bg=>∃ bh a1,Zjj N al aa a1=some r∧St w0 (Zi col) bh bg∧[15].map f=[.bool a1]) ?_ ?_
 ·intro f bg hJ;obtain ⟨bh,a1,hm,ab,hs⟩:=hJ;rw [Zjj.eq_1] at hm;refine .lL [15] hs ?_;refine Zq hm (fun hb hm=>go ?_) fun hb hm=>go ?_
  ·cases hm;exact ⟨rfl,_,none,0,rfl,ab.fin (cm []),Zc.nil⟩
  obtain ⟨ao,bo,hm⟩:=bZ hm;refine Zh (Tp bo (h0.ks ab)) ?_;rintro _ bp ⟨bq,ap,am,rfl,br,aq⟩;refine ⟨_,rfl,go ?_⟩;replace ab:=ab.grow br;refine Zq hm (fun hb hm=>go ?_) fun hb hm=>go ?_
  ·refine lV (.int .i64 (i64.wrap (Int.tdiv aa 32))) (Wy aa 32 rfl rfl (by decide))<|Xo rfl<|lV (.int .i64 (i64.wrap (Int.tdiv aa 32))) (Wy aa 32 rfl rfl (by decide))<|go ?_;obtain ⟨an,hm⟩:=Z3 hm;refine Z1v (col:=bq) (w:=bp) (r:=(Za.int .u32)) (l:=(Int.toNat (i64.wrap (Int.tdiv aa 32)))) (n:=(Int.toNat (i64.wrap ((i64.wrap ((i64.wrap (Int.tdiv aa 32))+(ao.length:Int)))+1)))) (x0:=0) 1 rfl underlying43 Tryz.t79 rfl rfl rfl rfl rfl (congrArg (Value.int _) (Int.toNat_of_nonneg an.2.1).symm) (congrArg (Value.int _) (Int.toNat_of_nonneg an.1.2.2).symm) an.1.1 an.1.2.1 an.2.2 (S3 .u32 0) ?_;intro cb cc cd bi a2;refine go ?_;refine lV (.int .i64 (Int.tmod aa 32)) (U8 aa 32 rfl rfl (by decide)) ?_;obtain ⟨ce,bs,hm⟩:=bZ hm;replace aq:=aq.gr bi;refine Zh (Znn 2 bs aq) ?_;rintro _ cf ⟨cg,ch,ci,rfl,bj,bt⟩;refine ⟨_,rfl,?_⟩;obtain ⟨bu,hm⟩:=Z3 hm;replace a2:=a2.gr bj;refine Ws a2 (bt.srcN (NB.int (k:=.u32))) bu ?_;intro cj ck bv a3 bw bx;obtain ⟨cl,bz,hm⟩:=bZ hm;refine Zh (Tf 3 bz (bx.toSlF (Zl.int .u32))) ?_;rintro _ cn ⟨b0,co,cp,rfl,ar,a4⟩;refine ⟨_,rfl,?_⟩;replace a4:=a4.thaw (Zv .u32) ar ((Fz.refl (col:=a3)).froz 1) (by decide);replace ar:=ar.thawR (col:=a3);generalize Z4 bv.heap.size a3 b0=cq at *;refine go ?_;cases hm;replace ab:=(((ab.grow bi).grow bj).kpp bw).grow ar;exact ⟨rfl,_,_,_,rfl,ab.fin (cm [(3,c1)]),ab.fo a4⟩
  refine lV (.int .i64 (i64.wrap (Int.tdiv (i64.wrap (-aa)) 32))) (Wy (i64.wrap (-aa)) 32 rfl rfl (by decide))<|go ?_;refine Zq hm (fun hb hm=>go ?_) fun hb hm=>go ?_
  ·cases hm;exact ⟨rfl,_,none,0,rfl,ab.fin (cm []),Zc.nil⟩
  refine lV (.int .i64 (i64.wrap (Int.tdiv (i64.wrap (-aa)) 32))) (Wy (i64.wrap (-aa)) 32 rfl rfl (by decide)) ?_;obtain ⟨bk,hm⟩:=Z3 hm;have b1:=aq.drop (sz:=1) rfl (Int.toNat (i64.wrap (Int.tdiv (i64.wrap (-aa)) 32)));refine lv (v:=.slice (if am=(Int.toNat (i64.wrap (Int.tdiv (i64.wrap (-aa)) 32))) then ap else ap.map (·.add ((Int.toNat (i64.wrap (Int.tdiv (i64.wrap (-aa)) 32))) * 1))) (ao.length - (Int.toNat (i64.wrap (Int.tdiv (i64.wrap (-aa)) 32)))) (am - (Int.toNat (i64.wrap (Int.tdiv (i64.wrap (-aa)) 32))))) rfl rfl (Zvf underlying43 sizeOf79 rfl rfl bk.1 bk.2) ?_;generalize (if am=(Int.toNat (i64.wrap (Int.tdiv (i64.wrap (-aa)) 32))) then ap else ap.map (·.add ((Int.toNat (i64.wrap (Int.tdiv (i64.wrap (-aa)) 32))) * 1)))=bm at *;refine .ld (d:=46) (v:=(.slice bm ((ao.drop (Int.toNat (i64.wrap (Int.tdiv (i64.wrap (-aa)) 32)))).length) (am - (Int.toNat (i64.wrap (Int.tdiv (i64.wrap (-aa)) 32)))))) (congrArg (fun n=>Value.slice bm n (am - (Int.toNat (i64.wrap (Int.tdiv (i64.wrap (-aa)) 32))))) (List.length_drop (i:=(Int.toNat (i64.wrap (Int.tdiv (i64.wrap (-aa)) 32)))) (l:=ao)).symm) ?_;obtain ⟨a5,b2,hm⟩:=bZ hm;refine Zh (Zlh 4 b2 b1) ?_;rintro _ cr ⟨cs,ct,cu,rfl,b3,b4⟩;refine ⟨_,rfl,go ?_⟩;replace ab:=ab.grow b3;refine Z8 [1,49,1000000] (fun n f au=>∃ ag ah ai aj ae af,af=n∧Zcg N aa a5 af ah ae=some r∧St w0 (Zi col) ag au∧Zc (Za.int .u32) 79 4 ag au ai aj ae∧[50,7].map f=[.int .i64 ah,.slice ai ae.length aj]) N ⟨_,0,_,_,_,_,rfl,hm,ab,b4,rfl⟩ ?_;clear hm;intro n f au hI;obtain ⟨ag,ah,ai,aj,ae,af,hn,hm,ab,ac,hs⟩:=hI;subst hn;refine .lL [50,7] hs ?_
  cases af with
  | zero=>rw [Zcg.eq_1] at hm;cases hm
  | succ af=>
   rw [Zcg.eq_2] at hm;refine go ?_;refine Zq hm (fun hb hm=>?_) fun hb hm=>go ?_
   ·refine X8<|Zy ?_;refine Wp.cutK [1,49,50,1000000] (fun f a6=>∃ a7 a8 a9 av,Zon ah (Zcg N aa a5 af) av=some r∧St w0 (Zi col) a7 a6∧Zc (Za.int .u32) 79 4 a7 a6 a8 a9 av∧[7].map f=[.slice a8 av.length a9]) ?_ ?_
    ·intro f a6 hJ;obtain ⟨a7,a8,a9,av,hm,ab,b5,hs⟩:=hJ;rw [Zon.eq_1] at hm;refine .lL [7] hs<|go ?_;exact ⟨af,by omega,rfl,⟨_,_,_,_,_,_,rfl,hm,ab,b5,rfl⟩⟩
    refine Zdc<|Zy<|Wd<|Xo rfl<|Yu rfl<|Zk<|Zy<|Wd<|Yu rfl<|Zk<|Zy ?_;refine Wp.cutK [1,49,50,7,8,1000000] (fun f ba=>∃ bb ad,Zlt aa ah ae (Zcg N aa a5 af) ad=some r∧St w0 (Zi col) bb ba∧Zc (Za.int .u32) 79 4 bb ba ai aj ae∧[9].map f=[.int .u64 ad]) ?_ ?_
    ·intro f ba hJ;obtain ⟨bb,ad,hm,ab,ac,hs⟩:=hJ;rw [Zlt.eq_1] at hm;refine .lL [9] hs<|go ?_;refine lV (.int .u64 (Xq .u64 ad 32)) (Zbo ad 32 rfl rfl (by decide))<|go ?_;obtain ⟨aw,ak,hm⟩:=bZ hm;refine lI ak (ac.addr ak)<|lW (ac.atInt ak) ?_;refine go ?_;refine lV (.int .i64 (Int.tmod (i64.wrap (-aa)) 32)) (U8 (i64.wrap (-aa)) 32 rfl rfl (by decide)) ?_;obtain ⟨b6,hm⟩:=Z3 hm;refine lV (.int .u64 (X4 .u64 (Yi .u64 (Xq .u64 ad 32) (u64.wrap aw)) (Int.tmod (i64.wrap (-aa)) 32))) (Tl (Yi .u64 (Xq .u64 ad 32) (u64.wrap aw)) (Int.tmod (i64.wrap (-aa)) 32) rfl rfl b6)<|go ?_;refine lI ak (ac.addr ak) ?_;obtain ⟨bc,ax,hm⟩:=bZ hm;have ax:bc=ae.set (Int.toNat ah) (u32.wrap (X4 .u64 (Yi .u64 (Xq .u64 ad 32) (u64.wrap aw)) (Int.tmod (i64.wrap (-aa)) 32))):=(Option.some.inj ax).symm;refine Yz (x1:=u32.wrap (X4 .u64 (Yi .u64 (Xq .u64 ad 32) (u64.wrap aw)) (Int.tmod (i64.wrap (-aa)) 32))) ac ak ?_;intro cv b7 b8 bn;rw [← ax] at bn;refine .ld (d:=7) (v:=(.slice ai bc.length aj)) (congrArg (fun n=>Value.slice ai n aj) (show ae.length=bc.length by rw [ax,List.length_set])) ?_;refine Zk ?_;replace ab:=ab.kp b7 b8;exact ⟨rfl,_,_,_,_,hm,ab,bn,rfl⟩
    refine go ?_;refine Zq hm (fun hb hm=>go ?_) fun hb hm=>?_
    ·obtain ⟨cw,bd,hm⟩:=bZ hm;refine lI bd (ac.addr bd)<|lW (ac.atInt bd) ?_;refine go ?_;exact ⟨rfl,_,_,hm,ab,ac,rfl⟩
    refine X8 ?_;exact ⟨rfl,_,0,hm,ab,ac,rfl⟩
   obtain ⟨cx,b9,hm⟩:=bZ hm;refine Zh (Tf 5 b9 (ac.toSlF (Zl.int .u32))) ?_;rintro _ cy ⟨ca,cz,c0,rfl,ay,be⟩;refine ⟨_,rfl,?_⟩;replace be:=be.thaw (Zv .u32) ay ((Fz.refl (col:=ag)).froz 4) (by decide);replace ay:=ay.thawR (col:=ag);generalize Z4 au.heap.size ag ca=c2 at *;refine go ?_;cases hm;replace ab:=ab.grow ay;exact ⟨rfl,_,_,_,rfl,ab.fin (cm [(5,c1)]),ab.fo be⟩
 refine go ?_;refine Xv hm (fun bf hm=>go ?_) fun bf hm=>go ?_
 ·refine lV (.bool true) (Xj (congrArg Value.bool bf) rfl)<|Zk ?_;exact ⟨rfl,_,_,hm,ab,rfl⟩
 refine lV (.bool (decide (262144<aa))) (Xs (congrArg Value.bool bf) rfl)<|Zk ?_;exact ⟨rfl,_,_,hm,ab,rfl⟩
def Zdo (N:Nat):Nat→Int→R2→Option R1
  | 0,_,_=>none
  | ac+1,aa,ab=>if (decide (0<aa))=true then ((Zji N ab (if 262144<aa then 262144 else aa)).bind fun ad=>(Zdo N ac) (i64.wrap (aa - (if 262144<aa then 262144 else aa))) ad.1) else (some ((false,ab),[1]))
termination_by structural x=>x
def Zi5 (N:Nat) (aa:Int):Option R1:=
  Zdo N N aa [1]
theorem Zya {N:Nat} {col:Zf} {w0:World} {aq:Int} {r:R1} (c1 c2:Nat) (hm:Zi5 N aq=some r):
    Calls Tryz.prog 129 #[.int .i64 aq] w0 (fun e w'=>∃ (col':Zf) (ra1:Option Addr) (rc2:Nat) (ra4:Option Addr) (rc5:Nat),e= .returned ((.agg #[.bool r.1.1,.slice ra1 r.1.2.length rc2,.slice ra4 r.2.length rc5]))∧Zg col w0 col' w'∧Zc (Za.int .u32) 79 c1 col' w' ra1 rc2 r.1.2∧Zc (Za.int .u32) 79 c2 col' w' ra4 rc5 r.2):=by
 refine X2 (m:=23) func129 rfl rfl rfl ?_;rw [Zi5.eq_1] at hm;have aa:=St.start col w0;refine go ?_;refine Xf (col:=(Zi col)) #[.bool false,.slice none (([]:List Int).length) 0,.slice none (([]:List Int).length) 0] 1 zeroValue47 ?_;intro aw a5 ax ay ab;refine go ?_;refine Wx (col:=ax) [1] 2 ?_;intro a6 a7 a8 ar az;refine go ?_;replace aa:=(aa.grow ay).grow ar;replace ab:=ab.gr ar;refine Z8 [2,1000000] (fun n f ag=>∃ ac ad ah ai ae af,af=n∧Zdo N af ad ae=some r∧St w0 (Zi col) ac ag∧Zn 47 1 ac ag aw #[.bool false,.slice none (([]:List Int).length) 0,.slice none (([]:List Int).length) 0]∧Zc (Za.int .u32) 79 2 ac ag ah ai ae∧[0,3].map f=[.int .i64 ad,.slice ah ae.length ai]) N ⟨_,_,_,1,_,_,rfl,hm,aa,ab,az,rfl⟩ ?_;clear hm;intro n f ag hI;obtain ⟨ac,ad,ah,ai,ae,af,hn,hm,aa,ab,al,hs⟩:=hI;subst hn;refine .lL [0,3] hs ?_
 cases af with
 | zero=>rw [Zdo.eq_1] at hm;cases hm
 | succ af=>
  rw [Zdo.eq_2] at hm;refine go ?_;refine Zq hm (fun hb hm=>go ?_) fun hb hm=>go ?_
  ·refine lV (.int .i64 (if 262144<ad then 262144 else ad)) (Zms ad 262144 rfl rfl)<|go ?_;obtain ⟨am,a0,hm⟩:=bZ hm;refine Zh (Zyy 3 a0 (al.toSlF (Zl.int .u32))) ?_;rintro _ a9 ⟨a1,au,av,rfl,aj,ak⟩;refine ⟨_,rfl,?_⟩;replace ak:=ak.thaw (Zv .u32) aj ((Fz.refl (col:=ac)).froz 2) (by decide);replace aj:=aj.thawR (col:=ac);generalize Z4 ag.heap.size ac a1=ba at *;refine lM (.tuple #[.slice au am.1.length av,.int .i64 am.2])<|lV (.slice au am.1.length av) (Xl rfl rfl)<|lV (.int .i64 am.2) (Xl rfl rfl)<|go ?_;replace ak:=ak.recolSelf 2 (by decide);replace ab:=ab.gr aj;replace ab:=ab.recol 3 2 (by decide);replace aa:=aa.grow aj;replace aa:=aa.recol 3 2 (by decide) (by decide);exact ⟨af,by omega,rfl,⟨_,_,_,_,_,_,rfl,hm,aa,ab,ak,rfl⟩⟩
  refine lV (.agg #[.bool false,.slice ah ae.length ai]) (Yc (l:=[_,_]) (qs:=[(0,1),(1,1)]) underlying45 zeroValue45 ⟨rfl,sizeOf4,rfl,sizeOf43,trivial⟩ rfl)<|Wx (col:=ac) [1] 4 ?_;intro a2 bb bc an ao;refine lV (.agg #[.bool false,.slice ah ae.length ai,.slice a2 ([1].length) 1]) (Yc (l:=[_,_]) (qs:=[(0,2),(2,1)]) underlying47 zeroValue47 ⟨rfl,sizeOf45,rfl,sizeOf43,trivial⟩ rfl) ?_;replace ab:=ab.gr an;refine Zw ab ?_;intro bd ap a3 a4;refine go ?_;cases hm;replace al:=(al.gr an).kp ap;replace aa:=(aa.grow an).kp ap a3;replace ao:=ao.kp ap;exact ⟨rfl,_,ra a4.atN,_,_,_,_,1,rfl,aa.fin (cm [(2,c1),(4,c2)]),aa.fo al,aa.fo ao⟩
theorem Z4g {N x n:Nat} (hn:n≤262144) (hx:(Zd x).length+8400≤1099511627776) (hN:(Zd x).length+8400<N):Zji N (Zd x) (n:Int)=some (Zd (x * 2 ^ n),0):=by
 have e1:i64.wrap (Int.tdiv (n:Int) 32)=((n / 32:Nat):Int):=by rw [Int.tdiv_eq_ediv_of_nonneg (by omega),Zt (by omega)];omega
 have e2:Int.tmod (n:Int) 32=((n % 32:Nat):Int):=by rw [Int.tmod_eq_emod_of_nonneg (by omega)];omega
 have e3:i64.wrap (i64.wrap (((n / 32:Nat):Int)+((Zd x).length:Int))+1)=((n / 32+(Zd x).length+1:Nat):Int):=by
  rw [Zt (x:=((n / 32:Nat):Int)+((Zd x).length:Int)) (by omega),Zt (by omega)];omega
 obtain ⟨o,o1,o2,o3,o4,_⟩:=Zoh (a:=Zd x) (s:=n % 32) (by omega) (Z2 _) (by omega)
 have ow:=T5 (N:=N) (a:=List.replicate (n / 32) 0++o) ((Zp.zeros _).app o3) (by rw [List.length_append,List.length_replicate,o2];omega) (by rw [List.length_append,List.length_replicate,o2];omega)
 have v:Zb (List.replicate (n / 32) 0++o)=x * 2 ^ n:=by
  rw [T3,Uw,List.length_replicate,o4,Z0,Nat.zero_add,show (4294967296:Nat)=2 ^ 32 from rfl,← Nat.pow_mul,← Nat.mul_assoc,← Nat.pow_add,show 32 * (n / 32)+n % 32=n by omega,Nat.mul_comm]
 rw [v] at ow
 rw [Zji,if_neg (by rw [decide_eq_false (by omega)];decide),decide_eq_false (show ¬ 262144<(n:Int) by omega),Zjj,if_neg (by decide),Sa (Z2 _) (by omega) (by omega),Z0,Option.bind_some,if_pos (decide_eq_true (by omega)),e1,e2,e3,Int.toNat_natCast,Int.toNat_natCast,
  Z9 (by simp only [maxLen];omega),o1,Option.bind_some,Z9 (by simp only [List.length_replicate,o2,maxLen];omega),ow,Option.bind_some]
theorem Zup {N:Nat}:∀ (f k x:Nat),k<f→k<4611686018427387904→(Zd (x * 2 ^ k)).length+8400≤1099511627776→(Zd (x * 2 ^ k)).length+8400<N→Zdo N f (k:Int) (Zd x)=some ((false,Zd (x * 2 ^ k)),[1])
 | 0,k,x,h1,_,_,_=>by omega
 | f+1,k,x,h1,h2,h3,h4=>by
  rw [Zdo.eq_2]
  by_cases hk:0<k
  ·obtain ⟨s,s1,s2,s3,s4⟩:∃ s:Nat,(if 262144<(k:Int) then 262144 else (k:Int))=(s:Int)∧s≤262144∧s≤k∧0<s:=by
    by_cases h:262144<(k:Int)
    ·rw [if_pos h];exact ⟨262144,rfl,Nat.le_refl _,by omega,by decide⟩
    ·rw [if_neg h];exact ⟨k,rfl,by omega,Nat.le_refl _,hk⟩
   have hle:x≤x * 2 ^ k:=Nat.le_mul_of_pos_right _ (Nat.pow_pos (by decide))
   have hl:=Y3 hle
   have e:x * 2 ^ s * 2 ^ (k - s)=x * 2 ^ k:=by rw [Nat.mul_assoc,← Nat.pow_add,show s+(k - s)=k by omega]
   have ih:=Zup (N:=N) f (k - s) (x * 2 ^ s) (by omega) (by omega) (by rw [e];exact h3) (by rw [e];exact h4)
   rw [e] at ih
   rw [if_pos (decide_eq_true (by omega)),s1,Z4g s2 (by omega) (by omega),Option.bind_some,Zt (x:=(k:Int) - (s:Int)) (by omega),show (k:Int) - (s:Int)=((k - s:Nat):Int) by omega]
   exact ih
  ·have:k=0:=by omega
   subst this
   rw [if_neg (by rw [decide_eq_false (by omega)];decide),Nat.pow_zero,Nat.mul_one]
theorem Zmi (k:Nat):(Zd (2 ^ k)).length≤k / 32+1:=by
 rw [Wt,show (4294967296:Nat)=2 ^ 32 from rfl,← Nat.pow_mul]
 exact Nat.pow_lt_pow_right (by decide) (by omega)
def pw (k:Nat):QV:=((false,Zd (2 ^ k)),[1])
theorem Z25 {N k:Nat} (hk:k≤1099511627776) (hN:2199023255552<N):Zi5 N (k:Int)=some (pw k):=by
 have h:=Zmi k
 have:=Zup (N:=N) N k 1 (by omega) (by omega) (by rw [Nat.one_mul];omega) (by rw [Nat.one_mul];omega)
 rw [W8,Nat.one_mul] at this
 rw [Zi5,this];rfl
theorem Z4d (k:Nat):RV (k / 32+1) (pw k):=⟨Z2 _,by simp [Zp,pw],Zmi k,by simp [pw]⟩
theorem Z29 (k:Nat):Z6 (pw k)=mkRat ((2 ^ k:Nat):Int) 1:=by
 have:Zr (false,Zd (2 ^ k))=((2 ^ k:Nat):Int):=by simp only [Zr,Z0];rfl
 rw [Z6,pw,this];rfl
def Zh1 (aa:Int):Option R2:=
  Z1 ((Int.toNat (i64.wrap ((i64.wrap (Int.tdiv aa 32))+1))) * 4≤281474976710656∧(Int.toNat (i64.wrap ((i64.wrap (Int.tdiv aa 32))+1)))≤maxLen∧0≤(i64.wrap ((i64.wrap (Int.tdiv aa 32))+1))) (Z1 (0≤(Int.tmod aa 32)) ((Zo (List.replicate (Int.toNat (i64.wrap ((i64.wrap (Int.tdiv aa 32))+1))) (0:Int)) (i64.wrap (Int.tdiv aa 32))).bind fun ac=>(some ((List.replicate (Int.toNat (i64.wrap ((i64.wrap (Int.tdiv aa 32))+1))) (0:Int)).set (Int.toNat (i64.wrap (Int.tdiv aa 32))) (Xq .u32 1 (Int.tmod aa 32)))).bind fun ab=>some ab))
theorem Zq5 {col:Zf} {w0:World} {aa:Int} {r:R2} (c1:Nat) (hm:Zh1 aa=some r):
    Calls Tryz.prog 223 #[.int .i64 aa] w0 (fun e w'=>∃ (col':Zf) (ra1:Option Addr) (rc2:Nat),e= .returned ((.slice ra1 r.length rc2))∧Zg col w0 col' w'∧Zc (Za.int .u32) 79 c1 col' w' ra1 rc2 r):=by
 refine Xi 2 (m:=16) func223 rfl rfl rfl rfl rfl ?_;rw [Zh1.eq_1] at hm;have ab:=St.start col w0;refine go ?_;refine lV (.int .i64 (i64.wrap (Int.tdiv aa 32))) (Wy aa 32 rfl rfl (by decide))<|go ?_;obtain ⟨ac,hm⟩:=Z3 hm;refine Sh (col:=(Zi col)) (w:=w0) (r:=(Za.int .u32)) (n:=(Int.toNat (i64.wrap ((i64.wrap (Int.tdiv aa 32))+1)))) (x0:=0) 1 rfl underlying43 Tryz.t79 rfl rfl rfl rfl rfl (congrArg (Value.int _) (Int.toNat_of_nonneg ac.2.2).symm) (congrArg (Value.int _) (Int.toNat_of_nonneg ac.2.2).symm) ac.1 ac.2.1 (S3 .u32 0) ?_;intro ag an ao aj ah;refine go ?_;refine lV (.int .i64 (i64.wrap (Int.tdiv aa 32))) (Wy aa 32 rfl rfl (by decide))<|Xo rfl<|lV (.int .i64 (Int.tmod aa 32)) (U8 aa 32 rfl rfl (by decide)) ?_;obtain ⟨ak,hm⟩:=Z3 hm;refine lV (.int .u32 (Xq .u32 1 (Int.tmod aa 32))) (Zbo 1 (Int.tmod aa 32) rfl rfl ak) ?_;obtain ⟨ap,ae,hm⟩:=bZ hm;refine lI ae (ah.addr ae) ?_;obtain ⟨af,ad,hm⟩:=bZ hm;have ad:af=(List.replicate (Int.toNat (i64.wrap ((i64.wrap (Int.tdiv aa 32))+1))) (0:Int)).set (Int.toNat (i64.wrap (Int.tdiv aa 32))) (Xq .u32 1 (Int.tmod aa 32)):=(Option.some.inj ad).symm;refine Yz (x1:=Xq .u32 1 (Int.tmod aa 32)) ah ae ?_;intro aq al am ai;rw [← ad] at ai;refine .ld (d:=3) (v:=(.slice ag af.length (Int.toNat (i64.wrap ((i64.wrap (Int.tdiv aa 32))+1))))) (congrArg (fun n=>Value.slice ag n (Int.toNat (i64.wrap ((i64.wrap (Int.tdiv aa 32))+1)))) (show (List.replicate (Int.toNat (i64.wrap ((i64.wrap (Int.tdiv aa 32))+1))) (0:Int)).length=af.length by rw [ad,List.length_set])) ?_;refine go ?_;cases hm;replace ab:=(ab.grow aj).kp al am;exact ⟨rfl,_,_,_,rfl,ab.fin (cm [(1,c1)]),ab.fo ai⟩
def Zhy (N:Nat) (ab:R4) (ac:Int):Option R1:=
  (Zh1 ac).bind fun ad=>(Za8 N (ab.1,ab.2) (false,ad)).bind fun aa=>some ((aa.1.1.1,aa.1.1.2),aa.1.2)
theorem Zzw {N aw:Nat} {ax:Option Addr} {col:Zf} {w0:World} {am:R4} {ay:Int} {r:R1} (c1 c2:Nat) (hm:Zhy N am ay=some r) (az:Sl (Za.int .u32) col w0 ax aw am.2):
    Calls Tryz.prog 123 #[(.agg #[.bool am.1,.slice ax am.2.length aw]),.int .i64 ay] w0 (fun e w'=>∃ (col':Zf) (ra1:Option Addr) (rc2:Nat) (ra4:Option Addr) (rc5:Nat),e= .returned ((.agg #[.bool r.1.1,.slice ra1 r.1.2.length rc2,.slice ra4 r.2.length rc5]))∧Zg col w0 col' w'∧Zc (Za.int .u32) 79 c1 col' w' ra1 rc2 r.1.2∧Zc (Za.int .u32) 79 c2 col' w' ra4 rc5 r.2):=by
 refine X2 (m:=16) func123 rfl rfl rfl ?_;rw [Zhy.eq_1] at hm;have ac:=St.start col w0;refine go ?_;refine Xd (col:=(Zi col)) 1 rfl ?_;intro bs bt bc bd a0;refine Xf (col:=bc) #[.bool false,.slice none (([]:List Int).length) 0,.slice none (([]:List Int).length) 0] 2 zeroValue47 ?_;intro bu aq an a7 ae;refine go ?_;have a1:=Zz.clip (fun _=>false) an aq;refine Zbr (col:=an) [(0,0),(1,1),(2,3),(3,1),(4,3),(5,1),(6,1),(7,1),(8,4),(9,2),(10,1)] (by kernel_rfl) (by kernel_rfl) ⟨fun h=>absurd h (by decide),fun h=>absurd h (by decide),fun h=>absurd h (by decide),fun h=>absurd h (by decide),fun h=>absurd h (by decide),fun h=>absurd h (by decide),fun h=>absurd h (by decide),fun h=>absurd h (by decide),fun _=>⟨_,_,_,rfl,Ve zeroValue47⟩,fun h=>absurd h (by decide),fun h=>absurd h (by decide),trivial⟩ ?_;replace a0:=(a0.gr a7).kpp a1;refine Y9 (v:=(.agg #[.bool am.1,.slice ax am.2.length aw])) rfl rfl (fun _ hC=>Xn isAgg45 sizeOf45 rfl rfl (a0.atN.gr (hC.bl (Ze aq an)))) ?_;refine X5 (v:=(.int .i64 ay)) rfl rfl (fun _=>W0 rfl) ?_;refine Ym rfl rfl ?_;intro bv hC0;have hC:=hC0.bl (Ze aq an);obtain ⟨be,bf,hm⟩:=bZ hm;refine Zh (Zq5 (col:=(Ze aq an)) 3 bf) ?_;rintro _ ad ⟨af,bg,bh,rfl,ao,a2⟩;refine ⟨_,rfl,?_⟩;refine Zk ?_;refine ⟨fun w'=>Zg (Ze ad af) ad (Ze ad af) w',fun g=>(Ze ad af) g=497,Zg.refl _ _,Yk,fun _=>⟨fun _ h=>Wm hC0 ao h,fun b hb=>ao.below.block b hb,fun g x1 x2=>Wr ao g x1 (by first | exact x2 | (simp only [Xk,x2];rfl) | (simp only [Xk,Xz,x2];rfl))⟩,?_⟩;have a3:=Zz.clip (fun _=>false) af ad;refine X5 (v:=(.agg #[.bool false,.slice bg be.length bh])) rfl rfl (fun _=>Yc (l:=[_,_]) (qs:=[(0,1),(1,1)]) underlying45 zeroValue45 ⟨rfl,sizeOf4,rfl,sizeOf43,trivial⟩ rfl) ?_;refine Ym rfl rfl ?_;intro bi hC0;replace ac:=(((((ac.grow bd).grow a7).kpp a1).grow hC).grow ao).kpp a3;replace ae:=(((ae.kpp a1).gr hC).gr ao).kpp a3;have hC:=hC0.bl (Ze ad af);obtain ⟨ag,bj,hm⟩:=bZ hm;replace az:=az.keep (Zj.start col w0);replace a2:=(a2.kpp a3).gr hC;replace ac:=ac.grow hC;refine Zh (Znu 4 5 bj ((az.ks ac).froz 3) (a2.toSlF (Zl.int .u32))) ?_;rintro _ aa ⟨bk,a8,a9,ba,bb,rfl,ah,ak,al⟩;refine ⟨_,rfl,?_⟩;replace ak:=ak.thaw (Zv .u32) ah ((Fz.refl (col:=(Ze ad af))).froz 3) (by decide)
 replace al:=al.thaw (Zv .u32) ah ((Fz.refl (col:=(Ze ad af))).froz 3) (by decide);replace ah:=ah.thawR (col:=(Ze ad af));generalize Z4 bi.heap.size (Ze ad af) bk=ab at *;refine Zk ?_;refine ⟨fun w'=>Zg (Ze aa ab) aa (Ze aa ab) w',fun g=>(Ze aa ab) g=497,Zg.refl _ _,Yk,fun _=>⟨fun _ h=>Wm hC0 ah h,fun b hb=>ah.below.block b hb,fun g x1 x2=>Wr ah g x1 (by first | exact x2 | (simp only [Xk,x2];rfl) | (simp only [Xk,Xz,x2];rfl))⟩,?_⟩;have ar:=Zz.clip (fun _=>false) ab aa;refine X5 (v:=(.tuple #[(.agg #[.bool ag.1.1.1,.slice a8 ag.1.1.2.length a9,.slice ba ag.1.2.length bb]),.int .i64 ag.2])) rfl rfl (fun _=>W0 rfl) ?_;refine X5 (v:=(.agg #[.bool ag.1.1.1,.slice a8 ag.1.1.2.length a9,.slice ba ag.1.2.length bb])) rfl rfl (fun _=>Xl rfl rfl) ?_;refine X5 (v:=(.int .i64 ag.2)) rfl rfl (fun _=>Xl rfl rfl) ?_;refine Qm rfl rfl (Ve zeroValue47) ?_;intro ai bm;refine Ym rfl rfl ?_;intro bn ⟨hC0,hZ0⟩;replace ae:=((ae.gr hC).gr ah).kpp ar;have hC:=hC0.bl (Ze aa ab);obtain ⟨au,a4⟩:=S4 (col:=(Ze aa ab)) 6 hZ0 bm;replace a4:Zn 47 6 (Zu ai 6 (Ze aa ab)) bn ai #[.bool false,.slice none (([]:List Int).length) 0,.slice none (([]:List Int).length) 0]:=a4;refine Zw a4 ?_;intro aj av bo a5;refine Zk ?_;refine ⟨fun w'=>Zg (Ze aj (Zu ai 6 (Ze aa ab))) aj (Ze aj (Zu ai 6 (Ze aa ab))) w',fun g=>(Ze aj (Zu ai 6 (Ze aa ab))) g=497,Zg.refl _ _,Yk,fun h=>absurd h (by decide),?_⟩;have ap:=Zz.clip (fun _=>false) (Zu ai 6 (Ze aa ab)) aj;refine X5 (v:=(.int .i64 ag.2)) rfl rfl (fun _=>Uq rfl) ?_;refine Zbs ?_;replace ac:=(((((ac.grow ah).kpp ar).grow hC).kpp au).kp av bo).kpp ap;replace ak:=((((ak.kpp ar).gr hC).kpp au).kp av).kpp ap;replace al:=((((al.kpp ar).gr hC).kpp au).kp av).kpp ap;replace ae:=(((ae.gr hC).kpp au).kp av).kpp ap;intro bp hC;replace hC:Zg (Ze aj (Zu ai 6 (Ze aa ab))) aj (Ze aj (Zu ai 6 (Ze aa ab))) bp:=.of_below hC.below;refine go ?_;replace a5:=(a5.kpp ap).gr hC;refine lV _ (Xa isAgg47 sizeOf47 a5) ?_;replace ae:=ae.gr hC;refine Zw ae ?_;intro bw a6 bq br;refine go ?_;cases hm;replace ak:=(ak.gr hC).kp a6;replace al:=(al.gr hC).kp a6;replace ac:=(ac.grow hC).kp a6 bq;exact ⟨rfl,_,ra br.atN,_,_,_,_,_,rfl,ac.fin (cm [(4,c1),(5,c2)]),ac.fo ak,ac.fo al⟩
theorem Z4i {r:Nat} (h:r<32):Xq .u32 1 (r:Int)=((2 ^ r:Nat):Int):=by
 have:∀ q:Fin 32,Xq .u32 1 (q.val:Int)=((2 ^ q.val:Nat):Int):=by decide
 exact this ⟨r,h⟩
theorem Zxn {k:Nat} (hk:k≤1099511627776):∃ l,Zh1 (k:Int)=some l∧Zp l∧Zb l=2 ^ k∧l.length=k / 32+1:=by
 have e1:Int.tdiv (k:Int) 32=((k / 32:Nat):Int):=rfl
 have e2:Int.tmod (k:Int) 32=((k % 32:Nat):Int):=rfl
 have hr:=Nat.mod_lt k (show 0<32 by decide)
 have hd:=Nat.div_add_mod k 32
 generalize hq:k / 32=q at *
 generalize hs:k % 32=r at *
 have hp:(2 ^ r:Nat)<4294967296:=by
  have:=Nat.pow_lt_pow_right (show 1<2 by decide) hr
  exact this
 have hlen:((List.replicate (q+1) (0:Int)).set q ((2 ^ r:Nat):Int)).length=q+1:=by simp
 refine ⟨(List.replicate (q+1) (0:Int)).set q ((2 ^ r:Nat):Int),?_,?_,?_,hlen⟩
 ·rw [Zh1,e1,e2,Zt (x:=(q:Int)) (by omega),wS (by omega),Int.toNat_natCast,Z9 (by simp only [maxLen];omega),Z9 (by omega),Z7 (by simp),Option.bind_some,Option.bind_some,Z4i hr,Int.toNat_natCast]
 ·intro d hd'
  rcases List.mem_or_eq_of_mem_set hd' with h | h
  ·rw [(List.mem_replicate.1 h).2];omega
  ·obtain ⟨Z,hZ⟩:∃ Z,Z=2 ^ r:=⟨_,rfl⟩
   rw [← hZ] at h hp
   rw [h];omega
 ·have h:=Uu (l:=List.replicate (q+1) (0:Int)) (k:=q) (by simp) ((2 ^ r:Nat):Int)
  rw [List.getElem_replicate,Uw,Int.toNat_natCast] at h
  rw [show Zb ((List.replicate (q+1) (0:Int)).set q ((2 ^ r:Nat):Int))=4294967296 ^ q * 2 ^ r by simpa using h,show (4294967296:Nat)=2 ^ 32 from rfl,← Nat.pow_mul,← Nat.pow_add,hd]
theorem Z38 {N L k:Nat} {b:ZV} (hb:Zp b.2) (hl:b.2.length≤L) (hk:k≤1099511627776) (hr:Xe N (L+(k / 32+1))):Zhy N b (k:Int)=some (Zm (mkRat (Zr b) (2 ^ k))):=by
 obtain ⟨l,h1,h2,h3,h4⟩:=Zxn hk
 have hpos:0<2 ^ k:=Nat.pow_pos (by decide)
 generalize (2 ^ k:Nat)=Z at *
 have hs:(Zr (false,l)).sign=1:=by
  rw [Zr,if_neg (by simp),h3]
  exact Int.sign_eq_one_of_pos (by omega)
 have hb':(!decide (b.1=false))=b.1:=by cases b.1 <;> rfl
 have e:=Zic (N:=N) (num:=(b.1,b.2)) (den:=l) hb h2 (by omega) hl (by omega) hr
 rw [Zhy,h1,Option.bind_some,Za8,Zfc (a:=(false,l)) (k:=k / 32+1) h2 (by simp only;omega) (hr.mono (by omega)),Option.bind_some,hs,if_neg (by decide),hb',e,Option.bind_some,Option.bind_some,h3]
def Zf0 (aa:Int) (kk_L1:(Int→R2→Option ByteArray)) (ab:List Int):Option ByteArray:=
  kk_L1 (i64.wrap (aa+1)) ab
def Zf1 (aa:Int) (kk_L1:(Int→R2→Option ByteArray)) (ab:List Int) (ac:Bool):Option ByteArray:=
  if ac=true then ((Zo ab aa).bind fun ae=>(some (ab.set (Int.toNat aa) 49)).bind fun ad=>Zf0 aa kk_L1 ad) else (Zf0 aa kk_L1 ab)
def Si (N:Nat) (ac:List Int) (ab:Int):Nat→Int→R2→Option ByteArray
  | 0,_,_=>none
  | ae+1,aa,ad=>if (decide (aa<((List.replicate (Int.toNat ab) (0:Int)).length:Int)))=true then ((Zo ad aa).bind fun ah=>(some (ad.set (Int.toNat aa) 48)).bind fun af=>if (decide ((i64.wrap (Int.tdiv (i64.wrap ((i64.wrap (ab - 1)) - aa)) 32))<(ac.length:Int)))=true then ((Zo ac (i64.wrap (Int.tdiv (i64.wrap ((i64.wrap (ab - 1)) - aa)) 32))).bind fun ag=>Z1 (0≤(Int.tmod (i64.wrap ((i64.wrap (ab - 1)) - aa)) 32)) (Zf1 aa (Si N ac ab ae) af (decide ((V7 .u32 (X4 .u32 ag (Int.tmod (i64.wrap ((i64.wrap (ab - 1)) - aa)) 32)) 1)=1)))) else (Zf1 aa (Si N ac ab ae) af false)) else (some (Uk ad))
termination_by structural x=>x
def Zfz (N:Nat) (ab:List Int) (aa:Int):Option ByteArray:=
  Z1 ((Int.toNat aa) * 1≤281474976710656∧(Int.toNat aa)≤maxLen∧0≤aa) (Si N ab aa N 0 (List.replicate (Int.toNat aa) (0:Int)))
theorem Zx9 {N a7:Nat} {a0:Option Addr} {col:Zf} {w0:World} {aj:R2} {ac:Int} {r:ByteArray} (hm:Zfz N aj ac=some r) (h0:Sl (Za.int .u32) col w0 a0 a7 aj):
    Calls Tryz.prog 133 #[.slice a0 aj.length a7,.int .i64 ac] w0 (fun e w'=>e= .returned ((.string r))∧Below w0.heap.size w0 w'):=by
 refine Xi 4 (m:=45) func133 rfl rfl rfl rfl rfl ?_;rw [Zfz.eq_1] at hm;have aa:=St.start col w0;refine go ?_;obtain ⟨ak,hm⟩:=Z3 hm;refine Sh (col:=(Zi col)) (w:=w0) (r:=(Za.int .u8)) (n:=(Int.toNat ac)) (x0:=0) 1 rfl underlying217 Tryz.t5 rfl rfl rfl rfl rfl (congrArg (Value.int _) (Int.toNat_of_nonneg ak.2.2).symm) (congrArg (Value.int _) (Int.toNat_of_nonneg ak.2.2).symm) ak.1 ak.2.1 (S3 .u8 0) ?_;intro bh bi bj a9 ba;refine go ?_;replace aa:=aa.grow a9;refine Z8 [0,1,11,1000000] (fun n f ao=>∃ ap ab ad ae ag af,af=n∧Si N aj ac af ab ag=some r∧St w0 (Zi col) ap ao∧Zc (Za.int .u8) 5 1 ap ao ad ae ag∧[12,5].map f=[.int .i64 ab,.slice ad ag.length ae]) N ⟨_,0,_,_,_,_,rfl,hm,aa,ba,rfl⟩ ?_;clear hm;intro n f ao hI;obtain ⟨ap,ab,ad,ae,ag,af,hn,hm,aa,aq,hs⟩:=hI;subst hn;refine .lL [12,5] hs ?_;replace h0:=h0.keep (Zj.start col w0)
 cases af with
 | zero=>rw [Si.eq_1] at hm;cases hm
 | succ af=>
  rw [Si.eq_2] at hm;refine go ?_;refine Zq hm (fun hb hm=>?_) fun hb hm=>go ?_
  ·refine X8<|Zy ?_;refine Wp.cutK [0,1,11,12,1000000] (fun f ar=>∃ au av aw al,Zf0 ab (Si N aj ac af) al=some r∧St w0 (Zi col) au ar∧Zc (Za.int .u8) 5 1 au ar av aw al∧[5].map f=[.slice av al.length aw]) ?_ ?_
   ·intro f ar hJ;obtain ⟨au,av,aw,al,hm,aa,bb,hs⟩:=hJ;rw [Zf0.eq_1] at hm;refine .lL [5] hs<|go ?_;exact ⟨af,by omega,rfl,⟨_,_,_,_,_,_,rfl,hm,aa,bb,rfl⟩⟩
   refine go ?_;obtain ⟨bk,ax,hm⟩:=bZ hm;refine lI ax (aq.addr ax) ?_;obtain ⟨ah,am,hm⟩:=bZ hm;have am:ah=ag.set (Int.toNat ab) 48:=(Option.some.inj am).symm;refine Yz (x1:=48) aq ax ?_;intro bm bc bd ai;rw [← am] at ai;refine .ld (d:=5) (v:=(.slice ad ah.length ae)) (congrArg (fun n=>Value.slice ad n ae) (show ag.length=ah.length by rw [am,List.length_set])) ?_;refine Zk<|Zy ?_;replace aa:=aa.kp bc bd;refine Wp.cutK [0,1,11,12,5,6,1000000] (fun f ay=>∃ az a1,Zf1 ab (Si N aj ac af) ah a1=some r∧St w0 (Zi col) az ay∧Zc (Za.int .u8) 5 1 az ay ad ae ah∧[38].map f=[.bool a1]) ?_ ?_
   ·intro f ay hJ;obtain ⟨az,a1,hm,aa,ai,hs⟩:=hJ;rw [Zf1.eq_1] at hm;refine .lL [38] hs ?_;refine Zq hm (fun hb hm=>go ?_) fun hb hm=>?_
    ·obtain ⟨bn,a2,hm⟩:=bZ hm;refine lI a2 (ai.addr a2) ?_;obtain ⟨a3,an,hm⟩:=bZ hm;have an:a3=ah.set (Int.toNat ab) 49:=(Option.some.inj an).symm;refine Yz (x1:=49) ai a2 ?_;intro bo be bf a8;rw [← an] at a8;refine .ld (d:=5) (v:=(.slice ad a3.length ae)) (congrArg (fun n=>Value.slice ad n ae) (show ah.length=a3.length by rw [an,List.length_set])) ?_;refine Zk ?_;replace aa:=aa.kp be bf;exact ⟨rfl,_,_,_,_,hm,aa,a8,rfl⟩
    refine X8 ?_;exact ⟨rfl,_,_,_,_,hm,aa,ai,rfl⟩
   refine go ?_;refine lV (.int .i64 (i64.wrap (Int.tdiv (i64.wrap ((i64.wrap (ac - 1)) - ab)) 32))) (Wy (i64.wrap ((i64.wrap (ac - 1)) - ab)) 32 rfl rfl (by decide))<|go ?_;refine Xv hm (fun a4 hm=>go ?_) fun a4 hm=>go ?_
   ·refine lV (.int .i64 (i64.wrap (Int.tdiv (i64.wrap ((i64.wrap (ac - 1)) - ab)) 32))) (Wy (i64.wrap ((i64.wrap (ac - 1)) - ab)) 32 rfl rfl (by decide))<|go ?_;obtain ⟨a5,a6,hm⟩:=bZ hm;refine lI a6 ((h0.ks aa).addr a6) ?_;refine go ?_;refine lW ((h0.ks aa).atInt a6)<|go ?_;refine lV (.int .i64 (Int.tmod (i64.wrap ((i64.wrap (ac - 1)) - ab)) 32)) (U8 (i64.wrap ((i64.wrap (ac - 1)) - ab)) 32 rfl rfl (by decide))<|go ?_;obtain ⟨bg,hm⟩:=Z3 hm;refine lV (.int .u32 (X4 .u32 a5 (Int.tmod (i64.wrap ((i64.wrap (ac - 1)) - ab)) 32))) (Tl a5 (Int.tmod (i64.wrap ((i64.wrap (ac - 1)) - ab)) 32) rfl rfl bg)<|go ?_;refine lV (.bool (decide ((V7 .u32 (X4 .u32 a5 (Int.tmod (i64.wrap ((i64.wrap (ac - 1)) - ab)) 32)) 1)=1))) (Xj (congrArg Value.bool a4) rfl)<|Zk ?_;exact ⟨rfl,_,_,hm,aa,ai,rfl⟩
   refine lV (.bool false) (Xs (congrArg Value.bool a4) rfl)<|Zk ?_;exact ⟨rfl,_,_,hm,aa,ai,rfl⟩
  refine lV (.string (Uk ag)) (Zu2 (c:=1) (c2:=1) (aq.srcN NB.int) underlying217 underlying5 underlying9 rfl)<|go ?_;cases hm;exact ⟨rfl,rfl,aa.below⟩
def Zcz (N:Nat) (ad:R4):Nat→R2→Int→Option ByteArray
  | 0,_,_=>none
  | ae+1,aa,ab=>if (decide (0≤ab))=true then ((Zgz ad.2 ab).bind fun ac=>Z1 ((aa.length+[u8.wrap (48+(u8.wrap ac))].length) * 1≤140737488355328∧aa.length+[u8.wrap (48+(u8.wrap ac))].length≤maxLen) ((Zcz N ad ae) (aa++[u8.wrap (48+(u8.wrap ac))]) (i64.wrap (ab - 1)))) else (some (Uk aa))
termination_by structural x=>x
def Zhx (N:Nat) (aa:R4) (ab:Int):Option ByteArray:=
  Zcz N aa N ([]:List Int) (i64.wrap (ab - 1))
theorem Zzu {N aj:Nat} {ak:Option Addr} {col:Zf} {w0:World} {ab:R4} {aq:Int} {r:ByteArray} (hm:Zhx N ab aq=some r) (al:Sl (Za.int .u32) col w0 ak aj ab.2):
    Calls Tryz.prog 126 #[(.agg #[.bool ab.1,.slice ak ab.2.length aj]),.int .i64 aq] w0 (fun e w'=>e= .returned ((.string r))∧Below w0.heap.size w0 w'):=by
 refine Xi 4 (m:=24) func126 rfl rfl rfl rfl rfl ?_;rw [Zhx.eq_1] at hm;have aa:=St.start col w0;refine go ?_;refine Xd (col:=(Zi col)) 1 rfl ?_;intro au a2 a3 av ad;refine go ?_;replace aa:=aa.grow av;refine Z8 [2,1000000] (fun n f af=>∃ ac am an ag ao ae,ae=n∧Zcz N ab ae ag ao=some r∧St w0 (Zi col) ac af∧Zn 45 1 ac af au #[.bool ab.1,.slice ak ab.2.length aj]∧Zc (Za.int .u8) 5 2 ac af am an ag∧[5,6].map f=[.slice am ag.length an,.int .i64 ao]) N ⟨_,none,0,_,_,_,rfl,hm,aa,ad,Zc.nil,rfl⟩ ?_;clear hm;intro n f af hI;obtain ⟨ac,am,an,ag,ao,ae,hn,hm,aa,ad,ai,hs⟩:=hI;subst hn;refine .lL [5,6] hs ?_;replace al:=al.keep (Zj.start col w0)
 cases ae with
 | zero=>rw [Zcz.eq_1] at hm;cases hm
 | succ ae=>
  rw [Zcz.eq_2] at hm;refine go ?_;refine Zq hm (fun hb hm=>go ?_) fun hb hm=>go ?_
  ·refine Xc ad<|Xo rfl ?_;obtain ⟨aw,ax,hm⟩:=bZ hm;refine Zh (Zqs ax (al.ks aa)) ?_;rintro _ ay ⟨rfl,ah⟩;refine ⟨_,rfl,?_⟩;replace ah:Zg ac af ac ay:=.of_below ah;refine go ?_;refine Wx (col:=ac) [u8.wrap (48+(u8.wrap aw))] 3 ?_;intro a4 a5 a6 ap az;obtain ⟨a0,hm⟩:=Z3 hm;replace ai:=(ai.gr ah).gr ap;refine Ws ai (az.srcN (NB.int (k:=.u8))) a0 ?_;intro a7 a8 a9 ba ar a1;refine go ?_;replace ad:=((ad.gr ah).gr ap).kpp ar;replace aa:=((aa.grow ah).grow ap).kpp ar;exact ⟨ae,by omega,rfl,⟨_,_,_,_,_,_,rfl,hm,aa,ad,a1,rfl⟩⟩
  refine lV (.string (Uk ag)) (Zu2 (c:=1) (c2:=1) (ai.srcN NB.int) underlying217 underlying5 underlying9 rfl)<|go ?_;cases hm;exact ⟨rfl,rfl,aa.below⟩
def Sf (v:Nat):Nat→List Int
 | 0=>[]
 | m+1=>(48+((v / 2 ^ m % 2:Nat):Int)) :: Sf v m
theorem Zx4 {a:List Int} (h:Zp a) (i:Nat):Zb a / 2 ^ i % 2=Xr a (i / 32) / 2 ^ (i % 32) % 2:=by
 have e3:=Zp8 (Zb (a.take (i / 32))) (Xr a (i / 32)) (Zb (a.drop (i / 32+1))) (i / 32) (i % 32) (Zke h _) (by omega)
 rwa [← Uo a,← Uv,show 32 * (i / 32)+i % 32=i by omega] at e3
theorem Zxy {y:Nat} (h:y<4294967296):V7 .u32 (y:Int) 1=((y % 2:Nat):Int):=by
 rw [V7,BitVec.toNat_and,Zbu _ _ (by simp only [IntKind.bits];omega),show (1:Int)=((1:Nat):Int) from rfl,Zbu _ _ (by simp only [IntKind.bits];omega),Nat.and_one_is_mod,Zpy]
 omega
theorem Zro {N k:Nat} {a:List Int} (ha:Zp a) (hk:k≤1099511627776) (hl:a.length≤1099511627776):∀ (f m:Nat) (pre:List Int),pre.length+m=k→m<f→
  Si N a (k:Int) f (pre.length:Int) (pre++List.replicate m 0)=some (Uk (pre++Sf (Zb a) m))
 | 0,m,pre,h1,h2=>by omega
 | f+1,0,pre,h1,h2=>by
  rw [Si.eq_2,List.length_replicate,Int.toNat_natCast,if_neg (by rw [decide_eq_false (by omega)];decide)];rfl
 | f+1,m+1,pre,h1,h2=>by
  have e0:i64.wrap (i64.wrap ((k:Int) - 1) - (pre.length:Int))=(m:Int):=by
   rw [Zt (x:=(k:Int) - 1) (by omega),Zt (by omega)];omega
  have e1:i64.wrap (Int.tdiv (m:Int) 32)=((m / 32:Nat):Int):=by rw [Int.tdiv_eq_ediv_of_nonneg (by omega),Zt (by omega)];omega
  have e2:Int.tmod (m:Int) 32=((m % 32:Nat):Int):=by rw [Int.tmod_eq_emod_of_nonneg (by omega)];omega
  have sett:∀ x c:Int,(pre++x :: List.replicate m 0).set pre.length c=(pre++[c])++List.replicate m 0:=fun x c=>by
   rw [List.set_append_right (i:=pre.length) c (Nat.le_refl _),Nat.sub_self,List.set_cons_zero,List.append_assoc];rfl
  have ih:=fun c:Int=>Zro (N:=N) ha hk hl f m (pre++[c]) (by rw [List.length_append,List.length_singleton];omega) (by omega)
  simp only [List.length_append,List.length_singleton] at ih
  have hJ:∀ b:Bool,(b=decide (Zb a / 2 ^ m % 2=1))→Zf1 (pre.length:Int) (Si N a (k:Int) f) ((pre++[48])++List.replicate m 0) b=some (Uk (pre++Sf (Zb a) (m+1))):=by
   intro b hb
   rw [Zf1,Sf]
   by_cases h:Zb a / 2 ^ m % 2=1
   ·rw [decide_eq_true h] at hb
    rw [if_pos hb,Z7 (by rw [List.length_append,List.length_append,List.length_singleton];omega),Option.bind_some,Int.toNat_natCast,List.append_assoc,List.singleton_append,sett,Option.bind_some,Zf0,wS (by omega),ih 49,h,List.append_assoc];rfl
   ·rw [decide_eq_false h] at hb
    have h0:Zb a / 2 ^ m % 2=0:=by omega
    rw [if_neg (by rw [hb];decide),Zf0,wS (by omega),ih 48,h0,List.append_assoc];rfl
  rw [Si.eq_2,List.length_replicate,Int.toNat_natCast,if_pos (decide_eq_true (by omega)),Z7 (by rw [List.length_append,List.length_replicate];omega),Option.bind_some,Int.toNat_natCast,List.replicate_succ,sett,Option.bind_some,e0,e1,e2]
  have hbit:=Zx4 ha m
  by_cases hp:m / 32<a.length
  ·have he:=ha.get hp
   obtain ⟨y,hy⟩:∃ y:Nat,a[m / 32]=(y:Int):=⟨(a[m / 32]).toNat,by omega⟩
   have hla:Xr a (m / 32)=y:=by rw [Xr,List.getD_eq_getElem?_getD,List.getElem?_eq_getElem hp,Option.getD_some,hy,Int.toNat_natCast]
   rw [hla] at hbit
   have hd:=Nat.div_le_self y (2 ^ (m % 32))
   rw [if_pos (decide_eq_true (by omega)),Z7 hp,hy,Option.bind_some,Z9 (by omega),Zko _ _ _ (by simp only [IntKind.bits];omega)]
   refine hJ _ ?_
   rw [hbit]
   generalize y / 2 ^ (m % 32)=z at *
   rw [Zxy (by omega)]
   rw [Bool.eq_iff_iff,decide_eq_true_iff,decide_eq_true_iff]
   omega
  ·have hla:Xr a (m / 32)=0:=by rw [Xr,List.getD_eq_getElem?_getD,List.getElem?_eq_none (by omega)];rfl
   rw [hla,Nat.zero_div] at hbit
   rw [if_neg (by rw [decide_eq_false (by omega)];decide)]
   refine hJ _ ?_
   rw [hbit];rfl
theorem Z0o {N k:Nat} {a:List Int} (ha:Zp a) (hk:k≤1099511627776) (hl:a.length≤1099511627776) (hN:k<N):Zfz N a (k:Int)=some (Uk (Sf (Zb a) k)):=by
 rw [Zfz,Z9 (by rw [Int.toNat_natCast];simp only [maxLen];omega),Int.toNat_natCast]
 exact Zro ha hk hl N k [] (by simp) hN
theorem Zvk {N:Nat} {b:ZV} (hb:Zp b.2):∀ (f m:Nat) (out:List Int),m<f→out.length+m≤1099511627776→Zcz N b f out ((m:Int) - 1)=some (Uk (out++Sf (Zb b.2) m))
 | 0,m,out,h1,h2=>by omega
 | f+1,0,out,h1,h2=>by
  rw [Zcz.eq_2,if_neg (by decide),Sf,List.append_nil]
 | f+1,m+1,out,h1,h2=>by
  have ih:=fun c:Int=>Zvk (N:=N) hb f m (out++[c]) (by omega) (by rw [List.length_append,List.length_singleton];omega)
  have e:u8.wrap (48+u8.wrap ((Zb b.2 / 2 ^ m % 2:Nat):Int))=48+((Zb b.2 / 2 ^ m % 2:Nat):Int):=by
   rcases Nat.mod_two_eq_zero_or_one (Zb b.2 / 2 ^ m) with h | h
   ·rw [h];decide
   ·rw [h];decide
  rw [Zcz.eq_2,show ((m+1:Nat):Int) - 1=(m:Int) by omega,if_pos (decide_eq_true (by omega)),Zvj hb (by omega),Option.bind_some,e,Z9 (by simp only [List.length_singleton,maxLen];omega),Zt (by omega),ih,List.append_assoc]
  rfl
theorem Z3t {N k:Nat} {b:ZV} (hb:Zp b.2) (hk:k≤1099511627776) (hN:k<N):Zhx N b (k:Int)=some (Uk (Sf (Zb b.2) k)):=by
 rw [Zhx,Zt (by omega)]
 exact Zvk hb N k [] hN (by simpa using hk)
def Zj7 (N:Nat) (aa:R1) (ah:Int):Option R4:=
  (Zh1 ah).bind fun ai=>(Sq N 1).bind fun ae=>(Za8 N (false,ai) (ae.1,ae.2)).bind fun ab=>(Zcq N ((aa.1.1,aa.1.2),aa.2) ((ab.1.1.1,ab.1.1.2),ab.1.2)).bind fun ac=>(Zeg N ((ac.1.1,ac.1.2),ac.2)).bind fun ad=>(Zjw N ((ad.1.1,ad.1.2),ad.2)).bind fun af=>(Zco N (af.1,af.2)).bind fun ag=>some (ag.1,ag.2)
theorem Zzv {N a6 a7:Nat} {a8 a9:Option Addr} {col:Zf} {w0:World} {ad:R1} {ba:Int} {r:R4} (c1:Nat) (hm:Zj7 N ad ba=some r) (ar:Sl (Za.int .u32) col w0 a8 a6 ad.1.2) (au:Sl (Za.int .u32) col w0 a9 a7 ad.2):
    Calls Tryz.prog 122 #[(.agg #[.bool ad.1.1,.slice a8 ad.1.2.length a6,.slice a9 ad.2.length a7]),.int .i64 ba] w0 (fun e w'=>∃ (col':Zf) (ra1:Option Addr) (rc2:Nat),e= .returned ((.agg #[.bool r.1,.slice ra1 r.2.length rc2]))∧Zg col w0 col' w'∧Zc (Za.int .u32) 79 c1 col' w' ra1 rc2 r.2):=by
 refine X2 (m:=21) func122 rfl rfl rfl ?_;rw [Zj7.eq_1] at hm;have aa:=St.start col w0;refine go ?_;refine Xd (col:=(Zi col)) 1 rfl ?_;intro ce cf bh bi av;refine Xf (col:=bh) #[.bool false,.slice none (([]:List Int).length) 0] 2 zeroValue45 ?_;intro cg ch bj bb aw;refine go ?_;obtain ⟨bk,bm,hm⟩:=bZ hm;refine Zh (Zq5 (col:=bj) 3 bm) ?_;rintro _ ci ⟨bn,bo,bp,rfl,ax,ay⟩;refine ⟨_,rfl,?_⟩;refine lV (.agg #[.bool false,.slice bo bk.length bp]) (Yc (l:=[_,_]) (qs:=[(0,1),(1,1)]) underlying45 zeroValue45 ⟨rfl,sizeOf4,rfl,sizeOf43,trivial⟩ rfl) ?_;obtain ⟨cj,bq,hm⟩:=bZ hm;refine Zh (Ziu (col:=bn) 4 bq) ?_;rintro _ br ⟨an,ck,cl,rfl,ao,bs⟩;refine ⟨_,rfl,?_⟩;obtain ⟨ab,bt,hm⟩:=bZ hm;replace ay:=ay.gr ao;refine Zh (Znu 5 6 bt ((ay.toSlF (Zl.int .u32)).froz 4) ((bs.froz 3 (by decide)).toSlF (Zl.int .u32))) ?_;rintro _ cn ⟨bu,bc,bd,be,bf,rfl,ac,ag,ah⟩;refine ⟨_,rfl,?_⟩;replace ar:=ar.keep (Zj.start col w0);replace au:=au.keep (Zj.start col w0);replace ag:=ag.thaw (Zv .u32) ac (((Fz.refl (col:=an)).froz 3).froz 4) (by decide);replace ah:=ah.thaw (Zv .u32) ac (((Fz.refl (col:=an)).froz 3).froz 4) (by decide);replace ac:=ac.thawR (col:=an);generalize Z4 br.heap.size an bu=bv at *;refine lM (.tuple #[(.agg #[.bool ab.1.1.1,.slice bc ab.1.1.2.length bd,.slice be ab.1.2.length bf]),.int .i64 ab.2])<|lV (.agg #[.bool ab.1.1.1,.slice bc ab.1.1.2.length bd,.slice be ab.1.2.length bf]) (Xl rfl rfl)<|lV (.int .i64 ab.2) (Xl rfl rfl)<|Xf (col:=bv) #[.bool false,.slice none (([]:List Int).length) 0,.slice none (([]:List Int).length) 0] 7 zeroValue47 ?_;intro co cp ap ai bw;refine Zw bw ?_;intro bx aj bz b0;refine go ?_;replace av:=(((((av.gr bb).gr ax).gr ao).gr ac).gr ai).kp aj;refine lV _ (Xa isAgg47 sizeOf47 av)<|lV _ (Xa isAgg47 sizeOf47 b0) ?_;obtain ⟨cq,b1,hm⟩:=bZ hm;replace aa:=((((((aa.grow bi).grow bb).grow ax).grow ao).grow ac).grow ai).kp aj bz;replace ag:=(ag.gr ai).kp aj;replace ah:=(ah.gr ai).kp aj
 refine Zh (Zqx 8 9 b1 (((ar.ks aa).froz 5).froz 6) (((au.ks aa).froz 5).froz 6) ((ag.toSlF (Zl.int .u32)).froz 6) ((ah.froz 5 (by decide)).toSlF (Zl.int .u32))) ?_;rintro _ b2 ⟨b3,cr,cs,ct,cu,rfl,ae,az,a0⟩;refine ⟨_,rfl,?_⟩;replace az:=az.thaw (Zv .u32) ae (((Fz.refl (col:=ap)).froz 5).froz 6) (by decide);replace a0:=a0.thaw (Zv .u32) ae (((Fz.refl (col:=ap)).froz 5).froz 6) (by decide);replace ae:=ae.thawR (col:=ap);generalize Z4 bx.heap.size ap b3=aq at *;obtain ⟨cv,b4,hm⟩:=bZ hm;refine Zh (Zqy 10 11 b4 ((az.toSlF (Zl.int .u32)).froz 9) ((a0.froz 8 (by decide)).toSlF (Zl.int .u32))) ?_;rintro _ b5 ⟨b6,cw,cx,cy,cz,rfl,af,a1,a2⟩;refine ⟨_,rfl,?_⟩;replace a1:=a1.thaw (Zv .u32) af (((Fz.refl (col:=aq)).froz 8).froz 9) (by decide);replace a2:=a2.thaw (Zv .u32) af (((Fz.refl (col:=aq)).froz 8).froz 9) (by decide);replace af:=af.thawR (col:=aq);generalize Z4 b2.heap.size aq b6=a3 at *;obtain ⟨c0,b7,hm⟩:=bZ hm;refine Zh (Zy6 12 b7 ((a1.toSlF (Zl.int .u32)).froz 11) ((a2.froz 10 (by decide)).toSlF (Zl.int .u32))) ?_;rintro _ b8 ⟨b9,c2,c3,rfl,ak,a4⟩;refine ⟨_,rfl,?_⟩;replace a4:=a4.thaw (Zv .u32) ak (((Fz.refl (col:=a3)).froz 10).froz 11) (by decide);replace ak:=ak.thawR (col:=a3);generalize Z4 b5.heap.size a3 b9=a5 at *;obtain ⟨c4,ca,hm⟩:=bZ hm;refine Zh (Zns 13 ca (a4.toSlF (Zl.int .u32))) ?_;rintro _ c5 ⟨cb,c6,c7,rfl,al,am⟩;refine ⟨_,rfl,?_⟩;replace am:=am.thaw (Zv .u32) al ((Fz.refl (col:=a5)).froz 12) (by decide);replace al:=al.thawR (col:=a5);generalize Z4 b8.heap.size a5 cb=c8 at *;replace aw:=((((((((aw.gr ax).gr ao).gr ac).gr ai).kp aj).gr ae).gr af).gr ak).gr al;refine Zw aw ?_;intro c9 bg cc cd;refine go ?_;cases hm;replace aa:=((((aa.grow ae).grow af).grow ak).grow al).kp bg cc;replace am:=am.kp bg;exact ⟨rfl,_,ra cd.atN,_,_,_,rfl,aa.fin (cm [(13,c1)]),aa.fo am⟩
def Zbj (N:Nat) (aa:Rg):Nat→Int→Option Ri
  | 0,_=>none
  | ag+1,ab=>(Zj7 N ((aa.1.1.1.1,aa.1.1.1.2),aa.1.1.2) ab).bind fun ac=>(Sq N 1).bind fun ae=>(Zaa N (ac.1,ac.2) (ae.1,ae.2)).bind fun af=>(Zhy N (af.1,af.2) ab).bind fun ad=>(Zab N ((ad.1.1,ad.1.2),ad.2) ((aa.1.2.1.1,aa.1.2.1.2),aa.1.2.2)).bind fun ah=>if (decide (ah≤0))=true then ((Zhx N (ac.1,ac.2) ab).bind fun ai=>some (ai,0)) else ((Zbj N aa ag) (i64.wrap (ab+1)))
termination_by structural x=>x
def Zhu (N:Nat) (ab:R0) (af:List Int):Option Ri:=
  (Zhw N (ab.1,ab.2.1,ab.2.2.1,ab.2.2.2.1,ab.2.2.2.2) af).bind fun aa=>if (!decide (aa.2=0))=true then (some (⟨#[]⟩,aa.2)) else ((Zab N ((aa.1.1.1.1,aa.1.1.1.2),aa.1.1.2) ((aa.1.2.1.1,aa.1.2.1.2),aa.1.2.2)).bind fun ag=>if (decide (0≤ag))=true then (some (⟨#[]⟩,52)) else ((Za9 N ((aa.1.2.1.1,aa.1.2.1.2),aa.1.2.2) ((aa.1.1.1.1,aa.1.1.1.2),aa.1.1.2)).bind fun ac=>(Za2 N ac.2).bind fun ad=>(Za2 N ac.1.2).bind fun ae=>Zbj N aa N (if (i64.wrap ((i64.wrap (ad - ae)) - 1))>0 then (i64.wrap ((i64.wrap (ad - ae)) - 1)) else 0)))
theorem Zzq {N bn bo bp bq br:Nat} {bs bt bu bv a1:Option Addr} {col:Zf} {w0:World} {ah:R0} {bj:R2} {r:Ri} (hm:Zhu N ah bj=some r) (bw:Sl Za.str col w0 bs bn ah.2.1) (bx:Sl (Za.slice Za.str) col w0 bt bo ah.2.2.1) (bz:Sl (Za.slice (Za.int .i64)) col w0 bu bp ah.2.2.2.1) (b0:Sl (Za.slice (Za.pair (Za.pair Za.bool (Za.slice (Za.int .u32))) (Za.slice (Za.int .u32)))) col w0 bv bq ah.2.2.2.2) (h1:Sl (Za.int .i64) col w0 a1 br bj):
    Calls Tryz.prog 45 #[(.agg #[.string ah.1,.slice bs ah.2.1.length bn,.slice bt ah.2.2.1.length bo,.slice bu ah.2.2.2.1.length bp,.slice bv ah.2.2.2.2.length bq]),.slice a1 bj.length br] w0 (fun e w'=>e= .returned (.tuple #[.string r.1,.int .i64 r.2])∧Below w0.heap.size w0 w'):=by
 refine Zdg 4 5 (m:=61) (args:=[(.agg #[.string ah.1,.slice bs ah.2.1.length bn,.slice bt ah.2.2.1.length bo,.slice bu ah.2.2.2.1.length bp,.slice bv ah.2.2.2.2.length bq]),.slice a1 bj.length br]) func45 rfl rfl rfl rfl rfl ?_;rw [Zhu.eq_1] at hm;have ab:=St.start col w0;refine go ?_;refine Xd (col:=(Zi col)) 1 rfl ?_;intro c7 c8 c9 b8 b9;refine go ?_;refine lV _ (Xa isAgg27 sizeOf27 b9)<|Wa rfl ?_;obtain ⟨aa,ca,hm⟩:=bZ hm;replace bw:=bw.keep (Zj.start col w0);replace bx:=bx.keep (Zj.start col w0);replace bz:=bz.keep (Zj.start col w0);replace b0:=b0.keep (Zj.start col w0);replace h1:=h1.keep (Zj.start col w0);replace ab:=ab.grow b8;refine Zh (Zzs ca (bw.ks ab) (bx.ks ab) (bz.ks ab) (b0.ks ab) (h1.ks ab)) ?_;rintro _ da ⟨cb,au,av,aw,ax,ay,az,a0,a2,rfl,cc,ad,ae,af,ag⟩;refine ⟨_,rfl,?_⟩;refine lM (.tuple #[(.agg #[.bool aa.1.1.1.1,.slice au aa.1.1.1.2.length av,.slice aw aa.1.1.2.length ax,.bool aa.1.2.1.1,.slice ay aa.1.2.1.2.length az,.slice a0 aa.1.2.2.length a2]),.int .i64 aa.2])<|lV (.agg #[.bool aa.1.1.1.1,.slice au aa.1.1.1.2.length av,.slice aw aa.1.1.2.length ax,.bool aa.1.2.1.1,.slice ay aa.1.2.1.2.length az,.slice a0 aa.1.2.2.length a2]) (Xl rfl rfl)<|lV (.int .i64 aa.2) (Xl rfl rfl)<|Xf (col:=cb) #[.bool false,.slice none (([]:List Int).length) 0,.slice none (([]:List Int).length) 0,.bool false,.slice none (([]:List Int).length) 0,.slice none (([]:List Int).length) 0] 2 zeroValue49 ?_;intro cd db b6 bc ce;refine Zw ce ?_;intro cf bd cg ac;refine go ?_;replace ab:=((ab.grow cc).grow bc).kp bd cg;replace ad:=(ad.gr bc).kp bd;replace ae:=(ae.gr bc).kp bd;replace af:=(af.gr bc).kp bd;replace ag:=(ag.gr bc).kp bd;refine Zq hm (fun hb hm=>go ?_) fun hb hm=>go ?_
 ·cases hm;exact ⟨rfl,rfl,ab.below⟩
 refine Xh ⟨_,_,rfl⟩ ?_;refine lV (.agg #[.bool aa.1.1.1.1,.slice au aa.1.1.1.2.length av,.slice aw aa.1.1.2.length ax]) (Xn isAgg47 sizeOf47 rfl rfl ((ac.atN).part 0 3 _ rfl))<|Xh ⟨_,_,rfl⟩ ?_;refine lV (.agg #[.bool aa.1.2.1.1,.slice ay aa.1.2.1.2.length az,.slice a0 aa.1.2.2.length a2]) (Xn isAgg47 sizeOf47 rfl rfl ((ac.atN).part 3 3 _ rfl)) ?_;obtain ⟨dc,ch,hm⟩:=bZ hm;refine Zh (Zle ch ad ae af ag) ?_;rintro _ ci ⟨rfl,ao⟩;refine ⟨_,rfl,?_⟩;replace ao:Zg b6 cf b6 ci:=.of_below ao;refine go ?_;replace ad:=ad.gr ao;replace ae:=ae.gr ao;replace af:=af.gr ao;replace ag:=ag.gr ao;replace ac:=ac.gr ao;replace ab:=ab.grow ao;refine Zq hm (fun hb hm=>go ?_) fun hb hm=>go ?_
 ·cases hm;exact ⟨rfl,rfl,ab.below⟩
 refine Xh ⟨_,_,rfl⟩ ?_;refine lV (.agg #[.bool aa.1.2.1.1,.slice ay aa.1.2.1.2.length az,.slice a0 aa.1.2.2.length a2]) (Xn isAgg47 sizeOf47 rfl rfl ((ac.atN).part 3 3 _ rfl))<|Xh ⟨_,_,rfl⟩ ?_;refine lV (.agg #[.bool aa.1.1.1.1,.slice au aa.1.1.1.2.length av,.slice aw aa.1.1.2.length ax]) (Xn isAgg47 sizeOf47 rfl rfl ((ac.atN).part 0 3 _ rfl)) ?_;obtain ⟨dd,cj,hm⟩:=bZ hm;refine Zh (Zqz 3 4 cj af ag ad ae) ?_;rintro _ de ⟨ck,df,dg,dh,di,rfl,a7,b1,b2⟩;refine ⟨_,rfl,?_⟩;refine Xf (col:=ck) #[.bool false,.slice none (([]:List Int).length) 0,.slice none (([]:List Int).length) 0] 5 zeroValue47 ?_;intro dj dl a8 ap cl;refine Zw cl ?_;intro dm aq cn b7;refine go ?_;refine Wc (col:=a8) (by kernel_rfl) (by kernel_rfl)<|qF ⟨_,_,rfl⟩ ?_;refine qW (fun _ hC=>((b7.atN).nth (q:=2) rfl).gr (hC.bl a8)) ?_;obtain ⟨bk,co,hm⟩:=bZ hm;replace b2:=(b2.gr ap).kp aq;refine qc (v:=(.int .i64 bk)) rfl (fun _ hC=>⟨_,_,S0 call121 rfl,(Zno co ((b2.gr (hC.bl a8)).toSlF (Zl.int .u32)):).mono fun _ _ h=>⟨h.1,hC.trans (.of_below h.2)⟩⟩) ?_;refine qF ⟨_,_,rfl⟩ ?_;refine qF (Wi ⟨_,_,rfl⟩) ?_;refine qW (fun _ hC=>((((b7.atN).part 0 2 _ rfl)).nth (q:=1) rfl).gr (hC.bl a8)) ?_;obtain ⟨bm,cp,hm⟩:=bZ hm;replace b1:=(b1.gr ap).kp aq;refine qc (v:=(.int .i64 bm)) rfl (fun _ hC=>⟨_,_,S0 call121 rfl,(Zno cp ((b1.gr (hC.bl a8)).toSlF (Zl.int .u32)):).mono fun _ _ h=>⟨h.1,hC.trans (.of_below h.2)⟩⟩) ?_;refine go ?_;refine Yf ?_;intro dn hC;replace hC:=hC.bl a8;refine go ?_;refine lV (.int .i64 (if (i64.wrap ((i64.wrap (bk - bm)) - 1))>0 then (i64.wrap ((i64.wrap (bk - bm)) - 1)) else 0)) (Zvb 0 (i64.wrap ((i64.wrap (bk - bm)) - 1)) rfl rfl)<|go ?_;replace ad:=(((ad.gr a7).gr ap).kp aq).gr hC;replace ae:=(((ae.gr a7).gr ap).kp aq).gr hC;replace af:=(((af.gr a7).gr ap).kp aq).gr hC;replace ag:=(((ag.gr a7).gr ap).kp aq).gr hC;replace ac:=(((ac.gr a7).gr ap).kp aq).gr hC;replace ab:=(((ab.grow a7).grow ap).kp aq cn).grow hC
 refine Z8 [6,1000000] (fun n f a3=>∃ a4 b3 a9,a9=n∧Zbj N aa a9 b3=some r∧St w0 (Zi col) a4 a3∧Sl (Za.int .u32) a4 a3 au av aa.1.1.1.2∧Sl (Za.int .u32) a4 a3 aw ax aa.1.1.2∧Sl (Za.int .u32) a4 a3 ay az aa.1.2.1.2∧Sl (Za.int .u32) a4 a3 a0 a2 aa.1.2.2∧Zn 49 2 a4 a3 cd #[.bool aa.1.1.1.1,.slice au aa.1.1.1.2.length av,.slice aw aa.1.1.2.length ax,.bool aa.1.2.1.1,.slice ay aa.1.2.1.2.length az,.slice a0 aa.1.2.2.length a2]∧[10].map f=[.int .i64 b3]) N ⟨_,_,_,rfl,hm,ab,ad,ae,af,ag,ac,rfl⟩ ?_;clear hm;intro n f a3 hI;obtain ⟨a4,b3,a9,hn,hm,ab,ad,ae,af,ag,ac,hs⟩:=hI;subst hn;refine .lL [10] hs ?_
 cases a9 with
 | zero=>rw [Zbj.eq_1] at hm;cases hm
 | succ a9=>
  rw [Zbj.eq_2] at hm;refine go ?_;refine Xh ⟨_,_,rfl⟩ ?_;refine lV (.agg #[.bool aa.1.1.1.1,.slice au aa.1.1.1.2.length av,.slice aw aa.1.1.2.length ax]) (Xn isAgg47 sizeOf47 rfl rfl ((ac.atN).part 0 3 _ rfl))<|Xo rfl ?_;obtain ⟨dp,cq,hm⟩:=bZ hm;refine Zh (Zzv 6 cq ad ae) ?_;rintro _ dq ⟨cr,dr,ds,rfl,ba,aj⟩;refine ⟨_,rfl,?_⟩;refine Xf (col:=cr) #[.bool false,.slice none (([]:List Int).length) 0] 7 zeroValue45 ?_;intro dt du be a5 cs;refine Zw cs ?_;intro dv a6 ct ak;refine go ?_;refine Yv (col:=be) [(0,0),(3,1),(5,1),(6,0),(1,3),(2,3),(4,3),(7,3),(8,1)] (by kernel_rfl) (by kernel_rfl)<|xv rfl rfl (fun _ hC=>Xa isAgg45 sizeOf45 (ak.gr (hC.bl be))) ?_;refine xu rfl rfl (fun _=>Vg rfl) ?_;refine xF ⟨_,_,rfl⟩ ?_;replace ac:=((ac.gr ba).gr a5).kp a6;refine xv (v:=(.agg #[.bool aa.1.2.1.1,.slice ay aa.1.2.1.2.length az,.slice a0 aa.1.2.2.length a2])) rfl rfl (fun _ hC=>Xn isAgg47 sizeOf47 rfl rfl (((ac.atN).part 3 3 _ rfl).gr (hC.bl be))) ?_;refine xe rfl rfl ?_;intro dw hC0;have hC:=hC0.bl be;obtain ⟨dx,cu,hm⟩:=bZ hm;refine Zh (Ziu (col:=be) 8 cu) ?_;rintro _ dy ⟨bf,dz,d0,rfl,an,b4⟩;refine ⟨_,rfl,?_⟩;refine Zk<|Xg bf hC0 an<|xe rfl rfl ?_;intro cv hC0;replace ad:=((((ad.gr ba).gr a5).kp a6).gr hC).gr an;replace ae:=((((ae.gr ba).gr a5).kp a6).gr hC).gr an;replace af:=((((af.gr ba).gr a5).kp a6).gr hC).gr an;replace ag:=((((ag.gr ba).gr a5).kp a6).gr hC).gr an;replace ab:=((((ab.grow ba).grow a5).kp a6 ct).grow hC).grow an;replace aj:=(((aj.gr a5).kp a6).gr hC).gr an;replace ac:=(ac.gr hC).gr an;replace ak:=(ak.gr hC).gr an;have hC:=hC0.bl bf;obtain ⟨d1,cw,hm⟩:=bZ hm;replace aj:=aj.gr hC;replace b4:=b4.gr hC;refine Zh (Zld 9 cw ((aj.toSlF (Zl.int .u32)).froz 8) ((b4.froz 6 (by decide)).toSlF (Zl.int .u32))) ?_;rintro _ d2 ⟨cx,d3,d4,rfl,al,bg⟩;refine ⟨_,rfl,?_⟩;replace bg:=bg.thaw (Zv .u32) al (((Fz.refl (col:=bf)).froz 6).froz 8) (by decide);replace al:=al.thawR (col:=bf);generalize Z4 cv.heap.size bf cx=bb at *;refine Zk<|Xg bb hC0 al<|xe rfl rfl ?_;intro cy hC0;replace ad:=(ad.gr hC).gr al;replace ae:=(ae.gr hC).gr al;replace af:=(af.gr hC).gr al
  replace ag:=(ag.gr hC).gr al;replace ac:=(ac.gr hC).gr al;replace ak:=(ak.gr hC).gr al;replace ab:=(ab.grow hC).grow al;have hC:=hC0.bl bb;obtain ⟨d5,cz,hm⟩:=bZ hm;replace bg:=bg.gr hC;refine Zh (Zzw 10 11 cz (bg.toSlF (Zl.int .u32))) ?_;rintro _ d6 ⟨c0,d7,d8,d9,ea,rfl,ai,bh,bi⟩;refine ⟨_,rfl,?_⟩;replace bh:=bh.thaw (Zv .u32) ai ((Fz.refl (col:=bb)).froz 9) (by decide);replace bi:=bi.thaw (Zv .u32) ai ((Fz.refl (col:=bb)).froz 9) (by decide);replace ai:=ai.thawR (col:=bb);generalize Z4 cy.heap.size bb c0=ar at *;refine Zk<|Xg ar hC0 ai<|xe rfl rfl ?_;intro c1 hC0;replace aj:=((aj.gr al).gr hC).gr ai;replace ad:=(ad.gr hC).gr ai;replace ae:=(ae.gr hC).gr ai;replace af:=(af.gr hC).gr ai;replace ag:=(ag.gr hC).gr ai;replace ac:=(ac.gr hC).gr ai;replace ak:=(ak.gr hC).gr ai;replace ab:=(ab.grow hC).grow ai;have hC:=hC0.bl ar;obtain ⟨eb,c2,hm⟩:=bZ hm;replace af:=af.gr hC;replace ag:=ag.gr hC;replace bh:=bh.gr hC;replace bi:=bi.gr hC;refine Zh (Zle c2 ((bh.toSlF (Zl.int .u32)).froz 11) ((bi.froz 10 (by decide)).toSlF (Zl.int .u32)) ((af.froz 10).froz 11) ((ag.froz 10).froz 11)) ?_;rintro _ c3 ⟨rfl,am⟩;refine ⟨_,rfl,?_⟩;replace am:Zg ar c1 ar c3:=.of_below am;refine Zk<|Xg ar hC0 am<|xu rfl rfl (fun _=>Zmp _ _ rfl rfl) ?_;refine Yn ?_;replace ad:=(ad.gr hC).gr am;replace ae:=(ae.gr hC).gr am;replace aj:=(aj.gr hC).gr am;replace ac:=(ac.gr hC).gr am;replace ak:=(ak.gr hC).gr am;replace ab:=(ab.grow hC).grow am;intro c4 hC;replace hC:=hC.bl ar;replace af:=(af.gr am).gr hC;replace ag:=(ag.gr am).gr hC;replace ad:=ad.gr hC;replace ae:=ae.gr hC;replace aj:=aj.gr hC;replace ac:=ac.gr hC;replace ak:=ak.gr hC;replace ab:=ab.grow hC;refine Zq hm (fun hb hm=>go ?_) fun hb hm=>go ?_
  ·refine lV _ (Xa isAgg45 sizeOf45 ak)<|Xo rfl ?_;obtain ⟨ec,c5,hm⟩:=bZ hm;refine Zh (Zzu c5 (aj.toSlF (Zl.int .u32))) ?_;rintro _ c6 ⟨rfl,b5⟩;refine ⟨_,rfl,?_⟩;replace b5:Zg ar c4 ar c6:=.of_below b5;refine go ?_;cases hm;replace ab:=ab.grow b5;exact ⟨rfl,rfl,ab.below⟩
  exact ⟨a9,by omega,rfl,⟨_,_,_,rfl,hm,ab,ad,ae,af,ag,ac,rfl⟩⟩
def Zao (N:Nat) (aa:Rg):Nat→Int→Option Ri
  | 0,_=>none
  | ak+1,ac=>(Zi5 N ac).bind fun ab=>(Zas N ((aa.1.1.1.1,aa.1.1.1.2),aa.1.1.2) ((ab.1.1,ab.1.2),ab.2)).bind fun ad=>(Zgc N ((ad.1.1,ad.1.2),ad.2)).bind fun ae=>(Zi7 N ((ae.1.1,ae.1.2),ae.2)).bind fun aj=>(Zh3 N (aj.1,aj.2)).bind fun af=>(Zf2).bind fun ag=>(Qa N ((af.1,af.2),[1]) ((ag.1.1,ag.1.2),ag.2)).bind fun ah=>(Zas N ((aa.1.2.1.1,aa.1.2.1.2),aa.1.2.2) ((ab.1.1,ab.1.2),ab.2)).bind fun ai=>(Zb5 N ((ah.1.1,ah.1.2),ah.2) ((ai.1.1,ai.1.2),ai.2)).bind fun al=>if (decide (al≤0))=true then ((Zfz N af.2 ac).bind fun am=>some (am,0)) else ((Zao N aa ak) (i64.wrap (ac+1)))
termination_by structural x=>x
def Zi4 (N:Nat) (ab:R0) (af:List Int):Option Ri:=
  (Zfv N (ab.1,ab.2.1,ab.2.2.1,ab.2.2.2.1,ab.2.2.2.2) af).bind fun aa=>if (!decide (aa.2=0))=true then (some (⟨#[]⟩,aa.2)) else ((Zb7 N ((aa.1.2.1.1,aa.1.2.1.2),aa.1.2.2) ((aa.1.1.1.1,aa.1.1.1.2),aa.1.1.2)).bind fun ac=>(Zb6 N ((ac.1.1,ac.1.2),ac.2)).bind fun ag=>if (decide (ag≤0))=true then (some (⟨#[]⟩,52)) else ((Zax N ac.2).bind fun ad=>(Zax N ac.1.2).bind fun ae=>Zao N aa N (if 0>(i64.wrap ((i64.wrap (ad - ae)) - 1)) then 0 else (i64.wrap ((i64.wrap (ad - ae)) - 1)))))
theorem Zx5 {N b6 b7 b8 b9 ca:Nat} {cb cc cd ce a1:Option Addr} {col:Zf} {w0:World} {ah:R0} {bz:R2} {r:Ri} (hm:Zi4 N ah bz=some r) (cf:Sl Za.str col w0 cb b6 ah.2.1) (cg:Sl (Za.slice Za.str) col w0 cc b7 ah.2.2.1) (ch:Sl (Za.slice (Za.int .i64)) col w0 cd b8 ah.2.2.2.1) (ci:Sl (Za.slice (Za.pair (Za.pair Za.bool (Za.slice (Za.int .u32))) (Za.slice (Za.int .u32)))) col w0 ce b9 ah.2.2.2.2) (h1:Sl (Za.int .i64) col w0 a1 ca bz):
    Calls Tryz.prog 46 #[(.agg #[.string ah.1,.slice cb ah.2.1.length b6,.slice cc ah.2.2.1.length b7,.slice cd ah.2.2.2.1.length b8,.slice ce ah.2.2.2.2.length b9]),.slice a1 bz.length ca] w0 (fun e w'=>e= .returned (.tuple #[.string r.1,.int .i64 r.2])∧Below w0.heap.size w0 w'):=by
 refine Zdg 4 5 (m:=66) (args:=[(.agg #[.string ah.1,.slice cb ah.2.1.length b6,.slice cc ah.2.2.1.length b7,.slice cd ah.2.2.2.1.length b8,.slice ce ah.2.2.2.2.length b9]),.slice a1 bz.length ca]) func46 rfl rfl rfl rfl rfl ?_;rw [Zi4.eq_1] at hm;have ab:=St.start col w0;refine go ?_;refine Xd (col:=(Zi col)) 1 rfl ?_;intro eh ei ej cw cx;refine go ?_;refine lV _ (Xa isAgg27 sizeOf27 cx)<|Wa rfl ?_;obtain ⟨aa,cy,hm⟩:=bZ hm;replace cf:=cf.keep (Zj.start col w0);replace cg:=cg.keep (Zj.start col w0);replace ch:=ch.keep (Zj.start col w0);replace ci:=ci.keep (Zj.start col w0);replace h1:=h1.keep (Zj.start col w0);replace ab:=ab.grow cw;refine Zh (Zx6 2 3 4 5 cy (cf.ks ab) (cg.ks ab) (ch.ks ab) (ci.ks ab) (h1.ks ab)) ?_;rintro _ ek ⟨cz,be,bf,bg,bh,bi,bj,bk,bm,rfl,c0,ad,ae,af,ag⟩;refine ⟨_,rfl,?_⟩;refine lM (.tuple #[(.agg #[.bool aa.1.1.1.1,.slice be aa.1.1.1.2.length bf,.slice bg aa.1.1.2.length bh,.bool aa.1.2.1.1,.slice bi aa.1.2.1.2.length bj,.slice bk aa.1.2.2.length bm]),.int .i64 aa.2])<|lV (.agg #[.bool aa.1.1.1.1,.slice be aa.1.1.1.2.length bf,.slice bg aa.1.1.2.length bh,.bool aa.1.2.1.1,.slice bi aa.1.2.1.2.length bj,.slice bk aa.1.2.2.length bm]) (Xl rfl rfl)<|lV (.int .i64 aa.2) (Xl rfl rfl)<|Xf (col:=cz) #[.bool false,.slice none (([]:List Int).length) 0,.slice none (([]:List Int).length) 0,.bool false,.slice none (([]:List Int).length) 0,.slice none (([]:List Int).length) 0] 6 zeroValue49 ?_;intro c1 el b0 bs c2;refine Zw c2 ?_;intro c3 bt c4 ac;refine go ?_;replace ab:=((ab.grow c0).grow bs).kp bt c4;replace ad:=(ad.gr bs).kp bt;replace ae:=(ae.gr bs).kp bt;replace af:=(af.gr bs).kp bt;replace ag:=(ag.gr bs).kp bt;refine Zq hm (fun hb hm=>go ?_) fun hb hm=>go ?_
 ·cases hm;exact ⟨rfl,rfl,ab.below⟩
 refine Xh ⟨_,_,rfl⟩ ?_;refine lV (.agg #[.bool aa.1.2.1.1,.slice bi aa.1.2.1.2.length bj,.slice bk aa.1.2.2.length bm]) (Xn isAgg47 sizeOf47 rfl rfl ((ac.atN).part 3 3 _ rfl))<|Xh ⟨_,_,rfl⟩ ?_;refine lV (.agg #[.bool aa.1.1.1.1,.slice be aa.1.1.1.2.length bf,.slice bg aa.1.1.2.length bh]) (Xn isAgg47 sizeOf47 rfl rfl ((ac.atN).part 0 3 _ rfl)) ?_;obtain ⟨em,c5,hm⟩:=bZ hm;refine Zh (Zqk 7 8 c5 ((((af.toSlF (Zl.int .u32)).froz 5).froz 2).froz 3) ((((ag.froz 4 (by decide)).toSlF (Zl.int .u32)).froz 2).froz 3) ((((ad.froz 4 (by decide)).froz 5 (by decide)).toSlF (Zl.int .u32)).froz 3) ((((ae.froz 4 (by decide)).froz 5 (by decide)).froz 2 (by decide)).toSlF (Zl.int .u32))) ?_;rintro _ en ⟨c6,eo,ep,eq,er,rfl,ax,a2,a3⟩;refine ⟨_,rfl,?_⟩;replace a2:=a2.thaw (Zv .u32) ax (((((Fz.refl (col:=b0)).froz 4).froz 5).froz 2).froz 3) (by decide);replace a3:=a3.thaw (Zv .u32) ax (((((Fz.refl (col:=b0)).froz 4).froz 5).froz 2).froz 3) (by decide);replace ax:=ax.thawR (col:=b0);generalize Z4 c3.heap.size b0 c6=c7 at *;refine Xf (col:=c7) #[.bool false,.slice none (([]:List Int).length) 0,.slice none (([]:List Int).length) 0] 9 zeroValue47 ?_;intro es et a4 a5 c8;refine Zw c8 ?_;intro c9 a6 da bu;refine go ?_;refine lV _ (Xa isAgg47 sizeOf47 bu) ?_;obtain ⟨eu,db,hm⟩:=bZ hm;replace a2:=(a2.gr a5).kp a6;replace a3:=(a3.gr a5).kp a6;refine Zh (Zqj db ((a2.toSlF (Zl.int .u32)).froz 8) ((a3.froz 7 (by decide)).toSlF (Zl.int .u32))) ?_;rintro _ dc ⟨rfl,ar⟩;refine ⟨_,rfl,?_⟩;replace ar:Zg a4 c9 a4 dc:=.of_below ar;refine go ?_;replace ad:=(((ad.gr ax).gr a5).kp a6).gr ar;replace ae:=(((ae.gr ax).gr a5).kp a6).gr ar;replace af:=(((af.gr ax).gr a5).kp a6).gr ar;replace ag:=(((ag.gr ax).gr a5).kp a6).gr ar;replace ac:=(((ac.gr ax).gr a5).kp a6).gr ar;replace ab:=(((ab.grow ax).grow a5).kp a6 da).grow ar;replace a2:=a2.gr ar;replace a3:=a3.gr ar;replace bu:=bu.gr ar;refine Zq hm (fun hb hm=>go ?_) fun hb hm=>go ?_
 ·cases hm;exact ⟨rfl,rfl,ab.below⟩
 refine Wc (col:=a4) (by kernel_rfl) (by kernel_rfl)<|qF ⟨_,_,rfl⟩ ?_;refine qW (fun _ hC=>((bu.atN).nth (q:=2) rfl).gr (hC.bl a4)) ?_;obtain ⟨b1,dd,hm⟩:=bZ hm;refine qc (v:=(.int .i64 b1)) rfl (fun _ hC=>⟨_,_,S0 call128 rfl,(Znk dd ((a3.gr (hC.bl a4)).toSlF (Zl.int .u32)):).mono fun _ _ h=>⟨h.1,hC.trans (.of_below h.2)⟩⟩) ?_;refine qF ⟨_,_,rfl⟩ ?_;refine qF (Wi ⟨_,_,rfl⟩) ?_;refine qW (fun _ hC=>((((bu.atN).part 0 2 _ rfl)).nth (q:=1) rfl).gr (hC.bl a4)) ?_;obtain ⟨b2,de,hm⟩:=bZ hm;refine qc (v:=(.int .i64 b2)) rfl (fun _ hC=>⟨_,_,S0 call128 rfl,(Znk de ((a2.gr (hC.bl a4)).toSlF (Zl.int .u32)):).mono fun _ _ h=>⟨h.1,hC.trans (.of_below h.2)⟩⟩) ?_;refine go ?_;refine qv (v:=(.int .i64 (if 0>(i64.wrap ((i64.wrap (b1 - b2)) - 1)) then 0 else (i64.wrap ((i64.wrap (b1 - b2)) - 1))))) rfl (fun _ hC=>Zvb (i64.wrap ((i64.wrap (b1 - b2)) - 1)) 0 rfl rfl) ?_;refine go ?_;refine Yf ?_;intro ew hC;replace hC:=hC.bl a4;refine Zdc ?_;replace ad:=ad.gr hC;replace ae:=ae.gr hC;replace af:=af.gr hC;replace ag:=ag.gr hC;replace ac:=ac.gr hC;replace ab:=ab.grow hC;refine Z8 [6,1000000] (fun n f bb=>∃ a7 cj bn,bn=n∧Zao N aa bn cj=some r∧St w0 (Zi col) a7 bb∧Zc (Za.int .u32) 79 2 a7 bb be bf aa.1.1.1.2∧Zc (Za.int .u32) 79 3 a7 bb bg bh aa.1.1.2∧Zc (Za.int .u32) 79 4 a7 bb bi bj aa.1.2.1.2∧Zc (Za.int .u32) 79 5 a7 bb bk bm aa.1.2.2∧Zn 49 6 a7 bb c1 #[.bool aa.1.1.1.1,.slice be aa.1.1.1.2.length bf,.slice bg aa.1.1.2.length bh,.bool aa.1.2.1.1,.slice bi aa.1.2.1.2.length bj,.slice bk aa.1.2.2.length bm]∧[9].map f=[.int .i64 cj]) N ⟨_,_,_,rfl,hm,ab,ad,ae,af,ag,ac,rfl⟩ ?_;clear hm;intro n f bb hI;obtain ⟨a7,cj,bn,hn,hm,ab,ad,ae,af,ag,ac,hs⟩:=hI;subst hn;refine .lL [9] hs ?_
 cases bn with
 | zero=>rw [Zao.eq_1] at hm;cases hm
 | succ bn=>
  rw [Zao.eq_2] at hm;refine go ?_;obtain ⟨ey,df,hm⟩:=bZ hm;refine Zh (Zya (col:=a7) 10 11 df) ?_;rintro _ ez ⟨dg,e0,e1,e2,e3,rfl,bo,ay,az⟩;refine ⟨_,rfl,?_⟩;refine Xf (col:=dg) #[.bool false,.slice none (([]:List Int).length) 0,.slice none (([]:List Int).length) 0] 12 zeroValue47 ?_;intro e4 e5 b3 a8 dh;refine Zw dh ?_;intro di a9 dj b4;refine go ?_;refine Xh ⟨_,_,rfl⟩ ?_;replace ac:=((ac.gr bo).gr a8).kp a9;refine lV (.agg #[.bool aa.1.1.1.1,.slice be aa.1.1.1.2.length bf,.slice bg aa.1.1.2.length bh]) (Xn isAgg47 sizeOf47 rfl rfl ((ac.atN).part 0 3 _ rfl))<|lV _ (Xa isAgg47 sizeOf47 b4) ?_;obtain ⟨e6,dl,hm⟩:=bZ hm;replace ad:=((ad.gr bo).gr a8).kp a9;replace ae:=((ae.gr bo).gr a8).kp a9;replace ay:=(ay.gr a8).kp a9;replace az:=(az.gr a8).kp a9;refine Zh (Znj 13 14 dl ((((ad.toSlF (Zl.int .u32)).froz 3).froz 10).froz 11) ((((ae.froz 2 (by decide)).toSlF (Zl.int .u32)).froz 10).froz 11) ((((ay.froz 2 (by decide)).froz 3 (by decide)).toSlF (Zl.int .u32)).froz 11) ((((az.froz 2 (by decide)).froz 3 (by decide)).froz 10 (by decide)).toSlF (Zl.int .u32))) ?_;rintro _ dm ⟨dn,e7,e8,e9,fa,rfl,al,ck,cl⟩;refine ⟨_,rfl,?_⟩;replace ck:=ck.thaw (Zv .u32) al (((((Fz.refl (col:=b3)).froz 2).froz 3).froz 10).froz 11) (by decide);replace cl:=cl.thaw (Zv .u32) al (((((Fz.refl (col:=b3)).froz 2).froz 3).froz 10).froz 11) (by decide);replace al:=al.thawR (col:=b3);generalize Z4 di.heap.size b3 dn=b5 at *;obtain ⟨fb,dp,hm⟩:=bZ hm;refine Zh (Zyh 15 16 dp ((ck.toSlF (Zl.int .u32)).froz 14) ((cl.froz 13 (by decide)).toSlF (Zl.int .u32))) ?_;rintro _ dq ⟨dr,fc,fd,fe,ff,rfl,am,cn,co⟩;refine ⟨_,rfl,?_⟩;replace cn:=cn.thaw (Zv .u32) am (((Fz.refl (col:=b5)).froz 13).froz 14) (by decide);replace co:=co.thaw (Zv .u32) am (((Fz.refl (col:=b5)).froz 13).froz 14) (by decide);replace am:=am.thawR (col:=b5);generalize Z4 dm.heap.size b5 dr=cp at *;obtain ⟨fg,ds,hm⟩:=bZ hm;refine Zh (Zyg 17 ds ((cn.toSlF (Zl.int .u32)).froz 16) ((co.froz 15 (by decide)).toSlF (Zl.int .u32))) ?_
  rintro _ dt ⟨du,fh,fi,rfl,an,cq⟩;refine ⟨_,rfl,?_⟩;replace cq:=cq.thaw (Zv .u32) an (((Fz.refl (col:=cp)).froz 15).froz 16) (by decide);replace an:=an.thawR (col:=cp);generalize Z4 dq.heap.size cp du=cr at *;obtain ⟨cv,dv,hm⟩:=bZ hm;refine Zh (Zz7 18 dv (cq.toSlF (Zl.int .u32))) ?_;rintro _ fj ⟨dw,dx,dy,rfl,ao,ak⟩;refine ⟨_,rfl,?_⟩;replace ak:=ak.thaw (Zv .u32) ao ((Fz.refl (col:=cr)).froz 17) (by decide);replace ao:=ao.thawR (col:=cr);generalize Z4 dt.heap.size cr dw=dz at *;refine Wx (col:=dz) [1] 19 ?_;intro d0 fk d1 a0 bv;refine lV (.agg #[.bool cv.1,.slice dx cv.2.length dy,.slice d0 ([1].length) 1]) (Yc (l:=[_,_]) (qs:=[(0,2),(2,1)]) underlying47 zeroValue47 ⟨rfl,sizeOf45,rfl,sizeOf43,trivial⟩ rfl)<|Xf (col:=d1) #[.bool false,.slice none (([]:List Int).length) 0,.slice none (([]:List Int).length) 0] 20 zeroValue47 ?_;intro fl fm bp au d2;refine Zw d2 ?_;intro fn av d3 ap;refine go ?_;refine Yv (col:=bp) [(0,0),(3,1),(4,0),(5,0),(1,3),(2,3),(6,3),(7,3),(8,1)] (by kernel_rfl) (by kernel_rfl)<|xv rfl rfl (fun _ hC=>Xa isAgg47 sizeOf47 (ap.gr (hC.bl bp))) ?_;refine xF ⟨_,_,rfl⟩ ?_;replace ac:=((((((ac.gr al).gr am).gr an).gr ao).gr a0).gr au).kp av;refine xv (v:=(.agg #[.bool aa.1.2.1.1,.slice bi aa.1.2.1.2.length bj,.slice bk aa.1.2.2.length bm])) rfl rfl (fun _ hC=>Xn isAgg47 sizeOf47 rfl rfl (((ac.atN).part 3 3 _ rfl).gr (hC.bl bp))) ?_;replace b4:=((((((b4.gr al).gr am).gr an).gr ao).gr a0).gr au).kp av;refine xv rfl rfl (fun _ hC=>Xa isAgg47 sizeOf47 (b4.gr (hC.bl bp))) ?_;refine xe rfl rfl ?_;intro fp hC0;have hC:=hC0.bl bp;obtain ⟨fq,d4,hm⟩:=bZ hm;refine lc rfl rfl (Zbn call97) (Zqg (col:=bp) 21 22 d4:) ?_;rintro _ fr ⟨bq,ft,fu,fv,fw,rfl,aq,cs,ct⟩;refine ⟨_,rfl,?_⟩;refine Zk<|Xg bq hC0 aq<|xe rfl rfl ?_;intro d5 hC0;replace af:=(((((((((((af.gr bo).gr a8).kp a9).gr al).gr am).gr an).gr ao).gr a0).gr au).kp av).gr hC).gr aq;replace ag:=(((((((((((ag.gr bo).gr a8).kp a9).gr al).gr am).gr an).gr ao).gr a0).gr au).kp av).gr hC).gr aq
  replace ab:=(((((((((((ab.grow bo).grow a8).kp a9 dj).grow al).grow am).grow an).grow ao).grow a0).grow au).kp av d3).grow hC).grow aq;replace ad:=((((((((ad.gr al).gr am).gr an).gr ao).gr a0).gr au).kp av).gr hC).gr aq;replace ae:=((((((((ae.gr al).gr am).gr an).gr ao).gr a0).gr au).kp av).gr hC).gr aq;replace ay:=((((((((ay.gr al).gr am).gr an).gr ao).gr a0).gr au).kp av).gr hC).gr aq;replace az:=((((((((az.gr al).gr am).gr an).gr ao).gr a0).gr au).kp av).gr hC).gr aq;replace ak:=((((ak.gr a0).gr au).kp av).gr hC).gr aq;replace bv:=(((bv.gr au).kp av).gr hC).gr aq;replace ac:=(ac.gr hC).gr aq;replace ap:=(ap.gr hC).gr aq;have hC:=hC0.bl bq;obtain ⟨fx,d6,hm⟩:=bZ hm;replace ak:=ak.gr hC;replace bv:=bv.gr hC;replace cs:=cs.gr hC;replace ct:=ct.gr hC;refine Zh (Zk8 23 24 d6 ((((ak.toSlF (Zl.int .u32)).froz 19).froz 21).froz 22) ((((bv.froz 18 (by decide)).toSlF (Zl.int .u32)).froz 21).froz 22) ((((cs.froz 18 (by decide)).froz 19 (by decide)).toSlF (Zl.int .u32)).froz 22) ((((ct.froz 18 (by decide)).froz 19 (by decide)).froz 21 (by decide)).toSlF (Zl.int .u32))) ?_;rintro _ fy ⟨d7,fz,f0,f1,f2,rfl,ai,bc,bd⟩;refine ⟨_,rfl,?_⟩;replace bc:=bc.thaw (Zv .u32) ai (((((Fz.refl (col:=bq)).froz 18).froz 19).froz 21).froz 22) (by decide);replace bd:=bd.thaw (Zv .u32) ai (((((Fz.refl (col:=bq)).froz 18).froz 19).froz 21).froz 22) (by decide);replace ai:=ai.thawR (col:=bq);generalize Z4 d5.heap.size bq d7=br at *;refine Zk<|Xg br hC0 ai<|xe rfl rfl ?_;intro d8 hC0;replace ad:=(ad.gr hC).gr ai;replace ae:=(ae.gr hC).gr ai;replace af:=(af.gr hC).gr ai;replace ag:=(ag.gr hC).gr ai;replace ay:=(ay.gr hC).gr ai;replace az:=(az.gr hC).gr ai;replace ac:=(ac.gr hC).gr ai;replace ap:=(ap.gr hC).gr ai;replace ab:=(ab.grow hC).grow ai;have hC:=hC0.bl br;obtain ⟨f3,d9,hm⟩:=bZ hm;replace af:=af.gr hC;replace ag:=ag.gr hC;replace ay:=ay.gr hC;replace az:=az.gr hC
  refine Zh (Znj 25 26 d9 ((((af.toSlF (Zl.int .u32)).froz 5).froz 10).froz 11) ((((ag.froz 4 (by decide)).toSlF (Zl.int .u32)).froz 10).froz 11) ((((ay.froz 4 (by decide)).froz 5 (by decide)).toSlF (Zl.int .u32)).froz 11) ((((az.froz 4 (by decide)).froz 5 (by decide)).froz 10 (by decide)).toSlF (Zl.int .u32))) ?_;rintro _ f4 ⟨ea,f5,f6,f7,f8,rfl,aj,bw,bx⟩;refine ⟨_,rfl,?_⟩;replace bw:=bw.thaw (Zv .u32) aj (((((Fz.refl (col:=br)).froz 4).froz 5).froz 10).froz 11) (by decide);replace bx:=bx.thaw (Zv .u32) aj (((((Fz.refl (col:=br)).froz 4).froz 5).froz 10).froz 11) (by decide);replace aj:=aj.thawR (col:=br);generalize Z4 d8.heap.size br ea=ba at *;refine Zk<|Xg ba hC0 aj<|xe rfl rfl ?_;intro eb hC0;replace ak:=((ak.gr ai).gr hC).gr aj;replace ad:=(ad.gr hC).gr aj;replace ae:=(ae.gr hC).gr aj;replace bc:=(bc.gr hC).gr aj;replace bd:=(bd.gr hC).gr aj;replace ac:=(ac.gr hC).gr aj;replace ap:=(ap.gr hC).gr aj;replace ab:=(ab.grow hC).grow aj;have hC:=hC0.bl ba;obtain ⟨f9,ec,hm⟩:=bZ hm;replace bc:=bc.gr hC;replace bd:=bd.gr hC;replace bw:=bw.gr hC;replace bx:=bx.gr hC;refine Zh (Zni ec ((((bc.toSlF (Zl.int .u32)).froz 24).froz 25).froz 26) ((((bd.froz 23 (by decide)).toSlF (Zl.int .u32)).froz 25).froz 26) ((((bw.froz 23 (by decide)).froz 24 (by decide)).toSlF (Zl.int .u32)).froz 26) ((((bx.froz 23 (by decide)).froz 24 (by decide)).froz 25 (by decide)).toSlF (Zl.int .u32))) ?_;rintro _ ed ⟨rfl,aw⟩;refine ⟨_,rfl,?_⟩;replace aw:Zg ba eb ba ed:=.of_below aw;refine Zk<|Xg ba hC0 aw<|xu rfl rfl (fun _=>Zmp _ _ rfl rfl) ?_;refine Yn ?_;replace af:=((af.gr aj).gr hC).gr aw;replace ag:=((ag.gr aj).gr hC).gr aw;replace ad:=(ad.gr hC).gr aw;replace ae:=(ae.gr hC).gr aw;replace ak:=(ak.gr hC).gr aw;replace ac:=(ac.gr hC).gr aw;replace ap:=(ap.gr hC).gr aw;replace ab:=(ab.grow hC).grow aw;intro ee hC;replace hC:=hC.bl ba;replace ad:=ad.gr hC;replace ae:=ae.gr hC;replace af:=af.gr hC;replace ag:=ag.gr hC;replace ak:=ak.gr hC;replace ac:=ac.gr hC;replace ap:=ap.gr hC;replace ab:=ab.grow hC
  refine Zq hm (fun hb hm=>go ?_) fun hb hm=>go ?_
  ·refine Xh ⟨_,_,rfl⟩ ?_;refine Xh (Wi ⟨_,_,rfl⟩) ?_;refine lW ((((ap.atN).part 0 2 _ rfl)).nth (q:=1) rfl)<|Xo rfl ?_;obtain ⟨ga,ef,hm⟩:=bZ hm;refine Zh (Zx9 ef (ak.toSlF (Zl.int .u32))) ?_;rintro _ eg ⟨rfl,cu⟩;refine ⟨_,rfl,?_⟩;replace cu:Zg ba ee ba eg:=.of_below cu;refine go ?_;cases hm;replace ab:=ab.grow cu;exact ⟨rfl,rfl,ab.below⟩
  exact ⟨bn,by omega,rfl,⟨_,_,_,rfl,hm,ab,ad,ae,af,ag,ac,rfl⟩⟩
theorem Zh8 {a b:Rat}:Vu a b≤0↔a≤b:=by
 rw [Vu,← Rat.not_lt]
 by_cases h:a<b
 ·rw [if_pos h];exact ⟨fun _ g=>absurd (Rat.le_of_lt h) (Rat.not_le.2 g),fun _=>by decide⟩
 ·rw [if_neg h]
  by_cases g:b<a
  ·rw [if_pos g];exact ⟨fun e=>absurd e (by decide),fun e=>absurd g e⟩
  ·rw [if_neg g];exact ⟨fun _=>g,fun _=>by decide⟩
theorem Zuu {a b:Rat}:0≤Vu a b↔b≤a:=by
 rw [Vu,← Rat.not_lt]
 by_cases h:a<b
 ·rw [if_pos h];exact ⟨fun e=>absurd e (by decide),fun e=>absurd h e⟩
 ·rw [if_neg h]
  by_cases g:b<a
  ·rw [if_pos g];exact ⟨fun _=>h,fun _=>by decide⟩
  ·rw [if_neg g];exact ⟨fun _=>h,fun _=>by decide⟩
abbrev X7 (k:Nat):Rat:=mkRat ((2 ^ k:Nat):Int) 1
def bN (f:Rat) (k:Nat):Int:= -V6 (-(f * X7 k))
theorem Z2w (b:Int):mkRat b 1+1=mkRat (b+1) 1:=Ztq b 1 (D:=1) (by decide)
theorem Zn8 {b:Int} {t:Rat} {Z:Nat} (hZ:Z≠0):Vu (mkRat b 1+1) (t * mkRat (Z:Int) 1)≤0↔mkRat (b+1) Z≤t:=by
 have ht:=Rat.mkRat_self t
 have hd:=t.den_nz
 generalize t.num=n at ht
 generalize t.den=d at ht hd
 subst ht
 rw [Zh8,Z2w,Rat.mkRat_mul_mkRat,← Rat.not_lt,← Rat.not_lt,Zbm (by omega) (by decide),Zbm hd hZ]
 simp
theorem Zx3 {q:Rat} (h:0<q) {Z:Nat} (hZ:2 * q.den≤Z):2≤q * mkRat (Z:Int) 1:=by
 have hn:mkRat 0 1<mkRat q.num q.den:=by rw [Rat.mkRat_self];exact h
 rw [Zbm (by decide) q.den_nz] at hn
 have ht:=Rat.mkRat_self q
 have hd:=q.den_nz
 generalize q.num=n at *
 generalize q.den=d at *
 subst ht
 rw [Rat.mkRat_mul_mkRat,← Rat.not_lt,show (2:Rat)=mkRat 2 1 from rfl,Zbm (by omega) (by decide)]
 have h1:1 * (Z:Int)≤n * (Z:Int):=Int.mul_le_mul_of_nonneg_right (by simp at hn;omega) (by omega)
 have e:((d * 1:Nat):Int)=(d:Int):=by rw [Nat.mul_one]
 rw [e]
 have e1:((1:Nat):Int)=1:=rfl
 rw [e1,Int.mul_one]
 omega
theorem Z06 {f t:Rat} (h:f<t):mkRat (bN f (Xb (t - f).den+1)+1) (2 ^ (Xb (t - f).den+1))≤t:=by
 have hl:0<t - f:=by grind
 have hZ:2 * (t - f).den≤2 ^ (Xb (t - f).den+1):=by
  have:=Vr.1 (Nat.le_refl (Xb (t - f).den))
  rw [Nat.pow_succ];omega
 have h2:=Zx3 hl hZ
 have hne:(2 ^ (Xb (t - f).den+1):Nat)≠0:=Nat.pos_iff_ne_zero.1 (Nat.pow_pos (by decide))
 rw [← Zn8 hne,Zh8,bN]
 generalize (Xb (t - f).den+1)=k at *
 have h3:=Z09 (-(f * X7 k))
 generalize hF:V6 (-(f * X7 k))=F at *
 have e:mkRat (-F) 1= -(F:Rat):=by rw [Rat.mkRat_one];simp
 rw [e]
 have h4:2≤t * X7 k - f * X7 k:=by
  have e2:t * X7 k - f * X7 k=(t - f) * X7 k:=by grind
  rw [e2];exact h2
 generalize f * X7 k=x at *
 generalize t * X7 k=y at *
 have h5:2≤y - x:=h4
 have h6:-x<(F:Rat)+1:=h3
 show -(F:Rat)+1≤y
 grind
section
variable {N K:Nat} {f t:Rat} (hf:qs f≤K) (ht:qs t≤K) (hr:Xe N (13 * K+64)) {k:Nat} (hk:k / 32+1≤2 * K+3)
theorem Zo6 (k:Nat):qs (X7 k)≤k / 32+1:=by
 refine Ze8 ?_ ?_ (by omega)
 ·rw [Int.natAbs_natCast];exact Zmi k
 ·rw [W8];simp
include hf hr hk
omit hr in
theorem Znd:(Zs (bN f k)).2.length≤3 * K+4:=by
 have h1:=Zn9 (-(f * X7 k))
 rw [Ze9] at h1
 have h2:=Zh9 f (X7 k)
 have h3:=Zo6 k
 rw [Vm] at h1 ⊢
 rw [bN,Int.natAbs_neg]
 omega
omit hr in
theorem Zx0:(Zs (bN f k+1)).2.length≤3 * K+5:=by
 have h1:=Znd (f:=f) hf hk
 exact Zm3 h1 (y:=1) (by rw [Vm];simp [W8])
theorem Z1y:Zj7 N (((Zm f).1.1,(Zm f).1.2),(Zm f).2) (k:Int)=some (Zs (bN f k)):=by
 have hroom:=hr.2
 obtain ⟨l,h1,h2,h3,h4⟩:=Zxn (k:=k) (by omega)
 have q2:=Zo6 k
 have q3:=Zh9 f (X7 k)
 have o1:Sq N 1=some (Zs 1):=Zkm (by omega) (hr.mono (by omega))
 have hs:Tz N ((Zs 1).1,(Zs 1).2)=some 1:=by
  have:=Zfc (N:=N) (a:=Zs 1) (k:=1) (Yj _) (by rw [Vm];simp [W8]) (hr.mono (by omega))
  rw [Yt] at this
  exact this
 have low:Zba N (!decide (false=(Zs 1).1),l) (Zs 1).2=some (Zm (X7 k)):=by
  have e:=Zic (N:=N) (num:=(false,l)) (den:=(Zs 1).2) (k:=k / 32+1) (l:=1) h2 (Yj _) (by rw [Vm,Z0];decide) (by simp only;omega) (by rw [Vm];simp [W8]) (hr.mono (by omega))
  have z:Zr (false,l)=((2 ^ k:Nat):Int):=by simp only [Zr,h3];rfl
  have d:Zb (Zs 1).2=1:=by rw [Vm,Z0];rfl
  rw [z,d] at e
  exact e
 have nw:Za8 N (false,l) ((Zs 1).1,(Zs 1).2)=some (Zm (X7 k),0):=by
  rw [Za8,hs,Option.bind_some,if_neg (by decide),low,Option.bind_some]
 have mu:Zcq N (((Zm f).1.1,(Zm f).1.2),(Zm f).2) (((Zm (X7 k)).1.1,(Zm (X7 k)).1.2),(Zm (X7 k)).2)=some (Zm (f * X7 k)):=by
  have:=Zvy (Y2 hf) (Y2 q2) (hr.mono (by omega))
  rwa [Yr,Yr] at this
 have ne:Zeg N (((Zm (f * X7 k)).1.1,(Zm (f * X7 k)).1.2),(Zm (f * X7 k)).2)=some (Zm (-(f * X7 k))):=by
  have:=Zvz (Y2 (Nat.le_refl (qs (f * X7 k)))) (hr.mono (by omega))
  rwa [Yr] at this
 have fl:=Z31 (N:=N) (q:= -(f * X7 k)) (Nat.le_refl _) (hr.mono (by rw [Ze9];omega))
 have wn:Zco N ((Zs (V6 (-(f * X7 k)))).1,(Zs (V6 (-(f * X7 k)))).2)=some (Zs (bN f k)):=by
  have hl:=Zn9 (-(f * X7 k))
  rw [Ze9] at hl
  have:=Zph (N:=N) (a:=Zs (V6 (-(f * X7 k)))) (Yj _) hl (hr.mono (by omega))
  rwa [Yt] at this
 rw [Zj7,h1,Option.bind_some,o1,Option.bind_some,nw,Option.bind_some,mu,Option.bind_some,ne,Option.bind_some,fl,Option.bind_some,wn,Option.bind_some]
include ht
theorem Zvt (g:Nat):Zbj N ((Zm f,Zm t),0) (g+1) (k:Int)=if mkRat (bN f k+1) (2 ^ k)≤t then some (Uk (Sf (bN f k).natAbs k),0) else Zbj N ((Zm f,Zm t),0) g ((k+1:Nat):Int):=by
 have hroom:=hr.2
 have hroom1:=hr.1
 have lb:=Znd (f:=f) hf hk
 have lb1:=Zx0 (f:=f) hf hk
 have o1:Sq N 1=some (Zs 1):=Zkm (by omega) (hr.mono (by omega))
 have ad:Zaa N ((Zs (bN f k)).1,(Zs (bN f k)).2) ((Zs 1).1,(Zs 1).2)=some (Zs (bN f k+1)):=by
  have:=Zmv (N:=N) (a:=Zs (bN f k)) (b:=Zs 1) (l:=1) (Yj _) (Yj _) lb (by rw [Vm];simp [W8]) (hr.mono (by omega))
  rwa [Yt,Yt] at this
 have ov:Zhy N ((Zs (bN f k+1)).1,(Zs (bN f k+1)).2) (k:Int)=some (Zm (mkRat (bN f k+1) (2 ^ k))):=by
  have:=Z38 (N:=N) (b:=Zs (bN f k+1)) (Yj _) lb1 (k:=k) (by omega) (hr.mono (by omega))
  rwa [Yt] at this
 have q1:qs (mkRat (bN f k+1) (2 ^ k))≤3 * K+5:=by
  refine Ze8 ?_ ?_ (by omega)
  ·rwa [Vm] at lb1
  ·have:=Zmi k;omega
 have cm:Zab N (((Zm (mkRat (bN f k+1) (2 ^ k))).1.1,(Zm (mkRat (bN f k+1) (2 ^ k))).1.2),(Zm (mkRat (bN f k+1) (2 ^ k))).2) (((Zm t).1.1,(Zm t).1.2),(Zm t).2)=some (Vu (mkRat (bN f k+1) (2 ^ k)) t):=by
  have:=Zmy (Y2 q1) (Y2 ht) (hr.mono (by omega))
  rwa [Yr,Yr] at this
 have bi:Zhx N ((Zs (bN f k)).1,(Zs (bN f k)).2) (k:Int)=some (Uk (Sf (bN f k).natAbs k)):=by
  have:=Z3t (N:=N) (k:=k) (b:=Zs (bN f k)) (Yj _) (by omega) (by omega)
  rwa [Vm,Z0] at this
 rw [Zbj.eq_2]
 dsimp only
 rw [Z1y hf hr hk,Option.bind_some,o1,Option.bind_some,ad,Option.bind_some,ov,Option.bind_some,cm,Option.bind_some]
 by_cases h:mkRat (bN f k+1) (2 ^ k)≤t
 ·rw [if_pos (decide_eq_true (Zh8.2 h)),if_pos h,bi,Option.bind_some]
 ·rw [if_neg (by rw [decide_eq_false (fun e=>h (Zh8.1 e))];decide),if_neg h,wS (by omega)]
theorem Zrv (hN:2199023255552<N) (g:Nat):Zao N ((Zm f,Zm t),0) (g+1) (k:Int)=if mkRat (bN f k+1) (2 ^ k)≤t then some (Uk (Sf (bN f k).natAbs k),0) else Zao N ((Zm f,Zm t),0) g ((k+1:Nat):Int):=by
 have hroom:=hr.2
 have hroom1:=hr.1
 have lb:=Znd (f:=f) hf hk
 have q2:=Zo6 k
 have q3:=Zh9 f (X7 k)
 have q4:=Zh9 t (X7 k)
 have hp:RV (2 * K+3) (pw k):=(Z4d k).mono hk
 have mul:∀ q:Rat,qs q≤K→Zas N (((Zm q).1.1,(Zm q).1.2),(Zm q).2) (((pw k).1.1,(pw k).1.2),(pw k).2)=some (Zm (q * X7 k)):=fun q hq=>by
  have:=Zr7 (Y2 hq) hp (hr.mono (by omega))
  rwa [Yr,Z29] at this
 have ne:Zgc N (((Zm (f * X7 k)).1.1,(Zm (f * X7 k)).1.2),(Zm (f * X7 k)).2)=some (Zm (-(f * X7 k))):=by
  have:=Z1a (Y2 (Nat.le_refl (qs (f * X7 k)))) (hr.mono (by omega))
  rwa [Yr] at this
 have fl:=Z02 (N:=N) (q:= -(f * X7 k)) (Nat.le_refl _) (hr.mono (by rw [Ze9];omega))
 have wn:Zh3 N ((Zs (V6 (-(f * X7 k)))).1,(Zs (V6 (-(f * X7 k)))).2)=some (Zs (bN f k)):=by
  have hl:=Zn9 (-(f * X7 k))
  rw [Ze9] at hl
  have:=Z4z (N:=N) (a:=Zs (V6 (-(f * X7 k)))) (Yj _) hl (hr.mono (by omega))
  rwa [Yt] at this
 have hb:RV (3 * K+4) (Zs (bN f k),[1]):=⟨Yj _,by simp [Zp],lb,by simp⟩
 have vb:Z6 (Zs (bN f k),[1])=mkRat (bN f k) 1:=by
  rw [Z6];simp only [Yt];rfl
 have ad:Qa N (((Zs (bN f k)).1,(Zs (bN f k)).2),[1]) (((Zm 1).1.1,(Zm 1).1.2),(Zm 1).2)=some (Zm (mkRat (bN f k) 1+1)):=by
  have:=Zll hb (Y2 (Nat.le_of_eq Zo5)) (hr.mono (by omega))
  rwa [Yr,vb] at this
 have q1:qs (mkRat (bN f k) 1+1)≤3 * K+6:=by
  have h1:=Zmk (mkRat (bN f k) 1) 1
  rw [Zo5] at h1
  have h2:qs (mkRat (bN f k) 1)≤3 * K+4:=Ze8 (by rwa [Vm] at lb) (by rw [W8];simp) (by omega)
  omega
 have cm:Zb5 N (((Zm (mkRat (bN f k) 1+1)).1.1,(Zm (mkRat (bN f k) 1+1)).1.2),(Zm (mkRat (bN f k) 1+1)).2) (((Zm (t * X7 k)).1.1,(Zm (t * X7 k)).1.2),(Zm (t * X7 k)).2)=some (Vu (mkRat (bN f k) 1+1) (t * X7 k)):=by
  have:=Zn7 (Y2 q1) (Y2 (k:=3 * K+3) (q:=t * X7 k) (by omega)) (hr.mono (by omega))
  rwa [Yr,Yr] at this
 have bi:Zfz N (Zs (bN f k)).2 (k:Int)=some (Uk (Sf (bN f k).natAbs k)):=by
  have:=Z0o (N:=N) (k:=k) (a:=(Zs (bN f k)).2) (Yj _) (by omega) (by omega) (by omega)
  rwa [Vm,Z0] at this
 have hne:(2 ^ k:Nat)≠0:=Nat.pos_iff_ne_zero.1 (Nat.pow_pos (by decide))
 rw [Zao.eq_2,Z25 (by omega) (by omega),Option.bind_some]
 dsimp only
 rw [mul f hf,Option.bind_some,ne,Option.bind_some,fl,Option.bind_some,wn,Option.bind_some,Zr8,Option.bind_some,ad,Option.bind_some,mul t ht,Option.bind_some,cm,Option.bind_some]
 by_cases h:mkRat (bN f k+1) (2 ^ k)≤t
 ·rw [if_pos (decide_eq_true ((Zn8 hne).2 h)),if_pos h,bi,Option.bind_some]
 ·rw [if_neg (by rw [decide_eq_false (fun e=>h ((Zn8 hne).1 e))];decide),if_neg h,wS (by omega)]
end
theorem Z00 {N K:Nat} {f t:Rat} (hf:qs f≤K) (ht:qs t≤K) (hr:Xe N (13 * K+64)) (hN:2199023255552<N) {e:Nat} (he:e / 32+1≤2 * K+3) (hT:mkRat (bN f e+1) (2 ^ e)≤t):∀ (m k g h:Nat),k+m=e→m<g→m<h→
  ∃ r,Zbj N ((Zm f,Zm t),0) g (k:Int)=some r∧Zao N ((Zm f,Zm t),0) h (k:Int)=some r:=by
 intro m
 induction m with
 | zero=>
  intro k g h hk h1 h2
  obtain ⟨g,rfl⟩:∃ g',g=g'+1:=⟨g - 1,by omega⟩
  obtain ⟨h,rfl⟩:∃ h',h=h'+1:=⟨h - 1,by omega⟩
  have:k=e:=by omega
  subst this
  rw [Zvt hf ht hr he,Zrv hf ht hr he hN,if_pos hT,if_pos hT]
  exact ⟨_,rfl,rfl⟩
 | succ m ih=>
  intro k g h hk h1 h2
  obtain ⟨g,rfl⟩:∃ g',g=g'+1:=⟨g - 1,by omega⟩
  obtain ⟨h,rfl⟩:∃ h',h=h'+1:=⟨h - 1,by omega⟩
  have hke:k / 32+1≤2 * K+3:=by
   have:k / 32≤e / 32:=Nat.div_le_div_right (by omega)
   omega
  rw [Zvt hf ht hr hke,Zrv hf ht hr hke hN]
  by_cases hh:mkRat (bN f k+1) (2 ^ k)≤t
  ·rw [if_pos hh,if_pos hh];exact ⟨_,rfl,rfl⟩
  ·rw [if_neg hh,if_neg hh]
   exact ih (k+1) g h (by omega) (by omega) (by omega)
theorem Z0z {N W K:Nat} {n:Xu} {w:List Int} (hs:Ur n W) (hr:Xe N (13 * K+64)) (hWK:1025 * (W+2)+4≤K) (hN:2199023255552<N):
  ∃ x:ByteArray×Int,Zi4 N n w=some x∧Zhu N n w=some x:=by
 have hroom:=hr.2
 have hroom1:=hr.1
 obtain ⟨x,s1,s2,sx⟩:=Z4o (w:=w) hs (hr.mono (s:=8 * K+40) (by omega)) hWK (by omega)
 have s1':Zfv N (n.1,n.2.1,n.2.2.1,n.2.2.2.1,n.2.2.2.2) w=some x:=s1
 have s2':Zhw N (n.1,n.2.1,n.2.2.1,n.2.2.2.1,n.2.2.2.2) w=some x:=s2
 rw [Zi4,Zhu,s1',s2',Option.bind_some,Option.bind_some]
 rcases sx with ⟨e,he,rfl⟩ | ⟨⟨f,t⟩,rfl,hf,ht⟩
 ·rw [Zrw]
  have hc:(!decide (e=0))=true:=by rw [decide_eq_false he];rfl
  rw [if_pos hc,if_pos hc]
  exact ⟨_,rfl,rfl⟩
 ·simp only at hf ht
  have hc:¬ (!decide ((0:Int)=0))=true:=by decide
  rw [if_neg hc,if_neg hc]
  dsimp only [W1]
  have su:Zb7 N (((Zm t).1.1,(Zm t).1.2),(Zm t).2) (((Zm f).1.1,(Zm f).1.2),(Zm f).2)=some (Zm (t - f)):=by
   have:=Zsd (Y2 ht) (Y2 hf) (hr.mono (by omega))
   rwa [Yr,Yr] at this
  have rsu:Za9 N (((Zm t).1.1,(Zm t).1.2),(Zm t).2) (((Zm f).1.1,(Zm f).1.2),(Zm f).2)=some (Zm (t - f)):=by
   have:=Zv0 (Y2 ht) (Y2 hf) (hr.mono (by omega))
   rwa [Yr,Yr] at this
  have rcm:Zab N (((Zm f).1.1,(Zm f).1.2),(Zm f).2) (((Zm t).1.1,(Zm t).1.2),(Zm t).2)=some (Vu f t):=by
   have:=Zmy (Y2 hf) (Y2 ht) (hr.mono (by omega))
   rwa [Yr,Yr] at this
  have ql:=Z27 t f
  have si:Zb6 N (((Zm (t - f)).1.1,(Zm (t - f)).1.2),(Zm (t - f)).2)=some (Qh (t - f)):=by
   have:=Zsc (Y2 (Nat.le_refl (qs (t - f)))) (N:=N) (hr.mono (by omega))
   rwa [Yr] at this
  rw [su,rcm,Option.bind_some,Option.bind_some,si,Option.bind_some]
  by_cases hlt:f<t
  ·have c1:¬ Qh (t - f)≤0:=fun h=>by
    have h1:t - f≤0:=Zh8.1 h
    exact absurd hlt (Rat.not_lt.2 (by grind))
   have c2:¬ 0≤Vu f t:=fun h=>absurd hlt (Rat.not_lt.2 (Zuu.1 h))
   have b1:Zax N (Zm (t - f)).2=some ((Xb (t - f).den:Nat):Int):=by
    have hl:(Zm (t - f)).2.length≤qs (t - f):=Nat.le_max_right _ _
    have:=Znf (N:=N) (a:=(Zm (t - f)).2) (Z2 _) (by omega) (by omega)
    rwa [show Zb (Zm (t - f)).2=(t - f).den from Z0 _] at this
   have b2:Zax N (Zm (t - f)).1.2=some ((Xb (t - f).num.natAbs:Nat):Int):=by
    have hl:(Zm (t - f)).1.2.length≤qs (t - f):=Nat.le_max_left _ _
    have:=Znf (N:=N) (a:=(Zm (t - f)).1.2) (Z2 _) (by omega) (by omega)
    rwa [show Zb (Zm (t - f)).1.2=(t - f).num.natAbs from Z0 _] at this
   have rb1:Za2 N (Zm (t - f)).2=some ((Xb (t - f).den:Nat):Int):=by
    have hl:(Zm (t - f)).2.length≤qs (t - f):=Nat.le_max_right _ _
    have:=Zo9 (N:=N) (a:=(Zm (t - f)).2) (Z2 _) (by omega) (by omega)
    rwa [show Zb (Zm (t - f)).2=(t - f).den from Z0 _] at this
   have rb2:Za2 N (Zm (t - f)).1.2=some ((Xb (t - f).num.natAbs:Nat):Int):=by
    have hl:(Zm (t - f)).1.2.length≤qs (t - f):=Nat.le_max_left _ _
    have:=Zo9 (N:=N) (a:=(Zm (t - f)).1.2) (Z2 _) (by omega) (by omega)
    rwa [show Zb (Zm (t - f)).1.2=(t - f).num.natAbs from Z0 _] at this
   have l1:Xb (t - f).den≤32 * qs (t - f):=Nat.le_trans (Zfi _).2 (Nat.mul_le_mul_left 32 (Nat.le_max_right _ _))
   have l2:Xb (t - f).num.natAbs≤32 * qs (t - f):=Nat.le_trans (Zfi _).2 (Nat.mul_le_mul_left 32 (Nat.le_max_left _ _))
   have hT:=Z06 hlt
   rw [if_neg (by rw [decide_eq_false c1];decide),if_neg (by rw [decide_eq_false c2];decide),b1,Option.bind_some,b2,Option.bind_some,rsu,Option.bind_some,rb1,Option.bind_some,rb2,Option.bind_some]
   generalize Xb (t - f).den=A at *
   generalize Xb (t - f).num.natAbs=B at *
   have e1:i64.wrap (i64.wrap ((A:Int) - (B:Int)) - 1)=(A:Int) - (B:Int) - 1:=by
    rw [Zt (x:=(A:Int) - (B:Int)) (by omega),Zt (by omega)]
   have e2:(if 0>(A:Int) - (B:Int) - 1 then 0 else (A:Int) - (B:Int) - 1)=((A - B - 1:Nat):Int):=by
    split <;> omega
   have e3:(if (A:Int) - (B:Int) - 1>0 then (A:Int) - (B:Int) - 1 else 0)=((A - B - 1:Nat):Int):=by
    split <;> omega
   rw [e1,e2,e3]
   obtain ⟨r,r1,r2⟩:=Z00 hf ht hr hN (e:=A+1) (by omega) hT (A+1 - (A - B - 1)) (A - B - 1) N N (by omega) (by omega) (by omega)
   exact ⟨r,r2,r1⟩
  ·have hle:=Rat.not_lt.1 hlt
   have c1:Qh (t - f)≤0:=Zh8.2 (by grind)
   have c2:0≤Vu f t:=Zuu.2 hle
   rw [if_pos (decide_eq_true c1),if_pos (decide_eq_true c2)]
   exact ⟨_,rfl,rfl⟩
def Zho (aa:R1):Option ((Bool×R5)×R5):=
  Z1 ((([]:List Int).length+aa.1.2.length) * 4≤140737488355328∧([]:List Int).length+aa.1.2.length≤maxLen) (Z1 (((([]:List Int)++aa.1.2).length+[901,902].length) * 4≤140737488355328∧(([]:List Int)++aa.1.2).length+[901,902].length≤maxLen) (Z1 ((([]:List Int).length+aa.2.length) * 4≤140737488355328∧([]:List Int).length+aa.2.length≤maxLen) (Z1 (((([]:List Int)++aa.2).length+[903,904].length) * 4≤140737488355328∧(([]:List Int)++aa.2).length+[903,904].length≤maxLen) (Z1 ((0:Int)≤(aa.1.2.length:Int)∧(aa.1.2.length:Int)≤(((([]:List Int)++aa.1.2)++[901,902]).length:Int)) (Z1 ((0:Int)≤(aa.2.length:Int)∧(aa.2.length:Int)≤(((([]:List Int)++aa.2)++[903,904]).length:Int)) (some ((aa.1.1,((Int.toNat (aa.1.2.length:Int)),(([]:List Int)++aa.1.2)++[901,902])),((Int.toNat (aa.2.length:Int)),(([]:List Int)++aa.2)++[903,904]))))))))
theorem Zzk {a1 a2:Nat} {a3 a4:Option Addr} {col:Zf} {w0:World} {aa:R1} {r:((Bool×R5)×R5)} (hm:Zho aa=some r) (ap:Sl (Za.int .u32) col w0 a3 a1 aa.1.2) (aq:Sl (Za.int .u32) col w0 a4 a2 aa.2):
    Calls Tryz.prog 29 #[(.agg #[.bool aa.1.1,.slice a3 aa.1.2.length a1,.slice a4 aa.2.length a2])] w0 (fun e w'=>∃ (col':Zf) (ra1:Option Addr) (rc2:Nat) (ra4:Option Addr) (rc5:Nat),e= .returned ((.agg #[.bool r.1.1,.slice ra1 ((r.1.2.2.take r.1.2.1).length) rc2,.slice ra4 ((r.2.2.take r.2.1).length) rc5]))∧Zg col w0 col' w'∧Sl (Za.int .u32) col' w' ra1 rc2 r.1.2.2∧Sl (Za.int .u32) col' w' ra4 rc5 r.2.2):=by
 refine X2 (m:=36) func29 rfl rfl rfl ?_;rw [Zho.eq_1] at hm;have ab:=St.start col w0;refine go ?_;refine Xd (col:=(Zi col)) 1 rfl ?_;intro bh bi a6 a7 ad;refine Xf (col:=a6) #[.bool false,.slice none (([]:List Int).length) 0,.slice none (([]:List Int).length) 0] 2 zeroValue47 ?_;intro bj bk bm a5 ar;refine go ?_;refine Xh ⟨_,_,rfl⟩ ?_;refine Xh (Wi ⟨_,_,rfl⟩) ?_;replace ad:=ad.gr a5;refine lW ((((ad.atN).part 0 2 _ rfl)).nth (q:=1) rfl) ?_;obtain ⟨a8,hm⟩:=Z3 hm;replace ap:=ap.keep (Zj.start col w0);replace ab:=(ab.grow a7).grow a5;refine Ws (c:=3) Zc.nil (ap.ks ab).srcC a8 ?_;intro bn bo bp a9 au av;refine go ?_;refine Wx (col:=a9) [901,902] 4 ?_;intro bq br bs ak ba;obtain ⟨bb,hm⟩:=Z3 hm;replace av:=av.gr ak;refine Ws av (ba.srcN (NB.int (k:=.u32))) bb ?_;intro ah ai bt bu aw ac;refine go ?_;refine Xh ⟨_,_,rfl⟩ ?_;replace ad:=((ad.kpp au).gr ak).kpp aw;refine lW ((ad.atN).nth (q:=2) rfl) ?_;obtain ⟨bc,hm⟩:=Z3 hm;replace aq:=aq.keep (Zj.start col w0);replace ab:=((ab.kpp au).grow ak).kpp aw;refine Ws (c:=5) Zc.nil (aq.ks ab).srcC bc ?_;intro bv bw bx bd al ax;refine go ?_;refine Wx (col:=bd) [903,904] 6 ?_;intro bz b0 b1 aj be;obtain ⟨bf,hm⟩:=Z3 hm;replace ax:=ax.gr aj;refine Ws ax (be.srcN (NB.int (k:=.u32))) bf ?_;intro am an b2 af ao ae;refine go ?_;refine Yv (col:=af) [(0,1),(1,1),(2,0),(3,1),(4,1),(5,1),(6,0),(7,1),(8,1),(9,1),(10,1),(11,1),(12,0),(13,1),(14,1),(15,1),(16,2)] (by kernel_rfl) (by kernel_rfl)<|xF ⟨_,_,rfl⟩ ?_;refine xF (Wi ⟨_,_,rfl⟩) ?_;replace ad:=((ad.kpp al).gr aj).kpp ao;refine xW (fun _ hC=>((((ad.atN).part 0 2 _ rfl)).nth (q:=0) rfl).gr (hC.bl af)) ?_;refine xu rfl rfl (fun _=>Vb rfl) ?_;refine xF ⟨_,_,rfl⟩ ?_;refine xF (Wi ⟨_,_,rfl⟩) ?_;refine xW (fun _ hC=>((((ad.atN).part 0 2 _ rfl)).nth (q:=1) rfl).gr (hC.bl af)) ?_;refine xu rfl rfl (fun _=>T7 underlying43 rfl) ?_;obtain ⟨ay,hm⟩:=Z3 hm;replace ac:=((ac.kpp al).gr aj).kpp ao;refine xu (v:=.slice ah (Int.toNat (aa.1.2.length:Int)) ai) rfl rfl (fun _=>V1 underlying43 sizeOf79 rfl rfl ay.1 (by have:=ac.lecap;have:=ay.2;omega)) ?_;refine .ld (d:=28) (v:=(.slice ah ((((([]:List Int)++aa.1.2)++[901,902]).take (Int.toNat (aa.1.2.length:Int))).length) ai)) (congrArg (fun n=>Value.slice ah n ai) (List.length_take_of_le (show (Int.toNat (aa.1.2.length:Int))≤((([]:List Int)++aa.1.2)++[901,902]).length by have:=ay.2;omega)).symm) ?_
 refine xu (v:=(.agg #[.bool aa.1.1,(.slice ah ((((([]:List Int)++aa.1.2)++[901,902]).take (Int.toNat (aa.1.2.length:Int))).length) ai)])) rfl rfl (fun _=>Yc (l:=[_,_]) (qs:=[(0,1),(1,1)]) underlying45 zeroValue45 ⟨rfl,sizeOf4,rfl,sizeOf43,trivial⟩ rfl) ?_;refine xu rfl rfl (fun _=>Vb rfl) ?_;refine xF ⟨_,_,rfl⟩ ?_;refine xW (fun _ hC=>((ad.atN).nth (q:=2) rfl).gr (hC.bl af)) ?_;refine xu rfl rfl (fun _=>T7 underlying43 rfl) ?_;obtain ⟨az,hm⟩:=Z3 hm;refine xu (v:=.slice am (Int.toNat (aa.2.length:Int)) an) rfl rfl (fun _=>V1 underlying43 sizeOf79 rfl rfl az.1 (by have:=ae.lecap;have:=az.2;omega)) ?_;refine .ld (d:=34) (v:=(.slice am ((((([]:List Int)++aa.2)++[903,904]).take (Int.toNat (aa.2.length:Int))).length) an)) (congrArg (fun n=>Value.slice am n an) (List.length_take_of_le (show (Int.toNat (aa.2.length:Int))≤((([]:List Int)++aa.2)++[903,904]).length by have:=az.2;omega)).symm) ?_;refine xu (v:=(.agg #[.bool aa.1.1,(.slice ah ((((([]:List Int)++aa.1.2)++[901,902]).take (Int.toNat (aa.1.2.length:Int))).length) ai),(.slice am ((((([]:List Int)++aa.2)++[903,904]).take (Int.toNat (aa.2.length:Int))).length) an)])) rfl rfl (fun _=>Yc (l:=[_,_]) (qs:=[(0,2),(2,1)]) underlying47 zeroValue47 ⟨rfl,sizeOf45,rfl,sizeOf43,trivial⟩ rfl) ?_;refine xe rfl rfl ?_;intro b3 hC0;have hC:=hC0.bl af;replace ar:=((((((ar.kpp au).gr ak).kpp aw).kpp al).gr aj).kpp ao).gr hC;refine Zw ar ?_;intro b4 a0 bg ag;refine Zk<|xk af<|Yn ?_;replace ab:=((((ab.kpp al).grow aj).kpp ao).grow hC).kp a0 bg;replace ac:=(ac.gr hC).kp a0;replace ae:=(ae.gr hC).kp a0;intro b5 hC;replace hC:=hC.bl af;refine Ys ?_;replace ac:=ac.gr hC;replace ac:=(ac).toSlF (Zl.int .u32);replace ae:=ae.gr hC;replace ae:=ae.froz 3 (by decide);replace ag:=ag.gr hC;replace ag:=ag.froz 3 (by decide);replace ab:=ab.grow hC;replace ab:=ab.froz 3 (by decide) (by decide);replace ac:=ac.froz 5;replace ae:=(ae).toSlF (Zl.int .u32);replace ag:=ag.froz 5 (by decide);replace ab:=ab.froz 5 (by decide) (by decide);cases hm;exact ⟨rfl,_,ra ag.atN,_,_,_,_,_,rfl,ab.fin (cm []),ab.fs ac,ab.fs ae⟩
theorem Z0y:W4 Tryz.prog 9 1 16:=⟨Tryz.t9,_,rfl,rfl,rfl,rfl,rfl⟩
theorem Z0r:W4 Tryz.prog 22 1 24:=⟨Tryz.t22,_,rfl,rfl,rfl,rfl,rfl⟩
theorem Z0u:W4 Tryz.prog 40 1 24:=⟨Tryz.t40,_,rfl,rfl,rfl,rfl,rfl⟩
theorem Z0w:W4 Tryz.prog 56 1 24:=⟨Tryz.t56,_,rfl,rfl,rfl,rfl,rfl⟩
def Zev (N:Nat) (ah:R0) (ai:ByteArray) (aj:List ByteArray) (ak:List R6) (al:List R5) (ad:List R8) (ae:Int) (kk_L3:(ByteArray→R9→(List R6)→(List R5)→(List R8)→Int→Option R3)):Nat→Int→(List ((Bool×R5)×R5))→Option R3
  | 0,_,_=>none
  | am+1,af,ab=>(Zo ah.2.2.2.2 ae).bind fun ac=>if (decide (af<(ac.length:Int)))=true then ((Zo ac af).bind fun ag=>(Zho ((ag.1.1,ag.1.2),ag.2)).bind fun aa=>Z1 ((ab.length+[((aa.1.1,(aa.1.2.1,aa.1.2.2)),(aa.2.1,aa.2.2))].length) * 56≤140737488355328∧ab.length+[((aa.1.1,(aa.1.2.1,aa.1.2.2)),(aa.2.1,aa.2.2))].length≤maxLen) ((Zev N ah ai aj ak al ad ae kk_L3 am) (i64.wrap (af+1)) (ab++[((aa.1.1,(aa.1.2.1,aa.1.2.2)),(aa.2.1,aa.2.2))]))) else (Z1 ((ab.length+[((false,(0,([]:List Int))),([97].length,[97])),((false,(0,([]:List Int))),([98].length,[98]))].length) * 56≤140737488355328∧ab.length+[((false,(0,([]:List Int))),([97].length,[97])),((false,(0,([]:List Int))),([98].length,[98]))].length≤maxLen) (Z1 ((0:Int)≤(ac.length:Int)∧(ac.length:Int)≤((ab++[((false,(0,([]:List Int))),([97].length,[97])),((false,(0,([]:List Int))),([98].length,[98]))]).length:Int)) (Z1 ((ad.length+[((Int.toNat (ac.length:Int)),ab++[((false,(0,([]:List Int))),([97].length,[97])),((false,(0,([]:List Int))),([98].length,[98]))])].length) * 24≤140737488355328∧ad.length+[((Int.toNat (ac.length:Int)),ab++[((false,(0,([]:List Int))),([97].length,[97])),((false,(0,([]:List Int))),([98].length,[98]))])].length≤maxLen) (kk_L3 ai aj ak al (ad++[((Int.toNat (ac.length:Int)),ab++[((false,(0,([]:List Int))),([97].length,[97])),((false,(0,([]:List Int))),([98].length,[98]))])]) (i64.wrap (ae+1))))))
termination_by structural x=>x
def Zcw (N:Nat) (aa:R0):Nat→ByteArray→R9→(List R6)→(List R5)→(List R8)→Int→Option R3
  | 0,_,_,_,_,_,_=>none
  | ah+1,ab,ac,ad,ae,af,ag=>if (decide (ag<(aa.2.2.2.2.length:Int)))=true then (Zev N aa ab ac ad ae af ag (Zcw N aa ah) N 0 ([]:List ((Bool×R5)×R5))) else (some (ab,((Int.toNat (aa.2.1.length:Int)),ac),ad,ae,af))
termination_by structural x=>x
def Zeu (N:Nat) (ab:R0):Nat→ByteArray→R9→(List R6)→(List R5)→(List R8)→Int→Option R3
  | 0,_,_,_,_,_,_=>none
  | ai+1,ae,af,ag,ac,ah,ad=>if (decide (ad<(ab.2.2.2.1.length:Int)))=true then ((Zo ab.2.2.2.1 ad).bind fun aa=>Z1 ((([]:List Int).length+aa.length) * 8≤140737488355328∧([]:List Int).length+aa.length≤maxLen) (Z1 (((([]:List Int)++aa).length+[(-95),(-96)].length) * 8≤140737488355328∧(([]:List Int)++aa).length+[(-95),(-96)].length≤maxLen) (Z1 ((0:Int)≤(aa.length:Int)∧(aa.length:Int)≤(((([]:List Int)++aa)++[(-95),(-96)]).length:Int)) (Z1 ((ac.length+[((Int.toNat (aa.length:Int)),(([]:List Int)++aa)++[(-95),(-96)])].length) * 24≤140737488355328∧ac.length+[((Int.toNat (aa.length:Int)),(([]:List Int)++aa)++[(-95),(-96)])].length≤maxLen) ((Zeu N ab ai) ae af ag (ac++[((Int.toNat (aa.length:Int)),(([]:List Int)++aa)++[(-95),(-96)])]) ah (i64.wrap (ad+1))))))) else (Zcw N ab N ae af ag ac ah 0)
termination_by structural x=>x
def Zet (N:Nat) (ab:R0):Nat→ByteArray→R9→(List R6)→(List R5)→(List R8)→Int→Option R3
  | 0,_,_,_,_,_,_=>none
  | ai+1,ae,af,ac,ag,ah,ad=>if (decide (ad<(ab.2.2.1.length:Int)))=true then ((Zo ab.2.2.1 ad).bind fun aa=>Z1 ((([]:List ByteArray).length+aa.length) * 16≤140737488355328∧([]:List ByteArray).length+aa.length≤maxLen) (Z1 (((([]:List ByteArray)++aa).length+([⟨#[35,51]⟩,⟨#[35,52]⟩]:List ByteArray).length) * 16≤140737488355328∧(([]:List ByteArray)++aa).length+([⟨#[35,51]⟩,⟨#[35,52]⟩]:List ByteArray).length≤maxLen) (Z1 ((0:Int)≤(aa.length:Int)∧(aa.length:Int)≤(((([]:List ByteArray)++aa)++([⟨#[35,51]⟩,⟨#[35,52]⟩]:List ByteArray)).length:Int)) (Z1 ((ac.length+([((Int.toNat (aa.length:Int)),(([]:List ByteArray)++aa)++([⟨#[35,51]⟩,⟨#[35,52]⟩]:List ByteArray))]:List R6).length) * 24≤140737488355328∧ac.length+([((Int.toNat (aa.length:Int)),(([]:List ByteArray)++aa)++([⟨#[35,51]⟩,⟨#[35,52]⟩]:List ByteArray))]:List R6).length≤maxLen) ((Zet N ab ai) ae af (ac++([((Int.toNat (aa.length:Int)),(([]:List ByteArray)++aa)++([⟨#[35,51]⟩,⟨#[35,52]⟩]:List ByteArray))]:List R6)) ag ah (i64.wrap (ad+1))))))) else (Zeu N ab N ae af ac ag ah 0)
termination_by structural x=>x
def Zhq (N:Nat) (aa:R0):Option R3:=
  Z1 ((([]:List ByteArray).length+aa.2.1.length) * 16≤140737488355328∧([]:List ByteArray).length+aa.2.1.length≤maxLen) (Z1 (((([]:List ByteArray)++aa.2.1).length+([⟨#[35,49]⟩,⟨#[35,50]⟩]:List ByteArray).length) * 16≤140737488355328∧(([]:List ByteArray)++aa.2.1).length+([⟨#[35,49]⟩,⟨#[35,50]⟩]:List ByteArray).length≤maxLen) (Z1 ((0:Int)≤(aa.2.1.length:Int)∧(aa.2.1.length:Int)≤(((([]:List ByteArray)++aa.2.1)++([⟨#[35,49]⟩,⟨#[35,50]⟩]:List ByteArray)).length:Int)) (Zet N aa N aa.1 ((([]:List ByteArray)++aa.2.1)++([⟨#[35,49]⟩,⟨#[35,50]⟩]:List ByteArray)) ([]:List R6) ([]:List R5) ([]:List R8) 0)))
theorem Zzm {N b9 ca cb cc:Nat} {cd ce cf cg:Option Addr} {col:Zf} {w0:World} {ac:R0} {r:R3} (hm:Zhq N ac=some r) (ej:Sl Za.str col w0 cd b9 ac.2.1) (ch:Sl (Za.slice Za.str) col w0 ce ca ac.2.2.1) (ci:Sl (Za.slice (Za.int .i64)) col w0 cf cb ac.2.2.2.1) (bj:Sl (Za.slice (Za.pair (Za.pair Za.bool (Za.slice (Za.int .u32))) (Za.slice (Za.int .u32)))) col w0 cg cc ac.2.2.2.2):
    Calls Tryz.prog 15 #[(.agg #[.string ac.1,.slice cd ac.2.1.length b9,.slice ce ac.2.2.1.length ca,.slice cf ac.2.2.2.1.length cb,.slice cg ac.2.2.2.2.length cc])] w0 (fun e w'=>∃ (col':Zf) (ra1:Option Addr) (rc2:Nat) (ra4:Option Addr) (rc5:Nat) (ra7:Option Addr) (rc8:Nat) (ra10:Option Addr) (rc11:Nat),e= .returned ((.agg #[.string r.1,.slice ra1 ((r.2.1.2.take r.2.1.1).length) rc2,.slice ra4 r.2.2.1.length rc5,.slice ra7 r.2.2.2.1.length rc8,.slice ra10 r.2.2.2.2.length rc11]))∧Zg col w0 col' w'∧Sl Za.str col' w' ra1 rc2 r.2.1.2∧Sl (Za.view Za.str) col' w' ra4 rc5 r.2.2.1∧Sl (Za.view (Za.int .i64)) col' w' ra7 rc8 r.2.2.2.1∧Sl (Za.view (Za.pair (Za.pair Za.bool (Za.view (Za.int .u32))) (Za.view (Za.int .u32)))) col' w' ra10 rc11 r.2.2.2.2):=by
 refine X2 (m:=142) func15 rfl rfl rfl ?_;rw [Zhq.eq_1] at hm;have aa:=St.start col w0;refine go ?_;refine Xd (col:=(Zi col)) 1 rfl ?_;intro du ih f7 f8 ab;refine Xf (col:=f7) #[.string (⟨#[]⟩),.slice none (([]:List ByteArray).length) 0,.slice none (([]:List R6).length) 0,.slice none (([]:List R5).length) 0,(.slice none (([]:List R8).length) 0)] 2 zeroValue27 ?_;intro dv ii f9 fl ae;refine go ?_;refine Xh ⟨_,_,rfl⟩ ?_;replace ab:=ab.gr fl;refine lW ((ab.atN).nth (q:=0) rfl)<|lV (.agg #[.string ac.1,.slice none (([]:List ByteArray).length) 0,.slice none (([]:List R6).length) 0,.slice none (([]:List R5).length) 0,(.slice none (([]:List R8).length) 0)]) (Yc (l:=[_,_,_,_,_]) (qs:=[(0,1),(1,1),(2,1),(3,1),(4,1)]) underlying27 zeroValue27 ⟨rfl,sizeOf9,rfl,sizeOf22,rfl,sizeOf23,rfl,sizeOf24,rfl,sizeOf25,trivial⟩ rfl)<|Xf (col:=f9) #[.string (⟨#[]⟩),.slice none (([]:List ByteArray).length) 0,.slice none (([]:List R6).length) 0,.slice none (([]:List R5).length) 0,(.slice none (([]:List R8).length) 0)] 3 zeroValue27 ?_;intro ax ij ik ek ga;refine Zw ga ?_;intro il el gb dw;refine go ?_;refine Xc dw<|Xh ⟨_,_,rfl⟩ ?_;replace ab:=(ab.gr ek).kp el;refine lW ((ab.atN).nth (q:=1) rfl) ?_;obtain ⟨gc,hm⟩:=Z3 hm;replace ej:=ej.keep (Zj.start col w0);replace aa:=(((aa.grow f8).grow fl).grow ek).kp el gb;refine Ws (c:=4) Zc.nil (ej.ks aa).srcC gc ?_;intro fm fn im fp dx em;refine Xh ⟨_,_,rfl⟩ ?_;replace dw:=dw.kpp dx;refine Zdj (off:=1) (v:=(.slice fm ((([]:List ByteArray)++ac.2.1).length) fn)) dw sizeOf22 rfl rfl (by intro u hu;simp only [Value.cells,List.mem_cons,List.not_mem_nil,or_false] at hu;subst hu;rfl) rfl rfl ?_;intro gd dy ge cj;replace cj:Zn 27 3 fp gd ax #[.string ac.1,.slice fm ((([]:List ByteArray)++ac.2.1).length) fn,.slice none (([]:List R6).length) 0,.slice none (([]:List R5).length) 0,(.slice none (([]:List R8).length) 0)]:=cj;refine go ?_;refine Xc cj<|Zsu (col:=fp) ([⟨#[35,49]⟩,⟨#[35,50]⟩]:List ByteArray) 5 ?_;intro io gf gg c5 gh;obtain ⟨fq,hm⟩:=Z3 hm;replace em:=(em.kp dy).gr c5
 refine Zfr (col:=gg) (w:=gf) (r:=Za.str) (c:=4) (c2:=4) (em.ex) (gh.srcN NB.str) rfl underlying22 Z0y rfl rfl rfl fq.1 fq.2 (by decide) ?_;intro bw bx ip fr dz en;refine Xh ⟨_,_,rfl⟩ ?_;replace cj:=(cj.gr c5).kpp dz;refine Zdj (off:=1) (v:=(.slice bw (((([]:List ByteArray)++ac.2.1)++([⟨#[35,49]⟩,⟨#[35,50]⟩]:List ByteArray)).length) bx)) cj sizeOf22 rfl rfl (by intro u hu;simp only [Value.cells,List.mem_cons,List.not_mem_nil,or_false] at hu;subst hu;rfl) rfl rfl ?_;intro gi d0 gj d1;replace d1:Zn 27 3 fr gi ax #[.string ac.1,(.slice bw (((([]:List ByteArray)++ac.2.1)++([⟨#[35,49]⟩,⟨#[35,50]⟩]:List ByteArray)).length) bx),.slice none (([]:List R6).length) 0,.slice none (([]:List R5).length) 0,(.slice none (([]:List R8).length) 0)]:=d1;replace en:=en.kp d0;have d2:=en.new;refine go ?_;refine Xc d1<|Xh ⟨_,_,rfl⟩ ?_;replace ab:=((((ab.kpp dx).kp dy).gr c5).kpp dz).kp d0;refine lW ((ab.atN).nth (q:=1) rfl)<|go ?_;obtain ⟨eo,hm⟩:=Z3 hm;refine lv (v:=.slice bw (Int.toNat (ac.2.1.length:Int)) bx) rfl rfl (V1 underlying22 sizeOf9 rfl rfl eo.1 (by have:=d2.lecap;have:=eo.2;omega))<|.ld (d:=30) (v:=(.slice bw ((((([]:List ByteArray)++ac.2.1)++([⟨#[35,49]⟩,⟨#[35,50]⟩]:List ByteArray)).take (Int.toNat (ac.2.1.length:Int))).length) bx)) (congrArg (fun n=>Value.slice bw n bx) (List.length_take_of_le (show (Int.toNat (ac.2.1.length:Int))≤((([]:List ByteArray)++ac.2.1)++([⟨#[35,49]⟩,⟨#[35,50]⟩]:List ByteArray)).length by have:=eo.2;omega)).symm) ?_;refine Xh ⟨_,_,rfl⟩ ?_;refine Zdj (off:=1) (v:=(.slice bw ((((([]:List ByteArray)++ac.2.1)++([⟨#[35,49]⟩,⟨#[35,50]⟩]:List ByteArray)).take (Int.toNat (ac.2.1.length:Int))).length) bx)) d1 sizeOf22 rfl rfl (by intro u hu;simp only [Value.cells,List.mem_cons,List.not_mem_nil,or_false] at hu;subst hu;rfl) rfl rfl ?_;intro gk d3 gl ad;replace ad:Zn 27 3 fr gk ax #[.string ac.1,(.slice bw ((((([]:List ByteArray)++ac.2.1)++([⟨#[35,49]⟩,⟨#[35,50]⟩]:List ByteArray)).take (Int.toNat (ac.2.1.length:Int))).length) bx),.slice none (([]:List R6).length) 0,.slice none (([]:List R5).length) 0,(.slice none (([]:List R8).length) 0)]:=ad;refine go ?_;replace ae:=(((((((ae.gr ek).kp el).kpp dx).kp dy).gr c5).kpp dz).kp d0).kp d3;replace aa:=(((((aa.kpp dx).kp dy ge).grow c5).kpp dz).kp d0 gj).kp d3 gl
 replace d2:=d2.kp d3;replace ab:=ab.kp d3;refine Z8 [1,2,3,1000000] (fun n f a1=>∃ a2 d4 d5 d6 c6 ep eq ck d7 d8 c7 d9 ea c8 er cl,cl=n∧Zet N ac cl d4 c6 ck c7 c8 er=some r∧St w0 (Zi col) a2 a1∧Zn 27 1 a2 a1 du #[.string ac.1,.slice cd ac.2.1.length b9,.slice ce ac.2.2.1.length ca,.slice cf ac.2.2.2.1.length cb,.slice cg ac.2.2.2.2.length cc]∧Zn 27 2 a2 a1 dv #[.string (⟨#[]⟩),.slice none (([]:List ByteArray).length) 0,.slice none (([]:List R6).length) 0,.slice none (([]:List R5).length) 0,(.slice none (([]:List R8).length) 0)]∧Zc Za.str 9 4 a2 a1 d5 d6 c6∧Zc (Za.view Za.str) 22 6 a2 a1 ep eq ck∧Zc (Za.view (Za.int .i64)) 40 7 a2 a1 d7 d8 c7∧Zc (Za.view (Za.pair (Za.pair Za.bool (Za.view (Za.int .u32))) (Za.view (Za.int .u32)))) 56 8 a2 a1 d9 ea c8∧Zn 27 3 a2 a1 ax #[.string d4,(.slice d5 ((c6.take (Int.toNat (ac.2.1.length:Int))).length) d6),.slice ep ck.length eq,.slice d7 c7.length d8,.slice d9 c8.length ea]∧[4].map f=[.int .i64 er]) N ⟨_,_,_,_,_,none,0,_,none,0,_,none,0,_,0,_,rfl,hm,aa,ab,ae,d2,Zc.nil,Zc.nil,Zc.nil,ad,rfl⟩ ?_;clear hm;intro n f a1 hI;obtain ⟨a2,d4,d5,d6,c6,ep,eq,ck,d7,d8,c7,d9,ea,c8,er,cl,hn,hm,aa,ab,ae,am,bk,an,ao,ad,hs⟩:=hI;subst hn;refine .lL [4] hs ?_;replace ch:=ch.keep (Zj.start col w0);replace ci:=ci.keep (Zj.start col w0);replace bj:=bj.keep (Zj.start col w0)
 cases cl with
 | zero=>rw [Zet.eq_1] at hm;cases hm
 | succ cl=>
  rw [Zet.eq_2] at hm;refine go ?_;refine Xc ab ?_;refine go ?_;refine Zq hm (fun hb hm=>go ?_) fun hb hm=>go ?_
  ·refine Xc ab<|Xo rfl ?_;obtain ⟨ak,bz,hm⟩:=bZ hm;refine lI bz ((ch.ks aa).addr bz) ?_;obtain ⟨_,gm,gp⟩:=(ch.ks aa).atN bz;obtain ⟨⟨iq,ir,rfl,gs⟩,_⟩:=gm;refine lW gp.one ?_;obtain ⟨gt,hm⟩:=Z3 hm;refine Ws (c:=9) Zc.nil gs.srcC gt ?_;intro it iu iv gu bm es;refine go ?_;refine Zsu (col:=gu) ([⟨#[35,51]⟩,⟨#[35,52]⟩]:List ByteArray) 10 ?_;intro iw ix iy a3 gv;obtain ⟨gw,hm⟩:=Z3 hm;replace es:=es.gr a3;refine Ws es (gv.srcN NB.str) gw ?_;intro c9 da iz cn bn co;refine go ?_;refine Yv (col:=cn) [(0,1),(1,0),(2,1),(3,1),(4,0),(5,1),(6,1),(7,0),(8,1),(9,1),(10,3),(11,2),(12,1),(13,2)] (by kernel_rfl) (by kernel_rfl)<|xF ⟨_,_,rfl⟩ ?_;replace ad:=((ad.kpp bm).gr a3).kpp bn;refine xW (fun _ hC=>((ad.atN).nth (q:=2) rfl).gr (hC.bl cn)) ?_;refine xu rfl rfl (fun _=>Vb rfl) ?_;refine xF ⟨_,_,rfl⟩ ?_;replace ab:=((ab.kpp bm).gr a3).kpp bn;refine xW (fun _ hC=>((ab.atN).nth (q:=2) rfl).gr (hC.bl cn)) ?_;refine xu rfl rfl (fun _=>Vg rfl) ?_;replace aa:=((aa.kpp bm).grow a3).kpp bn;refine xu rfl rfl (fun _=>Wb underlying23 sizeOf22 rfl rfl (Xp bz).1 (Xp bz).2.1 ((ch.ks aa).addr bz)) ?_;obtain ⟨_,gx,gy⟩:=(ch.ks aa).atN bz;obtain ⟨⟨i0,i1,rfl,i2⟩,_⟩:=gx;refine xW (fun _ hC=>gy.one.gr (hC.bl cn)) ?_;refine xu rfl rfl (fun _=>T7 underlying22 rfl) ?_;obtain ⟨et,hm⟩:=Z3 hm;refine xu (v:=.slice c9 (Int.toNat (ak.length:Int)) da) rfl rfl (fun _=>V1 underlying22 sizeOf9 rfl rfl et.1 (by have:=co.lecap;have:=et.2;omega)) ?_;refine .ld (d:=58) (v:=(.slice c9 ((((([]:List ByteArray)++ak)++([⟨#[35,51]⟩,⟨#[35,52]⟩]:List ByteArray)).take (Int.toNat (ak.length:Int))).length) da)) (congrArg (fun n=>Value.slice c9 n da) (List.length_take_of_le (show (Int.toNat (ak.length:Int))≤((([]:List ByteArray)++ak)++([⟨#[35,51]⟩,⟨#[35,52]⟩]:List ByteArray)).length by have:=et.2;omega)).symm) ?_;refine xe rfl rfl ?_;intro i3 hC0;have hC:=hC0.bl cn;replace am:=(((am.kpp bm).gr a3).kpp bn).gr hC;replace am:=am.froz 9 (by decide);replace bk:=(((bk.kpp bm).gr a3).kpp bn).gr hC;replace bk:=bk.froz 9 (by decide);replace an:=(((an.kpp bm).gr a3).kpp bn).gr hC;replace an:=an.froz 9 (by decide);replace ao:=(((ao.kpp bm).gr a3).kpp bn).gr hC;replace ao:=ao.froz 9 (by decide);replace co:=co.gr hC;replace co:=(co).toSlF Zl.str;replace ab:=ab.gr hC;replace ab:=ab.froz 9 (by decide);replace ae:=(((ae.kpp bm).gr a3).kpp bn).gr hC
   replace ae:=ae.froz 9 (by decide);replace ad:=ad.gr hC;replace ad:=ad.froz 9 (by decide);replace aa:=aa.grow hC;replace aa:=aa.froz 9 (by decide) (by decide);refine Zb0 (col:=(Xk 9 cn)) (r:=(Za.view Za.str)) (xs:=([((Int.toNat (ak.length:Int)),(([]:List ByteArray)++ak)++([⟨#[35,51]⟩,⟨#[35,52]⟩]:List ByteArray))]:List R6)) [(.slice c9 ((((([]:List ByteArray)++ak)++([⟨#[35,51]⟩,⟨#[35,52]⟩]:List ByteArray)).take (Int.toNat (ak.length:Int))).length) da)] 11 (Ui.ofF (Rows.consF (r:=(Za.view Za.str)) (x:=((Int.toNat (ak.length:Int)),(([]:List ByteArray)++ak)++([⟨#[35,51]⟩,⟨#[35,52]⟩]:List ByteArray))) (cs:=[(.slice c9 ((((([]:List ByteArray)++ak)++([⟨#[35,51]⟩,⟨#[35,52]⟩]:List ByteArray)).take (Int.toNat (ak.length:Int))).length) da)]) (Zkk co) Rows.nil0)) ?_;intro i4 i5 eu a4 ew;refine Zk<|Xg eu hC0 a4<|xe rfl rfl ?_;intro gz hC0;have hC:=hC0.bl eu;obtain ⟨ft,hm⟩:=Z3 hm;replace bk:=(bk.gr a4).gr hC;replace ew:=ew.gr hC;refine Zfr (col:=eu) (w:=gz) (r:=(Za.view Za.str)) (c:=6) (c2:=6) (bk.ex) (ew.srcN NB.view) rfl underlying23 Z0r rfl rfl rfl ft.1 ft.2 (by decide) ?_;intro fu fv i6 db b0 ey;refine Zk<|xk db<|xF ⟨_,_,rfl⟩ ?_;refine xe rfl rfl ?_;intro i7 hC0;replace am:=((am.gr a4).gr hC).kpp b0;replace an:=((an.gr a4).gr hC).kpp b0;replace ao:=((ao.gr a4).gr hC).kpp b0;replace ab:=((ab.gr a4).gr hC).kpp b0;replace ae:=((ae.gr a4).gr hC).kpp b0;replace ad:=((ad.gr a4).gr hC).kpp b0;replace aa:=((aa.grow a4).grow hC).kpp b0;have hC:=hC0.bl db;replace ad:=ad.gr hC;refine Zdj (off:=2) (v:=(.slice fu ((ck++([((Int.toNat (ak.length:Int)),(([]:List ByteArray)++ak)++([⟨#[35,51]⟩,⟨#[35,52]⟩]:List ByteArray))]:List R6)).length) fv)) ad sizeOf23 rfl rfl (by intro u hu;simp only [Value.cells,List.mem_cons,List.not_mem_nil,or_false] at hu;subst hu;rfl) rfl rfl ?_;intro g0 b1 g1 dc;replace dc:Zn 27 3 db g0 ax #[.string d4,(.slice d5 ((c6.take (Int.toNat (ac.2.1.length:Int))).length) d6),(.slice fu ((ck++([((Int.toNat (ak.length:Int)),(([]:List ByteArray)++ak)++([⟨#[35,51]⟩,⟨#[35,52]⟩]:List ByteArray))]:List R6)).length) fv),.slice d7 c7.length d8,.slice d9 c8.length ea]:=dc;refine Zk<|xk db ?_;replace ey:=(ey.gr hC).kp b1;have ez:=ey.new;refine Yn ?_;replace am:=(am.gr hC).kp b1;replace an:=(an.gr hC).kp b1;replace ao:=(ao.gr hC).kp b1
   replace ab:=(ab.gr hC).kp b1;replace ae:=(ae.gr hC).kp b1;replace aa:=(aa.grow hC).kp b1 g1;intro i8 hC;replace hC:=hC.bl db;refine go ?_;replace am:=am.gr hC;replace ez:=ez.gr hC;replace an:=an.gr hC;replace ao:=ao.gr hC;replace ab:=ab.gr hC;replace ae:=ae.gr hC;replace dc:=dc.gr hC;replace aa:=aa.grow hC;exact ⟨cl,by omega,rfl,⟨_,_,_,_,_,_,_,_,_,_,_,_,_,_,_,_,rfl,hm,aa,ab,ae,am,ez,an,ao,dc,rfl⟩⟩
  refine Z8 [1,2,3,1000000] (fun n f a5=>∃ a6 eb ec ed dd ee ef de e0 e1 cp eg eh df e2 cq,cq=n∧Zeu N ac cq eb dd de cp df e2=some r∧St w0 (Zi col) a6 a5∧Zn 27 1 a6 a5 du #[.string ac.1,.slice cd ac.2.1.length b9,.slice ce ac.2.2.1.length ca,.slice cf ac.2.2.2.1.length cb,.slice cg ac.2.2.2.2.length cc]∧Zn 27 2 a6 a5 dv #[.string (⟨#[]⟩),.slice none (([]:List ByteArray).length) 0,.slice none (([]:List R6).length) 0,.slice none (([]:List R5).length) 0,(.slice none (([]:List R8).length) 0)]∧Zc Za.str 9 4 a6 a5 ec ed dd∧Zc (Za.view Za.str) 22 6 a6 a5 ee ef de∧Zc (Za.view (Za.int .i64)) 40 7 a6 a5 e0 e1 cp∧Zc (Za.view (Za.pair (Za.pair Za.bool (Za.view (Za.int .u32))) (Za.view (Za.int .u32)))) 56 8 a6 a5 eg eh df∧Zn 27 3 a6 a5 ax #[.string eb,(.slice ec ((dd.take (Int.toNat (ac.2.1.length:Int))).length) ed),.slice ee de.length ef,.slice e0 cp.length e1,.slice eg df.length eh]∧[6].map f=[.int .i64 e2]) N ⟨_,_,_,_,_,_,_,_,_,_,_,_,_,_,0,_,rfl,hm,aa,ab,ae,am,bk,an,ao,ad,rfl⟩ ?_;clear hm;intro n f a5 hI;obtain ⟨a6,eb,ec,ed,dd,ee,ef,de,e0,e1,cp,eg,eh,df,e2,cq,hn,hm,aa,ab,ae,ap,aq,bo,ar,ad,hs⟩:=hI;subst hn;refine .lL [6] hs ?_
  cases cq with
  | zero=>rw [Zeu.eq_1] at hm;cases hm
  | succ cq=>
   rw [Zeu.eq_2] at hm;refine go ?_;refine Xc ab ?_;refine go ?_;refine Zq hm (fun hb hm=>go ?_) fun hb hm=>go ?_
   ·refine Xc ab<|Xo rfl ?_;obtain ⟨al,b2,hm⟩:=bZ hm;refine lI b2 ((ci.ks aa).addr b2) ?_;obtain ⟨_,g2,g3⟩:=(ci.ks aa).atN b2;obtain ⟨⟨i9,ja,rfl,g4⟩,_⟩:=g2;refine lW g3.one ?_;obtain ⟨g5,hm⟩:=Z3 hm;refine Ws (c:=12) Zc.nil g4.srcC g5 ?_;intro jb jc jd g6 bp e3;refine go ?_;refine Wx (col:=g6) [(-95),(-96)] 13 ?_;intro je jf jg a7 g7;obtain ⟨g8,hm⟩:=Z3 hm;replace e3:=e3.gr a7;refine Ws e3 (g7.srcN (NB.int (k:=.i64))) g8 ?_;intro dg dh jh cr bq ct;refine go ?_;refine Yv (col:=cr) [(0,1),(1,0),(2,1),(3,1),(4,0),(5,1),(6,1),(7,0),(8,1),(9,1),(10,3),(11,2),(12,1),(13,2)] (by kernel_rfl) (by kernel_rfl)<|xF ⟨_,_,rfl⟩ ?_;replace ad:=((ad.kpp bp).gr a7).kpp bq;refine xW (fun _ hC=>((ad.atN).nth (q:=3) rfl).gr (hC.bl cr)) ?_;refine xu rfl rfl (fun _=>Vb rfl) ?_;refine xF ⟨_,_,rfl⟩ ?_;replace ab:=((ab.kpp bp).gr a7).kpp bq;refine xW (fun _ hC=>((ab.atN).nth (q:=3) rfl).gr (hC.bl cr)) ?_;refine xu rfl rfl (fun _=>Vg rfl) ?_;replace aa:=((aa.kpp bp).grow a7).kpp bq;refine xu rfl rfl (fun _=>Wb underlying24 sizeOf40 rfl rfl (Xp b2).1 (Xp b2).2.1 ((ci.ks aa).addr b2)) ?_;obtain ⟨_,g9,ha⟩:=(ci.ks aa).atN b2;obtain ⟨⟨ji,jj,rfl,jk⟩,_⟩:=g9;refine xW (fun _ hC=>ha.one.gr (hC.bl cr)) ?_;refine xu rfl rfl (fun _=>T7 underlying40 rfl) ?_;obtain ⟨e4,hm⟩:=Z3 hm;refine xu (v:=.slice dg (Int.toNat (al.length:Int)) dh) rfl rfl (fun _=>V1 underlying40 sizeOf3 rfl rfl e4.1 (by have:=ct.lecap;have:=e4.2;omega)) ?_;refine .ld (d:=88) (v:=(.slice dg ((((([]:List Int)++al)++[(-95),(-96)]).take (Int.toNat (al.length:Int))).length) dh)) (congrArg (fun n=>Value.slice dg n dh) (List.length_take_of_le (show (Int.toNat (al.length:Int))≤((([]:List Int)++al)++[(-95),(-96)]).length by have:=e4.2;omega)).symm) ?_;refine xe rfl rfl ?_;intro jl hC0;have hC:=hC0.bl cr;replace ap:=(((ap.kpp bp).gr a7).kpp bq).gr hC;replace ap:=ap.froz 12 (by decide);replace aq:=(((aq.kpp bp).gr a7).kpp bq).gr hC;replace aq:=aq.froz 12 (by decide);replace bo:=(((bo.kpp bp).gr a7).kpp bq).gr hC;replace bo:=bo.froz 12 (by decide);replace ar:=(((ar.kpp bp).gr a7).kpp bq).gr hC;replace ar:=ar.froz 12 (by decide);replace ct:=ct.gr hC;replace ct:=(ct).toSlF (Zl.int .i64);replace ab:=ab.gr hC;replace ab:=ab.froz 12 (by decide);replace ae:=(((ae.kpp bp).gr a7).kpp bq).gr hC
    replace ae:=ae.froz 12 (by decide);replace ad:=ad.gr hC;replace ad:=ad.froz 12 (by decide);replace aa:=aa.grow hC;replace aa:=aa.froz 12 (by decide) (by decide);refine Zb0 (col:=(Xk 12 cr)) (r:=(Za.view (Za.int .i64))) (xs:=[((Int.toNat (al.length:Int)),(([]:List Int)++al)++[(-95),(-96)])]) [(.slice dg ((((([]:List Int)++al)++[(-95),(-96)]).take (Int.toNat (al.length:Int))).length) dh)] 14 (Ui.ofF (Rows.consF (r:=(Za.view (Za.int .i64))) (x:=((Int.toNat (al.length:Int)),(([]:List Int)++al)++[(-95),(-96)])) (cs:=[(.slice dg ((((([]:List Int)++al)++[(-95),(-96)]).take (Int.toNat (al.length:Int))).length) dh)]) (Zkk ct) Rows.nil0)) ?_;intro jm jn e5 a8 e6;refine Zk<|Xg e5 hC0 a8<|xe rfl rfl ?_;intro hc hC0;have hC:=hC0.bl e5;obtain ⟨fw,hm⟩:=Z3 hm;replace bo:=(bo.gr a8).gr hC;replace e6:=e6.gr hC;refine Zfr (col:=e5) (w:=hc) (r:=(Za.view (Za.int .i64))) (c:=7) (c2:=7) (bo.ex) (e6.srcN NB.view) rfl underlying24 Z0u rfl rfl rfl fw.1 fw.2 (by decide) ?_;intro fx fy jo di b3 e7;refine Zk<|xk di<|xF ⟨_,_,rfl⟩ ?_;refine xe rfl rfl ?_;intro jp hC0;replace ap:=((ap.gr a8).gr hC).kpp b3;replace aq:=((aq.gr a8).gr hC).kpp b3;replace ar:=((ar.gr a8).gr hC).kpp b3;replace ab:=((ab.gr a8).gr hC).kpp b3;replace ae:=((ae.gr a8).gr hC).kpp b3;replace ad:=((ad.gr a8).gr hC).kpp b3;replace aa:=((aa.grow a8).grow hC).kpp b3;have hC:=hC0.bl di;replace ad:=ad.gr hC;refine Zdj (off:=3) (v:=(.slice fx ((cp++[((Int.toNat (al.length:Int)),(([]:List Int)++al)++[(-95),(-96)])]).length) fy)) ad sizeOf24 rfl rfl (by intro u hu;simp only [Value.cells,List.mem_cons,List.not_mem_nil,or_false] at hu;subst hu;rfl) rfl rfl ?_;intro hd b4 he dj;replace dj:Zn 27 3 di hd ax #[.string eb,(.slice ec ((dd.take (Int.toNat (ac.2.1.length:Int))).length) ed),.slice ee de.length ef,(.slice fx ((cp++[((Int.toNat (al.length:Int)),(([]:List Int)++al)++[(-95),(-96)])]).length) fy),.slice eg df.length eh]:=dj;refine Zk<|xk di ?_;replace e7:=(e7.gr hC).kp b4;have e8:=e7.new;refine Yn ?_;replace ap:=(ap.gr hC).kp b4;replace aq:=(aq.gr hC).kp b4;replace ar:=(ar.gr hC).kp b4;replace ab:=(ab.gr hC).kp b4;replace ae:=(ae.gr hC).kp b4;replace aa:=(aa.grow hC).kp b4 he;intro jq hC;replace hC:=hC.bl di;refine go ?_;replace ap:=ap.gr hC;replace aq:=aq.gr hC;replace e8:=e8.gr hC
    replace ar:=ar.gr hC;replace ab:=ab.gr hC;replace ae:=ae.gr hC;replace dj:=dj.gr hC;replace aa:=aa.grow hC;exact ⟨cq,by omega,rfl,⟨_,_,_,_,_,_,_,_,_,_,_,_,_,_,_,_,rfl,hm,aa,ab,ae,ap,aq,e8,ar,dj,rfl⟩⟩
   refine Z8 [1,2,3,1000000] (fun n f a9=>∃ ba cu cv cw br cx cy bs cz c0 bt dl dm bb ei b5,b5=n∧Zcw N ac b5 cu br bs bt bb ei=some r∧St w0 (Zi col) ba a9∧Zn 27 1 ba a9 du #[.string ac.1,.slice cd ac.2.1.length b9,.slice ce ac.2.2.1.length ca,.slice cf ac.2.2.2.1.length cb,.slice cg ac.2.2.2.2.length cc]∧Zn 27 2 ba a9 dv #[.string (⟨#[]⟩),.slice none (([]:List ByteArray).length) 0,.slice none (([]:List R6).length) 0,.slice none (([]:List R5).length) 0,(.slice none (([]:List R8).length) 0)]∧Zc Za.str 9 4 ba a9 cv cw br∧Zc (Za.view Za.str) 22 6 ba a9 cx cy bs∧Zc (Za.view (Za.int .i64)) 40 7 ba a9 cz c0 bt∧Zc (Za.view (Za.pair (Za.pair Za.bool (Za.view (Za.int .u32))) (Za.view (Za.int .u32)))) 56 8 ba a9 dl dm bb∧Zn 27 3 ba a9 ax #[.string cu,(.slice cv ((br.take (Int.toNat (ac.2.1.length:Int))).length) cw),.slice cx bs.length cy,.slice cz bt.length c0,.slice dl bb.length dm]∧[8].map f=[.int .i64 ei]) N ⟨_,_,_,_,_,_,_,_,_,_,_,_,_,_,0,_,rfl,hm,aa,ab,ae,ap,aq,bo,ar,ad,rfl⟩ ?_;clear hm;intro n f a9 hI;obtain ⟨ba,cu,cv,cw,br,cx,cy,bs,cz,c0,bt,dl,dm,bb,ei,b5,hn,hm,aa,ab,ae,af,ag,ah,ai,ad,hs⟩:=hI;subst hn;refine .lL [8] hs ?_
   cases b5 with
   | zero=>rw [Zcw.eq_1] at hm;cases hm
   | succ b5=>
    rw [Zcw.eq_2] at hm;refine go ?_;refine Xc ab ?_;refine go ?_;refine Zq hm (fun hb hm=>go ?_) fun hb hm=>go ?_
    ·refine Z8 [1,2,3,8,1000000] (fun n f ay=>∃ aw e9 fa fb au c1,c1=n∧Zev N ac cu br bs bt bb ei (Zcw N ac b5) c1 e9 au=some r∧St w0 (Zi col) aw ay∧Zn 27 1 aw ay du #[.string ac.1,.slice cd ac.2.1.length b9,.slice ce ac.2.2.1.length ca,.slice cf ac.2.2.2.1.length cb,.slice cg ac.2.2.2.2.length cc]∧Zn 27 2 aw ay dv #[.string (⟨#[]⟩),.slice none (([]:List ByteArray).length) 0,.slice none (([]:List R6).length) 0,.slice none (([]:List R5).length) 0,(.slice none (([]:List R8).length) 0)]∧Zc Za.str 9 4 aw ay cv cw br∧Zc (Za.view Za.str) 22 6 aw ay cx cy bs∧Zc (Za.view (Za.int .i64)) 40 7 aw ay cz c0 bt∧Zc (Za.view (Za.pair (Za.pair Za.bool (Za.view (Za.int .u32))) (Za.view (Za.int .u32)))) 56 8 aw ay dl dm bb∧Zn 27 3 aw ay ax #[.string cu,(.slice cv ((br.take (Int.toNat (ac.2.1.length:Int))).length) cw),.slice cx bs.length cy,.slice cz bt.length c0,.slice dl bb.length dm]∧Zc (Za.pair (Za.pair Za.bool (Za.view (Za.int .u32))) (Za.view (Za.int .u32))) 47 15 aw ay fa fb au∧[10,9].map f=[.int .i64 e9,.slice fa au.length fb]) N ⟨_,0,none,0,_,_,rfl,hm,aa,ab,ae,af,ag,ah,ai,ad,Zc.nil,rfl⟩ ?_;clear hm;intro n f ay hI;obtain ⟨aw,e9,fa,fb,au,c1,hn,hm,aa,ab,ae,af,ag,ah,ai,ad,av,hs⟩:=hI;subst hn;refine .lL [10,9] hs ?_
     cases c1 with
     | zero=>rw [Zev.eq_1] at hm;cases hm
     | succ c1=>
      rw [Zev.eq_2] at hm;refine go ?_;refine Xc ab<|Xo rfl ?_;obtain ⟨bc,az,hm⟩:=bZ hm;refine lI az ((bj.ks aa).addr az) ?_;obtain ⟨_,hf,hg⟩:=(bj.ks aa).atN az;obtain ⟨⟨jr,js,rfl,jt⟩,_⟩:=hf;refine lW hg.one<|go ?_;refine Zq hm (fun hb hm=>go ?_) fun hb hm=>go ?_
      ·refine Xc ab<|Xo rfl<|lI az ((bj.ks aa).addr az) ?_;obtain ⟨_,hh,hi⟩:=(bj.ks aa).atN az;obtain ⟨⟨ju,jv,rfl,fz⟩,_⟩:=hh;refine lW hi.one<|Xo rfl ?_;obtain ⟨fc,fd,hm⟩:=bZ hm;refine lI fd (fz.addr fd) ?_;obtain ⟨_,hj,hk⟩:=fz.atN fd;obtain ⟨_,_,rfl,hl,ho⟩:=Y5 hj;obtain ⟨_,_,rfl,hp,hq⟩:=Y5 hl;obtain ⟨rfl,_⟩:=hp;obtain ⟨⟨hr,ht,rfl,hv⟩,_⟩:=hq;obtain ⟨⟨hw,hx,rfl,hy⟩,_⟩:=ho;refine lV (.agg #[.bool fc.1.1,.slice hr fc.1.2.length ht,.slice hw fc.2.length hx]) (Xn isAgg47 sizeOf47 rfl rfl hk) ?_;obtain ⟨aj,hz,hm⟩:=bZ hm;refine Zh (Zzk hz hv hy) ?_;rintro _ jw ⟨h0,f0,f1,f2,f3,rfl,bd,h1,h2⟩;refine ⟨_,rfl,?_⟩;refine Zb0 (col:=h0) (r:=(Za.pair (Za.pair Za.bool (Za.view (Za.int .u32))) (Za.view (Za.int .u32)))) (xs:=[((aj.1.1,(aj.1.2.1,aj.1.2.2)),(aj.2.1,aj.2.2))]) [(.agg #[.bool aj.1.1,.slice f0 ((aj.1.2.2.take aj.1.2.1).length) f1,.slice f2 ((aj.2.2.take aj.2.1).length) f3])] 16 (Ui.ofF (Rows.consF (r:=(Za.pair (Za.pair Za.bool (Za.view (Za.int .u32))) (Za.view (Za.int .u32)))) (x:=((aj.1.1,(aj.1.2.1,aj.1.2.2)),(aj.2.1,aj.2.2))) (cs:=[.bool aj.1.1,.slice f0 ((aj.1.2.2.take aj.1.2.1).length) f1,.slice f2 ((aj.2.2.take aj.2.1).length) f3]) (Uf (Uf (Zc7 aj.1.1) (Zkk h1)) (Zkk h2)) Rows.nil0)) ?_;intro jx jy jz be h3;obtain ⟨h4,hm⟩:=Z3 hm;replace av:=(av.gr bd).gr be;refine Ws av (h3.srcN (NB.pair (NB.pair NB.bool NB.view) NB.view)) h4 ?_;intro j0 j1 j2 j3 bu h5;refine go ?_;replace af:=((af.gr bd).gr be).kpp bu;replace ag:=((ag.gr bd).gr be).kpp bu;replace ah:=((ah.gr bd).gr be).kpp bu;replace ai:=((ai.gr bd).gr be).kpp bu;replace ab:=((ab.gr bd).gr be).kpp bu;replace ae:=((ae.gr bd).gr be).kpp bu;replace ad:=((ad.gr bd).gr be).kpp bu;replace aa:=((aa.grow bd).grow be).kpp bu;exact ⟨c1,by omega,rfl,⟨_,_,_,_,_,_,rfl,hm,aa,ab,ae,af,ag,ah,ai,ad,h5,rfl⟩⟩
      refine Wx (col:=aw) [97] 17 ?_;intro fe j4 h6 bf b6;refine lV (.agg #[.bool false,.slice none (([]:List Int).length) 0,.slice fe ([97].length) 1]) (Yc (l:=[_,_]) (qs:=[(0,2),(2,1)]) underlying47 zeroValue47 ⟨rfl,sizeOf45,rfl,sizeOf43,trivial⟩ rfl)<|Wx (col:=h6) [98] 18 ?_;intro ff j5 h7 a0 dn;refine lV (.agg #[.bool false,.slice none (([]:List Int).length) 0,.slice ff ([98].length) 1]) (Yc (l:=[_,_]) (qs:=[(0,2),(2,1)]) underlying47 zeroValue47 ⟨rfl,sizeOf45,rfl,sizeOf43,trivial⟩ rfl) ?_;replace af:=(af.gr bf).gr a0;replace af:=af.froz 17 (by decide);replace ag:=(ag.gr bf).gr a0;replace ag:=ag.froz 17 (by decide);replace ah:=(ah.gr bf).gr a0;replace ah:=ah.froz 17 (by decide);replace ai:=(ai.gr bf).gr a0;replace ai:=ai.froz 17 (by decide);replace av:=(av.gr bf).gr a0;replace av:=av.froz 17 (by decide);replace b6:=b6.gr a0;replace b6:=(b6).toSlF (Zl.int .u32);replace dn:=dn.froz 17 (by decide);replace ab:=(ab.gr bf).gr a0;replace ab:=ab.froz 17 (by decide);replace ae:=(ae.gr bf).gr a0;replace ae:=ae.froz 17 (by decide);replace ad:=(ad.gr bf).gr a0;replace ad:=ad.froz 17 (by decide);replace aa:=(aa.grow bf).grow a0;replace aa:=aa.froz 17 (by decide) (by decide);replace af:=af.froz 18 (by decide);replace ag:=ag.froz 18 (by decide);replace ah:=ah.froz 18 (by decide);replace ai:=ai.froz 18 (by decide);replace av:=av.froz 18 (by decide);replace b6:=b6.froz 18;replace dn:=(dn).toSlF (Zl.int .u32);replace ab:=ab.froz 18 (by decide);replace ae:=ae.froz 18 (by decide);replace ad:=ad.froz 18 (by decide);replace aa:=aa.froz 18 (by decide) (by decide)
      refine Zb0 (col:=(Xk 18 (Xk 17 h7))) (r:=(Za.pair (Za.pair Za.bool (Za.view (Za.int .u32))) (Za.view (Za.int .u32)))) (xs:=[((false,(0,([]:List Int))),([97].length,[97])),((false,(0,([]:List Int))),([98].length,[98]))]) [(.agg #[.bool false,.slice none (([]:List Int).length) 0,.slice fe ([97].length) 1]),(.agg #[.bool false,.slice none (([]:List Int).length) 0,.slice ff ([98].length) 1])] 19 (Ui.ofF (Rows.consF (r:=(Za.pair (Za.pair Za.bool (Za.view (Za.int .u32))) (Za.view (Za.int .u32)))) (x:=((false,(0,([]:List Int))),([97].length,[97]))) (cs:=[.bool false,.slice none (([]:List Int).length) 0,.slice fe ([97].length) 1]) (Uf (Uf (Zc7 false) Zvm) (Zvn b6)) (Rows.consF (r:=(Za.pair (Za.pair Za.bool (Za.view (Za.int .u32))) (Za.view (Za.int .u32)))) (x:=((false,(0,([]:List Int))),([98].length,[98]))) (cs:=[.bool false,.slice none (([]:List Int).length) 0,.slice ff ([98].length) 1]) (Uf (Uf (Zc7 false) Zvm) (Zvn dn)) Rows.nil0))) ?_;intro j6 j7 j8 bg h8;obtain ⟨h9,hm⟩:=Z3 hm;replace av:=av.gr bg;refine Ws av (h8.srcN (NB.pair (NB.pair NB.bool NB.view) NB.view)) h9 ?_;intro dp dq j9 c3 bv c4;refine go ?_;refine Yv (col:=c3) [(0,1),(1,0),(2,1),(3,1),(4,0),(5,1),(6,1),(7,0),(8,1),(9,1),(10,3),(11,2),(12,1),(13,2)] (by kernel_rfl) (by kernel_rfl)<|xF ⟨_,_,rfl⟩ ?_;replace ad:=(ad.gr bg).kpp bv;refine xW (fun _ hC=>((ad.atN).nth (q:=4) rfl).gr (hC.bl c3)) ?_;refine xu rfl rfl (fun _=>Vb rfl) ?_;refine xF ⟨_,_,rfl⟩ ?_;replace ab:=(ab.gr bg).kpp bv;refine xW (fun _ hC=>((ab.atN).nth (q:=4) rfl).gr (hC.bl c3)) ?_;refine xu rfl rfl (fun _=>Vg rfl) ?_;replace aa:=(aa.grow bg).kpp bv;refine xu rfl rfl (fun _=>Wb underlying25 sizeOf56 rfl rfl (Xp az).1 (Xp az).2.1 ((bj.ks aa).addr az)) ?_;obtain ⟨_,ia,ib⟩:=(bj.ks aa).atN az;obtain ⟨⟨ka,kb,rfl,kc⟩,_⟩:=ia;refine xW (fun _ hC=>ib.one.gr (hC.bl c3)) ?_;refine xu rfl rfl (fun _=>T7 underlying56 rfl) ?_;obtain ⟨fg,hm⟩:=Z3 hm;refine xu (v:=.slice dp (Int.toNat (bc.length:Int)) dq) rfl rfl (fun _=>V1 underlying56 sizeOf47 rfl rfl fg.1 (by have:=c4.lecap;have:=fg.2;omega)) ?_
      refine .ld (d:=137) (v:=(.slice dp (((au++[((false,(0,([]:List Int))),([97].length,[97])),((false,(0,([]:List Int))),([98].length,[98]))]).take (Int.toNat (bc.length:Int))).length) dq)) (congrArg (fun n=>Value.slice dp n dq) (List.length_take_of_le (show (Int.toNat (bc.length:Int))≤(au++[((false,(0,([]:List Int))),([97].length,[97])),((false,(0,([]:List Int))),([98].length,[98]))]).length by have:=fg.2;omega)).symm) ?_;refine xe rfl rfl ?_;intro kd hC0;have hC:=hC0.bl c3;replace af:=((af.gr bg).kpp bv).gr hC;replace af:=af.froz 15 (by decide);replace ag:=((ag.gr bg).kpp bv).gr hC;replace ag:=ag.froz 15 (by decide);replace ah:=((ah.gr bg).kpp bv).gr hC;replace ah:=ah.froz 15 (by decide);replace ai:=((ai.gr bg).kpp bv).gr hC;replace ai:=ai.froz 15 (by decide);replace c4:=c4.gr hC;replace c4:=(c4).toSlF (Zl.pair (Zl.pair Zl.bool Zl.view) Zl.view);replace ab:=ab.gr hC;replace ab:=ab.froz 15 (by decide);replace ae:=((ae.gr bg).kpp bv).gr hC;replace ae:=ae.froz 15 (by decide);replace ad:=ad.gr hC;replace ad:=ad.froz 15 (by decide);replace aa:=aa.grow hC;replace aa:=aa.froz 15 (by decide) (by decide);refine Zb0 (col:=(Xk 15 c3)) (r:=(Za.view (Za.pair (Za.pair Za.bool (Za.view (Za.int .u32))) (Za.view (Za.int .u32))))) (xs:=[((Int.toNat (bc.length:Int)),au++[((false,(0,([]:List Int))),([97].length,[97])),((false,(0,([]:List Int))),([98].length,[98]))])]) [(.slice dp (((au++[((false,(0,([]:List Int))),([97].length,[97])),((false,(0,([]:List Int))),([98].length,[98]))]).take (Int.toNat (bc.length:Int))).length) dq)] 20 (Ui.ofF (Rows.consF (r:=(Za.view (Za.pair (Za.pair Za.bool (Za.view (Za.int .u32))) (Za.view (Za.int .u32))))) (x:=((Int.toNat (bc.length:Int)),au++[((false,(0,([]:List Int))),([97].length,[97])),((false,(0,([]:List Int))),([98].length,[98]))])) (cs:=[(.slice dp (((au++[((false,(0,([]:List Int))),([97].length,[97])),((false,(0,([]:List Int))),([98].length,[98]))]).take (Int.toNat (bc.length:Int))).length) dq)]) (Zkk c4) Rows.nil0)) ?_;intro ke kf fh bh fi;refine Zk<|Xg fh hC0 bh<|xe rfl rfl ?_;intro ic hC0;have hC:=hC0.bl fh;obtain ⟨f4,hm⟩:=Z3 hm;replace ai:=(ai.gr bh).gr hC;replace fi:=fi.gr hC;refine Zfr (col:=fh) (w:=ic) (r:=(Za.view (Za.pair (Za.pair Za.bool (Za.view (Za.int .u32))) (Za.view (Za.int .u32))))) (c:=8) (c2:=8) (ai.ex) (fi.srcN NB.view) rfl underlying25 Z0w rfl rfl rfl f4.1 f4.2 (by decide) ?_;intro f5 f6 kg dr b7 fj
      refine Zk<|xk dr<|xF ⟨_,_,rfl⟩ ?_;refine xe rfl rfl ?_;intro kh hC0;replace af:=((af.gr bh).gr hC).kpp b7;replace ag:=((ag.gr bh).gr hC).kpp b7;replace ah:=((ah.gr bh).gr hC).kpp b7;replace ab:=((ab.gr bh).gr hC).kpp b7;replace ae:=((ae.gr bh).gr hC).kpp b7;replace ad:=((ad.gr bh).gr hC).kpp b7;replace aa:=((aa.grow bh).grow hC).kpp b7;have hC:=hC0.bl dr;replace ad:=ad.gr hC;refine Zdj (off:=4) (v:=(.slice f5 ((bb++[((Int.toNat (bc.length:Int)),au++[((false,(0,([]:List Int))),([97].length,[97])),((false,(0,([]:List Int))),([98].length,[98]))])]).length) f6)) ad sizeOf25 rfl rfl (by intro u hu;simp only [Value.cells,List.mem_cons,List.not_mem_nil,or_false] at hu;subst hu;rfl) rfl rfl ?_;intro id b8 ie ds;replace ds:Zn 27 3 dr id ax #[.string cu,(.slice cv ((br.take (Int.toNat (ac.2.1.length:Int))).length) cw),.slice cx bs.length cy,.slice cz bt.length c0,(.slice f5 ((bb++[((Int.toNat (bc.length:Int)),au++[((false,(0,([]:List Int))),([97].length,[97])),((false,(0,([]:List Int))),([98].length,[98]))])]).length) f6)]:=ds;refine Zk<|xk dr ?_;replace fj:=(fj.gr hC).kp b8;have fk:=fj.new;refine Yn ?_;replace af:=(af.gr hC).kp b8;replace ag:=(ag.gr hC).kp b8;replace ah:=(ah.gr hC).kp b8;replace ab:=(ab.gr hC).kp b8;replace ae:=(ae.gr hC).kp b8;replace aa:=(aa.grow hC).kp b8 ie;intro ki hC;replace hC:=hC.bl dr;refine go ?_;replace af:=af.gr hC;replace ag:=ag.gr hC;replace ah:=ah.gr hC;replace fk:=fk.gr hC;replace ab:=ab.gr hC;replace ae:=ae.gr hC;replace ds:=ds.gr hC;replace aa:=aa.grow hC;exact ⟨b5,by omega,rfl,⟨_,_,_,_,_,_,_,_,_,_,_,_,_,_,_,_,rfl,hm,aa,ab,ae,af,ag,ah,fk,ds,rfl⟩⟩
    refine lV _ (Xa isAgg27 sizeOf27 ad)<|Zw ae ?_;intro kj dt ig bi;refine go ?_;replace af:=af.kp dt;replace af:=(af).toSlF Zl.str;replace ag:=ag.kp dt;replace ag:=ag.froz 4 (by decide);replace ah:=ah.kp dt;replace ah:=ah.froz 4 (by decide);replace ai:=ai.kp dt;replace ai:=ai.froz 4 (by decide);replace bi:=bi.froz 4 (by decide);replace aa:=aa.kp dt ig;replace aa:=aa.froz 4 (by decide) (by decide);replace af:=af.froz 6;replace ag:=(ag).toSlF Zl.view;replace ah:=ah.froz 6 (by decide);replace ai:=ai.froz 6 (by decide);replace bi:=bi.froz 6 (by decide);replace aa:=aa.froz 6 (by decide) (by decide);replace af:=af.froz 7;replace ag:=ag.froz 7;replace ah:=(ah).toSlF Zl.view;replace ai:=ai.froz 7 (by decide);replace bi:=bi.froz 7 (by decide);replace aa:=aa.froz 7 (by decide) (by decide);replace af:=af.froz 8;replace ag:=ag.froz 8;replace ah:=ah.froz 8;replace ai:=(ai).toSlF Zl.view;replace bi:=bi.froz 8 (by decide);replace aa:=aa.froz 8 (by decide) (by decide);cases hm;exact ⟨rfl,_,ra bi.atN,_,_,_,_,_,_,_,_,_,rfl,aa.fin (cm []),aa.fs af,aa.fs ag,aa.fs ah,aa.fs ai⟩
def Zj5 (aa:Bool):Option Bool:=
  some aa
def Ze0 (N:Nat) (n0:Nat) (aa:List ByteArray) (ac:List ByteArray) (ad:ByteArray) (ae:ByteArray):Nat→Int→Option Bool
  | 0,_=>none
  | af+1,ab=>if (decide (ab<(ac.length:Int)))=true then ((Zo (aa.take n0) ab).bind fun ag=>(Zo ac ab).bind fun ah=>if (!decide (ag=ah))=true then (some false) else ((Ze0 N n0 aa ac ad ae af) (i64.wrap (ab+1)))) else (Z1 ((0:Int)≤(i64.wrap (((aa.take n0).length:Int)+2))∧(i64.wrap (((aa.take n0).length:Int)+2))≤(aa.length:Int)) ((Zo (aa.take (Int.toNat (i64.wrap (((aa.take n0).length:Int)+2)))) ((aa.take n0).length:Int)).bind fun ai=>if (decide (ai=ad))=true then ((Zo (aa.take (Int.toNat (i64.wrap (((aa.take n0).length:Int)+2)))) (i64.wrap (((aa.take n0).length:Int)+1))).bind fun aj=>Zj5 (decide (aj=ae))) else (Zj5 false)))
termination_by structural x=>x
def Zez (N:Nat) (n0:Nat) (aa:List ByteArray) (ab:List ByteArray) (ac:ByteArray) (ad:ByteArray):Option Bool:=
  if (!decide (((aa.take n0).length:Int)=(ab.length:Int)))=true then (some false) else (Ze0 N n0 aa ab ac ad N 0)
theorem Zq4 {N ae n0 aq:Nat} {a0 a1:Option Addr} {col:Zf} {w0:World} {ab af:R9} {ah ag:ByteArray} {r:Bool} (hm:Zez N n0 ab af ah ag=some r) (h0:Sl Za.str col w0 a0 ae ab) (h1:Sl Za.str col w0 a1 aq af):
    Calls Tryz.prog 82 #[.slice a0 ((ab.take n0).length) ae,.slice a1 af.length aq,.string ah,.string ag] w0 (fun e w'=>e= .returned ((.bool r))∧Below w0.heap.size w0 w'):=by
 refine Xi 8 (m:=53) func82 rfl rfl rfl rfl rfl ?_;rw [Zez.eq_1] at hm;have aa:=St.start col w0;refine go ?_;replace h0:=h0.keep (Zj.start col w0);replace h1:=h1.keep (Zj.start col w0);refine Zq hm (fun hb hm=>go ?_) fun hb hm=>go ?_
 ·cases hm;exact ⟨rfl,rfl,aa.below⟩
 refine Z8 [0,1,2,3,1000000] (fun n f ar=>∃ ac ai ad,ad=n∧Ze0 N n0 ab af ah ag ad ai=some r∧St w0 (Zi col) ac ar∧[9].map f=[.int .i64 ai]) N ⟨_,0,_,rfl,hm,aa,rfl⟩ ?_;clear hm;intro n f ar hI;obtain ⟨ac,ai,ad,hn,hm,aa,hs⟩:=hI;subst hn;refine .lL [9] hs ?_
 cases ad with
 | zero=>rw [Ze0.eq_1] at hm;cases hm
 | succ ad=>
  rw [Ze0.eq_2] at hm;refine go ?_;refine Zq hm (fun hb hm=>go ?_) fun hb hm=>go ?_
  ·refine Wc (col:=ac) (by kernel_rfl) (by kernel_rfl)<|go ?_;obtain ⟨ax,aj,hm⟩:=bZ hm;refine qI aj (((h0.ks aa).take n0).addr aj)<|qW (fun _ hC=>(((h0.ks aa).take n0).gr (hC.bl ac)).atStr aj) ?_;refine go ?_;obtain ⟨ay,ak,hm⟩:=bZ hm;refine qI ak ((h1.ks aa).addr ak)<|qW (fun _ hC=>((h1.ks aa).gr (hC.bl ac)).atStr ak) ?_;refine go ?_;refine Yf ?_;intro az hC;replace hC:=hC.bl ac;replace aa:=aa.grow hC;refine Zq hm (fun hb hm=>go ?_) fun hb hm=>go ?_
   ·cases hm;exact ⟨rfl,rfl,aa.below⟩
   exact ⟨ad,by omega,rfl,⟨_,_,_,rfl,hm,aa,rfl⟩⟩
  obtain ⟨al,hm⟩:=Z3 hm;refine lv (v:=.slice a0 (Int.toNat (i64.wrap (((ab.take n0).length:Int)+2))) ae) rfl rfl (V1 underlying22 sizeOf9 rfl rfl al.1 (by have:=(h0.ks aa).1.2;have:=al.2;omega))<|.ld (d:=35) (v:=(.slice a0 ((ab.take (Int.toNat (i64.wrap (((ab.take n0).length:Int)+2)))).length) ae)) (congrArg (fun n=>Value.slice a0 n ae) (List.length_take_of_le (show (Int.toNat (i64.wrap (((ab.take n0).length:Int)+2)))≤ab.length by have:=al.2;omega)).symm) ?_;refine Tt rfl<|Zk<|Zy ?_;refine Wp.cutK [1000000] (fun f au=>∃ av am,Zj5 am=some r∧St w0 (Zi col) av au∧[8].map f=[.bool am]) ?_ ?_
  ·intro f au hJ;obtain ⟨av,am,hm,aa,hs⟩:=hJ;rw [Zj5.eq_1] at hm;refine .lL [8] hs<|Ys ?_;cases hm;exact ⟨rfl,rfl,aa.below⟩
  refine go ?_;obtain ⟨a2,an,hm⟩:=bZ hm;refine lI an (((h0.ks aa).take (Int.toNat (i64.wrap (((ab.take n0).length:Int)+2)))).addr an)<|lW (((h0.ks aa).take (Int.toNat (i64.wrap (((ab.take n0).length:Int)+2)))).atStr an) ?_;refine go ?_;refine Xv hm (fun ao hm=>go ?_) fun ao hm=>go ?_
  ·obtain ⟨aw,ap,hm⟩:=bZ hm;refine lI ap (((h0.ks aa).take (Int.toNat (i64.wrap (((ab.take n0).length:Int)+2)))).addr ap) ?_;refine go ?_;refine lW (((h0.ks aa).take (Int.toNat (i64.wrap (((ab.take n0).length:Int)+2)))).atStr ap)<|go ?_;refine lV (.bool (decide (aw=ag))) (Xj (congrArg Value.bool ao) rfl)<|go ?_;exact ⟨rfl,_,_,hm,aa,rfl⟩
  refine lV (.bool false) (Xs (congrArg Value.bool ao) rfl)<|go ?_;exact ⟨rfl,_,_,hm,aa,rfl⟩
def Zey (N:Nat) (ab:R1) (ac:R1):Nat→Int→Option Bool
  | 0,_=>none
  | ad+1,aa=>if (decide (aa<(ab.1.2.length:Int)))=true then ((Zo ab.1.2 aa).bind fun ae=>(Zo ac.1.2 aa).bind fun af=>if (!decide (ae=af))=true then (some false) else ((Zey N ab ac ad) (i64.wrap (aa+1)))) else (some true)
termination_by structural x=>x
def Zex (N:Nat) (aa:R1) (ac:R1):Nat→Int→Option Bool
  | 0,_=>none
  | ad+1,ab=>if (decide (ab<(aa.2.length:Int)))=true then ((Zo aa.2 ab).bind fun ae=>(Zo ac.2 ab).bind fun af=>if (!decide (ae=af))=true then (some false) else ((Zex N aa ac ad) (i64.wrap (ab+1)))) else (Zey N aa ac N 0)
termination_by structural x=>x
def Zht (N:Nat) (aa:R1) (ab:R1) (ac:Bool):Option Bool:=
  if ac=true then (some false) else (Zex N aa ab N 0)
def Zhs (N:Nat) (aa:R1) (ab:R1):Option Bool:=
  if (!decide (aa.1.1=ab.1.1))=true then (Zht N aa ab true) else (if (!decide ((aa.1.2.length:Int)=(ab.1.2.length:Int)))=true then (Zht N aa ab true) else (Zht N aa ab (!decide ((aa.2.length:Int)=(ab.2.length:Int)))))
theorem Zzo {N aj ak al am:Nat} {an ao ap aq:Option Addr} {col:Zf} {w0:World} {ac ad:R1} {r:Bool} (hm:Zhs N ac ad=some r) (ar:Sl (Za.int .u32) col w0 an aj ac.1.2) (au:Sl (Za.int .u32) col w0 ao ak ac.2) (av:Sl (Za.int .u32) col w0 ap al ad.1.2) (aw:Sl (Za.int .u32) col w0 aq am ad.2):
    Calls Tryz.prog 25 #[(.agg #[.bool ac.1.1,.slice an ac.1.2.length aj,.slice ao ac.2.length ak]),(.agg #[.bool ad.1.1,.slice ap ad.1.2.length al,.slice aq ad.2.length am])] w0 (fun e w'=>e= .returned ((.bool r))∧Below w0.heap.size w0 w'):=by
 refine Xi 4 (m:=73) func25 rfl rfl rfl rfl rfl ?_;rw [Zhs.eq_1] at hm;have aa:=St.start col w0;refine go ?_;refine Xd (col:=(Zi col)) 1 rfl ?_;intro a1 bf bd be ab;refine Xd (col:=bd) 2 rfl ?_;intro a2 bg bh bc ae;refine Zfq rfl<|Zk<|Zy<|Zy ?_;replace ar:=ar.keep (Zj.start col w0);replace au:=au.keep (Zj.start col w0);replace av:=av.keep (Zj.start col w0);replace aw:=aw.keep (Zj.start col w0);replace aa:=(aa.grow be).grow bc;replace ab:=ab.gr bc;refine Wp.cutK [2,3,1000000] (fun f ax=>∃ ay a3,Zht N ac ad a3=some r∧St w0 (Zi col) ay ax∧Zn 47 1 ay ax a1 #[.bool ac.1.1,.slice an ac.1.2.length aj,.slice ao ac.2.length ak]∧Zn 47 2 ay ax a2 #[.bool ad.1.1,.slice ap ad.1.2.length al,.slice aq ad.2.length am]∧[33].map f=[.bool a3]) ?_ ?_
 ·intro f ax hJ;obtain ⟨ay,a3,hm,aa,ab,ae,hs⟩:=hJ;rw [Zht.eq_1] at hm;refine .lL [33] hs ?_;refine Zq hm (fun hb hm=>go ?_) fun hb hm=>go ?_
  ·cases hm;exact ⟨rfl,rfl,aa.below⟩
  refine Z8 [2,3,1000000] (fun n f az=>∃ af a4 ah,ah=n∧Zex N ac ad ah a4=some r∧St w0 (Zi col) af az∧Zn 47 1 af az a1 #[.bool ac.1.1,.slice an ac.1.2.length aj,.slice ao ac.2.length ak]∧Zn 47 2 af az a2 #[.bool ad.1.1,.slice ap ad.1.2.length al,.slice aq ad.2.length am]∧[5].map f=[.int .i64 a4]) N ⟨_,0,_,rfl,hm,aa,ab,ae,rfl⟩ ?_;clear hm;intro n f az hI;obtain ⟨af,a4,ah,hn,hm,aa,ab,ae,hs⟩:=hI;subst hn;refine .lL [5] hs ?_
  cases ah with
  | zero=>rw [Zex.eq_1] at hm;cases hm
  | succ ah=>
   rw [Zex.eq_2] at hm;refine go ?_;refine Xc ab ?_;refine go ?_;refine Zq hm (fun hb hm=>go ?_) fun hb hm=>go ?_
   ·refine Wc (col:=af) (by kernel_rfl) (by kernel_rfl)<|qF ⟨_,_,rfl⟩ ?_;refine qW (fun _ hC=>((ab.atN).nth (q:=2) rfl).gr (hC.bl af)) ?_;refine go ?_;obtain ⟨bi,a5,hm⟩:=bZ hm;refine qI a5 ((au.ks aa).addr a5)<|qW (fun _ hC=>((au.ks aa).gr (hC.bl af)).atInt a5) ?_;refine qF ⟨_,_,rfl⟩ ?_;refine qW (fun _ hC=>((ae.atN).nth (q:=2) rfl).gr (hC.bl af)) ?_;refine go ?_;obtain ⟨bj,a6,hm⟩:=bZ hm;refine qI a6 ((aw.ks aa).addr a6)<|qW (fun _ hC=>((aw.ks aa).gr (hC.bl af)).atInt a6) ?_;refine go ?_;refine Yf ?_;intro bk hC;replace hC:=hC.bl af;replace ab:=ab.gr hC;replace ae:=ae.gr hC;replace aa:=aa.grow hC;refine Zq hm (fun hb hm=>go ?_) fun hb hm=>go ?_
    ·cases hm;exact ⟨rfl,rfl,aa.below⟩
    exact ⟨ah,by omega,rfl,⟨_,_,_,rfl,hm,aa,ab,ae,rfl⟩⟩
   refine Z8 [2,3,1000000] (fun n f a0=>∃ ag a7 ai,ai=n∧Zey N ac ad ai a7=some r∧St w0 (Zi col) ag a0∧Zn 47 1 ag a0 a1 #[.bool ac.1.1,.slice an ac.1.2.length aj,.slice ao ac.2.length ak]∧Zn 47 2 ag a0 a2 #[.bool ad.1.1,.slice ap ad.1.2.length al,.slice aq ad.2.length am]∧[6].map f=[.int .i64 a7]) N ⟨_,0,_,rfl,hm,aa,ab,ae,rfl⟩ ?_;clear hm;intro n f a0 hI;obtain ⟨ag,a7,ai,hn,hm,aa,ab,ae,hs⟩:=hI;subst hn;refine .lL [6] hs ?_
   cases ai with
   | zero=>rw [Zey.eq_1] at hm;cases hm
   | succ ai=>
    rw [Zey.eq_2] at hm;refine go ?_;refine Xh ⟨_,_,rfl⟩ ?_;refine Xh (Wi ⟨_,_,rfl⟩) ?_;refine lW ((((ab.atN).part 0 2 _ rfl)).nth (q:=1) rfl)<|go ?_;refine Zq hm (fun hb hm=>go ?_) fun hb hm=>go ?_
    ·refine Wc (col:=ag) (by kernel_rfl) (by kernel_rfl)<|qF ⟨_,_,rfl⟩ ?_;refine qF (Wi ⟨_,_,rfl⟩) ?_;refine qW (fun _ hC=>((((ab.atN).part 0 2 _ rfl)).nth (q:=1) rfl).gr (hC.bl ag)) ?_;refine go ?_;obtain ⟨bm,a8,hm⟩:=bZ hm;refine qI a8 ((ar.ks aa).addr a8)<|qW (fun _ hC=>((ar.ks aa).gr (hC.bl ag)).atInt a8) ?_;refine qF ⟨_,_,rfl⟩ ?_;refine qF (Wi ⟨_,_,rfl⟩) ?_;refine qW (fun _ hC=>((((ae.atN).part 0 2 _ rfl)).nth (q:=1) rfl).gr (hC.bl ag)) ?_;refine go ?_;obtain ⟨bn,a9,hm⟩:=bZ hm;refine qI a9 ((av.ks aa).addr a9)<|qW (fun _ hC=>((av.ks aa).gr (hC.bl ag)).atInt a9) ?_;refine go ?_;refine Yf ?_;intro bo hC;replace hC:=hC.bl ag;replace ab:=ab.gr hC;replace ae:=ae.gr hC;replace aa:=aa.grow hC;refine Zq hm (fun hb hm=>go ?_) fun hb hm=>go ?_
     ·cases hm;exact ⟨rfl,rfl,aa.below⟩
     exact ⟨ai,by omega,rfl,⟨_,_,_,rfl,hm,aa,ab,ae,rfl⟩⟩
    cases hm;exact ⟨rfl,rfl,aa.below⟩
 refine Wd<|Xh ⟨_,_,rfl⟩ ?_;refine Xh (Wi ⟨_,_,rfl⟩) ?_;refine lW ((((ab.atN).part 0 2 _ rfl)).nth (q:=0) rfl)<|Xh ⟨_,_,rfl⟩ ?_;refine Xh (Wi ⟨_,_,rfl⟩) ?_;refine lW ((((ae.atN).part 0 2 _ rfl)).nth (q:=0) rfl)<|go ?_;refine Xv hm (fun ba hm=>go ?_) fun ba hm=>go ?_
 ·refine lV (.bool true) (Xj (congrArg Value.bool ba) rfl)<|Yo rfl<|lP 25 rfl rfl<|lP 25 rfl rfl<|lP 25 rfl rfl<|lP 25 rfl rfl<|lP 25 rfl rfl<|lP 25 rfl rfl<|lP 25 rfl rfl<|lV (.bool true) (Xj rfl rfl)<|Zk ?_;exact ⟨rfl,_,_,hm,aa,ab,ae,rfl⟩
 refine Xh ⟨_,_,rfl⟩ ?_;refine go ?_;refine Xh (Wi ⟨_,_,rfl⟩) ?_;refine go ?_;refine lW ((((ab.atN).part 0 2 _ rfl)).nth (q:=1) rfl)<|go ?_;refine Xh ⟨_,_,rfl⟩ ?_;refine go ?_;refine Xh (Wi ⟨_,_,rfl⟩) ?_;refine go ?_;refine lW ((((ae.atN).part 0 2 _ rfl)).nth (q:=1) rfl)<|go ?_;refine lV (.bool (!decide ((ac.1.2.length:Int)=(ad.1.2.length:Int)))) (Xs (congrArg Value.bool ba) rfl)<|Yo rfl ?_;refine Xv hm (fun bb hm=>go ?_) fun bb hm=>go ?_
 ·refine lV (.bool true) (Xj (congrArg Value.bool bb) rfl)<|Zk ?_;exact ⟨rfl,_,_,hm,aa,ab,ae,rfl⟩
 refine Xh ⟨_,_,rfl⟩ ?_;refine go ?_;refine lW ((ab.atN).nth (q:=2) rfl)<|go ?_;refine Xh ⟨_,_,rfl⟩ ?_;refine go ?_;refine lW ((ae.atN).nth (q:=2) rfl)<|go ?_;refine lV (.bool (!decide ((ac.2.length:Int)=(ad.2.length:Int)))) (Xs (congrArg Value.bool bb) rfl)<|Zk ?_;exact ⟨rfl,_,_,hm,aa,ab,ae,rfl⟩
def Zj3 (aa:Int) (kk_L2:(Int→Option Bool)) (ab:Bool):Option Bool:=
  if ab=true then (some false) else (kk_L2 (i64.wrap (aa+1)))
def Zes (N:Nat) (ad:R3) (af:R0) (ab:Int) (kk_L2:(Int→Option Bool)) (aa:List Int):Nat→Int→Option Bool
  | 0,_=>none
  | ah+1,ac=>if (decide (ac<(aa.length:Int)))=true then ((Zo ad.2.2.2.1 ab).bind fun ag=>(Zo (ag.2.take ag.1) ac).bind fun ai=>(Zo af.2.2.2.1 ab).bind fun aj=>(Zo aj ac).bind fun ak=>if (!decide (ai=ak))=true then (some false) else ((Zes N ad af ab kk_L2 aa ah) (i64.wrap (ac+1)))) else ((Zo ad.2.2.2.1 ab).bind fun ae=>Z1 ((0:Int)≤(i64.wrap ((aa.length:Int)+2))∧(i64.wrap ((aa.length:Int)+2))≤(ae.2.length:Int)) ((Zo (ae.2.take (Int.toNat (i64.wrap ((aa.length:Int)+2)))) (aa.length:Int)).bind fun al=>if (!decide (al=(-95)))=true then (Zj3 ab kk_L2 true) else ((Zo (ae.2.take (Int.toNat (i64.wrap ((aa.length:Int)+2)))) (i64.wrap ((aa.length:Int)+1))).bind fun am=>Zj3 ab kk_L2 (!decide (am=(-96))))))
termination_by structural x=>x
def Zcv (aa:Int) (kk_L5:(Int→Option Bool)) (ab:Bool):Option Bool:=
  if ab=true then (some false) else (kk_L5 (i64.wrap (aa+1)))
def Zeq (aa:Int) (kk_L4:(Int→Option Bool)) (ab:Bool):Option Bool:=
  if ab=true then (some false) else (kk_L4 (i64.wrap (aa+1)))
def Sv (N:Nat) (ae:R3) (af:R0) (ab:Int) (kk_L4:(Int→Option Bool)) (ac:Rc):Nat→Int→Option Bool
  | 0,_=>none
  | ag+1,ad=>if (decide (ad<(ac.length:Int)))=true then ((Zo ae.2.2.2.2 ab).bind fun al=>(Zo (al.2.take al.1) ad).bind fun aa=>Z1 ((0:Int)≤(i64.wrap (((aa.1.2.2.take aa.1.2.1).length:Int)+2))∧(i64.wrap (((aa.1.2.2.take aa.1.2.1).length:Int)+2))≤(aa.1.2.2.length:Int)) (Z1 ((0:Int)≤(i64.wrap (((aa.2.2.take aa.2.1).length:Int)+2))∧(i64.wrap (((aa.2.2.take aa.2.1).length:Int)+2))≤(aa.2.2.length:Int)) ((Zo af.2.2.2.2 ab).bind fun am=>(Zo am ad).bind fun aj=>(Zhs N ((aa.1.1,aa.1.2.2.take aa.1.2.1),aa.2.2.take aa.2.1) ((aj.1.1,aj.1.2),aj.2)).bind fun an=>if (!an)=true then (Zcv ad (Sv N ae af ab kk_L4 ac ag) true) else ((Zo (aa.1.2.2.take (Int.toNat (i64.wrap (((aa.1.2.2.take aa.1.2.1).length:Int)+2)))) (i64.wrap (((aa.1.2.2.take (Int.toNat (i64.wrap (((aa.1.2.2.take aa.1.2.1).length:Int)+2)))).length:Int) - 1))).bind fun ao=>if (!decide (ao=902))=true then (Zcv ad (Sv N ae af ab kk_L4 ac ag) true) else ((Zo (aa.1.2.2.take (Int.toNat (i64.wrap (((aa.1.2.2.take aa.1.2.1).length:Int)+2)))) (i64.wrap (((aa.1.2.2.take (Int.toNat (i64.wrap (((aa.1.2.2.take aa.1.2.1).length:Int)+2)))).length:Int) - 2))).bind fun ap=>if (!decide (ap=901))=true then (Zcv ad (Sv N ae af ab kk_L4 ac ag) true) else ((Zo (aa.2.2.take (Int.toNat (i64.wrap (((aa.2.2.take aa.2.1).length:Int)+2)))) (i64.wrap (((aa.2.2.take (Int.toNat (i64.wrap (((aa.2.2.take aa.2.1).length:Int)+2)))).length:Int) - 1))).bind fun aq=>if (!decide (aq=904))=true then (Zcv ad (Sv N ae af ab kk_L4 ac ag) true) else ((Zo (aa.2.2.take (Int.toNat (i64.wrap (((aa.2.2.take aa.2.1).length:Int)+2)))) (i64.wrap (((aa.2.2.take (Int.toNat (i64.wrap (((aa.2.2.take aa.2.1).length:Int)+2)))).length:Int) - 2))).bind fun ar=>Zcv ad (Sv N ae af ab kk_L4 ac ag) (!decide (ar=903))))))))) else ((Zo ae.2.2.2.2 ab).bind fun ak=>Z1 ((0:Int)≤(i64.wrap ((ac.length:Int)+2))∧(i64.wrap ((ac.length:Int)+2))≤(ak.2.length:Int)) ((Zo (ak.2.take (Int.toNat (i64.wrap ((ac.length:Int)+2)))) (ac.length:Int)).bind fun ah=>if (!decide (((ah.2.2.take ah.2.1).length:Int)=1))=true then (Zeq ab kk_L4 true) else ((Zo (ah.2.2.take ah.2.1) 0).bind fun au=>if (!decide (au=97))=true then (Zeq ab kk_L4 true) else ((Zo (ak.2.take (Int.toNat (i64.wrap ((ac.length:Int)+2)))) (i64.wrap ((ac.length:Int)+1))).bind fun ai=>if (!decide (((ai.2.2.take ai.2.1).length:Int)=1))=true then (Zeq ab kk_L4 true) else ((Zo (ai.2.2.take ai.2.1) 0).bind fun av=>Zeq ab kk_L4 (!decide (av=98)))))))
termination_by structural x=>x
def Qe (N:Nat) (ac:R3) (aa:R0):Nat→Int→Option Bool
  | 0,_=>none
  | af+1,ab=>if (decide (ab<(aa.2.2.2.2.length:Int)))=true then ((Zo aa.2.2.2.2 ab).bind fun ad=>(Zo ac.2.2.2.2 ab).bind fun ae=>if (!decide (((ae.2.take ae.1).length:Int)=(ad.length:Int)))=true then (some false) else (Sv N ac aa ab (Qe N ac aa af) ad N 0)) else (some true)
termination_by structural x=>x
def Zaf (N:Nat) (ab:R3) (aa:R0):Nat→Int→Option Bool
  | 0,_=>none
  | af+1,ac=>if (decide (ac<(aa.2.2.2.1.length:Int)))=true then ((Zo aa.2.2.2.1 ac).bind fun ad=>(Zo ab.2.2.2.1 ac).bind fun ae=>if (!decide (((ae.2.take ae.1).length:Int)=(ad.length:Int)))=true then (some false) else (Zes N ab aa ac (Zaf N ab aa af) ad N 0)) else (Qe N ab aa N 0)
termination_by structural x=>x
def Zer (N:Nat) (ac:R3) (aa:R0):Nat→Int→Option Bool
  | 0,_=>none
  | ae+1,ab=>if (decide (ab<(aa.2.2.1.length:Int)))=true then ((Zo ac.2.2.1 ab).bind fun ad=>(Zo aa.2.2.1 ab).bind fun af=>(Zez N ad.1 ad.2 af (⟨#[35,51]⟩) (⟨#[35,52]⟩)).bind fun ag=>if (!ag)=true then (some false) else ((Zer N ac aa ae) (i64.wrap (ab+1)))) else (Zaf N ac aa N 0)
termination_by structural x=>x
def Zcu (N:Nat) (aa:R3) (ab:R0) (ac:Bool):Option Bool:=
  if ac=true then (some false) else (Zer N aa ab N 0)
def Zhp (N:Nat) (aa:R3) (ab:R0):Option Bool:=
  if (!decide (aa.1=ab.1))=true then (Zcu N aa ab true) else (if (!decide ((aa.2.2.1.length:Int)=(ab.2.2.1.length:Int)))=true then (Zcu N aa ab true) else (if (!decide ((aa.2.2.2.1.length:Int)=(ab.2.2.2.1.length:Int)))=true then (Zcu N aa ab true) else (if (!decide ((aa.2.2.2.2.length:Int)=(ab.2.2.2.2.length:Int)))=true then (Zcu N aa ab true) else ((Zez N aa.2.1.1 aa.2.1.2 ab.2.1 (⟨#[35,49]⟩) (⟨#[35,50]⟩)).bind fun ac=>Zcu N aa ab (!ac)))))
theorem Zzl {N al am an ao ap aq ar au:Nat} {av aw ax ay az a0 a1 a2:Option Addr} {col:Zf} {w0:World} {ab:R3} {ac:R0} {r:Bool} (hm:Zhp N ab ac=some r) (cp:Sl Za.str col w0 av al ab.2.1.2) (b1:Sl (Za.view Za.str) col w0 aw am ab.2.2.1) (ba:Sl (Za.view (Za.int .i64)) col w0 ax an ab.2.2.2.1) (bb:Sl (Za.view (Za.pair (Za.pair Za.bool (Za.view (Za.int .u32))) (Za.view (Za.int .u32)))) col w0 ay ao ab.2.2.2.2) (cq:Sl Za.str col w0 az ap ac.2.1) (b2:Sl (Za.slice Za.str) col w0 a0 aq ac.2.2.1) (bi:Sl (Za.slice (Za.int .i64)) col w0 a1 ar ac.2.2.2.1) (bj:Sl (Za.slice (Za.pair (Za.pair Za.bool (Za.slice (Za.int .u32))) (Za.slice (Za.int .u32)))) col w0 a2 au ac.2.2.2.2):
    Calls Tryz.prog 19 #[(.agg #[.string ab.1,.slice av ((ab.2.1.2.take ab.2.1.1).length) al,.slice aw ab.2.2.1.length am,.slice ax ab.2.2.2.1.length an,.slice ay ab.2.2.2.2.length ao]),(.agg #[.string ac.1,.slice az ac.2.1.length ap,.slice a0 ac.2.2.1.length aq,.slice a1 ac.2.2.2.1.length ar,.slice a2 ac.2.2.2.2.length au])] w0 (fun e w'=>e= .returned ((.bool r))∧Below w0.heap.size w0 w'):=by
 refine Xi 4 (m:=283) func19 rfl rfl rfl rfl rfl ?_;rw [Zhp.eq_1] at hm;have aa:=St.start col w0;refine go ?_;refine Xd (col:=(Zi col)) 1 rfl ?_;intro a7 hc ee ef ad;refine Xd (col:=ee) 2 rfl ?_;intro a8 eg ea eb ae;refine Zfq rfl<|Zk<|Zy<|Zy ?_;replace cp:=cp.keep (Zj.start col w0);replace b1:=b1.keep (Zj.start col w0);replace ba:=ba.keep (Zj.start col w0);replace bb:=bb.keep (Zj.start col w0);replace cq:=cq.keep (Zj.start col w0);replace b2:=b2.keep (Zj.start col w0);replace bi:=bi.keep (Zj.start col w0);replace bj:=bj.keep (Zj.start col w0);replace aa:=(aa.grow ef).grow eb;replace ad:=ad.gr eb;refine Wp.cutK [2,3,1000000] (fun f b3=>∃ b4 cr,Zcu N ab ac cr=some r∧St w0 (Zi col) b4 b3∧Zn 27 1 b4 b3 a7 #[.string ab.1,.slice av ((ab.2.1.2.take ab.2.1.1).length) al,.slice aw ab.2.2.1.length am,.slice ax ab.2.2.2.1.length an,.slice ay ab.2.2.2.2.length ao]∧Zn 27 2 b4 b3 a8 #[.string ac.1,.slice az ac.2.1.length ap,.slice a0 ac.2.2.1.length aq,.slice a1 ac.2.2.2.1.length ar,.slice a2 ac.2.2.2.2.length au]∧[56].map f=[.bool cr]) ?_ ?_
 ·intro f b3 hJ;obtain ⟨b4,cr,hm,aa,ad,ae,hs⟩:=hJ;rw [Zcu.eq_1] at hm;refine .lL [56] hs ?_;refine Zq hm (fun hb hm=>go ?_) fun hb hm=>go ?_
  ·cases hm;exact ⟨rfl,rfl,aa.below⟩
  refine Z8 [2,3,1000000] (fun n f bp=>∃ ak cs bk,bk=n∧Zer N ab ac bk cs=some r∧St w0 (Zi col) ak bp∧Zn 27 1 ak bp a7 #[.string ab.1,.slice av ((ab.2.1.2.take ab.2.1.1).length) al,.slice aw ab.2.2.1.length am,.slice ax ab.2.2.2.1.length an,.slice ay ab.2.2.2.2.length ao]∧Zn 27 2 ak bp a8 #[.string ac.1,.slice az ac.2.1.length ap,.slice a0 ac.2.2.1.length aq,.slice a1 ac.2.2.2.1.length ar,.slice a2 ac.2.2.2.2.length au]∧[5].map f=[.int .i64 cs]) N ⟨_,0,_,rfl,hm,aa,ad,ae,rfl⟩ ?_;clear hm;intro n f bp hI;obtain ⟨ak,cs,bk,hn,hm,aa,ad,ae,hs⟩:=hI;subst hn;refine .lL [5] hs ?_
  cases bk with
  | zero=>rw [Zer.eq_1] at hm;cases hm
  | succ bk=>
   rw [Zer.eq_2] at hm;refine go ?_;refine Xc ae ?_;refine go ?_;refine Zq hm (fun hb hm=>go ?_) fun hb hm=>go ?_
   ·refine Wc (col:=ak) (by kernel_rfl) (by kernel_rfl)<|qF ⟨_,_,rfl⟩ ?_;refine qW (fun _ hC=>((ad.atN).nth (q:=2) rfl).gr (hC.bl ak)) ?_;refine go ?_;obtain ⟨eh,ct,hm⟩:=bZ hm;refine qI ct ((b1.ks aa).addr ct) ?_;obtain ⟨_,ei,ej⟩:=(b1.ks aa).atN ct;obtain ⟨⟨ek,el,rfl,cu⟩,_⟩:=ei;replace cu:Sl Za.str ak bp ek el eh.2:=cu;refine qW (fun _ hC=>ej.one.gr (hC.bl ak)) ?_;refine qF ⟨_,_,rfl⟩ ?_;refine qW (fun _ hC=>((ae.atN).nth (q:=2) rfl).gr (hC.bl ak)) ?_;refine go ?_;obtain ⟨hd,cv,hm⟩:=bZ hm;refine qI cv ((b2.ks aa).addr cv) ?_;obtain ⟨_,em,en⟩:=(b2.ks aa).atN cv;obtain ⟨⟨he,hf,rfl,eo⟩,_⟩:=em;refine qW (fun _ hC=>en.one.gr (hC.bl ak)) ?_;obtain ⟨ep,eq,hm⟩:=bZ hm;refine qc (v:=(.bool ep)) rfl (fun _ hC=>⟨_,_,Zu3 call82 rfl rfl rfl rfl,(Zq4 eq (cu.gr (hC.bl ak)) (eo.gr (hC.bl ak)):).mono fun _ _ h=>⟨h.1,hC.trans (.of_below h.2)⟩⟩) ?_;refine go ?_;refine Yf ?_;intro hg hC;replace hC:=hC.bl ak;replace ad:=ad.gr hC;replace ae:=ae.gr hC;replace aa:=aa.grow hC;refine Zq hm (fun hb hm=>go ?_) fun hb hm=>go ?_
    ·cases hm;exact ⟨rfl,rfl,aa.below⟩
    exact ⟨bk,by omega,rfl,⟨_,_,_,rfl,hm,aa,ad,ae,rfl⟩⟩
   refine Z8 [2,3,1000000] (fun n f b5=>∃ b6 bq bc,bc=n∧Zaf N ab ac bc bq=some r∧St w0 (Zi col) b6 b5∧Zn 27 1 b6 b5 a7 #[.string ab.1,.slice av ((ab.2.1.2.take ab.2.1.1).length) al,.slice aw ab.2.2.1.length am,.slice ax ab.2.2.2.1.length an,.slice ay ab.2.2.2.2.length ao]∧Zn 27 2 b6 b5 a8 #[.string ac.1,.slice az ac.2.1.length ap,.slice a0 ac.2.2.1.length aq,.slice a1 ac.2.2.2.1.length ar,.slice a2 ac.2.2.2.2.length au]∧[6].map f=[.int .i64 bq]) N ⟨_,0,_,rfl,hm,aa,ad,ae,rfl⟩ ?_;clear hm;intro n f b5 hI;obtain ⟨b6,bq,bc,hn,hm,aa,ad,ae,hs⟩:=hI;subst hn;refine .lL [6] hs ?_
   cases bc with
   | zero=>rw [Zaf.eq_1] at hm;cases hm
   | succ bc=>
    rw [Zaf.eq_2] at hm;refine go ?_;refine Xc ae ?_;refine go ?_;refine Zq hm (fun hb hm=>go ?_) fun hb hm=>go ?_
    ·refine Xc ae<|Xo rfl ?_;obtain ⟨bd,cw,hm⟩:=bZ hm;refine lI cw ((bi.ks aa).addr cw) ?_;obtain ⟨_,er,es⟩:=(bi.ks aa).atN cw;obtain ⟨⟨hh,hi,rfl,hj⟩,_⟩:=er;refine lW es.one<|go ?_;refine Xc ad<|Xo rfl ?_;obtain ⟨hk,cx,hm⟩:=bZ hm;refine lI cx ((ba.ks aa).addr cx) ?_;obtain ⟨_,et,eu⟩:=(ba.ks aa).atN cx;obtain ⟨⟨hl,ho,rfl,hp⟩,_⟩:=et;refine lW eu.one<|go ?_;refine Zq hm (fun hb hm=>go ?_) fun hb hm=>go ?_
     ·cases hm;exact ⟨rfl,rfl,aa.below⟩
     refine Z8 [2,3,6,7,1000000] (fun n f bm=>∃ aj cy bn,bn=n∧Zes N ab ac bq (Zaf N ab ac bc) bd bn cy=some r∧St w0 (Zi col) aj bm∧Zn 27 1 aj bm a7 #[.string ab.1,.slice av ((ab.2.1.2.take ab.2.1.1).length) al,.slice aw ab.2.2.1.length am,.slice ax ab.2.2.2.1.length an,.slice ay ab.2.2.2.2.length ao]∧Zn 27 2 aj bm a8 #[.string ac.1,.slice az ac.2.1.length ap,.slice a0 ac.2.2.1.length aq,.slice a1 ac.2.2.2.1.length ar,.slice a2 ac.2.2.2.2.length au]∧[8].map f=[.int .i64 cy]) N ⟨_,0,_,rfl,hm,aa,ad,ae,rfl⟩ ?_;clear hm;intro n f bm hI;obtain ⟨aj,cy,bn,hn,hm,aa,ad,ae,hs⟩:=hI;subst hn;refine .lL [8] hs ?_
     cases bn with
     | zero=>rw [Zes.eq_1] at hm;cases hm
     | succ bn=>
      rw [Zes.eq_2] at hm;refine go ?_;refine Zq hm (fun hb hm=>go ?_) fun hb hm=>go ?_
      ·refine Wc (col:=aj) (by kernel_rfl) (by kernel_rfl)<|qF ⟨_,_,rfl⟩ ?_;refine qW (fun _ hC=>((ad.atN).nth (q:=3) rfl).gr (hC.bl aj)) ?_;refine go ?_;obtain ⟨cz,c0,hm⟩:=bZ hm;refine qI c0 ((ba.ks aa).addr c0) ?_;obtain ⟨_,ew,ey⟩:=(ba.ks aa).atN c0;obtain ⟨⟨ez,e0,rfl,b7⟩,_⟩:=ew;replace b7:Sl (Za.int .i64) aj bm ez e0 cz.2:=b7;refine qW (fun _ hC=>ey.one.gr (hC.bl aj)) ?_;refine go ?_;obtain ⟨hq,c1,hm⟩:=bZ hm;refine qI c1 ((b7.take cz.1).addr c1)<|qW (fun _ hC=>((b7.take cz.1).gr (hC.bl aj)).atInt c1) ?_;refine qF ⟨_,_,rfl⟩ ?_;refine qW (fun _ hC=>((ae.atN).nth (q:=3) rfl).gr (hC.bl aj)) ?_;refine go ?_;obtain ⟨hr,c2,hm⟩:=bZ hm;refine qI c2 ((bi.ks aa).addr c2) ?_;obtain ⟨_,e1,e2⟩:=(bi.ks aa).atN c2;obtain ⟨⟨ht,hu,rfl,ec⟩,_⟩:=e1;refine qW (fun _ hC=>e2.one.gr (hC.bl aj)) ?_;refine go ?_;obtain ⟨hv,c3,hm⟩:=bZ hm;refine qI c3 (ec.addr c3)<|qW (fun _ hC=>(ec.gr (hC.bl aj)).atInt c3) ?_;refine go ?_;refine Yf ?_;intro hw hC;replace hC:=hC.bl aj;replace ad:=ad.gr hC;replace ae:=ae.gr hC;replace aa:=aa.grow hC;refine Zq hm (fun hb hm=>go ?_) fun hb hm=>go ?_
       ·cases hm;exact ⟨rfl,rfl,aa.below⟩
       exact ⟨bn,by omega,rfl,⟨_,_,_,rfl,hm,aa,ad,ae,rfl⟩⟩
      refine Xc ad<|Xo rfl ?_;obtain ⟨c4,c5,hm⟩:=bZ hm;refine lI c5 ((ba.ks aa).addr c5) ?_;obtain ⟨_,e3,e4⟩:=(ba.ks aa).atN c5;obtain ⟨⟨b8,b9,rfl,bg⟩,_⟩:=e3;replace bg:Sl (Za.int .i64) aj bm b8 b9 c4.2:=bg;refine lW e4.one<|go ?_;obtain ⟨c6,hm⟩:=Z3 hm;refine lv (v:=.slice b8 (Int.toNat (i64.wrap ((bd.length:Int)+2))) b9) rfl rfl (V1 underlying40 sizeOf3 rfl rfl c6.1 (by have:=bg.1.2;have:=c6.2;omega))<|.ld (d:=126) (v:=(.slice b8 ((c4.2.take (Int.toNat (i64.wrap ((bd.length:Int)+2)))).length) b9)) (congrArg (fun n=>Value.slice b8 n b9) (List.length_take_of_le (show (Int.toNat (i64.wrap ((bd.length:Int)+2)))≤c4.2.length by have:=c6.2;omega)).symm) ?_;refine Tt rfl<|Zk<|Zy ?_;refine Wp.cutK [2,3,6,1000000] (fun f ca=>∃ cb c7,Zj3 bq (Zaf N ab ac bc) c7=some r∧St w0 (Zi col) cb ca∧Zn 27 1 cb ca a7 #[.string ab.1,.slice av ((ab.2.1.2.take ab.2.1.1).length) al,.slice aw ab.2.2.1.length am,.slice ax ab.2.2.2.1.length an,.slice ay ab.2.2.2.2.length ao]∧Zn 27 2 cb ca a8 #[.string ac.1,.slice az ac.2.1.length ap,.slice a0 ac.2.2.1.length aq,.slice a1 ac.2.2.2.1.length ar,.slice a2 ac.2.2.2.2.length au]∧[139].map f=[.bool c7]) ?_ ?_
      ·intro f ca hJ;obtain ⟨cb,c7,hm,aa,ad,ae,hs⟩:=hJ;rw [Zj3.eq_1] at hm;refine .lL [139] hs ?_;refine Zq hm (fun hb hm=>go ?_) fun hb hm=>go ?_
       ·cases hm;exact ⟨rfl,rfl,aa.below⟩
       exact ⟨bc,by omega,rfl,⟨_,_,_,rfl,hm,aa,ad,ae,rfl⟩⟩
      refine go ?_;obtain ⟨hx,c8,hm⟩:=bZ hm;refine lI c8 ((bg.take (Int.toNat (i64.wrap ((bd.length:Int)+2)))).addr c8)<|lW ((bg.take (Int.toNat (i64.wrap ((bd.length:Int)+2)))).atInt c8) ?_;refine go ?_;refine Xv hm (fun c9 hm=>go ?_) fun c9 hm=>go ?_
      ·refine lV (.bool true) (Xj (congrArg Value.bool c9) rfl)<|Zk ?_;exact ⟨rfl,_,_,hm,aa,ad,ae,rfl⟩
      obtain ⟨e5,da,hm⟩:=bZ hm;refine lI da ((bg.take (Int.toNat (i64.wrap ((bd.length:Int)+2)))).addr da) ?_;refine go ?_;refine lW ((bg.take (Int.toNat (i64.wrap ((bd.length:Int)+2)))).atInt da)<|go ?_;refine lV (.bool (!decide (e5=(-96)))) (Xs (congrArg Value.bool c9) rfl)<|Zk ?_;exact ⟨rfl,_,_,hm,aa,ad,ae,rfl⟩
    refine Z8 [2,3,1000000] (fun n f cc=>∃ cd bo a9,a9=n∧Qe N ab ac a9 bo=some r∧St w0 (Zi col) cd cc∧Zn 27 1 cd cc a7 #[.string ab.1,.slice av ((ab.2.1.2.take ab.2.1.1).length) al,.slice aw ab.2.2.1.length am,.slice ax ab.2.2.2.1.length an,.slice ay ab.2.2.2.2.length ao]∧Zn 27 2 cd cc a8 #[.string ac.1,.slice az ac.2.1.length ap,.slice a0 ac.2.2.1.length aq,.slice a1 ac.2.2.2.1.length ar,.slice a2 ac.2.2.2.2.length au]∧[10].map f=[.int .i64 bo]) N ⟨_,0,_,rfl,hm,aa,ad,ae,rfl⟩ ?_;clear hm;intro n f cc hI;obtain ⟨cd,bo,a9,hn,hm,aa,ad,ae,hs⟩:=hI;subst hn;refine .lL [10] hs ?_
    cases a9 with
    | zero=>rw [Qe.eq_1] at hm;cases hm
    | succ a9=>
     rw [Qe.eq_2] at hm;refine go ?_;refine Xc ae ?_;refine go ?_;refine Zq hm (fun hb hm=>go ?_) fun hb hm=>go ?_
     ·refine Xc ae<|Xo rfl ?_;obtain ⟨ah,db,hm⟩:=bZ hm;refine lI db ((bj.ks aa).addr db) ?_;obtain ⟨_,e6,e7⟩:=(bj.ks aa).atN db;obtain ⟨⟨hy,hz,rfl,h0⟩,_⟩:=e6;refine lW e7.one<|go ?_;refine Xc ad<|Xo rfl ?_;obtain ⟨h1,dc,hm⟩:=bZ hm;refine lI dc ((bb.ks aa).addr dc) ?_;obtain ⟨_,e8,e9⟩:=(bb.ks aa).atN dc;obtain ⟨⟨h2,h3,rfl,h4⟩,_⟩:=e8;refine lW e9.one<|go ?_;refine Zq hm (fun hb hm=>go ?_) fun hb hm=>go ?_
      ·cases hm;exact ⟨rfl,rfl,aa.below⟩
      refine Z8 [10,11,2,3,1000000] (fun n f a4=>∃ a3 ce bh,bh=n∧Sv N ab ac bo (Qe N ab ac a9) ah bh ce=some r∧St w0 (Zi col) a3 a4∧Zn 27 1 a3 a4 a7 #[.string ab.1,.slice av ((ab.2.1.2.take ab.2.1.1).length) al,.slice aw ab.2.2.1.length am,.slice ax ab.2.2.2.1.length an,.slice ay ab.2.2.2.2.length ao]∧Zn 27 2 a3 a4 a8 #[.string ac.1,.slice az ac.2.1.length ap,.slice a0 ac.2.2.1.length aq,.slice a1 ac.2.2.2.1.length ar,.slice a2 ac.2.2.2.2.length au]∧[12].map f=[.int .i64 ce]) N ⟨_,0,_,rfl,hm,aa,ad,ae,rfl⟩ ?_;clear hm;intro n f a4 hI;obtain ⟨a3,ce,bh,hn,hm,aa,ad,ae,hs⟩:=hI;subst hn;refine .lL [12] hs ?_
      cases bh with
      | zero=>rw [Sv.eq_1] at hm;cases hm
      | succ bh=>
       rw [Sv.eq_2] at hm;refine go ?_;refine Zq hm (fun hb hm=>go ?_) fun hb hm=>go ?_
       ·refine Xc ad<|Xo rfl ?_;obtain ⟨dd,de,hm⟩:=bZ hm;refine lI de ((bb.ks aa).addr de) ?_;obtain ⟨_,fa,fb⟩:=(bb.ks aa).atN de;obtain ⟨⟨fc,fd,rfl,cf⟩,_⟩:=fa;replace cf:Sl (Za.pair (Za.pair Za.bool (Za.view (Za.int .u32))) (Za.view (Za.int .u32))) a3 a4 fc fd dd.2:=cf;refine lW fb.one<|Xo rfl ?_;obtain ⟨af,df,hm⟩:=bZ hm;refine lI df ((cf.take dd.1).addr df) ?_;obtain ⟨_,fe,ff⟩:=(cf.take dd.1).atN df;obtain ⟨_,_,rfl,fg,fh⟩:=Y5 fe;obtain ⟨_,_,rfl,fi,fj⟩:=Y5 fg;obtain ⟨rfl,_⟩:=fi;obtain ⟨⟨br,bs,rfl,a5⟩,_⟩:=fj;replace a5:Sl (Za.int .u32) a3 a4 br bs af.1.2.2:=a5;obtain ⟨⟨bt,bu,rfl,a6⟩,_⟩:=fh;replace a6:Sl (Za.int .u32) a3 a4 bt bu af.2.2:=a6;refine lV (.agg #[.bool af.1.1,.slice br ((af.1.2.2.take af.1.2.1).length) bs,.slice bt ((af.2.2.take af.2.1).length) bu]) (Xn isAgg47 sizeOf47 rfl rfl ff)<|Xf (col:=a3) #[.bool false,.slice none (([]:List Int).length) 0,.slice none (([]:List Int).length) 0] 3 zeroValue47 ?_;intro h5 h6 ag bv fk;refine Zw fk ?_;intro h7 bw fl bx;refine go ?_;refine Xh ⟨_,_,rfl⟩ ?_;refine Xh (Wi ⟨_,_,rfl⟩) ?_;refine lW ((((bx.atN).part 0 2 _ rfl)).nth (q:=1) rfl)<|Xh ⟨_,_,rfl⟩ ?_;refine Xh (Wi ⟨_,_,rfl⟩) ?_;refine lW ((((bx.atN).part 0 2 _ rfl)).nth (q:=1) rfl)<|go ?_;obtain ⟨dg,hm⟩:=Z3 hm;replace a5:=(a5.gr bv).kp bw;refine lv (v:=.slice br (Int.toNat (i64.wrap (((af.1.2.2.take af.1.2.1).length:Int)+2))) bs) rfl rfl (V1 underlying43 sizeOf79 rfl rfl dg.1 (by have:=a5.1.2;have:=dg.2;omega))<|.ld (d:=182) (v:=(.slice br ((af.1.2.2.take (Int.toNat (i64.wrap (((af.1.2.2.take af.1.2.1).length:Int)+2)))).length) bs)) (congrArg (fun n=>Value.slice br n bs) (List.length_take_of_le (show (Int.toNat (i64.wrap (((af.1.2.2.take af.1.2.1).length:Int)+2)))≤af.1.2.2.length by have:=dg.2;omega)).symm) ?_;refine go ?_;refine Xc bx<|Xc bx ?_;refine go ?_;obtain ⟨dh,hm⟩:=Z3 hm;replace a6:=(a6.gr bv).kp bw
        refine lv (v:=.slice bt (Int.toNat (i64.wrap (((af.2.2.take af.2.1).length:Int)+2))) bu) rfl rfl (V1 underlying43 sizeOf79 rfl rfl dh.1 (by have:=a6.1.2;have:=dh.2;omega))<|.ld (d:=189) (v:=(.slice bt ((af.2.2.take (Int.toNat (i64.wrap (((af.2.2.take af.2.1).length:Int)+2)))).length) bu)) (congrArg (fun n=>Value.slice bt n bu) (List.length_take_of_le (show (Int.toNat (i64.wrap (((af.2.2.take af.2.1).length:Int)+2)))≤af.2.2.length by have:=dh.2;omega)).symm) ?_;refine Tt rfl<|Zk<|Zy ?_;replace ad:=(ad.gr bv).kp bw;replace ae:=(ae.gr bv).kp bw;replace aa:=(aa.grow bv).kp bw fl;refine Wp.cutK [10,11,12,2,3,1000000] (fun f cg=>∃ ch di,Zcv ce (Sv N ab ac bo (Qe N ab ac a9) ah bh) di=some r∧St w0 (Zi col) ch cg∧Zn 27 1 ch cg a7 #[.string ab.1,.slice av ((ab.2.1.2.take ab.2.1.1).length) al,.slice aw ab.2.2.1.length am,.slice ax ab.2.2.2.1.length an,.slice ay ab.2.2.2.2.length ao]∧Zn 27 2 ch cg a8 #[.string ac.1,.slice az ac.2.1.length ap,.slice a0 ac.2.2.1.length aq,.slice a1 ac.2.2.2.1.length ar,.slice a2 ac.2.2.2.2.length au]∧[236].map f=[.bool di]) ?_ ?_
        ·intro f cg hJ;obtain ⟨ch,di,hm,aa,ad,ae,hs⟩:=hJ;rw [Zcv.eq_1] at hm;refine .lL [236] hs ?_;refine Zq hm (fun hb hm=>go ?_) fun hb hm=>go ?_
         ·cases hm;exact ⟨rfl,rfl,aa.below⟩
         exact ⟨bh,by omega,rfl,⟨_,_,_,rfl,hm,aa,ad,ae,rfl⟩⟩
        refine Wc (col:=ag) (by kernel_rfl) (by kernel_rfl)<|qv rfl (fun _ hC=>Xa isAgg47 sizeOf47 (bx.gr (hC.bl ag))) ?_;refine qF ⟨_,_,rfl⟩ ?_;refine qW (fun _ hC=>((ae.atN).nth (q:=4) rfl).gr (hC.bl ag)) ?_;refine go ?_;obtain ⟨h8,dj,hm⟩:=bZ hm;refine qI dj ((bj.ks aa).addr dj) ?_;obtain ⟨_,fm,fn⟩:=(bj.ks aa).atN dj;obtain ⟨⟨h9,ia,rfl,ed⟩,_⟩:=fm;refine qW (fun _ hC=>fn.one.gr (hC.bl ag)) ?_;refine go ?_;obtain ⟨dl,dm,hm⟩:=bZ hm;refine qI dm (ed.addr dm) ?_;obtain ⟨_,fp,fq⟩:=ed.atN dm;obtain ⟨_,_,rfl,fr,ft⟩:=Y5 fp;obtain ⟨_,_,rfl,fu,fv⟩:=Y5 fr;obtain ⟨rfl,_⟩:=fu;obtain ⟨⟨fw,fx,rfl,fy⟩,_⟩:=fv;obtain ⟨⟨fz,f0,rfl,f1⟩,_⟩:=ft;refine qv (v:=(.agg #[.bool dl.1.1,.slice fw dl.1.2.length fx,.slice fz dl.2.length f0])) rfl (fun _ hC=>Xn isAgg47 sizeOf47 rfl rfl (fq.gr (hC.bl ag))) ?_;obtain ⟨f2,f3,hm⟩:=bZ hm;refine qc (v:=(.bool f2)) rfl (fun _ hC=>⟨_,_,Zc6 call25 rfl rfl,(Zzo f3 ((a5.take af.1.2.1).gr (hC.bl ag)) ((a6.take af.2.1).gr (hC.bl ag)) (fy.gr (hC.bl ag)) (f1.gr (hC.bl ag)):).mono fun _ _ h=>⟨h.1,hC.trans (.of_below h.2)⟩⟩) ?_;refine go ?_;refine Xv hm (fun dn hm=>go ?_) fun dn hm=>go ?_
        ·refine qv (v:=(.bool true)) rfl (fun _ hC=>Xj (congrArg Value.bool dn) rfl) ?_;refine go ?_;refine qP 210 rfl rfl<|qP 210 rfl rfl<|qP 210 rfl rfl<|qP 210 rfl rfl<|qP 210 rfl rfl<|qP 210 rfl rfl<|qP 210 rfl rfl<|qv (v:=(.bool true)) rfl (fun _ hC=>Xj rfl rfl) ?_;refine go ?_;refine qP 219 rfl rfl<|qP 219 rfl rfl<|qP 219 rfl rfl<|qP 219 rfl rfl<|qP 219 rfl rfl<|qP 219 rfl rfl<|qP 219 rfl rfl<|qv (v:=(.bool true)) rfl (fun _ hC=>Xj rfl rfl) ?_;refine go ?_;refine qP 228 rfl rfl<|qP 228 rfl rfl<|qP 228 rfl rfl<|qP 228 rfl rfl<|qP 228 rfl rfl<|qP 228 rfl rfl<|qP 228 rfl rfl<|qv (v:=(.bool true)) rfl (fun _ hC=>Xj rfl rfl) ?_;refine Yf ?_;intro ib hC;replace hC:=hC.bl ag;replace ad:=ad.gr hC;replace ae:=ae.gr hC;replace aa:=aa.grow hC;exact ⟨rfl,_,_,hm,aa,ad,ae,rfl⟩
        obtain ⟨f4,dp,hm⟩:=bZ hm;refine qI dp ((a5.take (Int.toNat (i64.wrap (((af.1.2.2.take af.1.2.1).length:Int)+2)))).addr dp) ?_;refine go ?_;refine qW (fun _ hC=>((a5.take (Int.toNat (i64.wrap (((af.1.2.2.take af.1.2.1).length:Int)+2)))).gr (hC.bl ag)).atInt dp) ?_;refine go ?_;refine qv (v:=(.bool (!decide (f4=902)))) rfl (fun _ hC=>Xs (congrArg Value.bool dn) rfl) ?_;refine go ?_;refine Xv hm (fun dq hm=>go ?_) fun dq hm=>go ?_
        ·refine qv (v:=(.bool true)) rfl (fun _ hC=>Xj (congrArg Value.bool dq) rfl) ?_;refine go ?_;refine qP 219 rfl rfl<|qP 219 rfl rfl<|qP 219 rfl rfl<|qP 219 rfl rfl<|qP 219 rfl rfl<|qP 219 rfl rfl<|qP 219 rfl rfl<|qv (v:=(.bool true)) rfl (fun _ hC=>Xj rfl rfl) ?_;refine go ?_;refine qP 228 rfl rfl<|qP 228 rfl rfl<|qP 228 rfl rfl<|qP 228 rfl rfl<|qP 228 rfl rfl<|qP 228 rfl rfl<|qP 228 rfl rfl<|qv (v:=(.bool true)) rfl (fun _ hC=>Xj rfl rfl) ?_;refine Yf ?_;intro ic hC;replace hC:=hC.bl ag;replace ad:=ad.gr hC;replace ae:=ae.gr hC;replace aa:=aa.grow hC;exact ⟨rfl,_,_,hm,aa,ad,ae,rfl⟩
        obtain ⟨f5,dr,hm⟩:=bZ hm;refine qI dr ((a5.take (Int.toNat (i64.wrap (((af.1.2.2.take af.1.2.1).length:Int)+2)))).addr dr) ?_;refine go ?_;refine qW (fun _ hC=>((a5.take (Int.toNat (i64.wrap (((af.1.2.2.take af.1.2.1).length:Int)+2)))).gr (hC.bl ag)).atInt dr) ?_;refine go ?_;refine qv (v:=(.bool (!decide (f5=901)))) rfl (fun _ hC=>Xs (congrArg Value.bool dq) rfl) ?_;refine go ?_;refine Xv hm (fun ds hm=>go ?_) fun ds hm=>go ?_
        ·refine qv (v:=(.bool true)) rfl (fun _ hC=>Xj (congrArg Value.bool ds) rfl) ?_;refine go ?_;refine qP 228 rfl rfl<|qP 228 rfl rfl<|qP 228 rfl rfl<|qP 228 rfl rfl<|qP 228 rfl rfl<|qP 228 rfl rfl<|qP 228 rfl rfl<|qv (v:=(.bool true)) rfl (fun _ hC=>Xj rfl rfl) ?_;refine Yf ?_;intro id hC;replace hC:=hC.bl ag;replace ad:=ad.gr hC;replace ae:=ae.gr hC;replace aa:=aa.grow hC;exact ⟨rfl,_,_,hm,aa,ad,ae,rfl⟩
        obtain ⟨f6,dt,hm⟩:=bZ hm;refine qI dt ((a6.take (Int.toNat (i64.wrap (((af.2.2.take af.2.1).length:Int)+2)))).addr dt) ?_;refine go ?_;refine qW (fun _ hC=>((a6.take (Int.toNat (i64.wrap (((af.2.2.take af.2.1).length:Int)+2)))).gr (hC.bl ag)).atInt dt) ?_;refine go ?_;refine qv (v:=(.bool (!decide (f6=904)))) rfl (fun _ hC=>Xs (congrArg Value.bool ds) rfl) ?_;refine go ?_;refine Xv hm (fun du hm=>go ?_) fun du hm=>go ?_
        ·refine qv (v:=(.bool true)) rfl (fun _ hC=>Xj (congrArg Value.bool du) rfl) ?_;refine Yf ?_;intro ie hC;replace hC:=hC.bl ag;replace ad:=ad.gr hC;replace ae:=ae.gr hC;replace aa:=aa.grow hC;exact ⟨rfl,_,_,hm,aa,ad,ae,rfl⟩
        obtain ⟨f7,dv,hm⟩:=bZ hm;refine qI dv ((a6.take (Int.toNat (i64.wrap (((af.2.2.take af.2.1).length:Int)+2)))).addr dv) ?_;refine go ?_;refine qW (fun _ hC=>((a6.take (Int.toNat (i64.wrap (((af.2.2.take af.2.1).length:Int)+2)))).gr (hC.bl ag)).atInt dv) ?_;refine go ?_;refine qv (v:=(.bool (!decide (f7=903)))) rfl (fun _ hC=>Xs (congrArg Value.bool du) rfl) ?_;refine Yf ?_;intro ig hC;replace hC:=hC.bl ag;replace ad:=ad.gr hC;replace ae:=ae.gr hC;replace aa:=aa.grow hC;exact ⟨rfl,_,_,hm,aa,ad,ae,rfl⟩
       refine Xc ad<|Xo rfl ?_;obtain ⟨dw,dx,hm⟩:=bZ hm;refine lI dx ((bb.ks aa).addr dx) ?_;obtain ⟨_,f8,f9⟩:=(bb.ks aa).atN dx;obtain ⟨⟨ci,cj,rfl,ai⟩,_⟩:=f8;replace ai:Sl (Za.pair (Za.pair Za.bool (Za.view (Za.int .u32))) (Za.view (Za.int .u32))) a3 a4 ci cj dw.2:=ai;refine lW f9.one<|go ?_;obtain ⟨dy,hm⟩:=Z3 hm;refine lv (v:=.slice ci (Int.toNat (i64.wrap ((ah.length:Int)+2))) cj) rfl rfl (V1 underlying56 sizeOf47 rfl rfl dy.1 (by have:=ai.1.2;have:=dy.2;omega))<|.ld (d:=244) (v:=(.slice ci ((dw.2.take (Int.toNat (i64.wrap ((ah.length:Int)+2)))).length) cj)) (congrArg (fun n=>Value.slice ci n cj) (List.length_take_of_le (show (Int.toNat (i64.wrap ((ah.length:Int)+2)))≤dw.2.length by have:=dy.2;omega)).symm) ?_;refine Tt rfl<|Zk<|Zy ?_;refine Wp.cutK [10,2,3,1000000] (fun f ck=>∃ cl dz,Zeq bo (Qe N ab ac a9) dz=some r∧St w0 (Zi col) cl ck∧Zn 27 1 cl ck a7 #[.string ab.1,.slice av ((ab.2.1.2.take ab.2.1.1).length) al,.slice aw ab.2.2.1.length am,.slice ax ab.2.2.2.1.length an,.slice ay ab.2.2.2.2.length ao]∧Zn 27 2 cl ck a8 #[.string ac.1,.slice az ac.2.1.length ap,.slice a0 ac.2.2.1.length aq,.slice a1 ac.2.2.2.1.length ar,.slice a2 ac.2.2.2.2.length au]∧[282].map f=[.bool dz]) ?_ ?_
       ·intro f ck hJ;obtain ⟨cl,dz,hm,aa,ad,ae,hs⟩:=hJ;rw [Zeq.eq_1] at hm;refine .lL [282] hs ?_;refine Zq hm (fun hb hm=>go ?_) fun hb hm=>go ?_
        ·cases hm;exact ⟨rfl,rfl,aa.below⟩
        exact ⟨a9,by omega,rfl,⟨_,_,_,rfl,hm,aa,ad,ae,rfl⟩⟩
       refine go ?_;obtain ⟨d0,be,hm⟩:=bZ hm;refine lI be ((ai.take (Int.toNat (i64.wrap ((ah.length:Int)+2)))).addr be)<|Xh (Wi ((ai.take (Int.toNat (i64.wrap ((ah.length:Int)+2)))).addr be)) ?_;obtain ⟨_,ga,gb⟩:=(ai.take (Int.toNat (i64.wrap ((ah.length:Int)+2)))).atN be;obtain ⟨_,_,rfl,gc,gd⟩:=Y5 ga;obtain ⟨_,_,rfl,ge,gf⟩:=Y5 gc;obtain ⟨rfl,_⟩:=ge;obtain ⟨⟨ih,ii,rfl,ij⟩,_⟩:=gf;obtain ⟨⟨ik,il,rfl,im⟩,_⟩:=gd;refine lW ((gb).nth (q:=2) rfl)<|go ?_;refine Xv hm (fun d1 hm=>go ?_) fun d1 hm=>go ?_
       ·refine lV (.bool true) (Xj (congrArg Value.bool d1) rfl)<|Yo rfl<|lP 262 rfl rfl<|lP 262 rfl rfl<|lP 262 rfl rfl<|lP 262 rfl rfl<|lP 262 rfl rfl<|lP 262 rfl rfl<|lP 262 rfl rfl<|lP 262 rfl rfl<|lV (.bool true) (Xj rfl rfl)<|Yo rfl<|lP 272 rfl rfl<|lP 272 rfl rfl<|lP 272 rfl rfl<|lP 272 rfl rfl<|lP 272 rfl rfl<|lP 272 rfl rfl<|lP 272 rfl rfl<|lP 272 rfl rfl<|lP 272 rfl rfl<|lV (.bool true) (Xj rfl rfl)<|Zk ?_;exact ⟨rfl,_,_,hm,aa,ad,ae,rfl⟩
       refine lI be ((ai.take (Int.toNat (i64.wrap ((ah.length:Int)+2)))).addr be) ?_;refine go ?_;refine Xh (Wi ((ai.take (Int.toNat (i64.wrap ((ah.length:Int)+2)))).addr be)) ?_;refine go ?_;obtain ⟨_,gg,gh⟩:=(ai.take (Int.toNat (i64.wrap ((ah.length:Int)+2)))).atN be;obtain ⟨_,_,rfl,gi,gj⟩:=Y5 gg;obtain ⟨_,_,rfl,gk,gl⟩:=Y5 gi;obtain ⟨rfl,_⟩:=gk;obtain ⟨⟨io,ip,rfl,iq⟩,_⟩:=gl;obtain ⟨⟨gm,gp,rfl,cn⟩,_⟩:=gj;replace cn:Sl (Za.int .u32) a3 a4 gm gp d0.2.2:=cn;refine lW ((gh).nth (q:=2) rfl)<|go ?_;obtain ⟨gs,d2,hm⟩:=bZ hm;refine lI d2 ((cn.take d0.2.1).addr d2) ?_;refine go ?_;refine lW ((cn.take d0.2.1).atInt d2)<|go ?_;refine lV (.bool (!decide (gs=97))) (Xs (congrArg Value.bool d1) rfl)<|Yo rfl ?_;refine Xv hm (fun d3 hm=>go ?_) fun d3 hm=>go ?_
       ·refine lV (.bool true) (Xj (congrArg Value.bool d3) rfl)<|Yo rfl<|lP 272 rfl rfl<|lP 272 rfl rfl<|lP 272 rfl rfl<|lP 272 rfl rfl<|lP 272 rfl rfl<|lP 272 rfl rfl<|lP 272 rfl rfl<|lP 272 rfl rfl<|lP 272 rfl rfl<|lV (.bool true) (Xj rfl rfl)<|Zk ?_;exact ⟨rfl,_,_,hm,aa,ad,ae,rfl⟩
       obtain ⟨bz,bf,hm⟩:=bZ hm;refine lI bf ((ai.take (Int.toNat (i64.wrap ((ah.length:Int)+2)))).addr bf) ?_;refine go ?_;refine Xh (Wi ((ai.take (Int.toNat (i64.wrap ((ah.length:Int)+2)))).addr bf)) ?_;refine go ?_;obtain ⟨_,gt,gu⟩:=(ai.take (Int.toNat (i64.wrap ((ah.length:Int)+2)))).atN bf;obtain ⟨_,_,rfl,gv,gw⟩:=Y5 gt;obtain ⟨_,_,rfl,gx,gy⟩:=Y5 gv;obtain ⟨rfl,_⟩:=gx;obtain ⟨⟨ir,it,rfl,iu⟩,_⟩:=gy;obtain ⟨⟨iv,iw,rfl,ix⟩,_⟩:=gw;refine lW ((gu).nth (q:=2) rfl)<|go ?_;refine lV (.bool (!decide (((bz.2.2.take bz.2.1).length:Int)=1))) (Xs (congrArg Value.bool d3) rfl)<|Yo rfl ?_;refine Xv hm (fun d4 hm=>go ?_) fun d4 hm=>go ?_
       ·refine lV (.bool true) (Xj (congrArg Value.bool d4) rfl)<|Zk ?_;exact ⟨rfl,_,_,hm,aa,ad,ae,rfl⟩
       refine lI bf ((ai.take (Int.toNat (i64.wrap ((ah.length:Int)+2)))).addr bf) ?_;refine go ?_;refine Xh (Wi ((ai.take (Int.toNat (i64.wrap ((ah.length:Int)+2)))).addr bf)) ?_;refine go ?_;obtain ⟨_,gz,g0⟩:=(ai.take (Int.toNat (i64.wrap ((ah.length:Int)+2)))).atN bf;obtain ⟨_,_,rfl,g1,g2⟩:=Y5 gz;obtain ⟨_,_,rfl,g3,g4⟩:=Y5 g1;obtain ⟨rfl,_⟩:=g3;obtain ⟨⟨iy,iz,rfl,i0⟩,_⟩:=g4;obtain ⟨⟨g5,g6,rfl,co⟩,_⟩:=g2;replace co:Sl (Za.int .u32) a3 a4 g5 g6 bz.2.2:=co;refine lW ((g0).nth (q:=2) rfl)<|go ?_;obtain ⟨g7,d5,hm⟩:=bZ hm;refine lI d5 ((co.take bz.2.1).addr d5) ?_;refine go ?_;refine lW ((co.take bz.2.1).atInt d5)<|go ?_;refine lV (.bool (!decide (g7=98))) (Xs (congrArg Value.bool d4) rfl)<|Zk ?_;exact ⟨rfl,_,_,hm,aa,ad,ae,rfl⟩
     cases hm;exact ⟨rfl,rfl,aa.below⟩
 refine Wd<|Xc ad<|Xc ae ?_;refine go ?_;refine Xv hm (fun d6 hm=>go ?_) fun d6 hm=>go ?_
 ·refine lV (.bool true) (Xj (congrArg Value.bool d6) rfl)<|Yo rfl<|lP 31 rfl rfl<|lP 31 rfl rfl<|lP 31 rfl rfl<|lP 31 rfl rfl<|lP 31 rfl rfl<|lP 31 rfl rfl<|lP 31 rfl rfl<|lV (.bool true) (Xj rfl rfl)<|Yo rfl<|lP 40 rfl rfl<|lP 40 rfl rfl<|lP 40 rfl rfl<|lP 40 rfl rfl<|lP 40 rfl rfl<|lP 40 rfl rfl<|lP 40 rfl rfl<|lV (.bool true) (Xj rfl rfl)<|Yo rfl<|lP 49 rfl rfl<|lP 49 rfl rfl<|lP 49 rfl rfl<|lP 49 rfl rfl<|lP 49 rfl rfl<|lP 49 rfl rfl<|lV (.bool true) (Xj rfl rfl)<|Zk ?_;exact ⟨rfl,_,_,hm,aa,ad,ae,rfl⟩
 refine Xh ⟨_,_,rfl⟩ ?_;refine go ?_;refine lW ((ad.atN).nth (q:=2) rfl)<|go ?_;refine Xh ⟨_,_,rfl⟩ ?_;refine go ?_;refine lW ((ae.atN).nth (q:=2) rfl)<|go ?_;refine lV (.bool (!decide ((ab.2.2.1.length:Int)=(ac.2.2.1.length:Int)))) (Xs (congrArg Value.bool d6) rfl)<|Yo rfl ?_;refine Xv hm (fun d7 hm=>go ?_) fun d7 hm=>go ?_
 ·refine lV (.bool true) (Xj (congrArg Value.bool d7) rfl)<|Yo rfl<|lP 40 rfl rfl<|lP 40 rfl rfl<|lP 40 rfl rfl<|lP 40 rfl rfl<|lP 40 rfl rfl<|lP 40 rfl rfl<|lP 40 rfl rfl<|lV (.bool true) (Xj rfl rfl)<|Yo rfl<|lP 49 rfl rfl<|lP 49 rfl rfl<|lP 49 rfl rfl<|lP 49 rfl rfl<|lP 49 rfl rfl<|lP 49 rfl rfl<|lV (.bool true) (Xj rfl rfl)<|Zk ?_;exact ⟨rfl,_,_,hm,aa,ad,ae,rfl⟩
 refine Xh ⟨_,_,rfl⟩ ?_;refine go ?_;refine lW ((ad.atN).nth (q:=3) rfl)<|go ?_;refine Xh ⟨_,_,rfl⟩ ?_;refine go ?_;refine lW ((ae.atN).nth (q:=3) rfl)<|go ?_;refine lV (.bool (!decide ((ab.2.2.2.1.length:Int)=(ac.2.2.2.1.length:Int)))) (Xs (congrArg Value.bool d7) rfl)<|Yo rfl ?_;refine Xv hm (fun d8 hm=>go ?_) fun d8 hm=>go ?_
 ·refine lV (.bool true) (Xj (congrArg Value.bool d8) rfl)<|Yo rfl<|lP 49 rfl rfl<|lP 49 rfl rfl<|lP 49 rfl rfl<|lP 49 rfl rfl<|lP 49 rfl rfl<|lP 49 rfl rfl<|lV (.bool true) (Xj rfl rfl)<|Zk ?_;exact ⟨rfl,_,_,hm,aa,ad,ae,rfl⟩
 refine Xh ⟨_,_,rfl⟩ ?_;refine go ?_;refine lW ((ad.atN).nth (q:=4) rfl)<|go ?_;refine Xh ⟨_,_,rfl⟩ ?_;refine go ?_;refine lW ((ae.atN).nth (q:=4) rfl)<|go ?_;refine lV (.bool (!decide ((ab.2.2.2.2.length:Int)=(ac.2.2.2.2.length:Int)))) (Xs (congrArg Value.bool d8) rfl)<|Yo rfl ?_;refine Xv hm (fun d9 hm=>go ?_) fun d9 hm=>go ?_
 ·refine lV (.bool true) (Xj (congrArg Value.bool d9) rfl)<|Zk ?_;exact ⟨rfl,_,_,hm,aa,ad,ae,rfl⟩
 refine Xh ⟨_,_,rfl⟩ ?_;refine go ?_;refine lW ((ad.atN).nth (q:=1) rfl)<|go ?_;refine Xh ⟨_,_,rfl⟩ ?_;refine go ?_;refine lW ((ae.atN).nth (q:=1) rfl)<|go ?_;obtain ⟨g8,g9,hm⟩:=bZ hm;refine Zh (Zq4 g9 (cp.ks aa) (cq.ks aa)) ?_;rintro _ ha ⟨rfl,b0⟩;refine ⟨_,rfl,?_⟩;replace b0:Zg ea eg ea ha:=.of_below b0;refine go ?_;refine lV (.bool (!g8)) (Xs (congrArg Value.bool d9) rfl)<|Zk ?_;replace ad:=ad.gr b0;replace ae:=ae.gr b0;replace aa:=aa.grow b0;exact ⟨rfl,_,_,hm,aa,ad,ae,rfl⟩

end Go.Proofs.YtbmjpjhbankpoaaGreat
