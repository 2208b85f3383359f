/-
  What functions of the program compute, as plain Lean functions (m_..), and proofs that they compute it (c_..). Printed by a program of the author; no conditions.
-/
import Derived.Test.YtkhnlgdenkikoaaGreatLearnMostBFloat
import Derived.Test.YtkhnlgdenkikoaaGreatProg
import Derived.Test.YtkhnlgdenkikoaaGreatLearnMostBBrief
import Derived.Test.YtkhnlgdenkikoaaGreatLearnMostBThree
import Derived.Test.YtkhnlgdenkikoaaGreatLearnMostF2
set_option linter.unusedVariables false
set_option maxRecDepth 100000
set_option maxHeartbeats 2000000
namespace Go.Proofs.YtkhnlgdenkikoaaGreat
open Go Go.RowKit
open Go.IntKind (i8 i16 i32 i64 u8 u16 u32 u64)
open Go.Proofs.Tryz

def Zo6 (N:Nat) (aa:R8) (ab:R8):Option R8:=
  if (decide (aa.1=ab.1))=true then ((Zf9 N aa.2 ab.2).bind fun ag=>(Sg N aa.1 ag).bind fun ac=>some (ac.1,ac.2)) else ((Zcf N aa.2 ab.2).bind fun ad=>if ad.2=true then ((Sg N aa.1 ad.1).bind fun ae=>some (ae.1,ae.2)) else ((Zcf N ab.2 aa.2).bind fun ah=>(Sg N ab.1 ah.1).bind fun af=>some (af.1,af.2)))
theorem Z08 {N a3 a4:Nat} {a5 a6:Option Addr} {col:Ze} {w0:World} {ao ap r:R8} (c1:Nat) (hm:Zo6 N ao ap=some r) (ag:Sl (Za.int .u32) col w0 a5 a3 ao.2) (ah:Sl (Za.int .u32) col w0 a6 a4 ap.2):
    Calls prog 126 #[(.agg #[.bool ao.1,.slice a5 ao.2.length a3]),(.agg #[.bool ap.1,.slice a6 ap.2.length a4])] w0 (fun e w'=>∃ (col':Ze) (ra1:Option Addr) (rc2:Nat),e= .returned ((.agg #[.bool r.1,.slice ra1 r.2.length rc2]))∧Zh col w0 col' w'∧Zb (Za.int .u32) 95 c1 col' w' ra1 rc2 r.2):=by
 refine Y5 (m:=45) func126 rfl rfl rfl ?_;rw [Zo6.eq_1] at hm;have aa:=St.start col w0;refine go ?_;refine Xl (col:=(Zj col)) 1 rfl ?_;intro b3 b4 bf bg ad;refine Xl (col:=bf) 2 rfl ?_;intro b5 b6 bh a7 ac;refine Xg (col:=bh) #[.bool false,.slice none (([]:List Int).length) 0] 3 zeroValue37 ?_;intro b7 b8 ai aw ab;refine go ?_;refine Ya ⟨_,_,rfl⟩ ?_;replace ad:=(ad.gr a7).gr aw;refine lW ((ad.atN).nth (q:=0) rfl)<|Ya ⟨_,_,rfl⟩ ?_;replace ac:=ac.gr aw;refine lW ((ac.atN).nth (q:=0) rfl)<|go ?_;replace ag:=ag.keep (Zi.start col w0);replace ah:=ah.keep (Zi.start col w0);replace aa:=((aa.grow bg).grow a7).grow aw;refine Zo hm (fun hb hm=>?_) fun hb hm=>go ?_
 ·refine Zs<|Wh (col:=ai) [(0,1),(1,0),(2,1),(3,0),(4,1),(5,0),(6,3),(7,3),(8,2)] (by kernel_rfl) (by kernel_rfl)<|xF ⟨_,_,rfl⟩ ?_;refine xW (fun _ hC=>((ad.atN).nth (q:=0) rfl).gr (hC.bl ai)) ?_;refine xF ⟨_,_,rfl⟩ ?_;refine xW (fun _ hC=>((ad.atN).nth (q:=1) rfl).gr (hC.bl ai)) ?_;refine xF ⟨_,_,rfl⟩ ?_;refine xW (fun _ hC=>((ac.atN).nth (q:=1) rfl).gr (hC.bl ai)) ?_;refine xe rfl rfl ?_;intro b9 hC0;have hC:=hC0.bl ai;obtain ⟨ca,bi,hm⟩:=bZ hm;replace aa:=aa.grow hC;refine Zk (Z05 4 bi (ag.ks aa) (ah.ks aa)) ?_;rintro _ cb ⟨aj,cc,cd,rfl,ax,ay⟩;refine ⟨_,rfl,?_⟩;refine Zl<|Xo aj hC0 ax<|xe rfl rfl ?_;intro bj hC0;replace ab:=(ab.gr hC).gr ax;have hC:=hC0.bl aj;obtain ⟨ce,bk,hm⟩:=bZ hm;replace ay:=ay.gr hC;refine Zk (Zew 5 bk (ay.toSlF (Zd.int .u32))) ?_;rintro _ cf ⟨bm,cg,ch,rfl,af,ae⟩;refine ⟨_,rfl,?_⟩;replace ae:=ae.thaw (Z1 .u32) af ((Fz.refl (col:=aj)).froz 4) (by decide);replace af:=af.thawR (col:=aj);generalize Xe bj.heap.size aj bm=aq at *;refine Zl<|Xo aq hC0 af<|xe rfl rfl ?_;intro ci hC0;replace aa:=((aa.grow ax).grow hC).grow af;replace ab:=(ab.gr hC).gr af;have hC:=hC0.bl aq;replace ab:=ab.gr hC;refine Zz ab ?_;intro cj a8 bn az;refine Zl<|xk aq<|Y2 ?_;replace ae:=(ae.gr hC).kp a8;replace aa:=(aa.grow hC).kp a8 bn;intro ck hC;replace hC:=hC.bl aq;refine Vc ?_;cases hm;replace ae:=ae.gr hC;replace az:=az.gr hC;replace aa:=aa.grow hC;exact ⟨rfl,_,ra az.atN,_,_,_,rfl,aa.fin (cm [(5,c1)]),aa.fo ae⟩
 refine Xd ad<|Xd ac ?_;obtain ⟨ar,bo,hm⟩:=bZ hm;refine Zk (Zr6 6 bo (ag.ks aa) (ah.ks aa)) ?_;rintro _ bp ⟨a0,a9,ba,rfl,au,bq⟩;refine ⟨_,rfl,?_⟩;refine lM (.tuple #[.slice a9 ar.1.length ba,.bool ar.2])<|lV (.slice a9 ar.1.length ba) (Xk rfl rfl)<|lV (.bool ar.2) (Xk rfl rfl)<|go ?_;replace ad:=ad.gr au;replace ac:=ac.gr au;replace ab:=ab.gr au;replace aa:=aa.grow au;refine Zo hm (fun hb hm=>go ?_) fun hb hm=>go ?_
 ·refine Xd ad<|Yk rfl ?_;obtain ⟨cl,br,hm⟩:=bZ hm;refine Zk (Zew 7 br (bq.toSlF (Zd.int .u32))) ?_;rintro _ cn ⟨bs,co,cp,rfl,ak,al⟩;refine ⟨_,rfl,?_⟩;replace al:=al.thaw (Z1 .u32) ak ((Fz.refl (col:=a0)).froz 6) (by decide);replace ak:=ak.thawR (col:=a0);generalize Xe bp.heap.size a0 bs=cq at *;replace ab:=ab.gr ak;refine Zz ab ?_;intro cr bb bt bu;refine go ?_;cases hm;replace aa:=(aa.grow ak).kp bb bt;replace al:=al.kp bb;exact ⟨rfl,_,ra bu.atN,_,_,_,rfl,aa.fin (cm [(7,c1)]),aa.fo al⟩
 refine Xd ac<|Xd ad ?_;obtain ⟨av,bv,hm⟩:=bZ hm;refine Zk (Zr6 8 bv (ah.ks aa) (ag.ks aa)) ?_;rintro _ bw ⟨a1,bc,bd,rfl,a2,bx⟩;refine ⟨_,rfl,?_⟩;refine lM (.tuple #[.slice bc av.1.length bd,.bool av.2])<|lV (.slice bc av.1.length bd) (Xk rfl rfl)<|lV (.bool av.2) (Xk rfl rfl)<|go ?_;refine Ya ⟨_,_,rfl⟩ ?_;replace ac:=ac.gr a2;refine lW ((ac.atN).nth (q:=0) rfl)<|Yk rfl ?_;obtain ⟨cs,bz,hm⟩:=bZ hm;refine Zk (Zew 9 bz (bx.toSlF (Zd.int .u32))) ?_;rintro _ ct ⟨b0,cu,cv,rfl,am,an⟩;refine ⟨_,rfl,?_⟩;replace an:=an.thaw (Z1 .u32) am ((Fz.refl (col:=a1)).froz 8) (by decide);replace am:=am.thawR (col:=a1);generalize Xe bw.heap.size a1 b0=cw at *;replace ab:=(ab.gr a2).gr am;refine Zz ab ?_;intro cx be b1 b2;refine go ?_;cases hm;replace aa:=((aa.grow a2).grow am).kp be b1;replace an:=an.kp be;exact ⟨rfl,_,ra b2.atN,_,_,_,rfl,aa.fin (cm [(9,c1)]),aa.fo an⟩
def Zgi (N:Nat) (aa:R8):Option R8:=
  (Sg N aa.1 aa.2).bind fun ab=>some (ab.1,ab.2)
theorem Z1b {N ag:Nat} {ah:Option Addr} {col:Ze} {w0:World} {ab r:R8} (c1:Nat) (hm:Zgi N ab=some r) (ad:Sl (Za.int .u32) col w0 ah ag ab.2):
    Calls prog 179 #[(.agg #[.bool ab.1,.slice ah ab.2.length ag])] w0 (fun e w'=>∃ (col':Ze) (ra1:Option Addr) (rc2:Nat),e= .returned ((.agg #[.bool r.1,.slice ra1 r.2.length rc2]))∧Zh col w0 col' w'∧Zb (Za.int .u32) 95 c1 col' w' ra1 rc2 r.2):=by
 refine Y5 (m:=8) func179 rfl rfl rfl ?_;rw [Zgi.eq_1] at hm;have aa:=St.start col w0;refine go ?_;refine Xl (col:=(Zj col)) 1 rfl ?_;intro aq ar al am ac;refine Xg (col:=al) #[.bool false,.slice none (([]:List Int).length) 0] 2 zeroValue37 ?_;intro au av aw ai ae;refine go ?_;refine Ya ⟨_,_,rfl⟩ ?_;replace ac:=ac.gr ai;refine lW ((ac.atN).nth (q:=0) rfl)<|Xd ac ?_;obtain ⟨ax,an,hm⟩:=bZ hm;replace ad:=ad.keep (Zi.start col w0);replace aa:=(aa.grow am).grow ai;refine Zk (Zew 3 an (ad.ks aa)) ?_;rintro _ ay ⟨az,a0,a1,rfl,aj,af⟩;refine ⟨_,rfl,?_⟩;replace ae:=ae.gr aj;refine Zz ae ?_;intro a2 ak ao ap;refine go ?_;cases hm;replace aa:=(aa.grow aj).kp ak ao;replace af:=af.kp ak;exact ⟨rfl,_,ra ap.atN,_,_,_,rfl,aa.fin (cm [(3,c1)]),aa.fo af⟩
def Zpb (N:Nat) (aa:R8) (ab:List Int):Option R4:=
  (Zo2 N aa.2 ab).bind fun ac=>(Zlj N aa.2 ac).bind fun ae=>(Zlj N ab ac).bind fun af=>(Zgi N (aa.1,ae.1)).bind fun ad=>(Vn N af.1).bind fun ag=>some ((ad.1,ad.2),ag)
def Zo8 (N:Nat) (aa:R8):Option R8:=
  (Sg N (!aa.1) aa.2).bind fun ab=>some (ab.1,ab.2)
theorem Z1a {N ag:Nat} {ah:Option Addr} {col:Ze} {w0:World} {ab r:R8} (c1:Nat) (hm:Zo8 N ab=some r) (ad:Sl (Za.int .u32) col w0 ah ag ab.2):
    Calls prog 173 #[(.agg #[.bool ab.1,.slice ah ab.2.length ag])] w0 (fun e w'=>∃ (col':Ze) (ra1:Option Addr) (rc2:Nat),e= .returned ((.agg #[.bool r.1,.slice ra1 r.2.length rc2]))∧Zh col w0 col' w'∧Zb (Za.int .u32) 95 c1 col' w' ra1 rc2 r.2):=by
 refine Y5 (m:=9) func173 rfl rfl rfl ?_;rw [Zo8.eq_1] at hm;have aa:=St.start col w0;refine go ?_;refine Xl (col:=(Zj col)) 1 rfl ?_;intro aq ar al am ac;refine Xg (col:=al) #[.bool false,.slice none (([]:List Int).length) 0] 2 zeroValue37 ?_;intro au av aw ai ae;refine go ?_;refine Ya ⟨_,_,rfl⟩ ?_;replace ac:=ac.gr ai;refine lW ((ac.atN).nth (q:=0) rfl)<|go ?_;refine Xd ac ?_;obtain ⟨ax,an,hm⟩:=bZ hm;replace ad:=ad.keep (Zi.start col w0);replace aa:=(aa.grow am).grow ai;refine Zk (Zew 3 an (ad.ks aa)) ?_;rintro _ ay ⟨az,a0,a1,rfl,aj,af⟩;refine ⟨_,rfl,?_⟩;replace ae:=ae.gr aj;refine Zz ae ?_;intro a2 ak ao ap;refine go ?_;cases hm;replace aa:=(aa.grow aj).kp ak ao;replace af:=af.kp ak;exact ⟨rfl,_,ra ap.atN,_,_,_,rfl,aa.fin (cm [(3,c1)]),aa.fo af⟩
def Zo9 (N:Nat) (aa:R8) (ab:R8):Option R8:=
  (Zo8 N (ab.1,ab.2)).bind fun ac=>(Zo6 N (aa.1,aa.2) (ac.1,ac.2)).bind fun ad=>some (ad.1,ad.2)
theorem Z1d {N ar au:Nat} {av aw:Option Addr} {col:Ze} {w0:World} {af ag r:R8} (c1:Nat) (hm:Zo9 N af ag=some r) (aj:Sl (Za.int .u32) col w0 av ar af.2) (ak:Sl (Za.int .u32) col w0 aw au ag.2):
    Calls prog 198 #[(.agg #[.bool af.1,.slice av af.2.length ar]),(.agg #[.bool ag.1,.slice aw ag.2.length au])] w0 (fun e w'=>∃ (col':Ze) (ra1:Option Addr) (rc2:Nat),e= .returned ((.agg #[.bool r.1,.slice ra1 r.2.length rc2]))∧Zh col w0 col' w'∧Zb (Za.int .u32) 95 c1 col' w' ra1 rc2 r.2):=by
 refine Y5 (m:=9) func198 rfl rfl rfl ?_;rw [Zo9.eq_1] at hm;have aa:=St.start col w0;refine go ?_;refine Xl (col:=(Zj col)) 1 rfl ?_;intro a7 a8 az a0 al;refine Xl (col:=az) 2 rfl ?_;intro a9 ba a1 ax am;refine Xg (col:=a1) #[.bool false,.slice none (([]:List Int).length) 0] 3 zeroValue37 ?_;intro bb bc ah an ab;refine go ?_;refine Wh (col:=ah) [(0,0),(1,0),(2,3),(3,3),(4,2)] (by kernel_rfl) (by kernel_rfl) ?_;replace al:=(al.gr ax).gr an;refine xv rfl rfl (fun _ hC=>Z2 isAgg37 sizeOf37 (al.gr (hC.bl ah))) ?_;replace am:=am.gr an;refine xv rfl rfl (fun _ hC=>Z2 isAgg37 sizeOf37 (am.gr (hC.bl ah))) ?_;refine xe rfl rfl ?_;intro bd hC0;have hC:=hC0.bl ah;obtain ⟨be,a2,hm⟩:=bZ hm;replace ak:=ak.keep (Zi.start col w0);replace aa:=(((aa.grow a0).grow ax).grow an).grow hC;refine Zk (Z1a 4 a2 (ak.ks aa)) ?_;rintro _ bf ⟨ae,bg,bh,rfl,ao,ap⟩;refine ⟨_,rfl,?_⟩;refine Zl<|Xo ae hC0 ao<|xe rfl rfl ?_;intro a3 hC0;replace ab:=(ab.gr hC).gr ao;have hC:=hC0.bl ae;obtain ⟨bi,a4,hm⟩:=bZ hm;replace aj:=aj.keep (Zi.start col w0);replace aa:=(aa.grow ao).grow hC;replace ap:=ap.gr hC;refine Zk (Z08 5 a4 ((aj.ks aa).froz 4) (ap.toSlF (Zd.int .u32))) ?_;rintro _ bj ⟨a5,bk,bm,rfl,ad,ac⟩;refine ⟨_,rfl,?_⟩;replace ac:=ac.thaw (Z1 .u32) ad ((Fz.refl (col:=ae)).froz 4) (by decide);replace ad:=ad.thawR (col:=ae);generalize Xe a3.heap.size ae a5=ai at *;refine Zl<|Xo ai hC0 ad<|xe rfl rfl ?_;intro bn hC0;replace ab:=(ab.gr hC).gr ad;have hC:=hC0.bl ai;replace ab:=ab.gr hC;refine Zz ab ?_;intro bo ay a6 aq;refine Zl<|xk ai<|Y2 ?_;replace aa:=((aa.grow ad).grow hC).kp ay a6;replace ac:=(ac.gr hC).kp ay;intro bp hC;replace hC:=hC.bl ai;refine Vc ?_;cases hm;replace ac:=ac.gr hC;replace aq:=aq.gr hC;replace aa:=aa.grow hC;exact ⟨rfl,_,ra aq.atN,_,_,_,rfl,aa.fin (cm [(5,c1)]),aa.fo ac⟩
def Zgj (N:Nat) (aa:R8):Option Int:=
  (Zgi N (aa.1,aa.2)).bind fun ab=>if (decide ((ab.2.length:Int)=0))=true then (some 0) else (if ab.1=true then (some (-1)) else (some 1))
theorem Z1c {N ad:Nat} {ae:Option Addr} {col:Ze} {w0:World} {ab:R8} {r:Int} (hm:Zgj N ab=some r) (ac:Sl (Za.int .u32) col w0 ae ad ab.2):
    Calls prog 197 #[(.agg #[.bool ab.1,.slice ae ab.2.length ad])] w0 (fun e w'=>e= .returned ((.int .i64 r))∧Below w0.heap.size w0 w'):=by
 refine Xf 2 (m:=12) func197 rfl rfl rfl rfl rfl ?_;rw [Zgj.eq_1] at hm;have aa:=St.start col w0;refine go ?_;refine Xl (col:=(Zj col)) 1 rfl ?_;intro ap aq ar ag ah;refine go ?_;refine lV _ (Z2 isAgg37 sizeOf37 ah) ?_;obtain ⟨au,ai,hm⟩:=bZ hm;replace ac:=ac.keep (Zi.start col w0);replace aa:=aa.grow ag;refine Zk (Z1b 2 ai (ac.ks aa)) ?_;rintro _ av ⟨aj,aw,ax,rfl,ak,ay⟩;refine ⟨_,rfl,?_⟩;refine Xg (col:=aj) #[.bool false,.slice none (([]:List Int).length) 0] 3 zeroValue37 ?_;intro az a0 a1 al am;refine Zz am ?_;intro a2 an ao af;refine go ?_;refine Xd af ?_;refine go ?_;replace aa:=((aa.grow ak).grow al).kp an ao;refine Zo hm (fun hb hm=>go ?_) fun hb hm=>go ?_
 ·cases hm;exact ⟨rfl,rfl,aa.below⟩
 refine Xd af<|Zl ?_;refine Zo hm (fun hb hm=>go ?_) fun hb hm=>go ?_
 ·cases hm;exact ⟨rfl,rfl,aa.below⟩
 cases hm;exact ⟨rfl,rfl,aa.below⟩
def Zo7 (N:Nat) (aa:R8) (ab:R8):Option Int:=
  (Zo9 N (aa.1,aa.2) (ab.1,ab.2)).bind fun ac=>(Zgj N (ac.1,ac.2)).bind fun ad=>some ad
theorem Z09 {N ah ai:Nat} {aj ak:Option Addr} {col:Ze} {w0:World} {ab ac:R8} {r:Int} (hm:Zo7 N ab ac=some r) (ad:Sl (Za.int .u32) col w0 aj ah ab.2) (ae:Sl (Za.int .u32) col w0 ak ai ac.2):
    Calls prog 166 #[(.agg #[.bool ab.1,.slice aj ab.2.length ah]),(.agg #[.bool ac.1,.slice ak ac.2.length ai])] w0 (fun e w'=>e= .returned ((.int .i64 r))∧Below w0.heap.size w0 w'):=by
 refine Xf 4 (m:=9) func166 rfl rfl rfl rfl rfl ?_;rw [Zo7.eq_1] at hm;have aa:=St.start col w0;refine go ?_;refine Xl (col:=(Zj col)) 1 rfl ?_;intro ay az an ao af;refine Xl (col:=an) 2 rfl ?_;intro a0 a1 a2 al ap;refine go ?_;replace af:=af.gr al;refine lV _ (Z2 isAgg37 sizeOf37 af)<|lV _ (Z2 isAgg37 sizeOf37 ap) ?_;obtain ⟨a3,aq,hm⟩:=bZ hm;replace ad:=ad.keep (Zi.start col w0);replace ae:=ae.keep (Zi.start col w0);replace aa:=(aa.grow ao).grow al;refine Zk (Z1d 3 aq (ad.ks aa) (ae.ks aa)) ?_;rintro _ ar ⟨am,a4,a5,rfl,au,av⟩;refine ⟨_,rfl,?_⟩;obtain ⟨a6,aw,hm⟩:=bZ hm;refine Zk (Z1c aw (av.toSlF (Zd.int .u32))) ?_;rintro _ ax ⟨rfl,ag⟩;refine ⟨_,rfl,?_⟩;replace ag:Zh am ar am ax:=.of_below ag;refine go ?_;cases hm;replace aa:=(aa.grow au).grow ag;exact ⟨rfl,rfl,aa.below⟩
def Zpa (N:Nat) (aa:R4) (ab:R4):Option Int:=
  (Zlx N ((ab.1.1,ab.1.2),ab.2)).bind fun ag=>(Zly ag).bind fun ac=>(Zlv N (aa.1.1,aa.1.2) (ac.1,ac.2)).bind fun ad=>(Zlx N ((aa.1.1,aa.1.2),aa.2)).bind fun ah=>(Zly ah).bind fun ae=>(Zlv N (ab.1.1,ab.1.2) (ae.1,ae.2)).bind fun af=>(Zo7 N (ad.1,ad.2) (af.1,af.2)).bind fun ai=>some ai
theorem Z1e {N am a0 an a1:Nat} {ao a2 ap a3:Option Addr} {col:Ze} {w0:World} {ac ad:R4} {r:Int} (hm:Zpa N ac ad=some r) (ai:Sl (Za.int .u32) col w0 ao am ac.1.2) (aq:Sl (Za.int .u32) col w0 a2 a0 ac.2) (aj:Sl (Za.int .u32) col w0 ap an ad.1.2) (ar:Sl (Za.int .u32) col w0 a3 a1 ad.2):
    Calls prog 115 #[(.agg #[.bool ac.1.1,.slice ao ac.1.2.length am,.slice a2 ac.2.length a0]),(.agg #[.bool ad.1.1,.slice ap ad.1.2.length an,.slice a3 ad.2.length a1])] w0 (fun e w'=>e= .returned ((.int .i64 r))∧Below w0.heap.size w0 w'):=by
 refine Xf 4 (m:=18) func115 rfl rfl rfl rfl rfl ?_;rw [Zpa.eq_1] at hm;have aa:=St.start col w0;refine go ?_;refine Xl (col:=(Zj col)) 1 rfl ?_;intro bq br be bf ak;refine Xl (col:=be) 2 rfl ?_;intro bs bt ae a4 a5;refine go ?_;refine Wh (col:=ae) [(0,1),(1,0),(2,0),(6,1),(7,0),(8,0),(3,3),(4,3),(5,3),(9,3),(10,3),(11,3),(12,3),(13,1)] (by kernel_rfl) (by kernel_rfl)<|xF ⟨_,_,rfl⟩ ?_;replace ak:=ak.gr a4;refine xv (v:=(.agg #[.bool ac.1.1,.slice ao ac.1.2.length am])) rfl rfl (fun _ hC=>Wj isAgg37 sizeOf37 rfl rfl (((ak.atN).part 0 2 _ rfl).gr (hC.bl ae))) ?_;refine xv rfl rfl (fun _ hC=>Z2 isAgg39 sizeOf39 (a5.gr (hC.bl ae))) ?_;refine xF ⟨_,_,rfl⟩ ?_;refine xv (v:=(.agg #[.bool ad.1.1,.slice ap ad.1.2.length an])) rfl rfl (fun _ hC=>Wj isAgg37 sizeOf37 rfl rfl (((a5.atN).part 0 2 _ rfl).gr (hC.bl ae))) ?_;refine xv rfl rfl (fun _ hC=>Z2 isAgg39 sizeOf39 (ak.gr (hC.bl ae))) ?_;refine xe rfl rfl ?_;intro bu hC0;have hC:=hC0.bl ae;obtain ⟨bv,bg,hm⟩:=bZ hm;replace aj:=aj.keep (Zi.start col w0);replace ar:=ar.keep (Zi.start col w0);replace aa:=((aa.grow bf).grow a4).grow hC;refine Zk (Zr8 3 bg (aj.ks aa) (ar.ks aa)) ?_;rintro _ bw ⟨a6,bx,bz,rfl,a7,ag⟩;refine ⟨_,rfl,?_⟩;refine Zl<|Xo a6 hC0 a7<|xe rfl rfl ?_;intro b0 hC0;have hC:=hC0.bl a6;replace ag:=ag.gr hC;replace ag:=(ag).toSlF (Zd.int .u32);replace aa:=(aa.grow a7).grow hC;replace aa:=aa.froz 3 (by decide) (by decide);obtain ⟨b1,bh,hm⟩:=bZ hm;refine Zk (Zr9 bh ag) ?_;rintro _ b2 ⟨a8,b3,b4,rfl,a9,au⟩;refine ⟨_,rfl,?_⟩;refine Zl<|Xo a8 hC0 a9<|xe rfl rfl ?_;intro b5 hC0;have hC:=hC0.bl a8;obtain ⟨b6,bi,hm⟩:=bZ hm;replace ai:=ai.keep (Zi.start col w0);replace aa:=(aa.grow a9).grow hC;replace au:=au.gr hC;refine Zk (Zr7 4 bi (ai.ks aa) au) ?_;rintro _ b7 ⟨ba,b8,b9,rfl,bb,ab⟩;refine ⟨_,rfl,?_⟩;refine Zl<|Xo ba hC0 bb<|xe rfl rfl ?_;intro ca hC0;have hC:=hC0.bl ba;obtain ⟨cb,bj,hm⟩:=bZ hm;replace aq:=aq.keep (Zi.start col w0);replace aa:=(aa.grow bb).grow hC;refine Zk (Zr8 5 bj (ai.ks aa) (aq.ks aa)) ?_;rintro _ cc ⟨bc,cd,ce,rfl,av,ah⟩;refine ⟨_,rfl,?_⟩
 refine Zl<|Xo bc hC0 av<|xe rfl rfl ?_;intro cf hC0;replace ab:=(ab.gr hC).gr av;have hC:=hC0.bl bc;replace ab:=ab.gr hC;replace ab:=ab.froz 5 (by decide);replace ah:=ah.gr hC;replace ah:=(ah).toSlF (Zd.int .u32);replace aa:=(aa.grow av).grow hC;replace aa:=aa.froz 5 (by decide) (by decide);obtain ⟨cg,bk,hm⟩:=bZ hm;refine Zk (Zr9 bk ah) ?_;rintro _ ch ⟨bd,ci,cj,rfl,aw,ax⟩;refine ⟨_,rfl,?_⟩;refine Zl<|Xo bd hC0 aw<|xe rfl rfl ?_;intro ck hC0;have hC:=hC0.bl bd;obtain ⟨cl,bm,hm⟩:=bZ hm;replace aa:=(aa.grow aw).grow hC;replace ax:=ax.gr hC;refine Zk (Zr7 6 bm (aj.ks aa) ax) ?_;rintro _ cn ⟨af,co,cp,rfl,ay,az⟩;refine ⟨_,rfl,?_⟩;refine Zl<|Xo af hC0 ay<|xe rfl rfl ?_;intro bn hC0;replace ab:=((ab.gr aw).gr hC).gr ay;have hC:=hC0.bl af;obtain ⟨cq,bo,hm⟩:=bZ hm;replace ab:=ab.gr hC;replace az:=az.gr hC;refine Zk (Z09 bo ((ab.toSlF (Zd.int .u32)).froz 6) ((az.froz 4 (by decide)).toSlF (Zd.int .u32))) ?_;rintro _ bp ⟨rfl,al⟩;refine ⟨_,rfl,?_⟩;replace al:Zh af bn af bp:=.of_below al;refine Zl<|Xo af hC0 al<|xu rfl rfl (fun _=>Zqj rfl) ?_;refine Y2 ?_;replace aa:=((aa.grow ay).grow hC).grow al;intro cr hC;replace hC:=hC.bl af;refine Vc ?_;cases hm;replace aa:=aa.grow hC;exact ⟨rfl,rfl,aa.below⟩
def Zlw (N:Nat) (aa:Int):Option R8:=
  if (decide (0≤aa))=true then ((Zlp N (u64.wrap aa)).bind fun ad=>(Sg N false ad).bind fun ab=>some (ab.1,ab.2)) else ((Zlp N (u64.wrap (i64.wrap (-(i64.wrap (aa+1)))))).bind fun ae=>(Zf9 N ae [1]).bind fun af=>(Sg N true af).bind fun ac=>some (ac.1,ac.2))
def Zu1 (N:Nat) (ac:R8) (aa:R8):Option (R4×Int):=
  (Zgj N (aa.1,aa.2)).bind fun ad=>if (decide (ad=0))=true then (some (((false,([]:List Int)),([]:List Int)),11)) else ((Zpb N (!decide (ac.1=aa.1),ac.2) aa.2).bind fun ab=>some (((ab.1.1,ab.1.2),ab.2),0))
def Zu2 (N:Nat) (ad:Int) (ae:Int):Option (R4×Int):=
  (Zlw N ad).bind fun ab=>(Zlw N ae).bind fun ac=>(Zu1 N (ab.1,ab.2) (ac.1,ac.2)).bind fun aa=>some (((aa.1.1.1,aa.1.1.2),aa.1.2),aa.2)
def Zu3 (N:Nat) (ab:Int) (ac:Int):Option R4:=
  (Zu2 N ab ac).bind fun aa=>some ((aa.1.1.1,aa.1.1.2),aa.1.2)
theorem Zqx {N k:Nat} {neg:Bool} {m:List Int} (hm:Zn m) (hk:m.length≤k) (hr:Xh N k):Sg N neg m=some (Ye (Zy (neg,m))):=by
 obtain ⟨r1,r2⟩:=hr
 rw [Sg,Sr hm (by omega) (by omega),oB,Zjk]
 have e:decide (0<((Zg (Zc m)).length:Int))=decide (Zc m≠0):=by
  by_cases h:Zc m=0
  ·rw [h,W0];decide
  ·have:=S1 h
   rw [decide_eq_true (by omega),decide_eq_true h]
 cases neg
 ·rw [if_neg (by decide),Zgh,Bool.false_and]
 ·rw [if_pos rfl,Zgh,e,Bool.true_and]
theorem Zx0 {N k:Nat} {a:ZV} (hm:Zn a.2) (hk:a.2.length≤k) (hr:Xh N k):Zgi N a=some (Ye (Zy a)):=by
 rw [Zgi,Zqx hm hk hr];rfl
theorem Z59 {N k:Nat} {a:ZV} (hm:Zn a.2) (hk:a.2.length≤k) (hr:Xh N k):Zgj N a=some (Zy a).sign:=by
 rw [Zgj,Zx0 hm hk hr,oB,Ye]
 generalize Zy a=z
 by_cases h:z=0
 ·subst h;rw [Int.natAbs_zero,W0,if_pos (by decide)];rfl
 ·have:=S1 (n:=z.natAbs) (by omega)
  rw [if_neg (dF (by simp only;omega))]
  by_cases h2:z<0
  ·rw [if_pos (dT h2),Int.sign_eq_neg_one_of_neg h2]
  ·rw [if_neg (fun hc=>h2 (of_decide_eq_true hc)),Int.sign_eq_one_of_pos (by omega)]
theorem Zx2 {N:Nat} {z:Int} (h:-9223372036854775808≤z∧z≤9223372036854775807) (hr:Xh N 4):Zlw N z=some (Ye z):=by
 have hr':=hr
 obtain ⟨r1,r2⟩:=hr'
 have l2:∀ n:Nat,n<18446744073709551616→(Zg n).length≤2:=fun n hn=>Wq.2 (by simpa using hn)
 have l1:Zn [1]:=.cons (by decide) .nil
 rw [Zlw]
 by_cases hz:0≤z
 ·rw [if_pos (dT hz),Xj (by omega),Zx3 (by omega) (by omega),oB,Zqx (Xa _) (l2 _ (by omega)) (hr.mono (by omega)),oB]
  have e2:Zy (false,Zg z.toNat)=z:=by simp only [Zy,Z8];simp;omega
  rw [e2]
 ·have hl3:=l2 (-z - 1).toNat (by omega)
  have e:u64.wrap (i64.wrap (-i64.wrap (z+1)))= -z - 1:=by rw [Z0 (x:=z+1) (by omega),Z0 (by omega),Xj (by omega)];omega
  rw [if_neg (dF hz),e,Zx3 (by omega) (by omega),oB,Z5u (Xa _) l1 (by simp only [List.length_singleton];omega) (by simp only [List.length_singleton];omega),oB,Z8,Y7,Yt,Zqx (k:=4) (Xa _) (by
   have:=l2 ((-z - 1).toNat+((1:Int).toNat+4294967296 * 0)) (by omega)
   omega) hr,oB]
  have e2:Zy (true,Zg ((-z - 1).toNat+((1:Int).toNat+4294967296 * 0)))=z:=by simp only [Zy,Z8,if_true];omega
  rw [e2]
theorem Z54 {N k l:Nat} {num:ZV} {den:List Int} (hn:Zn num.2) (hd:Zn den) (h0:Zc den≠0) (hk:num.2.length≤k) (hl:den.length≤l) (hr:Xh N (k+l)):
  Zpb N num den=some (Zw (mkRat (Zy num) (Zc den))):=by
 have hr':=hr
 obtain ⟨r1,r2⟩:=hr'
 have l1:=Yx hn
 have l2:=Yx hd
 have hg:Nat.gcd (Zc num.2) (Zc den)≠0:=fun h=>h0 (Nat.gcd_eq_zero_iff.1 h).2
 have lg:(Zg (Nat.gcd (Zc num.2) (Zc den))).length≤den.length:=Nat.le_trans (Vu (Nat.gcd_le_right _ (by omega))) l2
 have lq:=Vu (Nat.div_le_self (Zc num.2) (Nat.gcd (Zc num.2) (Zc den)))
 have ld:=Vu (Nat.div_le_self (Zc den) (Nat.gcd (Zc num.2) (Zc den)))
 obtain ⟨g,g1,g2,g3,g4⟩:=Z53 (N:=N) (M:=k+l) hn hd (by omega) (by omega) (by omega) (by omega)
 rw [Zpb,g1,oB,Zxl hn g2 (by rw [g3];omega) (by omega) (by rw [g3];omega) (by omega),oB,Zxl hd g2 (by rw [g3];omega) (by omega) (by rw [g3];omega) (by omega),oB,g3,if_neg hg,if_neg hg,
  Zx0 (k:=k) (a:=(num.1,Zg (Zc num.2 / Nat.gcd (Zc num.2) (Zc den)))) (Xa _) (by simp only;omega) (hr.mono (by omega)),oB,Sr (Xa _) (by omega) (by omega),oB,Zvu (neg:=num.1) h0,Zjk,Z8,Z8]
theorem Z60 {N:Nat} {a b:Int} (h:-9223372036854775808≤a∧a≤9223372036854775807) (g:0<b∧b≤9223372036854775807) (hr:Xh N 8):Zu3 N a b=some (Zw ((a:Rat) / (b:Rat))):=by
 have l2:∀ z:Int,-9223372036854775808≤z∧z≤9223372036854775807→(Ye z).2.length≤2:=fun z hz=>Wq.2 (by simp;omega)
 have la:=l2 a h
 have lb:=l2 b (by omega)
 have hb0:Zc (Ye b).2≠0:=by rw [Zos,Z8];omega
 have e:=Zpv (Zy (Ye a)) 1 (Ye b) 1 (Ye a).1 (Ye a).2 rfl hb0
 rw [Zu3,Zu2,Zx2 h (hr.mono (by omega)),oB,Zx2 (by omega) (hr.mono (by omega)),oB,Zu1,Z59 (a:=Ye b) (Qs _) lb (hr.mono (by omega)),oB,Qj,Int.sign_eq_one_of_pos g.1,if_neg (by decide),Z54 (num:=(!decide ((Ye a).1=(Ye b).1),(Ye a).2)) (Qs _) (Qs _) hb0 la lb (hr.mono (by omega)),oB,oB,oB]
 rw [Rat.mkRat_eq_div,Rat.mkRat_eq_div,Qj,Qj] at e
 have e1:(a:Rat) / ((1:Nat):Rat) / ((b:Rat) / ((1:Nat):Rat))=(a:Rat) / (b:Rat):=by
  have h1:((1:Nat):Rat)=1:=rfl
  have h2:(1:Rat)⁻¹=1:=Rat.inv_eq_of_mul_eq_one (by grind)
  simp only [h1,Rat.div_def,h2,Rat.mul_one]
 rw [e1,Nat.one_mul,Nat.mul_one] at e
 rw [e]
 have e2:Zy (!decide ((Ye a).1=(Ye b).1),Zg (Zc (Ye a).2))=Zy (!decide ((Ye a).1=(Ye b).1),(Ye a).2):=by simp only [Zy,Z8]
 rw [e2]
theorem div_one (a:Rat):a / 1=a:=by
 have h2:(1:Rat)⁻¹=1:=Rat.inv_eq_of_mul_eq_one (by grind)
 rw [Rat.div_def,h2,Rat.mul_one]
def Zef (ab:ByteArray):List ByteArray→Nat→Option Int
  | [],aa=>some (-1)
  | ac :: ad,aa=>if (decide (ab=ac))=true then (some (aa:Int)) else ((Zef ab ad) (aa+1))
termination_by structural x=>x
def Zmi (aa:List ByteArray) (ab:ByteArray):Option Int:=
  Zef ab aa 0
theorem Z11 {ag:Nat} {a0:Option Addr} {col:Ze} {w0:World} {ab:R6} {ae:ByteArray} {r:Int} (hm:Zmi ab ae=some r) (h0:Sl Za.str col w0 a0 ag ab):
    Calls prog 195 #[.slice a0 ab.length ag,.string ae] w0 (fun e w'=>e= .returned ((.int .i64 r))∧Below w0.heap.size w0 w'):=by
 refine Xf 4 (m:=19) func195 rfl rfl rfl rfl rfl ?_;rw [Zmi.eq_1] at hm;have aa:=St.start col w0;refine go ?_;refine Zu [0,1,7,1000000] (fun n f ah=>∃ ai ac ad,n=ad.length∧ab.drop ac=ad∧Zef ae ad ac=some r∧St w0 (Zj col) ai ah∧[8].map f=[.int .i64 ac]) ab.length ⟨_,0,_,rfl,rfl,hm,aa,rfl⟩ ?_;clear hm;intro n f ah hI;obtain ⟨ai,ac,ad,hn,hl,hm,aa,hs⟩:=hI;subst hn;refine .lL [8] hs ?_;replace h0:=h0.keep (Zi.start col w0)
 cases ad with
 | nil=>
  have hk:¬ ((ac:Int)<(ab.length:Int)):=by have:=List.drop_eq_nil_iff.1 hl;omega
  have hkb:=decide_eq_false hk;rw [Zef.eq_1] at hm;refine go ?_;refine Xs (congrArg Value.bool hkb)<|go ?_;cases hm;exact ⟨rfl,rfl,aa.below⟩
 | cons am aj=>
  obtain ⟨af,ak,al⟩:=X3 hl;have hk:(ac:Int)<(ab.length:Int):=by omega
  have hkb:=decide_eq_true hk;rw [Zef.eq_2] at hm;refine go ?_;refine Xt (congrArg Value.bool hkb)<|go ?_;refine lI af ((h0.ks aa).addr af)<|lW ((h0.ks aa).atStr af) ?_;refine go ?_;refine Zo hm (fun hb hm=>go ?_) fun hb hm=>go ?_
  ·cases hm;exact ⟨rfl,rfl,aa.below⟩
  exact ⟨aj.length,by simp,rfl,⟨_,_,_,rfl,ak,hm,aa,(X5 (congrArg (Value.int .i64) (X2 (Nat.lt_of_lt_of_le al (h0.ks aa).1.1))) rfl)⟩⟩
def Zjb (aa:List ByteArray) (ab:ByteArray):Option Bool:=
  (Zmi aa ab).bind fun ac=>some (decide (0≤ac))
theorem Z1y {ad:Nat} {a0:Option Addr} {col:Ze} {w0:World} {ab:R6} {ae:ByteArray} {r:Bool} (hm:Zjb ab ae=some r) (h0:Sl Za.str col w0 a0 ad ab):
    Calls prog 159 #[.slice a0 ab.length ad,.string ae] w0 (fun e w'=>e= .returned ((.bool r))∧Below w0.heap.size w0 w'):=by
 refine Xf 4 (m:=9) func159 rfl rfl rfl rfl rfl ?_;rw [Zjb.eq_1] at hm;have aa:=St.start col w0;refine go ?_;obtain ⟨ah,af,hm⟩:=bZ hm;replace h0:=h0.keep (Zi.start col w0);refine Zk (Z11 af (h0.ks aa)) ?_;rintro _ ag ⟨rfl,ac⟩;refine ⟨_,rfl,?_⟩;replace ac:Zh (Zj col) w0 (Zj col) ag:=.of_below ac;refine go ?_;cases hm;replace aa:=aa.grow ac;exact ⟨rfl,rfl,aa.below⟩
def Zb9:List ByteArray→(List (ByteArray×Int))→Option Bool
  | [],aa=>some false
  | ab :: ac,aa=>if (decide (0<((Wi aa ab).getD 0)))=true then (some true) else ((some (Sh aa ab 1)).bind fun ad=>(Zb9 ac) ad)
termination_by structural x=>x
def Zid (aa:List ByteArray):Option Bool:=
  Zb9 aa ([]:List (ByteArray×Int))
theorem Z0x {al:Nat} {a0:Option Addr} {col:Ze} {w0:World} {ab:R6} {r:Bool} (hm:Zid ab=some r) (h0:Sl Za.str col w0 a0 al ab):
    Calls prog 160 #[.slice a0 ab.length al] w0 (fun e w'=>e= .returned ((.bool r))∧Below w0.heap.size w0 w'):=by
 refine Xf 2 (m:=20) func160 rfl rfl rfl rfl rfl ?_;rw [Zid.eq_1] at hm;have aa:=St.start col w0;refine go ?_;refine Z3v (col:=(Zj col)) (fk:=Value.string) (fv:=(Value.int .i64)) 1 rfl ?_;intro ay az a1 ao ap;refine go ?_;replace aa:=aa.grow ao;refine Zu [7,8,1000000] (fun n f af=>∃ ag ah ac ad ae,n=ae.length∧ab.drop ad=ae∧Zb9 ae ac=some r∧St w0 (Zj col) ag af∧Ve Value.string (Value.int .i64) 1 ag af ah ac∧[9,3].map f=[.int .i64 ad,.map (some ah)]) ab.length ⟨_,_,_,0,_,rfl,rfl,hm,aa,ap,rfl⟩ ?_;clear hm;intro n f af hI;obtain ⟨ag,ah,ac,ad,ae,hn,hl,hm,aa,am,hs⟩:=hI;subst hn;refine .lL [9,3] hs ?_;replace h0:=h0.keep (Zi.start col w0)
 cases ae with
 | nil=>
  have hk:¬ ((ad:Int)<(ab.length:Int)):=by have:=List.drop_eq_nil_iff.1 hl;omega
  have hkb:=decide_eq_false hk;rw [Zb9.eq_1] at hm;refine go ?_;refine Xs (congrArg Value.bool hkb)<|go ?_;cases hm;exact ⟨rfl,rfl,aa.below⟩
 | cons ai aq=>
  obtain ⟨aj,ar,au⟩:=X3 hl;have hk:(ad:Int)<(ab.length:Int):=by omega
  have hkb:=decide_eq_true hk;rw [Zb9.eq_2] at hm;refine go ?_;refine Xt (congrArg Value.bool hkb)<|go ?_;refine lI aj ((h0.ks aa).addr aj)<|lW ((h0.ks aa).atStr aj) ?_;refine go ?_;refine lV (.int .i64 ((Wi ac ai).getD 0)) (Zxb Ty.str am underlying195 underlying9 zeroValue3 rfl rfl)<|go ?_;refine Zo hm (fun hb hm=>go ?_) fun hb hm=>go ?_
  ·cases hm;exact ⟨rfl,rfl,aa.below⟩
  obtain ⟨av,ak,hm⟩:=bZ hm;have ak:av=Sh ac ai 1:=(Option.some.inj ak).symm;refine Zud (k:=ai) (v:=1) Ty.str am underlying195 underlying9 rfl rfl rfl ?_;intro a2 aw ax an;rw [← ak] at an;refine go ?_;replace aa:=aa.kp aw ax;exact ⟨aq.length,by simp,rfl,⟨_,_,_,_,_,rfl,ar,hm,aa,an,(X5 (congrArg (Value.int .i64) (X2 (Nat.lt_of_lt_of_le au (h0.ks aa).1.1))) rfl)⟩⟩
def Zfx (ab:R0) (aa:Nat) (kk_L1:(Nat→Option Int)) (ac:Bool):Option Int:=
  if ac=true then (some 40) else ((Zm ab.2.2.1 (aa:Int)).bind fun ad=>if (decide ((ad.length:Int)=0))=true then (some 43) else (kk_L1 (aa+1)))
def Zaz (aa:R0):List ByteArray→Nat→Option Int
  | [],ab=>some 0
  | ad :: ac,ab=>Zt ((0:Int)≤(ab:Int)∧(ab:Int)≤(aa.2.1.length:Int)) ((Zjb (aa.2.1.take (Int.toNat (ab:Int))) ad).bind fun ae=>if ae=true then (Zfx aa ab (Zaz aa ac) true) else ((Zm aa.2.2.1 (ab:Int)).bind fun af=>(Zid af).bind fun ag=>Zfx aa ab (Zaz aa ac) ag))
termination_by structural x=>x
def Zdn (aa:R0):Option Int:=
  Zaz aa aa.2.1 0
theorem Z0u {ae ak al am:Nat} {af an ao ap:Option Addr} {col:Ze} {w0:World} {aa:R0} {r:Int} (hm:Zdn aa=some r) (ag:Sl Za.str col w0 af ae aa.2.1) (ai:Sl (Za.slice Za.str) col w0 an ak aa.2.2.1) (bi:Sl (Za.slice (Za.int .i64)) col w0 ao al aa.2.2.2.1) (bj:Sl (Za.slice (Za.pair (Za.pair Za.bool (Za.slice (Za.int .u32))) (Za.slice (Za.int .u32)))) col w0 ap am aa.2.2.2.2):
    Calls prog 85 #[(.agg #[.string aa.1,.slice af aa.2.1.length ae,.slice an aa.2.2.1.length ak,.slice ao aa.2.2.2.1.length al,.slice ap aa.2.2.2.2.length am])] w0 (fun e w'=>e= .returned ((.int .i64 r))∧Below w0.heap.size w0 w'):=by
 refine Xf 2 (m:=37) func85 rfl rfl rfl rfl rfl ?_;rw [Zdn.eq_1] at hm;have ab:=St.start col w0;refine go ?_;refine Xl (col:=(Zj col)) 1 rfl ?_;intro a3 bk bm a6 ac;refine go ?_;refine Xd ac ?_;refine go ?_;replace ab:=ab.grow a6;refine Zu [1,6,7,1000000] (fun n f aq=>∃ ah ad aj,n=aj.length∧aa.2.1.drop ad=aj∧Zaz aa aj ad=some r∧St w0 (Zj col) ah aq∧Zf 27 1 ah aq a3 #[.string aa.1,.slice af aa.2.1.length ae,.slice an aa.2.2.1.length ak,.slice ao aa.2.2.2.1.length al,.slice ap aa.2.2.2.2.length am]∧[8].map f=[.int .i64 ad]) aa.2.1.length ⟨_,0,_,rfl,rfl,hm,ab,ac,rfl⟩ ?_;clear hm;intro n f aq hI;obtain ⟨ah,ad,aj,hn,hl,hm,ab,ac,hs⟩:=hI;subst hn;refine .lL [8] hs ?_;replace ag:=ag.keep (Zi.start col w0);replace ai:=ai.keep (Zi.start col w0)
 cases aj with
 | nil=>
  have hk:¬ ((ad:Int)<(aa.2.1.length:Int)):=by have:=List.drop_eq_nil_iff.1 hl;omega
  have hkb:=decide_eq_false hk;rw [Zaz.eq_1] at hm;refine go ?_;refine Xs (congrArg Value.bool hkb)<|go ?_;cases hm;exact ⟨rfl,rfl,ab.below⟩
 | cons bn a4=>
  obtain ⟨av,a7,a8⟩:=X3 hl;have hk:(ad:Int)<(aa.2.1.length:Int):=by omega
  have hkb:=decide_eq_true hk;rw [Zaz.eq_2] at hm;refine go ?_;refine Xt (congrArg Value.bool hkb)<|go ?_;refine lI av ((ag.ks ab).addr av)<|lW ((ag.ks ab).atStr av)<|Yv rfl<|lAT rfl<|Zl<|Zbd<|Zs ?_;refine Wp.cutK [1,3,6,7,8,1000000] (fun f aw=>∃ ax ay,Zfx aa ad (Zaz aa a4) ay=some r∧St w0 (Zj col) ax aw∧Zf 27 1 ax aw a3 #[.string aa.1,.slice af aa.2.1.length ae,.slice an aa.2.2.1.length ak,.slice ao aa.2.2.2.1.length al,.slice ap aa.2.2.2.2.length am]∧[13].map f=[.bool ay]) ?_ ?_
  ·intro f aw hJ;obtain ⟨ax,ay,hm,ab,ac,hs⟩:=hJ;rw [Zfx.eq_1] at hm;refine .lL [13] hs ?_;refine Zo hm (fun hb hm=>go ?_) fun hb hm=>go ?_
   ·cases hm;exact ⟨rfl,rfl,ab.below⟩
   refine Xd ac<|Xp rfl ?_;obtain ⟨bo,az,hm⟩:=bZ hm;refine lI az ((ai.ks ab).addr az) ?_;obtain ⟨_,a9,ba⟩:=(ai.ks ab).atN az;obtain ⟨⟨bp,bq,rfl,br⟩,_⟩:=a9;refine lW ba.one<|go ?_;refine Zo hm (fun hb hm=>go ?_) fun hb hm=>go ?_
   ·cases hm;exact ⟨rfl,rfl,ab.below⟩
   exact ⟨a4.length,by simp,rfl,⟨_,_,_,rfl,a7,hm,ab,ac,(X5 (congrArg (Value.int .i64) (X2 (Nat.lt_of_lt_of_le a8 (ag.ks ab).1.1))) rfl)⟩⟩
  refine Wl<|Xd ac<|Xp rfl ?_;obtain ⟨a0,hm⟩:=Z3 hm;refine lv (v:=.slice af (Int.toNat (ad:Int)) ae) rfl rfl (Zju underlying22 sizeOf9 rfl rfl a0.1 (by have:=(ag.ks ab).1.2;have:=a0.2;omega))<|.ld (d:=17) (v:=(.slice af ((aa.2.1.take (Int.toNat (ad:Int))).length) ae)) (congrArg (fun n=>Value.slice af n ae) (List.length_take_of_le (show (Int.toNat (ad:Int))≤aa.2.1.length by have:=a0.2;omega)).symm) ?_;refine lMT rfl ?_;obtain ⟨bs,bb,hm⟩:=bZ hm;refine Zk (Z1y bb ((ag.ks ab).take (Int.toNat (ad:Int)))) ?_;rintro _ a5 ⟨rfl,ar⟩;refine ⟨_,rfl,?_⟩;replace ar:Zh ah aq ah a5:=.of_below ar;refine W2 rfl ?_;replace ac:=ac.gr ar;replace ab:=ab.grow ar;refine Yc hm (fun a1 hm=>go ?_) fun a1 hm=>go ?_
  ·refine lV (.bool true) (Xr (congrArg Value.bool a1) rfl)<|go ?_;exact ⟨rfl,_,_,hm,ab,ac,rfl⟩
  refine Ya ⟨_,_,rfl⟩ ?_;refine go ?_;refine lW ((ac.atN).nth (q:=2) rfl)<|go ?_;obtain ⟨bt,a2,hm⟩:=bZ hm;refine lI a2 ((ai.ks ab).addr a2) ?_;refine go ?_;obtain ⟨_,bc,bd⟩:=(ai.ks ab).atN a2;obtain ⟨⟨bu,bv,rfl,be⟩,_⟩:=bc;refine lW bd.one<|go ?_;obtain ⟨bf,bg,hm⟩:=bZ hm;refine Zk (Z0x bg be) ?_;rintro _ bh ⟨rfl,au⟩;refine ⟨_,rfl,?_⟩;replace au:Zh ah a5 ah bh:=.of_below au;refine lV (.bool bf) (Xq (congrArg Value.bool a1) rfl)<|go ?_;replace ac:=ac.gr au;replace ab:=ab.grow au;exact ⟨rfl,_,_,hm,ab,ac,rfl⟩
def Zfv (aa:Bool) (ab:List Int) (ac:List Int):Option R4:=
  some ((aa,ab),ac)
def Zb7 (N:Nat) (aa:R4):Option R4:=
  (Zdv N aa.2).bind fun ab=>if (decide ((ab.length:Int)=0))=true then ((S7 N 1).bind fun ac=>Zfv aa.1.1 aa.1.2 ac) else (Zfv aa.1.1 aa.1.2 aa.2)
theorem Zr1 {N am a1:Nat} {an a2:Option Addr} {col:Ze} {w0:World} {ad r:R4} (hm:Zb7 N ad=some r) (ai:Sl (Za.int .u32) col w0 an am ad.1.2) (aj:Sl (Za.int .u32) col w0 a2 a1 ad.2):
    Calls prog 104 #[(.agg #[.bool ad.1.1,.slice an ad.1.2.length am,.slice a2 ad.2.length a1])] w0 (fun e w'=>∃ (col':Ze) (ra1:Option Addr) (rc2:Nat) (ra4:Option Addr) (rc5:Nat),e= .returned ((.agg #[.bool r.1.1,.slice ra1 r.1.2.length rc2,.slice ra4 r.2.length rc5]))∧Zh col w0 col' w'∧Sl (Za.int .u32) col' w' ra1 rc2 r.1.2∧Sl (Za.int .u32) col' w' ra4 rc5 r.2):=by
 refine Y5 (m:=11) func104 rfl rfl rfl ?_;rw [Zb7.eq_1] at hm;have aa:=St.start col w0;refine go ?_;refine Xl (col:=(Zj col)) 1 rfl ?_;intro a3 bj a8 a9 ab;refine Xg (col:=a8) #[.bool false,.slice none (([]:List Int).length) 0,.slice none (([]:List Int).length) 0] 2 zeroValue39 ?_;intro ba bk bm a4 ac;refine Zl<|Zs ?_;replace ai:=ai.keep (Zi.start col w0);replace aj:=aj.keep (Zi.start col w0);replace aa:=(aa.grow a9).grow a4;replace ab:=ab.gr a4;refine Wp.cutK [1,2,1000000] (fun f ae=>∃ af ao ap aq ak ar au al,Zfv ao ak al=some r∧St w0 (Zj col) af ae∧Sl (Za.int .u32) af ae ap aq ak∧Sl (Za.int .u32) af ae ar au al∧Zf 39 1 af ae a3 #[.bool ao,.slice ap ak.length aq,.slice ar al.length au]∧Zf 39 2 af ae ba #[.bool false,.slice none (([]:List Int).length) 0,.slice none (([]:List Int).length) 0]) ?_ ?_
 ·intro f ae hJ;obtain ⟨af,ao,ap,aq,ak,ar,au,al,hm,aa,av,aw,ab,ac⟩:=hJ;rw [Zfv.eq_1] at hm;refine go ?_;refine lV _ (Z2 isAgg39 sizeOf39 ab)<|Zz ac ?_;intro bn ax bb bc;refine go ?_;cases hm;replace av:=av.kp ax;replace aw:=aw.kp ax;replace aa:=aa.kp ax bb;exact ⟨rfl,_,ra bc.atN,_,_,_,_,_,rfl,aa.fin (cm []),aa.fs av,aa.fs aw⟩
 refine go ?_;refine Xd ab ?_;obtain ⟨bo,bd,hm⟩:=bZ hm;refine Zk (Zn4 3 bd (aj.ks aa)) ?_;rintro _ bp ⟨be,bq,br,rfl,ay,bs⟩;refine ⟨_,rfl,go ?_⟩;replace ab:=ab.gr ay;replace ac:=ac.gr ay;replace aa:=aa.grow ay;refine Zo hm (fun hb hm=>?_) fun hb hm=>?_
 ·refine Wl ?_;obtain ⟨a5,bf,hm⟩:=bZ hm;refine Zk (Zcx (col:=be) 4 bf) ?_;rintro _ bt ⟨bg,a6,a7,rfl,az,ag⟩;refine ⟨_,rfl,?_⟩;refine Ya ⟨_,_,rfl⟩ ?_;replace ab:=ab.gr az;refine Qr (off:=2) (v:=(.slice a6 a5.length a7)) ab sizeOf35 rfl rfl (by intro u hu;simp only [Value.cells,List.mem_cons,List.not_mem_nil,or_false] at hu;subst hu;rfl) rfl rfl ?_;intro bh a0 bi ah;replace ah:Zf 39 1 bg bh a3 #[.bool ad.1.1,.slice an ad.1.2.length am,.slice a6 a5.length a7]:=ah;refine Zl ?_;replace ag:=ag.kp a0;replace ag:=(ag).toSlF (Zd.int .u32);replace ah:=ah.froz 4 (by decide);replace ac:=(ac.gr az).kp a0;replace ac:=ac.froz 4 (by decide);replace aa:=(aa.grow az).kp a0 bi;replace aa:=aa.froz 4 (by decide) (by decide);exact ⟨rfl,_,_,_,_,_,_,_,_,hm,aa,(ai.ks aa),ag,ah,ac⟩
 refine X0 ?_;exact ⟨rfl,_,_,_,_,_,_,_,_,hm,aa,(ai.ks aa),(aj.ks aa),ab,ac⟩
theorem Z20:Wd prog 39 3 56:=⟨Tryz.t39,_,rfl,rfl,rfl,rfl,rfl⟩
def Zb8 (N:Nat):List R4→R7→Option R7
  | [],ab=>some ab
  | ac :: ad,ab=>(Zb7 N ((ac.1.1,ac.1.2),ac.2)).bind fun aa=>Zt ((ab.length+[((aa.1.1,aa.1.2),aa.2)].length) * 56≤140737488355328∧ab.length+[((aa.1.1,aa.1.2),aa.2)].length≤maxLen) ((Zb8 N ad) (ab++[((aa.1.1,aa.1.2),aa.2)]))
termination_by structural x=>x
def Zfw (N:Nat) (aa:R7):Option R7:=
  Zt (aa.length * 56≤281474976710656∧aa.length≤maxLen) (Zb8 N aa ([]:List R4))
theorem Zr2 {N ar:Nat} {a0:Option Addr} {col:Ze} {w0:World} {ac r:R7} (c1:Nat) (hm:Zfw N ac=some r) (h0:Sl (Za.pair (Za.pair Za.bool (Za.slice (Za.int .u32))) (Za.slice (Za.int .u32))) col w0 a0 ar ac):
    Calls prog 89 #[.slice a0 ac.length ar] w0 (fun e w'=>∃ (col':Ze) (ra1:Option Addr) (rc2:Nat),e= .returned ((.slice ra1 r.length rc2))∧Zh col w0 col' w'∧Zb (Za.pair (Za.pair Za.bool (Za.slice (Za.int .u32))) (Za.slice (Za.int .u32))) 39 c1 col' w' ra1 rc2 r):=by
 refine Xf 2 (m:=22) func89 rfl rfl rfl rfl rfl ?_;rw [Zfw.eq_1] at hm;have ab:=St.start col w0;refine go ?_;obtain ⟨au,hm⟩:=Z3 hm;refine Zuc (col:=(Zj col)) (w:=w0) (r:=(Za.pair (Za.pair Za.bool (Za.slice (Za.int .u32))) (Za.slice (Za.int .u32)))) (n:=ac.length) 1 rfl underlying114 Z20 rfl rfl rfl au.1 au.2 ?_;intro bt bu bv a2 a3;refine go ?_;replace ab:=ab.grow a2;refine Zu [10,9,1000000] (fun n f ak=>∃ af ad al am ag ae,n=ae.length∧ac.drop ad=ae∧Zb8 N ae ag=some r∧St w0 (Zj col) af ak∧Zb (Za.pair (Za.pair Za.bool (Za.slice (Za.int .u32))) (Za.slice (Za.int .u32))) 39 1 af ak al am ag∧[11,3].map f=[.int .i64 ad,.slice al ag.length am]) ac.length ⟨_,0,_,_,_,_,rfl,rfl,hm,ab,a3,rfl⟩ ?_;clear hm;intro n f ak hI;obtain ⟨af,ad,al,am,ag,ae,hn,hl,hm,ab,ah,hs⟩:=hI;subst hn;refine .lL [11,3] hs ?_;replace h0:=h0.keep (Zi.start col w0)
 cases ae with
 | nil=>
  have hk:¬ ((ad:Int)<(ac.length:Int)):=by have:=List.drop_eq_nil_iff.1 hl;omega
  have hkb:=decide_eq_false hk;rw [Zb8.eq_1] at hm;refine go ?_;refine Xs (congrArg Value.bool hkb)<|go ?_;cases hm;exact ⟨rfl,_,_,_,rfl,ab.fin (cm [(1,c1)]),ab.fo ah⟩
 | cons an a4=>
  obtain ⟨ao,a5,a6⟩:=X3 hl;have hk:(ad:Int)<(ac.length:Int):=by omega
  have hkb:=decide_eq_true hk;rw [Zb8.eq_2] at hm;refine go ?_;refine Xt (congrArg Value.bool hkb)<|go ?_;refine lI ao ((h0.ks ab).addr ao) ?_;obtain ⟨_,a7,a8⟩:=(h0.ks ab).atN ao;obtain ⟨_,_,rfl,a9,ba⟩:=V4 a7;obtain ⟨_,_,rfl,bb,bc⟩:=V4 a9;obtain ⟨rfl,_⟩:=bb;obtain ⟨⟨bd,be,rfl,ap⟩,_⟩:=bc;obtain ⟨⟨bf,bg,rfl,aq⟩,_⟩:=ba;refine lV (.agg #[.bool an.1.1,.slice bd an.1.2.length be,.slice bf an.2.length bg]) (Wj isAgg39 sizeOf39 rfl rfl a8)<|Xg (col:=af) #[.bool false,.slice none (([]:List Int).length) 0,.slice none (([]:List Int).length) 0] 2 zeroValue39 ?_;intro bw bx bz ai bh;refine Zz bh ?_;intro b0 aj bi bj;refine go ?_;refine lV _ (Z2 isAgg39 sizeOf39 bj) ?_;obtain ⟨aa,bk,hm⟩:=bZ hm;replace ap:=(ap.gr ai).kp aj;replace aq:=(aq.gr ai).kp aj;refine Zk (Zr1 bk ap aq) ?_;rintro _ b1 ⟨bm,av,aw,ax,ay,rfl,az,bn,bo⟩;refine ⟨_,rfl,?_⟩;refine V0 (col:=bm) (r:=(Za.pair (Za.pair Za.bool (Za.slice (Za.int .u32))) (Za.slice (Za.int .u32)))) (xs:=[((aa.1.1,aa.1.2),aa.2)]) [(.agg #[.bool aa.1.1,.slice av aa.1.2.length aw,.slice ax aa.2.length ay])] 3 (Y1.ofF (Rows.consF (r:=(Za.pair (Za.pair Za.bool (Za.slice (Za.int .u32))) (Za.slice (Za.int .u32)))) (x:=((aa.1.1,aa.1.2),aa.2)) (cs:=[.bool aa.1.1,.slice av aa.1.2.length aw,.slice ax aa.2.length ay]) (Zg0 (Zg0 (Zab aa.1.1) (Zjv bn)) (Zjv bo)) Rows.nil0)) ?_;intro b2 b3 b4 a1 bp;obtain ⟨bq,hm⟩:=Z3 hm;replace ah:=(((ah.gr ai).kp aj).gr az).gr a1;refine W7 ah (bp.srcN (NB.pair (NB.pair NB.bool NB.slice) NB.slice)) bq ?_;intro b5 b6 b7 b8 br bs;refine go ?_;replace ab:=((((ab.grow ai).kp aj bi).grow az).grow a1).kpp br;exact ⟨a4.length,by simp,rfl,⟨_,_,_,_,_,_,rfl,a5,hm,ab,bs,(X5 (congrArg (Value.int .i64) (X2 (Nat.lt_of_lt_of_le a6 (h0.ks ab).1.1))) rfl)⟩⟩
def Zch (N:Nat) (ab:List R4) (ac:Int):Nat→Int→Option Rb
  | 0,_=>none
  | ad+1,aa=>if (decide (aa<(ab.length:Int)))=true then (Zt ((0:Int)≤aa∧aa≤(ab.length:Int)) (Zt ((0:Int)≤aa∧aa≤(i64.wrap (aa+(if ((ab.drop (Int.toNat aa)).length:Int)<ac then ((ab.drop (Int.toNat aa)).length:Int) else ac)))∧(i64.wrap (aa+(if ((ab.drop (Int.toNat aa)).length:Int)<ac then ((ab.drop (Int.toNat aa)).length:Int) else ac)))≤(i64.wrap (aa+(if ((ab.drop (Int.toNat aa)).length:Int)<ac then ((ab.drop (Int.toNat aa)).length:Int) else ac)))∧(i64.wrap (aa+(if ((ab.drop (Int.toNat aa)).length:Int)<ac then ((ab.drop (Int.toNat aa)).length:Int) else ac)))≤(ab.length:Int)) (((Zch N ab ac ad) (i64.wrap (aa+ac))).bind fun ae=>some ((ab.take (Int.toNat (i64.wrap (aa+(if ((ab.drop (Int.toNat aa)).length:Int)<ac then ((ab.drop (Int.toNat aa)).length:Int) else ac))))).drop (Int.toNat aa) :: ae)))) else (some [])
termination_by structural x=>x
def Zme (N:Nat) (aa:List R4) (ab:Int):Option Rb:=
  Zch N aa ab N 0
theorem Z1t (N:Nat) (col:Ze) (w0:World) (g0:Nat) (af0:Option Addr) (capf0:Nat) (ab:List R4) (hf0:Sl (Za.pair (Za.pair Za.bool (Za.slice (Za.int .u32))) (Za.slice (Za.int .u32))) col w0 af0 capf0 ab) (hb0:Zf 114 450 col w0 g0 #[.slice af0 ab.length capf0]) (g1:Nat) (ac:Int) (hb1:Zf 3 450 col w0 g1 #[.int .i64 ac]) (r:List R7) (hm:Zme N ab ac=some r):
    Zhb prog 1 196 [.pointer (some ⟨g0,0,none⟩),.pointer (some ⟨g1,0,none⟩)] (fun (y:List R4) (col:Ze) (w:World) (args:List Value)=>∃ (a0:Option Addr) (ak:Nat),args=[.slice a0 y.length ak]∧Sl (Za.pair (Za.pair Za.bool (Za.slice (Za.int .u32))) (Za.slice (Za.int .u32))) col w a0 ak y) r col w0:=by
 intro l J X hjs hxs hy ad;refine Zbh (m:=31) (args:=[.func (.yield l) #[] #[],.pointer (some ⟨g0,0,none⟩),.pointer (some ⟨g1,0,none⟩)]) func196 rfl rfl rfl rfl ?_;rw [Zme.eq_1] at hm;refine go ?_;refine Zu [0,1,2,1000000] (fun n f ah=>∃ ae r aa af,af=n∧Zch N ab ac af aa=some r∧J r ae ah∧Sl (Za.pair (Za.pair Za.bool (Za.slice (Za.int .u32))) (Za.slice (Za.int .u32))) ae ah af0 capf0 ab∧Zf 114 450 ae ah g0 #[.slice af0 ab.length capf0]∧Zf 3 450 ae ah g1 #[.int .i64 ac]∧[4].map f=[.int .i64 aa]) N ⟨_,_,0,_,rfl,hm,ad,hf0,hb0,hb1,rfl⟩ ?_;clear hm;intro n f ah hI;obtain ⟨ae,r,aa,af,hn,hm,ad,hf0,hb0,hb1,hs⟩:=hI;subst hn;refine .lL [4] hs ?_
 cases af with
 | zero=>rw [Zch.eq_1] at hm;cases hm
 | succ af=>
  rw [Zch.eq_2] at hm;refine go ?_;refine lW hb0.at1<|go ?_;refine Zo hm (fun hb hm=>go ?_) fun hb hm=>go ?_
  ·refine Vj (col:=ae) (by kernel_rfl) (by kernel_rfl)<|qW (fun _ hC=>hb1.at1.gr (hC.bl ae)) ?_;refine qW (fun _ hC=>hb0.at1.gr (hC.bl ae)) ?_;refine go ?_;obtain ⟨al,hm⟩:=Z3 hm;have ap:=hf0.drop (sz:=3) rfl (Int.toNat aa);refine qv (v:=.slice (if capf0=(Int.toNat aa) then af0 else af0.map (·.add ((Int.toNat aa) * 3))) (ab.length - (Int.toNat aa)) (capf0 - (Int.toNat aa))) rfl (fun _ hC=>Zxf underlying114 sizeOf39 rfl rfl al.1 al.2) ?_;generalize (if capf0=(Int.toNat aa) then af0 else af0.map (·.add ((Int.toNat aa) * 3)))=am at *;refine .ld (d:=16) (v:=(.slice am ((ab.drop (Int.toNat aa)).length) (capf0 - (Int.toNat aa)))) (congrArg (fun n=>Value.slice am n (capf0 - (Int.toNat aa))) (List.length_drop (i:=(Int.toNat aa)) (l:=ab)).symm) ?_;refine go ?_;refine qv (v:=(.int .i64 (if ((ab.drop (Int.toNat aa)).length:Int)<ac then ((ab.drop (Int.toNat aa)).length:Int) else ac))) rfl (fun _ hC=>Zjt ac ((ab.drop (Int.toNat aa)).length:Int) rfl rfl) ?_;refine go ?_;refine Ws ?_;intro aq hC;replace hC:=hC.bl ae;replace hf0:=hf0.gr hC;replace hb0:=hb0.gr hC;replace hb1:=hb1.gr hC;replace ad:=hjs _ _ _ _ _ ad hC.toP;refine go ?_;refine lM (.func (.yield l) #[] #[])<|lW hb0.at1<|go ?_;obtain ⟨ag,hm⟩:=Z3 hm;have an:=((hf0.take (Int.toNat (i64.wrap (aa+(if ((ab.drop (Int.toNat aa)).length:Int)<ac then ((ab.drop (Int.toNat aa)).length:Int) else ac))))).recap (show (ab.take (Int.toNat (i64.wrap (aa+(if ((ab.drop (Int.toNat aa)).length:Int)<ac then ((ab.drop (Int.toNat aa)).length:Int) else ac))))).length≤(Int.toNat (i64.wrap (aa+(if ((ab.drop (Int.toNat aa)).length:Int)<ac then ((ab.drop (Int.toNat aa)).length:Int) else ac)))) by rw [List.length_take (i:=(Int.toNat (i64.wrap (aa+(if ((ab.drop (Int.toNat aa)).length:Int)<ac then ((ab.drop (Int.toNat aa)).length:Int) else ac))))) (l:=ab)];have:=ag.2;omega)).drop (sz:=3) rfl (Int.toNat aa);refine lv (v:=.slice (if (Int.toNat (i64.wrap (aa+(if ((ab.drop (Int.toNat aa)).length:Int)<ac then ((ab.drop (Int.toNat aa)).length:Int) else ac))))=(Int.toNat aa) then af0 else af0.map (·.add ((Int.toNat aa) * 3))) ((Int.toNat (i64.wrap (aa+(if ((ab.drop (Int.toNat aa)).length:Int)<ac then ((ab.drop (Int.toNat aa)).length:Int) else ac)))) - (Int.toNat aa)) ((Int.toNat (i64.wrap (aa+(if ((ab.drop (Int.toNat aa)).length:Int)<ac then ((ab.drop (Int.toNat aa)).length:Int) else ac)))) - (Int.toNat aa))) rfl rfl (Zxh underlying114 sizeOf39 rfl rfl rfl rfl ag.1 ag.2.1 ag.2.2.1 (by have:=hf0.1.2;have:=ag.2.2.2;omega)) ?_
   generalize (if (Int.toNat (i64.wrap (aa+(if ((ab.drop (Int.toNat aa)).length:Int)<ac then ((ab.drop (Int.toNat aa)).length:Int) else ac))))=(Int.toNat aa) then af0 else af0.map (·.add ((Int.toNat aa) * 3)))=ai at *;refine .ld (d:=28) (v:=(.slice ai (((ab.take (Int.toNat (i64.wrap (aa+(if ((ab.drop (Int.toNat aa)).length:Int)<ac then ((ab.drop (Int.toNat aa)).length:Int) else ac))))).drop (Int.toNat aa)).length) ((Int.toNat (i64.wrap (aa+(if ((ab.drop (Int.toNat aa)).length:Int)<ac then ((ab.drop (Int.toNat aa)).length:Int) else ac)))) - (Int.toNat aa)))) (congrArg (fun n=>Value.slice ai n ((Int.toNat (i64.wrap (aa+(if ((ab.drop (Int.toNat aa)).length:Int)<ac then ((ab.drop (Int.toNat aa)).length:Int) else ac)))) - (Int.toNat aa))) (show (Int.toNat (i64.wrap (aa+(if ((ab.drop (Int.toNat aa)).length:Int)<ac then ((ab.drop (Int.toNat aa)).length:Int) else ac)))) - (Int.toNat aa)=((ab.take (Int.toNat (i64.wrap (aa+(if ((ab.drop (Int.toNat aa)).length:Int)<ac then ((ab.drop (Int.toNat aa)).length:Int) else ac))))).drop (Int.toNat aa)).length by rw [List.length_drop (i:=(Int.toNat aa)) (l:=ab.take (Int.toNat (i64.wrap (aa+(if ((ab.drop (Int.toNat aa)).length:Int)<ac then ((ab.drop (Int.toNat aa)).length:Int) else ac))))),List.length_take (i:=(Int.toNat (i64.wrap (aa+(if ((ab.drop (Int.toNat aa)).length:Int)<ac then ((ab.drop (Int.toNat aa)).length:Int) else ac))))) (l:=ab)];have:=ag.2;omega)) ?_;obtain ⟨ar,hc_14m,ao⟩:=bZ hm;cases ao;have hm:=hc_14m;refine ly1 rfl rfl rfl (hy _ _ _ _ [(.slice ai (((ab.take (Int.toNat (i64.wrap (aa+(if ((ab.drop (Int.toNat aa)).length:Int)<ac then ((ab.drop (Int.toNat aa)).length:Int) else ac))))).drop (Int.toNat aa)).length) ((Int.toNat (i64.wrap (aa+(if ((ab.drop (Int.toNat aa)).length:Int)<ac then ((ab.drop (Int.toNat aa)).length:Int) else ac)))) - (Int.toNat aa)))] ad ⟨ai,((Int.toNat (i64.wrap (aa+(if ((ab.drop (Int.toNat aa)).length:Int)<ac then ((ab.drop (Int.toNat aa)).length:Int) else ac)))) - (Int.toNat aa)),rfl,an⟩) ?_;rintro _ au ⟨av,aj,⟨rfl,hJ⟩ | ⟨rfl,hX⟩⟩
   ·refine ⟨_,rfl,?_⟩;have ad:=hJ;refine go ?_;refine Xs rfl<|go ?_;replace hb1:=hb1.kpp aj;refine lW hb1.at1<|go ?_;replace hf0:=hf0.kpp aj;replace hb0:=hb0.kpp aj;exact ⟨af,by omega,rfl,⟨_,_,_,_,rfl,hm,ad,hf0,hb0,hb1,rfl⟩⟩
   refine ⟨_,rfl,?_⟩;have ad:=hX;refine go ?_;refine Xt rfl<|Vc ?_;exact ⟨rfl,⟨_,rfl⟩,_,.inr ad⟩
  cases hm;exact ⟨rfl,⟨_,rfl⟩,_,.inl ad⟩
def Zmf (N:Nat) (aa:R7) (ab:Int):Option Rb:=
  Zme N aa ab
def Zmd (N:Nat) (ab:R7) (aa:Int):Option Rb:=
  if (decide (aa<1))=true then none else (Zmf N ab aa)
theorem Z1s {N aa:Nat} {a0:Option Addr} {col:Ze} {w0:World} {ac:R7} {ad:Int} {r:Rb} (hm:Zmd N ac ad=some r) (h0:Sl (Za.pair (Za.pair Za.bool (Za.slice (Za.int .u32))) (Za.slice (Za.int .u32))) col w0 a0 aa ac):
    Calls prog 162 #[.slice a0 ac.length aa,.int .i64 ad] w0 (fun e w'=>∃ (col':Ze) (rv1:Value),e= .returned (rv1)∧Zh col w0 col' w'∧It prog 1 rv1 (fun (y:List R4) (col:Ze) (w:World) (args:List Value)=>∃ (a0:Option Addr) (aa:Nat),args=[.slice a0 y.length aa]∧Sl (Za.pair (Za.pair Za.bool (Za.slice (Za.int .u32))) (Za.slice (Za.int .u32))) col w a0 aa y) r q0 col' w'):=by
 refine Xf 4 (m:=9) func162 rfl rfl rfl rfl rfl ?_;rw [Zmd.eq_1] at hm;have ab:=St.start col w0;refine go ?_;refine Zbo (col:=(Zj col)) (v:=(.slice a0 ac.length aa)) 1 rfl rfl ?_;intro af ap an aq ae;replace ae:Zf 114 1 an ap af #[.slice a0 ac.length aa]:=ae;refine Zbo (col:=an) (v:=(.int .i64 ad)) 2 rfl rfl ?_;intro ag ar au ao ah;replace ah:Zf 3 2 au ar ag #[.int .i64 ad]:=ah;refine lv (v:=_) rfl rfl (Tb rfl)<|Zl<|Zs ?_;replace h0:=h0.keep (Zi.start col w0);replace ab:=(ab.grow aq).grow ao;replace ae:=ae.gr ao;refine Wp.cutK [2,3,1000000] (fun f aj=>∃ ai,Zmf N ac ad=some r∧St w0 (Zj col) ai aj∧Zf 114 1 ai aj af #[.slice a0 ac.length aa]∧Zf 3 2 ai aj ag #[.int .i64 ad]) ?_ ?_
 ·intro f aj hJ;obtain ⟨ai,hm,ab,ae,ah⟩:=hJ;rw [Zmf.eq_1] at hm;refine go ?_;refine lV (.func (.func 196) #[] #[.pointer (some ⟨af,0,none⟩),.pointer (some ⟨ag,0,none⟩)]) (Zql rfl rfl)<|lA (.func (.func 196) #[] #[.pointer (some ⟨af,0,none⟩),.pointer (some ⟨ag,0,none⟩)])<|go ?_;have ak:=ab.finBox (G:=(fun n=>bif Nat.beq n 1 then 450 else bif Nat.beq n 2 then 450 else 0)) ae (by decide) (by decide) (show (fun n=>bif Nat.beq n 1 then 450 else bif Nat.beq n 2 then 450 else 0) 1=450 from rfl);have h0f:=ab.finSl (g:=(fun n=>bif Nat.beq n 1 then 450 else bif Nat.beq n 2 then 450 else 0)) rfl (h0.ks ab);have al:=ab.finBox (G:=(fun n=>bif Nat.beq n 1 then 450 else bif Nat.beq n 2 then 450 else 0)) ah (by decide) (by decide) (show (fun n=>bif Nat.beq n 1 then 450 else bif Nat.beq n 2 then 450 else 0) 2=450 from rfl);refine ⟨rfl,Vf w0.heap.size col ai (fun n=>bif Nat.beq n 1 then 450 else bif Nat.beq n 2 then 450 else 0),_,rfl,ab.fin (fun n=>bif Nat.beq n 1 then 450 else bif Nat.beq n 2 then 450 else 0),196,[.pointer (some ⟨af,0,none⟩),.pointer (some ⟨ag,0,none⟩)],rfl,call196,?_⟩;intro col9 w9 am hk9;replace ak:=ak.itk am hk9 rfl;replace h0f:=h0f.itk am hk9 rfl;replace al:=al.itk am hk9 rfl;exact Z1t N col9 w9 af a0 aa ac h0f ak ag ad al r hm
 refine go ?_;refine lW ah.at1<|go ?_;refine Zo hm (fun hb hm=>?_) fun hb hm=>?_
 ·cases hm
 refine X0 ?_;exact ⟨rfl,_,hm,ab,ae,ah⟩
def Zdo (N:Nat):Option R4:=
  (Zar N 1 1).bind fun aa=>some ((aa.1.1.1,aa.1.1.2),aa.1.2)
theorem Zn1 {N:Nat} {col:Ze} {w0:World} {r:R4} (c1 c2:Nat) (hm:Zdo N=some r):
    Calls prog 103 #[] w0 (fun e w'=>∃ (col':Ze) (ra1:Option Addr) (rc2:Nat) (ra4:Option Addr) (rc5:Nat),e= .returned ((.agg #[.bool r.1.1,.slice ra1 r.1.2.length rc2,.slice ra4 r.2.length rc5]))∧Zh col w0 col' w'∧Zb (Za.int .u32) 95 c1 col' w' ra1 rc2 r.1.2∧Zb (Za.int .u32) 95 c2 col' w' ra4 rc5 r.2):=by
 refine Y5 (m:=8) func103 rfl rfl rfl ?_;rw [Zdo.eq_1] at hm;have ab:=St.start col w0;refine go ?_;refine Xg (col:=(Zj col)) #[.bool false,.slice none (([]:List Int).length) 0,.slice none (([]:List Int).length) 0] 1 zeroValue39 ?_;intro ay az an ao ae;refine go ?_;obtain ⟨aa,ap,hm⟩:=bZ hm;refine Zk (Zkk (col:=an) 2 3 ap) ?_;rintro _ a0 ⟨aq,ai,aj,ak,al,rfl,am,af,ag⟩;refine ⟨_,rfl,?_⟩;refine lM (.tuple #[(.agg #[.bool aa.1.1.1,.slice ai aa.1.1.2.length aj,.slice ak aa.1.2.length al]),.int .i64 aa.2])<|lV (.agg #[.bool aa.1.1.1,.slice ai aa.1.1.2.length aj,.slice ak aa.1.2.length al]) (Xk rfl rfl)<|lV (.int .i64 aa.2) (Xk rfl rfl)<|Xg (col:=aq) #[.bool false,.slice none (([]:List Int).length) 0,.slice none (([]:List Int).length) 0] 4 zeroValue39 ?_;intro a1 a2 a3 ac ar;refine Zz ar ?_;intro a4 ad au av;refine go ?_;refine lV _ (Z2 isAgg39 sizeOf39 av) ?_;replace ae:=((ae.gr am).gr ac).kp ad;refine Zz ae ?_;intro a5 ah aw ax;refine go ?_;cases hm;replace ab:=((((ab.grow ao).grow am).grow ac).kp ad au).kp ah aw;replace af:=((af.gr ac).kp ad).kp ah;replace ag:=((ag.gr ac).kp ad).kp ah;exact ⟨rfl,_,ra ax.atN,_,_,_,_,_,rfl,ab.fin (cm [(2,c1),(3,c2)]),ab.fo af,ab.fo ag⟩
def Zoz (aa:Bool):Option Bool:=
  some aa
def Zdq (N:Nat):List R7→Bool→Option Bool
  | [],ac=>some true
  | ad :: ae,ac=>(Zda N ad).bind fun aa=>(Zdo N).bind fun ab=>(S5 N ((aa.1.1,aa.1.2),aa.2) ((ab.1.1,ab.1.2),ab.2)).bind fun af=>if (!decide (af=0))=true then (Zoz false) else ((Zdq N ae) ac)
termination_by structural x=>x
def Zie (N:Nat) (aa:R7) (ab:Int):Option Bool:=
  (Zmd N aa ab).bind fun ac=>Zdq N ac false
theorem Z0y {N ah:Nat} {a0:Option Addr} {col:Ze} {w0:World} {am:R7} {ao:Int} {r:Bool} (hm:Zie N am ao=some r) (h0:Sl (Za.pair (Za.pair Za.bool (Za.slice (Za.int .u32))) (Za.slice (Za.int .u32))) col w0 a0 ah am):
    Calls prog 91 #[.slice a0 am.length ah,.int .i64 ao] w0 (fun e w'=>e= .returned ((.bool r))∧Below w0.heap.size w0 w'):=by
 refine Zsf (m:=15) (args:=[.slice a0 am.length ah,.int .i64 ao]) func91 rfl rfl rfl ?_;rw [Zie.eq_1] at hm;have aa:=St.start col w0;replace h0:=h0.keep (Zi.start col w0);have hmk:Yq 499 (Zj col) w0 []:=.nil;refine go ?_;refine Qq (col:=(Zj col)) (v:=(.bool false)) 1 rfl zeroValue4 ?_;intro ai a4 a5 ax ab;replace ab:Zf 4 1 a5 a4 ai #[.bool false]:=ab;refine go ?_;obtain ⟨a6,a7,hm⟩:=bZ hm;replace aa:=aa.grow ax;refine Zk (Z1s a7 (h0.ks aa)) ?_;rintro _ bq ⟨a8,br,rfl,ap,a9⟩;refine ⟨_,rfl,go ?_⟩;replace hmk:=(hmk.gr ax).gr ap;replace ab:=ab.gr ap;replace aa:=aa.grow ap;refine Znj (psl:=[9]) (arr:=(fun (y:List R4) (col:Ze) (w:World) (args:List Value)=>∃ (a0:Option Addr) (ah:Nat),args=[.slice a0 y.length ah]∧Sl (Za.pair (Za.pair Za.bool (Za.slice (Za.int .u32))) (Za.slice (Za.int .u32))) col w a0 ah y)) (ys:=a6) (col:=a8) 498 rfl a9 rfl hmk rfl rfl (by rintro _ _ _ _ ⟨_,_,rfl,_⟩;rfl) (fun ys_ ad ae=>∃ (ac:Bool),Zdq N ys_ ac=some r∧St w0 (Zj col) ad ae∧Zf 4 1 ad ae ai #[.bool ac]) (fun c_ ad ae=>(c_= .ret∧∃ (ac:Bool),Zoz ac=some r∧St w0 (Zj col) ad ae∧Zf 4 1 ad ae ai #[.bool ac])) ?_ ?_ ⟨false,hm,aa,ab⟩ ?_ ?_ ?_
 ·intro ys_ ad ae col2_ w2_ hJ hk;obtain ⟨ac,hm,aa,ab⟩:=hJ;exact ⟨ac,hm,aa.kpp hk rfl rfl,ab.kpp hk rfl⟩
 ·intro c_ ad ae col2_ w2_ hX hk;obtain ⟨rfl,hX⟩:=hX;obtain ⟨ac,hm,aa,ab⟩:=hX;exact ⟨rfl,⟨ac,hm,aa.kpp hk rfl rfl,ab.kpp hk rfl⟩⟩
 ·intro bs bt bu bv bw ad ae args hJ hrec hmk harr;obtain ⟨ac,hm,aa,ab⟩:=hJ;rw [Zdq.eq_2] at hm;have hki:=Zq.refl (pC 1) ad ae;obtain ⟨bx,bz,rfl,aq⟩:=harr;refine go ?_;refine ⟨_,hrec,?_⟩;intro b0 b1 aj ay hrec2;have hrec:=hrec2;refine go ?_;obtain ⟨b2,ba,hm⟩:=bZ hm;replace aq:=aq.kp aj;refine Zk (Znw 2 3 ba aq) ?_;rintro _ b3 ⟨bb,b4,b5,b6,b7,rfl,ak,ar,au⟩;refine ⟨_,rfl,?_⟩;obtain ⟨b8,bc,hm⟩:=bZ hm;refine lc rfl rfl (Zgu call103) (Zn1 (col:=bb) 4 5 bc:) ?_;rintro _ bd ⟨av,b9,ca,cb,cc,rfl,af,be,bf⟩;refine ⟨_,rfl,?_⟩;obtain ⟨cd,bg,hm⟩:=bZ hm;replace ar:=ar.gr af;replace au:=au.gr af;refine Zk (Zeu bg ((((ar.toSlF (Zd.int .u32)).froz 3).froz 4).froz 5) ((((au.froz 2 (by decide)).toSlF (Zd.int .u32)).froz 4).froz 5) ((((be.froz 2 (by decide)).froz 3 (by decide)).toSlF (Zd.int .u32)).froz 5) ((((bf.froz 2 (by decide)).froz 3 (by decide)).froz 4 (by decide)).toSlF (Zd.int .u32))) ?_;rintro _ bh ⟨rfl,ag⟩;refine ⟨_,rfl,?_⟩;replace ag:Zh av bd av bh:=.of_below ag;refine go ?_;replace ab:=(((ab.kp aj).gr ak).gr af).gr ag;replace hmk:=(((hmk.kp aj).gr ak).gr af).gr ag;replace hki:=(((hki.kp aj ay rfl).gr ak).gr af).gr ag;replace aa:=(((aa.kp aj ay).grow ak).grow af).grow ag;replace hrec:=((hrec.gr ak).gr af).gr ag;refine Zo hm (fun hb hm=>go ?_) fun hb hm=>?_
  ·refine Tl (v:=(.bool false)) ab sizeOf4 rfl rfl (by intro u hu;simp only [Value.cells,List.mem_cons,List.not_mem_nil,or_false] at hu;subst hu;rfl) rfl rfl ?_;intro bi an az aw;replace aw:Zf 4 1 av bi ai #[.bool false]:=aw;refine go ?_;replace hrec:=hrec.kp an;replace hmk:=hmk.kp an;replace hki:=hki.kp an az rfl;replace aa:=aa.kp an az;exact ⟨_,hki,⟨rfl,⟨false,hm,aa,aw⟩⟩,hrec,hmk⟩
  refine X0 ?_;exact ⟨_,hki,⟨ac,hm,aa,ab⟩,hrec,hmk⟩
 ·intro bj ad ae hJ hmk;obtain ⟨ac,hm,aa,ab⟩:=hJ;rw [Zdq.eq_1] at hm;refine go ?_;refine Tl (v:=(.bool true)) ab sizeOf4 rfl rfl (by intro u hu;simp only [Value.cells,List.mem_cons,List.not_mem_nil,or_false] at hu;subst hu;rfl) rfl rfl ?_;intro bk a1 bm al;replace al:Zf 4 1 ad bk ai #[.bool true]:=al;refine go ?_;cases hm;replace hmk:=hmk.kp a1;refine ⟨_,(bj :: []),rfl,hmk,?_⟩;intro ce a2 bn;replace aa:=(aa.kp a1 bm).kp a2 bn;replace al:=al.kp a2;exact ⟨_,Zxr rfl rfl isAgg4 rfl al.at1,rfl,aa.below⟩
 intro c_ bo ad ae hX hmk;obtain ⟨rfl,hX⟩:=hX;obtain ⟨ac,hm,aa,ab⟩:=hX;rw [Zoz.eq_1] at hm;refine Vc ?_;cases hm;refine ⟨_,(bo :: []),rfl,hmk,?_⟩;intro cf a3 bp;replace ab:=ab.kp a3;replace aa:=aa.kp a3 bp;exact ⟨_,Zxr rfl rfl isAgg4 rfl ab.at1,rfl,aa.below⟩
def Zfz (aa:Bool):Option Bool:=
  some aa
def Zfy (N:Nat) (aa:R4):Option Bool:=
  (Sb N ((aa.1.1,aa.1.2),aa.2)).bind fun ac=>if (decide (ac<0))=true then (Zfz true) else ((Zdo N).bind fun ab=>(S5 N ((aa.1.1,aa.1.2),aa.2) ((ab.1.1,ab.1.2),ab.2)).bind fun ad=>Zfz (decide (0<ad)))
theorem Z0v {N al am:Nat} {an ao:Option Addr} {col:Ze} {w0:World} {ac:R4} {r:Bool} (hm:Zfy N ac=some r) (ah:Sl (Za.int .u32) col w0 an al ac.1.2) (ai:Sl (Za.int .u32) col w0 ao am ac.2):
    Calls prog 90 #[(.agg #[.bool ac.1.1,.slice an ac.1.2.length al,.slice ao ac.2.length am])] w0 (fun e w'=>e= .returned ((.bool r))∧Below w0.heap.size w0 w'):=by
 refine Xf 2 (m:=12) func90 rfl rfl rfl rfl rfl ?_;rw [Zfy.eq_1] at hm;have aa:=St.start col w0;refine go ?_;refine Xl (col:=(Zj col)) 1 rfl ?_;intro a6 a7 ab ay aj;refine Zk1 rfl<|Zl<|Zs ?_;replace ah:=ah.keep (Zi.start col w0);replace ai:=ai.keep (Zi.start col w0);replace aa:=aa.grow ay;refine Wp.cutK [1000000] (fun f av=>∃ aw ap,Zfz ap=some r∧St w0 (Zj col) aw av∧[2].map f=[.bool ap]) ?_ ?_
 ·intro f av hJ;obtain ⟨aw,ap,hm,aa,hs⟩:=hJ;rw [Zfz.eq_1] at hm;refine .lL [2] hs<|Vc ?_;cases hm;exact ⟨rfl,rfl,aa.below⟩
 refine Wh (col:=ab) [(0,0),(1,3),(2,1),(3,1),(4,0),(5,3),(6,3),(7,1),(8,1),(9,1)] (by kernel_rfl) (by kernel_rfl)<|xv rfl rfl (fun _ hC=>Z2 isAgg39 sizeOf39 (aj.gr (hC.bl ab))) ?_;refine xe rfl rfl ?_;intro az hC0;have hC:=hC0.bl ab;obtain ⟨ae,a0,hm⟩:=bZ hm;replace aa:=aa.grow hC;refine Zk (Zhj a0 (ah.ks aa) (ai.ks aa)) ?_;rintro _ a1 ⟨rfl,ag⟩;refine ⟨_,rfl,?_⟩;replace ag:Zh ab az ab a1:=.of_below ag;refine Zl<|Xo ab hC0 ag<|xu rfl rfl (fun _=>Zqn _ _ rfl rfl) ?_;refine xu rfl rfl (fun _=>Ui rfl) ?_;replace aj:=(aj.gr hC).gr ag;replace aa:=aa.grow ag;refine Yc hm (fun ad hm=>?_) fun ad hm=>?_
 ·refine Yi (b:=decide (ae<0)) 6 rfl rfl rfl rfl rfl (by rw [ad];rfl)<|Yi (b:=decide (ae<0)) 6 rfl rfl rfl rfl rfl (by rw [ad];rfl)<|Yi (b:=decide (ae<0)) 6 rfl rfl rfl rfl rfl (by rw [ad];rfl)<|Yi (b:=decide (ae<0)) 6 rfl rfl rfl rfl rfl (by rw [ad];rfl)<|xu (v:=(.bool true)) rfl rfl (fun _=>Xr (congrArg Value.bool ad) rfl) ?_;refine xu rfl rfl (fun _=>Zcm rfl) ?_;refine Y2 ?_;intro a8 hC;replace hC:=hC.bl ab;replace aa:=aa.grow hC;exact ⟨rfl,_,_,hm,aa,rfl⟩
 refine Znn (v:=(.agg #[.bool ac.1.1,.slice an ac.1.2.length al,.slice ao ac.2.length am])) (b:=decide (ae<0)) 6 rfl rfl rfl rfl rfl (by rw [ad];rfl) (fun _ hC=>Wj isAgg39 sizeOf39 rfl rfl (aj.atN.gr (hC.bl ab))) ?_;refine xe rfl rfl ?_;intro a9 hC0;have hC:=hC0.bl ab;refine go ?_;obtain ⟨ba,a2,hm⟩:=bZ hm;refine lc rfl rfl (Zgu call103) (Zn1 (col:=ab) 6 7 a2:) ?_;rintro _ bb ⟨af,bc,bd,be,bf,rfl,ax,aq,ar⟩;refine ⟨_,rfl,?_⟩;refine Zl<|Xo af hC0 ax<|xe rfl rfl ?_;intro a3 hC0;replace aa:=(aa.grow hC).grow ax;have hC:=hC0.bl af;refine go ?_;obtain ⟨au,a4,hm⟩:=bZ hm;replace aq:=aq.gr hC;replace ar:=ar.gr hC;replace aa:=aa.grow hC;refine Zk (Zeu a4 (((ah.ks aa).froz 6).froz 7) (((ai.ks aa).froz 6).froz 7) ((aq.toSlF (Zd.int .u32)).froz 7) ((ar.froz 6 (by decide)).toSlF (Zd.int .u32))) ?_;rintro _ a5 ⟨rfl,ak⟩;refine ⟨_,rfl,?_⟩;replace ak:Zh af a3 af a5:=.of_below ak;refine Zl<|Xo af hC0 ak<|Zg5 (v:=(.bool (decide (0<au)))) (b:=decide (ae<0)) 6 rfl rfl rfl rfl rfl (by rw [ad];rfl) (fun _=>Zqm au 0 rfl rfl) ?_;refine xu (v:=(.bool (decide (0<au)))) rfl rfl (fun _=>Xq (congrArg Value.bool ad) rfl) ?_;refine xu rfl rfl (fun _=>Zcm rfl) ?_;refine Y2 ?_;intro bg hC;replace hC:=hC.bl af;replace aa:=(aa.grow ak).grow hC;exact ⟨rfl,_,_,hm,aa,rfl⟩
def Zee (N:Nat):List R4→Nat→Option Int
  | [],aa=>some (-1)
  | ab :: ac,aa=>(Zfy N ((ab.1.1,ab.1.2),ab.2)).bind fun ad=>if ad=true then (some (aa:Int)) else ((Zee N ac) (aa+1))
termination_by structural x=>x
def Zmh (N:Nat) (aa:R7):Option Int:=
  Zee N aa 0
theorem Z1z {N aj:Nat} {a0:Option Addr} {col:Ze} {w0:World} {ab:R7} {r:Int} (hm:Zmh N ab=some r) (h0:Sl (Za.pair (Za.pair Za.bool (Za.slice (Za.int .u32))) (Za.slice (Za.int .u32))) col w0 a0 aj ab):
    Calls prog 161 #[.slice a0 ab.length aj,(.func (.func 90) #[] #[])] w0 (fun e w'=>e= .returned ((.int .i64 r))∧Below w0.heap.size w0 w'):=by
 refine Xf 4 (m:=19) func161 rfl rfl rfl rfl rfl ?_;rw [Zmh.eq_1] at hm;have aa:=St.start col w0;refine go ?_;refine Zu [0,1,7,1000000] (fun n f af=>∃ ae ac ad,n=ad.length∧ab.drop ac=ad∧Zee N ad ac=some r∧St w0 (Zj col) ae af∧[8].map f=[.int .i64 ac]) ab.length ⟨_,0,_,rfl,rfl,hm,aa,rfl⟩ ?_;clear hm;intro n f af hI;obtain ⟨ae,ac,ad,hn,hl,hm,aa,hs⟩:=hI;subst hn;refine .lL [8] hs ?_;replace h0:=h0.keep (Zi.start col w0)
 cases ad with
 | nil=>
  have hk:¬ ((ac:Int)<(ab.length:Int)):=by have:=List.drop_eq_nil_iff.1 hl;omega
  have hkb:=decide_eq_false hk;rw [Zee.eq_1] at hm;refine go ?_;refine Xs (congrArg Value.bool hkb)<|go ?_;cases hm;exact ⟨rfl,rfl,aa.below⟩
 | cons ag ak=>
  obtain ⟨ah,al,am⟩:=X3 hl;have hk:(ac:Int)<(ab.length:Int):=by omega
  have hkb:=decide_eq_true hk;rw [Zee.eq_2] at hm;refine go ?_;refine Xt (congrArg Value.bool hkb)<|go ?_;refine lM (.func (.func 90) #[] #[])<|go ?_;refine lI ah ((h0.ks aa).addr ah) ?_;obtain ⟨_,an,ao⟩:=(h0.ks aa).atN ah;obtain ⟨_,_,rfl,ap,aq⟩:=V4 an;obtain ⟨_,_,rfl,ar,au⟩:=V4 ap;obtain ⟨rfl,_⟩:=ar;obtain ⟨⟨av,aw,rfl,ax⟩,_⟩:=au;obtain ⟨⟨ay,az,rfl,a1⟩,_⟩:=aq;refine lV (.agg #[.bool ag.1.1,.slice av ag.1.2.length aw,.slice ay ag.2.length az]) (Wj isAgg39 sizeOf39 rfl rfl ao) ?_;obtain ⟨a4,a2,hm⟩:=bZ hm;refine lc rfl rfl (Zw6 call90 rfl rfl) (Z0v a2 ax a1:) ?_;rintro _ a3 ⟨rfl,ai⟩;refine ⟨_,rfl,?_⟩;replace ai:Zh ae af ae a3:=.of_below ai;refine Zl ?_;replace aa:=aa.grow ai;refine Zo hm (fun hb hm=>go ?_) fun hb hm=>go ?_
  ·cases hm;exact ⟨rfl,rfl,aa.below⟩
  exact ⟨ak.length,by simp,rfl,⟨_,_,_,rfl,al,hm,aa,(X5 (congrArg (Value.int .i64) (X2 (Nat.lt_of_lt_of_le am (h0.ks aa).1.1))) rfl)⟩⟩
def Zmg (N:Nat) (aa:R7):Option Bool:=
  (Zmh N aa).bind fun ab=>some (decide (0≤ab))
theorem Z1w {N ad:Nat} {a0:Option Addr} {col:Ze} {w0:World} {ab:R7} {r:Bool} (hm:Zmg N ab=some r) (h0:Sl (Za.pair (Za.pair Za.bool (Za.slice (Za.int .u32))) (Za.slice (Za.int .u32))) col w0 a0 ad ab):
    Calls prog 88 #[.slice a0 ab.length ad,(.func (.func 90) #[] #[])] w0 (fun e w'=>e= .returned ((.bool r))∧Below w0.heap.size w0 w'):=by
 refine Xf 4 (m:=9) func88 rfl rfl rfl rfl rfl ?_;rw [Zmg.eq_1] at hm;have aa:=St.start col w0;refine go ?_;refine lM (.func (.func 90) #[] #[]) ?_;obtain ⟨ag,ae,hm⟩:=bZ hm;replace h0:=h0.keep (Zi.start col w0);refine Zk (Z1z ae (h0.ks aa)) ?_;rintro _ af ⟨rfl,ac⟩;refine ⟨_,rfl,?_⟩;replace ac:Zh (Zj col) w0 (Zj col) af:=.of_below ac;refine go ?_;cases hm;replace aa:=aa.grow ac;exact ⟨rfl,rfl,aa.below⟩
def Zdp (ab:R0):List Int→Int→Option Int
  | [],aa=>some aa
  | ad :: ae,aa=>(Zm ab.2.2.1 ad).bind fun ac=>(Zdp ab ae) (if 1099511627776<(i64.wrap (aa * (ac.length:Int))) then 1099511627776 else (i64.wrap (aa * (ac.length:Int))))
termination_by structural x=>x
def Zf0 (aa:R0) (ab:Int):Option Int:=
  (Zm aa.2.2.2.1 ab).bind fun ac=>Zdp aa ac 1
theorem Z0w {am an ao ap:Nat} {aq ar au av:Option Addr} {col:Ze} {w0:World} {aa:R0} {a0 r:Int} (hm:Zf0 aa a0=some r) (bc:Sl Za.str col w0 aq am aa.2.1) (ai:Sl (Za.slice Za.str) col w0 ar an aa.2.2.1) (aj:Sl (Za.slice (Za.int .i64)) col w0 au ao aa.2.2.2.1) (bd:Sl (Za.slice (Za.pair (Za.pair Za.bool (Za.slice (Za.int .u32))) (Za.slice (Za.int .u32)))) col w0 av ap aa.2.2.2.2):
    Calls prog 87 #[(.agg #[.string aa.1,.slice aq aa.2.1.length am,.slice ar aa.2.2.1.length an,.slice au aa.2.2.2.1.length ao,.slice av aa.2.2.2.2.length ap]),.int .i64 a0] w0 (fun e w'=>e= .returned ((.int .i64 r))∧Below w0.heap.size w0 w'):=by
 refine Xf 4 (m:=29) func87 rfl rfl rfl rfl rfl ?_;rw [Zf0.eq_1] at hm;have ab:=St.start col w0;refine go ?_;refine Xl (col:=(Zj col)) 1 rfl ?_;intro a1 be bf a2 ae;refine go ?_;refine Xd ae<|Xp rfl ?_;obtain ⟨af,aw,hm⟩:=bZ hm;replace aj:=aj.keep (Zi.start col w0);replace ab:=ab.grow a2;refine lI aw ((aj.ks ab).addr aw) ?_;obtain ⟨_,a3,a4⟩:=(aj.ks ab).atN aw;obtain ⟨⟨a5,a6,rfl,ac⟩,_⟩:=a3;refine lW a4.one<|go ?_;refine Zu [12,13,2,1000000] (fun n f ak=>∃ al ag ad ah,n=ah.length∧af.drop ag=ah∧Zdp aa ah ad=some r∧St w0 (Zj col) al ak∧Sl (Za.int .i64) al ak a5 a6 af∧Zf 27 1 al ak a1 #[.string aa.1,.slice aq aa.2.1.length am,.slice ar aa.2.2.1.length an,.slice au aa.2.2.2.1.length ao,.slice av aa.2.2.2.2.length ap]∧[14,5].map f=[.int .i64 ag,.int .i64 ad]) af.length ⟨_,0,1,_,rfl,rfl,hm,ab,ac,ae,rfl⟩ ?_;clear hm;intro n f ak hI;obtain ⟨al,ag,ad,ah,hn,hl,hm,ab,ac,ae,hs⟩:=hI;subst hn;refine .lL [14,5] hs ?_;replace ai:=ai.keep (Zi.start col w0)
 cases ah with
 | nil=>
  have hk:¬ ((ag:Int)<(af.length:Int)):=by have:=List.drop_eq_nil_iff.1 hl;omega
  have hkb:=decide_eq_false hk;rw [Zdp.eq_1] at hm;refine go ?_;refine Xs (congrArg Value.bool hkb)<|go ?_;cases hm;exact ⟨rfl,rfl,ab.below⟩
 | cons bg a7=>
  obtain ⟨ax,a8,a9⟩:=X3 hl;have hk:(ag:Int)<(af.length:Int):=by omega
  have hkb:=decide_eq_true hk;rw [Zdp.eq_2] at hm;refine go ?_;refine Xt (congrArg Value.bool hkb)<|go ?_;refine lI ax (ac.addr ax)<|lW (ac.atInt ax) ?_;refine go ?_;refine Xd ae<|Xp rfl ?_;obtain ⟨ay,az,hm⟩:=bZ hm;refine lI az ((ai.ks ab).addr az) ?_;obtain ⟨_,ba,bb⟩:=(ai.ks ab).atN az;obtain ⟨⟨bh,bi,rfl,bj⟩,_⟩:=ba;refine lW bb.one<|go ?_;refine lV (.int .i64 (if 1099511627776<(i64.wrap (ad * (ay.length:Int))) then 1099511627776 else (i64.wrap (ad * (ay.length:Int))))) (Zjt (i64.wrap (ad * (ay.length:Int))) 1099511627776 rfl rfl)<|go ?_;exact ⟨a7.length,by simp,rfl,⟨_,_,_,_,rfl,a8,hm,ab,ac,ae,(X5 (congrArg (Value.int .i64) (X2 (Nat.lt_of_lt_of_le a9 ac.1.1))) rfl)⟩⟩
def Zb5 (N:Nat) (ab:R0):List R7→Nat→Option Int
  | [],aa=>some 0
  | ac :: ad,aa=>(Zm ab.2.2.1 (aa:Int)).bind fun ae=>(Zfw N ac).bind fun af=>(Zie N af (ae.length:Int)).bind fun ag=>if (!ag)=true then (some 46) else ((Zb5 N ab ad) (aa+1))
termination_by structural x=>x
def Zay (N:Nat) (aa:R0):List R7→Option Int
  | []=>Zb5 N aa aa.2.2.2.2 0
  | ab :: ac=>(Zfw N ab).bind fun ad=>(Zmg N ad).bind fun ae=>if ae=true then (some 45) else (Zay N aa ac)
termination_by structural x=>x
def Zax (N:Nat) (aa:R0):List R7→Nat→Option Int
  | [],ab=>Zay N aa aa.2.2.2.2
  | ae :: af,ab=>(Zf0 (aa.1,aa.2.1,aa.2.2.1,aa.2.2.2.1,aa.2.2.2.2) (ab:Int)).bind fun ac=>(Zm aa.2.2.1 (ab:Int)).bind fun ad=>if (decide (65536<(i64.wrap (ac * (ad.length:Int)))))=true then (some 4) else (if (!decide ((i64.wrap (ac * (ad.length:Int)))=(ae.length:Int)))=true then (some 60) else ((Zax N aa af) (ab+1)))
termination_by structural x=>x
def Q5 (N:Nat) (aa:R0) (ad:Bool):Option Int:=
  if ad=true then (some 60) else (if (decide (1024<(aa.2.1.length:Int)))=true then (some 4) else ((Zdn (aa.1,aa.2.1,aa.2.2.1,aa.2.2.2.1,aa.2.2.2.2)).bind fun ab=>if (!decide (ab=0))=true then (some ab) else ((S3 N aa.2.2.2.1).bind fun ac=>if (!decide (ac=0))=true then (some ac) else (Zax N aa aa.2.2.2.2 0))))
def W8 (N:Nat) (aa:R0):Option Int:=
  if (!decide ((aa.2.2.1.length:Int)=(aa.2.1.length:Int)))=true then (Q5 N aa true) else (if (!decide ((aa.2.2.2.1.length:Int)=(aa.2.1.length:Int)))=true then (Q5 N aa true) else (Q5 N aa (!decide ((aa.2.2.2.2.length:Int)=(aa.2.1.length:Int)))))
theorem Zhl {N aj ak al am:Nat} {an ao ap aq:Option Addr} {col:Ze} {w0:World} {ab:R0} {r:Int} (hm:W8 N ab=some r) (a2:Sl Za.str col w0 an aj ab.2.1) (ag:Sl (Za.slice Za.str) col w0 ao ak ab.2.2.1) (aw:Sl (Za.slice (Za.int .i64)) col w0 ap al ab.2.2.2.1) (ad:Sl (Za.slice (Za.pair (Za.pair Za.bool (Za.slice (Za.int .u32))) (Za.slice (Za.int .u32)))) col w0 aq am ab.2.2.2.2):
    Calls prog 20 #[(.agg #[.string ab.1,.slice an ab.2.1.length aj,.slice ao ab.2.2.1.length ak,.slice ap ab.2.2.2.1.length al,.slice aq ab.2.2.2.2.length am])] w0 (fun e w'=>e= .returned ((.int .i64 r))∧Below w0.heap.size w0 w'):=by
 refine Xf 2 (m:=103) func20 rfl rfl rfl rfl rfl ?_;rw [W8.eq_1] at hm;have aa:=St.start col w0;refine go ?_;refine Xl (col:=(Zj col)) 1 rfl ?_;intro a3 cp cq bo ac;refine go ?_;refine Xd ac<|lV _ (Qg underlying22 rfl)<|Yv rfl<|Zl<|Zs<|Zs ?_;replace a2:=a2.keep (Zi.start col w0);replace ag:=ag.keep (Zi.start col w0);replace aw:=aw.keep (Zi.start col w0);replace ad:=ad.keep (Zi.start col w0);replace aa:=aa.grow bo;refine Wp.cutK [1,3,1000000] (fun f a4=>∃ ah a9,Q5 N ab a9=some r∧St w0 (Zj col) ah a4∧Zf 27 1 ah a4 a3 #[.string ab.1,.slice an ab.2.1.length aj,.slice ao ab.2.2.1.length ak,.slice ap ab.2.2.2.1.length al,.slice aq ab.2.2.2.2.length am]∧[34].map f=[.bool a9]) ?_ ?_
 ·intro f a4 hJ;obtain ⟨ah,a9,hm,aa,ac,hs⟩:=hJ;rw [Q5.eq_1] at hm;refine .lL [34] hs ?_;refine Zo hm (fun hb hm=>go ?_) fun hb hm=>go ?_
  ·cases hm;exact ⟨rfl,rfl,aa.below⟩
  refine Zo hm (fun hb hm=>go ?_) fun hb hm=>go ?_
  ·cases hm;exact ⟨rfl,rfl,aa.below⟩
  refine lV _ (Z2 isAgg27 sizeOf27 ac) ?_;obtain ⟨cr,bp,hm⟩:=bZ hm;refine Zk (Z0u bp (a2.ks aa) (ag.ks aa) (aw.ks aa) (ad.ks aa)) ?_;rintro _ bk ⟨rfl,a5⟩;refine ⟨_,rfl,?_⟩;replace a5:Zh ah a4 ah bk:=.of_below a5;refine go ?_;replace ac:=ac.gr a5;replace aa:=aa.grow a5;refine Zo hm (fun hb hm=>go ?_) fun hb hm=>go ?_
  ·cases hm;exact ⟨rfl,rfl,aa.below⟩
  refine Xd ac ?_;obtain ⟨cs,bq,hm⟩:=bZ hm;refine Zk (Zz7 bq (aw.ks aa)) ?_;rintro _ br ⟨rfl,a6⟩;refine ⟨_,rfl,?_⟩;replace a6:Zh ah bk ah br:=.of_below a6;refine go ?_;replace ac:=ac.gr a6;replace aa:=aa.grow a6;refine Zo hm (fun hb hm=>go ?_) fun hb hm=>go ?_
  ·cases hm;exact ⟨rfl,rfl,aa.below⟩
  refine Xd ac ?_;refine go ?_;refine Zu [1,49,50,1000000] (fun n f ba=>∃ ae ar ax,n=ax.length∧ab.2.2.2.2.drop ar=ax∧Zax N ab ax ar=some r∧St w0 (Zj col) ae ba∧Zf 27 1 ae ba a3 #[.string ab.1,.slice an ab.2.1.length aj,.slice ao ab.2.2.1.length ak,.slice ap ab.2.2.2.1.length al,.slice aq ab.2.2.2.2.length am]∧[51].map f=[.int .i64 ar]) ab.2.2.2.2.length ⟨_,0,_,rfl,rfl,hm,aa,ac,rfl⟩ ?_;clear hm;intro n f ba hI;obtain ⟨ae,ar,ax,hn,hl,hm,aa,ac,hs⟩:=hI;subst hn;refine .lL [51] hs ?_
  cases ax with
  | nil=>
   have hk:¬ ((ar:Int)<(ab.2.2.2.2.length:Int)):=by have:=List.drop_eq_nil_iff.1 hl;omega
   have hkb:=decide_eq_false hk;rw [Zax.eq_1] at hm;refine go ?_;refine Xs (congrArg Value.bool hkb)<|go ?_;refine Xd ac ?_;refine go ?_;refine Zu [1,74,75,1000000] (fun n f bb=>∃ bc ay az,n=az.length∧ab.2.2.2.2.drop ay=az∧Zay N ab az=some r∧St w0 (Zj col) bc bb∧Zf 27 1 bc bb a3 #[.string ab.1,.slice an ab.2.1.length aj,.slice ao ab.2.2.1.length ak,.slice ap ab.2.2.2.1.length al,.slice aq ab.2.2.2.2.length am]∧[76].map f=[.int .i64 ay]) ab.2.2.2.2.length ⟨_,0,_,rfl,rfl,hm,aa,ac,rfl⟩ ?_;clear hm;intro n f bb hI;obtain ⟨bc,ay,az,hn,hl,hm,aa,ac,hs⟩:=hI;subst hn;refine .lL [76] hs ?_
   cases az with
   | nil=>
    have hk:¬ ((ay:Int)<(ab.2.2.2.2.length:Int)):=by have:=List.drop_eq_nil_iff.1 hl;omega
    have hkb:=decide_eq_false hk;rw [Zay.eq_1] at hm;refine go ?_;refine Xs (congrArg Value.bool hkb)<|go ?_;refine Xd ac ?_;refine go ?_;refine Zu [1,85,86,1000000] (fun n f bd=>∃ ai au a0,n=a0.length∧ab.2.2.2.2.drop au=a0∧Zb5 N ab a0 au=some r∧St w0 (Zj col) ai bd∧Zf 27 1 ai bd a3 #[.string ab.1,.slice an ab.2.1.length aj,.slice ao ab.2.2.1.length ak,.slice ap ab.2.2.2.1.length al,.slice aq ab.2.2.2.2.length am]∧[87].map f=[.int .i64 au]) ab.2.2.2.2.length ⟨_,0,_,rfl,rfl,hm,aa,ac,rfl⟩ ?_;clear hm;intro n f bd hI;obtain ⟨ai,au,a0,hn,hl,hm,aa,ac,hs⟩:=hI;subst hn;refine .lL [87] hs ?_
    cases a0 with
    | nil=>
     have hk:¬ ((au:Int)<(ab.2.2.2.2.length:Int)):=by have:=List.drop_eq_nil_iff.1 hl;omega
     have hkb:=decide_eq_false hk;rw [Zb5.eq_1] at hm;refine go ?_;refine Xs (congrArg Value.bool hkb)<|go ?_;cases hm;exact ⟨rfl,rfl,aa.below⟩
    | cons ct bs=>
     obtain ⟨af,bt,bu⟩:=X3 hl;have hk:(au:Int)<(ab.2.2.2.2.length:Int):=by omega
     have hkb:=decide_eq_true hk;rw [Zb5.eq_2] at hm;refine go ?_;refine Xt (congrArg Value.bool hkb)<|go ?_;refine lI af ((ad.ks aa).addr af) ?_;obtain ⟨_,bv,bw⟩:=(ad.ks aa).atN af;obtain ⟨⟨cu,cv,rfl,be⟩,_⟩:=bv;refine lW bw.one<|go ?_;refine Wh (col:=ai) [(0,1),(2,1),(3,0),(4,1),(5,1),(6,0),(7,1),(1,3),(8,3),(9,1)] (by kernel_rfl) (by kernel_rfl)<|xu rfl rfl (fun _=>Uj rfl) ?_;refine xF ⟨_,_,rfl⟩ ?_;refine xW (fun _ hC=>((ac.atN).nth (q:=2) rfl).gr (hC.bl ai)) ?_;refine xu rfl rfl (fun _=>Yh rfl) ?_;obtain ⟨cw,a7,hm⟩:=bZ hm;refine xu rfl rfl (fun _=>Ym underlying23 sizeOf22 rfl rfl (Z4 a7).1 (Z4 a7).2.1 ((ag.ks aa).addr a7)) ?_;obtain ⟨_,bx,bz⟩:=(ag.ks aa).atN a7;obtain ⟨⟨cx,cy,rfl,cz⟩,_⟩:=bx;refine xW (fun _ hC=>bz.one.gr (hC.bl ai)) ?_;refine xu rfl rfl (fun _=>Qg underlying22 rfl) ?_;refine xe rfl rfl ?_;intro c0 hC0;have hC:=hC0.bl ai;obtain ⟨c1,b0,hm⟩:=bZ hm;replace be:=be.gr hC;refine Zk (Zr2 2 b0 be) ?_;rintro _ c2 ⟨av,c3,c4,rfl,bf,bg⟩;refine ⟨_,rfl,?_⟩;refine Zl<|Xo av hC0 bf<|xe rfl rfl ?_;intro b1 hC0;replace ac:=(ac.gr hC).gr bf;replace aa:=(aa.grow hC).grow bf;have hC:=hC0.bl av;obtain ⟨c5,b2,hm⟩:=bZ hm;replace bg:=bg.gr hC;refine Zk (Z0y b2 (bg.toSlF (Zd.pair (Zd.pair Zd.bool Zd.slice) Zd.slice))) ?_;rintro _ b3 ⟨rfl,a1⟩;refine ⟨_,rfl,?_⟩;replace a1:Zh av b1 av b3:=.of_below a1;refine Zl<|Xo av hC0 a1<|xu rfl rfl (fun _=>Zqo _ rfl) ?_;refine Y2 ?_;replace ac:=(ac.gr hC).gr a1;replace aa:=(aa.grow hC).grow a1;intro c6 hC;replace hC:=hC.bl av;replace ac:=ac.gr hC;replace aa:=aa.grow hC;refine Zo hm (fun hb hm=>go ?_) fun hb hm=>go ?_
     ·cases hm;exact ⟨rfl,rfl,aa.below⟩
     exact ⟨bs.length,by simp,rfl,⟨_,_,_,rfl,bt,hm,aa,ac,(X5 (congrArg (Value.int .i64) (X2 (Nat.lt_of_lt_of_le bu (ad.ks aa).1.1))) rfl)⟩⟩
   | cons c7 b4=>
    obtain ⟨af,b5,b6⟩:=X3 hl;have hk:(ay:Int)<(ab.2.2.2.2.length:Int):=by omega
    have hkb:=decide_eq_true hk;rw [Zay.eq_2] at hm;refine go ?_;refine Xt (congrArg Value.bool hkb)<|go ?_;refine lI af ((ad.ks aa).addr af) ?_;obtain ⟨_,b7,b8⟩:=(ad.ks aa).atN af;obtain ⟨⟨c8,c9,rfl,b9⟩,_⟩:=b7;refine lW b8.one<|go ?_;obtain ⟨da,ca,hm⟩:=bZ hm;refine Zk (Zr2 3 ca b9) ?_;rintro _ cb ⟨bm,db,dc,rfl,bn,cc⟩;refine ⟨_,rfl,?_⟩;obtain ⟨dd,cd,hm⟩:=bZ hm;refine Zk (Z1w cd (cc.toSlF (Zd.pair (Zd.pair Zd.bool Zd.slice) Zd.slice))) ?_;rintro _ ce ⟨rfl,a8⟩;refine ⟨_,rfl,?_⟩;replace a8:Zh bm cb bm ce:=.of_below a8;refine Zl ?_;replace ac:=(ac.gr bn).gr a8;replace aa:=(aa.grow bn).grow a8;refine Zo hm (fun hb hm=>go ?_) fun hb hm=>go ?_
    ·cases hm;exact ⟨rfl,rfl,aa.below⟩
    exact ⟨b4.length,by simp,rfl,⟨_,_,_,rfl,b5,hm,aa,ac,(X5 (congrArg (Value.int .i64) (X2 (Nat.lt_of_lt_of_le b6 (ad.ks aa).1.1))) rfl)⟩⟩
  | cons de cf=>
   obtain ⟨af,cg,ch⟩:=X3 hl;have hk:(ar:Int)<(ab.2.2.2.2.length:Int):=by omega
   have hkb:=decide_eq_true hk;rw [Zax.eq_2] at hm;refine go ?_;refine Xt (congrArg Value.bool hkb)<|go ?_;refine lI af ((ad.ks aa).addr af) ?_;obtain ⟨_,ci,cj⟩:=(ad.ks aa).atN af;obtain ⟨⟨df,dg,rfl,dh⟩,_⟩:=ci;refine lW cj.one<|go ?_;refine Vj (col:=ae) (by kernel_rfl) (by kernel_rfl)<|qv rfl (fun _ hC=>Z2 isAgg27 sizeOf27 (ac.gr (hC.bl ae))) ?_;refine go ?_;obtain ⟨ck,cl,hm⟩:=bZ hm;refine qc (v:=(.int .i64 ck)) rfl (fun _ hC=>⟨_,_,Zjr call87 rfl rfl,(Z0w cl ((a2.ks aa).gr (hC.bl ae)) ((ag.ks aa).gr (hC.bl ae)) ((aw.ks aa).gr (hC.bl ae)) ((ad.ks aa).gr (hC.bl ae)):).mono fun _ _ h=>⟨h.1,hC.trans (.of_below h.2)⟩⟩) ?_;refine qF ⟨_,_,rfl⟩ ?_;refine qW (fun _ hC=>((ac.atN).nth (q:=2) rfl).gr (hC.bl ae)) ?_;refine go ?_;obtain ⟨di,bh,hm⟩:=bZ hm;refine qI bh ((ag.ks aa).addr bh) ?_;obtain ⟨_,cn,co⟩:=(ag.ks aa).atN bh;obtain ⟨⟨dj,dl,rfl,dm⟩,_⟩:=cn;refine qW (fun _ hC=>co.one.gr (hC.bl ae)) ?_;refine go ?_;refine Ws ?_;intro dn hC;replace hC:=hC.bl ae;refine go ?_;replace ac:=ac.gr hC;replace aa:=aa.grow hC;refine Zo hm (fun hb hm=>go ?_) fun hb hm=>go ?_
   ·cases hm;exact ⟨rfl,rfl,aa.below⟩
   refine Zo hm (fun hb hm=>go ?_) fun hb hm=>go ?_
   ·cases hm;exact ⟨rfl,rfl,aa.below⟩
   exact ⟨cf.length,by simp,rfl,⟨_,_,_,rfl,cg,hm,aa,ac,(X5 (congrArg (Value.int .i64) (X2 (Nat.lt_of_lt_of_le ch (ad.ks aa).1.1))) rfl)⟩⟩
 refine Wl<|Xd ac ?_;refine go ?_;refine Yc hm (fun bi hm=>go ?_) fun bi hm=>go ?_
 ·refine lV (.bool true) (Xr (congrArg Value.bool bi) rfl)<|W2 rfl<|lP 28 rfl rfl<|lP 28 rfl rfl<|lP 28 rfl rfl<|lP 28 rfl rfl<|lP 28 rfl rfl<|lV (.bool true) (Xr rfl rfl)<|Zl ?_;exact ⟨rfl,_,_,hm,aa,ac,rfl⟩
 refine Ya ⟨_,_,rfl⟩ ?_;refine go ?_;refine lW ((ac.atN).nth (q:=3) rfl)<|go ?_;refine lV (.bool (!decide ((ab.2.2.2.1.length:Int)=(ab.2.1.length:Int)))) (Xq (congrArg Value.bool bi) rfl)<|W2 rfl ?_;refine Yc hm (fun bj hm=>go ?_) fun bj hm=>go ?_
 ·refine lV (.bool true) (Xr (congrArg Value.bool bj) rfl)<|Zl ?_;exact ⟨rfl,_,_,hm,aa,ac,rfl⟩
 refine Ya ⟨_,_,rfl⟩ ?_;refine go ?_;refine lW ((ac.atN).nth (q:=4) rfl)<|go ?_;refine lV (.bool (!decide ((ab.2.2.2.2.length:Int)=(ab.2.1.length:Int)))) (Xq (congrArg Value.bool bj) rfl)<|Zl ?_;exact ⟨rfl,_,_,hm,aa,ac,rfl⟩
def Zd7 (N:Nat) (ab:R0):Nat→R5→Int→Option R5
  | 0,_,_=>none
  | ae+1,aa,ac=>if (decide (ac<(ab.2.2.1.length:Int)))=true then ((Zm ab.2.2.1 ac).bind fun ad=>Zt ((aa.length+[(ad.length:Int)].length) * 8≤140737488355328∧aa.length+[(ad.length:Int)].length≤maxLen) ((Zd7 N ab ae) (aa++[(ad.length:Int)]) (i64.wrap (ac+1)))) else (some aa)
termination_by structural x=>x
def Zgp (N:Nat) (aa:R0):Option R5:=
  Zd7 N aa N ([]:List Int) 0
theorem Z1k {N aj ak al am:Nat} {an ao ap aq:Option Addr} {col:Ze} {w0:World} {aa:R0} {r:R5} (c1:Nat) (hm:Zgp N aa=some r) (a7:Sl Za.str col w0 an aj aa.2.1) (af:Sl (Za.slice Za.str) col w0 ao ak aa.2.2.1) (a8:Sl (Za.slice (Za.int .i64)) col w0 ap al aa.2.2.2.1) (a9:Sl (Za.slice (Za.pair (Za.pair Za.bool (Za.slice (Za.int .u32))) (Za.slice (Za.int .u32)))) col w0 aq am aa.2.2.2.2):
    Calls prog 92 #[(.agg #[.string aa.1,.slice an aa.2.1.length aj,.slice ao aa.2.2.1.length ak,.slice ap aa.2.2.2.1.length al,.slice aq aa.2.2.2.2.length am])] w0 (fun e w'=>∃ (col':Ze) (ra1:Option Addr) (rc2:Nat),e= .returned ((.slice ra1 r.length rc2))∧Zh col w0 col' w'∧Zb (Za.int .i64) 3 c1 col' w' ra1 rc2 r):=by
 refine Xf 2 (m:=22) func92 rfl rfl rfl rfl rfl ?_;rw [Zgp.eq_1] at hm;have ab:=St.start col w0;refine go ?_;refine Xl (col:=(Zj col)) 1 rfl ?_;intro az ba bb a0 ac;refine go ?_;replace ab:=ab.grow a0;refine Zu [1,1000000] (fun n f ag=>∃ ae ar au ah av ad,ad=n∧Zd7 N aa ad ah av=some r∧St w0 (Zj col) ae ag∧Zf 27 1 ae ag az #[.string aa.1,.slice an aa.2.1.length aj,.slice ao aa.2.2.1.length ak,.slice ap aa.2.2.2.1.length al,.slice aq aa.2.2.2.2.length am]∧Zb (Za.int .i64) 3 2 ae ag ar au ah∧[3,4].map f=[.slice ar ah.length au,.int .i64 av]) N ⟨_,none,0,_,0,_,rfl,hm,ab,ac,Zb.nil,rfl⟩ ?_;clear hm;intro n f ag hI;obtain ⟨ae,ar,au,ah,av,ad,hn,hm,ab,ac,ai,hs⟩:=hI;subst hn;refine .lL [3,4] hs ?_;replace af:=af.keep (Zi.start col w0)
 cases ad with
 | zero=>rw [Zd7.eq_1] at hm;cases hm
 | succ ad=>
  rw [Zd7.eq_2] at hm;refine go ?_;refine Xd ac ?_;refine go ?_;refine Zo hm (fun hb hm=>go ?_) fun hb hm=>go ?_
  ·refine Xd ac<|Xp rfl ?_;obtain ⟨a1,aw,hm⟩:=bZ hm;refine lI aw ((af.ks ab).addr aw) ?_;obtain ⟨_,a2,a3⟩:=(af.ks ab).atN aw;obtain ⟨⟨bc,bd,rfl,be⟩,_⟩:=a2;refine lW a3.one<|go ?_;refine Vg (col:=ae) [(a1.length:Int)] 3 ?_;intro bf bg bh ax a4;obtain ⟨a5,hm⟩:=Z3 hm;replace ai:=ai.gr ax;refine W7 ai (a4.srcN (NB.int (k:=.i64))) a5 ?_;intro bi bj bk bm ay a6;refine go ?_;replace ac:=(ac.gr ax).kpp ay;replace ab:=(ab.grow ax).kpp ay;exact ⟨ad,by omega,rfl,⟨_,_,_,_,_,_,rfl,hm,ab,ac,a6,rfl⟩⟩
  cases hm;exact ⟨rfl,_,_,_,rfl,ab.fin (cm [(2,c1)]),ab.fo ai⟩
def Zgm (aa:Int) (kk_L2:(Int→Int→Option Int)) (ab:Int):Option Int:=
  kk_L2 ab (i64.wrap (aa+1))
def Za5 (N:Nat) (aa:List Int) (ac:List Int):Nat→Int→Int→Option Int
  | 0,_,_=>none
  | af+1,ad,ab=>if (decide (ab<(aa.length:Int)))=true then ((Zm aa ab).bind fun ag=>(Zm ac ag).bind fun ae=>Zt (ae≠0) (if (decide ((i64.wrap (Int.tdiv 1099511627776 ae))<ad))=true then (Zgm ab (Za5 N aa ac af) 1099511627776) else (Zgm ab (Za5 N aa ac af) (i64.wrap (ad * ae))))) else (some ad)
termination_by structural x=>x
def Zd4 (N:Nat) (aa:List Int) (ab:List Int):Nat→Int→Option Int
  | 0,_=>none
  | ad+1,ac=>if (decide (ac<(aa.length:Int)))=true then ((Zm aa ac).bind fun ae=>(Zm ab ae).bind fun af=>if (decide (af<1))=true then (some 0) else ((Zd4 N aa ab ad) (i64.wrap (ac+1)))) else (Za5 N aa ab N 1 0)
termination_by structural x=>x
def Ziz (N:Nat) (aa:List Int) (ab:List Int):Option Int:=
  Zd4 N aa ab N 0
theorem Z1h {N an ao:Nat} {a0 a1:Option Addr} {col:Ze} {w0:World} {ac ad:R5} {r:Int} (hm:Ziz N ac ad=some r) (h0:Sl (Za.int .i64) col w0 a0 an ac) (h1:Sl (Za.int .i64) col w0 a1 ao ad):
    Calls prog 93 #[.slice a0 ac.length an,.slice a1 ad.length ao] w0 (fun e w'=>e= .returned ((.int .i64 r))∧Below w0.heap.size w0 w'):=by
 refine Xf 4 (m:=48) func93 rfl rfl rfl rfl rfl ?_;rw [Ziz.eq_1] at hm;have aa:=St.start col w0;refine go ?_;refine Zu [0,1,1000000] (fun n f ap=>∃ aq ai ae,ae=n∧Zd4 N ac ad ae ai=some r∧St w0 (Zj col) aq ap∧[5].map f=[.int .i64 ai]) N ⟨_,0,_,rfl,hm,aa,rfl⟩ ?_;clear hm;intro n f ap hI;obtain ⟨aq,ai,ae,hn,hm,aa,hs⟩:=hI;subst hn;refine .lL [5] hs ?_;replace h0:=h0.keep (Zi.start col w0);replace h1:=h1.keep (Zi.start col w0)
 cases ae with
 | zero=>rw [Zd4.eq_1] at hm;cases hm
 | succ ae=>
  rw [Zd4.eq_2] at hm;refine go ?_;refine Zo hm (fun hb hm=>go ?_) fun hb hm=>go ?_
  ·obtain ⟨az,aj,hm⟩:=bZ hm;refine lI aj ((h0.ks aa).addr aj)<|lW ((h0.ks aa).atInt aj) ?_;obtain ⟨a2,ak,hm⟩:=bZ hm;refine lI ak ((h1.ks aa).addr ak)<|lW ((h1.ks aa).atInt ak) ?_;refine go ?_;refine Zo hm (fun hb hm=>go ?_) fun hb hm=>go ?_
   ·cases hm;exact ⟨rfl,rfl,aa.below⟩
   exact ⟨ae,by omega,rfl,⟨_,_,_,rfl,hm,aa,rfl⟩⟩
  refine Zu [0,1,1000000] (fun n f ar=>∃ au al ah ab,ab=n∧Za5 N ac ad ab al ah=some r∧St w0 (Zj col) au ar∧[6,7].map f=[.int .i64 al,.int .i64 ah]) N ⟨_,1,0,_,rfl,hm,aa,rfl⟩ ?_;clear hm;intro n f ar hI;obtain ⟨au,al,ah,ab,hn,hm,aa,hs⟩:=hI;subst hn;refine .lL [6,7] hs ?_
  cases ab with
  | zero=>rw [Za5.eq_1] at hm;cases hm
  | succ ab=>
   rw [Za5.eq_2] at hm;refine go ?_;refine Zo hm (fun hb hm=>?_) fun hb hm=>go ?_
   ·refine X0<|Zs ?_;refine Wp.cutK [0,1,7,1000000] (fun f av=>∃ aw am,Zgm ah (Za5 N ac ad ab) am=some r∧St w0 (Zj col) aw av∧[6].map f=[.int .i64 am]) ?_ ?_
    ·intro f av hJ;obtain ⟨aw,am,hm,aa,hs⟩:=hJ;rw [Zgm.eq_1] at hm;refine .lL [6] hs<|go ?_;exact ⟨ab,by omega,rfl,⟨_,_,_,_,rfl,hm,aa,rfl⟩⟩
    refine go ?_;obtain ⟨a3,af,hm⟩:=bZ hm;refine lI af ((h0.ks aa).addr af)<|lW ((h0.ks aa).atInt af) ?_;obtain ⟨ax,ag,hm⟩:=bZ hm;refine lI ag ((h1.ks aa).addr ag)<|lW ((h1.ks aa).atInt ag) ?_;obtain ⟨ay,hm⟩:=Z3 hm;refine lV (.int .i64 (i64.wrap (Int.tdiv 1099511627776 ax))) (Sp 1099511627776 ax rfl rfl ay)<|go ?_;refine Zo hm (fun hb hm=>go ?_) fun hb hm=>go ?_
    ·exact ⟨rfl,_,1099511627776,hm,aa,rfl⟩
    refine lI af ((h0.ks aa).addr af)<|lW ((h0.ks aa).atInt af)<|lI ag ((h1.ks aa).addr ag)<|lW ((h1.ks aa).atInt ag) ?_;refine go ?_;exact ⟨rfl,_,_,hm,aa,rfl⟩
   cases hm;exact ⟨rfl,rfl,aa.below⟩
def Zi1 (aa:Bool):Option Bool:=
  some aa
def Zi0 (ab:Int) (aa:Int):Option Bool:=
  if (decide (0<aa))=true then (Zt (aa≠0) (Zi1 (decide ((i64.wrap (Int.tdiv 65536 aa))<ab)))) else (Zi1 false)
theorem Z1i {col:Ze} {w0:World} {ac aa:Int} {r:Bool} (hm:Zi0 ac aa=some r):
    Calls prog 94 #[.int .i64 ac,.int .i64 aa] w0 (fun e w'=>e= .returned ((.bool r))∧Below w0.heap.size w0 w'):=by
 refine Xf 4 (m:=13) func94 rfl rfl rfl rfl rfl ?_;rw [Zi0.eq_1] at hm;have ab:=St.start col w0;refine Zs<|Wl<|Zk1 rfl<|Zl<|Zs ?_;refine Wp.cutK [1000000] (fun f af=>∃ ag ad,Zi1 ad=some r∧St w0 (Zj col) ag af∧[4].map f=[.bool ad]) ?_ ?_
 ·intro f af hJ;obtain ⟨ag,ad,hm,ab,hs⟩:=hJ;rw [Zi1.eq_1] at hm;refine .lL [4] hs<|Vc ?_;cases hm;exact ⟨rfl,rfl,ab.below⟩
 refine go ?_;refine Yc hm (fun ae hm=>go ?_) fun ae hm=>go ?_
 ·obtain ⟨ah,hm⟩:=Z3 hm;refine lV (.int .i64 (i64.wrap (Int.tdiv 65536 aa))) (Sp 65536 aa rfl rfl ah)<|go ?_;refine lV (.bool (decide ((i64.wrap (Int.tdiv 65536 aa))<ac))) (Xr (congrArg Value.bool ae) rfl)<|go ?_;exact ⟨rfl,_,_,hm,ab,rfl⟩
 refine lV (.bool false) (Xq (congrArg Value.bool ae) rfl)<|go ?_;exact ⟨rfl,_,_,hm,ab,rfl⟩
abbrev Zr:=ByteArray×List ByteArray×List R6×List R5×List (List QV)
instance decMemB:∀ (s:ByteArray) (l:List ByteArray),Decidable (s ∈ l)
 | _,[]=>isFalse (by simp)
 | s,x :: l=>if h:s=x then isTrue (by rw [h];exact List.mem_cons_self) else match decMemB s l with
  | isTrue h2=>isTrue (List.mem_cons_of_mem _ h2)
  | isFalse h2=>isFalse (by rw [List.mem_cons];rintro (h3 | h3) <;> contradiction)
theorem Zt3 (s:ByteArray):∀ (l:List ByteArray) (k:Nat),∃ j:Int,Zef s l k=some j∧(0≤j↔s ∈ l)
 | [],k=>⟨-1,rfl,by simp⟩
 | x :: l,k=>by
  rw [Zef.eq_2]
  by_cases h:s=x
  ·rw [if_pos (dT h)];exact ⟨_,rfl,by simp [h]⟩
  ·rw [if_neg (dF h)]
   obtain ⟨j,h1,h2⟩:=Zt3 s l (k+1)
   exact ⟨j,h1,by rw [h2,List.mem_cons];simp [h]⟩
theorem Z2j (s:ByteArray) (l:List ByteArray):Zjb l s=some (decide (s ∈ l)):=by
 obtain ⟨j,h1,h2⟩:=Zt3 s l 0
 rw [Zjb,Zmi,h1,oB]
 congr 1
 exact decide_eq_decide.2 h2
theorem Zvf:∀ (l:List ByteArray) (seen:List (ByteArray×Int)) (S:List ByteArray),S.Nodup→(∀ k,Wi seen k=if k ∈ S then some 1 else none)→Zb9 l seen=some (!decide (S++l).Nodup)
 | [],seen,S,h1,h2=>by rw [Zb9.eq_1,List.append_nil,decide_eq_true h1];rfl
 | x :: l,seen,S,h1,h2=>by
  rw [Zb9.eq_2,h2 x]
  by_cases hx:x ∈ S
  ·rw [if_pos hx,if_pos (by decide),decide_eq_false]
   ·rfl
   intro h
   exact (List.nodup_append.1 h).2.2 x hx x List.mem_cons_self rfl
  ·rw [if_neg hx,if_neg (by decide),oB,Zvf l _ (S++[x]) (by
    rw [List.nodup_append]
    refine ⟨h1,by simp,fun a ha b hb e=>?_⟩
    rw [List.mem_singleton] at hb;subst hb;subst e;exact hx ha) (fun k=>by
    rw [Zu7,h2 k]
    by_cases hk:k=x
    ·subst hk;rw [if_pos rfl,if_pos (by simp)]
    ·rw [if_neg hk]
     by_cases hs:k ∈ S
     ·rw [if_pos hs,if_pos (by simp [hs])]
     ·rw [if_neg hs,if_neg (by simp [hs,hk])])]
   rw [List.append_assoc];rfl
theorem Z4g (l:List ByteArray):Zid l=some (!decide l.Nodup):=by
 rw [Zid,Zvf l [] [] .nil (fun k=>by simp [Wi]),List.nil_append]
def Q9 (names:List ByteArray) (vals:List R6):Nat→Nat→Int
 | 0,_=>0
 | m+1,v=>if names.getD v ⟨#[]⟩ ∈ names.take v∨¬ (vals.getD v []).Nodup then 40 else if vals.getD v []=[] then 43 else Q9 names vals m (v+1)
theorem Zvk (n:Zr) (hl:n.2.2.1.length=n.2.1.length):∀ (l:List ByteArray) (k:Nat),n.2.1.drop k=l→k≤n.2.1.length→Zaz n l k=some (Q9 n.2.1 n.2.2.1 l.length k)
 | [],k,_,_=>rfl
 | x :: l,k,hd,hk=>by
  have hk1:k<n.2.1.length:=by
   rcases Nat.lt_or_ge k n.2.1.length with h | h
   ·exact h
   ·rw [List.drop_eq_nil_of_le h] at hd;cases hd
  have hd2:=List.drop_eq_getElem_cons hk1
  rw [hd] at hd2
  obtain ⟨hx,hl2⟩:=List.cons.inj hd2
  rw [Zaz.eq_2,Z9 (by omega),Int.toNat_natCast,Z2j,oB,nC,Q9,Xx hk1,← hx,Xx (by omega)]
  by_cases h1:x ∈ n.2.1.take k
  ·rw [if_pos (dT h1),Zfx,if_pos rfl,if_pos (.inl h1)]
  ·rw [if_neg (dF h1),Z5 (by omega),oB,Z4g,oB,Zfx]
   by_cases h2:(n.2.2.1[k]'(by omega)).Nodup
   ·rw [decide_eq_true h2,if_neg (by decide),if_neg (by simp [h1,h2]),Z5 (by omega),oB]
    by_cases h3:n.2.2.1[k]'(by omega)=[]
    ·rw [if_pos (by rw [h3];decide),if_pos h3]
    ·rw [if_neg (by simpa using h3),if_neg h3]
     exact Zvk n hl l (k+1) hl2.symm (by omega)
   ·rw [decide_eq_false h2,if_pos (by decide),if_pos (.inr h2)]
theorem Zvl (n:Zr) (hl:n.2.2.1.length=n.2.1.length):Zdn n=some (Q9 n.2.1 n.2.2.1 n.2.1.length 0):=by
 rw [Zdn];exact Zvk n hl n.2.1 0 (by simp) (by omega)
theorem Zvn {names:List ByteArray} {vals:List R6}:∀ (m v:Nat),Q9 names vals m v=0→∀ i,v≤i→i<v+m→vals.getD i []≠[]∧(vals.getD i []).Nodup∧names.getD i ⟨#[]⟩ ∉ names.take i
 | 0,v,_,i,h1,h2=>by omega
 | m+1,v,h,i,h1,h2=>by
  rw [Q9] at h
  by_cases h3:names.getD v ⟨#[]⟩ ∈ names.take v∨¬ (vals.getD v []).Nodup
  ·rw [if_pos h3] at h;cases h
  ·rw [if_neg h3] at h
   by_cases h4:vals.getD v []=[]
   ·rw [if_pos h4] at h;cases h
   ·rw [if_neg h4] at h
    rcases Nat.lt_or_ge v i with h5 | h5
    ·exact Zvn m (v+1) h i (by omega) (by omega)
    ·have:i=v:=by omega
     subst this
     exact ⟨h4,by simpa using (not_or.1 h3).2,(not_or.1 h3).1⟩
def Yg (vals:List R6):List Int→Nat→Nat
 | [],k=>k
 | p :: ps,k=>Yg vals ps (min (k * (vals.getD p.toNat []).length) 1099511627776)
theorem Zx8 (vals:List R6):∀ (ps:List Int) (k:Nat),k≤1099511627776→Yg vals ps k≤1099511627776
 | [],k,h=>h
 | p :: ps,k,h=>Zx8 vals ps _ (by omega)
theorem Zpz {a b:Nat} (h:a≤1099511627776) (g:b≤1048576):a * b≤1152921504606846976:=by
 have:=Nat.mul_le_mul h g
 simpa using this
theorem Zve (n:Zr) (hb:∀ l ∈ n.2.2.1,l.length≤1048576):∀ (ps:List Int) (k:Nat),k≤1099511627776→(∀ p ∈ ps,0≤p∧p<(n.2.2.1.length:Int))→Zdp n ps (k:Int)=some (Yg n.2.2.1 ps k:Int)
 | [],k,_,_=>rfl
 | p :: ps,k,hk,hp=>by
  have h1:=hp p List.mem_cons_self
  have h2:p.toNat<n.2.2.1.length:=by omega
  have h3:=hb _ (List.getElem_mem h2)
  have h4:=Zpz hk h3
  rw [Zdp.eq_2,show p=((p.toNat:Nat):Int) by omega,Z5 h2,oB,Yg,Int.toNat_natCast,Xx h2,← Int.natCast_mul,Z0 (by omega)]
  have ih:=Zve n hb ps (min (k * n.2.2.1[p.toNat].length) 1099511627776) (by omega) (fun q hq=>hp q (List.mem_cons_of_mem _ hq))
  rw [← ih]
  congr 1
  by_cases h5:1099511627776<k * n.2.2.1[p.toNat].length
  ·rw [if_pos (by omega),Nat.min_eq_right (by omega)];rfl
  ·rw [if_neg (by omega),Nat.min_eq_left (by omega)]
theorem Zyi (N:Nat) (n:Zr) (hl:n.2.2.1.length≤1048576):∀ (m i:Nat) (out:List Int),i≤n.2.2.1.length→n.2.2.1.length<m+i→out=(n.2.2.1.take i).map (fun l=>(l.length:Int))→Zd7 N n m out (i:Int)=some (n.2.2.1.map fun l=>(l.length:Int))
 | 0,i,out,h1,h2,_=>by omega
 | m+1,i,out,h1,h2,h3=>by
  rw [Zd7.eq_2]
  have lo:out.length=i:=by rw [h3,List.length_map,nK];omega
  by_cases hi:i<n.2.2.1.length
  ·rw [if_pos (dT (by omega)),Z5 hi,oB,Z9 (by simp only [List.length_singleton,maxLen];omega),Z0 (by omega)]
   exact Zyi N n hl m (i+1) _ (by omega) (by omega) (by rw [h3,List.take_add_one,List.getElem?_eq_getElem hi,Option.toList_some,List.map_append];rfl)
  ·rw [if_neg (dF (by omega)),h3,List.take_of_length_le (by omega)]
theorem Z6d {N:Nat} {n:Zr} (hl:n.2.2.1.length≤1048576) (hN:1048576<N):Zgp N n=some (n.2.2.1.map fun l=>(l.length:Int)):=by
 rw [Zgp]
 exact Zyi N n hl N 0 [] (by omega) (by omega) (by simp)
theorem Zq3 {vals:List R6} {i:Nat} (h:i<vals.length):Zm (vals.map fun l=>(l.length:Int)) (i:Int)=some (vals[i].length:Int):=by
 rw [Z5 (by rw [List.length_map];exact h),List.getElem_map]
theorem Zn8 (N:Nat) (ps:List Int) (vals:List R6) (hb:∀ l ∈ vals,l.length≤1048576) (hne:∀ l ∈ vals,l≠[]) (hp:∀ p ∈ ps,0≤p∧p<(vals.length:Int)) (hps:ps.length≤1048576):∀ (m i k:Nat),i≤ps.length→ps.length<m+i→k≤1099511627776→
  Za5 N ps (vals.map fun l=>(l.length:Int)) m (k:Int) (i:Int)=some (Yg vals (ps.drop i) k:Int)
 | 0,i,k,h1,h2,_=>by omega
 | m+1,i,k,h1,h2,h3=>by
  rw [Za5.eq_2]
  by_cases hi:i<ps.length
  ·have h4:=hp _ (List.getElem_mem hi)
   have h5:(ps[i]).toNat<vals.length:=by omega
   have h6:=hb _ (List.getElem_mem h5)
   have h7:0<vals[(ps[i]).toNat].length:=List.length_pos_iff.2 (hne _ (List.getElem_mem h5))
   have h8:=Zpz h3 h6
   rw [if_pos (dT (by omega)),Z5 hi,oB]
   conv=>lhs;rw [show ps[i]=(((ps[i]).toNat:Nat):Int) by omega]
   rw [Zq3 h5,oB,Z9 (by omega),List.drop_eq_getElem_cons hi,Yg,Xx h5]
   have e:i64.wrap (Int.tdiv 1099511627776 (vals[(ps[i]).toNat].length:Int))=((1099511627776 / vals[(ps[i]).toNat].length:Nat):Int):=by
    rw [Int.tdiv_eq_ediv_of_nonneg (by decide),show (1099511627776:Int)=((1099511627776:Nat):Int) from rfl,← Int.natCast_ediv]
    refine Z0 ⟨by have:=Int.natCast_nonneg (1099511627776 / vals[(ps[i]).toNat].length);omega,?_⟩
    have:=Nat.div_le_self 1099511627776 vals[(ps[i]).toNat].length
    omega
   rw [e]
   have cmp:1099511627776 / vals[(ps[i]).toNat].length<k↔1099511627776<k * vals[(ps[i]).toNat].length:=Nat.div_lt_iff_lt_mul h7
   by_cases h9:1099511627776<k * vals[(ps[i]).toNat].length
   ·rw [if_pos (dT (Int.ofNat_lt.2 (cmp.2 h9))),Zgm,Z0 (by omega),Nat.min_eq_right (by omega)]
    exact Zn8 N ps vals hb hne hp hps m (i+1) 1099511627776 (by omega) (by omega) (by omega)
   ·rw [if_neg (by rw [decide_eq_false (fun h=>h9 (cmp.1 (Int.ofNat_lt.1 h)))];decide),Zgm,← Int.natCast_mul,Z0 (by omega),Z0 (by omega),Nat.min_eq_left (by omega)]
    exact Zn8 N ps vals hb hne hp hps m (i+1) _ (by omega) (by omega) (by omega)
  ·rw [if_neg (dF (by omega)),List.drop_eq_nil_of_le (by omega),Yg]
theorem Zsl (N:Nat) (ps:List Int) (vals:List R6) (hb:∀ l ∈ vals,l.length≤1048576) (hne:∀ l ∈ vals,l≠[]) (hp:∀ p ∈ ps,0≤p∧p<(vals.length:Int)) (hps:ps.length≤1048576) (hN:1048577<N):∀ (m i:Nat),i≤ps.length→ps.length<m+i→
  Zd4 N ps (vals.map fun l=>(l.length:Int)) m (i:Int)=some (Yg vals ps 1:Int)
 | 0,i,h1,h2=>by omega
 | m+1,i,h1,h2=>by
  rw [Zd4.eq_2]
  by_cases hi:i<ps.length
  ·have h4:=hp _ (List.getElem_mem hi)
   have h5:(ps[i]).toNat<vals.length:=by omega
   have h7:0<vals[(ps[i]).toNat].length:=List.length_pos_iff.2 (hne _ (List.getElem_mem h5))
   rw [if_pos (dT (by omega)),Z5 hi,oB]
   conv=>lhs;rw [show ps[i]=(((ps[i]).toNat:Nat):Int) by omega]
   rw [Zq3 h5,oB,if_neg (dF (by omega)),Z0 (by omega)]
   exact Zsl N ps vals hb hne hp hps hN m (i+1) (by omega) (by omega)
  ·rw [if_neg (dF (by omega))]
   exact Zn8 N ps vals hb hne hp hps N 0 1 (by omega) (by omega) (by omega)
theorem Z2c {N:Nat} {ps:List Int} {vals:List R6} (hb:∀ l ∈ vals,l.length≤1048576) (hne:∀ l ∈ vals,l≠[]) (hp:∀ p ∈ ps,0≤p∧p<(vals.length:Int)) (hps:ps.length≤1048576) (hN:1048577<N):Ziz N ps (vals.map fun l=>(l.length:Int))=some (Yg vals ps 1:Int):=by
 rw [Ziz]
 exact Zsl N ps vals hb hne hp hps hN N 0 (by omega) (by omega)
theorem Z41 {r c:Nat} (hc:0<c):Zi0 (r:Int) (c:Int)=some (decide (65536<r * c)):=by
 have e:i64.wrap (Int.tdiv 65536 (c:Int))=((65536 / c:Nat):Int):=by
  rw [Int.tdiv_eq_ediv_of_nonneg (by decide),show (65536:Int)=((65536:Nat):Int) from rfl,← Int.natCast_ediv]
  refine Z0 ⟨by have:=Int.natCast_nonneg (65536 / c);omega,?_⟩
  have:=Nat.div_le_self 65536 c
  omega
 rw [Zi0,if_pos (dT (by omega)),Z9 (by omega),e,Zi1]
 congr 1
 refine decide_eq_decide.2 ?_
 rw [Int.ofNat_lt]
 exact Nat.div_lt_iff_lt_mul hc
def Tu (vals:List R6) (P:List R5) (T:List (List QV)):Nat→Nat→Int
 | 0,_=>0
 | m+1,v=>if 65536<Yg vals (P.getD v []) 1 * (vals.getD v []).length then 4 else if Yg vals (P.getD v []) 1 * (vals.getD v []).length≠(T.getD v []).length then 60 else Tu vals P T m (v+1)
structure Y8 (n:Zr) (W:Nat):Prop where
 nm:n.2.1.length≤1048575
 vl:∀ l ∈ n.2.2.1,l.length≤1048576
 pn:Zka n.2.2.2.1
 tl:∀ t ∈ n.2.2.2.2,t.length≤1048576
 tq:∀ t ∈ n.2.2.2.2,Xn t≤W
 lim:∀ t ∈ n.2.2.2.2,∀ x ∈ t,Vk x
structure Tw (n:Zr):Prop where
 v:n.2.2.1.length=n.2.1.length
 p:n.2.2.2.1.length=n.2.1.length
 t:n.2.2.2.2.length=n.2.1.length
 i:Ua n.2.2.2.1.length n.2.2.2.1=true
 ne:∀ l ∈ n.2.2.1,l≠[]
theorem Tw.par {n:Zr} (h:Tw n) {ps:List Int} (hp:ps ∈ n.2.2.2.1):∀ p ∈ ps,0≤p∧p<(n.2.2.1.length:Int):=by
 have:=Zt4 h.i ps hp
 rw [h.p] at this
 rw [h.v];exact this
theorem Zpx {N W:Nat} {n:Zr} (hs:Y8 n W) (he:Tw n):∀ (l:List (List QV)) (k:Nat),n.2.2.2.2.drop k=l→k≤n.2.1.length→Zax N n l k=if Tu n.2.2.1 n.2.2.2.1 n.2.2.2.2 l.length k=0 then Zay N n n.2.2.2.2 else some (Tu n.2.2.1 n.2.2.2.1 n.2.2.2.2 l.length k)
 | [],k,_,_=>by rw [Zax.eq_1];rfl
 | t :: l,k,hd,hk=>by
  have ht:=he.t;have hv:=he.v;have hp:=he.p
  have hk1:k<n.2.2.2.2.length:=by
   rcases Nat.lt_or_ge k n.2.2.2.2.length with h | h
   ·exact h
   ·rw [List.drop_eq_nil_of_le h] at hd;cases hd
  have hd2:=List.drop_eq_getElem_cons hk1
  rw [hd] at hd2
  obtain ⟨hx,hl2⟩:=List.cons.inj hd2
  have kv:k<n.2.2.1.length:=by omega
  have kp:k<n.2.2.2.1.length:=by omega
  have r1:=Zx8 n.2.2.1 (n.2.2.2.1[k]) 1 (by omega)
  have c1:=hs.vl _ (List.getElem_mem kv)
  have r2:=Zpz r1 c1
  have hrow:Zf0 n (k:Int)=some (Yg n.2.2.1 n.2.2.2.1[k] 1:Int):=by
   rw [Zf0,Z5 kp,oB]
   exact Zve n hs.vl _ 1 (by omega) (he.par (List.getElem_mem kp))
  rw [Zax.eq_2]
  have hrow':Zf0 (n.1,n.2.1,n.2.2.1,n.2.2.2.1,n.2.2.2.2) (k:Int)=some (Yg n.2.2.1 n.2.2.2.1[k] 1:Int):=hrow
  rw [hrow',oB,Z5 kv,oB,← Int.natCast_mul,Z0 (by omega),nC,Tu,Xx kp,Xx kv,Xx hk1,← hx]
  generalize Yg n.2.2.1 n.2.2.2.1[k] 1 * n.2.2.1[k].length=rc at *
  by_cases h1:65536<rc
  ·rw [if_pos (dT (by omega)),if_pos h1,if_neg (by decide)]
  ·rw [if_neg (dF (by omega)),if_neg h1]
   by_cases h2:rc=t.length
   ·rw [if_neg (by rw [decide_eq_true (by omega)];decide),if_neg (show ¬ rc≠t.length from fun h=>h h2)]
    exact Zpx hs he l (k+1) hl2.symm (by omega)
   ·rw [if_pos (by rw [decide_eq_false (by omega)];decide),if_pos h2,if_neg (by decide)]
def Uw (x:QV):Bool:=decide (Zv x<0)||decide (1<Zv x)
theorem Z5a {a b:Rat}:0<Ux a b↔b<a:=by
 rw [Ux]
 by_cases h:a<b
 ·rw [if_pos h]
  constructor
  ·intro h2;omega
  ·intro h2;exact absurd (Rat.le_of_lt h2) (Rat.not_le.2 h)
 ·rw [if_neg h]
  by_cases h2:b<a
  ·simp [h2]
  ·simp [h2]
theorem Zwx {a b:Rat}:Ux a b=0↔a=b:=by
 rw [Ux]
 constructor
 ·intro h
  split at h
  ·cases h
  ·split at h
   ·cases h
   ·rename_i h1 h2
    exact Rat.le_antisymm (Rat.not_lt.1 h2) (Rat.not_lt.1 h1)
 ·rintro rfl
  rw [if_neg Rat.lt_irrefl,if_neg Rat.lt_irrefl]
theorem Zpw {N:Nat} (hr:Xh N 8):Zdo N=some (Zw 1):=by
 rw [Zdo,Zkw (by omega) (by omega) (hr.mono (by omega)),oB,if_neg (by decide)]
 have:((1:Int):Rat) / ((1:Int):Rat)=1:=div_one _
 rw [this]
theorem Zyb:RV 1 (Zw 1):=Su (by rw [Zjp];omega)
theorem Z4f {N k:Nat} {x:QV} (hx:RV k x) (hr:Xh N (2 * k+16)):Zfy N x=some (Uw x):=by
 have h2:Sb N ((x.1.1,x.1.2),x.2)=some (Zaa (Zv x)):=Zky hx (hr.mono (by omega))
 rw [Zfy,h2,oB,Uw]
 by_cases h:Zv x<0
 ·rw [if_pos (dT (Zqh.2 h)),Zfz,decide_eq_true h,Bool.true_or]
 ·rw [if_neg (dF (fun h3=>h (Zqh.1 h3))),decide_eq_false h,Bool.false_or,Zpw (hr.mono (by omega)),oB,Zog (a:=((x.1.1,x.1.2),x.2)) (b:=Zw 1) hx Zyb (hr.mono (by omega)),oB,Zfz,V3]
  congr 1
  exact decide_eq_decide.2 Z5a
def Wv (x:QV):QV:=if Zc x.2=0 then (x.1,[1]) else x
theorem Zth {x:QV} (h:Vk x):Vk (Wv x):=by
 rw [Wv];split
 ·exact ⟨h.1,.cons (by decide) .nil⟩
 ·exact h
theorem Zoh (x:QV):Zv (Wv x)=Zv x:=by
 rw [Wv];split
 ·rename_i h
  rw [Zv,Zv]
  show mkRat (Zy x.1) (Wa [1])=mkRat (Zy x.1) (Wa x.2)
  rw [Wa,Wa,if_pos h]
  congr 1
 ·rfl
theorem Z3f (x:QV):Uw (Wv x)=Uw x:=by rw [Uw,Uw,Zoh]
theorem Z3e (x:QV):max (Wv x).1.2.length (Wv x).2.length≤max x.1.2.length x.2.length+1:=by
 rw [Wv];split
 ·show max x.1.2.length [(1:Int)].length≤_
  simp only [List.length_singleton];omega
 ·omega
theorem Zqf:∀ l:List QV,2 * l.length≤Xn l
 | []=>by simp [Xn]
 | a :: l=>by rw [Xn,nC];have:=Zqf l;omega
theorem Zqd:∀ l:List QV,Xn (l.map Wv)≤Xn l+l.length
 | []=>by simp [Xn]
 | a :: l=>by
  rw [List.map_cons,Xn,Xn,nC]
  have:=Zqd l;have:=Z3e a;omega
theorem Zmz (a b:List QV):Xn (a++b)=Xn a+Xn b:=by
 induction a with
 | nil=>simp [Xn]
 | cons x a ih=>rw [List.cons_append,Xn,Xn,ih];omega
theorem Z5c (l:List QV) (k:Nat):Xn (l.take k)≤Xn l:=by
 have:=Zmz (l.take k) (l.drop k)
 rw [List.take_append_drop] at this;omega
theorem Z5b (l:List QV) (k:Nat):Xn (l.drop k)≤Xn l:=by
 have:=Zmz (l.take k) (l.drop k)
 rw [List.take_append_drop] at this;omega
theorem Zwy {l:List QV} {x:QV} (h:x ∈ l):max x.1.2.length x.2.length≤Xn l:=by
 induction l with
 | nil=>simp at h
 | cons y l ih=>
  rw [Xn]
  rcases List.mem_cons.1 h with rfl | h
  ·omega
  ·have:=ih h;omega
theorem Ztm {N k:Nat} {x:QV} (h:Vk x) (hk:max x.1.2.length x.2.length≤k) (hr:Xh N k):Zb7 N x=some (Wv x):=by
 obtain ⟨r1,r2⟩:=hr
 rw [Zb7,Zp2 h.2 (by omega) (by omega),oB,Wv]
 by_cases h0:Zc x.2=0
 ·rw [h0,W0,if_pos (by decide),if_pos rfl,Zjl (by decide) (by omega),oB,Zfv,show (1:Int).toNat=1 from rfl,Zam]
 ·have:=S1 h0
  rw [if_neg (dF (by omega)),if_neg h0,Zfv]
theorem Ztn {N W:Nat} (hr:Xh N W):∀ (l out:List QV),(∀ x ∈ l,Vk x)→Xn l≤W→out.length+l.length≤1048576→Zb8 N l out=some (out++l.map Wv)
 | [],out,_,_,_=>by rw [Zb8.eq_1];simp
 | x :: l,out,hl,hq,hlen=>by
  rw [Xn] at hq
  rw [nC] at hlen
  have h1:Zb7 N ((x.1.1,x.1.2),x.2)=some (Wv x):=Ztm (x:=x) (hl x List.mem_cons_self) (k:=W) (by omega) hr
  rw [Zb8.eq_2,h1,oB,Z9 (by simp only [List.length_singleton,maxLen];omega),Ztn hr l _ (fun y hy=>hl y (List.mem_cons_of_mem _ hy)) (by omega) (by simp only [nA,List.length_singleton];omega)]
  simp
theorem Zto {N W:Nat} {l:List QV} (hr:Xh N W) (hl:∀ x ∈ l,Vk x) (hq:Xn l≤W) (hlen:l.length≤1048576):Zfw N l=some (l.map Wv):=by
 rw [Zfw,Z9 (by simp only [maxLen];omega),Ztn hr l [] hl hq (by simpa using hlen),List.nil_append]
theorem Zt1 {N W:Nat} (hr:Xh N (2 * W+16)):∀ (l:List QV) (k:Nat),(∀ x ∈ l,Vk x)→Xn l≤W→∃ j:Int,Zee N l k=some j∧(0≤j↔l.any Uw=true)
 | [],k,_,_=>⟨-1,rfl,by simp⟩
 | x :: l,k,hl,hq=>by
  rw [Xn] at hq
  have hx:=hl x List.mem_cons_self
  have h1:Zfy N ((x.1.1,x.1.2),x.2)=some (Uw x):=Z4f (x:=x) (Zg2 hx.1 hx.2) (hr.mono (by omega))
  rw [Zee.eq_2,h1,oB,List.any_cons]
  cases Uw x with
  | true=>rw [if_pos rfl];exact ⟨_,rfl,by simp⟩
  | false=>
   rw [if_neg (by decide)]
   obtain ⟨j,h1,h2⟩:=Zt1 hr l (k+1) (fun y hy=>hl y (List.mem_cons_of_mem _ hy)) (by omega)
   exact ⟨j,h1,by rw [h2];simp⟩
def Zc0 (T:List (List QV)):Bool:=T.any fun t=>t.any Uw
theorem Zz2 (l:List QV):(l.map Wv).any Uw=l.any Uw:=by
 induction l with
 | nil=>rfl
 | cons x l ih=>rw [List.map_cons,List.any_cons,List.any_cons,ih,Z3f]
theorem Zpu {N W:Nat} {n:Zr} (hr:Xh N (4 * W+16)):∀ l:List (List QV),(∀ t ∈ l,t.length≤1048576∧Xn t≤W∧∀ x ∈ t,Vk x)→Zay N n l=if Zc0 l=true then some 45 else Zb5 N n n.2.2.2.2 0
 | [],_=>by rw [Zay.eq_1];rfl
 | t :: l,h=>by
  obtain ⟨h1,h2,h3⟩:=h t List.mem_cons_self
  have hp:=Zqf t
  have hf:=Zqd t
  obtain ⟨j,j1,j2⟩:=Zt1 (N:=N) (W:=2 * W) (hr.mono (by omega)) (t.map Wv) 0 (fun x hx=>by
   obtain ⟨y,hy,rfl⟩:=List.mem_map.1 hx
   exact Zth (h3 y hy)) (by omega)
  rw [Zay.eq_2,Zto (W:=W) (hr.mono (by omega)) h3 h2 h1,oB,Zmg,Zmh,j1,oB,oB,Zc0,List.any_cons]
  rw [Zz2] at j2
  by_cases ho:t.any Uw=true
  ·rw [if_pos (dT (j2.2 ho)),ho,Bool.true_or,if_pos rfl]
  ·rw [if_neg (dF (fun h=>ho (j2.1 h))),Bool.eq_false_iff.2 ho,Bool.false_or]
   exact Zpu hr l fun x hx=>h x (List.mem_cons_of_mem _ hx)
def Uh (c:Nat):Nat→List QV→Bool
 | 0,_=>true
 | m+1,l=>decide (Yu (l.take c)=1)&&Uh c m (l.drop c)
def Zho (c:Nat):Nat→List QV→List (List QV)
 | 0,_=>[]
 | m+1,l=>l.take c :: Zho c m (l.drop c)
theorem Zsm (N:Nat) (l:List QV) (c:Nat) (hc:0<c) (hl:l.length≤1048576) (hcs:c≤1048576):∀ (m fuel i:Nat),i+m * c=l.length→m<fuel→Zch N l (c:Int) fuel (i:Int)=some (Zho c m (l.drop i))
 | 0,0,i,_,h=>by omega
 | 0,fuel+1,i,h1,_=>by
  rw [Zch.eq_2,if_neg (dF (by omega))];rfl
 | m+1,0,i,_,h=>by omega
 | m+1,fuel+1,i,h1,h2=>by
  have h3:i+c+m * c=l.length:=by rw [Nat.add_mul,Nat.one_mul] at h1;omega
  have e:(if ((l.drop i).length:Int)<(c:Int) then ((l.drop i).length:Int) else (c:Int))=(c:Int):=by
   rw [List.length_drop]
   by_cases h:((l.length - i:Nat):Int)<(c:Int)
   ·omega
   ·rw [if_neg h]
  rw [Zch.eq_2,if_pos (dT (by omega)),Int.toNat_natCast,e,Z0 (by omega),Z9 (by omega),Z9 (by omega),show (i:Int)+(c:Int)=((i+c:Nat):Int) by omega,Zsm N l c hc hl hcs m fuel (i+c) (by omega) (by omega),oB,Int.toNat_natCast,Zho,List.drop_take,show i+c - i=c by omega,List.drop_drop]
theorem Z5f (l:List QV):Yu (l.map Wv)=Yu l:=by
 rw [Yu,Yu,List.map_map]
 congr 1
 exact List.map_congr_left fun x _=>Zoh x
theorem Zvz (c:Nat):∀ (m:Nat) (l:List QV),Uh c m (l.map Wv)=Uh c m l
 | 0,l=>rfl
 | m+1,l=>by rw [Uh,Uh,← List.map_take,← List.map_drop,Z5f,Zvz c m]
theorem Zvj {N W:Nat} (hr:Xh N (4 * W+40)) (c:Nat) (b:Bool):∀ (m:Nat) (l:List QV),(∀ x ∈ l,Vk x)→Xn l≤W→Zdq N (Zho c m l) b=some (Uh c m l)
 | 0,l,_,_=>rfl
 | m+1,l,hl,hq=>by
  have ht:=Z5c l c
  have hd:=Z5b l c
  obtain ⟨s1,s2⟩:=Ztx (N:=N) (l:=l.take c) (fun x hx=>hl x (List.mem_of_mem_take hx)) (hr.mono (by omega))
  rw [Zho,Zdq.eq_2,s1,oB,Zpw (hr.mono (by omega)),oB,Zog (a:=Zw _) (b:=Zw 1) (Su s2) Zyb (hr.mono (by omega)),oB,V3,V3,Uh]
  by_cases h:Yu (l.take c)=1
  ·rw [if_neg (by rw [Zwx.2 h];decide),decide_eq_true h,Bool.true_and]
   exact Zvj hr c b m _ (fun x hx=>hl x (List.mem_of_mem_drop hx)) (by omega)
  ·rw [if_pos (by rw [decide_eq_false (fun h2=>h (Zwx.1 h2))];decide),decide_eq_false h,Bool.false_and];rfl
theorem Z4i {N W c m:Nat} {l:List QV} (hr:Xh N (4 * W+40)) (hl:∀ x ∈ l,Vk x) (hq:Xn l≤W) (hc:0<c) (hcs:c≤1048576) (hll:l.length≤1048576) (hm:m * c=l.length) (hN:1048577<N):Zie N l (c:Int)=some (Uh c m l):=by
 have hmc:m≤l.length:=by rw [← hm];exact Nat.le_mul_of_pos_right m hc
 rw [Zie,Zmd,if_neg (dF (by omega)),Zmf,Zme,show (0:Int)=((0:Nat):Int) from rfl,Zsm N l c hc hll hcs m N 0 (by omega) (by omega),oB,List.drop_zero]
 exact Zvj hr c false m l hl hq
def Zcq (vals:List R6) (P:List R5) (T:List (List QV)):Nat→Nat→Int
 | 0,_=>0
 | m+1,v=>if Uh (vals.getD v []).length (Yg vals (P.getD v []) 1) (T.getD v [])=true then Zcq vals P T m (v+1) else 46
theorem Zq1 {vals:List R6} {P:List R5} {T:List (List QV)}:∀ (m v:Nat),Tu vals P T m v=0→∀ i,v≤i→i<v+m→Yg vals (P.getD i []) 1 * (vals.getD i []).length=(T.getD i []).length∧(T.getD i []).length≤65536
 | 0,v,_,i,h1,h2=>by omega
 | m+1,v,h,i,h1,h2=>by
  rw [Tu] at h
  by_cases h3:65536<Yg vals (P.getD v []) 1 * (vals.getD v []).length
  ·rw [if_pos h3] at h;cases h
  ·rw [if_neg h3] at h
   by_cases h4:Yg vals (P.getD v []) 1 * (vals.getD v []).length=(T.getD v []).length
   ·rw [if_neg (show ¬ Yg vals (P.getD v []) 1 * (vals.getD v []).length≠(T.getD v []).length from fun h=>h h4)] at h
    rcases Nat.lt_or_ge v i with h5 | h5
    ·exact Zq1 m (v+1) h i (by omega) (by omega)
    ·have:i=v:=by omega
     subst this
     exact ⟨h4,by omega⟩
   ·rw [if_pos h4] at h;cases h
theorem Zpy {N W:Nat} {n:Zr} (hs:Y8 n W) (he:Tw n) (hsh:Tu n.2.2.1 n.2.2.2.1 n.2.2.2.2 n.2.1.length 0=0) (hr:Xh N (8 * W+40)) (hN:1048577<N):∀ (l:List (List QV)) (k:Nat),n.2.2.2.2.drop k=l→k≤n.2.1.length→Zb5 N n l k=some (Zcq n.2.2.1 n.2.2.2.1 n.2.2.2.2 l.length k)
 | [],k,_,_=>rfl
 | t :: l,k,hd,hk=>by
  have ht:=he.t;have hv:=he.v;have hp:=he.p
  have hk1:k<n.2.2.2.2.length:=by
   rcases Nat.lt_or_ge k n.2.2.2.2.length with h | h
   ·exact h
   ·rw [List.drop_eq_nil_of_le h] at hd;cases hd
  have hd2:=List.drop_eq_getElem_cons hk1
  rw [hd] at hd2
  obtain ⟨hx,hl2⟩:=List.cons.inj hd2
  have kv:k<n.2.2.1.length:=by omega
  have kp:k<n.2.2.2.1.length:=by omega
  have hm:t ∈ n.2.2.2.2:=by rw [hx];exact List.getElem_mem hk1
  have c1:=hs.vl _ (List.getElem_mem kv)
  have c0:0<n.2.2.1[k].length:=List.length_pos_iff.2 (he.ne _ (List.getElem_mem kv))
  obtain ⟨s1,s2⟩:=Zq1 _ 0 hsh k (by omega) (by omega)
  rw [Xx kv,Xx hk1,← hx] at s1
  rw [Xx hk1,← hx] at s2
  have hq:=hs.tq t hm
  have hp2:=Zqf t
  have hf:=Zqd t
  rw [Zb5.eq_2,Z5 kv,oB,Zto (W:=W) (hr.mono (by omega)) (hs.lim t hm) hq (hs.tl t hm),oB,
   Z4i (W:=2 * W) (m:=Yg n.2.2.1 (n.2.2.2.1.getD k []) 1) (hr.mono (by omega)) (fun x hx=>by
    obtain ⟨y,hy,rfl⟩:=List.mem_map.1 hx
    exact Zth (hs.lim t hm y hy)) (by omega) c0 c1 (by rw [List.length_map];omega) (by rw [List.length_map];exact s1) hN,oB,Zvz,nC,Zcq,Xx kv,Xx hk1,← hx]
  cases Uh n.2.2.1[k].length (Yg n.2.2.1 (n.2.2.2.1.getD k []) 1) t with
  | true=>
   rw [if_neg (by decide),if_pos rfl]
   exact Zpy hs he hsh hr hN l (k+1) hl2.symm (by omega)
  | false=>rw [if_pos (by decide),if_neg (by decide)]
structure Yo (N:Nat) (n:Zr):Prop where
 ev:Tw n
 le:n.2.1.length≤1024
 nm:Q9 n.2.1 n.2.2.1 n.2.1.length 0=0
 sh:Tu n.2.2.1 n.2.2.2.1 n.2.2.2.2 n.2.1.length 0=0
 en:Zc0 n.2.2.2.2=false
 su:Zcq n.2.2.1 n.2.2.2.1 n.2.2.2.2 n.2.1.length 0=0
 tw:Uz n.2.2.2.1=false
 or:∃ l,Zan N n.2.2.2.1=some (l,0)∧Za4 N n.2.2.2.1=some l∧Zgk N n.2.2.2.1=some 0∧Ti n.2.2.2.1 l∧l.length=n.2.2.2.1.length
def cnt (n:Zr) (v:Nat):Nat:=(n.2.2.1.getD v []).length
def Ss (n:Zr) (w:List Int):List Int→Nat→Nat
 | [],r=>r
 | p :: ps,r=>Ss n w ps (r * cnt n p.toNat+(w.getD p.toNat 0).toNat)
def Wx (n:Zr) (w:List Int) (v:Nat):Nat:=Ss n w (n.2.2.2.1.getD v []) 0
def Te (n:Zr) (w:List Int) (v:Nat):List QV:=((n.2.2.2.2.getD v []).drop (Wx n w v * cnt n v)).take (cnt n v)
structure Yp (n:Zr) (w:List Int):Prop where
 len:w.length=n.2.1.length
 ok:∀ i,i<w.length→0≤w.getD i 0∧w.getD i 0<(cnt n i:Int)
theorem Zah {n:Zr} (he:Tw n) {v:Nat} (hv:v<n.2.1.length):0<cnt n v:=by
 have h1:v<n.2.2.1.length:=by rw [he.v];exact hv
 rw [cnt,Xx h1]
 exact List.length_pos_iff.2 (he.ne _ (List.getElem_mem h1))
theorem Zg1 {n:Zr} (he:Tw n):∀ (ps:List Int) (k:Nat),(∀ p ∈ ps,0≤p∧p<(n.2.1.length:Int))→k≤1099511627776→k≤Yg n.2.2.1 ps k
 | [],k,_,_=>Nat.le_refl _
 | p :: ps,k,hp,hk=>by
  have h1:=hp p List.mem_cons_self
  have h2:0<(n.2.2.1.getD p.toNat []).length:=Zah he (by omega)
  rw [Yg]
  have h3:k≤min (k * (n.2.2.1.getD p.toNat []).length) 1099511627776:=Nat.le_min.2 ⟨Nat.le_mul_of_pos_right k h2,hk⟩
  exact Nat.le_trans h3 (Zg1 he ps _ (fun q hq=>hp q (List.mem_cons_of_mem _ hq)) (Nat.min_le_right _ _))
theorem Zqz {n:Zr} (he:Tw n) {w:List Int} (hw:Yp n w) {p:Int} {ps:List Int} {r k:Nat} (hp:∀ q ∈ p :: ps,0≤q∧q<(n.2.1.length:Int)) (hr:r<k) (hk:k≤65536) (hb:Yg n.2.2.1 (p :: ps) k≤65536):
  r * cnt n p.toNat+(w.getD p.toNat 0).toNat<k * cnt n p.toNat∧k * cnt n p.toNat≤65536∧Yg n.2.2.1 ps (k * cnt n p.toNat)≤65536:=by
 have h1:=hp p List.mem_cons_self
 have h2:=hw.ok p.toNat (by rw [hw.len];omega)
 have h3:r * cnt n p.toNat+cnt n p.toNat≤k * cnt n p.toNat:=by
  have:=Nat.mul_le_mul_right (cnt n p.toNat) (show r+1≤k by omega)
  rwa [Nat.add_mul,Nat.one_mul] at this
 rw [Yg] at hb
 have h4:=Zg1 he ps (min (k * (n.2.2.1.getD p.toNat []).length) 1099511627776) (fun q hq=>hp q (List.mem_cons_of_mem _ hq)) (Nat.min_le_right _ _)
 have h5:k * (n.2.2.1.getD p.toNat []).length≤1099511627776:=by
  rcases Nat.le_total (k * (n.2.2.1.getD p.toNat []).length) 1099511627776 with h | h
  ·exact h
  ·rw [Nat.min_eq_right h] at h4 hb;omega
 rw [Nat.min_eq_left h5] at h4 hb
 exact ⟨by omega,Nat.le_trans h4 hb,hb⟩
theorem Zx5 {n:Zr} (he:Tw n) {w:List Int} (hw:Yp n w):∀ (ps:List Int) (r k:Nat),(∀ q ∈ ps,0≤q∧q<(n.2.1.length:Int))→r<k→k≤65536→Yg n.2.2.1 ps k≤65536→Ss n w ps r<Yg n.2.2.1 ps k
 | [],r,k,_,hr,_,_=>hr
 | p :: ps,r,k,hp,hr,hk,hb=>by
  obtain ⟨h1,h2,h3⟩:=Zqz he hw hp hr hk hb
  have:=Zx5 he hw ps _ _ (fun q hq=>hp q (List.mem_cons_of_mem _ hq)) h1 h2 h3
  rw [Ss,Yg,Nat.min_eq_left (by rw [cnt] at h2;omega)]
  exact this
section
variable {N:Nat} {n:Zr} (hf:Yo N n)
include hf
theorem Yo.pars {v:Nat} (hv:v<n.2.1.length):∀ p ∈ n.2.2.2.1.getD v [],0≤p∧p<(n.2.1.length:Int):=fun p hp=>by
 have h1:v<n.2.2.2.1.length:=by rw [hf.ev.p];exact hv
 rw [Xx h1] at hp
 have:=hf.ev.par (List.getElem_mem h1) p hp
 rwa [hf.ev.v] at this
theorem Yo.rows {v:Nat} (hv:v<n.2.1.length):Yg n.2.2.1 (n.2.2.2.1.getD v []) 1 * cnt n v=(n.2.2.2.2.getD v []).length∧(n.2.2.2.2.getD v []).length≤65536∧Yg n.2.2.1 (n.2.2.2.1.getD v []) 1≤65536:=by
 have h1:=Zq1 _ 0 hf.sh v (Nat.zero_le _) (by omega)
 have h2:=Zah hf.ev hv
 refine ⟨h1.1,h1.2,?_⟩
 have h3:Yg n.2.2.1 (n.2.2.2.1.getD v []) 1≤Yg n.2.2.1 (n.2.2.2.1.getD v []) 1 * cnt n v:=Nat.le_mul_of_pos_right _ h2
 have h4:Yg n.2.2.1 (n.2.2.2.1.getD v []) 1 * cnt n v≤65536:=by
  have:=h1.1;rw [cnt,this];exact h1.2
 omega
theorem Yo.row {w:List Int} (hw:Yp n w) {v:Nat} (hv:v<n.2.1.length):Wx n w v * cnt n v+cnt n v≤(n.2.2.2.2.getD v []).length∧Wx n w v<65536:=by
 obtain ⟨h1,h2,h3⟩:=hf.rows hv
 have h4:=Zx5 hf.ev hw _ 0 1 (hf.pars hv) (by omega) (by omega) h3
 have h5:=Nat.mul_le_mul_right (cnt n v) (show Wx n w v+1≤Yg n.2.2.1 (n.2.2.2.1.getD v []) 1 from h4)
 rw [Nat.add_mul,Nat.one_mul,h1] at h5
 exact ⟨h5,Nat.lt_of_lt_of_le h4 h3⟩
theorem Yo.rowT_len {w:List Int} (hw:Yp n w) {v:Nat} (hv:v<n.2.1.length):(Te n w v).length=cnt n v:=by
 have:=(hf.row hw hv).1
 rw [Te,nK,List.length_drop];omega
theorem Yo.ent {v:Nat} (hv:v<n.2.1.length):∀ x ∈ n.2.2.2.2.getD v [],0≤Zv x∧Zv x≤1:=fun x hx=>by
 have h1:v<n.2.2.2.2.length:=by rw [hf.ev.t];exact hv
 rw [Xx h1] at hx
 have h2:=hf.en
 rw [Zc0,List.any_eq_false] at h2
 have h3:=h2 _ (List.getElem_mem h1)
 rw [Bool.not_eq_true,List.any_eq_false] at h3
 have h4:=h3 x hx
 simp only [Uw,Bool.or_eq_true,decide_eq_true_eq,not_or] at h4
 exact ⟨Rat.not_lt.1 h4.1,Rat.not_lt.1 h4.2⟩
end
theorem Zpt {n:Zr} {w:List Int} {v:Nat} {x:QV} (h:x ∈ Te n w v):x ∈ n.2.2.2.2.getD v []:=List.mem_of_mem_drop (List.mem_of_mem_take h)
theorem Z55 {n:Zr} {w:List Int} {v j:Nat} (hj:j<(Te n w v).length):Zm (n.2.2.2.2.getD v []) ((Wx n w v * cnt n v+j:Nat):Int)=some (Te n w v)[j]:=by
 have h1:Wx n w v * cnt n v+j<(n.2.2.2.2.getD v []).length:=by
  rw [Te,nK,List.length_drop] at hj;omega
 rw [Z5 h1]
 simp only [Te,List.getElem_take,List.getElem_drop]
section
variable {N W:Nat} {n:Zr} (hf:Yo N n) (hs:Y8 n W)
include hf hs
theorem Zkt {v:Nat} (hv:v<n.2.1.length):∀ x ∈ n.2.2.2.2.getD v [],Vk x∧max x.1.2.length x.2.length≤W:=fun x hx=>by
 have h1:v<n.2.2.2.2.length:=by rw [hf.ev.t];exact hv
 rw [Xx h1] at hx
 have h2:=hs.tq _ (List.getElem_mem h1)
 exact ⟨hs.lim _ (List.getElem_mem h1) x hx,Nat.le_trans (Zwy hx) h2⟩
end
/-! the document's loops -/
/-! a row's entries are 1 together -/
theorem Zvy {c:Nat}:∀ (m:Nat) (l:List QV),Uh c m l=true→∀ r,r<m→Yu ((l.drop (r * c)).take c)=1
 | 0,l,_,r,h=>by omega
 | m+1,l,h,r,hr=>by
  rw [Uh,Bool.and_eq_true,decide_eq_true_iff] at h
  cases r with
  | zero=>rw [Nat.zero_mul,List.drop_zero];exact h.1
  | succ r=>
   have:=Zvy m (l.drop c) h.2 r (by omega)
   rw [List.drop_drop] at this
   rw [Nat.add_mul,Nat.one_mul,Nat.add_comm]
   exact this
theorem Zyx {vals:List R6} {P:List R5} {T:List (List QV)}:∀ (m v:Nat),Zcq vals P T m v=0→∀ i,v≤i→i<v+m→Uh (vals.getD i []).length (Yg vals (P.getD i []) 1) (T.getD i [])=true
 | 0,v,_,i,h1,h2=>by omega
 | m+1,v,h,i,h1,h2=>by
  rw [Zcq] at h
  split at h
  ·rename_i h3
   rcases Nat.lt_or_ge v i with h5 | h5
   ·exact Zyx m (v+1) h i (by omega) (by omega)
   ·have:i=v:=by omega
    subst this
    exact h3
  ·cases h
/-! parts side by side -/
def T7 (n:Zr):List Int→Nat→Bool
 | [],_=>true
 | x :: l,k=>!decide (x<0)&&(!decide ((cnt n k:Int)≤x)&&T7 n l (k+1))
theorem Zt2 {n:Zr}:∀ (l:List Int) (k:Nat),T7 n l k=true→∀ i,i<l.length→0≤l.getD i 0∧l.getD i 0<(cnt n (k+i):Int)
 | [],_,_,i,hi=>by simp at hi
 | x :: l,k,h,i,hi=>by
  simp only [T7,Bool.and_eq_true,Bool.not_eq_true',decide_eq_false_iff_not] at h
  cases i with
  | zero=>rw [List.getD_cons_zero,Nat.add_zero];omega
  | succ i=>
   rw [List.getD_cons_succ,show k+(i+1)=k+1+i by omega]
   exact Zt2 l (k+1) h.2.2 i (by simpa using hi)
theorem Z3p {n:Zr} {w:List Int} (hl:w.length=n.2.1.length) (h:T7 n w 0=true):Yp n w:=⟨hl,fun i hi=>by have:=Zt2 w 0 h i hi;rwa [Nat.zero_add] at this⟩
def Zaw (N:Nat) (ab:R0) (ac:List Int) (aa:Nat) (ah:Bool) (ai:List Int) (aj:List Int) (kk_L2:(Nat→Bool→R5→R5→Option (R4×Int))) (ak:R7):List Int→Int→Option (R4×Int)
  | [],ad=>(Zm ab.2.2.1 (aa:Int)).bind fun am=>(Zm ac (aa:Int)).bind fun an=>(Zm ak (i64.wrap ((i64.wrap (ad * (am.length:Int)))+an))).bind fun ae=>(Zb7 N ((ae.1.1,ae.1.2),ae.2)).bind fun af=>(Q2 N ((ah,ai),aj) ((af.1.1,af.1.2),af.2)).bind fun ag=>kk_L2 (aa+1) ag.1.1 ag.1.2 ag.2
  | al :: ao,ad=>(Zm ab.2.2.1 al).bind fun ap=>(Zm ac al).bind fun aq=>(Zaw N ab ac aa ah ai aj kk_L2 ak ao) (i64.wrap ((i64.wrap (ad * (ap.length:Int)))+aq))
termination_by structural x=>x
def Zav (N:Nat) (aa:R0) (af:List Int):List R7→Nat→Bool→R5→R5→Option (R4×Int)
  | [],ab,ac,ad,ae=>some (((ac,ad),ae),0)
  | ag :: ah,ab,ac,ad,ae=>(Zm aa.2.2.2.1 (ab:Int)).bind fun ai=>Zaw N aa af ab ac ad ae (Zav N aa af ah) ag ai 0
termination_by structural x=>x
def Zfu (aa:Nat) (ab:Bool) (ac:List Int) (ad:List Int) (kk_L1:(Nat→Bool→R5→R5→Option (R4×Int))) (ae:Bool):Option (R4×Int):=
  if ae=true then (some (((false,([]:List Int)),([]:List Int)),3)) else (kk_L1 (aa+1) ab ac ad)
def S6 (N:Nat) (aa:R0) (ac:List Int):List Int→Nat→Bool→R5→R5→Option (R4×Int)
  | [],ab,ad,ae,af=>(Zdo N).bind fun ag=>Zav N aa ac aa.2.2.2.2 0 ag.1.1 ag.1.2 ag.2
  | ah :: ai,ab,ad,ae,af=>if (decide (ah<0))=true then (Zfu ab ad ae af (S6 N aa ac ai) true) else ((Zm aa.2.2.1 (ab:Int)).bind fun aj=>Zfu ab ad ae af (S6 N aa ac ai) (decide ((aj.length:Int)≤ah)))
termination_by structural x=>x
def Zdm (N:Nat) (aa:R0) (ab:List Int):Option (R4×Int):=
  (W8 N (aa.1,aa.2.1,aa.2.2.1,aa.2.2.2.1,aa.2.2.2.2)).bind fun ac=>if (!decide (ac=0))=true then (some (((false,([]:List Int)),([]:List Int)),ac)) else (if (!decide ((ab.length:Int)=(aa.2.1.length:Int)))=true then (some (((false,([]:List Int)),([]:List Int)),60)) else (S6 N aa ab ab 0 false ([]:List Int) ([]:List Int)))
theorem Z0s {N bf bg bh bi cu:Nat} {bj bk bm bn a1:Option Addr} {col:Ze} {w0:World} {ab:R0} {ak:R5} {r:(R4×Int)} (c1 c2:Nat) (hm:Zdm N ab ak=some r) (cd:Sl Za.str col w0 bj bf ab.2.1) (au:Sl (Za.slice Za.str) col w0 bk bg ab.2.2.1) (bt:Sl (Za.slice (Za.int .i64)) col w0 bm bh ab.2.2.2.1) (bo:Sl (Za.slice (Za.pair (Za.pair Za.bool (Za.slice (Za.int .u32))) (Za.slice (Za.int .u32)))) col w0 bn bi ab.2.2.2.2) (h1:Sl (Za.int .i64) col w0 a1 cu ak):
    Calls prog 26 #[(.agg #[.string ab.1,.slice bj ab.2.1.length bf,.slice bk ab.2.2.1.length bg,.slice bm ab.2.2.2.1.length bh,.slice bn ab.2.2.2.2.length bi]),.slice a1 ak.length cu] w0 (fun e w'=>∃ (col':Ze) (ra1:Option Addr) (rc2:Nat) (ra4:Option Addr) (rc5:Nat),e= .returned (.tuple #[(.agg #[.bool r.1.1.1,.slice ra1 r.1.1.2.length rc2,.slice ra4 r.1.2.length rc5]),.int .i64 r.2])∧Zh col w0 col' w'∧Zb (Za.int .u32) 95 c1 col' w' ra1 rc2 r.1.1.2∧Zb (Za.int .u32) 95 c2 col' w' ra4 rc5 r.1.2):=by
 refine Y5 (m:=103) func26 rfl rfl rfl ?_;rw [Zdm.eq_1] at hm;have aa:=St.start col w0;refine go ?_;refine Xl (col:=(Zj col)) 1 rfl ?_;intro b7 er c3 c4 ac;refine Xg (col:=c3) #[.bool false,.slice none (([]:List Int).length) 0,.slice none (([]:List Int).length) 0] 2 zeroValue39 ?_;intro b8 c5 cv cw ad;refine go ?_;replace ac:=ac.gr cw;refine lV _ (Z2 isAgg27 sizeOf27 ac) ?_;obtain ⟨es,c6,hm⟩:=bZ hm;replace cd:=cd.keep (Zi.start col w0);replace au:=au.keep (Zi.start col w0);replace bt:=bt.keep (Zi.start col w0);replace bo:=bo.keep (Zi.start col w0);replace aa:=(aa.grow c4).grow cw;refine Zk (Zhl c6 (cd.ks aa) (au.ks aa) (bt.ks aa) (bo.ks aa)) ?_;rintro _ c7 ⟨rfl,bu⟩;refine ⟨_,rfl,?_⟩;replace bu:Zh cv c5 cv c7:=.of_below bu;refine go ?_;replace h1:=h1.keep (Zi.start col w0);replace ac:=ac.gr bu;replace ad:=ad.gr bu;replace aa:=aa.grow bu;refine Zo hm (fun hb hm=>go ?_) fun hb hm=>go ?_
 ·refine lV (.agg #[.bool false,.slice none (([]:List Int).length) 0,.slice none (([]:List Int).length) 0]) (Wc (l:=[_,_]) (qs:=[(0,2),(2,1)]) underlying39 zeroValue39 ⟨rfl,sizeOf37,rfl,sizeOf35,trivial⟩ rfl)<|Xp rfl<|Zz ad ?_;intro et c8 c9 da;refine go ?_;cases hm;replace aa:=aa.kp c8 c9;exact ⟨rfl,_,Vw da.atN,_,none,0,none,0,rfl,aa.fin (cm []),Zb.nil,Zb.nil⟩
 refine Xd ac ?_;refine go ?_;refine Zo hm (fun hb hm=>go ?_) fun hb hm=>go ?_
 ·refine lV (.agg #[.bool false,.slice none (([]:List Int).length) 0,.slice none (([]:List Int).length) 0]) (Wc (l:=[_,_]) (qs:=[(0,2),(2,1)]) underlying39 zeroValue39 ⟨rfl,sizeOf37,rfl,sizeOf35,trivial⟩ rfl)<|Zz ad ?_;intro eu db dc dd;refine go ?_;cases hm;replace aa:=aa.kp db dc;exact ⟨rfl,_,Vw dd.atN,_,none,0,none,0,rfl,aa.fin (cm []),Zb.nil,Zb.nil⟩
 refine Zu [1,2,28,29,4,1000000] (fun n f bp=>∃ a4 a5 a6 av aw al ax ay am bv,n=bv.length∧ak.drop a5=bv∧S6 N ab ak bv a5 a6 al am=some r∧St w0 (Zj col) a4 bp∧Zf 27 1 a4 bp b7 #[.string ab.1,.slice bj ab.2.1.length bf,.slice bk ab.2.2.1.length bg,.slice bm ab.2.2.2.1.length bh,.slice bn ab.2.2.2.2.length bi]∧Zb (Za.int .u32) 95 3 a4 bp av aw al∧Zb (Za.int .u32) 95 4 a4 bp ax ay am∧Zf 39 2 a4 bp b8 #[.bool a6,.slice av al.length aw,.slice ax am.length ay]∧[30].map f=[.int .i64 a5]) ak.length ⟨_,0,_,none,0,_,none,0,_,_,rfl,rfl,hm,aa,ac,Zb.nil,Zb.nil,ad,rfl⟩ ?_;clear hm;intro n f bp hI;obtain ⟨a4,a5,a6,av,aw,al,ax,ay,am,bv,hn,hl,hm,aa,ac,ae,af,ad,hs⟩:=hI;subst hn;refine .lL [30] hs ?_
 cases bv with
 | nil=>
  have hk:¬ ((a5:Int)<(ak.length:Int)):=by have:=List.drop_eq_nil_iff.1 hl;omega
  have hkb:=decide_eq_false hk;rw [S6.eq_1] at hm;refine go ?_;refine Xs (congrArg Value.bool hkb)<|go ?_;obtain ⟨ew,de,hm⟩:=bZ hm;refine lc rfl rfl (Zgu call103) (Zn1 (col:=a4) 5 6 de:) ?_;rintro _ ey ⟨df,ez,e0,e1,e2,rfl,bw,ce,cf⟩;refine ⟨_,rfl,?_⟩;refine Xg (col:=df) #[.bool false,.slice none (([]:List Int).length) 0,.slice none (([]:List Int).length) 0] 7 zeroValue39 ?_;intro cx e3 e4 a7 dg;refine Zz dg ?_;intro e5 a8 dh ah;refine go ?_;refine Ya ⟨_,_,rfl⟩ ?_;replace ac:=((ac.gr bw).gr a7).kp a8;refine lW ((ac.atN).nth (q:=4) rfl)<|go ?_;replace ae:=((ae.gr bw).gr a7).kp a8;replace af:=((af.gr bw).gr a7).kp a8;replace ad:=((ad.gr bw).gr a7).kp a8;replace aa:=((aa.grow bw).grow a7).kp a8 dh;replace ce:=(ce.gr a7).kp a8;replace cf:=(cf.gr a7).kp a8;refine Zu [1,2,4,51,52,9,1000000] (fun n f az=>∃ a0 a9 bx bz b0 ba b1 b2 bb b3,n=b3.length∧ab.2.2.2.2.drop a9=b3∧Zav N ab ak b3 a9 bx ba bb=some r∧St w0 (Zj col) a0 az∧Zf 27 1 a0 az b7 #[.string ab.1,.slice bj ab.2.1.length bf,.slice bk ab.2.2.1.length bg,.slice bm ab.2.2.2.1.length bh,.slice bn ab.2.2.2.2.length bi]∧Zb (Za.int .u32) 95 3 a0 az av aw al∧Zb (Za.int .u32) 95 4 a0 az ax ay am∧Zf 39 2 a0 az b8 #[.bool a6,.slice av al.length aw,.slice ax am.length ay]∧Zb (Za.int .u32) 95 5 a0 az bz b0 ba∧Zb (Za.int .u32) 95 6 a0 az b1 b2 bb∧Zf 39 7 a0 az cx #[.bool bx,.slice bz ba.length b0,.slice b1 bb.length b2]∧[53].map f=[.int .i64 a9]) ab.2.2.2.2.length ⟨_,0,_,_,_,_,_,_,_,_,rfl,rfl,hm,aa,ac,ae,af,ad,ce,cf,ah,rfl⟩ ?_;clear hm;intro n f az hI;obtain ⟨a0,a9,bx,bz,b0,ba,b1,b2,bb,b3,hn,hl,hm,aa,ac,ae,af,ad,ai,aj,ah,hs⟩:=hI;subst hn;refine .lL [53] hs ?_
  cases b3 with
  | nil=>
   have hk:¬ ((a9:Int)<(ab.2.2.2.2.length:Int)):=by have:=List.drop_eq_nil_iff.1 hl;omega
   have hkb:=decide_eq_false hk;rw [Zav.eq_1] at hm;refine go ?_;refine Xs (congrArg Value.bool hkb)<|go ?_;refine lV _ (Z2 isAgg39 sizeOf39 ah)<|Zz ad ?_;intro e6 cg di dj;refine go ?_;cases hm;replace ai:=ai.kp cg;replace aj:=aj.kp cg;replace aa:=aa.kp cg di;exact ⟨rfl,_,Vw dj.atN,_,_,_,_,_,rfl,aa.fin (cm [(5,c1),(6,c2)]),aa.fo ai,aa.fo aj⟩
  | cons cy cz=>
   obtain ⟨an,dl,dm⟩:=X3 hl;have hk:(a9:Int)<(ab.2.2.2.2.length:Int):=by omega
   have hkb:=decide_eq_true hk;rw [Zav.eq_2] at hm;refine go ?_;refine Xt (congrArg Value.bool hkb)<|go ?_;refine lI an ((bo.ks aa).addr an) ?_;obtain ⟨_,dn,dp⟩:=(bo.ks aa).atN an;obtain ⟨⟨dq,dr,rfl,bc⟩,_⟩:=dn;refine lW dp.one<|go ?_;refine Xd ac<|Xp rfl ?_;obtain ⟨b4,ch,hm⟩:=bZ hm;refine lI ch ((bt.ks aa).addr ch) ?_;obtain ⟨_,ds,dt⟩:=(bt.ks aa).atN ch;obtain ⟨⟨du,dv,rfl,a3⟩,_⟩:=ds;refine lW dt.one<|go ?_;refine Zu [1,10,11,2,4,51,52,53,62,63,9,1000000] (fun n f ao=>∃ ag ci b5 b6,n=b6.length∧b4.drop b5=b6∧Zaw N ab ak a9 bx ba bb (Zav N ab ak cz) cy b6 ci=some r∧St w0 (Zj col) ag ao∧Sl (Za.pair (Za.pair Za.bool (Za.slice (Za.int .u32))) (Za.slice (Za.int .u32))) ag ao dq dr cy∧Zf 27 1 ag ao b7 #[.string ab.1,.slice bj ab.2.1.length bf,.slice bk ab.2.2.1.length bg,.slice bm ab.2.2.2.1.length bh,.slice bn ab.2.2.2.2.length bi]∧Zb (Za.int .u32) 95 3 ag ao av aw al∧Zb (Za.int .u32) 95 4 ag ao ax ay am∧Zf 39 2 ag ao b8 #[.bool a6,.slice av al.length aw,.slice ax am.length ay]∧Sl (Za.int .i64) ag ao du dv b4∧Zb (Za.int .u32) 95 5 ag ao bz b0 ba∧Zb (Za.int .u32) 95 6 ag ao b1 b2 bb∧Zf 39 7 ag ao cx #[.bool bx,.slice bz ba.length b0,.slice b1 bb.length b2]∧[64,12].map f=[.int .i64 b5,.int .i64 ci]) b4.length ⟨_,0,0,_,rfl,rfl,hm,aa,bc,ac,ae,af,ad,a3,ai,aj,ah,rfl⟩ ?_;clear hm;intro n f ao hI;obtain ⟨ag,ci,b5,b6,hn,hl,hm,aa,bc,ac,ae,af,ad,a3,ai,aj,ah,hs⟩:=hI;subst hn;refine .lL [64,12] hs ?_
   cases b6 with
   | nil=>
    have hk:¬ ((b5:Int)<(b4.length:Int)):=by have:=List.drop_eq_nil_iff.1 hl;omega
    have hkb:=decide_eq_false hk;rw [Zaw.eq_1] at hm;refine go ?_;refine Xs (congrArg Value.bool hkb)<|go ?_;refine Wh (col:=ag) [(0,0),(1,1),(2,1),(3,1),(4,0),(5,1),(6,1),(7,0),(8,1),(9,1),(10,1),(11,1),(12,1),(13,0),(14,1),(15,1),(16,0),(17,3),(18,3),(19,2)] (by kernel_rfl) (by kernel_rfl)<|xv rfl rfl (fun _ hC=>Z2 isAgg39 sizeOf39 (ah.gr (hC.bl ag))) ?_;refine xu rfl rfl (fun _=>Uj rfl) ?_;refine xu rfl rfl (fun _=>Yh rfl) ?_;refine xF ⟨_,_,rfl⟩ ?_;refine xW (fun _ hC=>((ac.atN).nth (q:=2) rfl).gr (hC.bl ag)) ?_;refine xu rfl rfl (fun _=>Yh rfl) ?_;obtain ⟨e7,b9,hm⟩:=bZ hm;refine xu rfl rfl (fun _=>Ym underlying23 sizeOf22 rfl rfl (Z4 b9).1 (Z4 b9).2.1 ((au.ks aa).addr b9)) ?_;obtain ⟨_,dw,dx⟩:=(au.ks aa).atN b9;obtain ⟨⟨e8,e9,rfl,fa⟩,_⟩:=dw;refine xW (fun _ hC=>dx.one.gr (hC.bl ag)) ?_;refine xu rfl rfl (fun _=>Qg underlying22 rfl) ?_;refine xu rfl rfl (fun _=>Zgx _ _ rfl rfl) ?_;refine xu rfl rfl (fun _=>Uj rfl) ?_;refine xu rfl rfl (fun _=>Yh rfl) ?_;obtain ⟨fb,ca,hm⟩:=bZ hm;refine xu rfl rfl (fun _=>Ym underlying33 sizeOf3 rfl rfl (Z4 ca).1 (Z4 ca).2.1 ((h1.ks aa).addr ca)) ?_;refine xW (fun _ hC=>((h1.ks aa).gr (hC.bl ag)).atInt ca) ?_;refine xu rfl rfl (fun _=>Sn _ _ rfl rfl) ?_;obtain ⟨cj,cb,hm⟩:=bZ hm;refine xu rfl rfl (fun _=>Ym underlying114 sizeOf39 rfl rfl (Z4 cb).1 (Z4 cb).2.1 (bc.addr cb)) ?_;obtain ⟨_,dy,dz⟩:=bc.atN cb;obtain ⟨_,_,rfl,d0,d1⟩:=V4 dy;obtain ⟨_,_,rfl,d2,d3⟩:=V4 d0;obtain ⟨rfl,_⟩:=d2;obtain ⟨⟨d4,d5,rfl,ck⟩,_⟩:=d3;obtain ⟨⟨d6,d7,rfl,cl⟩,_⟩:=d1;refine xv (v:=(.agg #[.bool cj.1.1,.slice d4 cj.1.2.length d5,.slice d6 cj.2.length d7])) rfl rfl (fun _ hC=>Wj isAgg39 sizeOf39 rfl rfl (dz.gr (hC.bl ag))) ?_;refine xe rfl rfl ?_;intro fc hC0;have hC:=hC0.bl ag;obtain ⟨fd,d8,hm⟩:=bZ hm;replace ck:=ck.gr hC;replace cl:=cl.gr hC;refine Zk (Zr1 d8 ck cl) ?_;rintro _ fe ⟨bq,ff,fg,fh,fi,rfl,a2,cn,co⟩;refine ⟨_,rfl,?_⟩;refine Zl<|Xo bq hC0 a2<|xe rfl rfl ?_;intro d9 hC0;replace ae:=(ae.gr hC).gr a2;replace af:=(af.gr hC).gr a2;replace ai:=(ai.gr hC).gr a2;replace aj:=(aj.gr hC).gr a2;replace ac:=(ac.gr hC).gr a2;replace ad:=(ad.gr hC).gr a2;replace ah:=(ah.gr hC).gr a2;replace aa:=(aa.grow hC).grow a2
    have hC:=hC0.bl bq;obtain ⟨fj,ea,hm⟩:=bZ hm;replace ai:=ai.gr hC;replace aj:=aj.gr hC;replace cn:=cn.gr hC;replace co:=co.gr hC;refine Zk (Zkj 8 9 ea ((ai.toSlF (Zd.int .u32)).froz 6) ((aj.froz 5 (by decide)).toSlF (Zd.int .u32)) ((cn.froz 5).froz 6) ((co.froz 5).froz 6)) ?_;rintro _ fk ⟨eb,fl,fm,fn,fp,rfl,ap,aq,ar⟩;refine ⟨_,rfl,?_⟩;replace aq:=aq.thaw (Z1 .u32) ap (((Fz.refl (col:=bq)).froz 5).froz 6) (by decide);replace ar:=ar.thaw (Z1 .u32) ap (((Fz.refl (col:=bq)).froz 5).froz 6) (by decide);replace ap:=ap.thawR (col:=bq);generalize Xe d9.heap.size bq eb=cc at *;refine Zl<|Xo cc hC0 ap<|xe rfl rfl ?_;intro fq hC0;replace ae:=(ae.gr hC).gr ap;replace af:=(af.gr hC).gr ap;replace ac:=(ac.gr hC).gr ap;replace ad:=(ad.gr hC).gr ap;replace ah:=(ah.gr hC).gr ap;replace aa:=(aa.grow hC).grow ap;have hC:=hC0.bl cc;replace ah:=ah.gr hC;refine Zz ah ?_;intro fr bd ec be;refine Zl<|xk cc<|Y2 ?_;replace ae:=(ae.gr hC).kp bd;replace af:=(af.gr hC).kp bd;replace aq:=(aq.gr hC).kp bd;replace ar:=(ar.gr hC).kp bd;replace ac:=(ac.gr hC).kp bd;replace ad:=(ad.gr hC).kp bd;replace aa:=(aa.grow hC).kp bd ec;intro ft hC;replace hC:=hC.bl cc;refine go ?_;replace ae:=ae.gr hC;replace ae:=ae.recol 8 5 (by decide);replace af:=af.gr hC;replace af:=af.recol 8 5 (by decide);replace aq:=aq.gr hC;replace aq:=aq.recolSelf 5 (by decide);replace ar:=ar.gr hC;replace ar:=ar.recol 8 5 (by decide);replace ac:=ac.gr hC;replace ac:=ac.recol 8 5 (by decide);replace ad:=ad.gr hC;replace ad:=ad.recol 8 5 (by decide);replace be:=be.gr hC;replace be:=be.recol 8 5 (by decide);replace aa:=aa.grow hC;replace aa:=aa.recol 8 5 (by decide) (by decide);replace ae:=ae.recol 9 6 (by decide);replace af:=af.recol 9 6 (by decide);replace aq:=aq.recol 9 6 (by decide);replace ar:=ar.recolSelf 6 (by decide);replace ac:=ac.recol 9 6 (by decide);replace ad:=ad.recol 9 6 (by decide);replace be:=be.recol 9 6 (by decide);replace aa:=aa.recol 9 6 (by decide) (by decide);exact ⟨cz.length,by simp,rfl,⟨_,_,_,_,_,_,_,_,_,_,rfl,dl,hm,aa,ac,ae,af,ad,aq,ar,be,(X5 (congrArg (Value.int .i64) (X2 (Nat.lt_of_lt_of_le dm (bo.ks aa).1.1))) rfl)⟩⟩
   | cons fu ed=>
    obtain ⟨an,ee,ef⟩:=X3 hl;have hk:(b5:Int)<(b4.length:Int):=by omega
    have hkb:=decide_eq_true hk;rw [Zaw.eq_2] at hm;refine go ?_;refine Xt (congrArg Value.bool hkb)<|go ?_;refine lI an (a3.addr an)<|lW (a3.atInt an) ?_;refine go ?_;refine Vj (col:=ag) (by kernel_rfl) (by kernel_rfl)<|go ?_;refine qF ⟨_,_,rfl⟩ ?_;refine qW (fun _ hC=>((ac.atN).nth (q:=2) rfl).gr (hC.bl ag)) ?_;refine go ?_;obtain ⟨fv,cp,hm⟩:=bZ hm;refine qI cp ((au.ks aa).addr cp) ?_;obtain ⟨_,eg,eh⟩:=(au.ks aa).atN cp;obtain ⟨⟨fw,fx,rfl,fy⟩,_⟩:=eg;refine qW (fun _ hC=>eh.one.gr (hC.bl ag)) ?_;refine go ?_;obtain ⟨fz,cq,hm⟩:=bZ hm;refine qI cq ((h1.ks aa).addr cq)<|qW (fun _ hC=>((h1.ks aa).gr (hC.bl ag)).atInt cq) ?_;refine go ?_;refine Ws ?_;intro f0 hC;replace hC:=hC.bl ag;refine go ?_;replace bc:=bc.gr hC;replace ae:=ae.gr hC;replace af:=af.gr hC;replace a3:=a3.gr hC;replace ai:=ai.gr hC;replace aj:=aj.gr hC;replace ac:=ac.gr hC;replace ad:=ad.gr hC;replace ah:=ah.gr hC;replace aa:=aa.grow hC;exact ⟨ed.length,by simp,rfl,⟨_,_,_,_,rfl,ee,hm,aa,bc,ac,ae,af,ad,a3,ai,aj,ah,(X5 (congrArg (Value.int .i64) (X2 (Nat.lt_of_lt_of_le ef a3.1.1))) rfl)⟩⟩
 | cons ei c0=>
  obtain ⟨an,ej,ek⟩:=X3 hl;have hk:(a5:Int)<(ak.length:Int):=by omega
  have hkb:=decide_eq_true hk;rw [S6.eq_2] at hm;refine go ?_;refine Xt (congrArg Value.bool hkb)<|go ?_;refine lI an ((h1.ks aa).addr an)<|lW ((h1.ks aa).atInt an)<|Yv rfl<|Yv rfl<|Zl<|Zs ?_;refine Wp.cutK [1,2,28,29,30,4,1000000] (fun f br=>∃ bs cr,Zfu a5 a6 al am (S6 N ab ak c0) cr=some r∧St w0 (Zj col) bs br∧Zf 27 1 bs br b7 #[.string ab.1,.slice bj ab.2.1.length bf,.slice bk ab.2.2.1.length bg,.slice bm ab.2.2.2.1.length bh,.slice bn ab.2.2.2.2.length bi]∧Zb (Za.int .u32) 95 3 bs br av aw al∧Zb (Za.int .u32) 95 4 bs br ax ay am∧Zf 39 2 bs br b8 #[.bool a6,.slice av al.length aw,.slice ax am.length ay]∧[46].map f=[.bool cr]) ?_ ?_
  ·intro f br hJ;obtain ⟨bs,cr,hm,aa,ac,ae,af,ad,hs⟩:=hJ;rw [Zfu.eq_1] at hm;refine .lL [46] hs ?_;refine Zo hm (fun hb hm=>go ?_) fun hb hm=>go ?_
   ·refine lV (.agg #[.bool false,.slice none (([]:List Int).length) 0,.slice none (([]:List Int).length) 0]) (Wc (l:=[_,_]) (qs:=[(0,2),(2,1)]) underlying39 zeroValue39 ⟨rfl,sizeOf37,rfl,sizeOf35,trivial⟩ rfl)<|Zz ad ?_;intro f1 el em en;refine go ?_;cases hm;replace aa:=aa.kp el em;exact ⟨rfl,_,Vw en.atN,_,none,0,none,0,rfl,aa.fin (cm []),Zb.nil,Zb.nil⟩
   exact ⟨c0.length,by simp,rfl,⟨_,_,_,_,_,_,_,_,_,_,rfl,ej,hm,aa,ac,ae,af,ad,(X5 (congrArg (Value.int .i64) (X2 (Nat.lt_of_lt_of_le ek (h1.ks aa).1.1))) rfl)⟩⟩
  refine go ?_;refine Yc hm (fun cs hm=>go ?_) fun cs hm=>go ?_
  ·refine lV (.bool true) (Xr (congrArg Value.bool cs) rfl)<|Zl ?_;exact ⟨rfl,_,_,hm,aa,ac,ae,af,ad,rfl⟩
  refine Ya ⟨_,_,rfl⟩ ?_;refine go ?_;refine lW ((ac.atN).nth (q:=2) rfl)<|go ?_;obtain ⟨eo,ct,hm⟩:=bZ hm;refine lI ct ((au.ks aa).addr ct) ?_;refine go ?_;obtain ⟨_,ep,eq⟩:=(au.ks aa).atN ct;obtain ⟨⟨f2,f3,rfl,f4⟩,_⟩:=ep;refine lW eq.one<|go ?_;refine lV (.bool (decide ((eo.length:Int)≤ei))) (Xq (congrArg Value.bool cs) rfl)<|Zl ?_;exact ⟨rfl,_,_,hm,aa,ac,ae,af,ad,rfl⟩
def ent (n:Zr) (w:List Int) (v:Nat):Rat:=Zv ((Te n w v).getD (w.getD v 0).toNat ((false,[]),[]))
def Va (n:Zr) (w:List Int):Nat→Nat→Rat→Rat
 | 0,_,q=>q
 | m+1,k,q=>Va n w m (k+1) (q * ent n w k)
section
variable {N:Nat} {n:Zr} (hf:Yo N n) {w:List Int} (hw:Yp n w)
include hf hw
variable {W K:Nat} (hs:Y8 n W) (hr:Xh N (8 * K+40)) (hWK:1025 * (W+2)+4≤K)
include hs hr hWK
omit hr hWK in
theorem Z29 {k:Nat} (hk:k<n.2.1.length):qs (ent n w k)≤W+1:=by
 have hwv:=hw.ok k (by rw [hw.len];exact hk)
 have hq:(w.getD k 0).toNat<(Te n w k).length:=by rw [hf.rowT_len hw hk];omega
 rw [ent,Xx hq]
 obtain ⟨h1,h2⟩:=Zkt hf hs hk _ (Zpt (List.getElem_mem hq))
 have:=Zw1 h1
 omega
omit hs hr hWK in
theorem Zsi {k:Nat} (hk:k<n.2.1.length) (a:Bool) (b c:List Int) (kk:Nat→Bool→List Int→List Int→Option (QV×Int)) (t:List QV):∀ (ps:List Int) (r kb:Nat),(∀ q ∈ ps,0≤q∧q<(n.2.1.length:Int))→r<kb→kb≤65536→Yg n.2.2.1 ps kb≤65536→
  Zaw N n w k a b c kk t ps (r:Int)=Zaw N n w k a b c kk t [] (Ss n w ps r:Int)
 | [],r,kb,_,_,_,_=>rfl
 | p :: ps,r,kb,hp,h1,h2,h3=>by
  obtain ⟨g1,g2,g3⟩:=Zqz hf.ev hw hp h1 h2 h3
  have hpp:=hp p List.mem_cons_self
  have hwp:=hw.ok p.toNat (by rw [hw.len];omega)
  have g4:r * cnt n p.toNat≤kb * cnt n p.toNat:=Nat.mul_le_mul_right _ (by omega)
  have q1:Zm n.2.2.1 p=some (n.2.2.1.getD p.toNat []):=by
   have:=Vs (l:=n.2.2.1) [] (j:=p.toNat) (by rw [hf.ev.v];omega)
   rwa [show ((p.toNat:Nat):Int)=p by omega] at this
  have q2:Zm w p=some (w.getD p.toNat 0):=by
   have:=Vs (l:=w) 0 (j:=p.toNat) (by rw [hw.len];omega)
   rwa [show ((p.toNat:Nat):Int)=p by omega] at this
  have e1:i64.wrap ((r:Int) * ((n.2.2.1.getD p.toNat []).length:Int))=((r * cnt n p.toNat:Nat):Int):=by
   rw [show ((n.2.2.1.getD p.toNat []).length:Int)=((cnt n p.toNat:Nat):Int) from rfl,← Int.natCast_mul]
   exact Z0 (by omega)
  have e2:i64.wrap (((r * cnt n p.toNat:Nat):Int)+w.getD p.toNat 0)=((r * cnt n p.toNat+(w.getD p.toNat 0).toNat:Nat):Int):=by
   rw [Int.natCast_add,show (((w.getD p.toNat 0).toNat:Nat):Int)=w.getD p.toNat 0 by omega]
   exact Z0 (by omega)
  rw [Zaw.eq_2,q1,oB,q2,oB,e1,e2]
  exact Zsi hk a b c kk t ps _ _ (fun q hq=>hp q (List.mem_cons_of_mem _ hq)) g1 g2 g3
theorem Zsh:∀ (l:List (List QV)) (k:Nat) (q:Rat),n.2.2.2.2.drop k=l→k≤n.2.1.length→qs q≤k * (W+1)+1→Zav N n w l k (Zw q).1.1 (Zw q).1.2 (Zw q).2=some (Zw (Va n w l.length k q),0)
 | [],k,q,_,_,_=>rfl
 | t :: l,k,q,hd,hk,hq=>by
  have ht:=hf.ev.t
  have hle:=hf.le
  have hk1:k<n.2.2.2.2.length:=by
   rcases Nat.lt_or_ge k n.2.2.2.2.length with h | h
   ·exact h
   ·rw [List.drop_eq_nil_of_le h] at hd;cases hd
  have hv:k<n.2.1.length:=by omega
  rw [List.drop_eq_getElem_cons hk1] at hd
  obtain ⟨e1,e2⟩:=List.cons.inj hd
  have htd:n.2.2.2.2.getD k []=t:=by rw [Xx hk1];exact e1
  have hrows:=hf.rows hv
  have hrow:=hf.row hw hv
  have hwk:=hw.ok k (by rw [hw.len];exact hv)
  have h2:=Zsi hf hw hv (Zw q).1.1 (Zw q).1.2 (Zw q).2 (Zav N n w l) t (n.2.2.2.1.getD k []) 0 1 (hf.pars hv) (by omega) (by omega) hrows.2.2
  rw [show ((0:Nat):Int)=0 from rfl] at h2
  have hj:(w.getD k 0).toNat<(Te n w k).length:=by rw [hf.rowT_len hw hv];omega
  have e3:i64.wrap ((Wx n w k:Int) * ((n.2.2.1.getD k []).length:Int))=((Wx n w k * cnt n k:Nat):Int):=by
   rw [show ((n.2.2.1.getD k []).length:Int)=((cnt n k:Nat):Int) from rfl,← Int.natCast_mul]
   exact Z0 (by omega)
  have e4:i64.wrap (((Wx n w k * cnt n k:Nat):Int)+w.getD k 0)=((Wx n w k * cnt n k+(w.getD k 0).toNat:Nat):Int):=by
   rw [Int.natCast_add,show (((w.getD k 0).toNat:Nat):Int)=w.getD k 0 by omega]
   exact Z0 (by omega)
  have hat:Zm t ((Wx n w k * cnt n k+(w.getD k 0).toNat:Nat):Int)=some (Te n w k)[(w.getD k 0).toNat]:=by
   rw [← htd];exact Z55 hj
  obtain ⟨y,hy⟩:∃ y,y=(Te n w k)[(w.getD k 0).toNat]:=⟨_,rfl⟩
  obtain ⟨y1,y2⟩:=Zkt hf hs hv y (Zpt (hy ▸ List.getElem_mem hj))
  have he:ent n w k=Zv y:=by rw [ent,Xx hj,hy]
  have hmul:k * (W+1)≤1024 * (W+1):=Nat.mul_le_mul_right _ (by omega)
  have hfit:Vk (Wv y):=by
   rw [Wv];split
   ·exact ⟨y1.1,by simp [Zn]⟩
   ·exact y1
  have hfk:RV (W+1) (Wv y):=by
   refine ⟨hfit.1,hfit.2,?_,?_⟩
   ·rw [Wv];split
    ·simp only;omega
    ·omega
   ·rw [Wv];split
    ·simp
    ·omega
  have f1:Zb7 N ((y.1.1,y.1.2),y.2)=some (Wv y):=Ztm y1 y2 (hr.mono (by omega))
  have m1:Q2 N (((Zw q).1.1,(Zw q).1.2),(Zw q).2) (((Wv y).1.1,(Wv y).1.2),(Wv y).2)=some (Zw (q * ent n w k)):=by
   have:=Ztt (Su hq) hfk (hr.mono (by omega))
   rwa [V3,Zoh,← he] at this
  have hqs:=Zqg q (ent n w k)
  have hqe:=Z29 hf hw hs hv
  have ih:=Zsh l (k+1) (q * ent n w k) e2 (by omega) (by rw [Nat.add_mul,Nat.one_mul];omega)
  rw [Zav.eq_2,Vs [] (by rw [hf.ev.p];exact hv),oB,h2,← Wx,Zaw.eq_1,Vs [] (by rw [hf.ev.v];exact hv),oB,Vs 0 (by rw [hw.len];exact hv),oB,e3,e4,hat,← hy,oB,f1,oB,m1,oB,nC,Va]
  exact ih
end
theorem Zsg {N:Nat} {n:Zr} (he:Tw n) (hl:n.2.1.length≤1048576) (w:List Int) (hw:w.length=n.2.1.length):∀ (l:List Int) (k:Nat) (b:Bool) (l1 l2:List Int),w.drop k=l→k≤w.length→S6 N n w l k b l1 l2=if T7 n l k=true then S6 N n w [] w.length b l1 l2 else some (((false,([]:List Int)),([]:List Int)),3)
 | [],k,b,l1,l2,hd,h1=>by
  have:=List.drop_eq_nil_iff.1 hd
  rw [T7,if_pos rfl,show k=w.length by omega]
 | x :: l,k,b,l1,l2,hd,h1=>by
  have hk:k<w.length:=by
   rcases Nat.lt_or_ge k w.length with h | h
   ·exact h
   ·rw [List.drop_eq_nil_of_le h] at hd;cases hd
  rw [List.drop_eq_getElem_cons hk] at hd
  obtain ⟨e1,e2⟩:=List.cons.inj hd
  rw [S6.eq_2,T7]
  by_cases hx:x<0
  ·rw [if_pos (dT hx),Zfu,if_pos rfl,decide_eq_true hx];rfl
  ·rw [if_neg (dF hx),Vs [] (by rw [he.v];omega),oB,Zfu,decide_eq_false hx]
   by_cases hc:(cnt n k:Int)≤x
   ·rw [show ((n.2.2.1.getD k []).length:Int)=(cnt n k:Int) from rfl,decide_eq_true hc,if_pos rfl];rfl
   ·rw [show ((n.2.2.1.getD k []).length:Int)=(cnt n k:Int) from rfl,decide_eq_false hc,if_neg (by decide),Zsg he hl w hw l (k+1) b l1 l2 e2 (by omega)];rfl
theorem Z19 {N W K:Nat} {n:Zr} (hf:Yo N n) (hs:Y8 n W) (hr:Xh N (8 * K+40)) (hWK:1025 * (W+2)+4≤K) (hN:2000000<N) (hC:W8 N n=some 0) (w:List Int):
  ∃ p e,Zdm N n w=some (p,e)∧((e≠0∧(decide (w.length=n.2.1.length)&&T7 n w 0)=false)∨(e=0∧Yp n w∧p=Zw (Va n w n.2.1.length 0 1))):=by
 have hC':W8 N (n.1,n.2.1,n.2.2.1,n.2.2.2.1,n.2.2.2.2)=some 0:=hC
 have hle:=hf.le
 rw [Zdm,hC',oB,if_neg (by decide)]
 by_cases hlen:w.length=n.2.1.length
 ·rw [if_neg (show ¬ (!decide ((w.length:Int)=(n.2.1.length:Int)))=true by rw [decide_eq_true (by omega)];decide),Zsg hf.ev (by omega) w hlen w 0 false [] [] rfl (Nat.zero_le _)]
  cases hin:T7 n w 0 with
  | false=>rw [if_neg (show ¬ false=true by decide)];exact ⟨_,3,rfl,.inl ⟨by decide,by simp⟩⟩
  | true=>
   have hw:=Z3p hlen hin
   have h2:=Zsh hf hw hs hr hWK n.2.2.2.2 0 1 rfl (Nat.zero_le _) (by rw [Zjp];omega)
   rw [if_pos rfl,S6.eq_1,Zpw (hr.mono (by omega)),oB,h2,hf.ev.t]
   exact ⟨_,0,rfl,.inr ⟨rfl,hw,rfl⟩⟩
 ·rw [if_pos (show (!decide ((w.length:Int)=(n.2.1.length:Int)))=true by rw [decide_eq_false (by omega)];rfl)]
  exact ⟨_,60,rfl,.inl ⟨by decide,by rw [decide_eq_false hlen];rfl⟩⟩
theorem Z3q {n:Zr} {w:List Int} (hd:Yp n w):(decide (w.length=n.2.1.length)&&T7 n w 0)=true:=by
 have:∀ (l:List Int) (j:Nat),w.drop j=l→T7 n l j=true:=by
  intro l
  induction l with
  | nil=>intro j _;rfl
  | cons x l ihl=>
   intro j hj
   have hjl:j<w.length:=by
    rcases Nat.lt_or_ge j w.length with h | h
    ·exact h
    ·rw [List.drop_eq_nil_of_le h] at hj;cases hj
   rw [List.drop_eq_getElem_cons hjl] at hj
   obtain ⟨a1,a2⟩:=List.cons.inj hj
   have hok:=hd.ok j hjl
   rw [Xx hjl,a1] at hok
   rw [T7,ihl (j+1) a2,decide_eq_false (by omega),decide_eq_false (by omega)];rfl
 rw [this w 0 (by rw [List.drop_zero]),Bool.and_true]
 exact decide_eq_true hd.len
def Z7 (n:Zr) (T:List (List QV)):Zr:=(n.1,n.2.1,n.2.2.1,n.2.2.2.1,T)
structure Zag (n:Zr) (T:List (List QV)):Prop where
 len:T.length=n.2.1.length
 sz:∀ v,v<n.2.1.length→(T.getD v []).length=(n.2.2.2.2.getD v []).length
 ent:∀ v,v<n.2.1.length→∀ x ∈ T.getD v [],0≤Zv x∧Zv x≤1
 row:∀ v,v<n.2.1.length→∀ j,j<Yg n.2.2.1 (n.2.2.2.1.getD v []) 1→Yu (((T.getD v []).drop (j * cnt n v)).take (cnt n v))=1
theorem Zv0 {c:Nat}:∀ (m:Nat) (l:List QV),(∀ j,j<m→Yu ((l.drop (j * c)).take c)=1)→Uh c m l=true
 | 0,l,_=>rfl
 | m+1,l,h=>by
  have h0:=h 0 (by omega)
  rw [Nat.zero_mul,List.drop_zero] at h0
  rw [Uh,decide_eq_true h0,Bool.true_and]
  refine Zv0 m _ fun j hj=>?_
  have:=h (j+1) (by omega)
  rw [List.drop_drop,show c+j * c=(j+1) * c by rw [Nat.add_mul,Nat.one_mul,Nat.add_comm]]
  exact this
theorem Zyd {vals:List R6} {P:List R5} {T T':List (List QV)}:∀ m v,(∀ i,v≤i→i<v+m→(T.getD i []).length=(T'.getD i []).length)→Tu vals P T m v=Tu vals P T' m v
 | 0,v,_=>rfl
 | m+1,v,h=>by
  rw [Tu,Tu,h v (Nat.le_refl _) (by omega),Zyd m (v+1) fun i a b=>h i (by omega) (by omega)]
theorem Zyy {vals:List R6} {P:List R5} {T:List (List QV)}:∀ m v,(∀ i,v≤i→i<v+m→Uh (vals.getD i []).length (Yg vals (P.getD i []) 1) (T.getD i [])=true)→Zcq vals P T m v=0
 | 0,v,_=>rfl
 | m+1,v,h=>by
  rw [Zcq,if_pos (h v (Nat.le_refl _) (by omega)),Zyy m (v+1) fun i a b=>h i (by omega) (by omega)]
section
variable {N:Nat} {n:Zr} {T:List (List QV)} (hf:Yo N n)
include hf
theorem Zy4:Zag n n.2.2.2.2 where
 len:=hf.ev.t
 sz:=fun v _=>rfl
 ent:=fun v hv=>hf.ent hv
 row:=fun v hv=>Zvy _ _ (Zyx _ _ hf.su v (Nat.zero_le _) (by omega))
variable (h:Zag n T)
include h
theorem Zqw:Yo N (Z7 n T) where
 ev:=⟨hf.ev.v,hf.ev.p,h.len,hf.ev.i,hf.ev.ne⟩
 le:=hf.le
 nm:=hf.nm
 sh:=(Zyd n.2.1.length 0 fun i _ b=>h.sz i (by omega)).trans hf.sh
 en:=by
  show Zc0 T=false
  rw [Zc0,List.any_eq_false]
  intro t ht
  obtain ⟨v,hv,rfl⟩:=List.getElem_of_mem ht
  have hv2:v<n.2.1.length:=by rw [← h.len];exact hv
  rw [Bool.not_eq_true,List.any_eq_false]
  intro x hx
  have:=h.ent v hv2 x (by rw [Xx hv];exact hx)
  rw [Uw,decide_eq_false (Rat.not_lt.2 this.1),decide_eq_false (Rat.not_lt.2 this.2)]
  decide
 su:=Zyy n.2.1.length 0 fun i _ b=>Zv0 _ _ (h.row i (by omega))
 tw:=hf.tw
 or:=hf.or
omit hf h in
theorem Zxq {W:Nat} (hs:Y8 n W) (h1:∀ t ∈ T,t.length≤1048576) (h2:∀ t ∈ T,Xn t≤W) (h3:∀ t ∈ T,∀ x ∈ t,Vk x):Y8 (Z7 n T) W:=⟨hs.nm,hs.vl,hs.pn,h1,h2,h3⟩
omit hf h in
theorem Zqv {w:List Int} (hw:Yp n w):Yp (Z7 n T) w:=⟨hw.len,hw.ok⟩
omit hf h in
theorem Zxp (w:List Int) (v:Nat):Wx (Z7 n T) w v=Wx n w v:=by
 have hr:∀ (ps:List Int) (r:Nat),Ss (Z7 n T) w ps r=Ss n w ps r:=fun ps=>by
  induction ps with
  | nil=>intro r;rfl
  | cons p ps ih=>intro r;rw [Ss,Ss,ih];rfl
 exact hr _ _
omit hf h in
theorem Z50 {w:List Int} {v:Nat} (hx:(w.getD v 0).toNat<cnt n v):ent (Z7 n T) w v=Zv ((T.getD v []).getD (Wx n w v * cnt n v+(w.getD v 0).toNat) ((false,[]),[])):=by
 rw [ent,Te,Zxp]
 show Zv (((((T.getD v []).drop (Wx n w v * cnt n v)).take (cnt n v)).getD (w.getD v 0).toNat ((false,[]),[])))=_
 congr 1
 generalize T.getD v []=t
 generalize (w.getD v 0).toNat=x at *
 rw [List.getD_eq_getElem?_getD,List.getD_eq_getElem?_getD,List.getElem?_take,if_pos hx,List.getElem?_drop]
end
def Zfq (aa:Int) (ab:Int) (kk_L1:(R7→Int→Option R7)) (ac:List R4):Option R7:=
  kk_L1 ac (i64.wrap (ab+aa))
def Zb4 (N:Nat) (ah:R7) (ac:Int) (ad:Int) (kk_L1:(R7→Int→Option R7)) (ab:R4):Nat→R7→Int→Option R7
  | 0,_,_=>none
  | ai+1,ae,aa=>if (decide (aa<(i64.wrap (ad+ac))))=true then ((Zm ah aa).bind fun af=>(Zc9 N ((af.1.1,af.1.2),af.2) ((ab.1.1,ab.1.2),ab.2)).bind fun ag=>(Zm ae aa).bind fun ak=>(some (ae.set (Int.toNat aa) ((ag.1.1.1,ag.1.1.2),ag.1.2))).bind fun aj=>(Zb4 N ah ac ad kk_L1 ab ai) aj (i64.wrap (aa+1))) else (Zfq ac ad kk_L1 ae)
termination_by structural x=>x
def Tn (N:Nat) (ac:R7) (ab:Int):Nat→R7→Int→Option R7
  | 0,_,_=>none
  | af+1,ad,aa=>if (decide (aa<(ad.length:Int)))=true then (Zt ((0:Int)≤aa∧aa≤(i64.wrap (aa+ab))∧(i64.wrap (aa+ab))≤(ac.length:Int)) ((Zda N ((ac.take (Int.toNat (i64.wrap (aa+ab)))).drop (Int.toNat aa))).bind fun ae=>(Sb N ((ae.1.1,ae.1.2),ae.2)).bind fun ag=>if (decide (ag=0))=true then (Zfq ab aa (Tn N ac ab af) ad) else (Zb4 N ac ab aa (Tn N ac ab af) ae N ad aa))) else (some ad)
termination_by structural x=>x
def Zdi (N:Nat) (aa:R7) (ab:R7) (ac:Int):Option R7:=
  Tn N ab ac N aa 0
theorem Zrz {N ai ao:Nat} {a0 a1:Option Addr} {col:Ze} {w0:World} {aj ak:R7} {ah:Int} {r:R7} (qc0:Nat) (hm:Zdi N aj ak ah=some r) (hd:V9 [qc0]=true) (h0:Zb (Za.pair (Za.pair Za.bool (Za.row 95 (Za.int .u32))) (Za.row 95 (Za.int .u32))) 39 qc0 col w0 a0 ai aj) (h1:Sl (Za.pair (Za.pair Za.bool (Za.slice (Za.int .u32))) (Za.slice (Za.int .u32))) col w0 a1 ao ak):
    Calls prog 102 #[.slice a0 aj.length ai,.slice a1 ak.length ao,.int .i64 ah] w0 (fun e w'=>∃ (col':Ze),e= .returned (.tuple #[])∧Zq (pS [qc0]) col w0 col' w'∧Zb (Za.pair (Za.pair Za.bool (Za.row 95 (Za.int .u32))) (Za.row 95 (Za.int .u32))) 39 qc0 col' w' a0 ai r∧r.length=aj.length):=by
 refine Zbh (m:=46) (args:=[.slice a0 aj.length ai,.slice a1 ak.length ao,.int .i64 ah]) func102 rfl rfl rfl rfl ?_;rw [Zdi.eq_1] at hm;have aa:=St.startL (l:=[qc0]) rfl col w0;replace h0:=h0.startL (U6 hd 0 rfl) (U5 hd 0 rfl);refine go ?_;refine Zu [1,2,1000000] (fun n f bd=>∃ be ar ab ap,ap=n∧Tn N ak ah ap ar ab=some r∧St w0 (Xc [qc0] col) be bd∧Zb (Za.pair (Za.pair Za.bool (Za.row 95 (Za.int .u32))) (Za.row 95 (Za.int .u32))) 39 440 be bd a0 ai ar∧ar.length=aj.length∧ar.length=aj.length∧[0,6].map f=[.slice a0 ar.length ai,.int .i64 ab]) N ⟨_,_,0,_,rfl,hm,aa,h0,rfl,rfl,rfl⟩ ?_;clear hm;intro n f bd hI;obtain ⟨be,ar,ab,ap,hn,hm,aa,ay,bq,bf,hs⟩:=hI;subst hn;refine .lL [0,6] hs ?_;replace h1:=h1.keep (Zi.startL [qc0] col w0)
 cases ap with
 | zero=>rw [Tn.eq_1] at hm;cases hm
 | succ ap=>
  rw [Tn.eq_2] at hm;refine go ?_;refine Zo hm (fun hb hm=>?_) fun hb hm=>go ?_
  ·refine X0<|Zs ?_;refine Wp.cutK [1,2,6,1000000] (fun f bg=>∃ bh au,Zfq ah ab (Tn N ak ah ap) au=some r∧St w0 (Xc [qc0] col) bh bg∧Zb (Za.pair (Za.pair Za.bool (Za.row 95 (Za.int .u32))) (Za.row 95 (Za.int .u32))) 39 440 bh bg a0 ai au∧au.length=aj.length∧au.length=aj.length∧[0].map f=[.slice a0 au.length ai]) ?_ ?_
   ·intro f bg hJ;obtain ⟨bh,au,hm,aa,b3,b4,b5,hs⟩:=hJ;rw [Zfq.eq_1] at hm;refine .lL [0] hs<|go ?_;exact ⟨ap,by omega,rfl,⟨_,_,_,_,rfl,hm,aa,b3,b4,b5,rfl⟩⟩
   refine go ?_;obtain ⟨a5,hm⟩:=Z3 hm;have b6:=((h1.ks aa).take (Int.toNat (i64.wrap (ab+ah)))).drop (sz:=3) rfl (Int.toNat ab);refine lv (v:=.slice (if ao=(Int.toNat ab) then a1 else a1.map (·.add ((Int.toNat ab) * 3))) ((Int.toNat (i64.wrap (ab+ah))) - (Int.toNat ab)) (ao - (Int.toNat ab))) rfl rfl (Zxg underlying114 sizeOf39 rfl rfl rfl a5.1 a5.2.1 (by have:=(h1.ks aa).1.2;have:=a5.2.2;omega)) ?_;generalize (if ao=(Int.toNat ab) then a1 else a1.map (·.add ((Int.toNat ab) * 3)))=br at *;refine .ld (d:=21) (v:=(.slice br (((ak.take (Int.toNat (i64.wrap (ab+ah)))).drop (Int.toNat ab)).length) (ao - (Int.toNat ab)))) (congrArg (fun n=>Value.slice br n (ao - (Int.toNat ab))) (show (Int.toNat (i64.wrap (ab+ah))) - (Int.toNat ab)=((ak.take (Int.toNat (i64.wrap (ab+ah)))).drop (Int.toNat ab)).length by rw [List.length_drop,nK];have:=a5.2;omega)) ?_;obtain ⟨av,b7,hm⟩:=bZ hm;refine Zk (Znw 1 2 b7 b6) ?_;rintro _ cv ⟨b8,bs,bt,bu,bv,rfl,bw,ad,ae⟩;refine ⟨_,rfl,?_⟩;refine Xg (col:=b8) #[.bool false,.slice none (([]:List Int).length) 0,.slice none (([]:List Int).length) 0] 3 zeroValue39 ?_;intro b9 cw bx a6 ca;refine Zz ca ?_;intro cb a7 cc af;refine go ?_;refine lV _ (Z2 isAgg39 sizeOf39 af) ?_;obtain ⟨cx,cd,hm⟩:=bZ hm;replace ad:=(ad.gr a6).kp a7;replace ae:=(ae.gr a6).kp a7;refine Zk (Zhj cd ((ad.toSlF (Zd.int .u32)).froz 2) ((ae.froz 1 (by decide)).toSlF (Zd.int .u32))) ?_;rintro _ ce ⟨rfl,aq⟩;refine ⟨_,rfl,?_⟩;replace aq:Zh bx cb bx ce:=.of_below aq;refine go ?_;replace ay:=(((ay.gr bw).gr a6).kp a7).gr aq;replace aa:=(((aa.grow bw).grow a6).kp a7 cc).grow aq;replace ad:=ad.gr aq;replace ae:=ae.gr aq;replace af:=af.gr aq;refine Zo hm (fun hb hm=>go ?_) fun hb hm=>go ?_
   ·exact ⟨rfl,_,_,hm,aa,ay,bq,bf,rfl⟩
   refine Zu [1,2,6,7,1000000] (fun n f aw=>∃ ag am a8 ax,ax=n∧Zb4 N ak ah ab (Tn N ak ah ap) av ax am a8=some r∧St w0 (Xc [qc0] col) ag aw∧Zb (Za.pair (Za.pair Za.bool (Za.row 95 (Za.int .u32))) (Za.row 95 (Za.int .u32))) 39 440 ag aw a0 ai am∧am.length=aj.length∧Zb (Za.int .u32) 95 1 ag aw bs bt av.1.2∧Zb (Za.int .u32) 95 2 ag aw bu bv av.2∧Zf 39 3 ag aw b9 #[.bool av.1.1,.slice bs av.1.2.length bt,.slice bu av.2.length bv]∧am.length=aj.length∧[0,8].map f=[.slice a0 am.length ai,.int .i64 a8]) N ⟨_,_,_,_,rfl,hm,aa,ay,bq,ad,ae,af,bf,rfl⟩ ?_;clear hm;intro n f aw hI;obtain ⟨ag,am,a8,ax,hn,hm,aa,an,bz,ad,ae,af,cf,hs⟩:=hI;subst hn;refine .lL [0,8] hs ?_
   cases ax with
   | zero=>rw [Zb4.eq_1] at hm;cases hm
   | succ ax=>
    rw [Zb4.eq_2] at hm;refine go ?_;refine Zo hm (fun hb hm=>go ?_) fun hb hm=>go ?_
    ·refine Wh (col:=ag) [(0,1),(1,1),(2,1),(3,1),(4,1),(5,0),(6,0),(7,3),(8,1),(9,1),(10,1),(11,1),(12,2)] (by kernel_rfl) (by kernel_rfl)<|xu rfl rfl (fun _=>Uj rfl) ?_;refine xu rfl rfl (fun _=>Yh rfl) ?_;refine xu rfl rfl (fun _=>Uj rfl) ?_;refine xu rfl rfl (fun _=>Yh rfl) ?_;obtain ⟨bi,a9,hm⟩:=bZ hm;refine xu rfl rfl (fun _=>Ym underlying114 sizeOf39 rfl rfl (Z4 a9).1 (Z4 a9).2.1 ((h1.ks aa).addr a9)) ?_;obtain ⟨_,cg,ch⟩:=(h1.ks aa).atN a9;obtain ⟨_,_,rfl,ci,cj⟩:=V4 cg;obtain ⟨_,_,rfl,ck,cl⟩:=V4 ci;obtain ⟨rfl,_⟩:=ck;obtain ⟨⟨cn,co,rfl,bj⟩,_⟩:=cl;obtain ⟨⟨cp,cq,rfl,bk⟩,_⟩:=cj;refine xv (v:=(.agg #[.bool bi.1.1,.slice cn bi.1.2.length co,.slice cp bi.2.length cq])) rfl rfl (fun _ hC=>Wj isAgg39 sizeOf39 rfl rfl (ch.gr (hC.bl ag))) ?_;refine xv rfl rfl (fun _ hC=>Z2 isAgg39 sizeOf39 (af.gr (hC.bl ag))) ?_;refine xe rfl rfl ?_;intro cr hC0;have hC:=hC0.bl ag;obtain ⟨ac,cs,hm⟩:=bZ hm;replace ad:=ad.gr hC;replace ae:=ae.gr hC;replace bj:=bj.gr hC;replace bk:=bk.gr hC;refine Zk (Zrw 4 5 cs ((bj.froz 1).froz 2) ((bk.froz 1).froz 2) ((ad.toSlF (Zd.int .u32)).froz 2) ((ae.froz 1 (by decide)).toSlF (Zd.int .u32))) ?_;rintro _ cy ⟨ct,bm,bn,bo,bp,rfl,al,az,a2⟩;refine ⟨_,rfl,?_⟩;replace az:=az.thaw (Z1 .u32) al (((Fz.refl (col:=ag)).froz 1).froz 2) (by decide);replace a2:=a2.thaw (Z1 .u32) al (((Fz.refl (col:=ag)).froz 1).froz 2) (by decide);replace al:=al.thawR (col:=ag);generalize Xe cr.heap.size ag ct=b0 at *;refine Zl<|Xo b0 hC0 al<|xu (v:=(.tuple #[(.agg #[.bool ac.1.1.1,.slice bm ac.1.1.2.length bn,.slice bo ac.1.2.length bp]),.int .i64 ac.2])) rfl rfl (fun _=>Vi rfl) ?_;refine xu (v:=(.agg #[.bool ac.1.1.1,.slice bm ac.1.1.2.length bn,.slice bo ac.1.2.length bp])) rfl rfl (fun _=>Xk rfl rfl) ?_;refine xu (v:=(.int .i64 ac.2)) rfl rfl (fun _=>Xk rfl rfl) ?_;obtain ⟨cz,ba,hm⟩:=bZ hm;replace an:=(an.gr hC).gr al;refine xu rfl rfl (fun _=>Ym underlying114 sizeOf39 rfl rfl (Z4 ba).1 (Z4 ba).2.1 (an.addr ba)) ?_;refine xe rfl rfl ?_;intro c0 hC0;replace af:=(af.gr hC).gr al;replace aa:=(aa.grow hC).grow al;have hC:=hC0.bl b0;replace az:=az.gr hC;replace a2:=a2.gr hC
     have cu:=Xu.join (Xu.joinL (Zab ac.1.1.1) az.has) a2.has (by decide) (by decide);replace an:=an.gr hC;replace an:=an.recol 5 4 (by decide);replace ad:=(ad.gr al).gr hC;replace ad:=ad.recol 5 4 (by decide);replace ae:=(ae.gr al).gr hC;replace ae:=ae.recol 5 4 (by decide);replace af:=af.gr hC;replace af:=af.recol 5 4 (by decide);replace aa:=aa.grow hC;replace aa:=aa.recol 5 4 (by decide) (by decide);obtain ⟨a3,a4,hm⟩:=bZ hm;have a4:a3=am.set (Int.toNat a8) ((ac.1.1.1,ac.1.1.2),ac.1.2):=(Option.some.inj a4).symm;refine Zop (x1:=((ac.1.1.1,ac.1.1.2),ac.1.2)) (v:=(.agg #[.bool ac.1.1.1,.slice bm ac.1.1.2.length bn,.slice bo ac.1.2.length bp])) an ba rfl sizeOf39 cu rfl rfl (by decide) ?_;intro c1 b1 bb bc;rw [← a4] at bc;have b2:a3.length=aj.length:=(show am.length=a3.length by rw [a4,nS]).symm.trans bz;refine .ld (d:=0) (v:=(.slice a0 a3.length ai)) (congrArg (fun n=>Value.slice a0 n ai) (show am.length=a3.length by rw [a4,nS])) ?_;refine Zl<|xk b1<|Y2 ?_;intro c2 hC;replace hC:=hC.bl b1;refine go ?_;replace ad:=(ad.kpp bb).gr hC;replace ae:=(ae.kpp bb).gr hC;replace af:=(af.kpp bb).gr hC;replace aa:=(aa.kpp bb).grow hC;replace bc:=bc.gr hC;exact ⟨ax,by omega,rfl,⟨_,_,_,_,rfl,hm,aa,bc,b2,ad,ae,af,b2,rfl⟩⟩
    exact ⟨rfl,_,_,hm,aa,an,bz,cf,rfl⟩
  cases hm;exact ⟨rfl,_,rfl,aa.finL rfl (cm [(440,qc0)]),aa.foL ay,bf⟩
def Uc (t q:List QV):List QV:=if Yu q=0 then t else q.map fun x=>Zw (Zv x / Yu q)
def Wf (k:Nat):Nat→List QV→List QV→List QV
 | 0,t,_=>t
 | m+1,t,q=>Uc (t.take k) (q.take k)++Wf k m (t.drop k) (q.drop k)
theorem Zyh {t q:List QV} (h:t.length=q.length):(Uc t q).length=t.length:=by
 rw [Uc];split
 ·rfl
 ·rw [List.length_map,h]
section
variable {N B:Nat} (hr:Xh N (8 * B+64)) {q:List QV} {k:Nat} (hk:1≤k) (hq:∀ x ∈ q,RV B x) (hql:q.length≤1048576)
include hr hk hq hql
theorem Zux {at0:Nat} (hat:at0+k≤q.length) (kk:List QV→Int→Option (List QV)) {S:Rat} (hS:S≠0) (hSq:qs S≤B) (A t:List QV) (hA:A.length=at0) (ht:k≤t.length):∀ (m u f:Nat),u+m=k→m<f→
  Zb4 N q (k:Int) (at0:Int) kk (Zw S) f (A++((((q.drop at0).take k).take u).map (fun x=>Zw (Zv x / S))++t.drop u)) ((at0+u:Nat):Int)=kk (A++((((q.drop at0).take k).map fun x=>Zw (Zv x / S))++t.drop k)) ((at0+k:Nat):Int)
 | m,u,0,_,h=>by omega
 | 0,u,f+1,hu,_=>by
  obtain rfl:u=k:=by omega
  rw [Zb4.eq_2,Z0 (by omega),if_neg (dF (by omega)),Zfq,Z0 (by omega),List.take_of_length_le (l:=(q.drop at0).take u) (by rw [nK];omega),Int.natCast_add]
 | m+1,u,f+1,hu,hf=>by
  have hi:at0+u<q.length:=by omega
  have hrow:((q.drop at0).take k).length=k:=by rw [nK,List.length_drop];omega
  have hx:((q.drop at0).take k)[u]'(by omega)=q[at0+u]:=by rw [List.getElem_take,List.getElem_drop]
  have dv:Zc9 N ((q[at0+u].1.1,q[at0+u].1.2),q[at0+u].2) (((Zw S).1.1,(Zw S).1.2),(Zw S).2)=some (Zw (Zv q[at0+u] / S),0):=by
   have:=Z3a (N:=N) (hq _ (List.getElem_mem hi)) (Su hSq) (hr.mono (by omega))
   rwa [V3,if_neg hS] at this
  have hl1:((((q.drop at0).take k).take u).map (fun x=>Zw (Zv x / S))).length=u:=by rw [List.length_map,nK];omega
  have hat2:Zm (A++((((q.drop at0).take k).take u).map (fun x=>Zw (Zv x / S))++t.drop u)) ((at0+u:Nat):Int)=some (t[u]'(by omega)):=by
   rw [Z5 (by simp only [nA,hl1,List.length_drop];omega),List.getElem_append_right (by omega)]
   simp only [hA,Nat.add_sub_cancel_left]
   rw [List.getElem_append_right (by omega)]
   simp only [hl1,Nat.sub_self,List.getElem_drop,Nat.add_zero]
  have hset:(A++((((q.drop at0).take k).take u).map (fun x=>Zw (Zv x / S))++t.drop u)).set (at0+u) (Zw (Zv q[at0+u] / S))=A++((((q.drop at0).take k).take (u+1)).map (fun x=>Zw (Zv x / S))++t.drop (u+1)):=by
   rw [List.set_append_right _ _ (by omega),hA,Nat.add_sub_cancel_left,List.set_append_right _ _ (by omega),hl1,Nat.sub_self,List.drop_eq_getElem_cons (l:=t) (i:=u) (by omega),List.set_cons_zero,List.take_add_one,List.getElem?_eq_getElem (by omega),Option.toList_some,List.map_append,List.map_singleton,hx,List.append_assoc]
   rfl
  rw [Zb4.eq_2,Z0 (by omega),if_pos (dT (by omega)),Z5 hi,oB,dv,oB,hat2,oB,oB,Int.toNat_natCast]
  dsimp only
  rw [show (((Zw (Zv q[at0+u] / S)).1.1,(Zw (Zv q[at0+u] / S)).1.2),(Zw (Zv q[at0+u] / S)).2)=Zw (Zv q[at0+u] / S) from rfl,hset,wS (by omega)]
  exact Zux hat kk hS hSq A t hA ht m (u+1) f (by omega) (by omega)
theorem Zuw (hsq:∀ j,Xn ((q.drop (j * k)).take k)+1≤B):∀ (m j f:Nat) (A t:List QV),A.length=j * k→t.length=m * k→q.length=(j+m) * k→m<f→k<N→
  Tn N q (k:Int) f (A++t) ((j * k:Nat):Int)=some (A++Wf k m t (q.drop (j * k)))
 | m,j,0,_,_,_,_,_,h,_=>by omega
 | 0,j,f+1,A,t,hA,ht,hl,_,_=>by
  rw [Nat.zero_mul] at ht
  rw [Tn.eq_2,if_neg (dF (by simp only [nA];omega)),Wf]
 | m+1,j,f+1,A,t,hA,ht,hl,hf,hkN=>by
  have e1:(j+1) * k=j * k+k:=by rw [Nat.add_mul,Nat.one_mul]
  have e2:(j+(m+1)) * k=j * k+(m * k+k):=by rw [Nat.add_mul,Nat.add_mul,Nat.one_mul]
  rw [Nat.add_mul,Nat.one_mul] at ht
  have hjk:j * k+k≤q.length:=by omega
  obtain ⟨s1,s2⟩:=Ztx (N:=N) (l:=(q.drop (j * k)).take k) (fun a ha=>let h:=hq a (List.mem_of_mem_drop (List.mem_of_mem_take ha));⟨h.m,h.d⟩) (hr.mono (by have:=hsq j;omega))
  have hq1:=hsq j
  have sg:Sb N (((Zw (Yu ((q.drop (j * k)).take k))).1.1,(Zw (Yu ((q.drop (j * k)).take k))).1.2),(Zw (Yu ((q.drop (j * k)).take k))).2)=some (Zaa (Yu ((q.drop (j * k)).take k))):=by
   have:=Zky (N:=N) (Su s2) (hr.mono (by omega))
   rwa [V3] at this
  have edt:(q.take (j * k+k)).drop (j * k)=(q.drop (j * k)).take k:=by rw [List.drop_take,Nat.add_sub_cancel_left]
  have step:∀ R:List QV,R.length=k→R=Uc (t.take k) ((q.drop (j * k)).take k)→Tn N q (k:Int) f (A++(R++t.drop k)) ((j * k+k:Nat):Int)=some (A++Wf k (m+1) t (q.drop (j * k))):=fun R hR hR2=>by
   have ih:=Zuw hsq m (j+1) f (A++R) (t.drop k) (by rw [nA];omega) (by rw [List.length_drop];omega) (by rw [hl];congr 1;omega) (by omega) hkN
   rw [e1,List.append_assoc] at ih
   rw [ih,Wf,← hR2,List.drop_drop,List.append_assoc]
  rw [Tn.eq_2,if_pos (dT (by simp only [nA];omega)),Z0 (by omega),Z9 (by omega),show Int.toNat (((j * k:Nat):Int)+(k:Int))=j * k+k by omega,Int.toNat_natCast,edt,s1,oB,sg,oB]
  by_cases h0:Yu ((q.drop (j * k)).take k)=0
  ·have:=step (t.take k) (by rw [nK];omega) (by rw [Uc,if_pos h0])
   rw [List.take_append_drop] at this
   rw [if_pos (dT (Zqi.2 h0)),Zfq,Z0 (by omega)]
   exact this
  ·have L2:=Zux hr hk hq hql hjk (Tn N q (k:Int) f) h0 (by omega) A t hA (by omega) k 0 N (by omega) hkN
   rw [List.take_zero,List.map_nil,List.nil_append,List.drop_zero,Nat.add_zero] at L2
   rw [if_neg (by rw [decide_eq_false fun e=>h0 (Zqi.1 e)];decide)]
   refine L2.trans ?_
   exact step _ (by rw [List.length_map,nK,List.length_drop];omega) (by rw [Uc,if_neg h0])
theorem Z36 {R:Nat} {t:List QV} (ht:t.length=R * k) (hqR:q.length=R * k) (hsq:∀ j,Xn ((q.drop (j * k)).take k)+1≤B) (hkN:k<N) (hRN:R<N):Zdi N t q (k:Int)=some (Wf k R t q):=by
 have:=Zuw hr hk hq hql hsq R 0 N [] t (by rw [Nat.zero_mul];rfl) ht (by rw [Nat.zero_add];exact hqR) hRN hkN
 rw [Nat.zero_mul,List.nil_append,List.nil_append,List.drop_zero] at this
 rw [Zdi]
 exact this
end
theorem Z25:Wd prog 3 1 8:=⟨Tryz.t3,_,rfl,rfl,rfl,rfl,rfl⟩
def Qc (aa:List Int):Option R5:=
  Zt ((([]:List Int).length+aa.length) * 8≤140737488355328∧([]:List Int).length+aa.length≤maxLen) (some (([]:List Int)++aa))
theorem Zhm {ad:Nat} {a0:Option Addr} {col:Ze} {w0:World} {ac r:R5} (c1:Nat) (hm:Qc ac=some r) (h0:Sl (Za.int .i64) col w0 a0 ad ac):
    Calls prog 61 #[.slice a0 ac.length ad] w0 (fun e w'=>∃ (col':Ze) (ra1:Option Addr) (rc2:Nat),e= .returned ((.slice ra1 r.length rc2))∧Zh col w0 col' w'∧Zb (Za.int .i64) 3 c1 col' w' ra1 rc2 r):=by
 refine Xf 2 (m:=8) func61 rfl rfl rfl rfl rfl ?_;rw [Qc.eq_1] at hm;have aa:=St.start col w0;refine go ?_;replace h0:=h0.keep (Zi.start col w0);rcases Zp0 h0 with ab | ab
 ·replace hm:some ([]:List Int)=some r:=by have h0:=ab.2;subst h0;simpa [Zt,maxLen] using hm
  refine lv (v:=.bool a0.isNone) rfl rfl (Zgw underlying33 rfl)<|.ld (d:=4) (v:=.bool true) (congrArg Value.bool ab.1)<|Zl<|Xt rfl<|go ?_;cases hm;exact ⟨rfl,_,none,0,rfl,aa.fin (cm []),Zb.nil⟩
 refine lv (v:=.bool a0.isNone) rfl rfl (Zgw underlying33 rfl)<|.ld (d:=4) (v:=.bool false) (congrArg Value.bool ab)<|Zl<|Xs rfl<|go ?_;refine Zoo (col:=(Zj col)) (r:=(Za.int .i64)) 1 rfl underlying33 Z25 rfl ?_;intro aj ak al ae af;refine Yk rfl ?_;obtain ⟨ag,hm⟩:=Z3 hm;replace h0:=h0.gr ae;refine W7 af h0.srcC ag ?_;intro am an ao ap ah ai;refine go ?_;cases hm;replace aa:=(aa.grow ae).kpp ah;exact ⟨rfl,_,_,_,rfl,aa.fin (cm [(1,c1)]),aa.fo ai⟩
def Zi7:List Int→Int→Option Rf
  | [],aa=>some (aa,0)
  | ab :: ac,aa=>Zt (aa≠0) (if (decide ((i64.wrap (Int.tdiv 2147483647 aa))<ab))=true then (some (0,4)) else ((Zi7 ac) (i64.wrap (aa * ab))))
termination_by structural x=>x
def Zmc (kk_L1:(Bool→Option Rf)) (aa:Bool):Option Rf:=
  kk_L1 aa
def Zeb (aa:List Int):List Int→Bool→Option Rf
  | [],ab=>if ab=true then (some (0,0)) else (Zi7 aa 1)
  | ac :: ad,ab=>if (decide (ac<0))=true then (some (0,3)) else (if ab=true then (Zmc (Zeb aa ad) true) else (Zmc (Zeb aa ad) (decide (ac=0))))
termination_by structural x=>x
def Zpi (aa:List Int):Option Rf:=
  Zeb aa aa false
theorem Z1o {ai:Nat} {a0:Option Addr} {col:Ze} {w0:World} {ab:R5} {r:Rf} (hm:Zpi ab=some r) (h0:Sl (Za.int .i64) col w0 a0 ai ab):
    Calls prog 137 #[.slice a0 ab.length ai] w0 (fun e w'=>e= .returned (.tuple #[.int .i64 r.1,.int .i64 r.2])∧Below w0.heap.size w0 w'):=by
 refine Zhn 2 3 (m:=40) (args:=[.slice a0 ab.length ai]) func137 rfl rfl rfl rfl rfl ?_;rw [Zpi.eq_1] at hm;have aa:=St.start col w0;refine go ?_;refine Zu [0,10,11,1000000] (fun n f am=>∃ an ad aj ae,n=ae.length∧ab.drop ad=ae∧Zeb ab ae aj=some r∧St w0 (Zj col) an am∧[12,4].map f=[.int .i64 ad,.bool aj]) ab.length ⟨_,0,_,_,rfl,rfl,hm,aa,rfl⟩ ?_;clear hm;intro n f am hI;obtain ⟨an,ad,aj,ae,hn,hl,hm,aa,hs⟩:=hI;subst hn;refine .lL [12,4] hs ?_;replace h0:=h0.keep (Zi.start col w0)
 cases ae with
 | nil=>
  have hk:¬ ((ad:Int)<(ab.length:Int)):=by have:=List.drop_eq_nil_iff.1 hl;omega
  have hkb:=decide_eq_false hk;rw [Zeb.eq_1] at hm;refine go ?_;refine Xs (congrArg Value.bool hkb)<|go ?_;refine Zo hm (fun hb hm=>go ?_) fun hb hm=>go ?_
  ·cases hm;exact ⟨rfl,rfl,aa.below⟩
  refine Zu [25,26,1000000] (fun n f ao=>∃ ap af ag ah,n=ah.length∧ab.drop af=ah∧Zi7 ah ag=some r∧St w0 (Zj col) ap ao∧[27,7].map f=[.int .i64 af,.int .i64 ag]) ab.length ⟨_,0,1,_,rfl,rfl,hm,aa,rfl⟩ ?_;clear hm;intro n f ao hI;obtain ⟨ap,af,ag,ah,hn,hl,hm,aa,hs⟩:=hI;subst hn;refine .lL [27,7] hs ?_
  cases ah with
  | nil=>
   have hk:¬ ((af:Int)<(ab.length:Int)):=by have:=List.drop_eq_nil_iff.1 hl;omega
   have hkb:=decide_eq_false hk;rw [Zi7.eq_1] at hm;refine go ?_;refine Xs (congrArg Value.bool hkb)<|go ?_;cases hm;exact ⟨rfl,rfl,aa.below⟩
  | cons a3 av=>
   obtain ⟨ac,aw,ax⟩:=X3 hl;have hk:(af:Int)<(ab.length:Int):=by omega
   have hkb:=decide_eq_true hk;rw [Zi7.eq_2] at hm;refine go ?_;refine Xt (congrArg Value.bool hkb)<|go ?_;refine lI ac ((h0.ks aa).addr ac)<|lW ((h0.ks aa).atInt ac) ?_;refine go ?_;obtain ⟨ay,hm⟩:=Z3 hm;refine lV (.int .i64 (i64.wrap (Int.tdiv 2147483647 ag))) (Sp 2147483647 ag rfl rfl ay)<|go ?_;refine Zo hm (fun hb hm=>go ?_) fun hb hm=>go ?_
   ·cases hm;exact ⟨rfl,rfl,aa.below⟩
   exact ⟨av.length,by simp,rfl,⟨_,_,_,_,rfl,aw,hm,aa,(X5 (congrArg (Value.int .i64) (X2 (Nat.lt_of_lt_of_le ax (h0.ks aa).1.1))) rfl)⟩⟩
 | cons az aq=>
  obtain ⟨ac,a1,a2⟩:=X3 hl;have hk:(ad:Int)<(ab.length:Int):=by omega
  have hkb:=decide_eq_true hk;rw [Zeb.eq_2] at hm;refine go ?_;refine Xt (congrArg Value.bool hkb)<|X0<|Zs ?_;refine Wp.cutK [0,10,11,12,1000000] (fun f ar=>∃ au ak,Zmc (Zeb ab aq) ak=some r∧St w0 (Zj col) au ar∧[4].map f=[.bool ak]) ?_ ?_
  ·intro f ar hJ;obtain ⟨au,ak,hm,aa,hs⟩:=hJ;rw [Zmc.eq_1] at hm;refine .lL [4] hs<|go ?_;exact ⟨aq.length,by simp,rfl,⟨_,_,_,_,rfl,a1,hm,aa,(X5 (congrArg (Value.int .i64) (X2 (Nat.lt_of_lt_of_le a2 (h0.ks aa).1.1))) rfl)⟩⟩
  refine go ?_;refine lI ac ((h0.ks aa).addr ac)<|lW ((h0.ks aa).atInt ac) ?_;refine go ?_;refine Zo hm (fun hb hm=>go ?_) fun hb hm=>go ?_
  ·cases hm;exact ⟨rfl,rfl,aa.below⟩
  refine Yc hm (fun al hm=>go ?_) fun al hm=>go ?_
  ·refine lV (.bool true) (Xr (congrArg Value.bool al) rfl)<|go ?_;exact ⟨rfl,_,_,hm,aa,rfl⟩
  refine lV (.bool (decide (az=0))) (Xq (congrArg Value.bool al) rfl)<|go ?_;exact ⟨rfl,_,_,hm,aa,rfl⟩
def Zi9 (N:Nat) (ab:List Int):Nat→Int→Option (List Rf)
  | 0,_=>none
  | ac+1,aa=>if (decide (0≤aa))=true then ((Zm ab aa).bind fun ad=>((Zi9 N ab ac) (i64.wrap (aa - 1))).bind fun ae=>some ((aa,ad) :: ae)) else (some [])
termination_by structural x=>x
def Zpl (N:Nat) (aa:List Int):Option (List Rf):=
  Zi9 N aa N (i64.wrap ((aa.length:Int) - 1))
theorem Z1r (N:Nat) (col:Ze) (w0:World) (g0:Nat) (af0:Option Addr) (capf0:Nat) (ab:List Int) (hf0:Sl (Za.int .i64) col w0 af0 capf0 ab) (hb0:Zf 33 450 col w0 g0 #[.slice af0 ab.length capf0]) (r:List Rf) (hm:Zpl N ab=some r):
    Zhb prog 1 215 [.pointer (some ⟨g0,0,none⟩)] (fun (y:Int×Int) (col:Ze) (w:World) (args:List Value)=>args=[.int .i64 y.1,.int .i64 y.2]) r col w0:=by
 intro l J X hjs hxs hy aa;refine Zbh (m:=19) (args:=[.func (.yield l) #[] #[],.pointer (some ⟨g0,0,none⟩)]) func215 rfl rfl rfl rfl ?_;rw [Zpl.eq_1] at hm;refine go ?_;refine lW hb0.at1<|go ?_;refine Zu [0,1,1000000] (fun n f ad=>∃ ae r af ac,ac=n∧Zi9 N ab ac af=some r∧J r ae ad∧Sl (Za.int .i64) ae ad af0 capf0 ab∧Zf 33 450 ae ad g0 #[.slice af0 ab.length capf0]∧[3].map f=[.int .i64 af]) N ⟨_,_,_,_,rfl,hm,aa,hf0,hb0,rfl⟩ ?_;clear hm;intro n f ad hI;obtain ⟨ae,r,af,ac,hn,hm,aa,hf0,hb0,hs⟩:=hI;subst hn;refine .lL [3] hs ?_
 cases ac with
 | zero=>rw [Zi9.eq_1] at hm;cases hm
 | succ ac=>
  rw [Zi9.eq_2] at hm;refine go ?_;refine Zo hm (fun hb hm=>go ?_) fun hb hm=>go ?_
  ·refine lM (.func (.yield l) #[] #[])<|Xp rfl<|lW hb0.at1<|Xp rfl ?_;obtain ⟨ai,ag,hm⟩:=bZ hm;refine lI ag (hf0.addr ag)<|lW (hf0.atInt ag) ?_;obtain ⟨ak,hc_8m,aj⟩:=bZ hm;cases aj;have hm:=hc_8m;refine ly2 rfl rfl rfl rfl (hy _ _ _ _ [.int .i64 af,.int .i64 ai] aa rfl) ?_;rintro _ al ⟨am,ah,⟨rfl,hJ⟩ | ⟨rfl,hX⟩⟩
   ·refine ⟨_,rfl,?_⟩;have aa:=hJ;refine go ?_;refine Xs rfl<|go ?_;replace hf0:=hf0.kpp ah;replace hb0:=hb0.kpp ah;exact ⟨ac,by omega,rfl,⟨_,_,_,_,rfl,hm,aa,hf0,hb0,rfl⟩⟩
   refine ⟨_,rfl,?_⟩;have aa:=hX;refine go ?_;refine Xt rfl<|Vc ?_;exact ⟨rfl,⟨_,rfl⟩,_,.inr aa⟩
  cases hm;exact ⟨rfl,⟨_,rfl⟩,_,.inl aa⟩
def Zpk (N:Nat) (aa:List Int):Option (List Rf):=
  Zpl N aa
theorem Z1q {N ac:Nat} {a0:Option Addr} {col:Ze} {w0:World} {aa:R5} {r:(List Rf)} (hm:Zpk N aa=some r) (h0:Sl (Za.int .i64) col w0 a0 ac aa):
    Calls prog 186 #[.slice a0 aa.length ac] w0 (fun e w'=>∃ (col':Ze) (rv1:Value),e= .returned (rv1)∧Zh col w0 col' w'∧It prog 1 rv1 (fun (y:Int×Int) (col:Ze) (w:World) (args:List Value)=>args=[.int .i64 y.1,.int .i64 y.2]) r q0 col' w'):=by
 refine Xf 2 (m:=4) func186 rfl rfl rfl rfl rfl ?_;rw [Zpk.eq_1] at hm;have ab:=St.start col w0;refine go ?_;refine Zbo (col:=(Zj col)) (v:=(.slice a0 aa.length ac)) 1 rfl rfl ?_;intro ad ai ag aj ae;replace ae:Zf 33 1 ag ai ad #[.slice a0 aa.length ac]:=ae;refine lv (v:=_) rfl rfl (Tb rfl)<|go ?_;refine lV (.func (.func 215) #[] #[.pointer (some ⟨ad,0,none⟩)]) (Z5l rfl)<|lA (.func (.func 215) #[] #[.pointer (some ⟨ad,0,none⟩)])<|go ?_;replace ab:=ab.grow aj;have af:=ab.finBox (G:=(fun n=>bif Nat.beq n 1 then 450 else 0)) ae (by decide) (by decide) (show (fun n=>bif Nat.beq n 1 then 450 else 0) 1=450 from rfl);replace h0:=h0.keep (Zi.start col w0);have h0f:=ab.finSl (g:=(fun n=>bif Nat.beq n 1 then 450 else 0)) rfl (h0.ks ab);refine ⟨rfl,Vf w0.heap.size col ag (fun n=>bif Nat.beq n 1 then 450 else 0),_,rfl,ab.fin (fun n=>bif Nat.beq n 1 then 450 else 0),215,[.pointer (some ⟨ad,0,none⟩)],rfl,call215,?_⟩;intro col9 w9 ah hk9;replace af:=af.itk ah hk9 rfl;replace h0f:=h0f.itk ah hk9 rfl;exact Z1r N col9 w9 ad a0 ac aa h0f af r hm
def Zi8:List Rf→Int→R5→Option R5
  | [],ac,ab=>some ab
  | aa :: ad,ac,ab=>Zt (aa.2≠0) ((Zm ab aa.1).bind fun af=>(some (ab.set (Int.toNat aa.1) (Int.tmod ac aa.2))).bind fun ae=>Zt (aa.2≠0) ((Zi8 ad) (i64.wrap (Int.tdiv ac aa.2)) ae))
termination_by structural x=>x
def Zpj (N:Nat) (aa:List Int) (ab:Int):Option R5:=
  if (decide ((aa.length:Int)=0))=true then (some ([]:List Int)) else (Zt (aa.length * 8≤281474976710656∧aa.length≤maxLen) ((Zpk N aa).bind fun ac=>Zi8 ac ab (List.replicate aa.length (0:Int))))
theorem Z1p {N a1:Nat} {a0:Option Addr} {col:Ze} {w0:World} {ag:R5} {am:Int} {r:R5} (c1:Nat) (hm:Zpj N ag am=some r) (h0:Sl (Za.int .i64) col w0 a0 a1 ag):
    Calls prog 140 #[.slice a0 ag.length a1,.int .i64 am] w0 (fun e w'=>∃ (col':Ze) (ra1:Option Addr) (rc2:Nat),e= .returned ((.slice ra1 r.length rc2))∧Zh col w0 col' w'∧Zb (Za.int .i64) 3 c1 col' w' ra1 rc2 r):=by
 refine Z18 4 (mc:=499) (m:=28) (args:=[.slice a0 ag.length a1,.int .i64 am]) func140 rfl rfl rfl rfl rfl ?_;rw [Zpj.eq_1] at hm;have aa:=St.start col w0;replace h0:=h0.keep (Zi.start col w0);have hmk:Yq 499 (Zj col) w0 []:=.nil;refine go ?_;refine Zbo (col:=(Zj col)) (v:=(.int .i64 am)) 1 rfl rfl ?_;intro a2 a9 a3 ba ac;replace ac:Zf 3 1 a3 a9 a2 #[.int .i64 am]:=ac;refine go ?_;replace hmk:=hmk.gr ba;replace aa:=aa.grow ba;refine Zo hm (fun hb hm=>go ?_) fun hb hm=>go ?_
 ·cases hm;refine ⟨_,[],rfl,hmk,?_⟩;intro bz bh bi;replace aa:=aa.kp bh bi;exact ⟨Vf w0.heap.size col a3 (fun n=>0),none,0,rfl,aa.fin (fun n=>0),Zb.nil⟩
 obtain ⟨bb,hm⟩:=Z3 hm;refine Sz (col:=a3) (w:=a9) (r:=(Za.int .i64)) (n:=ag.length) (x0:=0) 2 rfl underlying33 Tryz.t3 rfl rfl rfl rfl rfl rfl rfl bb.1 bb.2 (Zco .i64 0) ?_;intro a4 b0 bj a5 a6;refine Qq (col:=bj) (v:=(.slice none (([]:List Int).length) 0)) 3 rfl zeroValue33 ?_;intro ar bk bc au a7;replace a7:Zf 33 3 bc bk ar #[.slice none (([]:List Int).length) 0]:=a7;refine Tl (v:=(.slice a4 ((List.replicate ag.length (0:Int)).length) ag.length)) a7 sizeOf33 rfl rfl (by intro u hu;simp only [Value.cells,List.mem_cons,List.not_mem_nil,or_false] at hu;subst hu;rfl) rfl rfl ?_;intro bm av bn ab;replace ab:Zf 33 3 bc bm ar #[.slice a4 ((List.replicate ag.length (0:Int)).length) ag.length]:=ab;refine go ?_;obtain ⟨bo,bp,hm⟩:=bZ hm;replace aa:=((aa.grow a5).grow au).kp av bn;refine Zk (Z1q bp (h0.ks aa)) ?_;rintro _ b1 ⟨bq,b2,rfl,aq,br⟩;refine ⟨_,rfl,go ?_⟩;replace ac:=(((ac.gr a5).gr au).kp av).gr aq;replace hmk:=(((hmk.gr a5).gr au).kp av).gr aq;replace a6:=((a6.gr au).kp av).gr aq;replace ab:=ab.gr aq;replace aa:=aa.grow aq;refine Znj (psl:=[16,17]) (arr:=(fun (y:Int×Int) (col:Ze) (w:World) (args:List Value)=>args=[.int .i64 y.1,.int .i64 y.2])) (ys:=bo) (col:=bq) 498 rfl br rfl hmk rfl rfl (by rintro _ _ _ _ rfl;rfl) (fun ys_ ad al=>∃ (ae:Int) (ai:Option Addr) (aj:Nat) (ak:List Int),Zi8 ys_ ae ak=some r∧St w0 (Zj col) ad al∧Zf 3 1 ad al a2 #[.int .i64 ae]∧Zb (Za.int .i64) 3 2 ad al ai aj ak∧Zf 33 3 ad al ar #[.slice ai ak.length aj]) (fun _ _ _=>False) ?_ ?_ ⟨am,a4,ag.length,(List.replicate ag.length (0:Int)),hm,aa,ac,a6,ab⟩ ?_ ?_ ?_
 ·intro ys_ ad al col2_ w2_ hJ hk;obtain ⟨ae,ai,aj,ak,hm,aa,ac,af,ab⟩:=hJ;exact ⟨ae,ai,aj,ak,hm,aa.kpp hk rfl rfl,ac.kpp hk rfl,af.kpp hk rfl rfl,ab.kpp hk rfl⟩
 ·intro _ _ _ _ _ h _;exact h
 ·intro b3 b4 b5 ah b6 ad al args hJ hrec hmk harr;obtain ⟨ae,ai,aj,ak,hm,aa,ac,af,ab⟩:=hJ;rw [Zi8.eq_2] at hm;have hki:=Zq.refl (pC 1) ad al;subst harr;refine go ?_;refine ⟨_,hrec,?_⟩;intro b7 b8 an bd hrec2;have hrec:=hrec2;refine go ?_;refine Wh (col:=ad) [(0,0),(1,1),(2,0),(3,1),(4,1),(5,1),(6,2)] (by kernel_rfl) (by kernel_rfl) ?_;replace ab:=ab.kp an;refine xW (fun _ hC=>ab.at1.gr (hC.bl ad)) ?_;refine xu rfl rfl (fun _=>Yh rfl) ?_;replace ac:=ac.kp an;refine xW (fun _ hC=>ac.at1.gr (hC.bl ad)) ?_;refine xu rfl rfl (fun _=>Yh rfl) ?_;obtain ⟨bs,hm⟩:=Z3 hm;refine xu (v:=(.int .i64 (Int.tmod ae ah.2))) rfl rfl (fun _=>Zcn ae ah.2 rfl rfl bs) ?_;obtain ⟨b9,aw,hm⟩:=bZ hm;replace af:=af.kp an;refine xu rfl rfl (fun _=>Ym underlying33 sizeOf3 rfl rfl (Z4 aw).1 (Z4 aw).2.1 (af.addr aw)) ?_;refine xe rfl rfl ?_;intro ca hC0;have hC:=hC0.bl ad;obtain ⟨ax,ay,hm⟩:=bZ hm;have ay:ax=ak.set (Int.toNat ah.1) (Int.tmod ae ah.2):=(Option.some.inj ay).symm;replace af:=af.gr hC;refine Y6 (x1:=Int.tmod ae ah.2) af aw ?_;intro bt ao be az;rw [← ay] at az;replace ab:=(ab.gr hC).kp ao;replace ab:Zf 33 3 ad bt ar #[.slice ai ax.length aj]:=by rw [← (show ak.length=ax.length by rw [ay,nS])];exact ab
  refine Zl<|xk ad<|Y2 ?_;replace hmk:=((hmk.kp an).gr hC).kp ao;replace hki:=((hki.kp an bd rfl).gr hC).kp ao be rfl;replace aa:=((aa.kp an bd).grow hC).kp ao be;replace ac:=(ac.gr hC).kp ao;replace hrec:=(hrec.gr hC).kp ao;intro cb hC;replace hC:=hC.bl ad;refine Wl ?_;replace ac:=ac.gr hC;refine lW ac.at1<|Xp rfl ?_;obtain ⟨bu,hm⟩:=Z3 hm;refine lV (.int .i64 (i64.wrap (Int.tdiv ae ah.2))) (Sp ae ah.2 rfl rfl bu)<|Tl (v:=(.int .i64 (i64.wrap (Int.tdiv ae ah.2)))) ac sizeOf3 rfl rfl (by intro u hu;simp only [Value.cells,List.mem_cons,List.not_mem_nil,or_false] at hu;subst hu;rfl) rfl rfl ?_;intro bv ap bf a8;replace a8:Zf 3 1 ad bv a2 #[.int .i64 (i64.wrap (Int.tdiv ae ah.2))]:=a8;refine Zl ?_;replace az:=(az.gr hC).kp ap;replace ab:=(ab.gr hC).kp ap;replace hrec:=(hrec.gr hC).kp ap;replace hmk:=(hmk.gr hC).kp ap;replace hki:=(hki.gr hC).kp ap bf rfl;replace aa:=(aa.grow hC).kp ap bf;exact ⟨_,hki,⟨(i64.wrap (Int.tdiv ae ah.2)),ai,aj,ax,hm,aa,a8,az,ab⟩,hrec,hmk⟩
 ·intro bw ad al hJ hmk;obtain ⟨ae,ai,aj,ak,hm,aa,ac,af,ab⟩:=hJ;rw [Zi8.eq_1] at hm;refine go ?_;refine lW ab.at1<|go ?_;cases hm;refine ⟨_,(bw :: []),rfl,hmk,?_⟩;intro cc bg bx;replace af:=af.kp bg;replace aa:=aa.kp bg bx;exact ⟨Vf w0.heap.size col ad (fun n=>bif Nat.beq n 2 then c1 else 0),ai,aj,rfl,aa.fin (fun n=>bif Nat.beq n 2 then c1 else 0),aa.finOwn (g:=(fun n=>bif Nat.beq n 2 then c1 else 0)) rfl af (by decide) (by decide) rfl⟩
 intro _ _ _ _ h;exact h.elim
def Zi6 (N:Nat) (ab:Int) (ac:List Int):Nat→Int→Option (List Ra)
  | 0,_=>none
  | ad+1,aa=>if (decide (aa<ab))=true then ((Zpj N ac aa).bind fun ae=>((Zi6 N ab ac ad) (i64.wrap (aa+1))).bind fun af=>some ((aa,ae) :: af)) else (some [])
termination_by structural x=>x
def Zph (N:Nat) (aa:Int) (ab:List Int):Option (List Ra):=
  Zi6 N aa ab N 0
theorem Z1n (N:Nat) (cy:Nat) (col:Ze) (w0:World) (g0:Nat) (ah:Int) (hb0:Zf 3 450 col w0 g0 #[.int .i64 ah]) (g1:Nat) (af1:Option Addr) (capf1:Nat) (ad:List Int) (hf1:Zb (Za.int .i64) 3 450 col w0 af1 capf1 ad) (hb1:Zf 33 450 col w0 g1 #[.slice af1 ad.length capf1]) (r:List Ra) (hm:Zph N ah ad=some r):
    Zhb prog 1 139 [.pointer (some ⟨g0,0,none⟩),.pointer (some ⟨g1,0,none⟩)] (fun (y:Int×List Int) (col:Ze) (w:World) (args:List Value)=>∃ (a1:Option Addr) (ak:Nat),args=[.int .i64 y.1,.slice a1 y.2.length ak]∧Zb (Za.int .i64) 3 cy col w a1 ak y.2) r col w0:=by
 intro l J X hjs hxs hy aa;refine Zbh (m:=17) (args:=[.func (.yield l) #[] #[],.pointer (some ⟨g0,0,none⟩),.pointer (some ⟨g1,0,none⟩)]) func139 rfl rfl rfl rfl ?_;rw [Zph.eq_1] at hm;refine go ?_;refine lW hb0.at1<|go ?_;refine Zu [0,2,5,1000000] (fun n f ae=>∃ ab r ai af,af=n∧Zi6 N ah ad af ai=some r∧J r ab ae∧Zb (Za.int .i64) 3 450 ab ae af1 capf1 ad∧Zf 33 450 ab ae g1 #[.slice af1 ad.length capf1]∧Zf 3 450 ab ae g0 #[.int .i64 ah]∧[6].map f=[.int .i64 ai]) N ⟨_,_,0,_,rfl,hm,aa,hf1,hb1,hb0,rfl⟩ ?_;clear hm;intro n f ae hI;obtain ⟨ab,r,ai,af,hn,hm,aa,hf1,hb1,hb0,hs⟩:=hI;subst hn;refine .lL [6] hs ?_
 cases af with
 | zero=>rw [Zi6.eq_1] at hm;cases hm
 | succ af=>
  rw [Zi6.eq_2] at hm;refine go ?_;refine Zo hm (fun hb hm=>go ?_) fun hb hm=>go ?_
  ·refine lM (.func (.yield l) #[] #[])<|Xp rfl<|lW hb1.at1<|Xp rfl ?_;obtain ⟨an,ao,hm⟩:=bZ hm;refine Zk (Z1p 501 ao (hf1.toSlF (Zd.int .i64))) ?_;rintro _ ar ⟨ap,al,am,rfl,ac,ag⟩;refine ⟨_,rfl,?_⟩;replace ag:=ag.thaw (Z1 .i64) ac ((Fz.refl (col:=ab)).froz 450) (by decide);replace ac:=ac.thawR (col:=ab);generalize Xe ae.heap.size ab ap=au at *;replace hf1:=hf1.gr ac;replace hb1:=hb1.gr ac;replace hb0:=hb0.gr ac;replace aa:=hjs _ _ _ _ _ aa ac.toP;replace hf1:=hf1.recol 501 cy (by decide);replace ag:=ag.recolSelf cy (by decide);replace hb1:=hb1.recol 501 cy (by decide);replace hb0:=hb0.recol 501 cy (by decide);replace aa:=hjs _ _ _ _ _ aa ((Zq.refl _ _ _).recol 501 cy rfl);obtain ⟨av,hc_15m,aq⟩:=bZ hm;cases aq;have hm:=hc_15m;refine ly2 rfl rfl rfl rfl (hy _ _ _ _ [.int .i64 ai,.slice al an.length am] aa ⟨al,am,rfl,ag⟩) ?_;rintro _ aw ⟨ax,aj,⟨rfl,hJ⟩ | ⟨rfl,hX⟩⟩
   ·refine ⟨_,rfl,?_⟩;have aa:=hJ;refine go ?_;refine Xs rfl<|go ?_;replace hf1:=hf1.kpp aj;replace hb1:=hb1.kpp aj;replace hb0:=hb0.kpp aj;exact ⟨af,by omega,rfl,⟨_,_,_,_,rfl,hm,aa,hf1,hb1,hb0,rfl⟩⟩
   refine ⟨_,rfl,?_⟩;have aa:=hX;refine go ?_;refine Xt rfl<|Vc ?_;exact ⟨rfl,⟨_,rfl⟩,_,.inr aa⟩
  cases hm;exact ⟨rfl,⟨_,rfl⟩,_,.inl aa⟩
def Zpg (N:Nat) (ab:List Int):Option (List Ra):=
  (Qc ab).bind fun aa=>(Zpi aa).bind fun ac=>Zph N ac.1 aa
theorem Z1m {N ay:Nat} {a0:Option Addr} {col:Ze} {w0:World} {ai:R5} {r:(List Ra)} (cy:Nat) (hm:Zpg N ai=some r) (h0:Sl (Za.int .i64) col w0 a0 ay ai):
    Calls prog 60 #[.slice a0 ai.length ay] w0 (fun e w'=>∃ (col':Ze) (rv1:Value),e= .returned (rv1)∧Zh col w0 col' w'∧It prog 1 rv1 (fun (y:Int×List Int) (col:Ze) (w:World) (args:List Value)=>∃ (a1:Option Addr) (az:Nat),args=[.int .i64 y.1,.slice a1 y.2.length az]∧Zb (Za.int .i64) 3 cy col w a1 az y.2) r q1 col' w'):=by
 refine Xf 2 (m:=14) func60 rfl rfl rfl rfl rfl ?_;rw [Zpg.eq_1] at hm;have aa:=St.start col w0;refine go ?_;refine lv (v:=_) rfl rfl (Tb rfl)<|go ?_;obtain ⟨aj,a5,hm⟩:=bZ hm;replace h0:=h0.keep (Zi.start col w0);refine Zk (Zhm 1 a5 (h0.ks aa)) ?_;rintro _ bf ⟨a6,ak,al,rfl,a7,ac⟩;refine ⟨_,rfl,?_⟩;refine Qq (col:=a6) (v:=(.slice none (([]:List Int).length) 0)) 2 rfl zeroValue33 ?_;intro ad a8 ag a2 am;replace am:Zf 33 2 ag a8 ad #[.slice none (([]:List Int).length) 0]:=am;refine Tl (v:=(.slice ak aj.length al)) am sizeOf33 rfl rfl (by intro u hu;simp only [Value.cells,List.mem_cons,List.not_mem_nil,or_false] at hu;subst hu;rfl) rfl rfl ?_;intro a3 a4 a9 ae;replace ae:Zf 33 2 ag a3 ad #[.slice ak aj.length al]:=ae;refine go ?_;refine lW ae.at1 ?_;obtain ⟨ab,ba,hm⟩:=bZ hm;replace ac:=(ac.gr a2).kp a4;refine Zk (Z1o ba (ac.toSlF (Zd.int .i64))) ?_;rintro _ bb ⟨rfl,ah⟩;refine ⟨_,rfl,?_⟩;replace ah:Zh ag a3 ag bb:=.of_below ah;refine lM (.tuple #[.int .i64 ab.1,.int .i64 ab.2])<|lV (.int .i64 ab.1) (Xk rfl rfl)<|lV (.int .i64 ab.2) (Xk rfl rfl)<|Qq (col:=ag) (v:=(.int .i64 0)) 3 rfl zeroValue3 ?_;intro af bc an ao ap;replace ap:Zf 3 3 an bc af #[.int .i64 0]:=ap;refine Tl (v:=(.int .i64 ab.1)) ap sizeOf3 rfl rfl (by intro u hu;simp only [Value.cells,List.mem_cons,List.not_mem_nil,or_false] at hu;subst hu;rfl) rfl rfl ?_;intro bd aq be ar;replace ar:Zf 3 3 an bd af #[.int .i64 ab.1]:=ar;refine go ?_;refine lV (.func (.func 139) #[] #[.pointer (some ⟨af,0,none⟩),.pointer (some ⟨ad,0,none⟩)]) (Zql rfl rfl)<|lA (.func (.func 139) #[] #[.pointer (some ⟨af,0,none⟩),.pointer (some ⟨ad,0,none⟩)])<|go ?_;replace aa:=(((((aa.grow a7).grow a2).kp a4 a9).grow ah).grow ao).kp aq be;have au:=aa.finBox (G:=(fun n=>bif Nat.beq n 3 then 450 else bif Nat.beq n 2 then 450 else bif Nat.beq n 1 then 450 else 0)) ar (by decide) (by decide) (show (fun n=>bif Nat.beq n 3 then 450 else bif Nat.beq n 2 then 450 else bif Nat.beq n 1 then 450 else 0) 3=450 from rfl);replace ae:=((ae.gr ah).gr ao).kp aq;have av:=aa.finBox (G:=(fun n=>bif Nat.beq n 3 then 450 else bif Nat.beq n 2 then 450 else bif Nat.beq n 1 then 450 else 0)) ae (by decide) (by decide) (show (fun n=>bif Nat.beq n 3 then 450 else bif Nat.beq n 2 then 450 else bif Nat.beq n 1 then 450 else 0) 2=450 from rfl);replace ac:=((ac.gr ah).gr ao).kp aq
 have aw:=aa.finOwn (g:=(fun n=>bif Nat.beq n 3 then 450 else bif Nat.beq n 2 then 450 else bif Nat.beq n 1 then 450 else 0)) rfl ac (by decide) (by decide) (show (fun n=>bif Nat.beq n 3 then 450 else bif Nat.beq n 2 then 450 else bif Nat.beq n 1 then 450 else 0) 1=450 from rfl);refine ⟨rfl,Vf w0.heap.size col an (fun n=>bif Nat.beq n 3 then 450 else bif Nat.beq n 2 then 450 else bif Nat.beq n 1 then 450 else 0),_,rfl,aa.fin (fun n=>bif Nat.beq n 3 then 450 else bif Nat.beq n 2 then 450 else bif Nat.beq n 1 then 450 else 0),139,[.pointer (some ⟨af,0,none⟩),.pointer (some ⟨ad,0,none⟩)],rfl,call139,?_⟩;intro col9 w9 ax hk9;replace au:=au.itk ax hk9 rfl;replace av:=av.itk ax hk9 rfl;replace aw:=aw.itk ax hk9 rfl (Z1 .i64);exact Z1n N cy col9 w9 af ab.1 au ad ak al aj aw av r hm
def Zj0 (ss:List Nat):List Int:=ss.map fun s:Nat=>(s:Int)
theorem Zoa {l:List Int} (h:l.length≤1099511627776):Qc l=some l:=by
 rw [Qc,Z9 (by simp only [nN,maxLen];omega),List.nil_append]
theorem Zn7 {N W:Nat} {n:Zr} (hf:Yo N n) (hs:Y8 n W) (hr:Xh N (8 * W+40)) (hN:2000000<N):W8 N n=some 0:=by
 obtain ⟨l,o1,o2,o3,o4,o5⟩:=hf.or
 have hv:=hf.ev.v;have hp:=hf.ev.p;have ht:=hf.ev.t;have hle:=hf.le
 have nn:Zdn (n.1,n.2.1,n.2.2.1,n.2.2.2.1,n.2.2.2.2)=some (Q9 n.2.1 n.2.2.1 n.2.1.length 0):=Zvl n hv
 have D':S3 N n.2.2.2.1=some 0:=by rw [S3,o1];rfl
 have ms:=Zpx (N:=N) hs hf.ev n.2.2.2.2 0 (by simp) (by omega)
 have me:=Zpu (N:=N) (n:=n) (W:=W) (hr.mono (by omega)) n.2.2.2.2 (fun t h=>⟨hs.tl t h,hs.tq t h,hs.lim t h⟩)
 have m6:=Zpy (N:=N) hs hf.ev hf.sh hr (by omega) n.2.2.2.2 0 (by simp) (by omega)
 rw [W8,if_neg (by rw [decide_eq_true (by omega)];decide),if_neg (by rw [decide_eq_true (by omega)];decide),show (!decide ((n.2.2.2.2.length:Int)=(n.2.1.length:Int)))=false by rw [decide_eq_true (by omega)];rfl,Q5,if_neg (show ¬ (false=true) by decide),if_neg (dF (by omega)),
  nn,oB,hf.nm,if_neg (by decide),D',oB,if_neg (by decide),ms,ht,if_pos hf.sh,me,hf.en,if_neg (by decide),m6,ht,hf.su]
def Zb6:List R6→R5→Option R5
  | [],aa=>some aa
  | ab :: ac,aa=>Zt ((aa.length+[(ab.length:Int)].length) * 8≤140737488355328∧aa.length+[(ab.length:Int)].length≤maxLen) ((Zb6 ac) (aa++[(ab.length:Int)]))
termination_by structural x=>x
def Zic (aa:R0):Option R5:=
  Zb6 aa.2.2.1 ([]:List Int)
theorem Z0t {am an ao ap:Nat} {aq ar au av:Option Addr} {col:Ze} {w0:World} {aa:R0} {r:R5} (c1:Nat) (hm:Zic aa=some r) (a9:Sl Za.str col w0 aq am aa.2.1) (ac:Sl (Za.slice Za.str) col w0 ar an aa.2.2.1) (ba:Sl (Za.slice (Za.int .i64)) col w0 au ao aa.2.2.2.1) (bb:Sl (Za.slice (Za.pair (Za.pair Za.bool (Za.slice (Za.int .u32))) (Za.slice (Za.int .u32)))) col w0 av ap aa.2.2.2.2):
    Calls prog 105 #[(.agg #[.string aa.1,.slice aq aa.2.1.length am,.slice ar aa.2.2.1.length an,.slice au aa.2.2.2.1.length ao,.slice av aa.2.2.2.2.length ap])] w0 (fun e w'=>∃ (col':Ze) (ra1:Option Addr) (rc2:Nat),e= .returned ((.slice ra1 r.length rc2))∧Zh col w0 col' w'∧Zb (Za.int .i64) 3 c1 col' w' ra1 rc2 r):=by
 refine Xf 2 (m:=20) func105 rfl rfl rfl rfl rfl ?_;rw [Zic.eq_1] at hm;have ab:=St.start col w0;refine go ?_;refine Xl (col:=(Zj col)) 1 rfl ?_;intro bc bd be ax ay;refine go ?_;refine Xd ay ?_;refine go ?_;replace ab:=ab.grow ax;refine Zu [7,8,1000000] (fun n f ai=>∃ af aj ak ag ad ae,n=ae.length∧aa.2.2.1.drop ad=ae∧Zb6 ae ag=some r∧St w0 (Zj col) af ai∧Zb (Za.int .i64) 3 2 af ai aj ak ag∧[9,3].map f=[.int .i64 ad,.slice aj ag.length ak]) aa.2.2.1.length ⟨_,none,0,_,0,_,rfl,rfl,hm,ab,Zb.nil,rfl⟩ ?_;clear hm;intro n f ai hI;obtain ⟨af,aj,ak,ag,ad,ae,hn,hl,hm,ab,ah,hs⟩:=hI;subst hn;refine .lL [9,3] hs ?_;replace ac:=ac.keep (Zi.start col w0)
 cases ae with
 | nil=>
  have hk:¬ ((ad:Int)<(aa.2.2.1.length:Int)):=by have:=List.drop_eq_nil_iff.1 hl;omega
  have hkb:=decide_eq_false hk;rw [Zb6.eq_1] at hm;refine go ?_;refine Xs (congrArg Value.bool hkb)<|go ?_;cases hm;exact ⟨rfl,_,_,_,rfl,ab.fin (cm [(2,c1)]),ab.fo ah⟩
 | cons az a0=>
  obtain ⟨al,a1,a2⟩:=X3 hl;have hk:(ad:Int)<(aa.2.2.1.length:Int):=by omega
  have hkb:=decide_eq_true hk;rw [Zb6.eq_2] at hm;refine go ?_;refine Xt (congrArg Value.bool hkb)<|go ?_;refine lI al ((ac.ks ab).addr al) ?_;obtain ⟨_,a3,a4⟩:=(ac.ks ab).atN al;obtain ⟨⟨bf,bg,rfl,bh⟩,_⟩:=a3;refine lW a4.one<|go ?_;refine Vg (col:=af) [(az.length:Int)] 3 ?_;intro bi bj bk aw a5;obtain ⟨a6,hm⟩:=Z3 hm;replace ah:=ah.gr aw;refine W7 ah (a5.srcN (NB.int (k:=.i64))) a6 ?_;intro bm bn bo bp a7 a8;refine go ?_;replace ab:=(ab.grow aw).kpp a7;exact ⟨a0.length,by simp,rfl,⟨_,_,_,_,_,_,rfl,a1,hm,ab,a8,(X5 (congrArg (Value.int .i64) (X2 (Nat.lt_of_lt_of_le a2 (ac.ks ab).1.1))) rfl)⟩⟩
theorem Z27:Wd prog 9 1 16:=⟨Tryz.t9,_,rfl,rfl,rfl,rfl,rfl⟩
def Zed (aa:List ByteArray):Option R6:=
  Zt ((([]:List ByteArray).length+aa.length) * 16≤140737488355328∧([]:List ByteArray).length+aa.length≤maxLen) (some (([]:List ByteArray)++aa))
theorem Zsd {ad:Nat} {a0:Option Addr} {col:Ze} {w0:World} {ac r:R6} (c1:Nat) (hm:Zed ac=some r) (h0:Sl Za.str col w0 a0 ad ac):
    Calls prog 138 #[.slice a0 ac.length ad] w0 (fun e w'=>∃ (col':Ze) (ra1:Option Addr) (rc2:Nat),e= .returned ((.slice ra1 r.length rc2))∧Zh col w0 col' w'∧Zb Za.str 9 c1 col' w' ra1 rc2 r):=by
 refine Xf 2 (m:=8) func138 rfl rfl rfl rfl rfl ?_;rw [Zed.eq_1] at hm;have aa:=St.start col w0;refine go ?_;replace h0:=h0.keep (Zi.start col w0);rcases Zp0 h0 with ab | ab
 ·replace hm:some ([]:List ByteArray)=some r:=by have h0:=ab.2;subst h0;simpa [Zt,maxLen] using hm
  refine lv (v:=.bool a0.isNone) rfl rfl (Zgw underlying22 rfl)<|.ld (d:=4) (v:=.bool true) (congrArg Value.bool ab.1)<|Zl<|Xt rfl<|go ?_;cases hm;exact ⟨rfl,_,none,0,rfl,aa.fin (cm []),Zb.nil⟩
 refine lv (v:=.bool a0.isNone) rfl rfl (Zgw underlying22 rfl)<|.ld (d:=4) (v:=.bool false) (congrArg Value.bool ab)<|Zl<|Xs rfl<|go ?_;refine Zoo (col:=(Zj col)) (r:=Za.str) 1 rfl underlying22 Z27 rfl ?_;intro aj ak al ae af;refine Yk rfl ?_;obtain ⟨ag,hm⟩:=Z3 hm;replace h0:=h0.gr ae;refine W7 af h0.srcC ag ?_;intro am an ao ap ah ai;refine go ?_;cases hm;replace aa:=(aa.grow ae).kpp ah;exact ⟨rfl,_,_,_,rfl,aa.fin (cm [(1,c1)]),aa.fo ai⟩
/-! a network whose lists are its own -/
def Y9 (x:QV):QV:=Zw (Zv x)
def cpN (n:Zr):Zr:=(n.1,n.2.1,n.2.2.1,n.2.2.2.1,n.2.2.2.2.map (List.map Y9))
theorem Zst (x:QV):Zv (Y9 x)=Zv x:=V3 _
section
variable {N W K:Nat} {n:Zr} (hf:Yo N n) (hs:Y8 n W) (hr:Xh N (8 * K+40)) (hWK:1025 * (W+2)+4≤K) (hN:2000000<N)
include hf hs hr hWK hN
omit hr hWK hf hN hs in
theorem Zt8:∀ (l:List R6) (out:List Int),out.length+l.length≤1048576→Zb6 l out=some (out++Zj0 (l.map List.length))
 | [],out,_=>by rw [Zb6.eq_1,List.map_nil,Zj0,List.map_nil,List.append_nil]
 | x :: l,out,h=>by
  rw [nC] at h
  rw [Zb6.eq_2,Z9 (by simp only [List.length_singleton,maxLen];omega),Zt8 l _ (by rw [nA,List.length_singleton];omega),List.append_assoc];rfl
end
def Zfr (aa:Nat) (kk_L2:(Nat→Option Int)) (ab:Bool):Option Int:=
  if ab=true then (some 71) else (kk_L2 (aa+1))
def Q4 (ab:R0) (kk_L1:(Option Int)):List Int→Nat→Option Int
  | [],aa=>kk_L1
  | ac :: ad,aa=>if (decide (ac<(-1)))=true then (Zfr aa (Q4 ab kk_L1 ad) true) else ((Zm ab.2.2.1 (aa:Int)).bind fun ae=>Zfr aa (Q4 ab kk_L1 ad) (decide ((ae.length:Int)≤ac)))
termination_by structural x=>x
def Q3 (aa:R0):List R5→Option Int
  | []=>some 0
  | ab :: ac=>if (!decide ((ab.length:Int)=(aa.2.1.length:Int)))=true then (some 71) else (Q4 aa (Q3 aa ac) ab 0)
termination_by structural x=>x
def Zdk (N:Nat) (aa:R0) (ac:R9):Option Int:=
  (W8 N (aa.1,aa.2.1,aa.2.2.1,aa.2.2.2.1,aa.2.2.2.2)).bind fun ab=>if (!decide (ab=0))=true then (some ab) else (Q3 aa ac)
theorem Zn0 {N ai aj ak al bc:Nat} {am an ao ap a1:Option Addr} {col:Ze} {w0:World} {aa:R0} {ae:R9} {r:Int} (hm:Zdk N aa ae=some r) (a2:Sl Za.str col w0 am ai aa.2.1) (aq:Sl (Za.slice Za.str) col w0 an aj aa.2.2.1) (a3:Sl (Za.slice (Za.int .i64)) col w0 ao ak aa.2.2.2.1) (a4:Sl (Za.slice (Za.pair (Za.pair Za.bool (Za.slice (Za.int .u32))) (Za.slice (Za.int .u32)))) col w0 ap al aa.2.2.2.2) (h1:Sl (Za.slice (Za.int .i64)) col w0 a1 bc ae):
    Calls prog 95 #[(.agg #[.string aa.1,.slice am aa.2.1.length ai,.slice an aa.2.2.1.length aj,.slice ao aa.2.2.2.1.length ak,.slice ap aa.2.2.2.2.length al]),.slice a1 ae.length bc] w0 (fun e w'=>e= .returned ((.int .i64 r))∧Below w0.heap.size w0 w'):=by
 refine Xf 4 (m:=48) func95 rfl rfl rfl rfl rfl ?_;rw [Zdk.eq_1] at hm;have ab:=St.start col w0;refine go ?_;refine Xl (col:=(Zj col)) 1 rfl ?_;intro a5 bh bd bi ac;refine go ?_;refine lV _ (Z2 isAgg27 sizeOf27 ac) ?_;obtain ⟨bw,bj,hm⟩:=bZ hm;replace a2:=a2.keep (Zi.start col w0);replace aq:=aq.keep (Zi.start col w0);replace a3:=a3.keep (Zi.start col w0);replace a4:=a4.keep (Zi.start col w0);replace ab:=ab.grow bi;refine Zk (Zhl bj (a2.ks ab) (aq.ks ab) (a3.ks ab) (a4.ks ab)) ?_;rintro _ bk ⟨rfl,aw⟩;refine ⟨_,rfl,?_⟩;replace aw:Zh bd bh bd bk:=.of_below aw;refine go ?_;replace h1:=h1.keep (Zi.start col w0);replace ac:=ac.gr aw;replace ab:=ab.grow aw;refine Zo hm (fun hb hm=>go ?_) fun hb hm=>go ?_
 ·cases hm;exact ⟨rfl,rfl,ab.below⟩
 refine Zu [15,16,2,1000000] (fun n f a6=>∃ a7 ar au,n=au.length∧ae.drop ar=au∧Q3 aa au=some r∧St w0 (Zj col) a7 a6∧Zf 27 1 a7 a6 a5 #[.string aa.1,.slice am aa.2.1.length ai,.slice an aa.2.2.1.length aj,.slice ao aa.2.2.2.1.length ak,.slice ap aa.2.2.2.2.length al]∧[17].map f=[.int .i64 ar]) ae.length ⟨_,0,_,rfl,rfl,hm,ab,ac,rfl⟩ ?_;clear hm;intro n f a6 hI;obtain ⟨a7,ar,au,hn,hl,hm,ab,ac,hs⟩:=hI;subst hn;refine .lL [17] hs ?_
 cases au with
 | nil=>
  have hk:¬ ((ar:Int)<(ae.length:Int)):=by have:=List.drop_eq_nil_iff.1 hl;omega
  have hkb:=decide_eq_false hk;rw [Q3.eq_1] at hm;refine go ?_;refine Xs (congrArg Value.bool hkb)<|go ?_;cases hm;exact ⟨rfl,rfl,ab.below⟩
 | cons ah a8=>
  obtain ⟨af,bm,bn⟩:=X3 hl;have hk:(ar:Int)<(ae.length:Int):=by omega
  have hkb:=decide_eq_true hk;rw [Q3.eq_2] at hm;refine go ?_;refine Xt (congrArg Value.bool hkb)<|go ?_;refine lI af ((h1.ks ab).addr af) ?_;obtain ⟨_,bo,bp⟩:=(h1.ks ab).atN af;obtain ⟨⟨be,bf,rfl,ad⟩,_⟩:=bo;refine lW bp.one<|go ?_;refine Xd ac ?_;refine go ?_;refine Zo hm (fun hb hm=>go ?_) fun hb hm=>go ?_
  ·cases hm;exact ⟨rfl,rfl,ab.below⟩
  refine Zu [15,16,17,2,27,28,1000000] (fun n f ax=>∃ ay ag av,n=av.length∧ah.drop ag=av∧Q4 aa (Q3 aa a8) av ag=some r∧St w0 (Zj col) ay ax∧Zf 27 1 ay ax a5 #[.string aa.1,.slice am aa.2.1.length ai,.slice an aa.2.2.1.length aj,.slice ao aa.2.2.2.1.length ak,.slice ap aa.2.2.2.2.length al]∧Sl (Za.int .i64) ay ax be bf ah∧[29].map f=[.int .i64 ag]) ah.length ⟨_,0,_,rfl,rfl,hm,ab,ac,ad,rfl⟩ ?_;clear hm;intro n f ax hI;obtain ⟨ay,ag,av,hn,hl,hm,ab,ac,ad,hs⟩:=hI;subst hn;refine .lL [29] hs ?_
  cases av with
  | nil=>
   have hk:¬ ((ag:Int)<(ah.length:Int)):=by have:=List.drop_eq_nil_iff.1 hl;omega
   have hkb:=decide_eq_false hk;rw [Q4.eq_1] at hm;refine go ?_;refine Xs (congrArg Value.bool hkb)<|go ?_;exact ⟨a8.length,by simp,rfl,⟨_,_,_,rfl,bm,hm,ab,ac,(X5 (congrArg (Value.int .i64) (X2 (Nat.lt_of_lt_of_le bn (h1.ks ab).1.1))) rfl)⟩⟩
  | cons bq bg=>
   obtain ⟨af,br,bs⟩:=X3 hl;have hk:(ag:Int)<(ah.length:Int):=by omega
   have hkb:=decide_eq_true hk;rw [Q4.eq_2] at hm;refine go ?_;refine Xt (congrArg Value.bool hkb)<|go ?_;refine lI af (ad.addr af)<|lW (ad.atInt af)<|Yv rfl<|Yv rfl<|Zl<|Zs ?_;refine Wp.cutK [15,16,17,2,27,28,29,1000000] (fun f az=>∃ a0 a9,Zfr ag (Q4 aa (Q3 aa a8) bg) a9=some r∧St w0 (Zj col) a0 az∧Zf 27 1 a0 az a5 #[.string aa.1,.slice am aa.2.1.length ai,.slice an aa.2.2.1.length aj,.slice ao aa.2.2.2.1.length ak,.slice ap aa.2.2.2.2.length al]∧Sl (Za.int .i64) a0 az be bf ah∧[45].map f=[.bool a9]) ?_ ?_
   ·intro f az hJ;obtain ⟨a0,a9,hm,ab,ac,ad,hs⟩:=hJ;rw [Zfr.eq_1] at hm;refine .lL [45] hs ?_;refine Zo hm (fun hb hm=>go ?_) fun hb hm=>go ?_
    ·cases hm;exact ⟨rfl,rfl,ab.below⟩
    exact ⟨bg.length,by simp,rfl,⟨_,_,_,rfl,br,hm,ab,ac,ad,(X5 (congrArg (Value.int .i64) (X2 (Nat.lt_of_lt_of_le bs ad.1.1))) rfl)⟩⟩
   refine go ?_;refine Yc hm (fun ba hm=>go ?_) fun ba hm=>go ?_
   ·refine lV (.bool true) (Xr (congrArg Value.bool ba) rfl)<|Zl ?_;exact ⟨rfl,_,_,hm,ab,ac,ad,rfl⟩
   refine Ya ⟨_,_,rfl⟩ ?_;refine go ?_;refine lW ((ac.atN).nth (q:=2) rfl)<|go ?_;obtain ⟨bt,bb,hm⟩:=bZ hm;refine lI bb ((aq.ks ab).addr bb) ?_;refine go ?_;obtain ⟨_,bu,bv⟩:=(aq.ks ab).atN bb;obtain ⟨⟨bx,bz,rfl,b0⟩,_⟩:=bu;refine lW bv.one<|go ?_;refine lV (.bool (decide ((bt.length:Int)≤bq))) (Xq (congrArg Value.bool ba) rfl)<|Zl ?_;exact ⟨rfl,_,_,hm,ab,ac,ad,rfl⟩
def Zfd (aa:Nat) (kk_L2:(Nat→Option Int)) (ab:Bool):Option Int:=
  if ab=true then (some 71) else (kk_L2 (aa+1))
def Q1 (ab:R0) (kk_L1:(Option Int)):List Int→Nat→Option Int
  | [],aa=>kk_L1
  | ac :: ad,aa=>if (decide (ac<(-1)))=true then (Zfd aa (Q1 ab kk_L1 ad) true) else ((Zm ab.2.2.1 (aa:Int)).bind fun ae=>Zfd aa (Q1 ab kk_L1 ad) (decide ((ae.length:Int)≤ac)))
termination_by structural x=>x
def Q0 (aa:R0):List R5→Option Int
  | []=>some 0
  | ab :: ac=>if (!decide ((ab.length:Int)=(aa.2.1.length:Int)))=true then (some 71) else (Q1 aa (Q0 aa ac) ab 0)
termination_by structural x=>x
def Zbu (N:Nat) (aa:R0) (ac:R9):Option Int:=
  (W8 N (aa.1,aa.2.1,aa.2.2.1,aa.2.2.2.1,aa.2.2.2.2)).bind fun ab=>if (!decide (ab=0))=true then (some ab) else (Q0 aa ac)
theorem Zrv {N ai aj ak al bc:Nat} {am an ao ap a1:Option Addr} {col:Ze} {w0:World} {aa:R0} {ae:R9} {r:Int} (hm:Zbu N aa ae=some r) (a2:Sl Za.str col w0 am ai aa.2.1) (aq:Sl (Za.slice Za.str) col w0 an aj aa.2.2.1) (a3:Sl (Za.slice (Za.int .i64)) col w0 ao ak aa.2.2.2.1) (a4:Sl (Za.slice (Za.pair (Za.pair Za.bool (Za.slice (Za.int .u32))) (Za.slice (Za.int .u32)))) col w0 ap al aa.2.2.2.2) (h1:Sl (Za.slice (Za.int .i64)) col w0 a1 bc ae):
    Calls prog 106 #[(.agg #[.string aa.1,.slice am aa.2.1.length ai,.slice an aa.2.2.1.length aj,.slice ao aa.2.2.2.1.length ak,.slice ap aa.2.2.2.2.length al]),.slice a1 ae.length bc] w0 (fun e w'=>e= .returned ((.int .i64 r))∧Below w0.heap.size w0 w'):=by
 refine Xf 4 (m:=48) func106 rfl rfl rfl rfl rfl ?_;rw [Zbu.eq_1] at hm;have ab:=St.start col w0;refine go ?_;refine Xl (col:=(Zj col)) 1 rfl ?_;intro a5 bh bd bi ac;refine go ?_;refine lV _ (Z2 isAgg27 sizeOf27 ac) ?_;obtain ⟨bw,bj,hm⟩:=bZ hm;replace a2:=a2.keep (Zi.start col w0);replace aq:=aq.keep (Zi.start col w0);replace a3:=a3.keep (Zi.start col w0);replace a4:=a4.keep (Zi.start col w0);replace ab:=ab.grow bi;refine Zk (Zhl bj (a2.ks ab) (aq.ks ab) (a3.ks ab) (a4.ks ab)) ?_;rintro _ bk ⟨rfl,aw⟩;refine ⟨_,rfl,?_⟩;replace aw:Zh bd bh bd bk:=.of_below aw;refine go ?_;replace h1:=h1.keep (Zi.start col w0);replace ac:=ac.gr aw;replace ab:=ab.grow aw;refine Zo hm (fun hb hm=>go ?_) fun hb hm=>go ?_
 ·cases hm;exact ⟨rfl,rfl,ab.below⟩
 refine Zu [15,16,2,1000000] (fun n f a6=>∃ a7 ar au,n=au.length∧ae.drop ar=au∧Q0 aa au=some r∧St w0 (Zj col) a7 a6∧Zf 27 1 a7 a6 a5 #[.string aa.1,.slice am aa.2.1.length ai,.slice an aa.2.2.1.length aj,.slice ao aa.2.2.2.1.length ak,.slice ap aa.2.2.2.2.length al]∧[17].map f=[.int .i64 ar]) ae.length ⟨_,0,_,rfl,rfl,hm,ab,ac,rfl⟩ ?_;clear hm;intro n f a6 hI;obtain ⟨a7,ar,au,hn,hl,hm,ab,ac,hs⟩:=hI;subst hn;refine .lL [17] hs ?_
 cases au with
 | nil=>
  have hk:¬ ((ar:Int)<(ae.length:Int)):=by have:=List.drop_eq_nil_iff.1 hl;omega
  have hkb:=decide_eq_false hk;rw [Q0.eq_1] at hm;refine go ?_;refine Xs (congrArg Value.bool hkb)<|go ?_;cases hm;exact ⟨rfl,rfl,ab.below⟩
 | cons ah a8=>
  obtain ⟨af,bm,bn⟩:=X3 hl;have hk:(ar:Int)<(ae.length:Int):=by omega
  have hkb:=decide_eq_true hk;rw [Q0.eq_2] at hm;refine go ?_;refine Xt (congrArg Value.bool hkb)<|go ?_;refine lI af ((h1.ks ab).addr af) ?_;obtain ⟨_,bo,bp⟩:=(h1.ks ab).atN af;obtain ⟨⟨be,bf,rfl,ad⟩,_⟩:=bo;refine lW bp.one<|go ?_;refine Xd ac ?_;refine go ?_;refine Zo hm (fun hb hm=>go ?_) fun hb hm=>go ?_
  ·cases hm;exact ⟨rfl,rfl,ab.below⟩
  refine Zu [15,16,17,2,27,28,1000000] (fun n f ax=>∃ ay ag av,n=av.length∧ah.drop ag=av∧Q1 aa (Q0 aa a8) av ag=some r∧St w0 (Zj col) ay ax∧Zf 27 1 ay ax a5 #[.string aa.1,.slice am aa.2.1.length ai,.slice an aa.2.2.1.length aj,.slice ao aa.2.2.2.1.length ak,.slice ap aa.2.2.2.2.length al]∧Sl (Za.int .i64) ay ax be bf ah∧[29].map f=[.int .i64 ag]) ah.length ⟨_,0,_,rfl,rfl,hm,ab,ac,ad,rfl⟩ ?_;clear hm;intro n f ax hI;obtain ⟨ay,ag,av,hn,hl,hm,ab,ac,ad,hs⟩:=hI;subst hn;refine .lL [29] hs ?_
  cases av with
  | nil=>
   have hk:¬ ((ag:Int)<(ah.length:Int)):=by have:=List.drop_eq_nil_iff.1 hl;omega
   have hkb:=decide_eq_false hk;rw [Q1.eq_1] at hm;refine go ?_;refine Xs (congrArg Value.bool hkb)<|go ?_;exact ⟨a8.length,by simp,rfl,⟨_,_,_,rfl,bm,hm,ab,ac,(X5 (congrArg (Value.int .i64) (X2 (Nat.lt_of_lt_of_le bn (h1.ks ab).1.1))) rfl)⟩⟩
  | cons bq bg=>
   obtain ⟨af,br,bs⟩:=X3 hl;have hk:(ag:Int)<(ah.length:Int):=by omega
   have hkb:=decide_eq_true hk;rw [Q1.eq_2] at hm;refine go ?_;refine Xt (congrArg Value.bool hkb)<|go ?_;refine lI af (ad.addr af)<|lW (ad.atInt af)<|Yv rfl<|Yv rfl<|Zl<|Zs ?_;refine Wp.cutK [15,16,17,2,27,28,29,1000000] (fun f az=>∃ a0 a9,Zfd ag (Q1 aa (Q0 aa a8) bg) a9=some r∧St w0 (Zj col) a0 az∧Zf 27 1 a0 az a5 #[.string aa.1,.slice am aa.2.1.length ai,.slice an aa.2.2.1.length aj,.slice ao aa.2.2.2.1.length ak,.slice ap aa.2.2.2.2.length al]∧Sl (Za.int .i64) a0 az be bf ah∧[45].map f=[.bool a9]) ?_ ?_
   ·intro f az hJ;obtain ⟨a0,a9,hm,ab,ac,ad,hs⟩:=hJ;rw [Zfd.eq_1] at hm;refine .lL [45] hs ?_;refine Zo hm (fun hb hm=>go ?_) fun hb hm=>go ?_
    ·cases hm;exact ⟨rfl,rfl,ab.below⟩
    exact ⟨bg.length,by simp,rfl,⟨_,_,_,rfl,br,hm,ab,ac,ad,(X5 (congrArg (Value.int .i64) (X2 (Nat.lt_of_lt_of_le bs ad.1.1))) rfl)⟩⟩
   refine go ?_;refine Yc hm (fun ba hm=>go ?_) fun ba hm=>go ?_
   ·refine lV (.bool true) (Xr (congrArg Value.bool ba) rfl)<|Zl ?_;exact ⟨rfl,_,_,hm,ab,ac,ad,rfl⟩
   refine Ya ⟨_,_,rfl⟩ ?_;refine go ?_;refine lW ((ac.atN).nth (q:=2) rfl)<|go ?_;obtain ⟨bt,bb,hm⟩:=bZ hm;refine lI bb ((aq.ks ab).addr bb) ?_;refine go ?_;obtain ⟨_,bu,bv⟩:=(aq.ks ab).atN bb;obtain ⟨⟨bx,bz,rfl,b0⟩,_⟩:=bu;refine lW bv.one<|go ?_;refine lV (.bool (decide ((bt.length:Int)≤bq))) (Xq (congrArg Value.bool ba) rfl)<|Zl ?_;exact ⟨rfl,_,_,hm,ab,ac,ad,rfl⟩
def Zap (ac:R0) (aa:List Int) (kk_L1:(List Int→Option Rh)) (ad:List Int):List Int→Int→Option Rh
  | [],ab=>(Zm aa ab).bind fun ag=>(some (aa.set (Int.toNat ab) (i64.wrap (ag+1)))).bind fun ah=>kk_L1 ah
  | ae :: ai,ab=>(Zm ad ae).bind fun af=>if (decide (af<0))=true then (kk_L1 aa) else ((Zm ac.2.2.1 ae).bind fun aj=>(Zap ac aa kk_L1 ad ai) (i64.wrap ((i64.wrap (ab * (aj.length:Int)))+af)))
termination_by structural x=>x
def Qz (ab:R0) (aa:Int):List R5→R5→Option Rh
  | [],ac=>some (ac,0)
  | ae :: af,ac=>(Zm ab.2.2.2.1 aa).bind fun ag=>(Qc ag).bind fun ad=>Zt ((ad.length+[aa].length) * 8≤140737488355328∧ad.length+[aa].length≤maxLen) (Zap ab ac (Qz ab aa af) ae (ad++[aa]) 0)
termination_by structural x=>x
def Zht (ab:R0) (ad:R9) (ac:Int) (ae:Bool):Option Rh:=
  if ae=true then (some (([]:List Int),3)) else ((Zm ab.2.2.2.2 ac).bind fun aa=>Zt (aa.length * 8≤281474976710656∧aa.length≤maxLen) (Qz ab ac ad (List.replicate aa.length (0:Int))))
def Zc6 (N:Nat) (aa:R0) (ac:R9) (ab:Int):Option Rh:=
  (Zbu N (aa.1,aa.2.1,aa.2.2.1,aa.2.2.2.1,aa.2.2.2.2) ac).bind fun ad=>if (!decide (ad=0))=true then (some (([]:List Int),ad)) else (if (decide (ab<0))=true then (Zht aa ac ab true) else (Zht aa ac ab (decide ((aa.2.1.length:Int)≤ab))))
theorem Zru {N al am an ao bj:Nat} {ap aq ar au a1:Option Addr} {col:Ze} {w0:World} {ab:R0} {ah:R9} {ad:Int} {r:Rh} (c1:Nat) (hm:Zc6 N ab ah ad=some r) (bk:Sl Za.str col w0 ap al ab.2.1) (a0:Sl (Za.slice Za.str) col w0 aq am ab.2.2.1) (a2:Sl (Za.slice (Za.int .i64)) col w0 ar an ab.2.2.2.1) (a3:Sl (Za.slice (Za.pair (Za.pair Za.bool (Za.slice (Za.int .u32))) (Za.slice (Za.int .u32)))) col w0 au ao ab.2.2.2.2) (h1:Sl (Za.slice (Za.int .i64)) col w0 a1 bj ah):
    Calls prog 98 #[(.agg #[.string ab.1,.slice ap ab.2.1.length al,.slice aq ab.2.2.1.length am,.slice ar ab.2.2.2.1.length an,.slice au ab.2.2.2.2.length ao]),.slice a1 ah.length bj,.int .i64 ad] w0 (fun e w'=>∃ (col':Ze) (ra1:Option Addr) (rc2:Nat),e= .returned (.tuple #[.slice ra1 r.1.length rc2,.int .i64 r.2])∧Zh col w0 col' w'∧Zb (Za.int .i64) 3 c1 col' w' ra1 rc2 r.1):=by
 refine Zhn 6 7 (m:=84) (args:=[(.agg #[.string ab.1,.slice ap ab.2.1.length al,.slice aq ab.2.2.1.length am,.slice ar ab.2.2.2.1.length an,.slice au ab.2.2.2.2.length ao]),.slice a1 ah.length bj,.int .i64 ad]) func98 rfl rfl rfl rfl rfl ?_;rw [Zc6.eq_1] at hm;have aa:=St.start col w0;refine go ?_;refine Xl (col:=(Zj col)) 1 rfl ?_;intro bm b5 bv b6 ac;refine go ?_;refine Z6y<|go ?_;refine lV _ (Z2 isAgg27 sizeOf27 ac)<|Yk rfl ?_;obtain ⟨cx,b7,hm⟩:=bZ hm;replace bk:=bk.keep (Zi.start col w0);replace a0:=a0.keep (Zi.start col w0);replace a2:=a2.keep (Zi.start col w0);replace a3:=a3.keep (Zi.start col w0);replace h1:=h1.keep (Zi.start col w0);replace aa:=aa.grow b6;refine Zk (Zrv b7 (bk.ks aa) (a0.ks aa) (a2.ks aa) (a3.ks aa) (h1.ks aa)) ?_;rintro _ b8 ⟨rfl,ba⟩;refine ⟨_,rfl,?_⟩;replace ba:Zh bv b5 bv b8:=.of_below ba;refine go ?_;replace ac:=ac.gr ba;replace aa:=aa.grow ba;refine Zo hm (fun hb hm=>go ?_) fun hb hm=>?_
 ·cases hm;exact ⟨rfl,_,none,0,rfl,aa.fin (cm []),Zb.nil⟩
 refine X0<|Zs<|Zs ?_;refine Wp.cutK [1,2,3,1000000] (fun f bb=>∃ bc bn,Zht ab ah ad bn=some r∧St w0 (Zj col) bc bb∧Zf 27 1 bc bb bm #[.string ab.1,.slice ap ab.2.1.length al,.slice aq ab.2.2.1.length am,.slice ar ab.2.2.2.1.length an,.slice au ab.2.2.2.2.length ao]∧[29].map f=[.bool bn]) ?_ ?_
 ·intro f bb hJ;obtain ⟨bc,bn,hm,aa,ac,hs⟩:=hJ;rw [Zht.eq_1] at hm;refine .lL [29] hs ?_;refine Zo hm (fun hb hm=>go ?_) fun hb hm=>go ?_
  ·cases hm;exact ⟨rfl,_,none,0,rfl,aa.fin (cm []),Zb.nil⟩
  refine Xd ac<|Xp rfl ?_;obtain ⟨b9,bo,hm⟩:=bZ hm;refine lI bo ((a3.ks aa).addr bo) ?_;obtain ⟨_,ca,cb⟩:=(a3.ks aa).atN bo;obtain ⟨⟨cy,cz,rfl,c0⟩,_⟩:=ca;refine lW cb.one<|go ?_;obtain ⟨bw,hm⟩:=Z3 hm;refine Sz (col:=bc) (w:=bb) (r:=(Za.int .i64)) (n:=b9.length) (x0:=0) 2 rfl underlying33 Tryz.t3 rfl rfl rfl rfl rfl rfl rfl bw.1 bw.2 (Zco .i64 0) ?_;intro c2 c3 c4 bx cc;refine go ?_;refine Z6t<|go ?_;replace ac:=ac.gr bx;replace aa:=aa.grow bx;refine Zu [2,3,37,38,1000000] (fun n f bd=>∃ be a4 av aw ai a5,n=a5.length∧ah.drop a4=a5∧Qz ab ad a5 ai=some r∧St w0 (Zj col) be bd∧Zf 27 1 be bd bm #[.string ab.1,.slice ap ab.2.1.length al,.slice aq ab.2.2.1.length am,.slice ar ab.2.2.2.1.length an,.slice au ab.2.2.2.2.length ao]∧Zb (Za.int .i64) 3 2 be bd av aw ai∧[39,9].map f=[.int .i64 a4,.slice av ai.length aw]) ah.length ⟨_,0,_,_,_,_,rfl,rfl,hm,aa,ac,cc,rfl⟩ ?_;clear hm;intro n f bd hI;obtain ⟨be,a4,av,aw,ai,a5,hn,hl,hm,aa,ac,ae,hs⟩:=hI;subst hn;refine .lL [39,9] hs ?_
  cases a5 with
  | nil=>
   have hk:¬ ((a4:Int)<(ah.length:Int)):=by have:=List.drop_eq_nil_iff.1 hl;omega
   have hkb:=decide_eq_false hk;rw [Qz.eq_1] at hm;refine go ?_;refine Xs (congrArg Value.bool hkb)<|go ?_;cases hm;exact ⟨rfl,_,_,_,rfl,aa.fin (cm [(2,c1)]),aa.fo ae⟩
  | cons bz bp=>
   obtain ⟨ak,b0,b1⟩:=X3 hl;have hk:(a4:Int)<(ah.length:Int):=by omega
   have hkb:=decide_eq_true hk;rw [Qz.eq_2] at hm;refine go ?_;refine Xt (congrArg Value.bool hkb)<|go ?_;refine lI ak ((h1.ks aa).addr ak) ?_;obtain ⟨_,cd,ce⟩:=(h1.ks aa).atN ak;obtain ⟨⟨cf,cg,rfl,af⟩,_⟩:=cd;refine lW ce.one<|go ?_;refine Xd ac<|Xp rfl ?_;obtain ⟨c5,bq,hm⟩:=bZ hm;refine lI bq ((a2.ks aa).addr bq) ?_;obtain ⟨_,ch,ci⟩:=(a2.ks aa).atN bq;obtain ⟨⟨c6,c7,rfl,cj⟩,_⟩:=ch;refine lW ci.one ?_;obtain ⟨a6,ck,hm⟩:=bZ hm;refine Zk (Zhm 3 ck cj) ?_;rintro _ c8 ⟨cl,c9,da,rfl,bf,br⟩;refine ⟨_,rfl,?_⟩;refine Xp rfl<|Vg (col:=cl) [ad] 4 ?_;intro db dc dd a7 cn;obtain ⟨co,hm⟩:=Z3 hm;replace br:=br.gr a7;refine W7 br (cn.srcN (NB.int (k:=.i64))) co ?_;intro cp cq de df bg aj;refine go ?_;replace ae:=((ae.gr bf).gr a7).kpp bg;replace af:=((af.gr bf).gr a7).kpp bg;replace ac:=((ac.gr bf).gr a7).kpp bg;replace aa:=((aa.grow bf).grow a7).kpp bg;refine Zu [11,2,3,37,38,39,51,52,9,1000000] (fun n f ax=>∃ ag bh a8 a9,n=a9.length∧(a6++[ad]).drop a8=a9∧Zap ab ai (Qz ab ad bp) bz a9 bh=some r∧St w0 (Zj col) ag ax∧Sl (Za.int .i64) ag ax cf cg bz∧Zf 27 1 ag ax bm #[.string ab.1,.slice ap ab.2.1.length al,.slice aq ab.2.2.1.length am,.slice ar ab.2.2.2.1.length an,.slice au ab.2.2.2.2.length ao]∧Zb (Za.int .i64) 3 3 ag ax cp cq (a6++[ad])∧Zb (Za.int .i64) 3 2 ag ax av aw ai∧[53,12].map f=[.int .i64 a8,.int .i64 bh]) (a6++[ad]).length ⟨_,0,0,_,rfl,rfl,hm,aa,af,ac,aj,ae,rfl⟩ ?_;clear hm;intro n f ax hI;obtain ⟨ag,bh,a8,a9,hn,hl,hm,aa,af,ac,aj,ae,hs⟩:=hI;subst hn;refine .lL [53,12] hs ?_
   cases a9 with
   | nil=>
    have hk:¬ ((a8:Int)<((a6++[ad]).length:Int)):=by have:=List.drop_eq_nil_iff.1 hl;omega
    have hkb:=decide_eq_false hk;rw [Zap.eq_1] at hm;refine go ?_;refine Xs (congrArg Value.bool hkb)<|go ?_;obtain ⟨b2,ay,hm⟩:=bZ hm;refine lI ay (ae.addr ay)<|lW (ae.atInt ay) ?_;refine go ?_;refine lI ay (ae.addr ay) ?_;obtain ⟨bs,bi,hm⟩:=bZ hm;have bi:bs=ai.set (Int.toNat bh) (i64.wrap (b2+1)):=(Option.some.inj bi).symm;refine Y6 (x1:=i64.wrap (b2+1)) ae ay ?_;intro dg b3 cr b4;rw [← bi] at b4;refine .ld (d:=9) (v:=(.slice av bs.length aw)) (congrArg (fun n=>Value.slice av n aw) (show ai.length=bs.length by rw [bi,nS])) ?_;refine go ?_;replace ac:=ac.kp b3;replace aa:=aa.kp b3 cr;exact ⟨bp.length,by simp,rfl,⟨_,_,_,_,_,_,rfl,b0,hm,aa,ac,b4,(X5 (congrArg (Value.int .i64) (X2 (Nat.lt_of_lt_of_le b1 (h1.ks aa).1.1))) rfl)⟩⟩
   | cons dh cs=>
    obtain ⟨ak,ct,cu⟩:=X3 hl;have hk:(a8:Int)<((a6++[ad]).length:Int):=by omega
    have hkb:=decide_eq_true hk;rw [Zap.eq_2] at hm;refine go ?_;refine Xt (congrArg Value.bool hkb)<|go ?_;refine lI ak (aj.addr ak)<|lW (aj.atInt ak) ?_;refine go ?_;obtain ⟨di,az,hm⟩:=bZ hm;refine lI az (af.addr az)<|lW (af.atInt az) ?_;refine go ?_;refine Zo hm (fun hb hm=>?_) fun hb hm=>?_
    ·refine Znh (Zol rfl (Zol rfl (Zk0 ?_)));refine go ?_;exact ⟨bp.length,by simp,rfl,⟨_,_,_,_,_,_,rfl,b0,hm,aa,ac,ae,(X5 (congrArg (Value.int .i64) (X2 (Nat.lt_of_lt_of_le b1 (h1.ks aa).1.1))) rfl)⟩⟩
    refine X0<|Vj (col:=ag) (by kernel_rfl) (by kernel_rfl)<|go ?_;refine qF ⟨_,_,rfl⟩ ?_;refine qW (fun _ hC=>((ac.atN).nth (q:=2) rfl).gr (hC.bl ag)) ?_;refine go ?_;obtain ⟨dj,bt,hm⟩:=bZ hm;refine qI bt ((a0.ks aa).addr bt) ?_;obtain ⟨_,cv,cw⟩:=(a0.ks aa).atN bt;obtain ⟨⟨dl,dm,rfl,dn⟩,_⟩:=cv;refine qW (fun _ hC=>cw.one.gr (hC.bl ag)) ?_;refine go ?_;refine qI az (af.addr az)<|qW (fun _ hC=>(af.gr (hC.bl ag)).atInt az) ?_;refine go ?_;refine Ws ?_;intro dp hC;replace hC:=hC.bl ag;refine go ?_;replace af:=af.gr hC;replace aj:=aj.gr hC;replace ae:=ae.gr hC;replace ac:=ac.gr hC;replace aa:=aa.grow hC;exact ⟨cs.length,by simp,rfl,⟨_,_,_,_,rfl,ct,hm,aa,af,ac,aj,ae,(X5 (congrArg (Value.int .i64) (X2 (Nat.lt_of_lt_of_le cu aj.len))) rfl)⟩⟩
 refine go ?_;refine Yc hm (fun bu hm=>go ?_) fun bu hm=>go ?_
 ·refine lV (.bool true) (Xr (congrArg Value.bool bu) rfl)<|Zl ?_;exact ⟨rfl,_,_,hm,aa,ac,rfl⟩
 refine Ya ⟨_,_,rfl⟩ ?_;refine go ?_;refine lW ((ac.atN).nth (q:=1) rfl)<|go ?_;refine lV (.bool (decide ((ab.2.1.length:Int)≤ad))) (Xq (congrArg Value.bool bu) rfl)<|Zl ?_;exact ⟨rfl,_,_,hm,aa,ac,rfl⟩
def Zjc (ab:Int):List Int→Nat→Option Int
  | [],aa=>some (-1)
  | ac :: ad,aa=>if (decide (ab=ac))=true then (some (aa:Int)) else ((Zjc ab ad) (aa+1))
termination_by structural x=>x
def Zpq (aa:List Int) (ab:Int):Option Int:=
  Zjc ab aa 0
theorem Z10 {ag:Nat} {a0:Option Addr} {col:Ze} {w0:World} {ab:R5} {ae r:Int} (hm:Zpq ab ae=some r) (h0:Sl (Za.int .i64) col w0 a0 ag ab):
    Calls prog 163 #[.slice a0 ab.length ag,.int .i64 ae] w0 (fun e w'=>e= .returned ((.int .i64 r))∧Below w0.heap.size w0 w'):=by
 refine Xf 4 (m:=19) func163 rfl rfl rfl rfl rfl ?_;rw [Zpq.eq_1] at hm;have aa:=St.start col w0;refine go ?_;refine Zu [0,1,7,1000000] (fun n f ah=>∃ ai ac ad,n=ad.length∧ab.drop ac=ad∧Zjc ae ad ac=some r∧St w0 (Zj col) ai ah∧[8].map f=[.int .i64 ac]) ab.length ⟨_,0,_,rfl,rfl,hm,aa,rfl⟩ ?_;clear hm;intro n f ah hI;obtain ⟨ai,ac,ad,hn,hl,hm,aa,hs⟩:=hI;subst hn;refine .lL [8] hs ?_;replace h0:=h0.keep (Zi.start col w0)
 cases ad with
 | nil=>
  have hk:¬ ((ac:Int)<(ab.length:Int)):=by have:=List.drop_eq_nil_iff.1 hl;omega
  have hkb:=decide_eq_false hk;rw [Zjc.eq_1] at hm;refine go ?_;refine Xs (congrArg Value.bool hkb)<|go ?_;cases hm;exact ⟨rfl,rfl,aa.below⟩
 | cons am aj=>
  obtain ⟨af,ak,al⟩:=X3 hl;have hk:(ac:Int)<(ab.length:Int):=by omega
  have hkb:=decide_eq_true hk;rw [Zjc.eq_2] at hm;refine go ?_;refine Xt (congrArg Value.bool hkb)<|go ?_;refine lI af ((h0.ks aa).addr af)<|lW ((h0.ks aa).atInt af) ?_;refine go ?_;refine Zo hm (fun hb hm=>go ?_) fun hb hm=>go ?_
  ·cases hm;exact ⟨rfl,rfl,aa.below⟩
  exact ⟨aj.length,by simp,rfl,⟨_,_,_,rfl,ak,hm,aa,(X5 (congrArg (Value.int .i64) (X2 (Nat.lt_of_lt_of_le al (h0.ks aa).1.1))) rfl)⟩⟩
def Zpp (aa:List Int) (ab:Int):Option Bool:=
  (Zpq aa ab).bind fun ac=>some (decide (0≤ac))
theorem Z1x {ad:Nat} {a0:Option Addr} {col:Ze} {w0:World} {ab:R5} {ae:Int} {r:Bool} (hm:Zpp ab ae=some r) (h0:Sl (Za.int .i64) col w0 a0 ad ab):
    Calls prog 96 #[.slice a0 ab.length ad,.int .i64 ae] w0 (fun e w'=>e= .returned ((.bool r))∧Below w0.heap.size w0 w'):=by
 refine Xf 4 (m:=9) func96 rfl rfl rfl rfl rfl ?_;rw [Zpp.eq_1] at hm;have aa:=St.start col w0;refine go ?_;obtain ⟨ah,af,hm⟩:=bZ hm;replace h0:=h0.keep (Zi.start col w0);refine Zk (Z10 af (h0.ks aa)) ?_;rintro _ ag ⟨rfl,ac⟩;refine ⟨_,rfl,?_⟩;replace ac:Zh (Zj col) w0 (Zj col) ag:=.of_below ac;refine go ?_;cases hm;replace aa:=aa.grow ac;exact ⟨rfl,rfl,aa.below⟩

end Go.Proofs.YtkhnlgdenkikoaaGreat
