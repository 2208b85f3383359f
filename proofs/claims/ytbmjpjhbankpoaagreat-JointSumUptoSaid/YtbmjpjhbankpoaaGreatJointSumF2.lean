/-
  What functions of the program compute, as plain Lean functions (m_..), and proofs that they compute it (c_..). Printed by a program of the author; no conditions.
-/
import Derived.Test.YtbmjpjhbankpoaaGreatJointSumBFloat
import Derived.Test.YtbmjpjhbankpoaaGreatProg
import Derived.Test.YtbmjpjhbankpoaaGreatJointSumBBrief
import Derived.Test.YtbmjpjhbankpoaaGreatJointSumF1
set_option linter.unusedVariables false
set_option maxRecDepth 100000
set_option maxHeartbeats 2000000
namespace Go.Proofs.YtbmjpjhbankpoaaGreat
open Go Go.RowKit
open Go.IntKind (i8 i16 i32 i64 u8 u16 u32 u64)
open Go.Proofs.Tryz

def Zkq (N:Nat) (aa:R4) (ab:R4):Option R4:=
  (Ql N aa.2 ab.2).bind fun ad=>(Qv N (!decide (aa.1=ab.1)) ad).bind fun ac=>some (ac.1,ac.2)
theorem Z2f {N ar au:Nat} {av aw:Option Addr} {col:Zd} {w0:World} {ag ah r:R4} (c1:Nat) (hm:Zkq N ag ah=some r) (al:Sl (Za.int .u32) col w0 av ar ag.2) (am:Sl (Za.int .u32) col w0 aw au ah.2):
    Calls prog 256 #[(.agg #[.bool ag.1,.slice av ag.2.length ar]),(.agg #[.bool ah.1,.slice aw ah.2.length au])] w0 (fun e w'=>∃ (col':Zd) (ra1:Option Addr) (rc2:Nat),e= .returned ((.agg #[.bool r.1,.slice ra1 r.2.length rc2]))∧Zg col w0 col' w'∧Zc (Za.int .u32) 79 c1 col' w' ra1 rc2 r.2):=by
 refine Ym (m:=16) func256 rfl rfl rfl ?_;rw [Zkq.eq_1] at hm;have aa:=St.start col w0;refine go ?_;refine Xg (col:=(Zh col)) 1 rfl ?_;intro a7 a8 az a0 ai;refine Xg (col:=az) 2 rfl ?_;intro a9 ba a1 ax aj;refine Xl (col:=a1) #[.bool false,.slice none (([]:List Int).length) 0] 3 zeroValue45 ?_;intro bb bc ad an ab;refine go ?_;refine Wh (col:=ad) [(0,1),(1,0),(2,1),(3,0),(4,1),(5,1),(6,0),(7,1),(8,0),(9,3),(10,3),(11,2)] (by kernel_rfl) (by kernel_rfl)<|xF ⟨_,_,rfl⟩ ?_;replace ai:=(ai.gr ax).gr an;refine xW (fun _ hC=>((ai.atN).nth (q:=0) rfl).gr (hC.bl ad)) ?_;refine xF ⟨_,_,rfl⟩ ?_;replace aj:=aj.gr an;refine xW (fun _ hC=>((aj.atN).nth (q:=0) rfl).gr (hC.bl ad)) ?_;refine xu rfl rfl (fun _=>Ziw _ _ underlying4 rfl rfl) ?_;refine xF ⟨_,_,rfl⟩ ?_;refine xW (fun _ hC=>((ai.atN).nth (q:=1) rfl).gr (hC.bl ad)) ?_;refine xF ⟨_,_,rfl⟩ ?_;refine xW (fun _ hC=>((aj.atN).nth (q:=1) rfl).gr (hC.bl ad)) ?_;refine xe rfl rfl ?_;intro bd hC0;have hC:=hC0.bl ad;obtain ⟨be,a2,hm⟩:=bZ hm;replace al:=al.keep (Zf.start col w0);replace am:=am.keep (Zf.start col w0);replace aa:=(((aa.grow a0).grow ax).grow an).grow hC;refine Zi (Zgh 4 a2 (al.ks aa) (am.ks aa)) ?_;rintro _ bf ⟨af,bg,bh,rfl,ao,ap⟩;refine ⟨_,rfl,?_⟩;refine Zk<|Xp af hC0 ao<|xe rfl rfl ?_;intro a3 hC0;replace ab:=(ab.gr hC).gr ao;have hC:=hC0.bl af;obtain ⟨bi,a4,hm⟩:=bZ hm;replace ap:=ap.gr hC;refine Zi (Zdq 5 a4 (ap.toSlF (Zn.int .u32))) ?_;rintro _ bj ⟨a5,bk,bm,rfl,ae,ac⟩;refine ⟨_,rfl,?_⟩;replace ac:=ac.thaw (Z3 .u32) ae ((Fz.refl (col:=af)).froz 4) (by decide);replace ae:=ae.thawR (col:=af);generalize Xf a3.heap.size af a5=ak at *;refine Zk<|Xp ak hC0 ae<|xe rfl rfl ?_;intro bn hC0;replace aa:=((aa.grow ao).grow hC).grow ae;replace ab:=(ab.gr hC).gr ae;have hC:=hC0.bl ak;replace ab:=ab.gr hC;refine Z4 ab ?_;intro bo ay a6 aq;refine Zk<|xk ak<|Y9 ?_;replace ac:=(ac.gr hC).kp ay;replace aa:=(aa.grow hC).kp ay a6;intro bp hC;replace hC:=hC.bl ak;refine We ?_;cases hm;replace ac:=ac.gr hC;replace aq:=aq.gr hC;replace aa:=aa.grow hC;exact ⟨rfl,_,ra aq.atN,_,_,_,rfl,aa.fin (cm [(5,c1)]),aa.fo ac⟩
def Zcf (N:Nat) (aa:R4) (ac:List Int):Option R4:=
  (Zkq N (aa.1,aa.2) (false,ac)).bind fun ab=>some (ab.1,ab.2)
theorem Zlq {N ai ad:Nat} {aj a1:Option Addr} {col:Zd} {w0:World} {ab:R4} {ac:R2} {r:R4} (c1:Nat) (hm:Zcf N ab ac=some r) (ae:Sl (Za.int .u32) col w0 aj ai ab.2) (h1:Sl (Za.int .u32) col w0 a1 ad ac):
    Calls prog 185 #[(.agg #[.bool ab.1,.slice aj ab.2.length ai]),.slice a1 ac.length ad] w0 (fun e w'=>∃ (col':Zd) (ra1:Option Addr) (rc2:Nat),e= .returned ((.agg #[.bool r.1,.slice ra1 r.2.length rc2]))∧Zg col w0 col' w'∧Zc (Za.int .u32) 79 c1 col' w' ra1 rc2 r.2):=by
 refine Ym (m:=9) func185 rfl rfl rfl ?_;rw [Zcf.eq_1] at hm;have aa:=St.start col w0;refine go ?_;refine Xg (col:=(Zh col)) 1 rfl ?_;intro au av an ao af;refine Xl (col:=an) #[.bool false,.slice none (([]:List Int).length) 0] 2 zeroValue45 ?_;intro aw ax ay ak ag;refine go ?_;replace af:=af.gr ak;refine lV _ (Z7 isAgg45 sizeOf45 af)<|Yr rfl<|lV (.agg #[.bool false,.slice a1 ac.length ad]) (Yz (l:=[_,_]) (qs:=[(0,1),(1,1)]) underlying45 zeroValue45 ⟨rfl,sizeOf4,rfl,sizeOf43,trivial⟩ rfl) ?_;obtain ⟨az,ap,hm⟩:=bZ hm;replace ae:=ae.keep (Zf.start col w0);replace h1:=h1.keep (Zf.start col w0);replace aa:=(aa.grow ao).grow ak;refine Zi (Z2f 3 ap (ae.ks aa) (h1.ks aa)) ?_;rintro _ a0 ⟨a2,a3,a4,rfl,al,ah⟩;refine ⟨_,rfl,?_⟩;replace ag:=ag.gr al;refine Z4 ag ?_;intro a5 am aq ar;refine go ?_;cases hm;replace aa:=(aa.grow al).kp am aq;replace ah:=ah.kp am;exact ⟨rfl,_,ra ar.atN,_,_,_,rfl,aa.fin (cm [(3,c1)]),aa.fo ah⟩
def Zko (N:Nat) (aa:R4) (ab:R4):Option R4:=
  if (decide (aa.1=ab.1))=true then ((Zjs N aa.2 ab.2).bind fun ag=>(Qv N aa.1 ag).bind fun ac=>some (ac.1,ac.2)) else ((Zhg N aa.2 ab.2).bind fun ad=>if ad.2=true then ((Qv N aa.1 ad.1).bind fun ae=>some (ae.1,ae.2)) else ((Zhg N ab.2 aa.2).bind fun ah=>(Qv N ab.1 ah.1).bind fun af=>some (af.1,af.2)))
theorem Z2d {N a3 a4:Nat} {a5 a6:Option Addr} {col:Zd} {w0:World} {ao ap r:R4} (c1:Nat) (hm:Zko N ao ap=some r) (ag:Sl (Za.int .u32) col w0 a5 a3 ao.2) (ah:Sl (Za.int .u32) col w0 a6 a4 ap.2):
    Calls prog 188 #[(.agg #[.bool ao.1,.slice a5 ao.2.length a3]),(.agg #[.bool ap.1,.slice a6 ap.2.length a4])] w0 (fun e w'=>∃ (col':Zd) (ra1:Option Addr) (rc2:Nat),e= .returned ((.agg #[.bool r.1,.slice ra1 r.2.length rc2]))∧Zg col w0 col' w'∧Zc (Za.int .u32) 79 c1 col' w' ra1 rc2 r.2):=by
 refine Ym (m:=47) func188 rfl rfl rfl ?_;rw [Zko.eq_1] at hm;have aa:=St.start col w0;refine go ?_;refine Xg (col:=(Zh col)) 1 rfl ?_;intro b3 b4 bf bg ad;refine Xg (col:=bf) 2 rfl ?_;intro b5 b6 bh a7 ac;refine Xl (col:=bh) #[.bool false,.slice none (([]:List Int).length) 0] 3 zeroValue45 ?_;intro b7 b8 ai aw ab;refine go ?_;refine Xd ⟨_,_,rfl⟩ ?_;replace ad:=(ad.gr a7).gr aw;refine lW ((ad.atN).nth (q:=0) rfl)<|Xd ⟨_,_,rfl⟩ ?_;replace ac:=ac.gr aw;refine lW ((ac.atN).nth (q:=0) rfl)<|go ?_;replace ag:=ag.keep (Zf.start col w0);replace ah:=ah.keep (Zf.start col w0);replace aa:=((aa.grow bg).grow a7).grow aw;refine Zo hm (fun hb hm=>?_) fun hb hm=>go ?_
 ·refine Z0<|Wh (col:=ai) [(0,1),(1,0),(2,1),(3,0),(4,1),(5,0),(6,3),(7,3),(8,2)] (by kernel_rfl) (by kernel_rfl)<|xF ⟨_,_,rfl⟩ ?_;refine xW (fun _ hC=>((ad.atN).nth (q:=0) rfl).gr (hC.bl ai)) ?_;refine xF ⟨_,_,rfl⟩ ?_;refine xW (fun _ hC=>((ad.atN).nth (q:=1) rfl).gr (hC.bl ai)) ?_;refine xF ⟨_,_,rfl⟩ ?_;refine xW (fun _ hC=>((ac.atN).nth (q:=1) rfl).gr (hC.bl ai)) ?_;refine xe rfl rfl ?_;intro b9 hC0;have hC:=hC0.bl ai;obtain ⟨ca,bi,hm⟩:=bZ hm;replace aa:=aa.grow hC;refine Zi (Z0w 4 bi (ag.ks aa) (ah.ks aa)) ?_;rintro _ cb ⟨aj,cc,cd,rfl,ax,ay⟩;refine ⟨_,rfl,?_⟩;refine Zk<|Xp aj hC0 ax<|xe rfl rfl ?_;intro bj hC0;replace ab:=(ab.gr hC).gr ax;have hC:=hC0.bl aj;obtain ⟨ce,bk,hm⟩:=bZ hm;replace ay:=ay.gr hC;refine Zi (Zdq 5 bk (ay.toSlF (Zn.int .u32))) ?_;rintro _ cf ⟨bm,cg,ch,rfl,af,ae⟩;refine ⟨_,rfl,?_⟩;replace ae:=ae.thaw (Z3 .u32) af ((Fz.refl (col:=aj)).froz 4) (by decide);replace af:=af.thawR (col:=aj);generalize Xf bj.heap.size aj bm=aq at *;refine Zk<|Xp aq hC0 af<|xe rfl rfl ?_;intro ci hC0;replace aa:=((aa.grow ax).grow hC).grow af;replace ab:=(ab.gr hC).gr af;have hC:=hC0.bl aq;replace ab:=ab.gr hC;refine Z4 ab ?_;intro cj a8 bn az;refine Zk<|xk aq<|Y9 ?_;replace ae:=(ae.gr hC).kp a8;replace aa:=(aa.grow hC).kp a8 bn;intro ck hC;replace hC:=hC.bl aq;refine We ?_;cases hm;replace ae:=ae.gr hC;replace az:=az.gr hC;replace aa:=aa.grow hC;exact ⟨rfl,_,ra az.atN,_,_,_,rfl,aa.fin (cm [(5,c1)]),aa.fo ae⟩
 refine Xa ad<|Xa ac ?_;obtain ⟨ar,bo,hm⟩:=bZ hm;refine Zi (Zre 6 bo (ag.ks aa) (ah.ks aa)) ?_;rintro _ bp ⟨a0,a9,ba,rfl,au,bq⟩;refine ⟨_,rfl,?_⟩;refine lM (.tuple #[.slice a9 ar.1.length ba,.bool ar.2])<|lV (.slice a9 ar.1.length ba) (Xv rfl rfl)<|lV (.bool ar.2) (Xv rfl rfl)<|go ?_;replace ad:=ad.gr au;replace ac:=ac.gr au;replace ab:=ab.gr au;replace aa:=aa.grow au;refine Zo hm (fun hb hm=>go ?_) fun hb hm=>go ?_
 ·refine Xa ad<|Yr rfl ?_;obtain ⟨cl,br,hm⟩:=bZ hm;refine Zi (Zdq 7 br (bq.toSlF (Zn.int .u32))) ?_;rintro _ cn ⟨bs,co,cp,rfl,ak,al⟩;refine ⟨_,rfl,?_⟩;replace al:=al.thaw (Z3 .u32) ak ((Fz.refl (col:=a0)).froz 6) (by decide);replace ak:=ak.thawR (col:=a0);generalize Xf bp.heap.size a0 bs=cq at *;replace ab:=ab.gr ak;refine Z4 ab ?_;intro cr bb bt bu;refine go ?_;cases hm;replace aa:=(aa.grow ak).kp bb bt;replace al:=al.kp bb;exact ⟨rfl,_,ra bu.atN,_,_,_,rfl,aa.fin (cm [(7,c1)]),aa.fo al⟩
 refine Xa ac<|Xa ad ?_;obtain ⟨av,bv,hm⟩:=bZ hm;refine Zi (Zre 8 bv (ah.ks aa) (ag.ks aa)) ?_;rintro _ bw ⟨a1,bc,bd,rfl,a2,bx⟩;refine ⟨_,rfl,?_⟩;refine lM (.tuple #[.slice bc av.1.length bd,.bool av.2])<|lV (.slice bc av.1.length bd) (Xv rfl rfl)<|lV (.bool av.2) (Xv rfl rfl)<|go ?_;refine Xd ⟨_,_,rfl⟩ ?_;replace ac:=ac.gr a2;refine lW ((ac.atN).nth (q:=0) rfl)<|Yr rfl ?_;obtain ⟨cs,bz,hm⟩:=bZ hm;refine Zi (Zdq 9 bz (bx.toSlF (Zn.int .u32))) ?_;rintro _ ct ⟨b0,cu,cv,rfl,am,an⟩;refine ⟨_,rfl,?_⟩;replace an:=an.thaw (Z3 .u32) am ((Fz.refl (col:=a1)).froz 8) (by decide);replace am:=am.thawR (col:=a1);generalize Xf bw.heap.size a1 b0=cw at *;replace ab:=(ab.gr a2).gr am;refine Z4 ab ?_;intro cx be b1 b2;refine go ?_;cases hm;replace aa:=((aa.grow a2).grow am).kp be b1;replace an:=an.kp be;exact ⟨rfl,_,ra b2.atN,_,_,_,rfl,aa.fin (cm [(9,c1)]),aa.fo an⟩
def Zkr (N:Nat) (aa:R4):Option R4:=
  (Qv N aa.1 aa.2).bind fun ab=>some (ab.1,ab.2)
theorem Z2g {N ag:Nat} {ah:Option Addr} {col:Zd} {w0:World} {ab r:R4} (c1:Nat) (hm:Zkr N ab=some r) (ad:Sl (Za.int .u32) col w0 ah ag ab.2):
    Calls prog 261 #[(.agg #[.bool ab.1,.slice ah ab.2.length ag])] w0 (fun e w'=>∃ (col':Zd) (ra1:Option Addr) (rc2:Nat),e= .returned ((.agg #[.bool r.1,.slice ra1 r.2.length rc2]))∧Zg col w0 col' w'∧Zc (Za.int .u32) 79 c1 col' w' ra1 rc2 r.2):=by
 refine Ym (m:=8) func261 rfl rfl rfl ?_;rw [Zkr.eq_1] at hm;have aa:=St.start col w0;refine go ?_;refine Xg (col:=(Zh col)) 1 rfl ?_;intro aq ar al am ac;refine Xl (col:=al) #[.bool false,.slice none (([]:List Int).length) 0] 2 zeroValue45 ?_;intro au av aw ai ae;refine go ?_;refine Xd ⟨_,_,rfl⟩ ?_;replace ac:=ac.gr ai;refine lW ((ac.atN).nth (q:=0) rfl)<|Xa ac ?_;obtain ⟨ax,an,hm⟩:=bZ hm;replace ad:=ad.keep (Zf.start col w0);replace aa:=(aa.grow am).grow ai;refine Zi (Zdq 3 an (ad.ks aa)) ?_;rintro _ ay ⟨az,a0,a1,rfl,aj,af⟩;refine ⟨_,rfl,?_⟩;replace ae:=ae.gr aj;refine Z4 ae ?_;intro a2 ak ao ap;refine go ?_;cases hm;replace aa:=(aa.grow aj).kp ak ao;replace af:=af.kp ak;exact ⟨rfl,_,ra ap.atN,_,_,_,rfl,aa.fin (cm [(3,c1)]),aa.fo af⟩
def Zce (N:Nat) (ae:Bool) (aa:List Int) (ab:List Int):Option R1:=
  (Zju N aa ab).bind fun ac=>(Zeh N aa ac).bind fun af=>(Zeh N ab ac).bind fun ag=>(Zkr N (ae,af.1)).bind fun ad=>some ((ad.1,ad.2),ag.1)
theorem Zlp {N ay az:Nat} {a1 a2:Option Addr} {col:Zd} {w0:World} {ak:Bool} {al am:R2} {r:R1} (c1 c2:Nat) (hm:Zce N ak al am=some r) (h1:Sl (Za.int .u32) col w0 a1 ay al) (h2:Sl (Za.int .u32) col w0 a2 az am):
    Calls prog 189 #[.bool ak,.slice a1 al.length ay,.slice a2 am.length az] w0 (fun e w'=>∃ (col':Zd) (ra1:Option Addr) (rc2:Nat) (ra4:Option Addr) (rc5:Nat),e= .returned ((.agg #[.bool r.1.1,.slice ra1 r.1.2.length rc2,.slice ra4 r.2.length rc5]))∧Zg col w0 col' w'∧Zc (Za.int .u32) 79 c1 col' w' ra1 rc2 r.1.2∧Zc (Za.int .u32) 79 c2 col' w' ra4 rc5 r.2):=by
 refine Ym (m:=37) func189 rfl rfl rfl ?_;rw [Zce.eq_1] at hm;have aa:=St.start col w0;refine go ?_;refine Xl (col:=(Zh col)) #[.bool false,.slice none (([]:List Int).length) 0,.slice none (([]:List Int).length) 0] 1 zeroValue47 ?_;intro bo bp bq a8 an;refine go ?_;obtain ⟨br,a9,hm⟩:=bZ hm;replace h1:=h1.keep (Zf.start col w0);replace h2:=h2.keep (Zf.start col w0);replace aa:=aa.grow a8;refine Zi (Z0y 2 a9 (h1.ks aa) (h2.ks aa)) ?_;rintro _ ba ⟨ao,bs,bt,rfl,a0,aj⟩;refine ⟨_,rfl,go ?_⟩;obtain ⟨ab,bb,hm⟩:=bZ hm;replace aa:=aa.grow a0;refine Zi (Zoj 3 4 bb ((h1.ks aa).froz 2) (aj.toSlF (Zn.int .u32))) ?_;rintro _ bc ⟨bd,ap,aq,a3,a4,rfl,ad,ag,bu⟩;refine ⟨_,rfl,?_⟩;replace ag:=ag.thaw (Z3 .u32) ad ((Fz.refl (col:=ao)).froz 2) (by decide);replace ad:=ad.thawR (col:=ao);generalize Xf ba.heap.size ao bd=ar at *;refine lM (.tuple #[.slice ap ab.1.length aq,.slice a3 ab.2.1.length a4,.int .i64 ab.2.2])<|lV (.slice ap ab.1.length aq) (Xv rfl rfl)<|lV (.slice a3 ab.2.1.length a4) (Xv rfl rfl)<|lV (.int .i64 ab.2.2) (Xv rfl rfl)<|go ?_;obtain ⟨ac,be,hm⟩:=bZ hm;replace aj:=aj.gr ad;replace aa:=aa.grow ad;refine Zi (Zoj 5 6 be ((h2.ks aa).froz 2) (aj.toSlF (Zn.int .u32))) ?_;rintro _ bf ⟨bg,au,av,a5,a6,rfl,ae,ah,bv⟩;refine ⟨_,rfl,?_⟩;replace ah:=ah.thaw (Z3 .u32) ae ((Fz.refl (col:=ar)).froz 2) (by decide);replace ae:=ae.thawR (col:=ar);generalize Xf bc.heap.size ar bg=aw at *;refine lM (.tuple #[.slice au ac.1.length av,.slice a5 ac.2.1.length a6,.int .i64 ac.2.2])<|lV (.slice au ac.1.length av) (Xv rfl rfl)<|lV (.slice a5 ac.2.1.length a6) (Xv rfl rfl)<|lV (.int .i64 ac.2.2) (Xv rfl rfl)<|go ?_;refine lV (.agg #[.bool ak,.slice ap ab.1.length aq]) (Yz (l:=[_,_]) (qs:=[(0,1),(1,1)]) underlying45 zeroValue45 ⟨rfl,sizeOf4,rfl,sizeOf43,trivial⟩ rfl) ?_;obtain ⟨a7,bh,hm⟩:=bZ hm;replace ag:=ag.gr ae;refine Zi (Z2g 7 bh (ag.toSlF (Zn.int .u32))) ?_;rintro _ bw ⟨bi,bj,bk,rfl,af,ai⟩;refine ⟨_,rfl,?_⟩;replace ai:=ai.thaw (Z3 .u32) af ((Fz.refl (col:=aw)).froz 3) (by decide);replace af:=af.thawR (col:=aw);generalize Xf bf.heap.size aw bi=bx at *
 refine Yr rfl<|lV (.agg #[.bool a7.1,.slice bj a7.2.length bk,.slice au ac.1.length av]) (Yz (l:=[_,_]) (qs:=[(0,2),(2,1)]) underlying47 zeroValue47 ⟨rfl,sizeOf45,rfl,sizeOf43,trivial⟩ rfl) ?_;replace an:=(((an.gr a0).gr ad).gr ae).gr af;refine Z4 an ?_;intro bz ax bm bn;refine go ?_;cases hm;replace aa:=((aa.grow ae).grow af).kp ax bm;replace ah:=(ah.gr af).kp ax;replace ai:=ai.kp ax;exact ⟨rfl,_,ra bn.atN,_,_,_,_,_,rfl,aa.fin (cm [(7,c1),(5,c2)]),aa.fo ai,aa.fo ah⟩
def Zac (N:Nat) (aa:R1) (ab:R1):Option R1:=
  (Ti N ((ab.1.1,ab.1.2),ab.2)).bind fun ag=>(Zcf N (aa.1.1,aa.1.2) ag).bind fun ad=>(Ti N ((aa.1.1,aa.1.2),aa.2)).bind fun ah=>(Zcf N (ab.1.1,ab.1.2) ah).bind fun ae=>(Zko N (ad.1,ad.2) (ae.1,ae.2)).bind fun af=>(Ti N ((aa.1.1,aa.1.2),aa.2)).bind fun ai=>(Ti N ((ab.1.1,ab.1.2),ab.2)).bind fun aj=>(Ql N ai aj).bind fun ak=>(Zce N af.1 af.2 ak).bind fun ac=>some ((ac.1.1,ac.1.2),ac.2)
theorem Zoe {N bo bz bp b0:Nat} {bq b1 br b2:Option Addr} {col:Zd} {w0:World} {aj ak r:R1} (c1 c2:Nat) (hm:Zac N aj ak=some r) (ba:Sl (Za.int .u32) col w0 bq bo aj.1.2) (bs:Sl (Za.int .u32) col w0 b1 bz aj.2) (bb:Sl (Za.int .u32) col w0 br bp ak.1.2) (bt:Sl (Za.int .u32) col w0 b2 b0 ak.2):
    Calls prog 73 #[(.agg #[.bool aj.1.1,.slice bq aj.1.2.length bo,.slice b1 aj.2.length bz]),(.agg #[.bool ak.1.1,.slice br ak.1.2.length bp,.slice b2 ak.2.length b0])] w0 (fun e w'=>∃ (col':Zd) (ra1:Option Addr) (rc2:Nat) (ra4:Option Addr) (rc5:Nat),e= .returned ((.agg #[.bool r.1.1,.slice ra1 r.1.2.length rc2,.slice ra4 r.2.length rc5]))∧Zg col w0 col' w'∧Zc (Za.int .u32) 79 c1 col' w' ra1 rc2 r.1.2∧Zc (Za.int .u32) 79 c2 col' w' ra4 rc5 r.2):=by
 refine Ym (m:=27) func73 rfl rfl rfl ?_;rw [Zac.eq_1] at hm;have aa:=St.start col w0;refine go ?_;refine Xg (col:=(Zh col)) 1 rfl ?_;intro cd c9 ce cf ae;refine Xg (col:=ce) 2 rfl ?_;intro cg da ch ca af;refine Xl (col:=ch) #[.bool false,.slice none (([]:List Int).length) 0,.slice none (([]:List Int).length) 0] 3 zeroValue47 ?_;intro db a4 ay b3 ab;refine go ?_;have bu:=Z1.clip (fun _=>false) ay a4;refine Zi0 (col:=ay) [(0,1),(1,0),(2,0),(5,1),(6,0),(7,0),(3,3),(4,3),(8,3),(9,3),(10,3),(11,4),(12,2)] (by kernel_rfl) (by kernel_rfl) ⟨fun h=>absurd h (by decide),fun h=>absurd h (by decide),fun h=>absurd h (by decide),fun h=>absurd h (by decide),fun h=>absurd h (by decide),fun h=>absurd h (by decide),fun h=>absurd h (by decide),fun h=>absurd h (by decide),fun h=>absurd h (by decide),fun h=>absurd h (by decide),fun h=>absurd h (by decide),fun _=>⟨_,_,_,rfl,Sd zeroValue45⟩,fun h=>absurd h (by decide),trivial⟩<|Vg (v:=(.pointer ((some (⟨cd,0,none⟩:Addr)).map (·.add 0)))) rfl rfl (fun _=>Sy (sz:=2) (off:=0) underlying47 rfl sizeOf45 (by decide) rfl rfl ⟨_,_,rfl⟩) ?_;replace ae:=((ae.gr ca).gr b3).kpp bu;refine Tc (v:=(.agg #[.bool aj.1.1,.slice bq aj.1.2.length bo])) rfl rfl (fun _ hC=>Yj isAgg45 sizeOf45 rfl rfl (((ae.atN).part 0 2 _ rfl).gr (hC.bl (Zl a4 ay)))) ?_;replace af:=(af.gr b3).kpp bu;refine Tc (v:=(.agg #[.bool ak.1.1,.slice br ak.1.2.length bp,.slice b2 ak.2.length b0])) rfl rfl (fun _ hC=>Yj isAgg47 sizeOf47 rfl rfl (af.atN.gr (hC.bl (Zl a4 ay)))) ?_;refine Vg (v:=(.pointer ((some (⟨cg,0,none⟩:Addr)).map (·.add 0)))) rfl rfl (fun _=>Sy (sz:=2) (off:=0) underlying47 rfl sizeOf45 (by decide) rfl rfl ⟨_,_,rfl⟩) ?_;refine Tc (v:=(.agg #[.bool ak.1.1,.slice br ak.1.2.length bp])) rfl rfl (fun _ hC=>Yj isAgg45 sizeOf45 rfl rfl (((af.atN).part 0 2 _ rfl).gr (hC.bl (Zl a4 ay)))) ?_;refine Tc (v:=(.agg #[.bool aj.1.1,.slice bq aj.1.2.length bo,.slice b1 aj.2.length bz])) rfl rfl (fun _ hC=>Yj isAgg47 sizeOf47 rfl rfl (ae.atN.gr (hC.bl (Zl a4 ay)))) ?_;refine W8 rfl rfl ?_;intro dc hC0;have hC:=hC0.bl (Zl a4 ay);obtain ⟨dd,ci,hm⟩:=bZ hm;replace bb:=bb.keep (Zf.start col w0);replace bt:=bt.keep (Zf.start col w0);replace aa:=((((aa.grow cf).grow ca).grow b3).kpp bu).grow hC;refine Zi (Q3 4 ci (bb.ks aa) (bt.ks aa)) ?_;rintro _ ao ⟨au,de,df,rfl,az,b4⟩;refine ⟨_,rfl,?_⟩
 refine Zk ?_;refine ⟨fun w'=>Zg (Zl ao au) ao (Zl ao au) w',fun g=>(Zl ao au) g=497,Zg.refl _ _,W0,fun _=>⟨fun _ h=>V3 hC0 az h,fun b hb=>az.below.block b hb,fun g x1 x2=>V8 az g x1 (by first | exact x2 | (simp only [Xq,x2];rfl) | (simp only [Xq,Xx,x2];rfl))⟩,?_⟩;have bc:=Z1.clip (fun _=>false) au ao;refine W8 rfl rfl ?_;intro cj hC0;replace ab:=(((ab.kpp bu).gr hC).gr az).kpp bc;replace ae:=((ae.gr hC).gr az).kpp bc;replace af:=((af.gr hC).gr az).kpp bc;have hC:=hC0.bl (Zl ao au);obtain ⟨dg,ck,hm⟩:=bZ hm;replace ba:=ba.keep (Zf.start col w0);replace aa:=((aa.grow az).kpp bc).grow hC;replace b4:=(b4.kpp bc).gr hC;refine Zi (Zlq 5 ck ((ba.ks aa).froz 4) (b4.toSlF (Zn.int .u32))) ?_;rintro _ a5 ⟨cl,dh,di,rfl,am,ap⟩;refine ⟨_,rfl,?_⟩;replace bs:=bs.keep (Zf.start col w0);replace ap:=ap.thaw (Z3 .u32) am ((Fz.refl (col:=(Zl ao au))).froz 4) (by decide);replace am:=am.thawR (col:=(Zl ao au));generalize Xf cj.heap.size (Zl ao au) cl=bd at *;refine Zk ?_;refine ⟨fun w'=>Zg (Zl a5 bd) a5 (Zl a5 bd) w',fun g=>(Zl a5 bd) g=497,Zg.refl _ _,W0,fun _=>⟨fun _ h=>V3 hC0 am h,fun b hb=>am.below.block b hb,fun g x1 x2=>V8 am g x1 (by first | exact x2 | (simp only [Xq,x2];rfl) | (simp only [Xq,Xx,x2];rfl))⟩,?_⟩;have be:=Z1.clip (fun _=>false) bd a5;refine W8 rfl rfl ?_;intro dj hC0;replace ae:=((ae.gr hC).gr am).kpp be;replace af:=((af.gr hC).gr am).kpp be;replace ab:=((ab.gr hC).gr am).kpp be;have hC:=hC0.bl (Zl a5 bd);obtain ⟨dk,cn,hm⟩:=bZ hm;replace aa:=((aa.grow am).kpp be).grow hC;refine Zi (Q3 6 cn (ba.ks aa) (bs.ks aa)) ?_;rintro _ aq ⟨av,dl,dm,rfl,aw,b5⟩;refine ⟨_,rfl,?_⟩;refine Zk ?_;refine ⟨fun w'=>Zg (Zl aq av) aq (Zl aq av) w',fun g=>(Zl aq av) g=497,Zg.refl _ _,W0,fun _=>⟨fun _ h=>V3 hC0 aw h,fun b hb=>aw.below.block b hb,fun g x1 x2=>V8 aw g x1 (by first | exact x2 | (simp only [Xq,x2];rfl) | (simp only [Xq,Xx,x2];rfl))⟩,?_⟩;have a6:=Z1.clip (fun _=>false) av aq;refine W8 rfl rfl ?_;intro co hC0;replace ap:=(((ap.kpp be).gr hC).gr aw).kpp a6;replace ae:=((ae.gr hC).gr aw).kpp a6;replace af:=((af.gr hC).gr aw).kpp a6;replace ab:=((ab.gr hC).gr aw).kpp a6;have hC:=hC0.bl (Zl aq av)
 obtain ⟨dn,cp,hm⟩:=bZ hm;replace aa:=((aa.grow aw).kpp a6).grow hC;replace b5:=(b5.kpp a6).gr hC;refine Zi (Zlq 7 cp ((bb.ks aa).froz 6) (b5.toSlF (Zn.int .u32))) ?_;rintro _ ar ⟨cq,dp,dq,rfl,al,bf⟩;refine ⟨_,rfl,?_⟩;replace bf:=bf.thaw (Z3 .u32) al ((Fz.refl (col:=(Zl aq av))).froz 6) (by decide);replace al:=al.thawR (col:=(Zl aq av));generalize Xf co.heap.size (Zl aq av) cq=ax at *;refine Zk ?_;refine ⟨fun w'=>Zg (Zl ar ax) ar (Zl ar ax) w',fun g=>(Zl ar ax) g=497,Zg.refl _ _,W0,fun _=>⟨fun _ h=>V3 hC0 al h,fun b hb=>al.below.block b hb,fun g x1 x2=>V8 al g x1 (by first | exact x2 | (simp only [Xq,x2];rfl) | (simp only [Xq,Xx,x2];rfl))⟩,?_⟩;have a7:=Z1.clip (fun _=>false) ax ar;refine W8 rfl rfl ?_;intro cr hC0;replace ap:=((ap.gr hC).gr al).kpp a7;replace ae:=((ae.gr hC).gr al).kpp a7;replace af:=((af.gr hC).gr al).kpp a7;replace ab:=((ab.gr hC).gr al).kpp a7;have hC:=hC0.bl (Zl ar ax);obtain ⟨dr,cs,hm⟩:=bZ hm;replace bf:=(bf.kpp a7).gr hC;replace ap:=ap.gr hC;refine Zi (Z2d 8 cs ((ap.toSlF (Zn.int .u32)).froz 7) ((bf.froz 5 (by decide)).toSlF (Zn.int .u32))) ?_;rintro _ ac ⟨ct,ds,dt,rfl,an,ag⟩;refine ⟨_,rfl,?_⟩;replace ag:=ag.thaw (Z3 .u32) an (((Fz.refl (col:=(Zl ar ax))).froz 5).froz 7) (by decide);replace an:=an.thawR (col:=(Zl ar ax));generalize Xf cr.heap.size (Zl ar ax) ct=ad at *;refine Zk ?_;refine ⟨fun w'=>Zg (Zl ac ad) ac (Zl ac ad) w',fun g=>(Zl ac ad) g=497,Zg.refl _ _,W0,fun _=>⟨fun _ h=>V3 hC0 an h,fun b hb=>an.below.block b hb,fun g x1 x2=>V8 an g x1 (by first | exact x2 | (simp only [Xq,x2];rfl) | (simp only [Xq,Xx,x2];rfl))⟩,?_⟩;have bg:=Z1.clip (fun _=>false) ad ac;refine Zi1 rfl rfl (Sd zeroValue45) ?_;intro ah cu;refine W8 rfl rfl ?_;intro cv ⟨hC0,hZ0⟩;replace aa:=((((aa.grow al).kpp a7).grow hC).grow an).kpp bg;replace ae:=((ae.gr hC).gr an).kpp bg;replace af:=((af.gr hC).gr an).kpp bg;replace ab:=((ab.gr hC).gr an).kpp bg;have hC:=hC0.bl (Zl ac ad);obtain ⟨bh,b6⟩:=Zge (col:=(Zl ac ad)) 9 hZ0 cu;replace b6:Zm 45 9 (Xk ah 9 (Zl ac ad)) cv ah #[.bool false,.slice none (([]:List Int).length) 0]:=b6;refine Z4 b6 ?_
 intro ai bi cw bv;refine Zk ?_;refine ⟨fun w'=>Zg (Zl ai (Xk ah 9 (Zl ac ad))) ai (Zl ai (Xk ah 9 (Zl ac ad))) w',fun g=>(Zl ai (Xk ah 9 (Zl ac ad))) g=497,Zg.refl _ _,W0,fun h=>absurd h (by decide),?_⟩;have a8:=Z1.clip (fun _=>false) (Xk ah 9 (Zl ac ad)) ai;refine Zi2 ?_;replace ag:=((((ag.kpp bg).gr hC).kpp bh).kp bi).kpp a8;replace ae:=(((ae.gr hC).kpp bh).kp bi).kpp a8;replace af:=(((af.gr hC).kpp bh).kp bi).kpp a8;replace ab:=(((ab.gr hC).kpp bh).kp bi).kpp a8;replace aa:=(((aa.grow hC).kpp bh).kp bi cw).kpp a8;intro cb hC;replace hC:Zg (Zl ai (Xk ah 9 (Zl ac ad))) ai (Zl ai (Xk ah 9 (Zl ac ad))) cb:=.of_below hC.below;refine Z0<|Wh (col:=(Zl ai (Xk ah 9 (Zl ac ad)))) [(0,1),(1,0),(2,1),(3,0),(4,0),(6,0),(5,3),(7,3),(8,3),(9,3),(10,2)] (by kernel_rfl) (by kernel_rfl)<|xF ⟨_,_,rfl⟩ ?_;replace bv:=(bv.kpp a8).gr hC;refine xW (fun _ hC=>((bv.atN).nth (q:=0) rfl).gr (hC.bl (Zl ai (Xk ah 9 (Zl ac ad))))) ?_;refine xF ⟨_,_,rfl⟩ ?_;refine xW (fun _ hC=>((bv.atN).nth (q:=1) rfl).gr (hC.bl (Zl ai (Xk ah 9 (Zl ac ad))))) ?_;replace ae:=ae.gr hC;refine xv rfl rfl (fun _ hC=>Z7 isAgg47 sizeOf47 (ae.gr (hC.bl (Zl ai (Xk ah 9 (Zl ac ad)))))) ?_;replace af:=af.gr hC;refine xv rfl rfl (fun _ hC=>Z7 isAgg47 sizeOf47 (af.gr (hC.bl (Zl ai (Xk ah 9 (Zl ac ad)))))) ?_;refine xe rfl rfl ?_;intro cx hC0;replace ag:=ag.gr hC;replace ab:=ab.gr hC;replace aa:=aa.grow hC;have hC:Zg (Zl ai (Xk ah 9 (Zl ac ad))) cb (Zl ai (Xk ah 9 (Zl ac ad))) cx:=.of_below hC0.below;obtain ⟨du,cy,hm⟩:=bZ hm;replace aa:=aa.grow hC;refine Zi (Q3 10 cy (ba.ks aa) (bs.ks aa)) ?_;rintro _ dv ⟨cc,dw,dx,rfl,bw,bj⟩;refine ⟨_,rfl,?_⟩;refine Zk<|Xp cc hC0 bw<|xe rfl rfl ?_;intro dy hC0;replace ag:=(ag.gr hC).gr bw;replace ab:=(ab.gr hC).gr bw;have hC:=hC0.bl cc;obtain ⟨dz,cz,hm⟩:=bZ hm;replace aa:=(aa.grow bw).grow hC;refine Zi (Q3 11 cz (bb.ks aa) (bt.ks aa)) ?_;rintro _ d0 ⟨bk,d1,d2,rfl,bm,b7⟩;refine ⟨_,rfl,?_⟩;refine Zk<|Xp bk hC0 bm<|xe rfl rfl ?_;intro c0 hC0;replace ag:=(ag.gr hC).gr bm;replace bj:=(bj.gr hC).gr bm;replace ab:=(ab.gr hC).gr bm;have hC:=hC0.bl bk
 obtain ⟨d3,c3,hm⟩:=bZ hm;replace bj:=bj.gr hC;replace b7:=b7.gr hC;refine Zi (Zgh 12 c3 ((bj.toSlF (Zn.int .u32)).froz 11) ((b7.froz 10 (by decide)).toSlF (Zn.int .u32))) ?_;rintro _ d4 ⟨c4,d5,d6,rfl,a0,bn⟩;refine ⟨_,rfl,?_⟩;replace bn:=bn.thaw (Z3 .u32) a0 (((Fz.refl (col:=bk)).froz 10).froz 11) (by decide);replace a0:=a0.thawR (col:=bk);generalize Xf c0.heap.size bk c4=a9 at *;refine Zk<|Xp a9 hC0 a0<|xe rfl rfl ?_;intro c5 hC0;replace aa:=((aa.grow bm).grow hC).grow a0;replace ag:=(ag.gr hC).gr a0;replace ab:=(ab.gr hC).gr a0;have hC:=hC0.bl a9;obtain ⟨d7,c6,hm⟩:=bZ hm;replace ag:=ag.gr hC;replace bn:=bn.gr hC;refine Zi (Zlp 13 14 c6 ((ag.toSlF (Zn.int .u32)).froz 12) ((bn.froz 8 (by decide)).toSlF (Zn.int .u32))) ?_;rintro _ d8 ⟨c7,d9,ea,eb,ec,rfl,a1,a2,a3⟩;refine ⟨_,rfl,?_⟩;replace a2:=a2.thaw (Z3 .u32) a1 (((Fz.refl (col:=a9)).froz 8).froz 12) (by decide);replace a3:=a3.thaw (Z3 .u32) a1 (((Fz.refl (col:=a9)).froz 8).froz 12) (by decide);replace a1:=a1.thawR (col:=a9);generalize Xf c5.heap.size a9 c7=bx at *;refine Zk<|Xp bx hC0 a1<|xe rfl rfl ?_;intro ed hC0;replace ab:=(ab.gr hC).gr a1;replace aa:=(aa.grow hC).grow a1;have hC:=hC0.bl bx;replace ab:=ab.gr hC;refine Z4 ab ?_;intro ee b8 c8 b9;refine Zk<|xk bx<|Y9 ?_;replace a2:=(a2.gr hC).kp b8;replace a3:=(a3.gr hC).kp b8;replace aa:=(aa.grow hC).kp b8 c8;intro ef hC;replace hC:=hC.bl bx;refine We ?_;cases hm;replace a2:=a2.gr hC;replace a3:=a3.gr hC;replace b9:=b9.gr hC;replace aa:=aa.grow hC;exact ⟨rfl,_,ra b9.atN,_,_,_,_,_,rfl,aa.fin (cm [(13,c1),(14,c2)]),aa.fo a2,aa.fo a3⟩
def Zgx (N:Nat) (aa:R1) (ab:R1):Option R1:=
  (Ql N aa.1.2 ab.1.2).bind fun ad=>(Ti N ((aa.1.1,aa.1.2),aa.2)).bind fun ae=>(Ti N ((ab.1.1,ab.1.2),ab.2)).bind fun af=>(Ql N ae af).bind fun ag=>(Zce N (!decide (aa.1.1=ab.1.1)) ad ag).bind fun ac=>some ((ac.1.1,ac.1.2),ac.2)
theorem Z0a {N a4 a5 a6 a7:Nat} {a8 a9 ba bb:Option Addr} {col:Zd} {w0:World} {ai aj r:R1} (c1 c2:Nat) (hm:Zgx N ai aj=some r) (ar:Sl (Za.int .u32) col w0 a8 a4 ai.1.2) (ax:Sl (Za.int .u32) col w0 a9 a5 ai.2) (au:Sl (Za.int .u32) col w0 ba a6 aj.1.2) (ay:Sl (Za.int .u32) col w0 bb a7 aj.2):
    Calls prog 75 #[(.agg #[.bool ai.1.1,.slice a8 ai.1.2.length a4,.slice a9 ai.2.length a5]),(.agg #[.bool aj.1.1,.slice ba aj.1.2.length a6,.slice bb aj.2.length a7])] w0 (fun e w'=>∃ (col':Zd) (ra1:Option Addr) (rc2:Nat) (ra4:Option Addr) (rc5:Nat),e= .returned ((.agg #[.bool r.1.1,.slice ra1 r.1.2.length rc2,.slice ra4 r.2.length rc5]))∧Zg col w0 col' w'∧Zc (Za.int .u32) 79 c1 col' w' ra1 rc2 r.1.2∧Zc (Za.int .u32) 79 c2 col' w' ra4 rc5 r.2):=by
 refine Ym (m:=25) func75 rfl rfl rfl ?_;rw [Zgx.eq_1] at hm;have aa:=St.start col w0;refine go ?_;refine Xg (col:=(Zh col)) 1 rfl ?_;intro bt bu bf bg al;refine Xg (col:=bf) 2 rfl ?_;intro bv bw bh bc am;refine Xl (col:=bh) #[.bool false,.slice none (([]:List Int).length) 0,.slice none (([]:List Int).length) 0] 3 zeroValue47 ?_;intro bx bz ad az ab;refine go ?_;refine Wh (col:=ad) [(0,1),(1,1),(2,0),(3,1),(4,1),(5,0),(6,1),(7,1),(8,1),(9,0),(10,1),(11,1),(12,0),(14,0),(16,0),(13,3),(15,3),(17,3),(18,3),(19,3),(20,2)] (by kernel_rfl) (by kernel_rfl)<|xF ⟨_,_,rfl⟩ ?_;refine xF (X2 ⟨_,_,rfl⟩) ?_;replace al:=(al.gr bc).gr az;refine xW (fun _ hC=>((((al.atN).part 0 2 _ rfl)).nth (q:=0) rfl).gr (hC.bl ad)) ?_;refine xF ⟨_,_,rfl⟩ ?_;refine xF (X2 ⟨_,_,rfl⟩) ?_;replace am:=am.gr az;refine xW (fun _ hC=>((((am.atN).part 0 2 _ rfl)).nth (q:=0) rfl).gr (hC.bl ad)) ?_;refine xu rfl rfl (fun _=>Ziw _ _ underlying4 rfl rfl) ?_;refine xF ⟨_,_,rfl⟩ ?_;refine xF (X2 ⟨_,_,rfl⟩) ?_;refine xW (fun _ hC=>((((al.atN).part 0 2 _ rfl)).nth (q:=1) rfl).gr (hC.bl ad)) ?_;refine xF ⟨_,_,rfl⟩ ?_;refine xF (X2 ⟨_,_,rfl⟩) ?_;refine xW (fun _ hC=>((((am.atN).part 0 2 _ rfl)).nth (q:=1) rfl).gr (hC.bl ad)) ?_;refine xv rfl rfl (fun _ hC=>Z7 isAgg47 sizeOf47 (al.gr (hC.bl ad))) ?_;refine xv rfl rfl (fun _ hC=>Z7 isAgg47 sizeOf47 (am.gr (hC.bl ad))) ?_;refine xe rfl rfl ?_;intro b0 hC0;have hC:=hC0.bl ad;obtain ⟨b1,bi,hm⟩:=bZ hm;replace ar:=ar.keep (Zf.start col w0);replace au:=au.keep (Zf.start col w0);replace aa:=(((aa.grow bg).grow bc).grow az).grow hC;refine Zi (Zgh 4 bi (ar.ks aa) (au.ks aa)) ?_;rintro _ b2 ⟨bd,b3,b4,rfl,a0,ac⟩;refine ⟨_,rfl,?_⟩;refine Zk<|Xp bd hC0 a0<|xe rfl rfl ?_;intro b5 hC0;replace ab:=(ab.gr hC).gr a0;have hC:=hC0.bl bd;obtain ⟨b6,bj,hm⟩:=bZ hm;replace ax:=ax.keep (Zf.start col w0);replace aa:=(aa.grow a0).grow hC;refine Zi (Q3 5 bj (ar.ks aa) (ax.ks aa)) ?_;rintro _ b7 ⟨be,b8,b9,rfl,av,an⟩;refine ⟨_,rfl,?_⟩;refine Zk<|Xp be hC0 av<|xe rfl rfl ?_;intro ca hC0;replace ac:=(ac.gr hC).gr av;replace ab:=(ab.gr hC).gr av;have hC:=hC0.bl be;obtain ⟨cb,bk,hm⟩:=bZ hm;replace ay:=ay.keep (Zf.start col w0);replace aa:=(aa.grow av).grow hC
 refine Zi (Q3 6 bk (au.ks aa) (ay.ks aa)) ?_;rintro _ cc ⟨ao,cd,ce,rfl,ap,a1⟩;refine ⟨_,rfl,?_⟩;refine Zk<|Xp ao hC0 ap<|xe rfl rfl ?_;intro bm hC0;replace ac:=(ac.gr hC).gr ap;replace an:=(an.gr hC).gr ap;replace ab:=(ab.gr hC).gr ap;have hC:=hC0.bl ao;obtain ⟨cf,bn,hm⟩:=bZ hm;replace an:=an.gr hC;replace a1:=a1.gr hC;refine Zi (Zgh 7 bn ((an.toSlF (Zn.int .u32)).froz 6) ((a1.froz 5 (by decide)).toSlF (Zn.int .u32))) ?_;rintro _ cg ⟨bo,ch,ci,rfl,ae,aq⟩;refine ⟨_,rfl,?_⟩;replace aq:=aq.thaw (Z3 .u32) ae (((Fz.refl (col:=ao)).froz 5).froz 6) (by decide);replace ae:=ae.thawR (col:=ao);generalize Xf bm.heap.size ao bo=ak at *;refine Zk<|Xp ak hC0 ae<|xe rfl rfl ?_;intro bp hC0;replace aa:=((aa.grow ap).grow hC).grow ae;replace ac:=(ac.gr hC).gr ae;replace ab:=(ab.gr hC).gr ae;have hC:=hC0.bl ak;obtain ⟨cj,bq,hm⟩:=bZ hm;replace ac:=ac.gr hC;replace aq:=aq.gr hC;refine Zi (Zlp 8 9 bq ((ac.toSlF (Zn.int .u32)).froz 7) ((aq.froz 4 (by decide)).toSlF (Zn.int .u32))) ?_;rintro _ ck ⟨br,cl,cn,co,cp,rfl,af,ag,ah⟩;refine ⟨_,rfl,?_⟩;replace ag:=ag.thaw (Z3 .u32) af (((Fz.refl (col:=ak)).froz 4).froz 7) (by decide);replace ah:=ah.thaw (Z3 .u32) af (((Fz.refl (col:=ak)).froz 4).froz 7) (by decide);replace af:=af.thawR (col:=ak);generalize Xf bp.heap.size ak br=aw at *;refine Zk<|Xp aw hC0 af<|xe rfl rfl ?_;intro cq hC0;replace ab:=(ab.gr hC).gr af;replace aa:=(aa.grow hC).grow af;have hC:=hC0.bl aw;replace ab:=ab.gr hC;refine Z4 ab ?_;intro cr a2 bs a3;refine Zk<|xk aw<|Y9 ?_;replace ag:=(ag.gr hC).kp a2;replace ah:=(ah.gr hC).kp a2;replace aa:=(aa.grow hC).kp a2 bs;intro cs hC;replace hC:=hC.bl aw;refine We ?_;cases hm;replace ag:=ag.gr hC;replace ah:=ah.gr hC;replace a3:=a3.gr hC;replace aa:=aa.grow hC;exact ⟨rfl,_,ra a3.atN,_,_,_,_,_,rfl,aa.fin (cm [(8,c1),(9,c2)]),aa.fo ag,aa.fo ah⟩
def Zde (N:Nat) (aa:R4):Option Int:=
  (Zjt N aa.2).bind fun ab=>if (decide (ab=0))=true then (some 0) else (if aa.1=true then (some (-1)) else (some 1))
theorem Zlx {N af:Nat} {ag:Option Addr} {col:Zd} {w0:World} {ab:R4} {r:Int} (hm:Zde N ab=some r) (ae:Sl (Za.int .u32) col w0 ag af ab.2):
    Calls prog 187 #[(.agg #[.bool ab.1,.slice ag ab.2.length af])] w0 (fun e w'=>e= .returned ((.int .i64 r))∧Below w0.heap.size w0 w'):=by
 refine Xc 2 (m:=11) func187 rfl rfl rfl rfl rfl ?_;rw [Zde.eq_1] at hm;have aa:=St.start col w0;refine go ?_;refine Xg (col:=(Zh col)) 1 rfl ?_;intro am ai ah aj ac;refine go ?_;refine Xa ac ?_;obtain ⟨an,ak,hm⟩:=bZ hm;replace ae:=ae.keep (Zf.start col w0);replace aa:=aa.grow aj;refine Zi (Z0x ak (ae.ks aa)) ?_;rintro _ al ⟨rfl,ad⟩;refine ⟨_,rfl,?_⟩;replace ad:Zg ah ai ah al:=.of_below ad;refine go ?_;replace ac:=ac.gr ad;replace aa:=aa.grow ad;refine Zo hm (fun hb hm=>go ?_) fun hb hm=>go ?_
 ·cases hm;exact ⟨rfl,rfl,aa.below⟩
 refine Xa ac ?_;refine go ?_;refine Zo hm (fun hb hm=>go ?_) fun hb hm=>go ?_
 ·cases hm;exact ⟨rfl,rfl,aa.below⟩
 cases hm;exact ⟨rfl,rfl,aa.below⟩
def Zkp (N:Nat) (aa:R4) (ab:R4):Option Int:=
  (Zde N (aa.1,aa.2)).bind fun ac=>(Zde N (ab.1,ab.2)).bind fun ad=>if (decide (ac<ad))=true then (some (-1)) else (if (decide (ad<ac))=true then (some 1) else ((Zef N aa.2 ab.2).bind fun ae=>some (i64.wrap (ac * ae))))
theorem Z2e {N aj ak:Nat} {al am:Option Addr} {col:Zd} {w0:World} {ad ae:R4} {r:Int} (hm:Zkp N ad ae=some r) (af:Sl (Za.int .u32) col w0 al aj ad.2) (ag:Sl (Za.int .u32) col w0 am ak ae.2):
    Calls prog 184 #[(.agg #[.bool ad.1,.slice al ad.2.length aj]),(.agg #[.bool ae.1,.slice am ae.2.length ak])] w0 (fun e w'=>e= .returned ((.int .i64 r))∧Below w0.heap.size w0 w'):=by
 refine Xc 4 (m:=26) func184 rfl rfl rfl rfl rfl ?_;rw [Zkp.eq_1] at hm;have aa:=St.start col w0;refine go ?_;refine Xg (col:=(Zh col)) 1 rfl ?_;intro az a0 ao ap ac;refine Xg (col:=ao) 2 rfl ?_;intro a1 a2 ab an ah;refine go ?_;refine Wd (col:=ab) (by kernel_rfl) (by kernel_rfl) ?_;replace ac:=ac.gr an;refine qv rfl (fun _ hC=>Z7 isAgg45 sizeOf45 (ac.gr (hC.bl ab))) ?_;obtain ⟨aq,ar,hm⟩:=bZ hm;replace af:=af.keep (Zf.start col w0);replace aa:=(aa.grow ap).grow an;refine qc (v:=(.int .i64 aq)) rfl (fun _ hC=>⟨_,_,Zp4 call187 rfl,(Zlx ar ((af.ks aa).gr (hC.bl ab)):).mono fun _ _ h=>⟨h.1,hC.trans (.of_below h.2)⟩⟩) ?_;refine qv rfl (fun _ hC=>Z7 isAgg45 sizeOf45 (ah.gr (hC.bl ab))) ?_;obtain ⟨au,av,hm⟩:=bZ hm;replace ag:=ag.keep (Zf.start col w0);refine qc (v:=(.int .i64 au)) rfl (fun _ hC=>⟨_,_,Zp4 call187 rfl,(Zlx av ((ag.ks aa).gr (hC.bl ab)):).mono fun _ _ h=>⟨h.1,hC.trans (.of_below h.2)⟩⟩) ?_;refine go ?_;refine X7 ?_;intro aw hC;replace hC:=hC.bl ab;refine go ?_;replace ac:=ac.gr hC;replace ah:=ah.gr hC;replace aa:=aa.grow hC;refine Zo hm (fun hb hm=>go ?_) fun hb hm=>go ?_
 ·cases hm;exact ⟨rfl,rfl,aa.below⟩
 refine Zo hm (fun hb hm=>go ?_) fun hb hm=>go ?_
 ·cases hm;exact ⟨rfl,rfl,aa.below⟩
 refine Xa ac<|Xa ah ?_;obtain ⟨a3,ax,hm⟩:=bZ hm;refine Zi (Zoi ax (af.ks aa) (ag.ks aa)) ?_;rintro _ ay ⟨rfl,ai⟩;refine ⟨_,rfl,?_⟩;replace ai:Zg ab aw ab ay:=.of_below ai;refine go ?_;cases hm;replace aa:=aa.grow ai;exact ⟨rfl,rfl,aa.below⟩
def Zgv (N:Nat) (aa:R1) (ab:R1):Option Int:=
  (Ti N ((ab.1.1,ab.1.2),ab.2)).bind fun ae=>(Zcf N (aa.1.1,aa.1.2) ae).bind fun ac=>(Ti N ((aa.1.1,aa.1.2),aa.2)).bind fun af=>(Zcf N (ab.1.1,ab.1.2) af).bind fun ad=>(Zkp N (ac.1,ac.2) (ad.1,ad.2)).bind fun ag=>some ag
theorem Zq5 {N ap a0 aq a1:Nat} {ar a2 au a3:Option Addr} {col:Zd} {w0:World} {ac ad:R1} {r:Int} (hm:Zgv N ac ad=some r) (al:Sl (Za.int .u32) col w0 ar ap ac.1.2) (av:Sl (Za.int .u32) col w0 a2 a0 ac.2) (am:Sl (Za.int .u32) col w0 au aq ad.1.2) (aw:Sl (Za.int .u32) col w0 a3 a1 ad.2):
    Calls prog 71 #[(.agg #[.bool ac.1.1,.slice ar ac.1.2.length ap,.slice a2 ac.2.length a0]),(.agg #[.bool ad.1.1,.slice au ad.1.2.length aq,.slice a3 ad.2.length a1])] w0 (fun e w'=>e= .returned ((.int .i64 r))∧Below w0.heap.size w0 w'):=by
 refine Xc 4 (m:=16) func71 rfl rfl rfl rfl rfl ?_;rw [Zgv.eq_1] at hm;have aa:=St.start col w0;refine go ?_;refine Xg (col:=(Zh col)) 1 rfl ?_;intro bm bn a8 a9 an;refine Xg (col:=a8) 2 rfl ?_;intro bo bp ae a4 a5;refine go ?_;refine Wh (col:=ae) [(0,1),(1,0),(2,0),(5,1),(6,0),(7,0),(3,3),(4,3),(8,3),(9,3),(10,3),(11,1)] (by kernel_rfl) (by kernel_rfl)<|xF ⟨_,_,rfl⟩ ?_;replace an:=an.gr a4;refine xv (v:=(.agg #[.bool ac.1.1,.slice ar ac.1.2.length ap])) rfl rfl (fun _ hC=>Yj isAgg45 sizeOf45 rfl rfl (((an.atN).part 0 2 _ rfl).gr (hC.bl ae))) ?_;refine xv rfl rfl (fun _ hC=>Z7 isAgg47 sizeOf47 (a5.gr (hC.bl ae))) ?_;refine xF ⟨_,_,rfl⟩ ?_;refine xv (v:=(.agg #[.bool ad.1.1,.slice au ad.1.2.length aq])) rfl rfl (fun _ hC=>Yj isAgg45 sizeOf45 rfl rfl (((a5.atN).part 0 2 _ rfl).gr (hC.bl ae))) ?_;refine xv rfl rfl (fun _ hC=>Z7 isAgg47 sizeOf47 (an.gr (hC.bl ae))) ?_;refine xe rfl rfl ?_;intro bq hC0;have hC:=hC0.bl ae;obtain ⟨br,ba,hm⟩:=bZ hm;replace am:=am.keep (Zf.start col w0);replace aw:=aw.keep (Zf.start col w0);replace aa:=((aa.grow a9).grow a4).grow hC;refine Zi (Q3 3 ba (am.ks aa) (aw.ks aa)) ?_;rintro _ bs ⟨ah,bt,bu,rfl,a6,ax⟩;refine ⟨_,rfl,?_⟩;refine Zk<|Xp ah hC0 a6<|xe rfl rfl ?_;intro bb hC0;have hC:=hC0.bl ah;obtain ⟨bv,bc,hm⟩:=bZ hm;replace al:=al.keep (Zf.start col w0);replace aa:=(aa.grow a6).grow hC;replace ax:=ax.gr hC;refine Zi (Zlq 4 bc ((al.ks aa).froz 3) (ax.toSlF (Zn.int .u32))) ?_;rintro _ bw ⟨bd,bx,bz,rfl,ai,ab⟩;refine ⟨_,rfl,?_⟩;replace av:=av.keep (Zf.start col w0);replace ab:=ab.thaw (Z3 .u32) ai ((Fz.refl (col:=ah)).froz 3) (by decide);replace ai:=ai.thawR (col:=ah);generalize Xf bb.heap.size ah bd=a7 at *;refine Zk<|Xp a7 hC0 ai<|xe rfl rfl ?_;intro b0 hC0;have hC:=hC0.bl a7;obtain ⟨b1,be,hm⟩:=bZ hm;replace aa:=(aa.grow ai).grow hC;refine Zi (Q3 5 be (al.ks aa) (av.ks aa)) ?_;rintro _ b2 ⟨aj,b3,b4,rfl,ay,az⟩;refine ⟨_,rfl,?_⟩;refine Zk<|Xp aj hC0 ay<|xe rfl rfl ?_;intro bf hC0;replace ab:=(ab.gr hC).gr ay;have hC:=hC0.bl aj;obtain ⟨b5,bg,hm⟩:=bZ hm;replace aa:=(aa.grow ay).grow hC;replace az:=az.gr hC
 refine Zi (Zlq 6 bg ((am.ks aa).froz 5) (az.toSlF (Zn.int .u32))) ?_;rintro _ b6 ⟨bh,b7,b8,rfl,af,ak⟩;refine ⟨_,rfl,?_⟩;replace ak:=ak.thaw (Z3 .u32) af ((Fz.refl (col:=aj)).froz 5) (by decide);replace af:=af.thawR (col:=aj);generalize Xf bf.heap.size aj bh=ag at *;refine Zk<|Xp ag hC0 af<|xe rfl rfl ?_;intro bi hC0;replace ab:=(ab.gr hC).gr af;have hC:=hC0.bl ag;obtain ⟨b9,bj,hm⟩:=bZ hm;replace ab:=ab.gr hC;replace ak:=ak.gr hC;refine Zi (Z2e bj ((ab.toSlF (Zn.int .u32)).froz 6) ((ak.froz 4 (by decide)).toSlF (Zn.int .u32))) ?_;rintro _ bk ⟨rfl,ao⟩;refine ⟨_,rfl,?_⟩;replace ao:Zg ag bi ag bk:=.of_below ao;refine Zk<|Xp ag hC0 ao<|xu rfl rfl (fun _=>Zp3 rfl) ?_;refine Y9 ?_;replace aa:=((aa.grow af).grow hC).grow ao;intro ca hC;replace hC:=hC.bl ag;refine We ?_;cases hm;replace aa:=aa.grow hC;exact ⟨rfl,rfl,aa.below⟩
def Zcd (N:Nat):List R1→Bool→R2→R2→Option R1
  | [],aa,ab,ac=>some ((aa,ab),ac)
  | ad :: af,aa,ab,ac=>(Zac N ((aa,ab),ac) ((ad.1.1,ad.1.2),ad.2)).bind fun ae=>(Zcd N af) ae.1.1 ae.1.2 ae.2
termination_by structural x=>x
def Zdz (N:Nat) (aa:R8):Option R1:=
  (Zbc N 1).bind fun ab=>Zcd N aa false ([]:List Int) ab
theorem Zq7 {N ba:Nat} {a0:Option Addr} {col:Zd} {w0:World} {af:R8} {r:R1} (c1 c2:Nat) (hm:Zdz N af=some r) (h0:Sl (Za.pair (Za.pair Za.bool (Za.slice (Za.int .u32))) (Za.slice (Za.int .u32))) col w0 a0 ba af):
    Calls prog 69 #[.slice a0 af.length ba] w0 (fun e w'=>∃ (col':Zd) (ra1:Option Addr) (rc2:Nat) (ra4:Option Addr) (rc5:Nat),e= .returned ((.agg #[.bool r.1.1,.slice ra1 r.1.2.length rc2,.slice ra4 r.2.length rc5]))∧Zg col w0 col' w'∧Zc (Za.int .u32) 79 c1 col' w' ra1 rc2 r.1.2∧Zc (Za.int .u32) 79 c2 col' w' ra4 rc5 r.2):=by
 refine Ym (m:=19) func69 rfl rfl rfl ?_;rw [Zdz.eq_1] at hm;have aa:=St.start col w0;refine go ?_;refine Xl (col:=(Zh col)) #[.bool false,.slice none (([]:List Int).length) 0,.slice none (([]:List Int).length) 0] 1 zeroValue47 ?_;intro bc cb bd be ab;refine go ?_;obtain ⟨bf,bg,hm⟩:=bZ hm;refine Zi (Zjb (col:=bd) 2 bg) ?_;rintro _ cc ⟨bh,bi,bj,rfl,bb,aw⟩;refine ⟨_,rfl,?_⟩;refine lV (.agg #[.bool false,.slice none (([]:List Int).length) 0,.slice bi bf.length bj]) (Yz (l:=[_,_]) (qs:=[(0,2),(2,1)]) underlying47 zeroValue47 ⟨rfl,sizeOf45,rfl,sizeOf43,trivial⟩ rfl)<|Xl (col:=bh) #[.bool false,.slice none (([]:List Int).length) 0,.slice none (([]:List Int).length) 0] 3 zeroValue47 ?_;intro bk cd ce ax bm;refine Z4 bm ?_;intro cf ay bn ac;refine go ?_;replace aa:=(((aa.grow be).grow bb).grow ax).kp ay bn;replace ab:=((ab.gr bb).gr ax).kp ay;replace aw:=(aw.gr ax).kp ay;refine Zw [2,3,8,9,1000000] (fun n f ak=>∃ ag an az a1 a2 aq a3 a4 ar ao,n=ao.length∧af.drop an=ao∧Zcd N ao az aq ar=some r∧St w0 (Zh col) ag ak∧Zm 47 1 ag ak bc #[.bool false,.slice none (([]:List Int).length) 0,.slice none (([]:List Int).length) 0]∧Zc (Za.int .u32) 79 4 ag ak a1 a2 aq∧Zc (Za.int .u32) 79 2 ag ak a3 a4 ar∧Zm 47 3 ag ak bk #[.bool az,.slice a1 aq.length a2,.slice a3 ar.length a4]∧[10].map f=[.int .i64 an]) af.length ⟨_,0,_,none,0,_,_,_,_,_,rfl,rfl,hm,aa,ab,Zc.nil,aw,ac,rfl⟩ ?_;clear hm;intro n f ak hI;obtain ⟨ag,an,az,a1,a2,aq,a3,a4,ar,ao,hn,hl,hm,aa,ab,al,am,ac,hs⟩:=hI;subst hn;refine .lL [10] hs ?_;replace h0:=h0.keep (Zf.start col w0)
 cases ao with
 | nil=>
  have hk:¬ ((an:Int)<(af.length:Int)):=by have:=List.drop_eq_nil_iff.1 hl;omega
  have hkb:=decide_eq_false hk;rw [Zcd.eq_1] at hm;refine go ?_;refine Yf (congrArg Value.bool hkb)<|go ?_;refine lV _ (Z7 isAgg47 sizeOf47 ac)<|Z4 ab ?_;intro cg a5 bo bp;refine go ?_;cases hm;replace al:=al.kp a5;replace am:=am.kp a5;replace aa:=aa.kp a5 bo;exact ⟨rfl,_,ra bp.atN,_,_,_,_,_,rfl,aa.fin (cm [(4,c1),(2,c2)]),aa.fo al,aa.fo am⟩
 | cons a6 bq=>
  obtain ⟨a7,br,bs⟩:=Yw hl;have hk:(an:Int)<(af.length:Int):=by omega
  have hkb:=decide_eq_true hk;rw [Zcd.eq_2] at hm;refine go ?_;refine Yg (congrArg Value.bool hkb)<|go ?_;refine lI a7 ((h0.ks aa).addr a7) ?_;obtain ⟨_,bt,bu⟩:=(h0.ks aa).atN a7;obtain ⟨_,_,rfl,bv,bw⟩:=Yi bt;obtain ⟨_,_,rfl,bx,bz⟩:=Yi bv;obtain ⟨rfl,_⟩:=bx;obtain ⟨⟨b0,b1,rfl,a8⟩,_⟩:=bz;obtain ⟨⟨b2,b3,rfl,a9⟩,_⟩:=bw;refine lV (.agg #[.bool a6.1.1,.slice b0 a6.1.2.length b1,.slice b2 a6.2.length b3]) (Yj isAgg47 sizeOf47 rfl rfl bu)<|Xl (col:=ag) #[.bool false,.slice none (([]:List Int).length) 0,.slice none (([]:List Int).length) 0] 5 zeroValue47 ?_;intro ch ci au ah b4;refine Z4 b4 ?_;intro b5 ai b6 b7;refine go ?_;replace ac:=(ac.gr ah).kp ai;refine lV _ (Z7 isAgg47 sizeOf47 ac)<|lV _ (Z7 isAgg47 sizeOf47 b7) ?_;obtain ⟨cj,b8,hm⟩:=bZ hm;replace al:=(al.gr ah).kp ai;replace am:=(am.gr ah).kp ai;replace a8:=(a8.gr ah).kp ai;replace a9:=(a9.gr ah).kp ai;refine Zi (Zoe 6 7 b8 ((al.toSlF (Zn.int .u32)).froz 2) ((am.froz 4 (by decide)).toSlF (Zn.int .u32)) ((a8.froz 4).froz 2) ((a9.froz 4).froz 2)) ?_;rintro _ ck ⟨b9,cl,cn,co,cp,rfl,aj,ad,ae⟩;refine ⟨_,rfl,?_⟩;replace ad:=ad.thaw (Z3 .u32) aj (((Fz.refl (col:=au)).froz 4).froz 2) (by decide);replace ae:=ae.thaw (Z3 .u32) aj (((Fz.refl (col:=au)).froz 4).froz 2) (by decide);replace aj:=aj.thawR (col:=au);generalize Xf b5.heap.size au b9=cq at *;replace ac:=ac.gr aj;refine Z4 ac ?_;intro cr av ca ap;refine go ?_;replace ad:=ad.kp av;replace ad:=ad.recolSelf 4 (by decide);replace ae:=ae.kp av;replace ae:=ae.recol 6 4 (by decide);replace ab:=(((ab.gr ah).kp ai).gr aj).kp av;replace ab:=ab.recol 6 4 (by decide);replace ap:=ap.recol 6 4 (by decide);replace aa:=(((aa.grow ah).kp ai b6).grow aj).kp av ca;replace aa:=aa.recol 6 4 (by decide) (by decide);replace ad:=ad.recol 7 2 (by decide);replace ae:=ae.recolSelf 2 (by decide);replace ab:=ab.recol 7 2 (by decide);replace ap:=ap.recol 7 2 (by decide);replace aa:=aa.recol 7 2 (by decide) (by decide);exact ⟨bq.length,by simp,rfl,⟨_,_,_,_,_,_,_,_,_,_,rfl,br,hm,aa,ab,ad,ae,ap,(Y1 (congrArg (Value.int .i64) (Yy (Nat.lt_of_lt_of_le bs (h0.ks aa).1.1))) rfl)⟩⟩
def Zir (N:Nat) (aa:Int):Option R4:=
  if (decide (aa<0))=true then ((Zbc N (u64.wrap (-(u64.wrap aa)))).bind fun ad=>(Qv N true ad).bind fun ab=>some (ab.1,ab.2)) else ((Zbc N (u64.wrap aa)).bind fun ae=>(Qv N false ae).bind fun ac=>some (ac.1,ac.2))
theorem Zrz {N:Nat} {col:Zd} {w0:World} {ai:Int} {r:R4} (c1:Nat) (hm:Zir N ai=some r):
    Calls prog 262 #[.int .i64 ai] w0 (fun e w'=>∃ (col':Zd) (ra1:Option Addr) (rc2:Nat),e= .returned ((.agg #[.bool r.1,.slice ra1 r.2.length rc2]))∧Zg col w0 col' w'∧Zc (Za.int .u32) 79 c1 col' w' ra1 rc2 r.2):=by
 refine Ym (m:=14) func262 rfl rfl rfl ?_;rw [Zir.eq_1] at hm;have aa:=St.start col w0;refine go ?_;refine Xl (col:=(Zh col)) #[.bool false,.slice none (([]:List Int).length) 0] 1 zeroValue45 ?_;intro a5 a6 aj ao ab;refine go ?_;replace aa:=aa.grow ao;refine Zo hm (fun hb hm=>go ?_) fun hb hm=>go ?_
 ·obtain ⟨a7,ap,hm⟩:=bZ hm;refine Zi (Zjb (col:=aj) 2 ap) ?_;rintro _ aq ⟨ag,a8,a9,rfl,ak,ar⟩;refine ⟨_,rfl,?_⟩;obtain ⟨ba,au,hm⟩:=bZ hm;refine Zi (Zdq 3 au (ar.toSlF (Zn.int .u32))) ?_;rintro _ bb ⟨av,bc,bd,rfl,ac,ad⟩;refine ⟨_,rfl,?_⟩;replace ad:=ad.thaw (Z3 .u32) ac ((Fz.refl (col:=ag)).froz 2) (by decide);replace ac:=ac.thawR (col:=ag);generalize Xf aq.heap.size ag av=be at *;replace ab:=(ab.gr ak).gr ac;refine Z4 ab ?_;intro bf al aw ax;refine go ?_;cases hm;replace aa:=((aa.grow ak).grow ac).kp al aw;replace ad:=ad.kp al;exact ⟨rfl,_,ra ax.atN,_,_,_,rfl,aa.fin (cm [(3,c1)]),aa.fo ad⟩
 obtain ⟨bg,ay,hm⟩:=bZ hm;refine Zi (Zjb (col:=aj) 4 ay) ?_;rintro _ az ⟨ah,bh,bi,rfl,am,a0⟩;refine ⟨_,rfl,?_⟩;obtain ⟨bj,a1,hm⟩:=bZ hm;refine Zi (Zdq 5 a1 (a0.toSlF (Zn.int .u32))) ?_;rintro _ bk ⟨a2,bm,bn,rfl,ae,af⟩;refine ⟨_,rfl,?_⟩;replace af:=af.thaw (Z3 .u32) ae ((Fz.refl (col:=ah)).froz 4) (by decide);replace ae:=ae.thawR (col:=ah);generalize Xf az.heap.size ah a2=bo at *;replace ab:=(ab.gr am).gr ae;refine Z4 ab ?_;intro bp an a3 a4;refine go ?_;cases hm;replace aa:=((aa.grow am).grow ae).kp an a3;replace af:=af.kp an;exact ⟨rfl,_,ra a4.atN,_,_,_,rfl,aa.fin (cm [(5,c1)]),aa.fo af⟩
def Zjl (N:Nat) (ac:R4) (aa:R4):Option (R1×Int):=
  (Zde N (aa.1,aa.2)).bind fun ad=>if (decide (ad=0))=true then (some (((false,([]:List Int)),([]:List Int)),11)) else ((Zce N (!decide (ac.1=aa.1)) ac.2 aa.2).bind fun ab=>some (((ab.1.1,ab.1.2),ab.2),0))
theorem Z0b {N an ao:Nat} {ap aq:Option Addr} {col:Zd} {w0:World} {ae af:R4} {r:(R1×Int)} (c1 c2:Nat) (hm:Zjl N ae af=some r) (ai:Sl (Za.int .u32) col w0 ap an ae.2) (ag:Sl (Za.int .u32) col w0 aq ao af.2):
    Calls prog 114 #[(.agg #[.bool ae.1,.slice ap ae.2.length an]),(.agg #[.bool af.1,.slice aq af.2.length ao])] w0 (fun e w'=>∃ (col':Zd) (ra1:Option Addr) (rc2:Nat) (ra4:Option Addr) (rc5:Nat),e= .returned (.tuple #[(.agg #[.bool r.1.1.1,.slice ra1 r.1.1.2.length rc2,.slice ra4 r.1.2.length rc5]),.int .i64 r.2])∧Zg col w0 col' w'∧Zc (Za.int .u32) 79 c1 col' w' ra1 rc2 r.1.1.2∧Zc (Za.int .u32) 79 c2 col' w' ra4 rc5 r.1.2):=by
 refine Ym (m:=20) func114 rfl rfl rfl ?_;rw [Zjl.eq_1] at hm;have aa:=St.start col w0;refine go ?_;refine Xg (col:=(Zh col)) 1 rfl ?_;intro a8 a9 aw ax ah;refine Xg (col:=aw) 2 rfl ?_;intro ba bb ay ar ab;refine Xl (col:=ay) #[.bool false,.slice none (([]:List Int).length) 0,.slice none (([]:List Int).length) 0] 3 zeroValue47 ?_;intro bc az au aj ac;refine go ?_;replace ab:=ab.gr aj;refine lV _ (Z7 isAgg45 sizeOf45 ab) ?_;obtain ⟨bd,a0,hm⟩:=bZ hm;replace ag:=ag.keep (Zf.start col w0);replace aa:=((aa.grow ax).grow ar).grow aj;refine Zi (Zlx a0 (ag.ks aa)) ?_;rintro _ a1 ⟨rfl,ad⟩;refine ⟨_,rfl,?_⟩;replace ad:Zg au az au a1:=.of_below ad;refine go ?_;replace ai:=ai.keep (Zf.start col w0);replace ah:=((ah.gr ar).gr aj).gr ad;replace ab:=ab.gr ad;replace ac:=ac.gr ad;replace aa:=aa.grow ad;refine Zo hm (fun hb hm=>go ?_) fun hb hm=>go ?_
 ·refine lV (.agg #[.bool false,.slice none (([]:List Int).length) 0,.slice none (([]:List Int).length) 0]) (Yz (l:=[_,_]) (qs:=[(0,2),(2,1)]) underlying47 zeroValue47 ⟨rfl,sizeOf45,rfl,sizeOf43,trivial⟩ rfl)<|Z4 ac ?_;intro be a2 a3 a4;refine go ?_;cases hm;replace aa:=aa.kp a2 a3;exact ⟨rfl,_,W7 a4.atN,_,none,0,none,0,rfl,aa.fin (cm []),Zc.nil,Zc.nil⟩
 refine Xa ah<|Xa ab ?_;refine go ?_;refine Xa ah<|Xa ab ?_;obtain ⟨bf,a5,hm⟩:=bZ hm;refine Zi (Zlp 4 5 a5 (ai.ks aa) (ag.ks aa)) ?_;rintro _ bg ⟨bh,bi,bj,bk,bm,rfl,av,ak,al⟩;refine ⟨_,rfl,?_⟩;replace ac:=ac.gr av;refine Z4 ac ?_;intro bn am a6 a7;refine go ?_;cases hm;replace aa:=(aa.grow av).kp am a6;replace ak:=ak.kp am;replace al:=al.kp am;exact ⟨rfl,_,W7 a7.atN,_,_,_,_,_,rfl,aa.fin (cm [(4,c1),(5,c2)]),aa.fo ak,aa.fo al⟩
def Zjm (N:Nat) (ad:Int) (ae:Int):Option (R1×Int):=
  (Zir N ad).bind fun ab=>(Zir N ae).bind fun ac=>(Zjl N (ab.1,ab.2) (ac.1,ac.2)).bind fun aa=>some (((aa.1.1.1,aa.1.1.2),aa.1.2),aa.2)
theorem Z0c {N:Nat} {col:Zd} {w0:World} {ak al:Int} {r:(R1×Int)} (c1 c2:Nat) (hm:Zjm N ak al=some r):
    Calls prog 190 #[.int .i64 ak,.int .i64 al] w0 (fun e w'=>∃ (col':Zd) (ra1:Option Addr) (rc2:Nat) (ra4:Option Addr) (rc5:Nat),e= .returned (.tuple #[(.agg #[.bool r.1.1.1,.slice ra1 r.1.1.2.length rc2,.slice ra4 r.1.2.length rc5]),.int .i64 r.2])∧Zg col w0 col' w'∧Zc (Za.int .u32) 79 c1 col' w' ra1 rc2 r.1.1.2∧Zc (Za.int .u32) 79 c2 col' w' ra4 rc5 r.1.2):=by
 refine Ym (m:=13) func190 rfl rfl rfl ?_;rw [Zjm.eq_1] at hm;have ab:=St.start col w0;refine go ?_;refine Xl (col:=(Zh col)) #[.bool false,.slice none (([]:List Int).length) 0,.slice none (([]:List Int).length) 0] 1 zeroValue47 ?_;intro a4 a5 an ao ag;refine go ?_;obtain ⟨a6,ap,hm⟩:=bZ hm;refine Zi (Zrz (col:=an) 2 ap) ?_;rintro _ a7 ⟨aq,a8,a9,rfl,am,ah⟩;refine ⟨_,rfl,?_⟩;refine Xo rfl ?_;obtain ⟨ba,ar,hm⟩:=bZ hm;refine Zi (Zrz (col:=aq) 3 ar) ?_;rintro _ au ⟨ae,bb,bc,rfl,ai,av⟩;refine ⟨_,rfl,?_⟩;obtain ⟨af,aw,hm⟩:=bZ hm;replace ah:=ah.gr ai;refine Zi (Z0b 4 5 aw ((ah.toSlF (Zn.int .u32)).froz 3) ((av.froz 2 (by decide)).toSlF (Zn.int .u32))) ?_;rintro _ bd ⟨ax,ay,az,a0,a1,rfl,aa,ac,ad⟩;refine ⟨_,rfl,?_⟩;replace ac:=ac.thaw (Z3 .u32) aa (((Fz.refl (col:=ae)).froz 2).froz 3) (by decide);replace ad:=ad.thaw (Z3 .u32) aa (((Fz.refl (col:=ae)).froz 2).froz 3) (by decide);replace aa:=aa.thawR (col:=ae);generalize Xf au.heap.size ae ax=be at *;refine lV (.agg #[.bool af.1.1.1,.slice ay af.1.1.2.length az,.slice a0 af.1.2.length a1]) (Xv rfl rfl)<|lV (.int .i64 af.2) (Xv rfl rfl) ?_;replace ag:=((ag.gr am).gr ai).gr aa;refine Z4 ag ?_;intro bf aj a2 a3;refine go ?_;cases hm;replace ab:=((((ab.grow ao).grow am).grow ai).grow aa).kp aj a2;replace ac:=ac.kp aj;replace ad:=ad.kp aj;exact ⟨rfl,_,W7 a3.atN,_,_,_,_,_,rfl,ab.fin (cm [(4,c1),(5,c2)]),ab.fo ac,ab.fo ad⟩
def Zdy (N:Nat) (aa:R1):Option Int:=
  (Zde N (aa.1.1,aa.1.2)).bind fun ab=>some ab
theorem Zq6 {N ac ag:Nat} {ad ah:Option Addr} {col:Zd} {w0:World} {aa:R1} {r:Int} (hm:Zdy N aa=some r) (ae:Sl (Za.int .u32) col w0 ad ac aa.1.2) (ao:Sl (Za.int .u32) col w0 ah ag aa.2):
    Calls prog 72 #[(.agg #[.bool aa.1.1,.slice ad aa.1.2.length ac,.slice ah aa.2.length ag])] w0 (fun e w'=>e= .returned ((.int .i64 r))∧Below w0.heap.size w0 w'):=by
 refine Xc 2 (m:=6) func72 rfl rfl rfl rfl rfl ?_;rw [Zdy.eq_1] at hm;have ab:=St.start col w0;refine go ?_;refine Xg (col:=(Zh col)) 1 rfl ?_;intro ap aj ai ak al;refine go ?_;refine Xd ⟨_,_,rfl⟩ ?_;refine lV (.agg #[.bool aa.1.1,.slice ad aa.1.2.length ac]) (Yj isAgg45 sizeOf45 rfl rfl ((al.atN).part 0 2 _ rfl)) ?_;obtain ⟨aq,am,hm⟩:=bZ hm;replace ae:=ae.keep (Zf.start col w0);replace ab:=ab.grow ak;refine Zi (Zlx am (ae.ks ab)) ?_;rintro _ an ⟨rfl,af⟩;refine ⟨_,rfl,?_⟩;replace af:Zg ai aj ai an:=.of_below af;refine go ?_;cases hm;replace ab:=ab.grow af;exact ⟨rfl,rfl,ab.below⟩
def Zgw (N:Nat) (ab:R1) (aa:R1):Option (R1×Int):=
  (Zdy N ((aa.1.1,aa.1.2),aa.2)).bind fun ad=>if (decide (ad=0))=true then (some (((false,([]:List Int)),([]:List Int)),11)) else ((Ti N ((aa.1.1,aa.1.2),aa.2)).bind fun ae=>(Ql N ab.1.2 ae).bind fun af=>(Ti N ((ab.1.1,ab.1.2),ab.2)).bind fun ag=>(Ql N ag aa.1.2).bind fun ah=>(Zce N (!decide (ab.1.1=aa.1.1)) af ah).bind fun ac=>some (((ac.1.1,ac.1.2),ac.2),0))
theorem Zz9 {N a6 a7 a8 a9:Nat} {ba bb bc bd:Option Addr} {col:Zd} {w0:World} {aj ak:R1} {r:(R1×Int)} (c1 c2:Nat) (hm:Zgw N aj ak=some r) (av:Sl (Za.int .u32) col w0 ba a6 aj.1.2) (az:Sl (Za.int .u32) col w0 bb a7 aj.2) (ao:Sl (Za.int .u32) col w0 bc a8 ak.1.2) (aw:Sl (Za.int .u32) col w0 bd a9 ak.2):
    Calls prog 146 #[(.agg #[.bool aj.1.1,.slice ba aj.1.2.length a6,.slice bb aj.2.length a7]),(.agg #[.bool ak.1.1,.slice bc ak.1.2.length a8,.slice bd ak.2.length a9])] w0 (fun e w'=>∃ (col':Zd) (ra1:Option Addr) (rc2:Nat) (ra4:Option Addr) (rc5:Nat),e= .returned (.tuple #[(.agg #[.bool r.1.1.1,.slice ra1 r.1.1.2.length rc2,.slice ra4 r.1.2.length rc5]),.int .i64 r.2])∧Zg col w0 col' w'∧Zc (Za.int .u32) 79 c1 col' w' ra1 rc2 r.1.1.2∧Zc (Za.int .u32) 79 c2 col' w' ra4 rc5 r.1.2):=by
 refine Ym (m:=30) func146 rfl rfl rfl ?_;rw [Zgw.eq_1] at hm;have aa:=St.start col w0;refine go ?_;refine Xg (col:=(Zh col)) 1 rfl ?_;intro b3 b4 bg bh ap;refine Xg (col:=bg) 2 rfl ?_;intro b5 b6 bi be ae;refine Xl (col:=bi) #[.bool false,.slice none (([]:List Int).length) 0,.slice none (([]:List Int).length) 0] 3 zeroValue47 ?_;intro b7 bj ac a0 ab;refine go ?_;replace ae:=ae.gr a0;refine lV _ (Z7 isAgg47 sizeOf47 ae) ?_;obtain ⟨b8,bk,hm⟩:=bZ hm;replace ao:=ao.keep (Zf.start col w0);replace aw:=aw.keep (Zf.start col w0);replace aa:=((aa.grow bh).grow be).grow a0;refine Zi (Zq6 bk (ao.ks aa) (aw.ks aa)) ?_;rintro _ bm ⟨rfl,al⟩;refine ⟨_,rfl,?_⟩;replace al:Zg ac bj ac bm:=.of_below al;refine go ?_;replace av:=av.keep (Zf.start col w0);replace az:=az.keep (Zf.start col w0);replace ap:=((ap.gr be).gr a0).gr al;replace ae:=ae.gr al;replace ab:=ab.gr al;replace aa:=aa.grow al;refine Zo hm (fun hb hm=>go ?_) fun hb hm=>go ?_
 ·refine lV (.agg #[.bool false,.slice none (([]:List Int).length) 0,.slice none (([]:List Int).length) 0]) (Yz (l:=[_,_]) (qs:=[(0,2),(2,1)]) underlying47 zeroValue47 ⟨rfl,sizeOf45,rfl,sizeOf43,trivial⟩ rfl)<|Z4 ab ?_;intro b9 bn bo bp;refine go ?_;cases hm;replace aa:=aa.kp bn bo;exact ⟨rfl,_,W7 bp.atN,_,none,0,none,0,rfl,aa.fin (cm []),Zc.nil,Zc.nil⟩
 refine Wh (col:=ac) [(0,1),(1,1),(2,0),(3,1),(4,1),(5,0),(6,1),(7,1),(8,1),(9,0),(10,0),(13,0),(15,1),(16,1),(17,0),(11,3),(12,3),(14,3),(18,3),(19,3),(20,2),(21,1)] (by kernel_rfl) (by kernel_rfl)<|xF ⟨_,_,rfl⟩ ?_;refine xF (X2 ⟨_,_,rfl⟩) ?_;refine xW (fun _ hC=>((((ap.atN).part 0 2 _ rfl)).nth (q:=0) rfl).gr (hC.bl ac)) ?_;refine xF ⟨_,_,rfl⟩ ?_;refine xF (X2 ⟨_,_,rfl⟩) ?_;refine xW (fun _ hC=>((((ae.atN).part 0 2 _ rfl)).nth (q:=0) rfl).gr (hC.bl ac)) ?_;refine xu rfl rfl (fun _=>Ziw _ _ underlying4 rfl rfl) ?_;refine xF ⟨_,_,rfl⟩ ?_;refine xF (X2 ⟨_,_,rfl⟩) ?_;refine xW (fun _ hC=>((((ap.atN).part 0 2 _ rfl)).nth (q:=1) rfl).gr (hC.bl ac)) ?_;refine xv rfl rfl (fun _ hC=>Z7 isAgg47 sizeOf47 (ae.gr (hC.bl ac))) ?_;refine xv rfl rfl (fun _ hC=>Z7 isAgg47 sizeOf47 (ap.gr (hC.bl ac))) ?_;refine xF ⟨_,_,rfl⟩ ?_;refine xF (X2 ⟨_,_,rfl⟩) ?_;refine xW (fun _ hC=>((((ae.atN).part 0 2 _ rfl)).nth (q:=1) rfl).gr (hC.bl ac)) ?_;refine xe rfl rfl ?_;intro ca hC0;have hC:=hC0.bl ac;obtain ⟨cb,bq,hm⟩:=bZ hm;replace aa:=aa.grow hC;refine Zi (Q3 4 bq (ao.ks aa) (aw.ks aa)) ?_;rintro _ cc ⟨aq,cd,ce,rfl,a1,a2⟩;refine ⟨_,rfl,?_⟩;refine Zk<|Xp aq hC0 a1<|xe rfl rfl ?_;intro br hC0;replace ab:=(ab.gr hC).gr a1;have hC:=hC0.bl aq;obtain ⟨cf,bs,hm⟩:=bZ hm;replace aa:=(aa.grow a1).grow hC;replace a2:=a2.gr hC;refine Zi (Zgh 5 bs ((av.ks aa).froz 4) (a2.toSlF (Zn.int .u32))) ?_;rintro _ cg ⟨bt,ch,ci,rfl,am,ad⟩;refine ⟨_,rfl,?_⟩;replace ad:=ad.thaw (Z3 .u32) am ((Fz.refl (col:=aq)).froz 4) (by decide);replace am:=am.thawR (col:=aq);generalize Xf br.heap.size aq bt=bf at *;refine Zk<|Xp bf hC0 am<|xe rfl rfl ?_;intro cj hC0;replace ab:=(ab.gr hC).gr am;have hC:=hC0.bl bf;obtain ⟨ck,bu,hm⟩:=bZ hm;replace aa:=(aa.grow am).grow hC;refine Zi (Q3 6 bu (av.ks aa) (az.ks aa)) ?_;rintro _ cl ⟨ar,cn,co,rfl,ax,a3⟩;refine ⟨_,rfl,?_⟩;refine Zk<|Xp ar hC0 ax<|xe rfl rfl ?_;intro bv hC0;replace ad:=(ad.gr hC).gr ax;replace ab:=(ab.gr hC).gr ax;have hC:=hC0.bl ar;obtain ⟨cp,bw,hm⟩:=bZ hm;replace aa:=(aa.grow ax).grow hC;replace a3:=a3.gr hC;refine Zi (Zgh 7 bw (a3.toSlF (Zn.int .u32)) ((ao.ks aa).froz 6)) ?_
 rintro _ cq ⟨bx,cr,cs,rfl,af,au⟩;refine ⟨_,rfl,?_⟩;replace au:=au.thaw (Z3 .u32) af ((Fz.refl (col:=ar)).froz 6) (by decide);replace af:=af.thawR (col:=ar);generalize Xf bv.heap.size ar bx=an at *;refine Zk<|Xp an hC0 af<|xe rfl rfl ?_;intro bz hC0;replace ad:=(ad.gr hC).gr af;replace ab:=(ab.gr hC).gr af;have hC:=hC0.bl an;obtain ⟨ct,b0,hm⟩:=bZ hm;replace ad:=ad.gr hC;replace au:=au.gr hC;refine Zi (Zlp 8 9 b0 ((ad.toSlF (Zn.int .u32)).froz 7) ((au.froz 5 (by decide)).toSlF (Zn.int .u32))) ?_;rintro _ cu ⟨b1,cv,cw,cx,cy,rfl,ag,ah,ai⟩;refine ⟨_,rfl,?_⟩;replace ah:=ah.thaw (Z3 .u32) ag (((Fz.refl (col:=an)).froz 5).froz 7) (by decide);replace ai:=ai.thaw (Z3 .u32) ag (((Fz.refl (col:=an)).froz 5).froz 7) (by decide);replace ag:=ag.thawR (col:=an);generalize Xf bz.heap.size an b1=ay at *;refine Zk<|Xp ay hC0 ag<|xe rfl rfl ?_;intro cz hC0;replace aa:=((aa.grow af).grow hC).grow ag;replace ab:=(ab.gr hC).gr ag;have hC:=hC0.bl ay;replace ab:=ab.gr hC;refine Z4 ab ?_;intro c0 a4 b2 a5;refine Zk<|xk ay<|xu rfl rfl (fun _=>Zp3 rfl) ?_;refine Y9 ?_;replace ah:=(ah.gr hC).kp a4;replace ai:=(ai.gr hC).kp a4;replace aa:=(aa.grow hC).kp a4 b2;intro c3 hC;replace hC:=hC.bl ay;refine We ?_;cases hm;replace ah:=ah.gr hC;replace ai:=ai.gr hC;replace a5:=a5.gr hC;replace aa:=aa.grow hC;exact ⟨rfl,_,W7 a5.atN,_,_,_,_,_,rfl,aa.fin (cm [(8,c1),(9,c2)]),aa.fo ah,aa.fo ai⟩
theorem Zf9 {N k:Nat} {neg:Bool} {m:List Int} (hm:Zp m) (hk:m.length≤k) (hr:Xh N k):Qv N neg m=some (Xr (Zt (neg,m))):=by
 obtain ⟨r1,r2⟩:=hr
 rw [Qv,Zpo hm (by omega) (by omega),oB,Zkv]
 have e:decide (0<((Ze (Zb m)).length:Int))=decide (Zb m≠0):=by
  by_cases h:Zb m=0
  ·rw [h,W2];decide
  ·have:=Tu h
   rw [decide_eq_true (by omega),decide_eq_true h]
 cases neg
 ·rw [if_neg (by decide),Zis,Bool.false_and]
 ·rw [if_pos rfl,Zis,e,Bool.true_and]
theorem Z66 {N k:Nat} {a:ZV} (hm:Zp a.2) (hk:a.2.length≤k) (hr:Xh N k):Zkr N a=some (Xr (Zt a)):=by
 rw [Zkr,Zf9 hm hk hr];rfl
theorem Zn4 {N k:Nat} {a:ZV} (hm:Zp a.2) (hk:a.2.length≤k) (hr:Xh N k):Zde N a=some (Zt a).sign:=by
 obtain ⟨r1,r2⟩:=hr
 rw [Zde,Zz2 hm (by omega) (by omega),oB,Zt]
 by_cases h:Zb a.2=0
 ·rw [h,Zgd,if_pos (by decide)];simp
 ·have h1:Xi (Zb a.2)≠0:=by rw [Xi,if_neg h];omega
  rw [if_neg (dF (by omega))]
  by_cases h2:a.1=true
  ·rw [if_pos h2,if_pos h2,Int.sign_eq_neg_one_of_neg (by omega)]
  ·rw [if_neg h2,if_neg h2,Int.sign_eq_one_of_pos (by omega)]
theorem Zi3 {a b:ZV}:(a.1=b.1→Zt (a.1,Ze (Zb a.2+Zb b.2))=Zt a+Zt b)∧(a.1≠b.1→(Zb b.2≤Zb a.2→Zt (a.1,Ze (Zb a.2 - Zb b.2))=Zt a+Zt b)∧(Zb a.2<Zb b.2→Zt (b.1,Ze (Zb b.2 - Zb a.2))=Zt a+Zt b)):=by
 obtain ⟨s,x⟩:=a
 obtain ⟨t,y⟩:=b
 simp only [Zt,Z9]
 cases s <;> cases t <;> simp <;> (try constructor) <;> intros <;> omega
theorem Z62 {N k l:Nat} {a b:ZV} (ha:Zp a.2) (hb:Zp b.2) (hk:a.2.length≤k) (hl:b.2.length≤l) (hr:Xh N (k+l+1)):Zko N a b=some (Xr (Zt a+Zt b)):=by
 have hr':=hr
 obtain ⟨r1,r2⟩:=hr'
 have la:=Yc ha
 have lb:=Yc hb
 have lsum:(Ze (Zb a.2+Zb b.2)).length≤k+l+1:=Zl8 (by omega) (by omega)
 have ls1:(Ze (Zb a.2 - Zb b.2)).length≤k+l+1:=by have:=W6 (Nat.sub_le (Zb a.2) (Zb b.2));omega
 have ls2:(Ze (Zb b.2 - Zb a.2)).length≤k+l+1:=by have:=W6 (Nat.sub_le (Zb b.2) (Zb a.2));omega
 rw [Zko]
 by_cases h:a.1=b.1
 ·rw [if_pos (dT h),Zzw ha hb (by omega) (by omega) (by omega) (by omega),oB,Zf9 (Z8 _) lsum hr,oB,Zi3.1 h]
 ·rw [if_neg (dF h),Zy7 ha hb (by omega) (by omega) (by omega) (by omega),oB]
  by_cases hlt:Zb a.2<Zb b.2
  ·rw [if_pos hlt,if_neg (by decide),Zy7 hb ha (by omega) (by omega) (by omega) (by omega),oB,if_neg (by omega),Zf9 (Z8 _) ls2 hr,oB,(Zi3.2 h).2 hlt]
  ·rw [if_neg hlt,if_pos rfl,Zf9 (Z8 _) ls1 hr,oB,(Zi3.2 h).1 (by omega)]
theorem Z7b (b:ZV):Zt (!b.1,b.2)= -Zt b:=by
 obtain ⟨s,x⟩:=b
 cases s <;> simp [Zt]
theorem Zn6 (a b:ZV):Zt (!decide (a.1=b.1),Ze (Zb a.2 * Zb b.2))=Zt a * Zt b:=by
 obtain ⟨s,x⟩:=a
 obtain ⟨t,y⟩:=b
 simp only [Zt,Z9]
 cases s <;> cases t <;> simp [Int.natCast_mul,Int.neg_mul,Int.mul_neg]
theorem Z65 {N k l:Nat} {a b:ZV} (ha:Zp a.2) (hb:Zp b.2) (hk:a.2.length≤k) (hl:b.2.length≤l) (hr:Xh N (k+l)):Zkq N a b=some (Xr (Zt a * Zt b)):=by
 have hr':=hr
 obtain ⟨r1,r2⟩:=hr'
 have la:=Yc ha
 have lb:=Yc hb
 have:=Uu (Zb a.2) (Zb b.2)
 rw [Zkq,Zkt ha hb (by omega) (by omega),oB,Zf9 (k:=k+l) (Z8 _) (by omega) hr,oB,Zn6]
theorem Z69 (a b:ZV):(if (Zt a).sign<(Zt b).sign then -1 else if (Zt b).sign<(Zt a).sign then 1 else (Zt a).sign * (if Zb a.2<Zb b.2 then -1 else if Zb b.2<Zb a.2 then 1 else 0))=Q0 (Zt a) (Zt b):=by
 obtain ⟨s,x⟩:=a
 obtain ⟨t,y⟩:=b
 have key:∀ z:Int,z.sign=if z<0 then -1 else if 0<z then 1 else 0:=fun z=>(Zn5 z).symm
 rw [key,key]
 unfold Q0
 simp only [Zt]
 generalize Zb x=X
 generalize Zb y=Y
 cases s <;> cases t <;> simp only [if_true,Bool.false_eq_true,if_false] <;> (repeat' split) <;> omega
theorem Z64 {N k l:Nat} {a b:ZV} (ha:Zp a.2) (hb:Zp b.2) (hk:a.2.length≤k) (hl:b.2.length≤l) (hr:Xh N (k+l)):Zkp N a b=some (Q0 (Zt a) (Zt b)):=by
 have hr':=hr
 obtain ⟨r1,r2⟩:=hr'
 have sa:-1≤(Zt a).sign∧(Zt a).sign≤1:=by rw [← Zn5];unfold Q0;(repeat' split) <;> omega
 rw [Zkp,Zn4 ha hk (hr.mono (by omega)),oB,Zn4 hb hl (hr.mono (by omega)),oB,← Z69 a b]
 by_cases h1:(Zt a).sign<(Zt b).sign
 ·rw [if_pos (dT h1),if_pos h1]
 ·rw [if_neg (dF h1),if_neg h1]
  by_cases h2:(Zt b).sign<(Zt a).sign
  ·rw [if_pos (dT h2),if_pos h2]
  ·rw [if_neg (dF h2),if_neg h2,Zoy ha hb (by omega) (by omega) (by omega) (by omega),oB]
   congr 1
   refine Zr ?_
   have:(Zt a).sign= -1∨(Zt a).sign=0∨(Zt a).sign=1:=by omega
   rcases this with h | h | h <;> rw [h] <;> (repeat' split) <;> decide
theorem Zzo {N:Nat} {z:Int} (h:-9223372036854775808≤z∧z≤9223372036854775807) (hr:Xh N 2):Zir N z=some (Xr z):=by
 have hr':=hr
 obtain ⟨r1,r2⟩:=hr'
 have l2:∀ n:Nat,n<18446744073709551616→(Ze n).length≤2:=fun n hn=>Wv.2 (by simpa using hn)
 rw [Zir]
 by_cases hz:z<0
 ·have e:u64.wrap (-u64.wrap z)= -z:=by rw [IntKind.wrap_u64,IntKind.wrap_u64];omega
  rw [if_pos (dT hz),e,Zkw (by omega) (by omega),oB,Zf9 (Z8 _) (l2 _ (by omega)) hr,oB]
  have e2:Zt (true,Ze (-z).toNat)=z:=by simp only [Zt,Z9,if_true];omega
  rw [e2]
 ·rw [if_neg (dF hz),Xj (by omega),Zkw (by omega) (by omega),oB,Zf9 (Z8 _) (l2 _ (by omega)) hr,oB]
  have e2:Zt (false,Ze z.toNat)=z:=by simp only [Zt,Z9];simp;omega
  rw [e2]
theorem Zdk {N k:Nat} {a:QV} (ha:RV k a) (hr:Xh N k):Ti N a=some (Ze (Xw a.2)):=by
 obtain ⟨r1,r2⟩:=hr
 have:=ha.ld
 rw [Ti,Zpo ha.d (by omega) (by omega),oB,Xw]
 by_cases h:Zb a.2=0
 ·rw [h,W2,if_neg (by decide),if_pos rfl,Zkw (by decide) (by omega)];rfl
 ·have:=Tu h
  rw [if_pos (dT (by omega)),if_neg h]
theorem Ut {k:Nat} {a:QV} (ha:RV k a):(Ze (Xw a.2)).length≤k+1:=by
 have h1:=Yc ha.d
 have h2:=ha.ld
 rw [Xw]
 split
 ·rw [Sg];simp
 ·omega
theorem Zne {N k l n:Nat} {a:ZV} (ha:Zp a.2) (hk:a.2.length≤k) (hl:(Ze n).length≤l) (hr:Xh N (k+l)):Zcf N a (Ze n)=some (Xr (Zt a * n)):=by
 rw [Zcf,Z65 (a:=(a.1,a.2)) (b:=(false,Ze n)) ha (Z8 _) hk hl hr,oB]
 have e:Zt (false,Ze n)=n:=by simp [Zt,Z9]
 rw [e]
theorem Zma {N k l:Nat} {neg:Bool} {num den:List Int} (hn:Zp num) (hd:Zp den) (h0:Zb den≠0) (hk:num.length≤k) (hl:den.length≤l) (hr:Xh N (k+l)):
  Zce N neg num den=some (Zs (mkRat (Zt (neg,num)) (Zb den))):=by
 have hr':=hr
 obtain ⟨r1,r2⟩:=hr'
 have l1:=Yc hn
 have l2:=Yc hd
 have hg:Nat.gcd (Zb num) (Zb den)≠0:=fun h=>h0 (Nat.gcd_eq_zero_iff.1 h).2
 have lg:(Ze (Nat.gcd (Zb num) (Zb den))).length≤den.length:=Nat.le_trans (W6 (Nat.gcd_le_right _ (by omega))) l2
 have lq:=W6 (Nat.div_le_self (Zb num) (Nat.gcd (Zb num) (Zb den)))
 rw [Zce,Z3z hn hd (by omega) (by omega),oB,Zl0 hn (Z8 _) (by omega) (by omega),oB,Zl0 hd (Z8 _) (by omega) (by omega),oB,Z9,if_neg hg,if_neg hg,
  Z66 (k:=k) (a:=(neg,Ze (Zb num / Nat.gcd (Zb num) (Zb den)))) (Z8 _) (by simp only;omega) (hr.mono (by omega)),oB,Zvn h0,Zkv,Z9]
theorem Ztq {N k:Nat} {a:QV} (ha:RV k a) (hr:Xh N k):Zdy N a=some (Zau (Z5 a)):=by
 rw [Zdy,Zn4 (a:=(a.1.1,a.1.2)) ha.m ha.lm hr,oB,Zwq]
theorem Zdu (z:Int):(Xr z).2=Ze z.natAbs:=rfl
theorem Zb9 {k l n:Nat} {a:ZV} (ha:Zp a.2) (hk:a.2.length≤k) (hl:(Ze n).length≤l):(Xr (Zt a * n)).2.length≤k+l:=by
 rw [Zdu,Int.natAbs_mul,Int.natAbs_natCast,Zaw]
 have h1:=Uu (Zb a.2) n
 have h2:=Yc ha
 omega
theorem Zs1 {N k l:Nat} {a b:QV} (ha:RV k a) (hb:RV l b) (hr:Xh N (2 * (k+l+2))):Zgv N a b=some (Qx (Z5 a) (Z5 b)):=by
 have da:=Ut ha
 have db:=Ut hb
 have o1:=Zb9 (n:=Xw b.2) ha.m ha.lm db
 have o2:=Zb9 (n:=Xw a.2) hb.m hb.lm da
 rw [Zgv,Zdk hb (hr.mono (by omega)),oB,Zne (k:=k) (l:=l+1) ha.m ha.lm db (hr.mono (by omega)),oB,Zdk ha (hr.mono (by omega)),oB,Zne (k:=l) (l:=k+1) hb.m hb.lm da (hr.mono (by omega)),oB,
  Z64 (a:=Xr _) (b:=Xr _) (Ua _) (Ua _) o1 o2 (hr.mono (by omega)),oB,V7,V7,Z5,Z5,Zpw (Uk _) (Uk _)]
theorem Zlz {N k l:Nat} {a b:QV} (ha:RV k a) (hb:RV l b) (hr:Xh N (k+l+2)):Ql N (Ze (Xw a.2)) (Ze (Xw b.2))=some (Ze (Xw a.2 * Xw b.2))∧(Ze (Xw a.2 * Xw b.2)).length≤k+l+2∧Xw a.2 * Xw b.2≠0:=by
 have da:=Ut ha
 have db:=Ut hb
 have hr':=hr
 obtain ⟨r1,r2⟩:=hr'
 have:=Uu (Xw a.2) (Xw b.2)
 refine ⟨by rw [Zkt (Z8 _) (Z8 _) (by omega) (by omega),Z9,Z9],by omega,Nat.mul_ne_zero (Uk _) (Uk _)⟩
theorem Zqo {x y:Int} {k:Nat} (hx:(Xr x).2.length≤k) (hy:(Xr y).2.length≤k):(Xr (x+y)).2.length≤k+1:=by
 rw [Zdu] at *
 exact Nat.le_trans (W6 (Int.natAbs_add_le _ _)) (Zl8 hx hy)
theorem Z6v {x y:Int} {k:Nat} (hx:(Xr x).2.length≤k) (hy:(Xr y).2.length≤k):(Xr (x - y)).2.length≤k+1:=by
 rw [Int.sub_eq_add_neg]
 refine Zqo hx ?_
 rw [Zdu,Int.natAbs_neg];exact hy
theorem Z5b (z:Int):((Xr z).1,(Xr z).2)=Xr z:=rfl
theorem Zo3 {N k l:Nat} {a b:QV} (ha:RV k a) (hb:RV l b) (hr:Xh N (2 * (k+l+3))):Zac N a b=some (Zs (Z5 a+Z5 b)):=by
 have da:=Ut ha
 have db:=Ut hb
 have o1:=Zb9 (n:=Xw b.2) ha.m ha.lm db
 have o2:=Zb9 (n:=Xw a.2) hb.m hb.lm da
 obtain ⟨m1,m2,m3⟩:=Zlz ha hb (hr.mono (by omega))
 have sl:=Zqo (k:=k+l+1) (by omega) (Nat.le_trans o2 (by omega))
 rw [Zac,Zdk hb (hr.mono (by omega)),oB,Zne (k:=k) (l:=l+1) ha.m ha.lm db (hr.mono (by omega)),oB,Zdk ha (hr.mono (by omega)),oB,Zne (k:=l) (l:=k+1) hb.m hb.lm da (hr.mono (by omega)),oB,
  Z62 (a:=Xr _) (b:=Xr _) (Ua _) (Ua _) o1 o2 (hr.mono (by omega)),oB,V7,V7,oB,oB,m1,oB,
  Zma (Ua _) (Z8 _) (by rw [Z9];exact m3) sl m2 (hr.mono (by omega)),oB,Z5b,V7,Z9,Z5,Z5,Rat.mkRat_add_mkRat _ _ (Uk _) (Uk _)]
theorem Z3s {N k l:Nat} {a b:QV} (ha:RV k a) (hb:RV l b) (hr:Xh N (2 * (k+l+3))):Zgx N a b=some (Zs (Z5 a * Z5 b)):=by
 have hr':=hr
 obtain ⟨r1,r2⟩:=hr'
 have h1:=ha.lm
 have h2:=hb.lm
 have la:=Yc ha.m
 have lb:=Yc hb.m
 have lm:=Uu (Zb a.1.2) (Zb b.1.2)
 obtain ⟨m1,m2,m3⟩:=Zlz ha hb (hr.mono (by omega))
 rw [Zgx,Zkt ha.m hb.m (by omega) (by omega),oB,Zdk ha (hr.mono (by omega)),oB,Zdk hb (hr.mono (by omega)),oB,m1,oB,
  Zma (k:=k+l) (Z8 _) (Z8 _) (by rw [Z9];exact m3) (by omega) m2 (hr.mono (by omega)),oB,Zn6,Z9,Z5,Z5,Rat.mkRat_mul_mkRat]
theorem Zm6 (n₁:Int) (d₁:Nat) (b:ZV) (d₂:Nat) (s:Bool) (x:List Int) (h:n₁=Zt (s,x)) (hb:Zb b.2≠0):mkRat n₁ d₁ / mkRat (Zt b) d₂=mkRat (Zt (!decide (s=b.1),Ze (Zb x * d₂))) (d₁ * Zb b.2):=by
 have e1:mkRat (Zt b) d₂=(Zt b:Rat) / (d₂:Rat):=Rat.mkRat_eq_div _ _
 have hz:(Zt b:Rat)=(if b.1=true then -1 else 1) * (Zb b.2:Rat):=by
  rw [Zt];split
  ·rw [Rat.intCast_neg,Rat.neg_mul,Rat.one_mul];rfl
  ·rw [Rat.one_mul];rfl
 have hn:(Zt (!decide (s=b.1),Ze (Zb x * d₂)):Rat)=(if b.1=true then -1 else 1) * (n₁:Rat) * (d₂:Rat):=by
  subst h
  have:Zt (!decide (s=b.1),Ze (Zb x * d₂))=(if b.1=true then -1 else 1) * Zt (s,x) * (d₂:Int):=by
   obtain ⟨t,y⟩:=b
   simp only [Zt,Z9]
   cases s <;> cases t <;> simp [Int.natCast_mul,Int.neg_mul]
  rw [this,Rat.intCast_mul,Rat.intCast_mul]
  congr 2
  split <;> rfl
 have hbr:(Zb b.2:Rat)≠0:=fun h=>hb (Rat.natCast_eq_zero_iff.1 h)
 rw [Rat.mkRat_eq_div,e1,Rat.mkRat_eq_div,hn,hz,Rat.natCast_mul]
 have hs:(if b.1=true then (-1:Rat) else 1) * (if b.1=true then (-1:Rat) else 1)=1:=by split <;> grind
 generalize (if b.1=true then (-1:Rat) else 1)=sg at *
 generalize (n₁:Rat)=p
 generalize (d₁:Rat)=q
 generalize (d₂:Rat)=r
 generalize (Zb b.2:Rat)=m at *
 have hsg:sg≠0:=fun h=>by rw [h] at hs;grind
 have hinv:sg⁻¹=sg:=Rat.inv_eq_of_mul_eq_one hs
 simp only [Rat.div_def,Rat.inv_mul_rev,Rat.inv_inv,hinv]
 grind
theorem Z3m {N k l:Nat} {a b:QV} (ha:RV k a) (hb:RV l b) (hr:Xh N (2 * (k+l+3))):Zgw N a b=some (if Z5 b=0 then (((false,[]),[]),11) else (Zs (Z5 a / Z5 b),0)):=by
 have hr':=hr
 obtain ⟨r1,r2⟩:=hr'
 have h1:=ha.lm
 have h2:=hb.lm
 have la:=Yc ha.m
 have lb:=Yc hb.m
 have da:=Ut ha
 have db:=Ut hb
 rw [Zgw,Ztq hb (hr.mono (by omega)),oB]
 by_cases h0:Z5 b=0
 ·rw [if_pos h0,h0,if_pos (by decide)]
 ·have hb0:Zb b.1.2≠0:=fun h=>h0 ((Zws b).2 h)
  have lm1:=Uu (Zb a.1.2) (Xw b.2)
  have lm2:=Uu (Xw a.2) (Zb b.1.2)
  have e:=Zm6 (Zt a.1) (Xw a.2) b.1 (Xw b.2) a.1.1 a.1.2 rfl hb0
  rw [if_neg (dF (fun h=>h0 (Zwr.1 h))),if_neg h0,Zdk hb (hr.mono (by omega)),oB,Zkt ha.m (Z8 _) (by omega) (by omega),oB,Zdk ha (hr.mono (by omega)),oB,Zkt (Z8 _) hb.m (by omega) (by omega),oB,Z9,Z9,
   Zma (k:=k+l+1) (l:=k+l+1) (Z8 _) (Z8 _) (by rw [Z9];exact Nat.mul_ne_zero (Uk _) hb0) (by omega) (by omega) (hr.mono (by omega)),oB,Z9,← e]
  rfl
theorem Z3t {N k l:Nat} {a b:ZV} (ha:Zp a.2) (hb:Zp b.2) (hk:a.2.length≤k) (hl:b.2.length≤l) (hr:Xh N (k+l)):Zjl N a b=some (if Zt b=0 then (((false,[]),[]),11) else (Zs ((Zt a:Rat) / (Zt b:Rat)),0)):=by
 rw [Zjl,Zn4 (a:=(b.1,b.2)) hb hl (hr.mono (by omega)),oB]
 by_cases h0:Zt b=0
 ·rw [if_pos h0,h0,if_pos (by decide)]
 ·have hb0:Zb b.2≠0:=fun h=>h0 (by have:=Zaw b;omega)
  have e:=Zm6 (Zt a) 1 b 1 a.1 a.2 rfl hb0
  have hs:¬ (Zt b).sign=0:=fun h=>h0 (Int.sign_eq_zero_iff_zero.1 h)
  rw [if_neg (dF hs),if_neg h0,Zma ha hb hb0 hk hl hr,oB]
  rw [Rat.mkRat_eq_div,Rat.mkRat_eq_div] at e
  have e1:(Zt a:Rat) / ((1:Nat):Rat) / ((Zt b:Rat) / ((1:Nat):Rat))=(Zt a:Rat) / (Zt b:Rat):=by
   have h1:((1:Nat):Rat)=1:=rfl
   have h2:(1:Rat)⁻¹=1:=Rat.inv_eq_of_mul_eq_one (by grind)
   simp only [h1,Rat.div_def,h2,Rat.mul_one]
  rw [e1,Nat.one_mul,Nat.mul_one] at e
  rw [e]
  have e2:Zt (!decide (a.1=b.1),Ze (Zb a.2))=Zt (!decide (a.1=b.1),a.2):=by simp only [Zt,Z9]
  rw [e2]
theorem Z3u {N:Nat} {a b:Int} (h:-9223372036854775808≤a∧a≤9223372036854775807) (g:-9223372036854775808≤b∧b≤9223372036854775807) (hr:Xh N 4):Zjm N a b=some (if b=0 then (((false,[]),[]),11) else (Zs ((a:Rat) / (b:Rat)),0)):=by
 have l2:∀ z:Int,-9223372036854775808≤z∧z≤9223372036854775807→(Xr z).2.length≤2:=fun z hz=>Wv.2 (by simp;omega)
 rw [Zjm,Zzo h (hr.mono (by omega)),oB,Zzo g (hr.mono (by omega)),oB,Z3t (a:=Xr a) (b:=Xr b) (Ua _) (Ua _) (l2 _ h) (l2 _ g) hr,oB,V7,V7]
def Wx (l:List QV):Rat:=(l.map Z5).sum
def Xz:List QV→Nat
 | []=>0
 | a :: l=>max a.1.2.length a.2.length+2+Xz l
theorem Zby {a:QV} (hm:Zp a.1.2) (hd:Zp a.2):RV (max a.1.2.length a.2.length) a:=⟨hm,hd,Nat.le_max_left _ _,Nat.le_max_right _ _⟩
def Wy (a:QV):Prop:=Zp a.1.2∧Zp a.2
theorem Zp1 {a:QV} (h:Wy a):qs (Z5 a)≤max a.1.2.length a.2.length+1:=by
 have:=Zwp (Zby h.1 h.2)
 omega
theorem Ztr {N:Nat}:∀ (l:List QV) (q:Rat),(∀ a ∈ l,Wy a)→Xh N (4 * (qs q+Xz l+3))→Zcd N l (Zs q).1.1 (Zs q).1.2 (Zs q).2=some (Zs (q+Wx l))∧qs (q+Wx l)≤qs q+Xz l
 | [],q,_,_=>by
  rw [Zcd.eq_1,Wx]
  simp only [List.map_nil,List.sum_nil,Rat.add_zero,Xz]
  exact ⟨trivial,by omega⟩
 | a :: l,q,hl,hr=>by
  have ha:=hl a List.mem_cons_self
  have hs:=Zp1 ha
  rw [Xz] at hr ⊢
  rw [Zcd.eq_2,Zo3 (k:=qs q) (l:=max a.1.2.length a.2.length) (Zqi q) (Zby ha.1 ha.2) (hr.mono (by omega)),oB]
  have e:Z5 ((((Zs q).1.1,(Zs q).1.2),(Zs q).2):QV)=q:=V4 q
  have e2:Z5 (((a.1.1,a.1.2),a.2):QV)=Z5 a:=rfl
  have h1:=Zwn q (Z5 a)
  obtain ⟨h2,h3⟩:=Ztr l (q+Z5 a) (fun x hx=>hl x (List.mem_cons_of_mem _ hx)) (hr.mono (by omega))
  rw [e,e2,h2]
  have e3:q+Z5 a+Wx l=q+Wx (a :: l):=by rw [Wx,Wx,List.map_cons,List.sum_cons,Rat.add_assoc]
  rw [e3] at h3 ⊢
  exact ⟨rfl,by omega⟩
theorem Zo6 {N:Nat} {l:List QV} (hl:∀ a ∈ l,Wy a) (hr:Xh N (4 * (Xz l+4))):Zdz N l=some (Zs (Wx l))∧qs (Wx l)≤Xz l+1:=by
 have hr':=hr
 obtain ⟨r1,r2⟩:=hr'
 obtain ⟨h1,h2⟩:=Ztr (N:=N) l 0 hl (hr.mono (by rw [Zp2];omega))
 rw [Rat.zero_add] at h1 h2
 rw [Zp2] at h2
 have e:Zs 0=((false,[]),[1]):=by
  rw [Zs,Xr]
  simp only [Rat.zero_num,Rat.zero_den,Int.natAbs_zero,W2,Sg]
  rfl
 rw [e] at h1
 refine ⟨?_,by omega⟩
 rw [Zdz,Zkw (by decide) (by omega),oB,← h1]
 rw [show (1:Int).toNat=1 from rfl,Sg]
def Bd (D M:Nat) (q:Rat):Prop:=∃ z:Int,q=mkRat z D∧z.natAbs≤M * D
theorem Bd.qs {D M:Nat} {q:Rat} (h:Bd D M q) (hD:D≠0) (hM:1≤M):qs q≤(Ze (M * D)).length:=by
 obtain ⟨z,rfl,hz⟩:=h
 have h1:D≤M * D:=Nat.le_mul_of_pos_left D hM
 exact Zni (W6 hz) (W6 h1) (Tu (by omega))
theorem Bd.up {D M K:Nat} {q:Rat} (h:Bd D M q) (hK:M≤K):Bd D K q:=by
 obtain ⟨z,e,hz⟩:=h
 exact ⟨z,e,Nat.le_trans hz (Nat.mul_le_mul_right D hK)⟩
theorem Bd.lift {D M:Nat} (E:Nat) {q:Rat} (h:Bd D M q) (hD:D≠0) (hE:E≠0):Bd (D * E) M q:=by
 obtain ⟨z,rfl,hz⟩:=h
 refine ⟨z * E,?_,?_⟩
 ·rw [Zu6 hD (Nat.mul_ne_zero hD hE),Int.natCast_mul,Int.mul_assoc,Int.mul_comm (E:Int)]
 ·rw [Int.natAbs_mul,Int.natAbs_natCast,← Nat.mul_assoc]
  exact Nat.mul_le_mul_right E hz
theorem Z4x (a b:Int) {D:Nat} (hD:D≠0):mkRat a D+mkRat b D=mkRat (a+b) D:=by
 rw [Rat.mkRat_add_mkRat _ _ hD hD,← Int.add_mul,Zu6 (Nat.mul_ne_zero hD hD) hD,Int.natCast_mul,Int.mul_assoc]
theorem Bd.add {D M K:Nat} {a b:Rat} (ha:Bd D M a) (hb:Bd D K b) (hD:D≠0):Bd D (M+K) (a+b):=by
 obtain ⟨x,rfl,hx⟩:=ha
 obtain ⟨y,rfl,hy⟩:=hb
 refine ⟨x+y,Z4x x y hD,Nat.le_trans (Int.natAbs_add_le _ _) ?_⟩
 rw [Nat.add_mul];omega
theorem Bd.mul {D E M K:Nat} {a b:Rat} (ha:Bd D M a) (hb:Bd E K b):Bd (D * E) (M * K) (a * b):=by
 obtain ⟨x,rfl,hx⟩:=ha
 obtain ⟨y,rfl,hy⟩:=hb
 refine ⟨x * y,Rat.mkRat_mul_mkRat _ _ _ _,?_⟩
 rw [Int.natAbs_mul,Nat.mul_mul_mul_comm M K D E]
 exact Nat.mul_le_mul hx hy
theorem Bd.zero (D M:Nat):Bd D M 0:=⟨0,by rw [Rat.zero_mkRat],by simp⟩
theorem Bd.one:Bd 1 1 1:=⟨1,rfl,by simp⟩
def Ts:List QV→Nat
 | []=>1
 | x :: t=>Xw x.2 * Ts t
theorem Zl1:∀ t:List QV,Ts t≠0
 | []=>by simp [Ts]
 | x :: t=>Nat.mul_ne_zero (Uk x.2) (Zl1 t)
theorem Zsx:∀ (t:List QV),(∀ x ∈ t,Wy x)→(Ze (Ts t)).length≤Xz t+1
 | [],_=>by rw [Ts,Sg];simp
 | x :: t,h=>by
  have hx:=h x List.mem_cons_self
  have h1:=Ut (Zby hx.1 hx.2)
  have h2:=Zsx t fun y hy=>h y (List.mem_cons_of_mem _ hy)
  have h3:=Uu (Xw x.2) (Ts t)
  rw [Ts,Xz];omega
theorem Zz0 {x:QV} (h:0≤Z5 x) (g:Z5 x≤1):Bd (Xw x.2) 1 (Z5 x):=by
 refine ⟨Zt x.1,rfl,?_⟩
 have hd:=Uk x.2
 have h1:¬ Zt x.1<0:=fun hn=>by
  have:Z5 x<0:=by
   rw [Z5,show (0:Rat)=mkRat 0 1 from rfl,Zm7 hd (by decide)];omega
  exact absurd h (Rat.not_le.2 this)
 have h2:¬ (Xw x.2:Int)<Zt x.1:=fun hn=>by
  have:1<Z5 x:=by
   rw [Z5,show (1:Rat)=mkRat 1 1 from rfl,Zm7 (by decide) hd];omega
  exact absurd g (Rat.not_le.2 this)
 omega
def Zcb (kk_L2:(Option Int)):List Int→Rc→Option Int
  | [],aa=>kk_L2
  | ab :: ac,aa=>if (decide (0<((Wq aa ab).getD 0)))=true then (some 40) else ((some (Su aa ab 1)).bind fun ad=>(Zcb kk_L2 ac) ad)
termination_by structural x=>x
def Q8:List R2→Option Int
  | []=>some 0
  | aa :: ab=>Zcb (Q8 ab) aa ([]:List R5)
termination_by structural x=>x
def Zgo (kk_L4:(Option Int)) (aa:Bool):Option Int:=
  if aa=true then (some 3) else kk_L4
def Q9 (aa:Rd) (kk_L1:(Option Int)):List Int→Option Int
  | []=>kk_L1
  | ab :: ac=>if (decide (ab<0))=true then (Zgo (Q9 aa kk_L1 ac) true) else (Zgo (Q9 aa kk_L1 ac) (decide ((aa.length:Int)≤ab)))
termination_by structural x=>x
def Q7 (aa:Rd):List R2→Option Int
  | []=>Q8 aa
  | ab :: ac=>Q9 aa (Q7 aa ac) ab
termination_by structural x=>x
def Zgn (aa:Rd):Option Int:=
  Q7 aa aa
theorem Zz6 {a6:Nat} {a0:Option Addr} {col:Zd} {w0:World} {ab:Rd} {r:Int} (hm:Zgn ab=some r) (h0:Sl (Za.slice (Za.int .i64)) col w0 a0 a6 ab):
    Calls prog 201 #[.slice a0 ab.length a6] w0 (fun e w'=>e= .returned ((.int .i64 r))∧Below w0.heap.size w0 w'):=by
 refine Xc 2 (m:=57) func201 rfl rfl rfl rfl rfl ?_;rw [Zgn.eq_1] at hm;have aa:=St.start col w0;refine go ?_;refine Zw [0,12,13,1000000] (fun n f a7=>∃ a8 ag ah,n=ah.length∧ab.drop ag=ah∧Q7 ab ah=some r∧St w0 (Zh col) a8 a7∧[14].map f=[.int .i64 ag]) ab.length ⟨_,0,_,rfl,rfl,hm,aa,rfl⟩ ?_;clear hm;intro n f a7 hI;obtain ⟨a8,ag,ah,hn,hl,hm,aa,hs⟩:=hI;subst hn;refine .lL [14] hs ?_;replace h0:=h0.keep (Zf.start col w0)
 cases ah with
 | nil=>
  have hk:¬ ((ag:Int)<(ab.length:Int)):=by have:=List.drop_eq_nil_iff.1 hl;omega
  have hkb:=decide_eq_false hk;rw [Q7.eq_1] at hm;refine go ?_;refine Yf (congrArg Value.bool hkb)<|go ?_;refine Zw [34,35,1000000] (fun n f a9=>∃ au ai aj,n=aj.length∧ab.drop ai=aj∧Q8 aj=some r∧St w0 (Zh col) au a9∧[36].map f=[.int .i64 ai]) ab.length ⟨_,0,_,rfl,rfl,hm,aa,rfl⟩ ?_;clear hm;intro n f a9 hI;obtain ⟨au,ai,aj,hn,hl,hm,aa,hs⟩:=hI;subst hn;refine .lL [36] hs ?_
  cases aj with
  | nil=>
   have hk:¬ ((ai:Int)<(ab.length:Int)):=by have:=List.drop_eq_nil_iff.1 hl;omega
   have hkb:=decide_eq_false hk;rw [Q8.eq_1] at hm;refine go ?_;refine Yf (congrArg Value.bool hkb)<|go ?_;cases hm;exact ⟨rfl,rfl,aa.below⟩
  | cons ak ba=>
   obtain ⟨ac,bi,bj⟩:=Yw hl;have hk:(ai:Int)<(ab.length:Int):=by omega
   have hkb:=decide_eq_true hk;rw [Q8.eq_2] at hm;refine go ?_;refine Yg (congrArg Value.bool hkb)<|go ?_;refine lI ac ((h0.ks aa).addr ac) ?_;obtain ⟨_,bk,bm⟩:=(h0.ks aa).atN ac;obtain ⟨⟨bn,bo,rfl,ad⟩,_⟩:=bk;refine lW bm.one<|go ?_;refine Z4e (col:=au) (fk:=(Value.int .i64)) (fv:=(Value.int .i64)) 1 rfl underlying243 rfl ?_;intro b3 b4 b5 bb bp;refine go ?_;replace ad:=ad.gr bb;replace aa:=aa.grow bb;refine Zw [34,35,36,43,44,1000000] (fun n f aq=>∃ ar al av am an,n=an.length∧ak.drop al=an∧Zcb (Q8 ba) an am=some r∧St w0 (Zh col) ar aq∧Sl (Za.int .i64) ar aq bn bo ak∧Vh (Value.int .i64) (Value.int .i64) 1 ar aq av am∧[45,9].map f=[.int .i64 al,.map (some av)]) ak.length ⟨_,0,_,_,_,rfl,rfl,hm,aa,ad,bp,rfl⟩ ?_;clear hm;intro n f aq hI;obtain ⟨ar,al,av,am,an,hn,hl,hm,aa,ad,bc,hs⟩:=hI;subst hn;refine .lL [45,9] hs ?_
   cases an with
   | nil=>
    have hk:¬ ((al:Int)<(ak.length:Int)):=by have:=List.drop_eq_nil_iff.1 hl;omega
    have hkb:=decide_eq_false hk;rw [Zcb.eq_1] at hm;refine go ?_;refine Yf (congrArg Value.bool hkb)<|go ?_;exact ⟨ba.length,by simp,rfl,⟨_,_,_,rfl,bi,hm,aa,(Y1 (congrArg (Value.int .i64) (Yy (Nat.lt_of_lt_of_le bj (h0.ks aa).1.1))) rfl)⟩⟩
   | cons aw bq=>
    obtain ⟨ac,br,bs⟩:=Yw hl;have hk:(al:Int)<(ak.length:Int):=by omega
    have hkb:=decide_eq_true hk;rw [Zcb.eq_2] at hm;refine go ?_;refine Yg (congrArg Value.bool hkb)<|go ?_;refine lI ac (ad.addr ac)<|lW (ad.atInt ac) ?_;refine go ?_;refine lV (.int .i64 ((Wq am aw).getD 0)) (Zw0 T7.int bc underlying243 underlying3 zeroValue3 rfl rfl)<|go ?_;refine Zo hm (fun hb hm=>go ?_) fun hb hm=>go ?_
    ·cases hm;exact ⟨rfl,rfl,aa.below⟩
    obtain ⟨bt,ax,hm⟩:=bZ hm;have ax:bt=Su am aw 1:=(Option.some.inj ax).symm;refine Zt8 (k:=aw) (v:=1) T7.int bc underlying243 underlying3 rfl rfl rfl ?_;intro b6 bd bu be;rw [← ax] at be;refine go ?_;replace ad:=ad.kp bd;replace aa:=aa.kp bd bu;exact ⟨bq.length,by simp,rfl,⟨_,_,_,_,_,rfl,br,hm,aa,ad,be,(Y1 (congrArg (Value.int .i64) (Yy (Nat.lt_of_lt_of_le bs ad.1.1))) rfl)⟩⟩
 | cons af ay=>
  obtain ⟨ac,bv,bw⟩:=Yw hl;have hk:(ag:Int)<(ab.length:Int):=by omega
  have hkb:=decide_eq_true hk;rw [Q7.eq_2] at hm;refine go ?_;refine Yg (congrArg Value.bool hkb)<|go ?_;refine lI ac ((h0.ks aa).addr ac) ?_;obtain ⟨_,bx,bz⟩:=(h0.ks aa).atN ac;obtain ⟨⟨bf,bg,rfl,ae⟩,_⟩:=bx;refine lW bz.one<|go ?_;refine Zw [0,12,13,14,18,19,1000000] (fun n f az=>∃ a1 ao ap,n=ap.length∧af.drop ao=ap∧Q9 ab (Q7 ab ay) ap=some r∧St w0 (Zh col) a1 az∧Sl (Za.int .i64) a1 az bf bg af∧[20].map f=[.int .i64 ao]) af.length ⟨_,0,_,rfl,rfl,hm,aa,ae,rfl⟩ ?_;clear hm;intro n f az hI;obtain ⟨a1,ao,ap,hn,hl,hm,aa,ae,hs⟩:=hI;subst hn;refine .lL [20] hs ?_
  cases ap with
  | nil=>
   have hk:¬ ((ao:Int)<(af.length:Int)):=by have:=List.drop_eq_nil_iff.1 hl;omega
   have hkb:=decide_eq_false hk;rw [Q9.eq_1] at hm;refine go ?_;refine Yf (congrArg Value.bool hkb)<|go ?_;exact ⟨ay.length,by simp,rfl,⟨_,_,_,rfl,bv,hm,aa,(Y1 (congrArg (Value.int .i64) (Yy (Nat.lt_of_lt_of_le bw (h0.ks aa).1.1))) rfl)⟩⟩
  | cons b0 bh=>
   obtain ⟨ac,b1,b2⟩:=Yw hl;have hk:(ao:Int)<(af.length:Int):=by omega
   have hkb:=decide_eq_true hk;rw [Q9.eq_2] at hm;refine go ?_;refine Yg (congrArg Value.bool hkb)<|go ?_;refine lI ac (ae.addr ac)<|lW (ae.atInt ac)<|Y8 rfl<|Zk<|Z0 ?_;refine Wp.cutK [0,12,13,14,18,19,20,1000000] (fun f a2=>∃ a3 a4,Zgo (Q9 ab (Q7 ab ay) bh) a4=some r∧St w0 (Zh col) a3 a2∧Sl (Za.int .i64) a3 a2 bf bg af∧[31].map f=[.bool a4]) ?_ ?_
   ·intro f a2 hJ;obtain ⟨a3,a4,hm,aa,ae,hs⟩:=hJ;rw [Zgo.eq_1] at hm;refine .lL [31] hs ?_;refine Zo hm (fun hb hm=>go ?_) fun hb hm=>go ?_
    ·cases hm;exact ⟨rfl,rfl,aa.below⟩
    exact ⟨bh.length,by simp,rfl,⟨_,_,_,rfl,b1,hm,aa,ae,(Y1 (congrArg (Value.int .i64) (Yy (Nat.lt_of_lt_of_le b2 ae.1.1))) rfl)⟩⟩
   refine go ?_;refine Xt hm (fun a5 hm=>go ?_) fun a5 hm=>go ?_
   ·refine lV (.bool true) (Xb (congrArg Value.bool a5) rfl)<|Zk ?_;exact ⟨rfl,_,_,hm,aa,ae,rfl⟩
   refine lV (.bool (decide ((ab.length:Int)≤b0))) (Xm (congrArg Value.bool a5) rfl)<|Zk ?_;exact ⟨rfl,_,_,hm,aa,ae,rfl⟩
theorem Z3a:Wf prog 3 1 8:=⟨Tryz.t3,_,rfl,rfl,rfl,rfl,rfl⟩
def Zca (aa:Nat) (kk_L1:(Nat→Rd→Option Rd)):List Int→Rd→Option Rd
  | [],ab=>kk_L1 (aa+1) ab
  | ad :: ae,ab=>(Zj ab ad).bind fun ac=>Zv ((ac.length+[(aa:Int)].length) * 8≤140737488355328∧ac.length+[(aa:Int)].length≤maxLen) ((Zca aa kk_L1 ae) (ab.set (Int.toNat ad) (ac++[(aa:Int)])))
termination_by structural x=>x
def Q6:List R2→Nat→Rd→Option Rd
  | [],ab,aa=>some aa
  | ac :: ad,ab,aa=>Zca ab (Q6 ad) ac aa
termination_by structural x=>x
def Zgm (aa:Rd):Option Rd:=
  Zv (aa.length * 24≤281474976710656∧aa.length≤maxLen) (Q6 aa 0 (List.replicate aa.length (([]:List Int):List Int)))
theorem Zz5 {a7:Nat} {a0:Option Addr} {col:Zd} {w0:World} {ae r:Rd} (c1:Nat) (hm:Zgm ae=some r) (h0:Sl (Za.slice (Za.int .i64)) col w0 a0 a7 ae):
    Calls prog 203 #[.slice a0 ae.length a7] w0 (fun e w'=>∃ (col':Zd) (ra1:Option Addr) (rc2:Nat),e= .returned ((.slice ra1 r.length rc2))∧Zg col w0 col' w'∧Zc (Za.row 3 (Za.int .i64)) 40 c1 col' w' ra1 rc2 r):=by
 refine Xc 2 (m:=37) func203 rfl rfl rfl rfl rfl ?_;rw [Zgm.eq_1] at hm;have aa:=St.start col w0;refine go ?_;obtain ⟨a8,hm⟩:=Zx hm;refine Sf (col:=(Zh col)) (w:=w0) (r:=(Za.row 3 (Za.int .i64))) (n:=ae.length) (x0:=([]:List Int)) 1 rfl underlying24 Tryz.t40 rfl rfl rfl rfl rfl rfl rfl a8.1 a8.2 Z6a ?_;intro b4 b5 b6 bg bh;refine go ?_;replace aa:=aa.grow bg;refine Zw [11,12,1000000] (fun n f aw=>∃ ax ab ay az ap aj,n=aj.length∧ae.drop ab=aj∧Q6 aj ab ap=some r∧St w0 (Zh col) ax aw∧Zc (Za.row 3 (Za.int .i64)) 40 1 ax aw ay az ap∧[13,3].map f=[.int .i64 ab,.slice ay ap.length az]) ae.length ⟨_,0,_,_,_,_,rfl,rfl,hm,aa,bh,rfl⟩ ?_;clear hm;intro n f aw hI;obtain ⟨ax,ab,ay,az,ap,aj,hn,hl,hm,aa,a9,hs⟩:=hI;subst hn;refine .lL [13,3] hs ?_;replace h0:=h0.keep (Zf.start col w0)
 cases aj with
 | nil=>
  have hk:¬ ((ab:Int)<(ae.length:Int)):=by have:=List.drop_eq_nil_iff.1 hl;omega
  have hkb:=decide_eq_false hk;rw [Q6.eq_1] at hm;refine go ?_;refine Yf (congrArg Value.bool hkb)<|go ?_;cases hm;exact ⟨rfl,_,_,_,rfl,aa.fin (cm [(1,c1)]),aa.fo a9⟩
 | cons ak ba=>
  obtain ⟨af,bi,bj⟩:=Yw hl;have hk:(ab:Int)<(ae.length:Int):=by omega
  have hkb:=decide_eq_true hk;rw [Q6.eq_2] at hm;refine go ?_;refine Yg (congrArg Value.bool hkb)<|go ?_;refine lI af ((h0.ks aa).addr af) ?_;obtain ⟨_,bk,bm⟩:=(h0.ks aa).atN af;obtain ⟨⟨bn,bo,rfl,ac⟩,_⟩:=bk;refine lW bm.one<|go ?_;refine Zw [11,12,13,18,19,4,1000000] (fun n f al=>∃ aq am ag ah ad an,n=an.length∧ak.drop am=an∧Zca ab (Q6 ba) an ad=some r∧St w0 (Zh col) aq al∧Sl (Za.int .i64) aq al bn bo ak∧Zc (Za.row 3 (Za.int .i64)) 40 1 aq al ag ah ad∧[20,3].map f=[.int .i64 am,.slice ag ad.length ah]) ak.length ⟨_,0,_,_,_,_,rfl,rfl,hm,aa,ac,a9,rfl⟩ ?_;clear hm;intro n f al hI;obtain ⟨aq,am,ag,ah,ad,an,hn,hl,hm,aa,ac,a1,hs⟩:=hI;subst hn;refine .lL [20,3] hs ?_
  cases an with
  | nil=>
   have hk:¬ ((am:Int)<(ak.length:Int)):=by have:=List.drop_eq_nil_iff.1 hl;omega
   have hkb:=decide_eq_false hk;rw [Zca.eq_1] at hm;refine go ?_;refine Yf (congrArg Value.bool hkb)<|go ?_;exact ⟨ba.length,by simp,rfl,⟨_,_,_,_,_,_,rfl,bi,hm,aa,a1,(Y1 (congrArg (Value.int .i64) (Yy (Nat.lt_of_lt_of_le bj (h0.ks aa).1.1))) rfl)⟩⟩
  | cons ar bp=>
   obtain ⟨af,bq,br⟩:=Yw hl;have hk:(am:Int)<(ak.length:Int):=by omega
   have hkb:=decide_eq_true hk;rw [Zca.eq_2] at hm;refine go ?_;refine Yg (congrArg Value.bool hkb)<|go ?_;refine lI af (ac.addr af)<|lW (ac.atInt af) ?_;refine go ?_;obtain ⟨ao,au,hm⟩:=bZ hm;refine lI au (a1.addr au) ?_;obtain ⟨_,bb,bc,ai,bs⟩:=a1.open_ 2 (by decide) au;obtain ⟨bt,bu,rfl,a2⟩:=bs.row;replace ai:Yl (Za.row 3 (Za.int .i64)) 40 1 bb al ag ah ad (Int.toNat ar) [.slice bt ao.length bu]:=ai;refine lW ai.atN.one<|Xo rfl<|W1 (col:=bb) [(ab:Int)] 3 ?_;intro b7 bv bw av bx;obtain ⟨bd,hm⟩:=Zx hm;replace a2:=a2.gr av;refine Qf (col:=bw) (w:=bv) (r:=(Za.int .i64)) (c:=2) (c2:=2) (a2.ex) (bx.srcN (NB.int (k:=.i64))) rfl underlying40 Z3a rfl rfl rfl bd.1 bd.2 (by decide) ?_;intro be bf b8 bz a3 a4;replace ai:=(ai.gr av).kpp a3;refine lI au (ai.addr)<|Z4f (v:=(.slice be ((ao++[(ab:Int)]).length) bf)) ai rfl sizeOf40 rfl (by intro u hu;simp only [Value.cells,List.mem_cons,List.not_mem_nil,or_false] at hu;subst hu;rfl) rfl rfl (by decide) ?_;intro b0 a5 b1 a6;replace a6:Yl (Za.row 3 (Za.int .i64)) 40 1 bz b0 ag ah ad (Int.toNat ar) [.slice be ((ao++[(ab:Int)]).length) bf]:=a6;replace a4:=a4.kp a5;have b2:=a4.new;have b3:=a6.close b2.has (by decide) (by decide);replace ac:=(((ac.kpp bc).gr av).kpp a3).kp a5;replace ac:=ac.recol 2 1 (by decide);replace aa:=(((aa.kpp bc).grow av).kpp a3).kp a5 b1;replace aa:=aa.recol 2 1 (by decide) (by decide);refine .ld (d:=3) (v:=(.slice ag ((ad.set (Int.toNat ar) (ao++[(ab:Int)])).length) ah)) (congrArg (fun n=>Value.slice ag n ah) (show ad.length=(ad.set (Int.toNat ar) (ao++[(ab:Int)])).length by simp only [nS])) ?_;refine go ?_;exact ⟨bp.length,by simp,rfl,⟨_,_,_,_,_,_,rfl,bq,hm,aa,ac,b3,(Y1 (congrArg (Value.int .i64) (Yy (Nat.lt_of_lt_of_le br ac.1.1))) rfl)⟩⟩
def Zcc (aa:Int) (kk_L2:(Int→Int→Option Ra)) (ab:Int):Option Ra:=
  kk_L2 (i64.wrap (aa+1)) ab
def Zgp (aa:Int) (ab:Int) (kk_L2:(Int→Int→Option Ra)) (ac:Int) (ad:Bool):Option Ra:=
  if ad=true then (Zcc aa kk_L2 ac) else (Zcc aa kk_L2 ab)
def Si (N:Nat) (ad:List Int) (ag:Int) (aa:List Int) (ac:Int) (kk_L1:(List Int→Int→Option Ra)):Nat→Int→Int→Option Ra
  | 0,_,_=>none
  | ah+1,ae,ab=>if (decide (ae<2))=true then ((Zj [i64.wrap ((i64.wrap (2 * ac))+1),i64.wrap ((i64.wrap (2 * ac))+2)] ae).bind fun af=>if (decide (af<(i64.wrap ((ad.length:Int) - 1))))=true then ((Zj aa af).bind fun aj=>(Zj aa ab).bind fun ak=>Zgp ae ab (Si N ad ag aa ac kk_L1 ah) af (decide (aj<ak))) else (Zgp ae ab (Si N ad ag aa ac kk_L1 ah) af false)) else (if (decide (ab=ac))=true then (some (ag,aa.take (Int.toNat (i64.wrap ((ad.length:Int) - 1))))) else ((Zj aa ab).bind fun al=>(Zj aa ac).bind fun am=>(some (aa.set (Int.toNat ac) al)).bind fun ai=>(Zj ai ab).bind fun ao=>(some (ai.set (Int.toNat ab) am)).bind fun an=>kk_L1 an ab))
termination_by structural x=>x
def Sh (N:Nat) (aa:List Int) (ab:Int):Nat→R2→Int→Option Ra
  | 0,_,_=>none
  | ad+1,ae,ac=>Si N aa ab ae ac (Sh N aa ab ad) N 0 ac
termination_by structural x=>x
def Zjk (N:Nat) (aa:List Int):Option Ra:=
  (Zj aa 0).bind fun ac=>(Zj aa (i64.wrap ((aa.length:Int) - 1))).bind fun ad=>(some (aa.set (Int.toNat 0) ad)).bind fun ab=>Zv ((0:Int)≤(i64.wrap ((aa.length:Int) - 1))∧(i64.wrap ((aa.length:Int) - 1))≤(ab.length:Int)) (Sh N aa ac N ab 0)
theorem Zz7 {N g0 al:Nat} {am:Option Addr} {col:Zd} {w0:World} {aa:R2} {r:Ra} (qc0 ai:Nat) (hm:Zjk N aa=some r) (hd:Qb [qc0,ai]=true) (ap:Zc (Za.int .i64) 3 ai col w0 am al aa) (hb0:Zm 244 qc0 col w0 g0 #[.slice am aa.length al]):
    Calls prog 267 #[.pointer (some ⟨g0,0,none⟩)] w0 (fun e w'=>∃ (col':Zd) (oa1:Option Addr) (oc2:Nat),e= .returned ((.int .i64 r.1))∧Z1 (pS [qc0,ai]) col w0 col' w'∧Zc (Za.int .i64) 3 ai col' w' oa1 oc2 r.2∧Zm 244 qc0 col' w' g0 #[.slice oa1 r.2.length oc2]):=by
 refine Xc 2 (m:=76) func267 rfl rfl rfl rfl rfl ?_;rw [Zjk.eq_1] at hm;have ac:=St.startL (l:=[qc0,ai]) rfl col w0;replace hb0:=hb0.startL (Zaz hd 0 rfl) (Zay hd 0 rfl);replace ap:=ap.startL (Zaz hd 1 rfl) (Zay hd 1 rfl);refine go ?_;refine lV (.pointer (some ⟨g0,0,none⟩)) (Qz rfl)<|lW hb0.at1<|go ?_;obtain ⟨au,av,hm⟩:=bZ hm;refine lI av (ap.addr av)<|lW (ap.atInt av) ?_;refine go ?_;obtain ⟨bm,be,hm⟩:=bZ hm;refine lI be (ap.addr be)<|lW (ap.atInt be)<|lI av (ap.addr av) ?_;obtain ⟨an,ay,hm⟩:=bZ hm;have ay:an=aa.set (Int.toNat 0) bm:=(Option.some.inj ay).symm;refine Wb (x1:=bm) ap av ?_;intro bu bn bv az;rw [← ay] at az;refine .ld (d:=3) (v:=(.slice am an.length al)) (congrArg (fun n=>Value.slice am n al) (show aa.length=an.length by rw [ay,nS])) ?_;replace hb0:=hb0.kp bn;replace hb0:Zm 244 440 (Xu [qc0,ai] col) bu g0 #[.slice am an.length al]:=by rw [← (show aa.length=an.length by rw [ay,nS])];exact hb0
 refine go ?_;obtain ⟨bf,hm⟩:=Zx hm;refine lv (v:=.slice am (Int.toNat (i64.wrap ((aa.length:Int) - 1))) al) rfl rfl (V5 underlying244 sizeOf3 rfl rfl bf.1 (by have:=az.lecap;have:=bf.2;omega))<|.ld (d:=28) (v:=(.slice am ((an.take (Int.toNat (i64.wrap ((aa.length:Int) - 1)))).length) al)) (congrArg (fun n=>Value.slice am n al) (List.length_take_of_le (show (Int.toNat (i64.wrap ((aa.length:Int) - 1)))≤an.length by have:=bf.2;omega)).symm) ?_;refine lV (.pointer (some ⟨g0,0,none⟩)) (Qz rfl)<|Q5 (v:=(.slice am ((an.take (Int.toNat (i64.wrap ((aa.length:Int) - 1)))).length) al)) hb0 sizeOf244 rfl rfl (by intro u hu;simp only [Value.cells,List.mem_cons,List.not_mem_nil,or_false] at hu;subst hu;rfl) rfl rfl ?_;intro bw bo bx ab;replace ab:Zm 244 440 (Xu [qc0,ai] col) bw g0 #[(.slice am ((an.take (Int.toNat (i64.wrap ((aa.length:Int) - 1)))).length) al)]:=ab;refine go ?_;replace ac:=(ac.kp bn bv).kp bo bx;replace az:=az.kp bo;refine Zw [4,5,1000000] (fun n f a4=>∃ a5 af ag ah ak ao,ao=n∧Sh N aa au ao ah ak=some r∧St w0 (Xu [qc0,ai] col) a5 a4∧Zc (Za.int .i64) 3 441 a5 a4 af ag ah∧Zm 244 440 a5 a4 g0 #[(.slice af ((ah.take (Int.toNat (i64.wrap ((aa.length:Int) - 1)))).length) ag)]∧[3,6].map f=[.slice af ah.length ag,.int .i64 ak]) N ⟨_,_,_,_,0,_,rfl,hm,ac,az,ab,rfl⟩ ?_;clear hm;intro n f a4 hI;obtain ⟨a5,af,ag,ah,ak,ao,hn,hm,ac,ad,ab,hs⟩:=hI;subst hn;refine .lL [3,6] hs ?_
 cases ao with
 | zero=>rw [Sh.eq_1] at hm;cases hm
 | succ ao=>
  rw [Sh.eq_2] at hm;refine go ?_;refine lV (.agg #[(.int .i64 (i64.wrap ((i64.wrap (2 * ak))+1))),(.int .i64 (i64.wrap ((i64.wrap (2 * ak))+2)))]) (Z5m underlying261 sizeOf3 zeroValue261 rfl)<|go ?_;refine Zw [3,37,4,5,6,1000000] (fun n f a6=>∃ ae a0 a1 aq,aq=n∧Si N aa au ah ak (Sh N aa au ao) aq a0 a1=some r∧St w0 (Xu [qc0,ai] col) ae a6∧Zc (Za.int .i64) 3 441 ae a6 af ag ah∧Zm 244 440 ae a6 g0 #[(.slice af ((ah.take (Int.toNat (i64.wrap ((aa.length:Int) - 1)))).length) ag)]∧[38,7].map f=[.int .i64 a0,.int .i64 a1]) N ⟨_,0,_,_,rfl,hm,ac,ad,ab,rfl⟩ ?_;clear hm;intro n f a6 hI;obtain ⟨ae,a0,a1,aq,hn,hm,ac,ad,ab,hs⟩:=hI;subst hn;refine .lL [38,7] hs ?_
  cases aq with
  | zero=>rw [Si.eq_1] at hm;cases hm
  | succ aq=>
   rw [Si.eq_2] at hm;refine go ?_;refine Zo hm (fun hb hm=>?_) fun hb hm=>go ?_
   ·refine X9<|Z0 ?_;refine Wp.cutK [3,37,38,4,5,6,1000000] (fun f a7=>∃ a8 bg,Zcc a0 (Si N aa au ah ak (Sh N aa au ao) aq) bg=some r∧St w0 (Xu [qc0,ai] col) a8 a7∧Zc (Za.int .i64) 3 441 a8 a7 af ag ah∧Zm 244 440 a8 a7 g0 #[(.slice af ((ah.take (Int.toNat (i64.wrap ((aa.length:Int) - 1)))).length) ag)]∧[7].map f=[.int .i64 bg]) ?_ ?_
    ·intro f a7 hJ;obtain ⟨a8,bg,hm,ac,ad,ab,hs⟩:=hJ;rw [Zcc.eq_1] at hm;refine .lL [7] hs<|go ?_;exact ⟨aq,by omega,rfl,⟨_,_,_,_,rfl,hm,ac,ad,ab,rfl⟩⟩
    refine go ?_;obtain ⟨bp,bz,hm⟩:=bZ hm;refine lV (.int .i64 bp) (Z5r (l:=[i64.wrap ((i64.wrap (2 * ak))+1),i64.wrap ((i64.wrap (2 * ak))+2)]) (k:=.i64) underlying261 sizeOf3 isAgg3 rfl rfl rfl bz)<|Y8 rfl<|Zk<|Z0 ?_;refine Wp.cutK [3,37,38,4,5,6,7,9,1000000] (fun f a9=>∃ ba bh,Zgp a0 a1 (Si N aa au ah ak (Sh N aa au ao) aq) bp bh=some r∧St w0 (Xu [qc0,ai] col) ba a9∧Zc (Za.int .i64) 3 441 ba a9 af ag ah∧Zm 244 440 ba a9 g0 #[(.slice af ((ah.take (Int.toNat (i64.wrap ((aa.length:Int) - 1)))).length) ag)]∧[54].map f=[.bool bh]) ?_ ?_
    ·intro f a9 hJ;obtain ⟨ba,bh,hm,ac,ad,ab,hs⟩:=hJ;rw [Zgp.eq_1] at hm;refine .lL [54] hs ?_;refine Zo hm (fun hb hm=>go ?_) fun hb hm=>?_
     ·exact ⟨rfl,_,_,hm,ac,ad,ab,rfl⟩
     refine X9 ?_;exact ⟨rfl,_,_,hm,ac,ad,ab,rfl⟩
    refine Wd (col:=ae) (by kernel_rfl) (by kernel_rfl)<|go ?_;refine Xt hm (fun bi hm=>go ?_) fun bi hm=>go ?_
    ·obtain ⟨b0,bj,hm⟩:=bZ hm;refine qI bj (ad.addr bj) ?_;refine go ?_;refine qW (fun _ hC=>(ad.gr (hC.bl ae)).atInt bj) ?_;refine go ?_;obtain ⟨b1,bk,hm⟩:=bZ hm;refine qI bk (ad.addr bk) ?_;refine go ?_;refine qW (fun _ hC=>(ad.gr (hC.bl ae)).atInt bk) ?_;refine go ?_;refine qv (v:=(.bool (decide (b0<b1)))) rfl (fun _ hC=>Xb (congrArg Value.bool bi) rfl) ?_;refine X7 ?_;intro b6 hC;replace hC:=hC.bl ae;replace ad:=ad.gr hC;replace ab:=ab.gr hC;replace ac:=ac.grow hC;exact ⟨rfl,_,_,hm,ac,ad,ab,rfl⟩
    refine qv (v:=(.bool false)) rfl (fun _ hC=>Xm (congrArg Value.bool bi) rfl) ?_;refine X7 ?_;intro b7 hC;replace hC:=hC.bl ae;replace ad:=ad.gr hC;replace ab:=ab.gr hC;replace ac:=ac.grow hC;exact ⟨rfl,_,_,hm,ac,ad,ab,rfl⟩
   refine Zo hm (fun hb hm=>go ?_) fun hb hm=>go ?_
   ·cases hm;exact ⟨rfl,S9 w0.heap.size [qc0,ai] col ae (fun n=>bif Nat.beq n 441 then ai else bif Nat.beq n 440 then qc0 else 0),af,ag,rfl,ac.finL rfl (fun n=>bif Nat.beq n 441 then ai else bif Nat.beq n 440 then qc0 else 0),ac.finOwnL (g:=(fun n=>bif Nat.beq n 441 then ai else bif Nat.beq n 440 then qc0 else 0)) rfl (ad.take (Int.toNat (i64.wrap ((aa.length:Int) - 1)))) (by decide) (by decide) rfl,ac.finBoxL (g:=(fun n=>bif Nat.beq n 441 then ai else bif Nat.beq n 440 then qc0 else 0)) ab (by decide) (by decide) rfl⟩
   refine Wh (col:=ae) [(0,1),(1,1),(2,1),(3,1),(4,1),(5,1),(6,1),(7,0),(8,1),(9,1),(10,1),(11,0),(12,1),(13,2),(14,1),(15,2)] (by kernel_rfl) (by kernel_rfl)<|xu rfl rfl (fun _=>Vf rfl) ?_;refine xu rfl rfl (fun _=>Wj rfl) ?_;refine xu rfl rfl (fun _=>Vf rfl) ?_;refine xu rfl rfl (fun _=>Wj rfl) ?_;refine xu rfl rfl (fun _=>Vf rfl) ?_;refine xu rfl rfl (fun _=>Wj rfl) ?_;obtain ⟨bq,bb,hm⟩:=bZ hm;refine xu rfl rfl (fun _=>Wi underlying244 sizeOf3 rfl rfl (Xn bb).1 (Xn bb).2.1 (ad.addr bb)) ?_;refine xW (fun _ hC=>(ad.gr (hC.bl ae)).atInt bb) ?_;refine xu rfl rfl (fun _=>Vf rfl) ?_;refine xu rfl rfl (fun _=>Wj rfl) ?_;obtain ⟨br,ar,hm⟩:=bZ hm;refine xu rfl rfl (fun _=>Wi underlying244 sizeOf3 rfl rfl (Xn ar).1 (Xn ar).2.1 (ad.addr ar)) ?_;refine xW (fun _ hC=>(ad.gr (hC.bl ae)).atInt ar) ?_;refine xu rfl rfl (fun _=>Wi underlying244 sizeOf3 rfl rfl (Xn ar).1 (Xn ar).2.1 (ad.addr ar)) ?_;refine xe rfl rfl ?_;intro b8 hC0;have hC:=hC0.bl ae;obtain ⟨aj,aw,hm⟩:=bZ hm;have aw:aj=ah.set (Int.toNat ak) bq:=(Option.some.inj aw).symm;replace ad:=ad.gr hC;refine Wb (x1:=bq) ad ar ?_;intro b2 bs b3 a2;rw [← aw] at a2;refine .ld (d:=3) (v:=(.slice af aj.length ag)) (congrArg (fun n=>Value.slice af n ag) (show ah.length=aj.length by rw [aw,nS])) ?_;refine .ld (d:=63) (v:=(.slice af aj.length ag)) (congrArg (fun n=>Value.slice af n ag) (show ah.length=aj.length by rw [aw,nS])) ?_;replace ab:=(ab.gr hC).kp bs;replace ab:Zm 244 440 ae b2 g0 #[(.slice af ((aj.take (Int.toNat (i64.wrap ((aa.length:Int) - 1)))).length) ag)]:=by rw [← (show (ah.take (Int.toNat (i64.wrap ((aa.length:Int) - 1)))).length=(aj.take (Int.toNat (i64.wrap ((aa.length:Int) - 1)))).length by rw [nK,nK,(show ah.length=aj.length by rw [aw,nS])])];exact ab
   refine Zk<|xk ae ?_;obtain ⟨b9,bc,hm⟩:=bZ hm;refine xu rfl rfl (fun _=>Wi underlying244 sizeOf3 rfl rfl (Xn bc).1 (Xn bc).2.1 (a2.addr bc)) ?_;refine xe rfl rfl ?_;intro ca hC0;replace ac:=(ac.grow hC).kp bs b3;have hC:=hC0.bl ae;obtain ⟨ax,a3,hm⟩:=bZ hm;have a3:ax=aj.set (Int.toNat a1) br:=(Option.some.inj a3).symm;replace a2:=a2.gr hC;refine Wb (x1:=br) a2 bc ?_;intro b4 bt b5 bd;rw [← a3] at bd;refine .ld (d:=3) (v:=(.slice af ax.length ag)) (congrArg (fun n=>Value.slice af n ag) (show aj.length=ax.length by rw [a3,nS])) ?_;replace ab:=(ab.gr hC).kp bt;replace ab:Zm 244 440 ae b4 g0 #[(.slice af ((ax.take (Int.toNat (i64.wrap ((aa.length:Int) - 1)))).length) ag)]:=by rw [← (show (aj.take (Int.toNat (i64.wrap ((aa.length:Int) - 1)))).length=(ax.take (Int.toNat (i64.wrap ((aa.length:Int) - 1)))).length by rw [nK,nK,(show aj.length=ax.length by rw [a3,nS])])];exact ab
   refine Zk<|xk ae<|Y9 ?_;replace ac:=(ac.grow hC).kp bt b5;intro cb hC;replace hC:=hC.bl ae;refine go ?_;replace bd:=bd.gr hC;replace ab:=ab.gr hC;replace ac:=ac.grow hC;exact ⟨ao,by omega,rfl,⟨_,_,_,_,_,_,rfl,hm,ac,bd,ab,rfl⟩⟩
theorem Z3b:Wf prog 3 1 8:=⟨Tryz.t3,_,rfl,rfl,rfl,rfl,rfl⟩
def Zgr (ab:List Int) (aa:Int) (kk_L1:(List Int→Int→Option R2)) (ad:Bool):Option R2:=
  if ad=true then ((Zj ab (i64.wrap (Int.tdiv (i64.wrap (aa - 1)) 2))).bind fun ae=>(Zj ab aa).bind fun af=>(some (ab.set (Int.toNat aa) ae)).bind fun ac=>(Zj ac (i64.wrap (Int.tdiv (i64.wrap (aa - 1)) 2))).bind fun ah=>(some (ac.set (Int.toNat (i64.wrap (Int.tdiv (i64.wrap (aa - 1)) 2))) af)).bind fun ag=>kk_L1 ag (i64.wrap (Int.tdiv (i64.wrap (aa - 1)) 2))) else (some ab)
def Za2 (N:Nat):Nat→R2→Int→Option R2
  | 0,_,_=>none
  | ac+1,ab,aa=>if (decide (0<aa))=true then ((Zj ab aa).bind fun ad=>(Zj ab (i64.wrap (Int.tdiv (i64.wrap (aa - 1)) 2))).bind fun ae=>Zgr ab aa (Za2 N ac) (decide (ad<ae))) else (Zgr ab aa (Za2 N ac) false)
termination_by structural x=>x
def Zgq (N:Nat) (aa:List Int) (ab:Int):Option R2:=
  Zv ((aa.length+[ab].length) * 8≤140737488355328∧aa.length+[ab].length≤maxLen) (Za2 N N (aa++[ab]) (i64.wrap (((aa++[ab]).length:Int) - 1)))
theorem Zq4 {N g0 a7:Nat} {a8:Option Addr} {col:Zd} {w0:World} {ao:R2} {an:Int} {r:R2} (qc0 af:Nat) (hm:Zgq N ao an=some r) (hd:Qb [qc0,af]=true) (ap:Zc (Za.int .i64) 3 af col w0 a8 a7 ao) (hb0:Zm 244 qc0 col w0 g0 #[.slice a8 ao.length a7]):
    Calls prog 266 #[.pointer (some ⟨g0,0,none⟩),.int .i64 an] w0 (fun e w'=>∃ (col':Zd) (oa1:Option Addr) (oc2:Nat),e= .returned (.tuple #[])∧Z1 (pS [qc0,af]) col w0 col' w'∧Zc (Za.int .i64) 3 af col' w' oa1 oc2 r∧Zm 244 qc0 col' w' g0 #[.slice oa1 r.length oc2]):=by
 refine Zjd (m:=66) (args:=[.pointer (some ⟨g0,0,none⟩),.int .i64 an]) func266 rfl rfl rfl rfl ?_;rw [Zgq.eq_1] at hm;have ab:=St.startL (l:=[qc0,af]) rfl col w0;replace hb0:=hb0.startL (Zaz hd 0 rfl) (Zay hd 0 rfl);replace ap:=ap.startL (Zaz hd 1 rfl) (Zay hd 1 rfl);refine go ?_;refine lV (.pointer (some ⟨g0,0,none⟩)) (Qz rfl)<|lW hb0.at1<|Xo rfl<|W1 (col:=(Xu [qc0,af] col)) [an] 1 ?_;intro bw bi bj a0 bk;obtain ⟨a9,hm⟩:=Zx hm;replace ap:=ap.gr a0;refine Qf (col:=bj) (w:=bi) (r:=(Za.int .i64)) (c:=441) (c2:=441) (ap.ex) (bk.srcN (NB.int (k:=.i64))) rfl underlying244 Z3b rfl rfl rfl a9.1 a9.2 (by decide) ?_;intro ba bb bx bm bc a1;refine lV (.pointer (some ⟨g0,0,none⟩)) (Qz rfl) ?_;replace hb0:=(hb0.gr a0).kpp bc;refine Q5 (v:=(.slice ba ((ao++[an]).length) bb)) hb0 sizeOf244 rfl rfl (by intro u hu;simp only [Value.cells,List.mem_cons,List.not_mem_nil,or_false] at hu;subst hu;rfl) rfl rfl ?_;intro bn bd bo aa;replace aa:Zm 244 440 bm bn g0 #[.slice ba ((ao++[an]).length) bb]:=aa;replace a1:=a1.kp bd;have bp:=a1.new;refine go ?_;refine lV (.pointer (some ⟨g0,0,none⟩)) (Qz rfl)<|lW aa.at1<|go ?_;replace ab:=((ab.grow a0).kpp bc).kp bd bo;refine Zw [0,1000000] (fun n f au=>∃ ag ah ai aj ae al,al=n∧Za2 N al aj ae=some r∧St w0 (Xu [qc0,af] col) ag au∧Zc (Za.int .i64) 3 441 ag au ah ai aj∧Zm 244 440 ag au g0 #[.slice ah aj.length ai]∧[4].map f=[.int .i64 ae]) N ⟨_,_,_,_,_,_,rfl,hm,ab,bp,aa,rfl⟩ ?_;clear hm;intro n f au hI;obtain ⟨ag,ah,ai,aj,ae,al,hn,hm,ab,ac,aa,hs⟩:=hI;subst hn;refine .lL [4] hs ?_
 cases al with
 | zero=>rw [Za2.eq_1] at hm;cases hm
 | succ al=>
  rw [Za2.eq_2] at hm;refine Z0<|Z0 ?_;refine Wp.cutK [0,4,1000000] (fun f av=>∃ ad a2,Zgr aj ae (Za2 N al) a2=some r∧St w0 (Xu [qc0,af] col) ad av∧Zc (Za.int .i64) 3 441 ad av ah ai aj∧Zm 244 440 ad av g0 #[.slice ah aj.length ai]∧[36].map f=[.bool a2]) ?_ ?_
  ·intro f av hJ;obtain ⟨ad,a2,hm,ab,ac,aa,hs⟩:=hJ;rw [Zgr.eq_1] at hm;refine .lL [36] hs ?_;refine Zo hm (fun hb hm=>go ?_) fun hb hm=>go ?_
   ·refine Wh (col:=ad) [(0,1),(1,1),(2,0),(3,1),(4,1),(5,1),(6,0),(7,1),(8,1),(9,1),(10,1),(11,1),(12,0),(13,1),(14,1),(15,1),(16,1),(17,0),(18,1),(19,1),(20,0),(21,1),(22,1),(23,0),(24,1),(25,2),(26,1),(27,2)] (by kernel_rfl) (by kernel_rfl)<|xu rfl rfl (fun _=>Zno rfl) ?_;refine xu (v:=(.pointer (some ⟨g0,0,none⟩))) rfl rfl (fun _=>Qz rfl) ?_;refine xW (fun _ hC=>aa.at1.gr (hC.bl ad)) ?_;refine xu rfl rfl (fun _=>Wj rfl) ?_;refine xu rfl rfl (fun _=>Zno rfl) ?_;refine xu (v:=(.pointer (some ⟨g0,0,none⟩))) rfl rfl (fun _=>Qz rfl) ?_;refine xW (fun _ hC=>aa.at1.gr (hC.bl ad)) ?_;refine xu rfl rfl (fun _=>Wj rfl) ?_;refine xu rfl rfl (fun _=>Znq _ _ rfl rfl) ?_;refine xu (v:=(.int .i64 (i64.wrap (Int.tdiv (i64.wrap (ae - 1)) 2)))) rfl rfl (fun _=>Vw (i64.wrap (ae - 1)) 2 rfl rfl (by decide)) ?_;refine xu rfl rfl (fun _=>Zno rfl) ?_;refine xu (v:=(.pointer (some ⟨g0,0,none⟩))) rfl rfl (fun _=>Qz rfl) ?_;refine xW (fun _ hC=>aa.at1.gr (hC.bl ad)) ?_;refine xu rfl rfl (fun _=>Wj rfl) ?_;refine xu rfl rfl (fun _=>Znq _ _ rfl rfl) ?_;refine xu (v:=(.int .i64 (i64.wrap (Int.tdiv (i64.wrap (ae - 1)) 2)))) rfl rfl (fun _=>Vw (i64.wrap (ae - 1)) 2 rfl rfl (by decide)) ?_;obtain ⟨be,aw,hm⟩:=bZ hm;refine xu rfl rfl (fun _=>Wi underlying244 sizeOf3 rfl rfl (Xn aw).1 (Xn aw).2.1 (ac.addr aw)) ?_;refine xW (fun _ hC=>(ac.gr (hC.bl ad)).atInt aw) ?_;refine xu rfl rfl (fun _=>Zno rfl) ?_;refine xu (v:=(.pointer (some ⟨g0,0,none⟩))) rfl rfl (fun _=>Qz rfl) ?_;refine xW (fun _ hC=>aa.at1.gr (hC.bl ad)) ?_;refine xu rfl rfl (fun _=>Wj rfl) ?_;obtain ⟨bf,ak,hm⟩:=bZ hm;refine xu rfl rfl (fun _=>Wi underlying244 sizeOf3 rfl rfl (Xn ak).1 (Xn ak).2.1 (ac.addr ak)) ?_;refine xW (fun _ hC=>(ac.gr (hC.bl ad)).atInt ak) ?_;refine xu rfl rfl (fun _=>Wi underlying244 sizeOf3 rfl rfl (Xn ak).1 (Xn ak).2.1 (ac.addr ak)) ?_;refine xe rfl rfl ?_;intro bz hC0;have hC:=hC0.bl ad;obtain ⟨am,aq,hm⟩:=bZ hm;have aq:am=aj.set (Int.toNat ae) be:=(Option.some.inj aq).symm;replace ac:=ac.gr hC;refine Wb (x1:=be) ac ak ?_;intro bq bg br ar;rw [← aq] at ar;refine .ld (d:=46) (v:=(.slice ah am.length ai)) (congrArg (fun n=>Value.slice ah n ai) (show aj.length=am.length by rw [aq,nS])) ?_;replace aa:=(aa.gr hC).kp bg;replace aa:Zm 244 440 ad bq g0 #[.slice ah am.length ai]:=by rw [← (show aj.length=am.length by rw [aq,nS])];exact aa
    refine Zk<|xk ad ?_;obtain ⟨b0,ax,hm⟩:=bZ hm;refine xu rfl rfl (fun _=>Wi underlying244 sizeOf3 rfl rfl (Xn ax).1 (Xn ax).2.1 (ar.addr ax)) ?_;refine xe rfl rfl ?_;intro b1 hC0;replace ab:=(ab.grow hC).kp bg br;have hC:=hC0.bl ad;obtain ⟨a3,ay,hm⟩:=bZ hm;have ay:a3=am.set (Int.toNat (i64.wrap (Int.tdiv (i64.wrap (ae - 1)) 2))) bf:=(Option.some.inj ay).symm;replace ar:=ar.gr hC;refine Wb (x1:=bf) ar ax ?_;intro bs bh bt az;rw [← ay] at az;replace aa:=(aa.gr hC).kp bh;replace aa:Zm 244 440 ad bs g0 #[.slice ah a3.length ai]:=by rw [← (show am.length=a3.length by rw [ay,nS])];exact aa
    refine Zk<|xk ad<|Y9 ?_;replace ab:=(ab.grow hC).kp bh bt;intro b2 hC;replace hC:=hC.bl ad;refine go ?_;refine lV (.int .i64 (i64.wrap (Int.tdiv (i64.wrap (ae - 1)) 2))) (Vw (i64.wrap (ae - 1)) 2 rfl rfl (by decide))<|go ?_;replace az:=az.gr hC;replace aa:=aa.gr hC;replace ab:=ab.grow hC;exact ⟨al,by omega,rfl,⟨_,_,_,_,_,_,rfl,hm,ab,az,aa,rfl⟩⟩
   cases hm;exact ⟨rfl,S9 w0.heap.size [qc0,af] col ad (fun n=>bif Nat.beq n 441 then af else bif Nat.beq n 440 then qc0 else 0),ah,ai,rfl,ab.finL rfl (fun n=>bif Nat.beq n 441 then af else bif Nat.beq n 440 then qc0 else 0),ab.finOwnL (g:=(fun n=>bif Nat.beq n 441 then af else bif Nat.beq n 440 then qc0 else 0)) rfl ac (by decide) (by decide) rfl,ab.finBoxL (g:=(fun n=>bif Nat.beq n 441 then af else bif Nat.beq n 440 then qc0 else 0)) aa (by decide) (by decide) rfl⟩
  refine Wd (col:=ag) (by kernel_rfl) (by kernel_rfl)<|go ?_;refine Xt hm (fun a4 hm=>go ?_) fun a4 hm=>go ?_
  ·refine qv (v:=(.pointer (some ⟨g0,0,none⟩))) rfl (fun _ hC=>Qz rfl) ?_;refine go ?_;refine qW (fun _ hC=>aa.at1.gr (hC.bl ag)) ?_;refine go ?_;obtain ⟨bu,a5,hm⟩:=bZ hm;refine qI a5 (ac.addr a5) ?_;refine go ?_;refine qW (fun _ hC=>(ac.gr (hC.bl ag)).atInt a5) ?_;refine go ?_;refine qv (v:=(.pointer (some ⟨g0,0,none⟩))) rfl (fun _ hC=>Qz rfl) ?_;refine go ?_;refine qW (fun _ hC=>aa.at1.gr (hC.bl ag)) ?_;refine go ?_;refine qv (v:=(.int .i64 (i64.wrap (Int.tdiv (i64.wrap (ae - 1)) 2)))) rfl (fun _ hC=>Vw (i64.wrap (ae - 1)) 2 rfl rfl (by decide)) ?_;refine go ?_;obtain ⟨bv,a6,hm⟩:=bZ hm;refine qI a6 (ac.addr a6) ?_;refine go ?_;refine qW (fun _ hC=>(ac.gr (hC.bl ag)).atInt a6) ?_;refine go ?_;refine qv (v:=(.bool (decide (bu<bv)))) rfl (fun _ hC=>Xb (congrArg Value.bool a4) rfl) ?_;refine X7 ?_;intro b3 hC;replace hC:=hC.bl ag;replace ac:=ac.gr hC;replace aa:=aa.gr hC;replace ab:=ab.grow hC;exact ⟨rfl,_,_,hm,ab,ac,aa,rfl⟩
  refine qv (v:=(.bool false)) rfl (fun _ hC=>Xm (congrArg Value.bool a4) rfl) ?_;refine X7 ?_;intro b4 hC;replace hC:=hC.bl ag;replace ac:=ac.gr hC;replace aa:=aa.gr hC;replace ab:=ab.grow hC;exact ⟨rfl,_,_,hm,ab,ac,aa,rfl⟩
def Zgt (kk_L3:(List Int→R2→Option R2)) (aa:List Int) (ab:List Int):Option R2:=
  kk_L3 aa ab
def Zab (N:Nat) (ad:List Int) (kk_L2:(List Int→R2→R2→Option R2)) (ae:Ra):List Int→R2→R2→Option R2
  | [],aa,ab=>kk_L2 aa ab (ad++[ae.1])
  | ac :: ag,aa,ab=>(Zj aa ac).bind fun ah=>(some (aa.set (Int.toNat ac) (i64.wrap (ah - 1)))).bind fun af=>(Zj af ac).bind fun ai=>if (decide (ai=0))=true then ((Zgq N ab ac).bind fun aj=>Zgt (Zab N ad kk_L2 ae ag) af aj) else (Zgt (Zab N ad kk_L2 ae ag) af ab)
termination_by structural x=>x
def U4 (N:Nat) (ac:Rd):Nat→R2→R2→R2→Option R2
  | 0,_,_,_=>none
  | ae+1,af,ad,ab=>if (decide (0<(ad.length:Int)))=true then ((Zjk N ad).bind fun aa=>Zv ((ab.length+[aa.1].length) * 8≤140737488355328∧ab.length+[aa.1].length≤maxLen) ((Zj ac aa.1).bind fun ag=>Zab N ab (U4 N ac ae) aa ag af aa.2)) else (some ab)
termination_by structural x=>x
def Zgu (aa:Nat) (kk_L1:(Nat→R2→R2→Option R2)) (ab:List Int) (ac:List Int):Option R2:=
  kk_L1 (aa+1) ab ac
def Zaa (N:Nat) (ad:Rd):List R2→Nat→R2→R2→Option R2
  | [],aa,ab,ac=>U4 N ad N ab ac ([]:List Int)
  | ae :: af,aa,ab,ac=>(Zj ab (aa:Int)).bind fun ai=>(some (ab.set (Int.toNat (aa:Int)) (ae.length:Int))).bind fun ag=>if (decide ((ae.length:Int)=0))=true then ((Zgq N ac (aa:Int)).bind fun ah=>Zgu aa (Zaa N ad af) ag ah) else (Zgu aa (Zaa N ad af) ag ac)
termination_by structural x=>x
def Zgs (N:Nat) (aa:Rd) (ab:Rd):Option R2:=
  Zv (aa.length * 8≤281474976710656∧aa.length≤maxLen) (Zaa N ab aa 0 (List.replicate aa.length (0:Int)) ([]:List Int))
theorem Zz8 {N cs ct:Nat} {a0 a1:Option Addr} {col:Zd} {w0:World} {af ag:Rd} {r:R2} (c1:Nat) (hm:Zgs N af ag=some r) (h0:Sl (Za.slice (Za.int .i64)) col w0 a0 cs af) (h1:Sl (Za.slice (Za.int .i64)) col w0 a1 ct ag):
    Calls prog 202 #[.slice a0 af.length cs,.slice a1 ag.length ct] w0 (fun e w'=>∃ (col':Zd) (ra1:Option Addr) (rc2:Nat),e= .returned ((.slice ra1 r.length rc2))∧Zg col w0 col' w'∧Zc (Za.int .i64) 3 c1 col' w' ra1 rc2 r):=by
 refine Xc 4 (m:=66) func202 rfl rfl rfl rfl rfl ?_;rw [Zgs.eq_1] at hm;have aa:=St.start col w0;refine go ?_;obtain ⟨cu,hm⟩:=Zx hm;refine Sf (col:=(Zh col)) (w:=w0) (r:=(Za.int .i64)) (n:=af.length) (x0:=0) 1 rfl underlying40 Tryz.t3 rfl rfl rfl rfl rfl rfl rfl cu.1 cu.2 (Uf .i64 0) ?_;intro d1 d2 c6 c7 bx;refine go ?_;refine Zds (col:=c6) (v:=(.slice none (([]:List Int).length) 0)) 2 rfl zeroValue244 ?_;intro aq c8 c9 cv ab;replace ab:Zm 244 2 c9 c8 aq #[.slice none (([]:List Int).length) 0]:=ab;refine go ?_;replace aa:=(aa.grow c7).grow cv;replace bx:=bx.gr cv;refine Zw [1,16,17,6,1000000] (fun n f az=>∃ a2 ah a3 a4 ar bz b0 bj a5,n=a5.length∧af.drop ah=a5∧Zaa N ag a5 ah ar bj=some r∧St w0 (Zh col) a2 az∧Zc (Za.int .i64) 3 1 a2 az a3 a4 ar∧Zc (Za.int .i64) 3 3 a2 az bz b0 bj∧Zm 244 2 a2 az aq #[.slice bz bj.length b0]∧[18,5].map f=[.int .i64 ah,.slice a3 ar.length a4]) af.length ⟨_,0,_,_,_,none,0,_,_,rfl,rfl,hm,aa,bx,Zc.nil,ab,rfl⟩ ?_;clear hm;intro n f az hI;obtain ⟨a2,ah,a3,a4,ar,bz,b0,bj,a5,hn,hl,hm,aa,b1,a6,ab,hs⟩:=hI;subst hn;refine .lL [18,5] hs ?_;replace h0:=h0.keep (Zf.start col w0);replace h1:=h1.keep (Zf.start col w0)
 cases a5 with
 | nil=>
  have hk:¬ ((ah:Int)<(af.length:Int)):=by have:=List.drop_eq_nil_iff.1 hl;omega
  have hkb:=decide_eq_false hk;rw [Zaa.eq_1] at hm;refine go ?_;refine Yf (congrArg Value.bool hkb)<|go ?_;refine Zw [1,6,1000000] (fun n f au=>∃ av b2 b3 bk b4 b5 bm b6 b7 ai aj,aj=n∧U4 N ag aj bk bm ai=some r∧St w0 (Zh col) av au∧Zc (Za.int .i64) 3 1 av au b2 b3 bk∧Zc (Za.int .i64) 3 3 av au b4 b5 bm∧Zm 244 2 av au aq #[.slice b4 bm.length b5]∧Zc (Za.int .i64) 3 4 av au b6 b7 ai∧[5,9].map f=[.slice b2 bk.length b3,.slice b6 ai.length b7]) N ⟨_,_,_,_,_,_,_,none,0,_,_,rfl,hm,aa,b1,a6,ab,Zc.nil,rfl⟩ ?_;clear hm;intro n f au hI;obtain ⟨av,b2,b3,bk,b4,b5,bm,b6,b7,ai,aj,hn,hm,aa,b8,da,ab,bn,hs⟩:=hI;subst hn;refine .lL [5,9] hs ?_
  cases aj with
  | zero=>rw [U4.eq_1] at hm;cases hm
  | succ aj=>
   rw [U4.eq_2] at hm;refine go ?_;refine lW ab.at1<|go ?_;refine Zo hm (fun hb hm=>go ?_) fun hb hm=>go ?_
   ·obtain ⟨a7,db,hm⟩:=bZ hm;refine Zi (Zz7 2 3 db rfl da ab) ?_;rintro _ d3 ⟨dc,d4,d5,rfl,b9,ca,ad⟩;refine ⟨_,rfl,go ?_⟩;refine W1 (col:=dc) [a7.1] 5 ?_;intro d6 d7 d8 a8 dd;obtain ⟨de,hm⟩:=Zx hm;replace bn:=(bn.kpp b9).gr a8;refine Y3 bn (dd.srcN (NB.int (k:=.i64))) de ?_;intro cw cx d9 ea bo ae;refine go ?_;obtain ⟨aw,cb,hm⟩:=bZ hm;replace aa:=((aa.kpp b9).grow a8).kpp bo;refine lI cb ((h1.ks aa).addr cb) ?_;obtain ⟨_,df,dg⟩:=(h1.ks aa).atN cb;obtain ⟨⟨cy,cz,rfl,ac⟩,_⟩:=df;refine lW dg.one<|go ?_;replace b8:=((b8.kpp b9).gr a8).kpp bo;replace ca:=(ca.gr a8).kpp bo;replace ad:=(ad.gr a8).kpp bo;refine Zw [1,45,46,6,9,1000000] (fun n f ak=>∃ al a9 ba bb ax cc cd bp bc,n=bc.length∧aw.drop a9=bc∧Zab N ai (U4 N ag aj) a7 bc ax bp=some r∧St w0 (Zh col) al ak∧Sl (Za.int .i64) al ak cy cz aw∧Zc (Za.int .i64) 3 1 al ak ba bb ax∧Zc (Za.int .i64) 3 3 al ak cc cd bp∧Zm 244 2 al ak aq #[.slice cc bp.length cd]∧Zc (Za.int .i64) 3 4 al ak cw cx (ai++[a7.1])∧[47,5].map f=[.int .i64 a9,.slice ba ax.length bb]) aw.length ⟨_,0,_,_,_,_,_,_,_,rfl,rfl,hm,aa,ac,b8,ca,ad,ae,rfl⟩ ?_;clear hm;intro n f ak hI;obtain ⟨al,a9,ba,bb,ax,cc,cd,bp,bc,hn,hl,hm,aa,ac,bd,be,ad,ae,hs⟩:=hI;subst hn;refine .lL [47,5] hs ?_
    cases bc with
    | nil=>
     have hk:¬ ((a9:Int)<(aw.length:Int)):=by have:=List.drop_eq_nil_iff.1 hl;omega
     have hkb:=decide_eq_false hk;rw [Zab.eq_1] at hm;refine go ?_;refine Yf (congrArg Value.bool hkb)<|go ?_;exact ⟨aj,by omega,rfl,⟨_,_,_,_,_,_,_,_,_,_,_,rfl,hm,aa,bd,be,ad,ae,rfl⟩⟩
    | cons dh c0=>
     obtain ⟨am,di,dj⟩:=Yw hl;have hk:(a9:Int)<(aw.length:Int):=by omega
     have hkb:=decide_eq_true hk;rw [Zab.eq_2] at hm;refine go ?_;refine Yg (congrArg Value.bool hkb)<|X9<|Z0 ?_;refine Wp.cutK [1,45,46,47,6,9,1000000] (fun f an=>∃ ao ce cf bq cg ch br,Zgt (Zab N ai (U4 N ag aj) a7 c0) bq br=some r∧St w0 (Zh col) ao an∧Sl (Za.int .i64) ao an cy cz aw∧Zc (Za.int .i64) 3 1 ao an ce cf bq∧Zc (Za.int .i64) 3 3 ao an cg ch br∧Zm 244 2 ao an aq #[.slice cg br.length ch]∧Zc (Za.int .i64) 3 4 ao an cw cx (ai++[a7.1])∧[5].map f=[.slice ce bq.length cf]) ?_ ?_
     ·intro f an hJ;obtain ⟨ao,ce,cf,bq,cg,ch,br,hm,aa,ac,dk,dl,ad,ae,hs⟩:=hJ;rw [Zgt.eq_1] at hm;refine .lL [5] hs<|go ?_;exact ⟨c0.length,by simp,rfl,⟨_,_,_,_,_,_,_,_,_,rfl,di,hm,aa,ac,dk,dl,ad,ae,(Y1 (congrArg (Value.int .i64) (Yy (Nat.lt_of_lt_of_le dj ac.1.1))) rfl)⟩⟩
     refine go ?_;refine lI am (ac.addr am)<|lW (ac.atInt am) ?_;refine go ?_;obtain ⟨c2,ay,hm⟩:=bZ hm;refine lI ay (bd.addr ay)<|lW (bd.atInt ay) ?_;refine go ?_;refine lI ay (bd.addr ay) ?_;obtain ⟨ci,bs,hm⟩:=bZ hm;have bs:ci=ax.set (Int.toNat dh) (i64.wrap (c2 - 1)):=(Option.some.inj bs).symm;refine Wb (x1:=i64.wrap (c2 - 1)) bd ay ?_;intro eb bf dm ap;rw [← bs] at ap;refine .ld (d:=5) (v:=(.slice ba ci.length bb)) (congrArg (fun n=>Value.slice ba n bb) (show ax.length=ci.length by rw [bs,nS])) ?_;refine go ?_;obtain ⟨ec,cj,hm⟩:=bZ hm;refine lI cj (ap.addr cj)<|lW (ap.atInt cj) ?_;refine go ?_;replace ac:=ac.kp bf;replace be:=be.kp bf;replace ae:=ae.kp bf;replace ad:=ad.kp bf;replace aa:=aa.kp bf dm;refine Zo hm (fun hb hm=>go ?_) fun hb hm=>?_
     ·obtain ⟨ed,dn,hm⟩:=bZ hm;refine Zi (Zq4 2 3 dn rfl be ad) ?_;rintro _ ee ⟨ef,eg,eh,rfl,bt,dp,dq⟩;refine ⟨_,rfl,?_⟩;refine Zk ?_;replace ac:=ac.kpp bt;replace ap:=ap.kpp bt;replace ae:=ae.kpp bt;replace aa:=aa.kpp bt;exact ⟨rfl,_,_,_,_,_,_,_,hm,aa,ac,ap,dp,dq,ae,rfl⟩
     refine X9 ?_;exact ⟨rfl,_,_,_,_,_,_,_,hm,aa,ac,ap,be,ad,ae,rfl⟩
   cases hm;exact ⟨rfl,_,_,_,rfl,aa.fin (cm [(4,c1)]),aa.fo bn⟩
 | cons c3 c4=>
  obtain ⟨am,dr,ds⟩:=Yw hl;have hk:(ah:Int)<(af.length:Int):=by omega
  have hkb:=decide_eq_true hk;rw [Zaa.eq_2] at hm;refine go ?_;refine Yg (congrArg Value.bool hkb)<|X9<|Z0 ?_;refine Wp.cutK [1,16,17,18,6,1000000] (fun f bg=>∃ bh ck cl bu cn co bv,Zgu ah (Zaa N ag c4) bu bv=some r∧St w0 (Zh col) bh bg∧Zc (Za.int .i64) 3 1 bh bg ck cl bu∧Zc (Za.int .i64) 3 3 bh bg cn co bv∧Zm 244 2 bh bg aq #[.slice cn bv.length co]∧[5].map f=[.slice ck bu.length cl]) ?_ ?_
  ·intro f bg hJ;obtain ⟨bh,ck,cl,bu,cn,co,bv,hm,aa,dt,du,ab,hs⟩:=hJ;rw [Zgu.eq_1] at hm;refine .lL [5] hs<|go ?_;exact ⟨c4.length,by simp,rfl,⟨_,_,_,_,_,_,_,_,_,rfl,dr,hm,aa,dt,du,ab,(Y1 (congrArg (Value.int .i64) (Yy (Nat.lt_of_lt_of_le ds (h0.ks aa).1.1))) rfl)⟩⟩
  refine go ?_;refine lI am ((h0.ks aa).addr am) ?_;obtain ⟨_,dv,dw⟩:=(h0.ks aa).atN am;obtain ⟨⟨ei,ej,rfl,ek⟩,_⟩:=dv;refine lW dw.one<|go ?_;obtain ⟨el,cp,hm⟩:=bZ hm;refine lI cp (b1.addr cp) ?_;obtain ⟨cq,bw,hm⟩:=bZ hm;have bw:cq=ar.set (Int.toNat (ah:Int)) (c3.length:Int):=(Option.some.inj bw).symm;refine Wb (x1:=(c3.length:Int)) b1 cp ?_;intro em cr dx bi;rw [← bw] at bi;refine .ld (d:=5) (v:=(.slice a3 cq.length a4)) (congrArg (fun n=>Value.slice a3 n a4) (show ar.length=cq.length by rw [bw,nS])) ?_;refine go ?_;replace a6:=a6.kp cr;replace ab:=ab.kp cr;replace aa:=aa.kp cr dx;refine Zo hm (fun hb hm=>go ?_) fun hb hm=>?_
  ·obtain ⟨en,dy,hm⟩:=bZ hm;refine Zi (Zq4 2 3 dy rfl a6 ab) ?_;rintro _ eo ⟨ep,eq,er,rfl,c5,dz,d0⟩;refine ⟨_,rfl,?_⟩;refine Zk ?_;replace bi:=bi.kpp c5;replace aa:=aa.kpp c5;exact ⟨rfl,_,_,_,_,_,_,_,hm,aa,bi,dz,d0,rfl⟩
  refine X9 ?_;exact ⟨rfl,_,_,_,_,_,_,_,hm,aa,bi,a6,ab,rfl⟩
def Za1 (N:Nat) (aa:Rd):Option Rf:=
  (Zgn aa).bind fun ab=>if (!decide (ab=0))=true then (some (([]:List Int),ab)) else ((Zgm aa).bind fun ad=>(Zgs N aa ad).bind fun ac=>if (decide ((ac.length:Int)<(aa.length:Int)))=true then (some (([]:List Int),42)) else (some (ac,0)))
theorem Zz4 {N ad:Nat} {a0:Option Addr} {col:Zd} {w0:World} {ab:Rd} {r:Rf} (c1:Nat) (hm:Za1 N ab=some r) (h0:Sl (Za.slice (Za.int .i64)) col w0 a0 ad ab):
    Calls prog 89 #[.slice a0 ab.length ad] w0 (fun e w'=>∃ (col':Zd) (ra1:Option Addr) (rc2:Nat),e= .returned (.tuple #[.slice ra1 r.1.length rc2,.int .i64 r.2])∧Zg col w0 col' w'∧Zc (Za.int .i64) 3 c1 col' w' ra1 rc2 r.1):=by
 refine Zdr 2 3 (m:=21) (args:=[.slice a0 ab.length ad]) func89 rfl rfl rfl rfl rfl ?_;rw [Za1.eq_1] at hm;have aa:=St.start col w0;refine go ?_;obtain ⟨ap,ah,hm⟩:=bZ hm;replace h0:=h0.keep (Zf.start col w0);refine Zi (Zz6 ah (h0.ks aa)) ?_;rintro _ ai ⟨rfl,ae⟩;refine ⟨_,rfl,?_⟩;replace ae:Zg (Zh col) w0 (Zh col) ai:=.of_below ae;refine go ?_;replace aa:=aa.grow ae;refine Zo hm (fun hb hm=>go ?_) fun hb hm=>go ?_
 ·cases hm;exact ⟨rfl,_,none,0,rfl,aa.fin (cm []),Zc.nil⟩
 obtain ⟨aq,aj,hm⟩:=bZ hm;refine Zi (Zz5 1 aj (h0.ks aa)) ?_;rintro _ ak ⟨af,ar,au,rfl,al,am⟩;refine ⟨_,rfl,?_⟩;obtain ⟨av,an,hm⟩:=bZ hm;replace aa:=aa.grow al;refine Zi (Zz8 2 an ((h0.ks aa).froz 1) (am.toSlF (Zn.row (Zn.int .i64)))) ?_;rintro _ aw ⟨ao,ax,ay,rfl,ac,ag⟩;refine ⟨_,rfl,?_⟩;replace ag:=ag.thaw (Z3 .i64) ac ((Fz.refl (col:=af)).froz 1) (by decide);replace ac:=ac.thawR (col:=af);generalize Xf ak.heap.size af ao=az at *;refine go ?_;replace aa:=aa.grow ac;refine Zo hm (fun hb hm=>go ?_) fun hb hm=>go ?_
 ·cases hm;exact ⟨rfl,_,none,0,rfl,aa.fin (cm []),Zc.nil⟩
 cases hm;exact ⟨rfl,_,_,_,rfl,aa.fin (cm [(2,c1)]),aa.fo ag⟩
def Qi (N:Nat) (aa:Rd):Option Int:=
  (Za1 N aa).bind fun ab=>some ab.2
theorem Zz3 {N ad:Nat} {a0:Option Addr} {col:Zd} {w0:World} {ac:Rd} {r:Int} (hm:Qi N ac=some r) (h0:Sl (Za.slice (Za.int .i64)) col w0 a0 ad ac):
    Calls prog 175 #[.slice a0 ac.length ad] w0 (fun e w'=>e= .returned ((.int .i64 r))∧Below w0.heap.size w0 w'):=by
 refine Xc 2 (m:=11) func175 rfl rfl rfl rfl rfl ?_;rw [Qi.eq_1] at hm;have aa:=St.start col w0;refine go ?_;obtain ⟨ab,ag,hm⟩:=bZ hm;replace h0:=h0.keep (Zf.start col w0);refine Zi (Zz4 1 ag (h0.ks aa)) ?_;rintro _ ai ⟨aj,ae,af,rfl,ah,ak⟩;refine ⟨_,rfl,?_⟩;refine lM (.tuple #[.slice ae ab.1.length af,.int .i64 ab.2])<|lV (.slice ae ab.1.length af) (Xv rfl rfl)<|lV (.int .i64 ab.2) (Xv rfl rfl)<|go ?_;cases hm;replace aa:=aa.grow ah;exact ⟨rfl,rfl,aa.below⟩
def Zh5 (aa:Int) (kk_L2:(Int→Option Bool)) (ab:Bool):Option Bool:=
  if ab=true then (some false) else (kk_L2 (i64.wrap (aa+1)))
def Zbl (N:Nat) (aa:Rd) (ab:Int) (kk_L1:(Int→Option Bool)):Nat→Int→Option Bool
  | 0,_=>none
  | ad+1,ac=>(Zj aa ab).bind fun ae=>if (decide (ac<(ae.length:Int)))=true then ((Zj ae ac).bind fun af=>if (decide (af<0))=true then (Zh5 ac (Zbl N aa ab kk_L1 ad) true) else (Zh5 ac (Zbl N aa ab kk_L1 ad) (decide ((aa.length:Int)≤af)))) else (kk_L1 (i64.wrap (ab+1)))
termination_by structural x=>x
def Zaj (N:Nat) (aa:Rd):Nat→Int→Option Bool
  | 0,_=>none
  | ac+1,ab=>if (decide (ab<(aa.length:Int)))=true then (Zbl N aa ab (Zaj N aa ac) N 0) else (some true)
termination_by structural x=>x
def Zh4 (N:Nat) (aa:Rd):Option Bool:=
  Zaj N aa N 0
theorem Z1f {N ak:Nat} {a0:Option Addr} {col:Zd} {w0:World} {ab:Rd} {r:Bool} (hm:Zh4 N ab=some r) (h0:Sl (Za.slice (Za.int .i64)) col w0 a0 ak ab):
    Calls prog 263 #[.slice a0 ab.length ak] w0 (fun e w'=>e= .returned ((.bool r))∧Below w0.heap.size w0 w'):=by
 refine Xc 2 (m:=36) func263 rfl rfl rfl rfl rfl ?_;rw [Zh4.eq_1] at hm;have aa:=St.start col w0;refine go ?_;refine Zw [0,1000000] (fun n f al=>∃ am af ac,ac=n∧Zaj N ab ac af=some r∧St w0 (Zh col) am al∧[3].map f=[.int .i64 af]) N ⟨_,0,_,rfl,hm,aa,rfl⟩ ?_;clear hm;intro n f al hI;obtain ⟨am,af,ac,hn,hm,aa,hs⟩:=hI;subst hn;refine .lL [3] hs ?_;replace h0:=h0.keep (Zf.start col w0)
 cases ac with
 | zero=>rw [Zaj.eq_1] at hm;cases hm
 | succ ac=>
  rw [Zaj.eq_2] at hm;refine go ?_;refine Zo hm (fun hb hm=>go ?_) fun hb hm=>go ?_
  ·refine Zw [0,3,1000000] (fun n f an=>∃ ao ag ad,ad=n∧Zbl N ab af (Zaj N ab ac) ad ag=some r∧St w0 (Zh col) ao an∧[4].map f=[.int .i64 ag]) N ⟨_,0,_,rfl,hm,aa,rfl⟩ ?_;clear hm;intro n f an hI;obtain ⟨ao,ag,ad,hn,hm,aa,hs⟩:=hI;subst hn;refine .lL [4] hs ?_
   cases ad with
   | zero=>rw [Zbl.eq_1] at hm;cases hm
   | succ ad=>
    rw [Zbl.eq_2] at hm;refine go ?_;obtain ⟨az,ae,hm⟩:=bZ hm;refine lI ae ((h0.ks aa).addr ae) ?_;obtain ⟨_,au,av⟩:=(h0.ks aa).atN ae;obtain ⟨⟨a1,a2,rfl,a3⟩,_⟩:=au;refine lW av.one<|go ?_;refine Zo hm (fun hb hm=>go ?_) fun hb hm=>go ?_
    ·refine lI ae ((h0.ks aa).addr ae) ?_;obtain ⟨_,aw,ax⟩:=(h0.ks aa).atN ae;obtain ⟨⟨a4,a5,rfl,ap⟩,_⟩:=aw;refine lW ax.one<|Xo rfl ?_;obtain ⟨ay,ah,hm⟩:=bZ hm;refine lI ah (ap.addr ah)<|lW (ap.atInt ah)<|Y8 rfl<|Zk<|Z0 ?_;refine Wp.cutK [0,3,4,1000000] (fun f aq=>∃ ar ai,Zh5 ag (Zbl N ab af (Zaj N ab ac) ad) ai=some r∧St w0 (Zh col) ar aq∧[35].map f=[.bool ai]) ?_ ?_
     ·intro f aq hJ;obtain ⟨ar,ai,hm,aa,hs⟩:=hJ;rw [Zh5.eq_1] at hm;refine .lL [35] hs ?_;refine Zo hm (fun hb hm=>go ?_) fun hb hm=>go ?_
      ·cases hm;exact ⟨rfl,rfl,aa.below⟩
      exact ⟨ad,by omega,rfl,⟨_,_,_,rfl,hm,aa,rfl⟩⟩
     refine go ?_;refine Xt hm (fun aj hm=>go ?_) fun aj hm=>go ?_
     ·refine lV (.bool true) (Xb (congrArg Value.bool aj) rfl)<|Zk ?_;exact ⟨rfl,_,_,hm,aa,rfl⟩
     refine lV (.bool (decide ((ab.length:Int)≤ay))) (Xm (congrArg Value.bool aj) rfl)<|Zk ?_;exact ⟨rfl,_,_,hm,aa,rfl⟩
    exact ⟨ac,by omega,rfl,⟨_,_,_,rfl,hm,aa,rfl⟩⟩
  cases hm;exact ⟨rfl,rfl,aa.below⟩
def Ze3 (N:Nat) (aa:List Int) (ac:Int):Nat→Int→Option Bool
  | 0,_=>none
  | ad+1,ab=>if (decide (ab<(aa.length:Int)))=true then ((Zj aa ab).bind fun ae=>if (decide (ae=ac))=true then (some true) else ((Ze3 N aa ac ad) (i64.wrap (ab+1)))) else (some false)
termination_by structural x=>x
def Ze2 (N:Nat) (aa:List Int) (ab:Int):Option Bool:=
  Ze3 N aa ab N 0
theorem Zop {N ag:Nat} {a0:Option Addr} {col:Zd} {w0:World} {ac:R2} {ad:Int} {r:Bool} (hm:Ze2 N ac ad=some r) (h0:Sl (Za.int .i64) col w0 a0 ag ac):
    Calls prog 265 #[.slice a0 ac.length ag,.int .i64 ad] w0 (fun e w'=>e= .returned ((.bool r))∧Below w0.heap.size w0 w'):=by
 refine Xc 4 (m:=18) func265 rfl rfl rfl rfl rfl ?_;rw [Ze2.eq_1] at hm;have aa:=St.start col w0;refine go ?_;refine Zw [0,1,1000000] (fun n f ah=>∃ ai ae ab,ab=n∧Ze3 N ac ad ab ae=some r∧St w0 (Zh col) ai ah∧[5].map f=[.int .i64 ae]) N ⟨_,0,_,rfl,hm,aa,rfl⟩ ?_;clear hm;intro n f ah hI;obtain ⟨ai,ae,ab,hn,hm,aa,hs⟩:=hI;subst hn;refine .lL [5] hs ?_;replace h0:=h0.keep (Zf.start col w0)
 cases ab with
 | zero=>rw [Ze3.eq_1] at hm;cases hm
 | succ ab=>
  rw [Ze3.eq_2] at hm;refine go ?_;refine Zo hm (fun hb hm=>go ?_) fun hb hm=>go ?_
  ·obtain ⟨aj,af,hm⟩:=bZ hm;refine lI af ((h0.ks aa).addr af)<|lW ((h0.ks aa).atInt af) ?_;refine go ?_;refine Zo hm (fun hb hm=>go ?_) fun hb hm=>go ?_
   ·cases hm;exact ⟨rfl,rfl,aa.below⟩
   exact ⟨ab,by omega,rfl,⟨_,_,_,rfl,hm,aa,rfl⟩⟩
  cases hm;exact ⟨rfl,rfl,aa.below⟩
def Ze4 (N:Nat) (ad:Rd) (ac:Int) (kk_L1:(Int→Option Bool)):Nat→Int→Option Bool
  | 0,_=>none
  | ae+1,aa=>(Zj ad ac).bind fun ab=>if (decide (aa<(ab.length:Int)))=true then (Zv ((0:Int)≤aa∧aa≤(ab.length:Int)) ((Zj ab aa).bind fun af=>(Ze2 N (ab.take (Int.toNat aa)) af).bind fun ag=>if ag=true then (some true) else ((Ze4 N ad ac kk_L1 ae) (i64.wrap (aa+1))))) else (kk_L1 (i64.wrap (ac+1)))
termination_by structural x=>x
def Zbn (N:Nat) (aa:Rd):Nat→Int→Option Bool
  | 0,_=>none
  | ac+1,ab=>if (decide (ab<(aa.length:Int)))=true then (Ze4 N aa ab (Zbn N aa ac) N 0) else (some false)
termination_by structural x=>x
def Zh8 (N:Nat) (aa:Rd):Option Bool:=
  Zbn N aa N 0
theorem Z1h {N am:Nat} {a0:Option Addr} {col:Zd} {w0:World} {af:Rd} {r:Bool} (hm:Zh8 N af=some r) (h0:Sl (Za.slice (Za.int .i64)) col w0 a0 am af):
    Calls prog 264 #[.slice a0 af.length am] w0 (fun e w'=>e= .returned ((.bool r))∧Below w0.heap.size w0 w'):=by
 refine Xc 2 (m:=34) func264 rfl rfl rfl rfl rfl ?_;rw [Zh8.eq_1] at hm;have aa:=St.start col w0;refine go ?_;refine Zw [0,1000000] (fun n f an=>∃ ao ah ad,ad=n∧Zbn N af ad ah=some r∧St w0 (Zh col) ao an∧[3].map f=[.int .i64 ah]) N ⟨_,0,_,rfl,hm,aa,rfl⟩ ?_;clear hm;intro n f an hI;obtain ⟨ao,ah,ad,hn,hm,aa,hs⟩:=hI;subst hn;refine .lL [3] hs ?_;replace h0:=h0.keep (Zf.start col w0)
 cases ad with
 | zero=>rw [Zbn.eq_1] at hm;cases hm
 | succ ad=>
  rw [Zbn.eq_2] at hm;refine go ?_;refine Zo hm (fun hb hm=>go ?_) fun hb hm=>go ?_
  ·refine Zw [0,3,1000000] (fun n f ap=>∃ ac ae ag,ag=n∧Ze4 N af ah (Zbn N af ad) ag ae=some r∧St w0 (Zh col) ac ap∧[4].map f=[.int .i64 ae]) N ⟨_,0,_,rfl,hm,aa,rfl⟩ ?_;clear hm;intro n f ap hI;obtain ⟨ac,ae,ag,hn,hm,aa,hs⟩:=hI;subst hn;refine .lL [4] hs ?_
   cases ag with
   | zero=>rw [Ze4.eq_1] at hm;cases hm
   | succ ag=>
    rw [Ze4.eq_2] at hm;refine go ?_;obtain ⟨aq,ab,hm⟩:=bZ hm;refine lI ab ((h0.ks aa).addr ab) ?_;obtain ⟨_,av,aw⟩:=(h0.ks aa).atN ab;obtain ⟨⟨a4,a5,rfl,a6⟩,_⟩:=av;refine lW aw.one<|go ?_;refine Zo hm (fun hb hm=>go ?_) fun hb hm=>go ?_
    ·refine Wd (col:=ac) (by kernel_rfl) (by kernel_rfl)<|go ?_;refine qI ab ((h0.ks aa).addr ab) ?_;obtain ⟨_,ax,ay⟩:=(h0.ks aa).atN ab;obtain ⟨⟨ai,aj,rfl,ar⟩,_⟩:=ax;refine qW (fun _ hC=>ay.one.gr (hC.bl ac)) ?_;refine go ?_;obtain ⟨ak,hm⟩:=Zx hm;refine qv (v:=.slice ai (Int.toNat ae) aj) rfl (fun _ hC=>V5 underlying40 sizeOf3 rfl rfl ak.1 (by have:=ar.1.2;have:=ak.2;omega)) ?_;refine .ld (d:=25) (v:=(.slice ai ((aq.take (Int.toNat ae)).length) aj)) (congrArg (fun n=>Value.slice ai n aj) (List.length_take_of_le (show (Int.toNat ae)≤aq.length by have:=ak.2;omega)).symm) ?_;refine go ?_;refine qI ab ((h0.ks aa).addr ab) ?_;obtain ⟨_,az,a1⟩:=(h0.ks aa).atN ab;obtain ⟨⟨a7,a8,rfl,au⟩,_⟩:=az;refine qW (fun _ hC=>a1.one.gr (hC.bl ac)) ?_;refine go ?_;obtain ⟨a9,al,hm⟩:=bZ hm;refine qI al (au.addr al)<|qW (fun _ hC=>(au.gr (hC.bl ac)).atInt al) ?_;obtain ⟨a2,a3,hm⟩:=bZ hm;refine qc (v:=(.bool a2)) rfl (fun _ hC=>⟨_,_,Zbx call265 rfl rfl,(Zop a3 ((ar.take (Int.toNat ae)).gr (hC.bl ac)):).mono fun _ _ h=>⟨h.1,hC.trans (.of_below h.2)⟩⟩) ?_;refine X7 ?_;intro ba hC;replace hC:=hC.bl ac;replace aa:=aa.grow hC;refine Zo hm (fun hb hm=>go ?_) fun hb hm=>go ?_
     ·cases hm;exact ⟨rfl,rfl,aa.below⟩
     exact ⟨ag,by omega,rfl,⟨_,_,_,rfl,hm,aa,rfl⟩⟩
    exact ⟨ad,by omega,rfl,⟨_,_,_,rfl,hm,aa,rfl⟩⟩
  cases hm;exact ⟨rfl,rfl,aa.below⟩
def Zh6 (aa:Int) (kk_L2:(Int→Int→Option R2)) (ab:Int):Option R2:=
  kk_L2 ab (i64.wrap (aa+1))
def Zh7 (aa:Int) (kk_L3:(Bool→Int→Option R2)) (ab:Bool):Option R2:=
  kk_L3 ab (i64.wrap (aa+1))
def Zbm (N:Nat) (ac:Rd) (ad:List Int) (ae:Int) (aa:Int) (kk_L2:(Int→Int→Option R2)):Nat→Bool→Int→Option R2
  | 0,_,_=>none
  | af+1,ag,ab=>(Zj ac aa).bind fun ah=>if (decide (ab<(ah.length:Int)))=true then (if ag=true then ((Zj ah ab).bind fun ai=>(Ze2 N ad ai).bind fun aj=>Zh7 ab (Zbm N ac ad ae aa kk_L2 af) aj) else (Zh7 ab (Zbm N ac ad ae aa kk_L2 af) false)) else (if ag=true then (Zh6 aa kk_L2 aa) else (Zh6 aa kk_L2 ae))
termination_by structural x=>x
def Zcx (N:Nat) (ad:Rd) (aa:List Int) (kk_L1:(List Int→Option R2)) (ab:Int) (ac:Int) (kk_L2:(Int→Int→Option R2)) (ae:Bool):Option R2:=
  if ae=true then ((Ze2 N aa ac).bind fun af=>Zbm N ad aa ab ac kk_L2 N (!af) 0) else (if (decide (ab<0))=true then (some aa) else (Zv ((aa.length+[ab].length) * 8≤140737488355328∧aa.length+[ab].length≤maxLen) (kk_L1 (aa++[ab]))))
def Tk (N:Nat) (aa:Rd) (ab:List Int) (kk_L1:(List Int→Option R2)):Nat→Int→Int→Option R2
  | 0,_,_=>none
  | ae+1,ac,ad=>if (decide (ad<(aa.length:Int)))=true then (Zcx N aa ab kk_L1 ac ad (Tk N aa ab kk_L1 ae) (decide (ac<0))) else (Zcx N aa ab kk_L1 ac ad (Tk N aa ab kk_L1 ae) false)
termination_by structural x=>x
def Ux (N:Nat) (aa:Rd):Nat→R2→Option R2
  | 0,_=>none
  | ab+1,ac=>Tk N aa ac (Ux N aa ab) N (-1) 0
termination_by structural x=>x
def Qq (N:Nat) (aa:Rd):Option R2:=
  Ux N aa N ([]:List Int)
theorem Z1g {N bb:Nat} {a0:Option Addr} {col:Zd} {w0:World} {ac:Rd} {r:R2} (c1:Nat) (hm:Qq N ac=some r) (h0:Sl (Za.slice (Za.int .i64)) col w0 a0 bb ac):
    Calls prog 199 #[.slice a0 ac.length bb] w0 (fun e w'=>∃ (col':Zd) (ra1:Option Addr) (rc2:Nat),e= .returned ((.slice ra1 r.length rc2))∧Zg col w0 col' w'∧Zc (Za.int .i64) 3 c1 col' w' ra1 rc2 r):=by
 refine Xc 2 (m:=52) func199 rfl rfl rfl rfl rfl ?_;rw [Qq.eq_1] at hm;have aa:=St.start col w0;refine go ?_;refine Zw [0,1000000] (fun n f av=>∃ aw ag ah ad ae,ae=n∧Ux N ac ae ad=some r∧St w0 (Zh col) aw av∧Zc (Za.int .i64) 3 1 aw av ag ah ad∧[3].map f=[.slice ag ad.length ah]) N ⟨_,none,0,_,_,rfl,hm,aa,Zc.nil,rfl⟩ ?_;clear hm;intro n f av hI;obtain ⟨aw,ag,ah,ad,ae,hn,hm,aa,ab,hs⟩:=hI;subst hn;refine .lL [3] hs ?_;replace h0:=h0.keep (Zf.start col w0)
 cases ae with
 | zero=>rw [Ux.eq_1] at hm;cases hm
 | succ ae=>
  rw [Ux.eq_2] at hm;refine go ?_;refine Zw [0,3,1000000] (fun n f ax=>∃ ay ai aj af,af=n∧Tk N ac ad (Ux N ac ae) af ai aj=some r∧St w0 (Zh col) ay ax∧Zc (Za.int .i64) 3 1 ay ax ag ah ad∧[4,5].map f=[.int .i64 ai,.int .i64 aj]) N ⟨_,_,0,_,rfl,hm,aa,ab,rfl⟩ ?_;clear hm;intro n f ax hI;obtain ⟨ay,ai,aj,af,hn,hm,aa,ab,hs⟩:=hI;subst hn;refine .lL [4,5] hs ?_
  cases af with
  | zero=>rw [Tk.eq_1] at hm;cases hm
  | succ af=>
   rw [Tk.eq_2] at hm;refine Z0<|Z0 ?_;refine Wp.cutK [0,3,4,5,1000000] (fun f ao=>∃ al az,Zcx N ac ad (Ux N ac ae) ai aj (Tk N ac ad (Ux N ac ae) af) az=some r∧St w0 (Zh col) al ao∧Zc (Za.int .i64) 3 1 al ao ag ah ad∧[15].map f=[.bool az]) ?_ ?_
   ·intro f ao hJ;obtain ⟨al,az,hm,aa,ab,hs⟩:=hJ;rw [Zcx.eq_1] at hm;refine .lL [15] hs ?_;refine Zo hm (fun hb hm=>?_) fun hb hm=>go ?_
    ·refine X9<|Z0 ?_;refine Wp.cutK [0,3,5,1000000] (fun f a1=>∃ a2 a3,Zh6 aj (Tk N ac ad (Ux N ac ae) af) a3=some r∧St w0 (Zh col) a2 a1∧Zc (Za.int .i64) 3 1 a2 a1 ag ah ad∧[4].map f=[.int .i64 a3]) ?_ ?_
     ·intro f a1 hJ;obtain ⟨a2,a3,hm,aa,ab,hs⟩:=hJ;rw [Zh6.eq_1] at hm;refine .lL [4] hs<|go ?_;exact ⟨af,by omega,rfl,⟨_,_,_,_,rfl,hm,aa,ab,rfl⟩⟩
     refine go ?_;obtain ⟨bs,be,hm⟩:=bZ hm;refine Zi (Zop be (ab.toSlF (Zn.int .i64))) ?_;rintro _ bf ⟨rfl,ap⟩;refine ⟨_,rfl,?_⟩;replace ap:Zg al ao al bf:=.of_below ap;refine go ?_;replace ab:=ab.gr ap;replace aa:=aa.grow ap;refine Zw [0,3,4,5,1000000] (fun n f aq=>∃ an a4 ar ak,ak=n∧Zbm N ac ad ai aj (Tk N ac ad (Ux N ac ae) af) ak a4 ar=some r∧St w0 (Zh col) an aq∧Zc (Za.int .i64) 3 1 an aq ag ah ad∧[6,7].map f=[.bool a4,.int .i64 ar]) N ⟨_,_,0,_,rfl,hm,aa,ab,rfl⟩ ?_;clear hm;intro n f aq hI;obtain ⟨an,a4,ar,ak,hn,hm,aa,ab,hs⟩:=hI;subst hn;refine .lL [6,7] hs ?_
     cases ak with
     | zero=>rw [Zbm.eq_1] at hm;cases hm
     | succ ak=>
      rw [Zbm.eq_2] at hm;refine go ?_;obtain ⟨bt,am,hm⟩:=bZ hm;refine lI am ((h0.ks aa).addr am) ?_;obtain ⟨_,bg,bh⟩:=(h0.ks aa).atN am;obtain ⟨⟨bu,bv,rfl,bw⟩,_⟩:=bg;refine lW bh.one<|go ?_;refine Zo hm (fun hb hm=>?_) fun hb hm=>go ?_
      ·refine X9<|Z0 ?_;refine Wp.cutK [0,3,4,5,7,1000000] (fun f a5=>∃ a6 a7,Zh7 ar (Zbm N ac ad ai aj (Tk N ac ad (Ux N ac ae) af) ak) a7=some r∧St w0 (Zh col) a6 a5∧Zc (Za.int .i64) 3 1 a6 a5 ag ah ad∧[6].map f=[.bool a7]) ?_ ?_
       ·intro f a5 hJ;obtain ⟨a6,a7,hm,aa,ab,hs⟩:=hJ;rw [Zh7.eq_1] at hm;refine .lL [6] hs<|go ?_;exact ⟨ak,by omega,rfl,⟨_,_,_,_,rfl,hm,aa,ab,rfl⟩⟩
       refine go ?_;refine Xt hm (fun a8 hm=>go ?_) fun a8 hm=>go ?_
       ·refine lI am ((h0.ks aa).addr am) ?_;refine go ?_;obtain ⟨_,bi,bj⟩:=(h0.ks aa).atN am;obtain ⟨⟨bx,bz,rfl,bc⟩,_⟩:=bi;refine lW bj.one<|go ?_;obtain ⟨b0,a9,hm⟩:=bZ hm;refine lI a9 (bc.addr a9) ?_;refine go ?_;refine lW (bc.atInt a9)<|go ?_;obtain ⟨bk,bm,hm⟩:=bZ hm;refine Zi (Zop bm (ab.toSlF (Zn.int .i64))) ?_;rintro _ bn ⟨rfl,au⟩;refine ⟨_,rfl,?_⟩;replace au:Zg an aq an bn:=.of_below au;refine lV (.bool bk) (Xb (congrArg Value.bool a8) rfl)<|go ?_;replace ab:=ab.gr au;replace aa:=aa.grow au;exact ⟨rfl,_,_,hm,aa,ab,rfl⟩
       refine lV (.bool false) (Xm (congrArg Value.bool a8) rfl)<|go ?_;exact ⟨rfl,_,_,hm,aa,ab,rfl⟩
      refine Zo hm (fun hb hm=>go ?_) fun hb hm=>?_
      ·exact ⟨rfl,_,_,hm,aa,ab,rfl⟩
      refine X9 ?_;exact ⟨rfl,_,_,hm,aa,ab,rfl⟩
    refine Zo hm (fun hb hm=>go ?_) fun hb hm=>go ?_
    ·cases hm;exact ⟨rfl,_,_,_,rfl,aa.fin (cm [(1,c1)]),aa.fo ab⟩
    refine W1 (col:=al) [ai] 2 ?_;intro b1 b2 b3 bd bo;obtain ⟨bp,hm⟩:=Zx hm;replace ab:=ab.gr bd;refine Y3 ab (bo.srcN (NB.int (k:=.i64))) bp ?_;intro b4 b5 b6 b7 bq br;refine go ?_;replace aa:=(aa.grow bd).kpp bq;exact ⟨ae,by omega,rfl,⟨_,_,_,_,_,rfl,hm,aa,br,rfl⟩⟩
   refine go ?_;refine Xt hm (fun ba hm=>go ?_) fun ba hm=>go ?_
   ·refine lV (.bool (decide (ai<0))) (Xb (congrArg Value.bool ba) rfl)<|Zk ?_;exact ⟨rfl,_,_,hm,aa,ab,rfl⟩
   refine lV (.bool false) (Xm (congrArg Value.bool ba) rfl)<|Zk ?_;exact ⟨rfl,_,_,hm,aa,ab,rfl⟩
def Qp (N:Nat) (aa:Rd):Option Int:=
  (Zh4 N aa).bind fun ab=>if (!ab)=true then (some 3) else ((Zh8 N aa).bind fun ac=>if ac=true then (some 40) else ((Qq N aa).bind fun ad=>if (decide ((ad.length:Int)<(aa.length:Int)))=true then (some 42) else (some 0)))
theorem Z1e {N ae:Nat} {a0:Option Addr} {col:Zd} {w0:World} {ab:Rd} {r:Int} (hm:Qp N ab=some r) (h0:Sl (Za.slice (Za.int .i64)) col w0 a0 ae ab):
    Calls prog 193 #[.slice a0 ab.length ae] w0 (fun e w'=>e= .returned ((.int .i64 r))∧Below w0.heap.size w0 w'):=by
 refine Xc 2 (m:=18) func193 rfl rfl rfl rfl rfl ?_;rw [Qp.eq_1] at hm;have aa:=St.start col w0;refine go ?_;obtain ⟨al,ag,hm⟩:=bZ hm;replace h0:=h0.keep (Zf.start col w0);refine Zi (Z1f ag (h0.ks aa)) ?_;rintro _ af ⟨rfl,ac⟩;refine ⟨_,rfl,?_⟩;replace ac:Zg (Zh col) w0 (Zh col) af:=.of_below ac;refine go ?_;replace aa:=aa.grow ac;refine Zo hm (fun hb hm=>go ?_) fun hb hm=>go ?_
 ·cases hm;exact ⟨rfl,rfl,aa.below⟩
 obtain ⟨am,ah,hm⟩:=bZ hm;refine Zi (Z1h ah (h0.ks aa)) ?_;rintro _ ai ⟨rfl,ad⟩;refine ⟨_,rfl,?_⟩;replace ad:Zg (Zh col) af (Zh col) ai:=.of_below ad;refine go ?_;replace aa:=aa.grow ad;refine Zo hm (fun hb hm=>go ?_) fun hb hm=>go ?_
 ·cases hm;exact ⟨rfl,rfl,aa.below⟩
 obtain ⟨an,aj,hm⟩:=bZ hm;refine Zi (Z1g 1 aj (h0.ks aa)) ?_;rintro _ ao ⟨ap,aq,ar,rfl,ak,au⟩;refine ⟨_,rfl,go ?_⟩;replace aa:=aa.grow ak;refine Zo hm (fun hb hm=>go ?_) fun hb hm=>go ?_
 ·cases hm;exact ⟨rfl,rfl,aa.below⟩
 cases hm;exact ⟨rfl,rfl,aa.below⟩
theorem Zqv (N:Nat) (l:List Int) (x:Int) (hl:l.length≤1048576):∀ (n k:Nat),l.length<n+k→k≤l.length→Ze3 N l x n (k:Int)=some (decide (x ∈ l.drop k))
 | 0,k,h,hk=>by omega
 | n+1,k,h,hk=>by
  rw [Ze3.eq_2]
  by_cases hlt:k<l.length
  ·rw [if_pos (by simpa using hlt),Zy hlt,oB,wS (by omega),Zqv N l x hl n (k+1) (by omega) (by omega),List.drop_eq_getElem_cons hlt]
   by_cases he:l[k]=x
   ·rw [if_pos (by simpa using he),decide_eq_true (by rw [he];exact List.mem_cons_self)]
   ·rw [if_neg (by simpa using he)]
    exact congrArg some (decide_eq_decide.2 ⟨fun h=>List.mem_cons_of_mem _ h,fun h=>(List.mem_cons.1 h).resolve_left (Ne.symm he)⟩)
  ·rw [if_neg (by simpa using hlt),List.drop_eq_nil_of_le (by omega)];simp
theorem Zn9 {N:Nat} {l:List Int} {x:Int} (hl:l.length≤1048576) (hN:1048576<N):Ze2 N l x=some (decide (x ∈ l)):=by
 rw [Ze2];simpa using Zqv N l x hl N 0 (by omega) (by omega)
def Ul (m:Int) (P:List R2):Bool:=P.all fun l=>l.all fun p=>decide (0≤p∧p<m)
theorem Ztz (N:Nat) (P:List R2) (i:Nat) (hi:i<P.length) (hP:P.length≤1048576) (hl:P[i].length≤1048576) (kk:Int→Option Bool):∀ (n k:Nat),P[i].length<n+k→k≤P[i].length→
  Zbl N P (i:Int) kk n (k:Int)=if (P[i].drop k).all (fun p=>decide (0≤p∧p<(P.length:Int))) then kk ((i+1:Nat):Int) else some false
 | 0,k,h,hk=>by omega
 | n+1,k,h,hk=>by
  rw [Zbl.eq_2,Zy hi,oB]
  by_cases hlt:k<P[i].length
  ·rw [if_pos (by simpa using hlt),Zy hlt,oB,Zh5,Zh5,wS (by omega),Ztz N P i hi hP hl kk n (k+1) (by omega) (by omega),List.drop_eq_getElem_cons hlt]
   by_cases h1:P[i][k]<0
   ·rw [if_pos (by simpa using h1),if_pos rfl,if_neg (fun h=>by rw [List.all_cons,Bool.and_eq_true,decide_eq_true_eq] at h;omega)]
   ·rw [if_neg (by simpa using h1)]
    by_cases h2:(P.length:Int)≤P[i][k]
    ·rw [if_pos (by simpa using h2),if_neg (fun h=>by rw [List.all_cons,Bool.and_eq_true,decide_eq_true_eq] at h;omega)]
    ·rw [if_neg (by simpa using h2)]
     simp only [List.all_cons,Bool.and_eq_true]
     have h3:decide (0≤P[i][k]∧P[i][k]<(P.length:Int))=true:=by simp;omega
     simp only [h3,true_and]
  ·rw [if_neg (by simpa using hlt),List.drop_eq_nil_of_le (by omega),wS (by omega)];simp
theorem Zty (N:Nat) (P:List R2) (hP:P.length≤1048576) (hl:∀ l ∈ P,l.length≤1048576) (hN:1048576<N):∀ (n i:Nat),P.length<n+i→i≤P.length→
  Zaj N P n (i:Int)=some (Ul P.length (P.drop i))
 | 0,i,h,hi=>by omega
 | n+1,i,h,hi=>by
  rw [Zaj.eq_2]
  by_cases hlt:i<P.length
  ·have h0:=Ztz N P i hlt hP (hl _ (List.getElem_mem hlt)) (Zaj N P n) N 0 (by have:=hl _ (List.getElem_mem hlt);omega) (by omega)
   rw [if_pos (by simpa using hlt)]
   rw [show (0:Int)=((0:Nat):Int) from rfl,h0,Zty N P hP hl hN n (i+1) (by omega) (by omega),List.drop_eq_getElem_cons hlt]
   simp only [Ul,List.all_cons,List.drop_zero]
   by_cases h1:(P[i].all fun p=>decide (0≤p∧p<(P.length:Int)))=true
   ·rw [if_pos h1,h1,Bool.true_and]
   ·rw [if_neg h1,Bool.eq_false_iff.2 h1,Bool.false_and]
  ·rw [if_neg (by simpa using hlt),List.drop_eq_nil_of_le (by omega)];rfl
theorem Z35 {N:Nat} {P:List R2} (hP:P.length≤1048576) (hl:∀ l ∈ P,l.length≤1048576) (hN:1048576<N):Zh4 N P=some (Ul P.length P):=by
 rw [Zh4];simpa using Zty N P hP hl hN N 0 (by omega) (by omega)
def Tb (P:List R2):Bool:=P.any fun l=>!decide l.Nodup
theorem Zvj (l:List Int) (k:Nat) (hk:k<l.length):(l.take (k+1)).Nodup↔(l.take k).Nodup∧l[k] ∉ l.take k:=by
 rw [List.take_succ_eq_append_getElem hk,List.nodup_append]
 simp only [List.nodup_cons,List.not_mem_nil,not_false_eq_true,List.nodup_nil,and_self,List.mem_singleton,true_and]
 constructor
 ·rintro ⟨h1,h2⟩;exact ⟨h1,fun h=>h2 _ h _ rfl rfl⟩
 ·rintro ⟨h1,h2⟩;exact ⟨h1,fun a ha b hb e=>h2 (by rw [← hb,← e];exact ha)⟩
theorem Zzl (N:Nat) (P:List R2) (i:Nat) (hi:i<P.length) (hP:P.length≤1048576) (hl:P[i].length≤1048576) (hN:1048576<N) (kk:Int→Option Bool):∀ (n k:Nat),P[i].length<n+k→k≤P[i].length→(P[i].take k).Nodup→
  Ze4 N P (i:Int) kk n (k:Int)=if P[i].Nodup then kk ((i+1:Nat):Int) else some true
 | 0,k,h,hk,_=>by omega
 | n+1,k,h,hk,hnd=>by
  rw [Ze4.eq_2,Zy hi,oB]
  by_cases hlt:k<P[i].length
  ·rw [if_pos (by simpa using hlt),Zz (by omega),Zy hlt,oB,Zn9 (by simp;omega) hN,oB,Int.toNat_natCast]
   by_cases h1:P[i][k] ∈ P[i].take k
   ·rw [if_pos (by simpa using h1),if_neg]
    intro h2
    exact ((Zvj _ k hlt).1 (h2.sublist (List.take_sublist _ _))).2 h1
   ·rw [if_neg (by simpa using h1),wS (by omega)]
    exact Zzl N P i hi hP hl hN kk n (k+1) (by omega) (by omega) ((Zvj _ k hlt).2 ⟨hnd,h1⟩)
  ·rw [if_neg (by simpa using hlt),wS (by omega)]
   rw [List.take_of_length_le (by omega)] at hnd
   rw [if_pos hnd]
theorem Zzk (N:Nat) (P:List R2) (hP:P.length≤1048576) (hl:∀ l ∈ P,l.length≤1048576) (hN:1048576<N):∀ (n i:Nat),P.length<n+i→i≤P.length→
  Zbn N P n (i:Int)=some (Tb (P.drop i))
 | 0,i,h,hi=>by omega
 | n+1,i,h,hi=>by
  rw [Zbn.eq_2]
  by_cases hlt:i<P.length
  ·have h0:=Zzl N P i hlt hP (hl _ (List.getElem_mem hlt)) hN (Zbn N P n) N 0 (by have:=hl _ (List.getElem_mem hlt);omega) (by omega) (by simp)
   rw [if_pos (by simpa using hlt)]
   rw [show (0:Int)=((0:Nat):Int) from rfl,h0,Zzk N P hP hl hN n (i+1) (by omega) (by omega),List.drop_eq_getElem_cons hlt]
   simp only [Tb,List.any_cons]
   by_cases h1:P[i].Nodup
   ·rw [if_pos h1];simp [h1]
   ·rw [if_neg h1];simp [h1]
  ·rw [if_neg (by simpa using hlt),List.drop_eq_nil_of_le (by omega)];rfl
theorem Z6y {N:Nat} {P:List R2} (hP:P.length≤1048576) (hl:∀ l ∈ P,l.length≤1048576) (hN:1048576<N):Zh8 N P=some (Tb P):=by
 rw [Zh8];simpa using Zzk N P hP hl hN N 0 (by omega) (by omega)
def Ta (P:List R2):Nat:=(P.map List.length).sum
theorem Zk6 (l:List Int) (P:List R2):Ta (l :: P)=l.length+Ta P:=by simp [Ta]
theorem Zny {l:List Int}:∀ {P:List R2},l ∈ P→l.length≤Ta P
 | x :: P,h=>by
  rw [Zk6]
  rcases List.mem_cons.1 h with rfl | h
  ·omega
  ·have:=Zny h;omega
def Zo2:Nat→List R2→List R5
 | _,[]=>[]
 | k,l :: P=>l.map (fun p=>(p,(k:Int)))++Zo2 (k+1) P
theorem Z25:∀ (k:Nat) (P:List R2),(Zo2 k P).length=Ta P
 | _,[]=>rfl
 | k,l :: P=>by rw [Zo2,nA,List.length_map,Z25,Zk6]
def Tn (P:List R2) (l:List Int) (i:Nat):Bool:=!decide ((i:Int) ∈ l)&&(P.getD i []).all fun p=>decide (p ∈ l)
def Vm (P:List R2) (l:List Int) (i:Nat):Option Nat:=(List.range' i (P.length - i)).find? (Tn P l)
theorem Z44 (P:List R2) (l:List Int) (i:Nat) (h:P.length≤i):Vm P l i=none:=by
 rw [Vm,Nat.sub_eq_zero_of_le h];rfl
theorem Z46 (P:List R2) (l:List Int) (i:Nat) (h:i<P.length):Vm P l i=if Tn P l i then some i else Vm P l (i+1):=by
 rw [Vm,Vm,show P.length - i=(P.length - (i+1))+1 by omega,List.range'_succ,List.find?_cons]
 cases Tn P l i <;> simp
section
variable (N:Nat) (P:List R2) (l:List Int)
theorem Zpq (hP:P.length≤1048576) (hl:l.length≤1048576) (hN:1048576<N) (next:Int) (i:Nat) (hi:i<P.length) (hli:P[i].length≤1048576) (kk:Int→Int→Option R2):∀ (n:Nat) (b:Bool) (k:Nat),P[i].length<n+k→k≤P[i].length→
  Zbm N P l next (i:Int) kk n b (k:Int)=kk (if (b&&(P[i].drop k).all fun p=>decide (p ∈ l))=true then (i:Int) else next) ((i+1:Nat):Int)
 | 0,b,k,h,hk=>by omega
 | n+1,b,k,h,hk=>by
  rw [Zbm.eq_2,Zy hi,oB]
  by_cases hlt:k<P[i].length
  ·rw [if_pos (by simpa using hlt),Zy hlt,oB,Zn9 hl hN,oB,Zh7,Zh7,wS (by omega),Zpq hP hl hN next i hi hli kk n _ (k+1) (by omega) (by omega),Zpq hP hl hN next i hi hli kk n _ (k+1) (by omega) (by omega),List.drop_eq_getElem_cons hlt,List.all_cons]
   cases b
   ·rw [if_neg (by decide),Bool.false_and,Bool.false_and]
   ·rw [if_pos rfl,Bool.true_and]
  ·rw [if_neg (by simpa using hlt),List.drop_eq_nil_of_le (by omega),Zh6,Zh6,wS (by omega),List.all_nil,Bool.and_true]
   cases b
   ·rw [if_neg (by decide),if_neg (by decide)]
   ·rw [if_pos rfl,if_pos rfl]
def Zwg (kk:List Int→Option R2):Option Nat→Option R2
 | none=>some l
 | some i=>kk (l++[(i:Int)])
theorem Zvt (hl:l.length<1048576) (kk:List Int→Option R2) (i:Nat) (i':Int) (kk2:Int→Int→Option R2):Zcx N P l kk (i:Int) i' kk2 false=kk (l++[(i:Int)]):=by
 rw [Zcx,if_neg (by decide),if_neg (by rw [decide_eq_true_eq];omega),Zz (by simp only [nC,nN,maxLen];omega)]
theorem Zvs (hP:P.length≤1048576) (hls:∀ x ∈ P,x.length≤1048576) (hl:l.length<1048576) (hN:1048576<N) (kk:List Int→Option R2):∀ (n i:Nat),P.length<n+i→i≤P.length→
  Tk N P l kk n (-1) (i:Int)=Zwg l kk (Vm P l i)
 | 0,i,h,hi=>by omega
 | n+1,i,h,hi=>by
  rw [Tk.eq_2]
  by_cases hlt:i<P.length
  ·have h3:=Zpq N P l hP (by omega) hN (-1) i hlt (hls _ (List.getElem_mem hlt)) (Tk N P l kk n) N (!decide ((i:Int) ∈ l)) 0 (by have:=hls _ (List.getElem_mem hlt);omega) (by omega)
   rw [if_pos (by simpa using hlt),Zcx,if_pos (by decide),Zn9 (by omega) hN,oB]
   rw [show (0:Int)=((0:Nat):Int) from rfl,h3,Z46 P l i hlt,List.drop_zero]
   have hb:(!decide ((i:Int) ∈ l)&&P[i].all fun p=>decide (p ∈ l))=Tn P l i:=by
    rw [Tn,List.getD_eq_getElem?_getD,List.getElem?_eq_getElem hlt];rfl
   rw [hb]
   by_cases hr:Tn P l i=true
   ·rw [if_pos hr,if_pos hr]
    match n,h with
    | 0,h=>omega
    | n+1,h=>
     rw [Tk.eq_2]
     by_cases h2:i+1<P.length
     ·rw [if_pos (dT (by omega)),show decide ((i:Int)<0)=false from decide_eq_false (by omega)]
      exact Zvt N P l hl kk i _ _
     ·rw [if_neg (by rw [decide_eq_true_eq];omega)]
      exact Zvt N P l hl kk i _ _
   ·rw [if_neg hr,if_neg hr]
    exact Zvs hP hls hl hN kk n (i+1) (by omega) (by omega)
  ·rw [if_neg (by simpa using hlt),Z44 P l i (by omega),Zcx,if_neg (by decide),if_pos (by decide)];rfl
end
theorem Zvu {N:Nat} {P:List R2} {l:List Int} (hP:P.length≤1048576) (hls:∀ x ∈ P,x.length≤1048576) (hl:l.length<1048576) (hN:1048576<N) (n:Nat):
  Ux N P (n+1) l=Zwg l (Ux N P n) (Vm P l 0):=by
 rw [Ux.eq_2]
 exact Zvs N P l hP hls hl hN _ N 0 (by omega) (by omega)
theorem Zvh {P:List R2} {l:List Int} {i j:Nat} (h:Vm P l i=some j):i≤j∧j<P.length∧Tn P l j=true∧∀ k,i≤k→k<j→Tn P l k=false:=by
 rw [Vm,List.find?_range'_eq_some] at h
 obtain ⟨h1,h2,h3⟩:=h
 rw [List.mem_range'] at h2
 obtain ⟨q,h4,h5⟩:=h2
 refine ⟨by omega,by omega,h1,fun k hk1 hk2=>?_⟩
 have:=h3 k hk1 hk2
 simpa using this
theorem Z45 {P:List R2} {l:List Int} {i:Nat} (h:Vm P l i=none):∀ k,i≤k→k<P.length→Tn P l k=false:=by
 rw [Vm,List.find?_eq_none] at h
 intro k hk1 hk2
 have:=h k (by rw [List.mem_range'];exact ⟨k - i,by omega,by omega⟩)
 simpa using this
theorem Z6b {P:List R2} {l:List Int} {i:Nat} (hi:i<P.length):Tn P l i=true↔(i:Int) ∉ l∧∀ p ∈ P[i],p ∈ l:=by
 rw [Tn,List.getD_eq_getElem?_getD,List.getElem?_eq_getElem hi]
 simp
def Tq (P:List R2) (l:List Int):Prop:=l.Nodup∧(∀ x ∈ l,0≤x∧x<(P.length:Int))∧∀ (i:Nat) (hi:i<P.length),(i:Int) ∈ l→∀ p ∈ P[i],p ∈ l
theorem Tq.len {P:List R2} {l:List Int} (h:Tq P l):l.length≤P.length:=by
 have h1:=Zku (r:=(List.range P.length).map fun i:Nat=>(i:Int)) h.1 fun x hx=>by
  have:=h.2.1 x hx
  exact List.mem_map.2 ⟨x.toNat,List.mem_range.2 (by omega),by omega⟩
 simpa using h1
theorem Tq.step {P:List R2} {l:List Int} {j:Nat} (h:Tq P l) (hn:Vm P l 0=some j):Tq P (l++[(j:Int)])∧l.length<P.length:=by
 obtain ⟨_,h2,h3,_⟩:=Zvh hn
 obtain ⟨h4,h5⟩:=(Z6b h2).1 h3
 have h6:Tq P (l++[(j:Int)]):=by
  refine ⟨?_,?_,?_⟩
  ·rw [List.nodup_append]
   refine ⟨h.1,by simp,fun a ha b hb e=>?_⟩
   rw [List.mem_singleton] at hb;subst hb;subst e;exact h4 ha
  ·intro x hx
   rcases List.mem_append.1 hx with hx | hx
   ·exact h.2.1 x hx
   ·rw [List.mem_singleton] at hx;omega
  ·intro i hi hm p hp
   rcases List.mem_append.1 hm with hm | hm
   ·exact List.mem_append_left _ (h.2.2 i hi hm p hp)
   ·rw [List.mem_singleton] at hm
    have:i=j:=by omega
    subst this
    exact List.mem_append_left _ (h5 p hp)
 exact ⟨h6,by have:=h6.len;rw [nA,nC,nN] at this;omega⟩
theorem Zvv {N:Nat} {P:List R2} (hP:P.length<1048576) (hls:∀ x ∈ P,x.length≤1048576) (hN:1048576<N):∀ (n:Nat) (l:List Int),Tq P l→P.length<n+l.length→
  ∃ r,Ux N P n l=some r∧Tq P r∧Vm P r 0=none
 | 0,l,h,hn=>by have:=h.len;omega
 | n+1,l,h,hn=>by
  have hl:=h.len
  rw [Zvu (by omega) hls (by omega) hN]
  cases hnx:Vm P l 0 with
  | none=>exact ⟨l,rfl,h,hnx⟩
  | some j=>
   obtain ⟨h1,h2⟩:=h.step hnx
   exact Zvv hP hls hN n _ h1 (by simp;omega)
theorem Z5e {N:Nat} {P:List R2} (hP:P.length<1048576) (hls:∀ x ∈ P,x.length≤1048576) (hN:1048576<N):∃ r,Qq N P=some r∧Tq P r∧Vm P r 0=none:=by
 rw [Qq]
 exact Zvv hP hls hN N [] ⟨.nil,by simp,by simp⟩ (by simp;omega)
def gD (h:List Int) (j:Nat):Int:=h.getD j 0
theorem Qd {h:List Int} {j:Nat} (hj:j<h.length):gD h j=h[j]:=by rw [gD,List.getD_eq_getElem?_getD,List.getElem?_eq_getElem hj];rfl
theorem Q2 {h:List Int} {j:Nat} (hj:j<h.length):Zj h (j:Int)=some (gD h j):=by rw [Zy hj,Qd hj]
def To (h:List Int) (i p:Nat):List Int:=(h.set i (gD h p)).set p (gD h i)
theorem Zk4 (h:List Int) (i p:Nat):(To h i p).length=h.length:=by simp [To]
theorem Zy8 {h:List Int} {i p:Nat} (hi:i<h.length) (hp:p<h.length):(To h i p).Perm h:=by
 rw [To,Qd hi,Qd hp];exact List.set_set_perm hi hp
theorem Zl4 (h:List Int) (i j:Nat) (x:Int) (hi:i<h.length):gD (h.set i x) j=if j=i then x else gD h j:=by
 rw [gD,gD,List.getD_eq_getElem?_getD,List.getD_eq_getElem?_getD,List.getElem?_set]
 by_cases h1:i=j
 ·subst h1;rw [if_pos rfl,if_pos hi,if_pos rfl];rfl
 ·rw [if_neg h1,if_neg (Ne.symm h1)]
theorem Zb8 {h:List Int} {i p:Nat} (hi:i<h.length) (hp:p<h.length) (j:Nat):gD (To h i p) j=if j=p then gD h i else if j=i then gD h p else gD h j:=by
 rw [To,Zl4 _ _ _ _ (by simpa using hp),Zl4 _ _ _ _ hi]
def T6 (h:List Int) (n:Nat):Prop:=∀ j,0<j→j<n→gD h ((j - 1) / 2)≤gD h j
theorem T6.min {h:List Int} {n:Nat} (hh:T6 h n):∀ j,j<n→gD h 0≤gD h j:=by
 intro j
 induction j using Nat.strongRecOn with
 | ind j ih=>
  intro hj
  by_cases h0:j=0
  ·subst h0;exact Int.le_refl _
  ·exact Int.le_trans (ih ((j - 1) / 2) (by omega) (by omega)) (hh j (by omega) hj)
/-! ### push -/
def Zlg (h:List Int) (i:Nat):Prop:=(∀ j,0<j→j<h.length→j≠i→gD h ((j - 1) / 2)≤gD h j)∧∀ j,0<j→j<h.length→(j - 1) / 2=i→0<i→gD h ((i - 1) / 2)≤gD h j
theorem Zlg.step {h:List Int} {i:Nat} (hu:Zlg h i) (hi:i<h.length) (h0:0<i) (hlt:gD h i<gD h ((i - 1) / 2)):Zlg (To h i ((i - 1) / 2)) ((i - 1) / 2):=by
 have hp:(i - 1) / 2<h.length:=by omega
 refine ⟨fun j hj0 hj hjp=>?_,fun j hj0 hj hjp hp0=>?_⟩
 ·rw [Zk4] at hj
  rw [Zb8 hi hp,Zb8 hi hp,if_neg hjp]
  by_cases hji:j=i
  ·subst hji;rw [if_pos rfl,if_pos rfl];omega
  ·rw [if_neg hji]
   have h1:=hu.1 j hj0 hj hji
   by_cases hq:(j - 1) / 2=(i - 1) / 2
   ·rw [if_pos hq];rw [hq] at h1;omega
   ·rw [if_neg hq]
    by_cases hq2:(j - 1) / 2=i
    ·rw [if_pos hq2];exact hu.2 j hj0 hj hq2 h0
    ·rw [if_neg hq2];exact h1
 ·rw [Zk4] at hj
  rw [Zb8 hi hp,Zb8 hi hp,if_neg (by omega),if_neg (by omega),if_neg (by omega)]
  have h1:=hu.1 ((i - 1) / 2) hp0 hp (by omega)
  by_cases hji:j=i
  ·rw [if_pos hji];exact h1
  ·rw [if_neg hji]
   have h2:=hu.1 j hj0 hj hji
   rw [hjp] at h2;omega
theorem Zv1 {i:Nat} (h0:0<i) (h1:i≤9000000):i64.wrap (Int.tdiv (i64.wrap ((i:Int) - 1)) 2)=(((i - 1) / 2:Nat):Int):=by
 rw [Zr (x:=(i:Int) - 1) (by omega),Int.tdiv_eq_ediv_of_nonneg (by omega),Zr (by omega)];omega
theorem Zwe (N:Nat):∀ (n:Nat) (h:List Int) (i:Nat),i<n→i<h.length→h.length≤9000000→Zlg h i→
  ∃ h',Za2 N n h (i:Int)=some h'∧h'.Perm h∧T6 h' h'.length
 | 0,h,i,hn,_,_,_=>by omega
 | n+1,h,i,hn,hi,hl,hu=>by
  rw [Za2.eq_2]
  by_cases h0:0<i
  ·have hp:(i - 1) / 2<h.length:=by omega
   rw [if_pos (dT (by omega)),Q2 hi,oB,Zv1 h0 (by omega),Q2 hp,oB,Zgr,Zv1 h0 (by omega)]
   by_cases hlt:gD h i<gD h ((i - 1) / 2)
   ·obtain ⟨h',h1,h2,h3⟩:=Zwe N n (To h i ((i - 1) / 2)) ((i - 1) / 2) (by omega) (by rw [Zk4];exact hp) (by rw [Zk4];exact hl) (hu.step hi h0 hlt)
    refine ⟨h',?_,h2.trans (Zy8 hi hp),h3⟩
    rw [if_pos (dT hlt),Q2 hp,oB,Q2 hi,oB,oB,Int.toNat_natCast,Int.toNat_natCast,Zy (by simpa using hp),oB,oB]
    exact h1
   ·refine ⟨h,by rw [if_neg (by simpa using hlt)],.refl _,fun j hj0 hj=>?_⟩
    by_cases hji:j=i
    ·subst hji;omega
    ·exact hu.1 j hj0 hj hji
  ·have:i=0:=by omega
   subst this
   rw [if_neg (by decide),Zgr,if_neg (by decide)]
   exact ⟨h,rfl,.refl _,fun j hj0 hj=>hu.1 j hj0 hj (by omega)⟩
theorem Zts {h:List Int} {x:Int} {j:Nat} (hj:j<h.length):gD (h++[x]) j=gD h j:=by
 rw [Qd hj,Qd (by simp;omega),List.getElem_append_left hj]
theorem Zwf {N:Nat} {h:List Int} (x:Int) (hl:h.length<2000000) (hh:T6 h h.length) (hN:2000000<N):∃ h',Zgq N h x=some h'∧h'.Perm (x :: h)∧T6 h' h'.length:=by
 rw [Zgq,Zz (by simp only [nC,nN,maxLen];omega)]
 have hle:(h++[x]).length=h.length+1:=by simp
 rw [Zr (by omega),show (((h++[x]).length:Int) - 1)=((h.length:Nat):Int) by omega]
 obtain ⟨h',h1,h2,h3⟩:=Zwe N N (h++[x]) h.length (by omega) (by omega) (by omega) ⟨fun j hj0 hj hji=>by rw [Zts (by omega),Zts (by omega)];exact hh j hj0 (by omega),fun j hj0 hj hji h0=>by omega⟩
 exact ⟨h',h1,h2.trans (List.perm_append_singleton x h),h3⟩
/-! ### pop -/
def Zi4 (l:List Int) (n i:Nat):Prop:=(∀ j,0<j→j<n→(j - 1) / 2≠i→gD l ((j - 1) / 2)≤gD l j)∧∀ j,0<j→j<n→(j - 1) / 2=i→0<i→gD l ((i - 1) / 2)≤gD l j
theorem Zi4.step {l:List Int} {n i q:Nat} (hu:Zi4 l n i) (hn:n≤l.length) (hi:i<n) (hq:q<n) (hqi:(q - 1) / 2=i) (hq0:0<q) (hlt:gD l q<gD l i) (hle:∀ j,0<j→j<n→(j - 1) / 2=i→gD l q≤gD l j):Zi4 (To l i q) n q:=by
 have hi':i<l.length:=by omega
 have hq':q<l.length:=by omega
 refine ⟨fun j hj0 hj hjp=>?_,fun j hj0 hj hjp _=>?_⟩
 ·rw [Zb8 hi' hq',Zb8 hi' hq',if_neg hjp]
  by_cases h1:(j - 1) / 2=i
  ·rw [if_pos h1]
   by_cases h2:j=q
   ·rw [if_pos h2];omega
   ·rw [if_neg h2,if_neg (by omega)];exact hle j hj0 hj h1
  ·rw [if_neg h1,if_neg (show j≠q by omega)]
   by_cases h2:j=i
   ·subst h2
    rw [if_pos rfl];exact hu.2 q hq0 hq hqi hj0
   ·rw [if_neg h2];exact hu.1 j hj0 hj h1
 ·rw [Zb8 hi' hq',Zb8 hi' hq',hqi,if_neg (by omega),if_pos rfl,if_neg (by omega),if_neg (by omega)]
  have:=hu.1 j hj0 hj (by omega)
  rwa [hjp] at this
theorem Z6w {l:List Int} {n i q:Nat} (hn:n≤l.length) (hi:i<n) (hq:q<n):(To l i q).take n=To (l.take n) i q:=by
 have h1:∀ j,j<n→gD (l.take n) j=gD l j:=fun j hj=>by rw [Qd (by simp;omega),Qd (by omega),List.getElem_take]
 rw [To,To,List.take_set,List.take_set,h1 i hi,h1 q hq]
theorem Zwb (N:Nat) (p0:List Int) (x0:Int) (n:Nat) (hp0:p0.length=n+1) (hn:n≤2000000) (hN:2000000<N):∀ (m:Nat) (l:List Int) (i:Nat),n<m+i→(i<n∨n=0∧i=0)→l.length=n+1→Zi4 l n i→
  ∃ t,Sh N p0 x0 m l (i:Int)=some (x0,t)∧t.Perm (l.take n)∧T6 t n
 | 0,l,i,hm,hi,hl,hu=>by omega
 | m+1,l,i,hm,hi,hl,hu=>by
  rw [Sh.eq_2]
  obtain ⟨N,rfl⟩:∃ N',N=N'+1+1+1:=⟨N - 3,by omega⟩
  have w1:i64.wrap ((p0.length:Int) - 1)=(n:Int):=by rw [Zr (by omega)];omega
  have wa:i64.wrap (i64.wrap (2 * (i:Int))+1)=((2 * i+1:Nat):Int):=by rw [Zr (x:=2 * (i:Int)) (by omega),Zr (by omega)];omega
  have wb:i64.wrap (i64.wrap (2 * (i:Int))+2)=((2 * i+2:Nat):Int):=by rw [Zr (x:=2 * (i:Int)) (by omega),Zr (by omega)];omega
  -- one child after the other
  have stepv:∀ (v:Nat) (k least:Nat),v<2→k=2 * i+1+v→(least<n∨n=0)→least<l.length→∀ f kk,Si (N+1+1+1) p0 x0 l (i:Int) kk (f+1) (v:Int) (least:Int)=
    Si (N+1+1+1) p0 x0 l (i:Int) kk f ((v+1:Nat):Int) ((if k<n∧gD l k<gD l least then k else least:Nat):Int):=by
   intro v k least hv hk hle hll f kk
   rw [Si.eq_2,if_pos (dT (by omega)),wa,wb,w1]
   have hat:Zj [((2 * i+1:Nat):Int),((2 * i+2:Nat):Int)] (v:Int)=some (k:Int):=by
    rw [V1]
    match v,hv with
    | 0,_=>simp [hk]
    | 1,_=>simp [hk];omega
   rw [hat,oB]
   by_cases h1:k<n
   ·rw [if_pos (dT (by omega)),Q2 (by omega),oB,Q2 hll,oB,Zgp,Zcc,Zcc,wS (by omega)]
    by_cases h2:gD l k<gD l least
    ·rw [if_pos (dT h2),if_pos ⟨h1,h2⟩]
    ·rw [if_neg (by simpa using h2),if_neg (fun h=>h2 h.2)]
   ·rw [if_neg (by rw [decide_eq_true_eq];omega),Zgp,Zcc,Zcc,if_neg (by decide),wS (by omega),if_neg (fun h=>h1 h.1)]
  have hil:i<l.length:=by omega
  have e1:=stepv 0 (2 * i+1) i (by omega) (by omega) (by omega) hil (N+1+1) (Sh (N+1+1+1) p0 x0 m)
  generalize hq1:(if 2 * i+1<n∧gD l (2 * i+1)<gD l i then 2 * i+1 else i)=q1 at e1
  have hq1':(q1=i∧(2 * i+1<n→gD l i≤gD l (2 * i+1)))∨(q1=2 * i+1∧q1<n∧gD l q1<gD l i):=by
   by_cases hc:2 * i+1<n∧gD l (2 * i+1)<gD l i
   ·rw [if_pos hc] at hq1;subst hq1;exact .inr ⟨rfl,hc.1,hc.2⟩
   ·rw [if_neg hc] at hq1;subst hq1;exact .inl ⟨rfl,fun h=>by omega⟩
  have e2:=stepv 1 (2 * i+2) q1 (by omega) (by omega) (by omega) (by omega) (N+1) (Sh (N+1+1+1) p0 x0 m)
  generalize hq2:(if 2 * i+2<n∧gD l (2 * i+2)<gD l q1 then 2 * i+2 else q1)=q2 at e2
  have hq2':(q2=i∧(2 * i+1<n→gD l i≤gD l (2 * i+1))∧(2 * i+2<n→gD l i≤gD l (2 * i+2)))∨((q2=2 * i+1∨q2=2 * i+2)∧q2<n∧gD l q2<gD l i∧(2 * i+1<n→gD l q2≤gD l (2 * i+1))∧(2 * i+2<n→gD l q2≤gD l (2 * i+2))):=by
   by_cases hc:2 * i+2<n∧gD l (2 * i+2)<gD l q1
   ·rw [if_pos hc] at hq2;subst hq2
    rcases hq1' with ⟨rfl,h3⟩ | ⟨rfl,h3,h4⟩
    ·exact .inr ⟨.inr rfl,hc.1,hc.2,fun h=>by have:=h3 h;omega,fun _=>Int.le_refl _⟩
    ·exact .inr ⟨.inr rfl,hc.1,by omega,fun _=>by omega,fun _=>Int.le_refl _⟩
   ·rw [if_neg hc] at hq2;subst hq2
    rcases hq1' with ⟨rfl,h3⟩ | ⟨rfl,h3,h4⟩
    ·exact .inl ⟨rfl,h3,fun h=>by omega⟩
    ·exact .inr ⟨.inl rfl,h3,h4,fun _=>Int.le_refl _,fun h=>by omega⟩
  rw [show (0:Int)=((0:Nat):Int) from rfl,e1]
  rw [show ((0+1:Nat):Int)=((1:Nat):Int) from rfl,e2,Si.eq_2,if_neg (by decide),w1,Int.toNat_natCast]
  rcases hq2' with ⟨rfl,h3,h4⟩ | ⟨h2,h3,h4,h5,h6⟩
  ·rw [if_pos (by simp)]
   refine ⟨_,rfl,.refl _,fun j hj0 hj=>?_⟩
   have ht:∀ k,k<n→gD (l.take n) k=gD l k:=fun k hk=>by rw [Qd (by simp;omega),Qd (by omega),List.getElem_take]
   rw [ht _ (by omega),ht _ hj]
   by_cases hq:(j - 1) / 2=q2
   ·rw [hq]
    rcases (show j=2 * q2+1∨j=2 * q2+2 by omega) with rfl | rfl
    ·exact h3 hj
    ·exact h4 hj
   ·exact hu.1 j hj0 hj hq
  ·have hq2l:q2<l.length:=by omega
   have hin:i<n:=by omega
   have hd:=hu.step (by omega) hin h3 (by omega) (by omega) h4 (fun j hj0 hj hji=>by
    rcases (show j=2 * i+1∨j=2 * i+2 by omega) with rfl | rfl
    ·exact h5 hj
    ·exact h6 hj)
   obtain ⟨t,k1,k2,k3⟩:=Zwb (N+1+1+1) p0 x0 n hp0 hn hN m (To l i q2) q2 (by omega) (.inl h3) (by rw [Zk4];exact hl) hd
   refine ⟨t,?_,k2.trans ?_,k3⟩
   ·rw [if_neg (by simp;omega),Q2 hq2l,oB,Q2 hil,oB,oB,Int.toNat_natCast,Int.toNat_natCast,Zy (by simpa using hq2l),oB,oB]
    exact k1
   ·rw [Z6w (by omega) hin h3];exact Zy8 (by simp;omega) (by simp;omega)
theorem Z5g {N:Nat} {h:List Int} (hl:h.length≤2000000) (h0:0<h.length) (hh:T6 h h.length) (hN:2000000<N):∃ x t,Zjk N h=some (x,t)∧h.Perm (x :: t)∧(∀ y ∈ h,x≤y)∧T6 t t.length:=by
 rw [Zjk]
 obtain ⟨n,hn⟩:∃ n,h.length=n+1:=⟨h.length - 1,by omega⟩
 have w1:i64.wrap ((h.length:Int) - 1)=(n:Int):=by rw [Zr (by omega)];omega
 rw [w1,show (0:Int)=((0:Nat):Int) from rfl,Q2 h0,oB,Q2 (by omega),oB,oB,Zz (by simp;omega),Int.toNat_natCast]
 have hd:Zi4 (h.set 0 (gD h n)) n 0:=by
  refine ⟨fun j hj0 hj hji=>?_,fun j _ _ _ h=>by omega⟩
  rw [Zl4 _ _ _ _ h0,Zl4 _ _ _ _ h0,if_neg (by omega),if_neg (by omega)]
  exact hh j hj0 (by omega)
 obtain ⟨t,h1,h2,h3⟩:=Zwb N h (gD h 0) n hn (by omega) hN N (h.set 0 (gD h n)) 0 (by omega) (by omega) (by simpa using hn) hd
 have hpm:h.Perm (gD h 0 :: (h.set 0 (gD h n)).take n):=by
  match h,hn with
  | x :: r,hn=>
   have hr:r.length=n:=by simpa using hn
   match n,hr with
   | 0,hr=>rw [List.length_eq_zero_iff.1 hr];exact .refl _
   | n+1,hr=>
    have e:gD (x :: r) (n+1)=gD r n:=rfl
    rw [e,List.set_cons_zero,List.take_succ_cons]
    refine List.Perm.cons x ?_
    have:r=r.take n++[gD r n]:=by
     have:=List.take_succ_eq_append_getElem (show n<r.length by omega)
     rw [List.take_of_length_le (by omega)] at this
     rw [Qd (by omega)];exact this
    conv=>lhs;rw [this]
    exact List.perm_append_singleton _ _
 have hp2:h.Perm (gD h 0 :: t):=hpm.trans (List.Perm.cons _ h2.symm)
 refine ⟨gD h 0,t,h1,hp2,fun y hy=>?_,?_⟩
 ·obtain ⟨j,hj,rfl⟩:=List.getElem_of_mem hy
  rw [← Qd hj];exact hh.min j hj
 ·have:=hp2.length_eq
  rw [nC,hn] at this
  rw [show t.length=n by omega];exact h3
theorem Yb {α:Type} {l:List α} {d:α} {j:Nat} (hj:j<l.length):l.getD j d=l[j]:=by rw [List.getD_eq_getElem?_getD,List.getElem?_eq_getElem hj];rfl
theorem Vk {α:Type} {l:List α} (d:α) {j:Nat} (hj:j<l.length):Zj l (j:Int)=some (l.getD j d):=by rw [Zy hj,Yb hj]
theorem Qh {α:Type} (l:List α) (d:α) (i j:Nat) (x:α) (hi:i<l.length):(l.set i x).getD j d=if j=i then x else l.getD j d:=by
 rw [List.getD_eq_getElem?_getD,List.getD_eq_getElem?_getD,List.getElem?_set]
 by_cases h1:i=j
 ·subst h1;rw [if_pos rfl,if_pos hi,if_pos rfl];rfl
 ·rw [if_neg h1,if_neg (Ne.symm h1)]
def V9:Nat→List R2→Int→List Int
 | _,[],_=>[]
 | k,l :: P,p=>List.replicate (l.count p) (k:Int)++V9 (k+1) P p
def Zla (n:Nat) (l:List Int):Prop:=∀ x ∈ l,0≤x∧x<(n:Int)
theorem Zr7 (k:Nat) (kk:Nat→List R2→Option Rd):∀ (l:List Int) (out:List R2),Zla out.length l→(∀ p:Nat,(out.getD p []).length+l.length≤1048576)→
  ∃ out',Zca k kk l out=kk (k+1) out'∧out'.length=out.length∧∀ p:Nat,p<out.length→out'.getD p []=out.getD p []++List.replicate (l.count (p:Int)) (k:Int)
 | [],out,h,hb=>⟨out,by rw [Zca.eq_1],rfl,fun p hp=>by simp⟩
 | x :: l,out,h,hb=>by
  obtain ⟨h0,h1⟩:=h x List.mem_cons_self
  obtain ⟨q,rfl⟩:=Int.eq_ofNat_of_zero_le h0
  have hq:q<out.length:=by omega
  have hbq:=hb q
  simp only [nC] at hbq hb
  rw [Zca.eq_2,Vk [] hq,oB,Zz (by simp only [nC,nN,maxLen];omega),Int.toNat_natCast]
  obtain ⟨out',h2,h3,h4⟩:=Zr7 k kk l (out.set q (out.getD q []++[(k:Int)])) (by rw [nS];exact fun y hy=>h y (List.mem_cons_of_mem _ hy)) (fun p=>by
   rw [Qh _ _ _ _ _ hq]
   have:=hb p
   split
   ·simp only [nA,nC,nN];omega
   ·omega)
  refine ⟨out',h2,by rw [h3,nS],fun p hp=>?_⟩
  rw [h4 p (by rw [nS];exact hp),Qh _ _ _ _ _ hq,List.count_cons]
  by_cases hpq:p=q
  ·subst hpq
   rw [if_pos rfl,if_pos (by simp),List.append_assoc,show l.count (p:Int)+1=1+l.count (p:Int) by omega,show [(k:Int)]=List.replicate 1 (k:Int) from rfl,List.replicate_append_replicate]
  ·rw [if_neg hpq,if_neg (by simp;omega),Nat.add_zero]
theorem Zt5 (p:Int):∀ (k:Nat) (P:List R2),(V9 k P p).length≤Ta P
 | _,[]=>by simp [V9]
 | k,l :: P=>by
  rw [V9,nA,List.length_replicate,Zk6]
  have:=Zt5 p (k+1) P
  have:=List.count_le_length (a:=p) (l:=l)
  omega
theorem Zr6 (n:Nat):∀ (P:List R2) (k:Nat) (out:List R2),out.length=n→(∀ l ∈ P,Zla n l)→(∀ p:Nat,(out.getD p []).length+Ta P≤1048576)→
  ∃ out',Q6 P k out=some out'∧out'.length=n∧∀ p:Nat,p<n→out'.getD p []=out.getD p []++V9 k P p
 | [],k,out,hn,_,_=>⟨out,by rw [Q6.eq_1],hn,fun p hp=>by simp [V9]⟩
 | l :: P,k,out,hn,h,hb=>by
  simp only [Zk6] at hb
  rw [Q6.eq_2]
  obtain ⟨out1,h1,h2,h3⟩:=Zr7 k (Q6 P) l out (by rw [hn];exact h l List.mem_cons_self) (fun p=>by have:=hb p;omega)
  obtain ⟨out',h4,h5,h6⟩:=Zr6 n P (k+1) out1 (by omega) (fun x hx=>h x (List.mem_cons_of_mem _ hx)) (fun p=>by
   have:=hb p
   by_cases hp:p<out.length
   ·rw [h3 p hp,nA,List.length_replicate]
    have:=List.count_le_length (a:=(p:Int)) (l:=l)
    omega
   ·rw [List.getD_eq_getElem?_getD,List.getElem?_eq_none (by omega)];simp;omega)
  refine ⟨out',by rw [h1,h4],h5,fun p hp=>?_⟩
  rw [h6 p hp,h3 p (by omega),List.append_assoc,V9]
theorem Z2k {P:List R2} (hP:P.length≤1048576) (ht:Ta P≤1048576) (h:∀ l ∈ P,Zla P.length l):∃ D,Zgm P=some D∧D.length=P.length∧∀ p:Nat,p<P.length→D.getD p []=V9 0 P p:=by
 rw [Zgm,Zz (by simp only [maxLen];omega)]
 have hr:∀ p:Nat,(List.replicate P.length ([]:List Int)).getD p []=[]:=fun p=>by
  rw [List.getD_eq_getElem?_getD,List.getElem?_replicate];split <;> rfl
 obtain ⟨D,h1,h2,h3⟩:=Zr6 P.length P 0 (List.replicate P.length []) (by simp) h (fun p=>by rw [hr];simpa using ht)
 exact ⟨D,h1,h2,fun p hp=>by rw [h3 p hp,hr];rfl⟩
theorem Zpb (p:Int):∀ (k:Nat) (P:List R2) (c:Nat),(V9 k P p).count (c:Int)=if k≤c then (P.getD (c - k) []).count p else 0
 | k,[],c=>by simp [V9]
 | k,l :: P,c=>by
  rw [V9,List.count_append,Zpb p (k+1) P c,List.count_replicate]
  by_cases h1:k=c
  ·subst h1
   rw [if_pos (by simp),if_neg (by omega),if_pos (Nat.le_refl _),Nat.sub_self];rfl
  ·rw [if_neg (by simp;omega)]
   by_cases h2:k≤c
   ·rw [if_pos (by omega),if_pos h2,show c - k=(c - (k+1))+1 by omega];simp
   ·rw [if_neg (by omega),if_neg h2]
theorem Zt6 (p:Int):∀ (k:Nat) (P:List R2) (x:Int),x ∈ V9 k P p→∃ c:Nat,x=(c:Int)∧k≤c∧c<k+P.length
 | k,[],x,h=>by simp [V9] at h
 | k,l :: P,x,h=>by
  rw [V9] at h
  rcases List.mem_append.1 h with h | h
  ·exact ⟨k,(List.mem_replicate.1 h).2,Nat.le_refl _,by simp⟩
  ·obtain ⟨c,h1,h2,h3⟩:=Zt6 p (k+1) P x h
   exact ⟨c,h1,by omega,by rw [nC];omega⟩
def Tr (P:List R2) (out:List Int) (c:Nat):Nat:=(P.getD c []).countP fun q=>!decide (q ∈ out)
theorem Zsf (out:List Int) (p:Int) (hp:p ∉ out):∀ l:List Int,(l.countP fun q=>!decide (q ∈ out))=(l.countP fun q=>!decide (q ∈ out++[p]))+l.count p
 | []=>rfl
 | x :: l=>by
  rw [List.countP_cons,List.countP_cons,List.count_cons,Zsf out p hp l]
  by_cases h1:x=p
  ·subst h1
   have h2:(!decide (x ∈ out))=true:=by simp [hp]
   have h3:(!decide (x ∈ out++[x]))=false:=by simp
   rw [h2,h3];simp;omega
  ·have h3:(x ∈ out++[p])↔x ∈ out:=by simp [h1]
   rw [show (!decide (x ∈ out++[p]))=(!decide (x ∈ out)) from congrArg _ (decide_eq_decide.2 h3),if_neg (show ¬ ((x==p)=true) by simpa using h1)];omega
theorem Zsb {P:List R2} {out:List Int} {p:Int} (hp:p ∉ out) (c:Nat):Tr P out c=Tr P (out++[p]) c+(P.getD c []).count p:=Zsf out p hp _
theorem Zxm (P:List R2) (out:List Int) (c:Nat):Tn P out c=true↔(c:Int) ∉ out∧Tr P out c=0:=by
 rw [Tn,Tr,List.countP_eq_zero]
 simp
structure Zlb (P:List R2) (out left ready:List Int):Prop where
 ok:Tq P out
 len:left.length=P.length
 cnt:∀ c:Nat,c<P.length→left.getD c 0=(Tr P out c:Int)
 heap:T6 ready ready.length
 nd:ready.Nodup
 mem:∀ y:Int,y ∈ ready↔∃ c:Nat,c<P.length∧y=(c:Int)∧(c:Int) ∉ out∧left.getD c 0=0
theorem Zqm (N:Nat) (P:List R2) (hP:P.length≤1048576) (ht:Ta P≤1048576) (hN:2000000<N) (out:List Int) (p:Nat) (r2:List Int) (kk:List Int→List Int→List Int→Option R2):
  ∀ (rest left ready:List Int),rest.length≤9000000000000000000→left.length=P.length→(∀ c:Nat,c<P.length→left.getD c 0=((Tr P (out++[(p:Int)]) c+rest.count (c:Int):Nat):Int))→
   T6 ready ready.length→ready.Nodup→(∀ y:Int,y ∈ ready↔∃ c:Nat,c<P.length∧y=(c:Int)∧(c:Int) ∉ out++[(p:Int)]∧left.getD c 0=0)→
   (∀ x ∈ rest,∃ c:Nat,c<P.length∧x=(c:Int)∧x ∉ out++[(p:Int)])→
   ∃ left' ready',Zab N out kk ((p:Int),r2) rest left ready=kk left' ready' (out++[(p:Int)])∧left'.length=P.length∧(∀ c:Nat,c<P.length→left'.getD c 0=(Tr P (out++[(p:Int)]) c:Int))∧
    T6 ready' ready'.length∧ready'.Nodup∧∀ y:Int,y ∈ ready'↔∃ c:Nat,c<P.length∧y=(c:Int)∧(c:Int) ∉ out++[(p:Int)]∧left'.getD c 0=0
 | [],left,ready,_,h1,h2,h3,h4,h5,_=>⟨left,ready,by rw [Zab.eq_1],h1,fun c hc=>by rw [h2 c hc];simp,h3,h4,h5⟩
 | x :: rest,left,ready,hrest,h1,h2,h3,h4,h5,h6=>by
  obtain ⟨c0,hc0,rfl,hx⟩:=h6 x List.mem_cons_self
  have hc0l:c0<left.length:=by omega
  have hcx:=h2 c0 hc0
  rw [List.count_cons,if_pos (by simp)] at hcx
  have hle:Tr P (out++[(p:Int)]) c0≤1048576:=by
   have h7:=List.countP_le_length (p:=fun q=>!decide (q ∈ out++[(p:Int)])) (l:=P.getD c0 [])
   rw [Yb hc0] at h7
   have h8:=Zny (P:=P) (List.getElem_mem hc0)
   rw [Tr,Yb hc0];omega
  have hrl:ready.length≤P.length:=by
   have h7:=Zku (r:=(List.range P.length).map fun i:Nat=>(i:Int)) h4 fun y hy=>by
    obtain ⟨c,h8,h9,_⟩:=(h5 y).1 hy
    exact List.mem_map.2 ⟨c,List.mem_range.2 h8,h9.symm⟩
   simpa using h7
  have hv:i64.wrap (left.getD c0 0 - 1)=((Tr P (out++[(p:Int)]) c0+rest.count (c0:Int):Nat):Int):=by
   have h9:=List.count_le_length (a:=(c0:Int)) (l:=rest)
   rw [hcx,Zr]
   ·omega
   ·simp only [nC] at hrest
    omega
  have hl1:∀ c:Nat,c<P.length→(left.set c0 (i64.wrap (left.getD c0 0 - 1))).getD c 0=((Tr P (out++[(p:Int)]) c+rest.count (c:Int):Nat):Int):=fun c hc=>by
   rw [Qh _ _ _ _ _ hc0l]
   by_cases hcc:c=c0
   ·subst hcc;rw [if_pos rfl,hv]
   ·rw [if_neg hcc,h2 c hc,List.count_cons,if_neg (by simp;omega),Nat.add_zero]
  have hne:left.getD c0 0≠0:=by rw [hcx];omega
  have hnr:(c0:Int) ∉ ready:=fun h=>by
   obtain ⟨c,h8,h9,_,h10⟩:=(h5 _).1 h
   have:c=c0:=by omega
   subst this;exact hne h10
  have h6':∀ x ∈ rest,∃ c:Nat,c<P.length∧x=(c:Int)∧x ∉ out++[(p:Int)]:=fun x hx=>h6 x (List.mem_cons_of_mem _ hx)
  have hr':rest.length≤9000000000000000000:=by simp only [nC] at hrest;omega
  rw [Zab.eq_2,Vk 0 hc0l,oB,oB,Int.toNat_natCast,Vk 0 (by rw [nS];exact hc0l),oB,Zgt,Qh _ _ _ _ _ hc0l,if_pos rfl]
  by_cases hz:i64.wrap (left.getD c0 0 - 1)=0
  ·obtain ⟨ready1,k1,k2,k3⟩:=Zwf (N:=N) (c0:Int) (by omega:ready.length<2000000) h3 hN
   rw [if_pos (by simpa using hz),k1,oB,Zgt]
   refine Zqm N P hP ht hN out p r2 kk rest _ ready1 hr' (by rw [nS];exact h1) hl1 k3 (k2.nodup_iff.2 (List.nodup_cons.2 ⟨hnr,h4⟩)) (fun y=>?_) h6'
   rw [k2.mem_iff,List.mem_cons]
   constructor
   ·rintro (rfl | hy)
    ·exact ⟨c0,hc0,rfl,hx,by rw [Qh _ _ _ _ _ hc0l,if_pos rfl,hz]⟩
    ·obtain ⟨c,h8,h9,h10,h11⟩:=(h5 y).1 hy
     refine ⟨c,h8,h9,h10,?_⟩
     rw [Qh _ _ _ _ _ hc0l]
     split
     ·exact hz
     ·exact h11
   ·rintro ⟨c,h8,h9,h10,h11⟩
    by_cases hcc:c=c0
    ·subst hcc;exact .inl h9
    ·rw [Qh _ _ _ _ _ hc0l,if_neg hcc] at h11
     exact .inr ((h5 y).2 ⟨c,h8,h9,h10,h11⟩)
  ·rw [if_neg (by simpa using hz)]
   refine Zqm N P hP ht hN out p r2 kk rest _ ready hr' (by rw [nS];exact h1) hl1 h3 h4 (fun y=>?_) h6'
   rw [h5 y]
   constructor
   ·rintro ⟨c,h8,h9,h10,h11⟩
    refine ⟨c,h8,h9,h10,?_⟩
    rw [Qh _ _ _ _ _ hc0l,if_neg (fun h=>hne (by rw [← h];exact h11))];exact h11
   ·rintro ⟨c,h8,h9,h10,h11⟩
    refine ⟨c,h8,h9,h10,?_⟩
    rw [Qh _ _ _ _ _ hc0l] at h11
    split at h11
    ·exact absurd h11 hz
    ·exact h11
theorem Z6u {N:Nat} {P D:List R2} (hP:P.length≤1048576) (ht:Ta P≤1048576) (hN:2000000<N) (hD:D.length=P.length) (hDk:∀ p:Nat,p<P.length→D.getD p []=V9 0 P p) {out left ready:List Int} (hi:Zlb P out left ready) (n:Nat):
  (Vm P out 0=none→U4 N D (n+1) left ready out=some out)∧
  ∀ p,Vm P out 0=some p→∃ left' ready',Zlb P (out++[(p:Int)]) left' ready'∧U4 N D (n+1) left ready out=U4 N D n left' ready' (out++[(p:Int)]):=by
 have hrl:ready.length≤P.length:=by
  have h7:=Zku (r:=(List.range P.length).map fun i:Nat=>(i:Int)) hi.nd fun y hy=>by
   obtain ⟨c,h8,h9,_⟩:=(hi.mem y).1 hy
   exact List.mem_map.2 ⟨c,List.mem_range.2 h8,h9.symm⟩
  simpa using h7
 have hrd:∀ c:Nat,c<P.length→(Tn P out c=true↔(c:Int) ∈ ready):=fun c hc=>by
  rw [Zxm,hi.mem]
  constructor
  ·rintro ⟨h1,h2⟩;exact ⟨c,hc,rfl,h1,by rw [hi.cnt c hc,h2];rfl⟩
  ·rintro ⟨c',h1,h2,h3,h4⟩
   have:c'=c:=by omega
   subst this
   rw [hi.cnt c' h1] at h4
   exact ⟨h3,by omega⟩
 refine ⟨fun hn=>?_,fun p hn=>?_⟩
 ·have h0:ready=[]:=by
   cases hr:ready with
   | nil=>rfl
   | cons y l=>
    obtain ⟨c,h1,h2,_⟩:=(hi.mem y).1 (by rw [hr];exact List.mem_cons_self)
    have h3:=Z45 hn c (Nat.zero_le _) h1
    have h4:=(hrd c h1).2 (by rw [← h2,hr];exact List.mem_cons_self)
    rw [h3] at h4;cases h4
  rw [U4.eq_2,h0,if_neg (by decide)]
 ·obtain ⟨_,hp,hr,hmin⟩:=Zvh hn
  have hpr:=(hrd p hp).1 hr
  have hpos:0<ready.length:=List.length_pos_of_mem hpr
  obtain ⟨x,t,k1,k2,k3,k4⟩:=Z5g (N:=N) (by omega:ready.length≤2000000) hpos hi.heap hN
  have hxr:x ∈ ready:=k2.mem_iff.2 List.mem_cons_self
  have hxp:x=(p:Int):=by
   obtain ⟨c,h1,h2,_⟩:=(hi.mem x).1 hxr
   have h3:=k3 _ hpr
   have h4:¬ c<p:=fun hlt=>by
    have h5:=hmin c (Nat.zero_le _) hlt
    have h6:=(hrd c h1).2 (by rw [← h2];exact hxr)
    rw [h5] at h6;cases h6
   omega
  subst hxp
  have hnd:((p:Int) :: t).Nodup:=k2.nodup_iff.1 hi.nd
  obtain ⟨hp1,hp2⟩:=(Zxm P out p).1 hr
  obtain ⟨hok,hlt⟩:=hi.ok.step hn
  have hol:=hi.ok.len
  have hself:(P.getD p []).count (p:Int)=0:=by have:=Zsb (P:=P) hp1 p;omega
  rw [U4.eq_2,if_pos (dT (by omega)),k1,oB,Zz (by simp only [nC,nN,maxLen];omega),Vk [] (by rw [hD];exact hp),oB,hDk p hp]
  have hkl:=Zt5 (p:Int) 0 P
  obtain ⟨left',ready',h1,h2,h3,h4,h5,h6⟩:=Zqm N P hP ht hN out p t (U4 N D n) (V9 0 P p) left t (by omega) hi.len (fun c hc=>by
    rw [hi.cnt c hc,Zsb hp1 c,Zpb (p:Int) 0 P c,if_pos (Nat.zero_le _),Nat.sub_zero]) k4 (List.nodup_cons.1 hnd).2 (fun y=>by
    have h7:y ∈ t↔y ∈ ready∧y≠(p:Int):=by
     rw [k2.mem_iff,List.mem_cons]
     exact ⟨fun h=>⟨.inr h,fun e=>(List.nodup_cons.1 hnd).1 (by rw [← e];exact h)⟩,fun h=>h.1.resolve_left h.2⟩
    rw [h7,hi.mem]
    constructor
    ·rintro ⟨⟨c,h8,h9,h10,h11⟩,h12⟩
     exact ⟨c,h8,h9,by rw [List.mem_append,List.mem_singleton];exact fun h=>h.elim h10 fun h=>h12 (by rw [h9,h]),h11⟩
    ·rintro ⟨c,h8,h9,h10,h11⟩
     rw [List.mem_append,List.mem_singleton] at h10
     exact ⟨⟨c,h8,h9,fun h=>h10 (.inl h),h11⟩,fun h=>h10 (.inr (by rw [← h9,h]))⟩) (fun x hx=>by
    obtain ⟨c,h7,_,h8⟩:=Zt6 (p:Int) 0 P x hx
    have h8:c<P.length:=by omega
    have h9:=Zpb (p:Int) 0 P c
    rw [if_pos (Nat.zero_le _),Nat.sub_zero] at h9
    have h10:0<(P.getD c []).count (p:Int):=by rw [← h9,← h7];exact List.count_pos_iff.2 hx
    refine ⟨c,h8,h7,fun h=>?_⟩
    rcases List.mem_append.1 h with h | h
    ·rw [h7] at h
     have h11:=hi.ok.2.2 c h8 h (p:Int) (by rw [Yb h8] at h10;exact List.count_pos_iff.1 h10)
     exact hp1 h11
    ·rw [List.mem_singleton] at h
     have:c=p:=by omega
     subst this
     omega)
  exact ⟨left',ready',⟨hok,h2,h3,h4,h5,h6⟩,h1⟩
theorem Zy6 {N:Nat} {P D:List R2} (hP:P.length<1048576) (hls:∀ x ∈ P,x.length≤1048576) (ht:Ta P≤1048576) (hN:2000000<N) (hD:D.length=P.length) (hDk:∀ p:Nat,p<P.length→D.getD p []=V9 0 P p):∀ (n:Nat) (out left ready:List Int),Zlb P out left ready→P.length<n+out.length→
  U4 N D n left ready out=Ux N P n out
 | 0,out,left,ready,hi,hn=>by have:=hi.ok.len;omega
 | n+1,out,left,ready,hi,hn=>by
  have hl:=hi.ok.len
  obtain ⟨h1,h2⟩:=Z6u (N:=N) (by omega) ht hN hD hDk hi n
  rw [Zvu (by omega) hls (by omega) (by omega)]
  cases hnx:Vm P out 0 with
  | none=>rw [h1 hnx];rfl
  | some p=>
   obtain ⟨left',ready',h3,h4⟩:=h2 p hnx
   rw [h4]
   exact Zy6 hP hls ht hN hD hDk n _ _ _ h3 (by simp;omega)
theorem Zql {N:Nat} (P D:List R2) (hP:P.length<1048576) (hN:2000000<N) (hl:∀ l ∈ P,l.length≤1048576):∀ (Q:List R2) (k:Nat) (left ready:List Int),P.drop k=Q→k≤P.length→left.length=P.length→
  (∀ c:Nat,c<k→left.getD c 0=((P.getD c []).length:Int))→T6 ready ready.length→ready.Nodup→(∀ y:Int,y ∈ ready↔∃ c:Nat,c<k∧y=(c:Int)∧(P.getD c []).length=0)→
  ∃ left' ready',Zaa N D Q k left ready=U4 N D N left' ready' []∧Zlb P [] left' ready'
 | [],k,left,ready,hQ,hk,h1,h2,h3,h4,h5=>by
  have hkP:k=P.length:=by have:=congrArg List.length hQ;simp at this;omega
  subst hkP
  have hc0:∀ c,Tr P [] c=(P.getD c []).length:=fun c=>by
   rw [Tr,List.countP_eq_length.2 (fun a _=>by simp)]
  refine ⟨left,ready,by rw [Zaa.eq_1],⟨⟨.nil,by simp,by simp⟩,h1,fun c hc=>by rw [h2 c hc,hc0],h3,h4,fun y=>?_⟩⟩
  rw [h5]
  constructor
  ·rintro ⟨c,h6,h7,h8⟩;exact ⟨c,h6,h7,by simp,by rw [h2 c h6,h8];rfl⟩
  ·rintro ⟨c,h6,h7,_,h8⟩;exact ⟨c,h6,h7,by rw [h2 c h6] at h8;omega⟩
 | x :: Q,k,left,ready,hQ,hk,h1,h2,h3,h4,h5=>by
  have hkl:k<P.length:=by
   rcases Nat.lt_or_ge k P.length with h | h
   ·exact h
   ·rw [List.drop_eq_nil_of_le h] at hQ;cases hQ
  rw [List.drop_eq_getElem_cons hkl] at hQ
  obtain ⟨hx,hQ⟩:=List.cons.inj hQ
  have hxd:P.getD k []=x:=by rw [Yb hkl,hx]
  have hkl':k<left.length:=by omega
  have hrl:ready.length≤k:=by
   have h7:=Zku (r:=(List.range k).map fun i:Nat=>(i:Int)) h4 fun y hy=>by
    obtain ⟨c,h8,h9,_⟩:=(h5 y).1 hy
    exact List.mem_map.2 ⟨c,List.mem_range.2 h8,h9.symm⟩
   simpa using h7
  have hl1:∀ c:Nat,c<k+1→(left.set k (x.length:Int)).getD c 0=((P.getD c []).length:Int):=fun c hc=>by
   rw [Qh _ _ _ _ _ hkl']
   by_cases hck:c=k
   ·subst hck;rw [if_pos rfl,hxd]
   ·rw [if_neg hck,h2 c (by omega)]
  have hnr:(k:Int) ∉ ready:=fun h=>by obtain ⟨c,h6,h7,_⟩:=(h5 _).1 h;omega
  rw [Zaa.eq_2,Vk 0 hkl',oB,oB,Int.toNat_natCast]
  by_cases h0:x.length=0
  ·obtain ⟨ready1,k1,k2,k3⟩:=Zwf (N:=N) (k:Int) (by omega:ready.length<2000000) h3 hN
   rw [if_pos (dT (by omega)),k1,oB,Zgu]
   refine Zql P D hP hN hl Q (k+1) _ ready1 hQ (by omega) (by rw [nS];exact h1) hl1 k3 (k2.nodup_iff.2 (List.nodup_cons.2 ⟨hnr,h4⟩)) (fun y=>?_)
   rw [k2.mem_iff,List.mem_cons,h5]
   constructor
   ·rintro (rfl | ⟨c,h6,h7,h8⟩)
    ·exact ⟨k,by omega,rfl,by rw [hxd];exact h0⟩
    ·exact ⟨c,by omega,h7,h8⟩
   ·rintro ⟨c,h6,h7,h8⟩
    by_cases hck:c=k
    ·subst hck;exact .inl h7
    ·exact .inr ⟨c,by omega,h7,h8⟩
  ·rw [if_neg (by rw [decide_eq_true_eq];omega),Zgu]
   refine Zql P D hP hN hl Q (k+1) _ ready hQ (by omega) (by rw [nS];exact h1) hl1 h3 h4 (fun y=>?_)
   rw [h5]
   constructor
   ·rintro ⟨c,h6,h7,h8⟩;exact ⟨c,by omega,h7,h8⟩
   ·rintro ⟨c,h6,h7,h8⟩
    by_cases hck:c=k
    ·subst hck;rw [hxd] at h8;exact absurd h8 h0
    ·exact ⟨c,by omega,h7,h8⟩
theorem Z6t {N:Nat} {P D:List R2} (hP:P.length<1048576) (hls:∀ x ∈ P,x.length≤1048576) (ht:Ta P≤1048576) (hN:2000000<N) (hD:D.length=P.length) (hDk:∀ p:Nat,p<P.length→D.getD p []=V9 0 P p):Zgs N P D=Qq N P:=by
 rw [Zgs,Zz (by simp only [maxLen];omega),Qq]
 obtain ⟨left,ready,h1,h2⟩:=Zql (N:=N) P D hP hN hls P 0 (List.replicate P.length 0) [] rfl (Nat.zero_le _) (by simp) (fun c hc=>by omega) (fun j _ hj=>by simp at hj) .nil (fun y=>by simp)
 rw [h1]
 exact Zy6 hP hls ht hN hD hDk N [] _ _ h2 (by simp;omega)
theorem Zs7 (kk:Option Int):∀ (l:List Int) (seen:List R5) (S:List Int),S.Nodup→(∀ k,Wq seen k=if k ∈ S then some 1 else none)→Zcb kk l seen=if (S++l).Nodup then kk else some 40
 | [],seen,S,h1,h2=>by rw [Zcb.eq_1,List.append_nil,if_pos h1]
 | x :: l,seen,S,h1,h2=>by
  rw [Zcb.eq_2,h2 x]
  by_cases hx:x ∈ S
  ·rw [if_pos hx,if_pos (by decide),if_neg]
   intro h
   exact (List.nodup_append.1 h).2.2 x hx x List.mem_cons_self rfl
  ·rw [if_neg hx,if_neg (by decide),oB,Zs7 kk l _ (S++[x]) (by
    rw [List.nodup_append]
    refine ⟨h1,by simp,fun a ha b hb e=>?_⟩
    rw [List.mem_singleton] at hb;subst hb;subst e;exact hx ha) (fun k=>by
    rw [Zu3,h2 k]
    by_cases hk:k=x
    ·subst hk;rw [if_pos rfl,if_pos (by simp)]
    ·rw [if_neg hk]
     by_cases hs:k ∈ S
     ·rw [if_pos hs,if_pos (by simp [hs])]
     ·rw [if_neg hs,if_neg (by simp [hs,hk])])]
   rw [List.append_assoc];rfl
theorem Zs6:∀ P:List R2,Q8 P=if Tb P then some 40 else some 0
 | []=>by rw [Q8.eq_1];rfl
 | l :: P=>by
  rw [Q8.eq_2,Zs7 _ l [] [] .nil (fun k=>by simp [Wq]),Zs6 P,List.nil_append]
  by_cases h:l.Nodup
  ·rw [if_pos h]
   have:Tb (l :: P)=Tb P:=by rw [Tb,Tb,List.any_cons,decide_eq_true h];rfl
   rw [this]
  ·rw [if_neg h]
   have:Tb (l :: P)=true:=by rw [Tb,List.any_cons,decide_eq_false h];rfl
   rw [this];rfl
theorem Zs8 (P:List R2) (kk:Option Int):∀ l:List Int,Q9 P kk l=if (l.all fun p=>decide (0≤p∧p<(P.length:Int)))=true then kk else some 3
 | []=>by rw [Q9.eq_1];rfl
 | x :: l=>by
  rw [Q9.eq_2,Zs8 P kk l,Zgo,Zgo,List.all_cons]
  by_cases h1:x<0
  ·rw [if_pos (by simpa using h1),if_pos rfl,decide_eq_false (by omega),Bool.false_and,if_neg (by decide)]
  ·rw [if_neg (by simpa using h1)]
   by_cases h2:(P.length:Int)≤x
   ·rw [if_pos (by simpa using h2),decide_eq_false (by omega),Bool.false_and,if_neg (by decide)]
   ·rw [if_neg (by simpa using h2),decide_eq_true (by omega),Bool.true_and]
theorem Zs5 (P:List R2):∀ Q:List R2,Q7 P Q=if Ul P.length Q=true then Q8 P else some 3
 | []=>by rw [Q7.eq_1];rfl
 | l :: Q=>by
  rw [Q7.eq_2,Zs8,Zs5 P Q]
  by_cases h:(l.all fun p=>decide (0≤p∧p<(P.length:Int)))=true
  ·rw [if_pos h]
   have:Ul P.length (l :: Q)=Ul P.length Q:=by rw [Ul,Ul,List.all_cons,h,Bool.true_and]
   rw [this]
  ·rw [if_neg h]
   have:Ul P.length (l :: Q)=false:=by rw [Ul,List.all_cons,Bool.eq_false_iff.2 h,Bool.false_and]
   rw [this,if_neg (by decide)]
theorem Z3r (P:List R2):Zgn P=if Ul P.length P=true then (if Tb P=true then some 40 else some 0) else some 3:=by
 rw [Zgn,Zs5,Zs6]
structure Zld (P:List R2):Prop where
 n:P.length≤1048575
 t:Ta P≤1048576
theorem Zld.ls {P:List R2} (h:Zld P):∀ x ∈ P,x.length≤1048576:=fun x hx=>Nat.le_trans (Zny hx) h.t
theorem Ztx {P:List R2} {n:Nat} (h:Ul n P=true):∀ l ∈ P,Zla n l:=by
 intro l hl x hx
 rw [Ul,List.all_eq_true] at h
 have:=List.all_eq_true.1 (h l hl) x hx
 simpa using this
inductive Zlc (N:Nat) (P:List R2):Prop
 | err (e:Int) (D:Za1 N P=some ([],e)) (R:Qp N P=some e) (ne:e=3∨e=40):Zlc N P
 | cyc (I:Ul P.length P=true) (T:Tb P=false) (l:List Int) (o:Qq N P=some l) (ok:Tq P l) (mx:Vm P l 0=none) (lt:l.length<P.length) (D:Za1 N P=some ([],42)) (R:Qp N P=some 42):Zlc N P
 | ord (I:Ul P.length P=true) (T:Tb P=false) (l:List Int) (o:Qq N P=some l) (ok:Tq P l) (mx:Vm P l 0=none) (eq:l.length=P.length) (D:Za1 N P=some (l,0)) (R:Qp N P=some 0):Zlc N P
theorem Zy1 {N:Nat} {P:List R2} (h:Zld P) (hN:2000000<N):Zlc N P:=by
 have hn:=h.n
 have ht:=h.t
 have hls:=h.ls
 have hls':∀ x ∈ P,x.length≤1048576:=fun x hx=>by have:=hls x hx;omega
 have hD:Za1 N P=(Zgn P).bind fun r_1=>if (!decide (r_1=0))=true then (some (([]:List Int),r_1)) else ((Zgm P).bind fun r_5=>(Zgs N P r_5).bind fun r_13=>if (decide ((r_13.length:Int)<(P.length:Int)))=true then (some (([]:List Int),42)) else (some (r_13,0))):=by rw [Za1]
 have hR:Qp N P=(Zh4 N P).bind fun r_1=>if (!r_1)=true then (some 3) else ((Zh8 N P).bind fun r_5=>if r_5=true then (some 40) else ((Qq N P).bind fun r_9=>if (decide ((r_9.length:Int)<(P.length:Int)))=true then (some 42) else (some 0))):=by rw [Qp]
 rw [Z3r] at hD
 rw [Z35 (by omega) hls' (by omega),oB] at hR
 by_cases hI:Ul P.length P=true
 ·rw [hI,if_neg (by decide),Z6y (by omega) hls' (by omega),oB] at hR
  rw [if_pos hI] at hD
  by_cases hT:Tb P=true
  ·rw [if_pos hT] at hD hR
   exact .err 40 (by rw [hD];rfl) hR (.inr rfl)
  ·rw [if_neg hT] at hD hR
   obtain ⟨l,h1,h2,h3⟩:=Z5e (N:=N) (P:=P) (by omega) hls' (by omega)
   obtain ⟨D,h4,h5,h6⟩:=Z2k (P:=P) (by omega) (by omega) (Ztx hI)
   rw [h1,oB] at hR
   rw [oB,if_neg (by decide),h4,oB,Z6t (by omega) hls' (by omega) hN h5 h6,h1,oB] at hD
   have hT:=Bool.eq_false_iff.2 hT
   have hle:=h2.len
   by_cases hlt:l.length<P.length
   ·rw [if_pos (dT (by omega))] at hR hD
    exact .cyc hI hT l h1 h2 h3 hlt hD hR
   ·rw [if_neg (by rw [decide_eq_true_eq];omega)] at hR hD
    exact .ord hI hT l h1 h2 h3 (by omega) hD hR
 ·rw [Bool.eq_false_iff.2 hI,if_pos (by decide)] at hR
  rw [if_neg hI] at hD
  exact .err 3 (by rw [hD];rfl) hR (.inl rfl)
def Zhr (ab:List Int) (aa:Int) (kk_L1:(Int→Option R2)) (ac:Bool):Option R2:=
  if ac=true then (kk_L1 (i64.wrap (aa - 1))) else (Zv ((0:Int)≤aa∧aa≤(ab.length:Int)) (Zv ((([]:List Int).length+(ab.take (Int.toNat aa)).length) * 4≤140737488355328∧([]:List Int).length+(ab.take (Int.toNat aa)).length≤maxLen) (some (([]:List Int)++(ab.take (Int.toNat aa))))))
def Zbj (N:Nat) (aa:List Int):Nat→Int→Option R2
  | 0,_=>none
  | ac+1,ab=>if (decide (0<ab))=true then ((Zj aa (i64.wrap (ab - 1))).bind fun ad=>Zhr aa ab (Zbj N aa ac) (decide (ad=0))) else (Zhr aa ab (Zbj N aa ac) false)
termination_by structural x=>x
def Vs (N:Nat) (aa:List Int):Option R2:=
  Zbj N aa N (aa.length:Int)
theorem Us {N ae:Nat} {a0:Option Addr} {col:Zd} {w0:World} {ab r:R2} (c1:Nat) (hm:Vs N ab=some r) (h0:Sl (Za.int .u32) col w0 a0 ae ab):
    Calls prog 212 #[.slice a0 ab.length ae] w0 (fun e w'=>∃ (col':Zd) (ra1:Option Addr) (rc2:Nat),e= .returned ((.slice ra1 r.length rc2))∧Zg col w0 col' w'∧Zc (Za.int .u32) 79 c1 col' w' ra1 rc2 r):=by
 refine Xc 2 (m:=24) func212 rfl rfl rfl rfl rfl ?_;rw [Vs.eq_1] at hm;have aa:=St.start col w0;refine go ?_;refine Zw [0,1000000] (fun n f aj=>∃ ak ac ad,ad=n∧Zbj N ab ad ac=some r∧St w0 (Zh col) ak aj∧[3].map f=[.int .i64 ac]) N ⟨_,_,_,rfl,hm,aa,rfl⟩ ?_;clear hm;intro n f aj hI;obtain ⟨ak,ac,ad,hn,hm,aa,hs⟩:=hI;subst hn;refine .lL [3] hs ?_;replace h0:=h0.keep (Zf.start col w0)
 cases ad with
 | zero=>rw [Zbj.eq_1] at hm;cases hm
 | succ ad=>
  rw [Zbj.eq_2] at hm;refine Z0<|Z0 ?_;refine Wp.cutK [0,3,1000000] (fun f al=>∃ am af,Zhr ab ac (Zbj N ab ad) af=some r∧St w0 (Zh col) am al∧[16].map f=[.bool af]) ?_ ?_
  ·intro f al hJ;obtain ⟨am,af,hm,aa,hs⟩:=hJ;rw [Zhr.eq_1] at hm;refine .lL [16] hs ?_;refine Zo hm (fun hb hm=>go ?_) fun hb hm=>go ?_
   ·exact ⟨ad,by omega,rfl,⟨_,_,_,rfl,hm,aa,rfl⟩⟩
   obtain ⟨ag,hm⟩:=Zx hm;refine lv (v:=.slice a0 (Int.toNat ac) ae) rfl rfl (V5 underlying43 sizeOf79 rfl rfl ag.1 (by have:=(h0.ks aa).1.2;have:=ag.2;omega))<|.ld (d:=22) (v:=(.slice a0 ((ab.take (Int.toNat ac)).length) ae)) (congrArg (fun n=>Value.slice a0 n ae) (List.length_take_of_le (show (Int.toNat ac)≤ab.length by have:=ag.2;omega)).symm) ?_;obtain ⟨an,hm⟩:=Zx hm;refine Y3 (c:=1) Zc.nil ((h0.ks aa).take (Int.toNat ac)).srcC an ?_;intro ar au av aw ao ap;refine go ?_;cases hm;replace aa:=aa.kpp ao;exact ⟨rfl,_,_,_,rfl,aa.fin (cm [(1,c1)]),aa.fo ap⟩
  refine go ?_;refine Xt hm (fun ah hm=>go ?_) fun ah hm=>go ?_
  ·obtain ⟨aq,ai,hm⟩:=bZ hm;refine lI ai ((h0.ks aa).addr ai) ?_;refine go ?_;refine lW ((h0.ks aa).atInt ai)<|go ?_;refine lV (.bool (decide (aq=0))) (Xb (congrArg Value.bool ah) rfl)<|Zk ?_;exact ⟨rfl,_,_,hm,aa,rfl⟩
  refine lV (.bool false) (Xm (congrArg Value.bool ah) rfl)<|Zk ?_;exact ⟨rfl,_,_,hm,aa,rfl⟩
def Zeo (N:Nat):Nat→Int→Int→Option Int
  | 0,_,_=>none
  | ac+1,aa,ab=>if (decide (0<ab))=true then ((Zeo N ac) (i64.wrap (aa+1)) (u32.wrap (Int.tdiv ab 2))) else (some aa)
termination_by structural x=>x
def Zj3 (N:Nat) (ab:List Int):Option Int:=
  (Vs N ab).bind fun aa=>if (decide ((aa.length:Int)=0))=true then (some 0) else ((Zj aa (i64.wrap ((aa.length:Int) - 1))).bind fun ac=>Zeo N N (i64.wrap (32 * (i64.wrap ((aa.length:Int) - 1)))) ac)
theorem Z03 {N ag:Nat} {a0:Option Addr} {col:Zd} {w0:World} {ad:R2} {r:Int} (hm:Zj3 N ad=some r) (h0:Sl (Za.int .u32) col w0 a0 ag ad):
    Calls prog 121 #[.slice a0 ad.length ag] w0 (fun e w'=>e= .returned ((.int .i64 r))∧Below w0.heap.size w0 w'):=by
 refine Xc 2 (m:=28) func121 rfl rfl rfl rfl rfl ?_;rw [Zj3.eq_1] at hm;have aa:=St.start col w0;refine go ?_;obtain ⟨am,ak,hm⟩:=bZ hm;replace h0:=h0.keep (Zf.start col w0);refine Zi (Us 1 ak (h0.ks aa)) ?_;rintro _ an ⟨ao,ap,aq,rfl,al,ah⟩;refine ⟨_,rfl,go ?_⟩;replace aa:=aa.grow al;refine Zo hm (fun hb hm=>go ?_) fun hb hm=>go ?_
 ·cases hm;exact ⟨rfl,rfl,aa.below⟩
 obtain ⟨ar,ae,hm⟩:=bZ hm;refine lI ae (ah.addr ae)<|lW (ah.atInt ae) ?_;refine go ?_;refine Zw [1000000] (fun n f ai=>∃ aj af ac ab,ab=n∧Zeo N ab af ac=some r∧St w0 (Zh col) aj ai∧[4,5].map f=[.int .i64 af,.int .u32 ac]) N ⟨_,_,_,_,rfl,hm,aa,rfl⟩ ?_;clear hm;intro n f ai hI;obtain ⟨aj,af,ac,ab,hn,hm,aa,hs⟩:=hI;subst hn;refine .lL [4,5] hs ?_
 cases ab with
 | zero=>rw [Zeo.eq_1] at hm;cases hm
 | succ ab=>
  rw [Zeo.eq_2] at hm;refine go ?_;refine Zo hm (fun hb hm=>go ?_) fun hb hm=>go ?_
  ·refine lV (.int .u32 (u32.wrap (Int.tdiv ac 2))) (Vw ac 2 rfl rfl (by decide))<|go ?_;exact ⟨ab,by omega,rfl,⟨_,_,_,_,rfl,hm,aa,rfl⟩⟩
  cases hm;exact ⟨rfl,rfl,aa.below⟩
def Qo (aa:List Int) (ab:Int):Option Int:=
  if (decide (ab<(aa.length:Int)))=true then ((Zj aa ab).bind fun ac=>some (u64.wrap ac)) else (some 0)
theorem Zdp {ad:Nat} {a0:Option Addr} {col:Zd} {w0:World} {ab:R2} {ae r:Int} (hm:Qo ab ae=some r) (h0:Sl (Za.int .u32) col w0 a0 ad ab):
    Calls prog 275 #[.slice a0 ab.length ad,.int .i64 ae] w0 (fun e w'=>e= .returned ((.int .u64 r))∧Below w0.heap.size w0 w'):=by
 refine Xc 4 (m:=14) func275 rfl rfl rfl rfl rfl ?_;rw [Qo.eq_1] at hm;have aa:=St.start col w0;refine go ?_;replace h0:=h0.keep (Zf.start col w0);refine Zo hm (fun hb hm=>go ?_) fun hb hm=>go ?_
 ·obtain ⟨af,ac,hm⟩:=bZ hm;refine lI ac ((h0.ks aa).addr ac)<|lW ((h0.ks aa).atInt ac) ?_;refine go ?_;cases hm;exact ⟨rfl,rfl,aa.below⟩
 cases hm;exact ⟨rfl,rfl,aa.below⟩
def Zj2 (ab:List Int) (aa:Int):Option Int:=
  (Qo ab (i64.wrap (Int.tdiv aa 32))).bind fun ac=>Zv (0≤(Int.tmod aa 32)) (some (Int.tmod (u32.wrap (Yn .u64 ac (Int.tmod aa 32))) 2))
theorem Z02 {af:Nat} {a0:Option Addr} {col:Zd} {w0:World} {ad:R2} {aa r:Int} (hm:Zj2 ad aa=some r) (h0:Sl (Za.int .u32) col w0 a0 af ad):
    Calls prog 230 #[.slice a0 ad.length af,.int .i64 aa] w0 (fun e w'=>e= .returned ((.int .u32 r))∧Below w0.heap.size w0 w'):=by
 refine Xc 4 (m:=14) func230 rfl rfl rfl rfl rfl ?_;rw [Zj2.eq_1] at hm;have ab:=St.start col w0;refine go ?_;refine lV (.int .i64 (i64.wrap (Int.tdiv aa 32))) (Vw aa 32 rfl rfl (by decide)) ?_;obtain ⟨ac,ag,hm⟩:=bZ hm;replace h0:=h0.keep (Zf.start col w0);refine Zi (Zdp ag (h0.ks ab)) ?_;rintro _ ah ⟨rfl,ae⟩;refine ⟨_,rfl,?_⟩;replace ae:Zg (Zh col) w0 (Zh col) ah:=.of_below ae;refine Xo rfl<|lV (.int .i64 (Int.tmod aa 32)) (Sz aa 32 rfl rfl (by decide)) ?_;obtain ⟨ai,hm⟩:=Zx hm;refine lV (.int .u64 (Yn .u64 ac (Int.tmod aa 32))) (S0 ac (Int.tmod aa 32) rfl rfl ai)<|go ?_;refine lV (.int .u32 (Int.tmod (u32.wrap (Yn .u64 ac (Int.tmod aa 32))) 2)) (Sz (u32.wrap (Yn .u64 ac (Int.tmod aa 32))) 2 rfl rfl (by decide))<|go ?_;cases hm;replace ab:=ab.grow ae;exact ⟨rfl,rfl,ab.below⟩
def Zhw (aa:List Int):Option R2:=
  some aa
def Zev (N:Nat) (ad:List Int):Nat→R2→Int→Int→Option R2
  | 0,_,_,_=>none
  | af+1,ab,aa,ae=>if (decide (ae<(ad.length:Int)))=true then ((Zj ad ae).bind fun ac=>Zv ((ab.length+[u32.wrap (Int.tmod (u64.wrap (aa+(u64.wrap (2 * (u64.wrap ac))))) 4294967296)].length) * 4≤140737488355328∧ab.length+[u32.wrap (Int.tmod (u64.wrap (aa+(u64.wrap (2 * (u64.wrap ac))))) 4294967296)].length≤maxLen) ((Zev N ad af) (ab++[u32.wrap (Int.tmod (u64.wrap (aa+(u64.wrap (2 * (u64.wrap ac))))) 4294967296)]) (u64.wrap (Int.tdiv (u64.wrap (aa+(u64.wrap (2 * (u64.wrap ac))))) 4294967296)) (i64.wrap (ae+1)))) else (if (decide (0<aa))=true then (Zv ((ab.length+[u32.wrap aa].length) * 4≤140737488355328∧ab.length+[u32.wrap aa].length≤maxLen) (Zhw (ab++[u32.wrap aa]))) else (Zhw ab))
termination_by structural x=>x
def Zhv (N:Nat) (aa:List Int) (ab:Int):Option R2:=
  Zev N aa N ([]:List Int) (u64.wrap ab) 0
theorem Zrl {N au:Nat} {a0:Option Addr} {col:Zd} {w0:World} {ag:R2} {av:Int} {r:R2} (c1:Nat) (hm:Zhv N ag av=some r) (h0:Sl (Za.int .u32) col w0 a0 au ag):
    Calls prog 291 #[.slice a0 ag.length au,.int .u32 av] w0 (fun e w'=>∃ (col':Zd) (ra1:Option Addr) (rc2:Nat),e= .returned ((.slice ra1 r.length rc2))∧Zg col w0 col' w'∧Zc (Za.int .u32) 79 c1 col' w' ra1 rc2 r):=by
 refine Xc 4 (m:=40) func291 rfl rfl rfl rfl rfl ?_;rw [Zhv.eq_1] at hm;have aa:=St.start col w0;refine go ?_;refine Zw [0,1000000] (fun n f aj=>∃ ae ak al ah ab am ad,ad=n∧Zev N ag ad ah ab am=some r∧St w0 (Zh col) ae aj∧Zc (Za.int .u32) 79 1 ae aj ak al ah∧[5,6,7].map f=[.slice ak ah.length al,.int .u64 ab,.int .i64 am]) N ⟨_,none,0,_,_,0,_,rfl,hm,aa,Zc.nil,rfl⟩ ?_;clear hm;intro n f aj hI;obtain ⟨ae,ak,al,ah,ab,am,ad,hn,hm,aa,ac,hs⟩:=hI;subst hn;refine .lL [5,6,7] hs ?_;replace h0:=h0.keep (Zf.start col w0)
 cases ad with
 | zero=>rw [Zev.eq_1] at hm;cases hm
 | succ ad=>
  rw [Zev.eq_2] at hm;refine go ?_;refine Zo hm (fun hb hm=>go ?_) fun hb hm=>?_
  ·obtain ⟨af,an,hm⟩:=bZ hm;refine lI an ((h0.ks aa).addr an)<|lW ((h0.ks aa).atInt an) ?_;refine go ?_;refine lV (.int .u64 (Int.tmod (u64.wrap (ab+(u64.wrap (2 * (u64.wrap af))))) 4294967296)) (Sz (u64.wrap (ab+(u64.wrap (2 * (u64.wrap af))))) 4294967296 rfl rfl (by decide))<|go ?_;refine W1 (col:=ae) [u32.wrap (Int.tmod (u64.wrap (ab+(u64.wrap (2 * (u64.wrap af))))) 4294967296)] 2 ?_;intro a8 a9 ba aw ay;obtain ⟨az,hm⟩:=Zx hm;replace ac:=ac.gr aw;refine Y3 ac (ay.srcN (NB.int (k:=.u32))) az ?_;intro bb bc bd be a1 a2;refine go ?_;refine lV (.int .u64 (u64.wrap (Int.tdiv (u64.wrap (ab+(u64.wrap (2 * (u64.wrap af))))) 4294967296))) (Vw (u64.wrap (ab+(u64.wrap (2 * (u64.wrap af))))) 4294967296 rfl rfl (by decide))<|go ?_;replace aa:=(aa.grow aw).kpp a1;exact ⟨ad,by omega,rfl,⟨_,_,_,_,_,_,_,rfl,hm,aa,a2,rfl⟩⟩
  refine Zk9 (Zji ?_);refine Z0 ?_;refine Wp.cutK [1000000] (fun f ao=>∃ ap aq ar ai,Zhw ai=some r∧St w0 (Zh col) ap ao∧Zc (Za.int .u32) 79 1 ap ao aq ar ai∧[5].map f=[.slice aq ai.length ar]) ?_ ?_
  ·intro f ao hJ;obtain ⟨ap,aq,ar,ai,hm,aa,a3,hs⟩:=hJ;rw [Zhw.eq_1] at hm;refine .lL [5] hs<|go ?_;cases hm;exact ⟨rfl,_,_,_,rfl,aa.fin (cm [(1,c1)]),aa.fo a3⟩
  refine go ?_;refine Zo hm (fun hb hm=>go ?_) fun hb hm=>?_
  ·refine W1 (col:=ae) [u32.wrap ab] 3 ?_;intro bf bg bh ax a4;obtain ⟨a5,hm⟩:=Zx hm;replace ac:=ac.gr ax;refine Y3 ac (a4.srcN (NB.int (k:=.u32))) a5 ?_;intro bi bj bk bm a6 a7;refine go ?_;replace aa:=(aa.grow ax).kpp a6;exact ⟨rfl,_,_,_,_,hm,aa,a7,rfl⟩
  refine X9 ?_;exact ⟨rfl,_,_,_,_,hm,aa,ac,rfl⟩
def Zeq (N:Nat) (ab:List Int) (ac:List Int):Nat→Int→Option Int
  | 0,_=>none
  | af+1,aa=>if (decide (0≤aa))=true then ((Qo ab aa).bind fun ad=>(Qo ac aa).bind fun ae=>if (decide (ad<ae))=true then (some (-1)) else (if (decide (ae<ad))=true then (some 1) else ((Zeq N ab ac af) (i64.wrap (aa - 1))))) else (some 0)
termination_by structural x=>x
def Zhm (N:Nat) (aa:List Int) (ab:List Int) (ac:Int):Option Int:=
  Zeq N aa ab N (i64.wrap (ac - 1))
def Zep (N:Nat) (aa:List Int) (ab:List Int):Option Int:=
  if (decide ((aa.length:Int)<(ab.length:Int)))=true then (Zhm N aa ab (ab.length:Int)) else (Zhm N aa ab (aa.length:Int))
theorem Zol {N ak al:Nat} {a0 a1:Option Addr} {col:Zd} {w0:World} {ad ae:R2} {r:Int} (hm:Zep N ad ae=some r) (h0:Sl (Za.int .u32) col w0 a0 ak ad) (h1:Sl (Za.int .u32) col w0 a1 al ae):
    Calls prog 276 #[.slice a0 ad.length ak,.slice a1 ae.length al] w0 (fun e w'=>e= .returned ((.int .i64 r))∧Below w0.heap.size w0 w'):=by
 refine Xc 4 (m:=35) func276 rfl rfl rfl rfl rfl ?_;rw [Zep.eq_1] at hm;have aa:=St.start col w0;refine Z0<|Wk<|Y8 rfl<|Zk<|Z0<|Wk<|Yr rfl<|lV _ (U9 underlying43 rfl)<|Y8 rfl<|Zk<|Z0 ?_;replace h0:=h0.keep (Zf.start col w0);replace h1:=h1.keep (Zf.start col w0);refine Wp.cutK [0,1,1000000] (fun f am=>∃ an af,Zhm N ad ae af=some r∧St w0 (Zh col) an am∧[5].map f=[.int .i64 af]) ?_ ?_
 ·intro f am hJ;obtain ⟨an,af,hm,aa,hs⟩:=hJ;rw [Zhm.eq_1] at hm;refine .lL [5] hs<|go ?_;refine Zw [0,1,1000000] (fun n f ag=>∃ ab ah ac,ac=n∧Zeq N ad ae ac ah=some r∧St w0 (Zh col) ab ag∧[6].map f=[.int .i64 ah]) N ⟨_,_,_,rfl,hm,aa,rfl⟩ ?_;clear hm;intro n f ag hI;obtain ⟨ab,ah,ac,hn,hm,aa,hs⟩:=hI;subst hn;refine .lL [6] hs ?_
  cases ac with
  | zero=>rw [Zeq.eq_1] at hm;cases hm
  | succ ac=>
   rw [Zeq.eq_2] at hm;refine go ?_;refine Zo hm (fun hb hm=>go ?_) fun hb hm=>go ?_
   ·obtain ⟨au,ap,hm⟩:=bZ hm;refine Zi (Zdp ap (h0.ks aa)) ?_;rintro _ ao ⟨rfl,ai⟩;refine ⟨_,rfl,?_⟩;replace ai:Zg ab ag ab ao:=.of_below ai;refine go ?_;obtain ⟨av,aq,hm⟩:=bZ hm;replace aa:=aa.grow ai;refine Zi (Zdp aq (h1.ks aa)) ?_;rintro _ ar ⟨rfl,aj⟩;refine ⟨_,rfl,?_⟩;replace aj:Zg ab ao ab ar:=.of_below aj;refine go ?_;replace aa:=aa.grow aj;refine Zo hm (fun hb hm=>go ?_) fun hb hm=>go ?_
    ·cases hm;exact ⟨rfl,rfl,aa.below⟩
    refine Zo hm (fun hb hm=>go ?_) fun hb hm=>go ?_
    ·cases hm;exact ⟨rfl,rfl,aa.below⟩
    exact ⟨ac,by omega,rfl,⟨_,_,_,rfl,hm,aa,rfl⟩⟩
   cases hm;exact ⟨rfl,rfl,aa.below⟩
 refine go ?_;refine Zo hm (fun hb hm=>go ?_) fun hb hm=>?_
 ·exact ⟨rfl,_,_,hm,aa,rfl⟩
 refine X9 ?_;exact ⟨rfl,_,_,hm,aa,rfl⟩
def Zmn (aa:Int) (kk_L1:(List Int→Int→Int→Option Rg)) (ab:List Int) (ac:Int):Option Rg:=
  kk_L1 ab ac (i64.wrap (aa+1))
def Zhu (aa:List Int) (ab:Int) (ae:Int) (kk_L1:(List Int→Int→Int→Option Rg)) (ac:Int) (af:Int) (ad:Int):Option Rg:=
  Zv ((aa.length+[u32.wrap (u64.wrap (ad - (u64.wrap (ac+ab))))].length) * 4≤140737488355328∧aa.length+[u32.wrap (u64.wrap (ad - (u64.wrap (ac+ab))))].length≤maxLen) (Zmn ae kk_L1 (aa++[u32.wrap (u64.wrap (ad - (u64.wrap (ac+ab))))]) af)
def Qn (N:Nat) (ab:List Int) (ac:List Int):Nat→R2→Int→Int→Option Rg
  | 0,_,_,_=>none
  | ah+1,ad,ae,aa=>if (decide (aa<(ab.length:Int)))=true then ((Qo ab aa).bind fun af=>(Qo ac aa).bind fun ag=>if (decide (af<(u64.wrap (ag+ae))))=true then (Zhu ad ae aa (Qn N ab ac ah) ag 1 (u64.wrap (af+4294967296))) else (Zhu ad ae aa (Qn N ab ac ah) ag 0 af)) else ((Vs N ad).bind fun ai=>some (ai,true))
termination_by structural x=>x
def Zct (N:Nat) (aa:List Int) (ab:List Int):Option Rg:=
  (Zep N aa ab).bind fun ac=>if (decide (ac<0))=true then (some (([]:List Int),false)) else (Qn N aa ab N ([]:List Int) 0 0)
theorem Zlr {N au av:Nat} {a0 a1:Option Addr} {col:Zd} {w0:World} {ae af:R2} {r:Rg} (c1:Nat) (hm:Zct N ae af=some r) (h0:Sl (Za.int .u32) col w0 a0 au ae) (h1:Sl (Za.int .u32) col w0 a1 av af):
    Calls prog 228 #[.slice a0 ae.length au,.slice a1 af.length av] w0 (fun e w'=>∃ (col':Zd) (ra1:Option Addr) (rc2:Nat),e= .returned (.tuple #[.slice ra1 r.1.length rc2,.bool r.2])∧Zg col w0 col' w'∧Zc (Za.int .u32) 79 c1 col' w' ra1 rc2 r.1):=by
 refine Zdr 4 5 (m:=43) (args:=[.slice a0 ae.length au,.slice a1 af.length av]) func228 rfl rfl rfl rfl rfl ?_;rw [Zct.eq_1] at hm;have aa:=St.start col w0;refine go ?_;obtain ⟨bn,ba,hm⟩:=bZ hm;replace h0:=h0.keep (Zf.start col w0);replace h1:=h1.keep (Zf.start col w0);refine Zi (Zol ba (h0.ks aa) (h1.ks aa)) ?_;rintro _ bb ⟨rfl,aw⟩;refine ⟨_,rfl,?_⟩;replace aw:Zg (Zh col) w0 (Zh col) bb:=.of_below aw;refine go ?_;replace aa:=aa.grow aw;refine Zo hm (fun hb hm=>go ?_) fun hb hm=>go ?_
 ·cases hm;exact ⟨rfl,_,none,0,rfl,aa.fin (cm []),Zc.nil⟩
 refine Zw [0,1,1000000] (fun n f ah=>∃ ab ak al ag ai aj ad,ad=n∧Qn N ae af ad ag ai aj=some r∧St w0 (Zh col) ab ah∧Zc (Za.int .u32) 79 1 ab ah ak al ag∧[6,7,8].map f=[.slice ak ag.length al,.int .u64 ai,.int .i64 aj]) N ⟨_,none,0,_,0,0,_,rfl,hm,aa,Zc.nil,rfl⟩ ?_;clear hm;intro n f ah hI;obtain ⟨ab,ak,al,ag,ai,aj,ad,hn,hm,aa,ac,hs⟩:=hI;subst hn;refine .lL [6,7,8] hs ?_
 cases ad with
 | zero=>rw [Qn.eq_1] at hm;cases hm
 | succ ad=>
  rw [Qn.eq_2] at hm;refine go ?_;refine Zo hm (fun hb hm=>?_) fun hb hm=>go ?_
  ·refine X9<|Z0 ?_;refine Wp.cutK [0,1,8,1000000] (fun f ax=>∃ ay az a2 am a3,Zmn aj (Qn N ae af ad) am a3=some r∧St w0 (Zh col) ay ax∧Zc (Za.int .u32) 79 1 ay ax az a2 am∧[6,7].map f=[.slice az am.length a2,.int .u64 a3]) ?_ ?_
   ·intro f ax hJ;obtain ⟨ay,az,a2,am,a3,hm,aa,bc,hs⟩:=hJ;rw [Zmn.eq_1] at hm;refine .lL [6,7] hs<|go ?_;exact ⟨ad,by omega,rfl,⟨_,_,_,_,_,_,_,rfl,hm,aa,bc,rfl⟩⟩
   refine go ?_;obtain ⟨bo,bd,hm⟩:=bZ hm;refine Zi (Zdp bd (h0.ks aa)) ?_;rintro _ a7 ⟨rfl,an⟩;refine ⟨_,rfl,?_⟩;replace an:Zg ab ah ab a7:=.of_below an;refine go ?_;obtain ⟨a8,be,hm⟩:=bZ hm;replace aa:=aa.grow an;refine Zi (Zdp be (h1.ks aa)) ?_;rintro _ bf ⟨rfl,ao⟩;refine ⟨_,rfl,?_⟩;replace ao:Zg ab a7 ab bf:=.of_below ao;refine Xo rfl<|lV _ (Qy _ _ rfl rfl)<|Y8 rfl<|Zk<|Z0<|Wk<|Y8 rfl<|Zk<|Z0 ?_;replace ac:=(ac.gr an).gr ao;replace aa:=aa.grow ao;refine Wp.cutK [0,1,10,6,8,1000000] (fun f a4=>∃ ap a5 aq,Zhu ag ai aj (Qn N ae af ad) a8 a5 aq=some r∧St w0 (Zh col) ap a4∧Zc (Za.int .u32) 79 1 ap a4 ak al ag∧[7,9].map f=[.int .u64 a5,.int .u64 aq]) ?_ ?_
   ·intro f a4 hJ;obtain ⟨ap,a5,aq,hm,aa,ac,hs⟩:=hJ;rw [Zhu.eq_1] at hm;refine .lL [7,9] hs<|go ?_;refine W1 (col:=ap) [u32.wrap (u64.wrap (aq - (u64.wrap (a8+ai))))] 2 ?_;intro bp bq br a9 bg;obtain ⟨bh,hm⟩:=Zx hm;replace ac:=ac.gr a9;refine Y3 ac (bg.srcN (NB.int (k:=.u32))) bh ?_;intro bs bt bu bv bi bj;refine go ?_;replace aa:=(aa.grow a9).kpp bi;exact ⟨rfl,_,_,_,_,_,hm,aa,bj,rfl⟩
   refine go ?_;refine Zo hm (fun hb hm=>go ?_) fun hb hm=>?_
   ·exact ⟨rfl,_,1,_,hm,aa,ac,rfl⟩
   refine X9 ?_;exact ⟨rfl,_,0,_,hm,aa,ac,rfl⟩
  obtain ⟨bw,bk,hm⟩:=bZ hm;refine Zi (Us 3 bk (ac.toSlF (Zn.int .u32))) ?_;rintro _ bx ⟨bm,bz,b0,rfl,ar,a6⟩;refine ⟨_,rfl,?_⟩;replace a6:=a6.thaw (Z3 .u32) ar ((Fz.refl (col:=ab)).froz 1) (by decide);replace ar:=ar.thawR (col:=ab);generalize Xf ah.heap.size ab bm=b1 at *;refine go ?_;cases hm;replace aa:=aa.grow ar;exact ⟨rfl,_,_,_,rfl,aa.fin (cm [(3,c1)]),aa.fo a6⟩
def Zho (aa:Int) (kk_L1:(List Int→Int→R2→Option Re)) (ab:List Int) (ac:List Int):Option Re:=
  kk_L1 ab (i64.wrap (aa - 1)) ac
def Zbg (N:Nat) (ad:List Int) (ab:List Int):Nat→R2→Int→R2→Option Re
  | 0,_,_,_=>none
  | af+1,ag,aa,ac=>if (decide (0≤aa))=true then ((Zj2 ad aa).bind fun ah=>(Zhv N ag ah).bind fun ai=>(Vs N ai).bind fun ae=>(Zep N ae ab).bind fun aj=>if (decide (0≤aj))=true then ((Zct N ae ab).bind fun ak=>(Zj ac (i64.wrap (Int.tdiv aa 32))).bind fun al=>Zv (0≤(Int.tmod aa 32)) ((some (ac.set (Int.toNat (i64.wrap (Int.tdiv aa 32))) (u32.wrap (al+(X6 .u32 1 (Int.tmod aa 32)))))).bind fun am=>Zho aa (Zbg N ad ab af) ak.1 am)) else (Zho aa (Zbg N ad ab af) ae ac)) else ((Vs N ac).bind fun an=>some (an,ag,0))
termination_by structural x=>x
def Zhn (N:Nat) (ab:List Int) (ad:List Int):Option Re:=
  (Vs N ad).bind fun ac=>if (decide ((ac.length:Int)=0))=true then (some (([]:List Int),([]:List Int),11)) else ((Zj3 N ab).bind fun aa=>Zv ((Int.toNat (i64.wrap (Int.tdiv (i64.wrap (aa+31)) 32))) * 4≤281474976710656∧(Int.toNat (i64.wrap (Int.tdiv (i64.wrap (aa+31)) 32)))≤maxLen∧0≤(i64.wrap (Int.tdiv (i64.wrap (aa+31)) 32))) (Zbg N ab ac N ([]:List Int) (i64.wrap (aa - 1)) (List.replicate (Int.toNat (i64.wrap (Int.tdiv (i64.wrap (aa+31)) 32))) (0:Int))))
theorem Zri {N bd be:Nat} {a0 a1:Option Addr} {col:Zd} {w0:World} {ak a4:R2} {r:Re} (c1 c2:Nat) (hm:Zhn N ak a4=some r) (h0:Sl (Za.int .u32) col w0 a0 bd ak) (h1:Sl (Za.int .u32) col w0 a1 be a4):
    Calls prog 272 #[.slice a0 ak.length bd,.slice a1 a4.length be] w0 (fun e w'=>∃ (col':Zd) (ra1:Option Addr) (rc2:Nat) (ra4:Option Addr) (rc5:Nat),e= .returned (.tuple #[.slice ra1 r.1.length rc2,.slice ra4 r.2.1.length rc5,.int .i64 r.2.2])∧Zg col w0 col' w'∧Zc (Za.int .u32) 79 c1 col' w' ra1 rc2 r.1∧Zc (Za.int .u32) 79 c2 col' w' ra4 rc5 r.2.1):=by
 refine Zr0 4 5 6 (m:=61) (args:=[.slice a0 ak.length bd,.slice a1 a4.length be]) func272 rfl rfl rfl rfl rfl ?_;rw [Zhn.eq_1] at hm;have aa:=St.start col w0;refine go ?_;obtain ⟨a5,b3,hm⟩:=bZ hm;replace h1:=h1.keep (Zf.start col w0);refine Zi (Us 1 b3 (h1.ks aa)) ?_;rintro _ b4 ⟨bf,bt,bu,rfl,b5,ab⟩;refine ⟨_,rfl,go ?_⟩;replace h0:=h0.keep (Zf.start col w0);replace aa:=aa.grow b5;refine Zo hm (fun hb hm=>go ?_) fun hb hm=>go ?_
 ·cases hm;exact ⟨rfl,_,none,0,none,0,rfl,aa.fin (cm []),Zc.nil,Zc.nil⟩
 obtain ⟨bg,b6,hm⟩:=bZ hm;refine Zi (Z03 b6 (h0.ks aa)) ?_;rintro _ bv ⟨rfl,a6⟩;refine ⟨_,rfl,?_⟩;replace a6:Zg bf b4 bf bv:=.of_below a6;refine go ?_;refine lV (.int .i64 (i64.wrap (Int.tdiv (i64.wrap (bg+31)) 32))) (Vw (i64.wrap (bg+31)) 32 rfl rfl (by decide)) ?_;obtain ⟨a7,hm⟩:=Zx hm;refine Sf (col:=bf) (w:=bv) (r:=(Za.int .u32)) (n:=(Int.toNat (i64.wrap (Int.tdiv (i64.wrap (bg+31)) 32)))) (x0:=0) 2 rfl underlying43 Tryz.t79 rfl rfl rfl rfl rfl (congrArg (Value.int _) (Int.toNat_of_nonneg a7.2.2).symm) (congrArg (Value.int _) (Int.toNat_of_nonneg a7.2.2).symm) a7.1 a7.2.1 (Uf .u32 0) ?_;intro cp cq cr bw b7;refine go ?_;replace ab:=(ab.gr a6).gr bw;replace aa:=(aa.grow a6).grow bw;refine Zw [0,7,1000000] (fun n f ai=>∃ ae bh bi a8 ac av aw al aj,aj=n∧Zbg N ak a5 aj a8 ac al=some r∧St w0 (Zh col) ae ai∧Zc (Za.int .u32) 79 3 ae ai bh bi a8∧Zc (Za.int .u32) 79 1 ae ai bt bu a5∧Zc (Za.int .u32) 79 2 ae ai av aw al∧[10,11,9].map f=[.slice bh a8.length bi,.int .i64 ac,.slice av al.length aw]) N ⟨_,none,0,_,_,_,_,_,_,rfl,hm,aa,Zc.nil,ab,b7,rfl⟩ ?_;clear hm;intro n f ai hI;obtain ⟨ae,bh,bi,a8,ac,av,aw,al,aj,hn,hm,aa,am,ab,ad,hs⟩:=hI;subst hn;refine .lL [10,11,9] hs ?_
 cases aj with
 | zero=>rw [Zbg.eq_1] at hm;cases hm
 | succ aj=>
  rw [Zbg.eq_2] at hm;refine go ?_;refine Zo hm (fun hb hm=>?_) fun hb hm=>go ?_
  ·refine X9<|Z0 ?_;refine Wp.cutK [0,11,7,1000000] (fun f ax=>∃ ay bj bk a9 bm bn ba,Zho ac (Zbg N ak a5 aj) a9 ba=some r∧St w0 (Zh col) ay ax∧Zc (Za.int .u32) 79 3 ay ax bj bk a9∧Zc (Za.int .u32) 79 1 ay ax bt bu a5∧Zc (Za.int .u32) 79 2 ay ax bm bn ba∧[10,9].map f=[.slice bj a9.length bk,.slice bm ba.length bn]) ?_ ?_
   ·intro f ax hJ;obtain ⟨ay,bj,bk,a9,bm,bn,ba,hm,aa,b8,ab,b9,hs⟩:=hJ;rw [Zho.eq_1] at hm;refine .lL [10,9] hs<|go ?_;exact ⟨aj,by omega,rfl,⟨_,_,_,_,_,_,_,_,_,rfl,hm,aa,b8,ab,b9,rfl⟩⟩
   refine go ?_;obtain ⟨cs,ca,hm⟩:=bZ hm;refine Zi (Z02 ca (h0.ks aa)) ?_;rintro _ bx ⟨rfl,an⟩;refine ⟨_,rfl,?_⟩;replace an:Zg ae ai ae bx:=.of_below an;obtain ⟨ct,cb,hm⟩:=bZ hm;replace am:=am.gr an;refine Zi (Zrl 4 cb (am.toSlF (Zn.int .u32))) ?_;rintro _ cc ⟨cd,cu,cv,rfl,ao,bo⟩;refine ⟨_,rfl,?_⟩;replace bo:=bo.thaw (Z3 .u32) ao ((Fz.refl (col:=ae)).froz 3) (by decide);replace ao:=ao.thawR (col:=ae);generalize Xf bx.heap.size ae cd=bp at *;obtain ⟨cw,ce,hm⟩:=bZ hm;refine Zi (Us 5 ce (bo.toSlF (Zn.int .u32))) ?_;rintro _ cf ⟨cg,cx,cy,rfl,ap,af⟩;refine ⟨_,rfl,?_⟩;replace af:=af.thaw (Z3 .u32) ap ((Fz.refl (col:=bp)).froz 4) (by decide);replace ap:=ap.thawR (col:=bp);generalize Xf cc.heap.size bp cg=az at *;refine go ?_;obtain ⟨cz,ch,hm⟩:=bZ hm;replace ab:=((ab.gr an).gr ao).gr ap;refine Zi (Zol ch ((af.toSlF (Zn.int .u32)).froz 1) ((ab.froz 5 (by decide)).toSlF (Zn.int .u32))) ?_;rintro _ bz ⟨rfl,aq⟩;refine ⟨_,rfl,?_⟩;replace aq:Zg az cf az bz:=.of_below aq;refine go ?_;replace ad:=(((ad.gr an).gr ao).gr ap).gr aq;replace aa:=(((aa.grow an).grow ao).grow ap).grow aq;replace ab:=ab.gr aq;replace af:=af.gr aq;refine Zo hm (fun hb hm=>go ?_) fun hb hm=>?_
   ·obtain ⟨bb,ci,hm⟩:=bZ hm;refine Zi (Zlr 6 ci ((af.toSlF (Zn.int .u32)).froz 1) ((ab.froz 5 (by decide)).toSlF (Zn.int .u32))) ?_;rintro _ c0 ⟨cj,b0,b1,rfl,ar,ag⟩;refine ⟨_,rfl,?_⟩;replace ag:=ag.thaw (Z3 .u32) ar (((Fz.refl (col:=az)).froz 5).froz 1) (by decide);replace ar:=ar.thawR (col:=az);generalize Xf bz.heap.size az cj=a2 at *;refine lM (.tuple #[.slice b0 bb.1.length b1,.bool bb.2])<|lV (.slice b0 bb.1.length b1) (Xv rfl rfl)<|lV (.bool bb.2) (Xv rfl rfl)<|go ?_;refine Wh (col:=a2) [(0,1),(1,1),(2,1),(3,1),(4,1),(5,1),(6,1),(7,0),(8,1),(9,1),(10,1),(11,1),(12,1),(13,2)] (by kernel_rfl) (by kernel_rfl)<|xu rfl rfl (fun _=>Vf rfl) ?_;refine xu rfl rfl (fun _=>Wj rfl) ?_;refine xu (v:=(.int .i64 (i64.wrap (Int.tdiv ac 32)))) rfl rfl (fun _=>Vw ac 32 rfl rfl (by decide)) ?_;refine xu rfl rfl (fun _=>Vf rfl) ?_;refine xu rfl rfl (fun _=>Wj rfl) ?_;refine xu (v:=(.int .i64 (i64.wrap (Int.tdiv ac 32)))) rfl rfl (fun _=>Vw ac 32 rfl rfl (by decide)) ?_;obtain ⟨b2,ah,hm⟩:=bZ hm;replace ad:=ad.gr ar;refine xu rfl rfl (fun _=>Wi underlying43 sizeOf79 rfl rfl (Xn ah).1 (Xn ah).2.1 (ad.addr ah)) ?_;refine xW (fun _ hC=>(ad.gr (hC.bl a2)).atInt ah) ?_;refine xu rfl rfl (fun _=>Wj rfl) ?_;refine xu (v:=(.int .i64 (Int.tmod ac 32))) rfl rfl (fun _=>Sz ac 32 rfl rfl (by decide)) ?_;obtain ⟨ck,hm⟩:=Zx hm;refine xu (v:=(.int .u32 (X6 .u32 1 (Int.tmod ac 32)))) rfl rfl (fun _=>Zf4 1 (Int.tmod ac 32) rfl rfl ck) ?_;refine xu rfl rfl (fun _=>Qy _ _ rfl rfl) ?_;refine xu rfl rfl (fun _=>Wi underlying43 sizeOf79 rfl rfl (Xn ah).1 (Xn ah).2.1 (ad.addr ah)) ?_;refine xe rfl rfl ?_;intro c3 hC0;have hC:=hC0.bl a2;obtain ⟨bq,bc,hm⟩:=bZ hm;have bc:bq=al.set (Int.toNat (i64.wrap (Int.tdiv ac 32))) (u32.wrap (b2+(X6 .u32 1 (Int.tmod ac 32)))):=(Option.some.inj bc).symm;replace ad:=ad.gr hC;refine Wb (x1:=u32.wrap (b2+(X6 .u32 1 (Int.tmod ac 32)))) ad ah ?_;intro c4 br cl au;rw [← bc] at au;refine .ld (d:=9) (v:=(.slice av bq.length aw)) (congrArg (fun n=>Value.slice av n aw) (show al.length=bq.length by rw [bc,nS])) ?_;refine Zk<|xk a2<|Y9 ?_;replace ab:=((ab.gr ar).gr hC).kp br;replace aa:=((aa.grow ar).grow hC).kp br cl;replace ag:=(ag.gr hC).kp br;intro c5 hC;replace hC:=hC.bl a2;replace ab:=ab.gr hC;replace ab:=ab.recol 6 3 (by decide);replace au:=au.gr hC
    replace au:=au.recol 6 3 (by decide);replace ag:=ag.gr hC;replace ag:=ag.recolSelf 3 (by decide);replace aa:=aa.grow hC;replace aa:=aa.recol 6 3 (by decide) (by decide);exact ⟨rfl,_,_,_,_,_,_,_,hm,aa,ag,ab,au,rfl⟩
   refine X9 ?_;replace ab:=ab.recol 5 3 (by decide);replace ad:=ad.recol 5 3 (by decide);replace af:=af.recolSelf 3 (by decide);replace aa:=aa.recol 5 3 (by decide) (by decide);exact ⟨rfl,_,_,_,_,_,_,_,hm,aa,af,ab,ad,rfl⟩
  obtain ⟨c6,cn,hm⟩:=bZ hm;refine Zi (Us 7 cn (ad.toSlF (Zn.int .u32))) ?_;rintro _ c7 ⟨co,c8,c9,rfl,a3,bs⟩;refine ⟨_,rfl,?_⟩;replace bs:=bs.thaw (Z3 .u32) a3 ((Fz.refl (col:=ae)).froz 2) (by decide);replace a3:=a3.thawR (col:=ae);generalize Xf ai.heap.size ae co=da at *;refine go ?_;cases hm;replace am:=am.gr a3;replace aa:=aa.grow a3;exact ⟨rfl,_,_,_,_,_,rfl,aa.fin (cm [(7,c1),(3,c2)]),aa.fo bs,aa.fo am⟩
def Zj6 (aa:Bool):Option Bool:=
  some aa
def Zcu (aa:List Int):Option Bool:=
  if (decide ((aa.length:Int)=0))=true then (Zj6 true) else ((Zj aa 0).bind fun ab=>Zj6 (decide ((Int.tmod ab 2)=0)))
theorem Zls {ag:Nat} {a0:Option Addr} {col:Zd} {w0:World} {ab:R2} {r:Bool} (hm:Zcu ab=some r) (h0:Sl (Za.int .u32) col w0 a0 ag ab):
    Calls prog 289 #[.slice a0 ab.length ag] w0 (fun e w'=>e= .returned ((.bool r))∧Below w0.heap.size w0 w'):=by
 refine Xc 2 (m:=13) func289 rfl rfl rfl rfl rfl ?_;rw [Zcu.eq_1] at hm;have aa:=St.start col w0;refine Z0<|Wk<|Q4 rfl<|Zk<|Z0 ?_;replace h0:=h0.keep (Zf.start col w0);refine Wp.cutK [1000000] (fun f ah=>∃ ai ac,Zj6 ac=some r∧St w0 (Zh col) ai ah∧[2].map f=[.bool ac]) ?_ ?_
 ·intro f ah hJ;obtain ⟨ai,ac,hm,aa,hs⟩:=hJ;rw [Zj6.eq_1] at hm;refine .lL [2] hs<|We ?_;cases hm;exact ⟨rfl,rfl,aa.below⟩
 refine go ?_;refine Xt hm (fun ad hm=>go ?_) fun ad hm=>go ?_
 ·refine lV (.bool true) (Xb (congrArg Value.bool ad) rfl)<|go ?_;exact ⟨rfl,_,_,hm,aa,rfl⟩
 obtain ⟨ae,af,hm⟩:=bZ hm;refine lI af ((h0.ks aa).addr af) ?_;refine go ?_;refine lW ((h0.ks aa).atInt af)<|go ?_;refine lV (.int .u32 (Int.tmod ae 2)) (Sz ae 2 rfl rfl (by decide))<|go ?_;refine lV (.bool (decide ((Int.tmod ae 2)=0))) (Xm (congrArg Value.bool ad) rfl)<|go ?_;exact ⟨rfl,_,_,hm,aa,rfl⟩
def Zew (N:Nat) (ac:List Int):Nat→R2→Int→Int→Option R2
  | 0,_,_,_=>none
  | af+1,ab,ad,aa=>if (decide (0≤aa))=true then ((Zj ac aa).bind fun ae=>(Zj ab aa).bind fun ai=>(some (ab.set (Int.toNat aa) (u32.wrap (u64.wrap (Int.tdiv (u64.wrap ((u64.wrap (ad * 4294967296))+(u64.wrap ae))) 2))))).bind fun ag=>(Zew N ac af) ag (Int.tmod (u64.wrap ((u64.wrap (ad * 4294967296))+(u64.wrap ae))) 2) (i64.wrap (aa - 1))) else ((Vs N ab).bind fun ah=>some ah)
termination_by structural x=>x
def Zcv (N:Nat) (aa:List Int):Option R2:=
  Zv (aa.length * 4≤281474976710656∧aa.length≤maxLen) (Zew N aa N (List.replicate aa.length (0:Int)) 0 (i64.wrap ((aa.length:Int) - 1)))
theorem Zlt {N au:Nat} {a0:Option Addr} {col:Zd} {w0:World} {ag r:R2} (c1:Nat) (hm:Zcv N ag=some r) (h0:Sl (Za.int .u32) col w0 a0 au ag):
    Calls prog 290 #[.slice a0 ag.length au] w0 (fun e w'=>∃ (col':Zd) (ra1:Option Addr) (rc2:Nat),e= .returned ((.slice ra1 r.length rc2))∧Zg col w0 col' w'∧Zc (Za.int .u32) 79 c1 col' w' ra1 rc2 r):=by
 refine Xc 2 (m:=34) func290 rfl rfl rfl rfl rfl ?_;rw [Zcv.eq_1] at hm;have aa:=St.start col w0;refine go ?_;obtain ⟨av,hm⟩:=Zx hm;refine Sf (col:=(Zh col)) (w:=w0) (r:=(Za.int .u32)) (n:=ag.length) (x0:=0) 1 rfl underlying43 Tryz.t79 rfl rfl rfl rfl rfl rfl rfl av.1 av.2 (Uf .u32 0) ?_;intro a4 a5 a6 ax ay;refine go ?_;replace aa:=aa.grow ax;refine Zw [0,1000000] (fun n f aj=>∃ ac ah ai ad ab ak ae,ae=n∧Zew N ag ae ad ab ak=some r∧St w0 (Zh col) ac aj∧Zc (Za.int .u32) 79 1 ac aj ah ai ad∧[3,4,5].map f=[.slice ah ad.length ai,.int .u64 ab,.int .i64 ak]) N ⟨_,_,_,_,0,_,_,rfl,hm,aa,ay,rfl⟩ ?_;clear hm;intro n f aj hI;obtain ⟨ac,ah,ai,ad,ab,ak,ae,hn,hm,aa,an,hs⟩:=hI;subst hn;refine .lL [3,4,5] hs ?_;replace h0:=h0.keep (Zf.start col w0)
 cases ae with
 | zero=>rw [Zew.eq_1] at hm;cases hm
 | succ ae=>
  rw [Zew.eq_2] at hm;refine go ?_;refine Zo hm (fun hb hm=>go ?_) fun hb hm=>go ?_
  ·obtain ⟨af,ao,hm⟩:=bZ hm;refine lI ao ((h0.ks aa).addr ao)<|lW ((h0.ks aa).atInt ao) ?_;refine go ?_;refine lV (.int .u64 (u64.wrap (Int.tdiv (u64.wrap ((u64.wrap (ab * 4294967296))+(u64.wrap af))) 2))) (Vw (u64.wrap ((u64.wrap (ab * 4294967296))+(u64.wrap af))) 2 rfl rfl (by decide))<|go ?_;obtain ⟨a7,ap,hm⟩:=bZ hm;refine lI ap (an.addr ap) ?_;obtain ⟨aq,al,hm⟩:=bZ hm;have al:aq=ad.set (Int.toNat ak) (u32.wrap (u64.wrap (Int.tdiv (u64.wrap ((u64.wrap (ab * 4294967296))+(u64.wrap af))) 2))):=(Option.some.inj al).symm;refine Wb (x1:=u32.wrap (u64.wrap (Int.tdiv (u64.wrap ((u64.wrap (ab * 4294967296))+(u64.wrap af))) 2))) an ap ?_;intro a8 az a1 aw;rw [← al] at aw;refine .ld (d:=3) (v:=(.slice ah aq.length ai)) (congrArg (fun n=>Value.slice ah n ai) (show ad.length=aq.length by rw [al,nS])) ?_;refine go ?_;refine lV (.int .u64 (Int.tmod (u64.wrap ((u64.wrap (ab * 4294967296))+(u64.wrap af))) 2)) (Sz (u64.wrap ((u64.wrap (ab * 4294967296))+(u64.wrap af))) 2 rfl rfl (by decide))<|go ?_;replace aa:=aa.kp az a1;exact ⟨ae,by omega,rfl,⟨_,_,_,_,_,_,_,rfl,hm,aa,aw,rfl⟩⟩
  obtain ⟨a9,a2,hm⟩:=bZ hm;refine Zi (Us 2 a2 (an.toSlF (Zn.int .u32))) ?_;rintro _ ba ⟨a3,bb,bc,rfl,am,ar⟩;refine ⟨_,rfl,?_⟩;replace ar:=ar.thaw (Z3 .u32) am ((Fz.refl (col:=ac)).froz 1) (by decide);replace am:=am.thawR (col:=ac);generalize Xf aj.heap.size ac a3=bd at *;refine go ?_;cases hm;replace aa:=aa.grow am;exact ⟨rfl,_,_,_,rfl,aa.fin (cm [(2,c1)]),aa.fo ar⟩

end Go.Proofs.YtbmjpjhbankpoaaGreat
