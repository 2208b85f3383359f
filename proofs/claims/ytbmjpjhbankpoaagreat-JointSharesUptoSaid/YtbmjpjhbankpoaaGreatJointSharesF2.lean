/-
  What functions of the program compute, as plain Lean functions (m_..), and proofs that they compute it (c_..). Printed by a program of the author; no conditions.
-/
import Derived.Test.YtbmjpjhbankpoaaGreatJointSharesBFloat
import Derived.Test.YtbmjpjhbankpoaaGreatProg
import Derived.Test.YtbmjpjhbankpoaaGreatJointSharesBBrief
import Derived.Test.YtbmjpjhbankpoaaGreatJointSharesF1
set_option linter.unusedVariables false
set_option maxRecDepth 100000
set_option maxHeartbeats 2000000
namespace Go.Proofs.YtbmjpjhbankpoaaGreat
open Go Go.RowKit
open Go.IntKind (i8 i16 i32 i64 u8 u16 u32 u64)
open Go.Proofs.Tryz

def Zbq (N:Nat) (aa:R4) (ac:List Int):Option R4:=
  (Zii N (aa.1,aa.2) (false,ac)).bind fun ab=>some (ab.1,ab.2)
theorem Zjk {N ai ad:Nat} {aj a1:Option Addr} {col:Zd} {w0:World} {ab:R4} {ac:R2} {r:R4} (c1:Nat) (hm:Zbq N ab ac=some r) (ae:Sl (Za.int .u32) col w0 aj ai ab.2) (h1:Sl (Za.int .u32) col w0 a1 ad ac):
    Calls prog 185 #[(.agg #[.bool ab.1,.slice aj ab.2.length ai]),.slice a1 ac.length ad] w0 (fun e w'=>∃ (col':Zd) (ra1:Option Addr) (rc2:Nat),e= .returned ((.agg #[.bool r.1,.slice ra1 r.2.length rc2]))∧Zi col w0 col' w'∧Zc (Za.int .u32) 79 c1 col' w' ra1 rc2 r.2):=by
 refine Wi (m:=9) func185 rfl rfl rfl ?_;rw [Zbq.eq_1] at hm;have aa:=St.start col w0;refine go ?_;refine Ye (col:=(Zj col)) 1 rfl ?_;intro au av an ao af;refine Xr (col:=an) #[.bool false,.slice none (([]:List Int).length) 0] 2 zeroValue45 ?_;intro aw ax ay ak ag;refine go ?_;replace af:=af.gr ak;refine lV _ (Xh isAgg45 sizeOf45 af)<|Y0 rfl<|lV (.agg #[.bool false,.slice a1 ac.length ad]) (Wg (l:=[_,_]) (qs:=[(0,1),(1,1)]) underlying45 zeroValue45 ⟨rfl,sizeOf4,rfl,sizeOf43,trivial⟩ rfl) ?_;obtain ⟨az,ap,hm⟩:=bZ hm;replace ae:=ae.keep (Zl.start col w0);replace h1:=h1.keep (Zl.start col w0);replace aa:=(aa.grow ao).grow ak;refine Zh (Zye 3 ap (ae.ks aa) (h1.ks aa)) ?_;rintro _ a0 ⟨a2,a3,a4,rfl,al,ah⟩;refine ⟨_,rfl,?_⟩;replace ag:=ag.gr al;refine Z5 ag ?_;intro a5 am aq ar;refine go ?_;cases hm;replace aa:=(aa.grow al).kp am aq;replace ah:=ah.kp am;exact ⟨rfl,_,ra ar.atN,_,_,_,rfl,aa.fin (cm [(3,c1)]),aa.fo ah⟩
def Zig (N:Nat) (aa:R4) (ab:R4):Option R4:=
  if (decide (aa.1=ab.1))=true then ((Zhg N aa.2 ab.2).bind fun ag=>(Qd N aa.1 ag).bind fun ac=>some (ac.1,ac.2)) else ((Zfq N aa.2 ab.2).bind fun ad=>if ad.2=true then ((Qd N aa.1 ad.1).bind fun ae=>some (ae.1,ae.2)) else ((Zfq N ab.2 aa.2).bind fun ah=>(Qd N ab.1 ah.1).bind fun af=>some (af.1,af.2)))
theorem Zyc {N a3 a4:Nat} {a5 a6:Option Addr} {col:Zd} {w0:World} {ao ap r:R4} (c1:Nat) (hm:Zig N ao ap=some r) (ag:Sl (Za.int .u32) col w0 a5 a3 ao.2) (ah:Sl (Za.int .u32) col w0 a6 a4 ap.2):
    Calls prog 188 #[(.agg #[.bool ao.1,.slice a5 ao.2.length a3]),(.agg #[.bool ap.1,.slice a6 ap.2.length a4])] w0 (fun e w'=>∃ (col':Zd) (ra1:Option Addr) (rc2:Nat),e= .returned ((.agg #[.bool r.1,.slice ra1 r.2.length rc2]))∧Zi col w0 col' w'∧Zc (Za.int .u32) 79 c1 col' w' ra1 rc2 r.2):=by
 refine Wi (m:=47) func188 rfl rfl rfl ?_;rw [Zig.eq_1] at hm;have aa:=St.start col w0;refine go ?_;refine Ye (col:=(Zj col)) 1 rfl ?_;intro b3 b4 bf bg ad;refine Ye (col:=bf) 2 rfl ?_;intro b5 b6 bh a7 ac;refine Xr (col:=bh) #[.bool false,.slice none (([]:List Int).length) 0] 3 zeroValue45 ?_;intro b7 b8 ai aw ab;refine go ?_;refine Y5 ⟨_,_,rfl⟩ ?_;replace ad:=(ad.gr a7).gr aw;refine lW ((ad.atN).nth (q:=0) rfl)<|Y5 ⟨_,_,rfl⟩ ?_;replace ac:=ac.gr aw;refine lW ((ac.atN).nth (q:=0) rfl)<|go ?_;replace ag:=ag.keep (Zl.start col w0);replace ah:=ah.keep (Zl.start col w0);replace aa:=((aa.grow bg).grow a7).grow aw;refine Zr hm (fun hb hm=>?_) fun hb hm=>go ?_
 ·refine Zw<|Wk (col:=ai) [(0,1),(1,0),(2,1),(3,0),(4,1),(5,0),(6,3),(7,3),(8,2)] (by kernel_rfl) (by kernel_rfl)<|xF ⟨_,_,rfl⟩ ?_;refine xW (fun _ hC=>((ad.atN).nth (q:=0) rfl).gr (hC.bl ai)) ?_;refine xF ⟨_,_,rfl⟩ ?_;refine xW (fun _ hC=>((ad.atN).nth (q:=1) rfl).gr (hC.bl ai)) ?_;refine xF ⟨_,_,rfl⟩ ?_;refine xW (fun _ hC=>((ac.atN).nth (q:=1) rfl).gr (hC.bl ai)) ?_;refine xe rfl rfl ?_;intro b9 hC0;have hC:=hC0.bl ai;obtain ⟨ca,bi,hm⟩:=bZ hm;replace aa:=aa.grow hC;refine Zh (Zxe 4 bi (ag.ks aa) (ah.ks aa)) ?_;rintro _ cb ⟨aj,cc,cd,rfl,ax,ay⟩;refine ⟨_,rfl,?_⟩;refine Zm<|X0 aj hC0 ax<|xe rfl rfl ?_;intro bj hC0;replace ab:=(ab.gr hC).gr ax;have hC:=hC0.bl aj;obtain ⟨ce,bk,hm⟩:=bZ hm;replace ay:=ay.gr hC;refine Zh (Zct 5 bk (ay.toSlF (Zg.int .u32))) ?_;rintro _ cf ⟨bm,cg,ch,rfl,af,ae⟩;refine ⟨_,rfl,?_⟩;replace ae:=ae.thaw (Z0 .u32) af ((Fz.refl (col:=aj)).froz 4) (by decide);replace af:=af.thawR (col:=aj);generalize Xc bj.heap.size aj bm=aq at *;refine Zm<|X0 aq hC0 af<|xe rfl rfl ?_;intro ci hC0;replace aa:=((aa.grow ax).grow hC).grow af;replace ab:=(ab.gr hC).gr af;have hC:=hC0.bl aq;replace ab:=ab.gr hC;refine Z5 ab ?_;intro cj a8 bn az;refine Zm<|xk aq<|Y7 ?_;replace ae:=(ae.gr hC).kp a8;replace aa:=(aa.grow hC).kp a8 bn;intro ck hC;replace hC:=hC.bl aq;refine W7 ?_;cases hm;replace ae:=ae.gr hC;replace az:=az.gr hC;replace aa:=aa.grow hC;exact ⟨rfl,_,ra az.atN,_,_,_,rfl,aa.fin (cm [(5,c1)]),aa.fo ae⟩
 refine Xu ad<|Xu ac ?_;obtain ⟨ar,bo,hm⟩:=bZ hm;refine Zh (Zpp 6 bo (ag.ks aa) (ah.ks aa)) ?_;rintro _ bp ⟨a0,a9,ba,rfl,au,bq⟩;refine ⟨_,rfl,?_⟩;refine lM (.tuple #[.slice a9 ar.1.length ba,.bool ar.2])<|lV (.slice a9 ar.1.length ba) (Xe rfl rfl)<|lV (.bool ar.2) (Xe rfl rfl)<|go ?_;replace ad:=ad.gr au;replace ac:=ac.gr au;replace ab:=ab.gr au;replace aa:=aa.grow au;refine Zr hm (fun hb hm=>go ?_) fun hb hm=>go ?_
 ·refine Xu ad<|Y0 rfl ?_;obtain ⟨cl,br,hm⟩:=bZ hm;refine Zh (Zct 7 br (bq.toSlF (Zg.int .u32))) ?_;rintro _ cn ⟨bs,co,cp,rfl,ak,al⟩;refine ⟨_,rfl,?_⟩;replace al:=al.thaw (Z0 .u32) ak ((Fz.refl (col:=a0)).froz 6) (by decide);replace ak:=ak.thawR (col:=a0);generalize Xc bp.heap.size a0 bs=cq at *;replace ab:=ab.gr ak;refine Z5 ab ?_;intro cr bb bt bu;refine go ?_;cases hm;replace aa:=(aa.grow ak).kp bb bt;replace al:=al.kp bb;exact ⟨rfl,_,ra bu.atN,_,_,_,rfl,aa.fin (cm [(7,c1)]),aa.fo al⟩
 refine Xu ac<|Xu ad ?_;obtain ⟨av,bv,hm⟩:=bZ hm;refine Zh (Zpp 8 bv (ah.ks aa) (ag.ks aa)) ?_;rintro _ bw ⟨a1,bc,bd,rfl,a2,bx⟩;refine ⟨_,rfl,?_⟩;refine lM (.tuple #[.slice bc av.1.length bd,.bool av.2])<|lV (.slice bc av.1.length bd) (Xe rfl rfl)<|lV (.bool av.2) (Xe rfl rfl)<|go ?_;refine Y5 ⟨_,_,rfl⟩ ?_;replace ac:=ac.gr a2;refine lW ((ac.atN).nth (q:=0) rfl)<|Y0 rfl ?_;obtain ⟨cs,bz,hm⟩:=bZ hm;refine Zh (Zct 9 bz (bx.toSlF (Zg.int .u32))) ?_;rintro _ ct ⟨b0,cu,cv,rfl,am,an⟩;refine ⟨_,rfl,?_⟩;replace an:=an.thaw (Z0 .u32) am ((Fz.refl (col:=a1)).froz 8) (by decide);replace am:=am.thawR (col:=a1);generalize Xc bw.heap.size a1 b0=cw at *;replace ab:=(ab.gr a2).gr am;refine Z5 ab ?_;intro cx be b1 b2;refine go ?_;cases hm;replace aa:=((aa.grow a2).grow am).kp be b1;replace an:=an.kp be;exact ⟨rfl,_,ra b2.atN,_,_,_,rfl,aa.fin (cm [(9,c1)]),aa.fo an⟩
def Zij (N:Nat) (aa:R4):Option R4:=
  (Qd N aa.1 aa.2).bind fun ab=>some (ab.1,ab.2)
theorem Zyf {N ag:Nat} {ah:Option Addr} {col:Zd} {w0:World} {ab r:R4} (c1:Nat) (hm:Zij N ab=some r) (ad:Sl (Za.int .u32) col w0 ah ag ab.2):
    Calls prog 261 #[(.agg #[.bool ab.1,.slice ah ab.2.length ag])] w0 (fun e w'=>∃ (col':Zd) (ra1:Option Addr) (rc2:Nat),e= .returned ((.agg #[.bool r.1,.slice ra1 r.2.length rc2]))∧Zi col w0 col' w'∧Zc (Za.int .u32) 79 c1 col' w' ra1 rc2 r.2):=by
 refine Wi (m:=8) func261 rfl rfl rfl ?_;rw [Zij.eq_1] at hm;have aa:=St.start col w0;refine go ?_;refine Ye (col:=(Zj col)) 1 rfl ?_;intro aq ar al am ac;refine Xr (col:=al) #[.bool false,.slice none (([]:List Int).length) 0] 2 zeroValue45 ?_;intro au av aw ai ae;refine go ?_;refine Y5 ⟨_,_,rfl⟩ ?_;replace ac:=ac.gr ai;refine lW ((ac.atN).nth (q:=0) rfl)<|Xu ac ?_;obtain ⟨ax,an,hm⟩:=bZ hm;replace ad:=ad.keep (Zl.start col w0);replace aa:=(aa.grow am).grow ai;refine Zh (Zct 3 an (ad.ks aa)) ?_;rintro _ ay ⟨az,a0,a1,rfl,aj,af⟩;refine ⟨_,rfl,?_⟩;replace ae:=ae.gr aj;refine Z5 ae ?_;intro a2 ak ao ap;refine go ?_;cases hm;replace aa:=(aa.grow aj).kp ak ao;replace af:=af.kp ak;exact ⟨rfl,_,ra ap.atN,_,_,_,rfl,aa.fin (cm [(3,c1)]),aa.fo af⟩
def Zak (N:Nat) (ae:Bool) (aa:List Int) (ab:List Int):Option R1:=
  (Zhi N aa ab).bind fun ac=>(Zdi N aa ac).bind fun af=>(Zdi N ab ac).bind fun ag=>(Zij N (ae,af.1)).bind fun ad=>some ((ad.1,ad.2),ag.1)
theorem Zgy {N ay az:Nat} {a1 a2:Option Addr} {col:Zd} {w0:World} {ak:Bool} {al am:R2} {r:R1} (c1 c2:Nat) (hm:Zak N ak al am=some r) (h1:Sl (Za.int .u32) col w0 a1 ay al) (h2:Sl (Za.int .u32) col w0 a2 az am):
    Calls prog 189 #[.bool ak,.slice a1 al.length ay,.slice a2 am.length az] w0 (fun e w'=>∃ (col':Zd) (ra1:Option Addr) (rc2:Nat) (ra4:Option Addr) (rc5:Nat),e= .returned ((.agg #[.bool r.1.1,.slice ra1 r.1.2.length rc2,.slice ra4 r.2.length rc5]))∧Zi col w0 col' w'∧Zc (Za.int .u32) 79 c1 col' w' ra1 rc2 r.1.2∧Zc (Za.int .u32) 79 c2 col' w' ra4 rc5 r.2):=by
 refine Wi (m:=37) func189 rfl rfl rfl ?_;rw [Zak.eq_1] at hm;have aa:=St.start col w0;refine go ?_;refine Xr (col:=(Zj col)) #[.bool false,.slice none (([]:List Int).length) 0,.slice none (([]:List Int).length) 0] 1 zeroValue47 ?_;intro bo bp bq a8 an;refine go ?_;obtain ⟨br,a9,hm⟩:=bZ hm;replace h1:=h1.keep (Zl.start col w0);replace h2:=h2.keep (Zl.start col w0);replace aa:=aa.grow a8;refine Zh (Zxg 2 a9 (h1.ks aa) (h2.ks aa)) ?_;rintro _ ba ⟨ao,bs,bt,rfl,a0,aj⟩;refine ⟨_,rfl,go ?_⟩;obtain ⟨ab,bb,hm⟩:=bZ hm;replace aa:=aa.grow a0;refine Zh (Zmf 3 4 bb ((h1.ks aa).froz 2) (aj.toSlF (Zg.int .u32))) ?_;rintro _ bc ⟨bd,ap,aq,a3,a4,rfl,ad,ag,bu⟩;refine ⟨_,rfl,?_⟩;replace ag:=ag.thaw (Z0 .u32) ad ((Fz.refl (col:=ao)).froz 2) (by decide);replace ad:=ad.thawR (col:=ao);generalize Xc ba.heap.size ao bd=ar at *;refine lM (.tuple #[.slice ap ab.1.length aq,.slice a3 ab.2.1.length a4,.int .i64 ab.2.2])<|lV (.slice ap ab.1.length aq) (Xe rfl rfl)<|lV (.slice a3 ab.2.1.length a4) (Xe rfl rfl)<|lV (.int .i64 ab.2.2) (Xe rfl rfl)<|go ?_;obtain ⟨ac,be,hm⟩:=bZ hm;replace aj:=aj.gr ad;replace aa:=aa.grow ad;refine Zh (Zmf 5 6 be ((h2.ks aa).froz 2) (aj.toSlF (Zg.int .u32))) ?_;rintro _ bf ⟨bg,au,av,a5,a6,rfl,ae,ah,bv⟩;refine ⟨_,rfl,?_⟩;replace ah:=ah.thaw (Z0 .u32) ae ((Fz.refl (col:=ar)).froz 2) (by decide);replace ae:=ae.thawR (col:=ar);generalize Xc bc.heap.size ar bg=aw at *;refine lM (.tuple #[.slice au ac.1.length av,.slice a5 ac.2.1.length a6,.int .i64 ac.2.2])<|lV (.slice au ac.1.length av) (Xe rfl rfl)<|lV (.slice a5 ac.2.1.length a6) (Xe rfl rfl)<|lV (.int .i64 ac.2.2) (Xe rfl rfl)<|go ?_;refine lV (.agg #[.bool ak,.slice ap ab.1.length aq]) (Wg (l:=[_,_]) (qs:=[(0,1),(1,1)]) underlying45 zeroValue45 ⟨rfl,sizeOf4,rfl,sizeOf43,trivial⟩ rfl) ?_;obtain ⟨a7,bh,hm⟩:=bZ hm;replace ag:=ag.gr ae;refine Zh (Zyf 7 bh (ag.toSlF (Zg.int .u32))) ?_;rintro _ bw ⟨bi,bj,bk,rfl,af,ai⟩;refine ⟨_,rfl,?_⟩;replace ai:=ai.thaw (Z0 .u32) af ((Fz.refl (col:=aw)).froz 3) (by decide);replace af:=af.thawR (col:=aw);generalize Xc bf.heap.size aw bi=bx at *
 refine Y0 rfl<|lV (.agg #[.bool a7.1,.slice bj a7.2.length bk,.slice au ac.1.length av]) (Wg (l:=[_,_]) (qs:=[(0,2),(2,1)]) underlying47 zeroValue47 ⟨rfl,sizeOf45,rfl,sizeOf43,trivial⟩ rfl) ?_;replace an:=(((an.gr a0).gr ad).gr ae).gr af;refine Z5 an ?_;intro bz ax bm bn;refine go ?_;cases hm;replace aa:=((aa.grow ae).grow af).kp ax bm;replace ah:=(ah.gr af).kp ax;replace ai:=ai.kp ax;exact ⟨rfl,_,ra bn.atN,_,_,_,_,_,rfl,aa.fin (cm [(7,c1),(5,c2)]),aa.fo ai,aa.fo ah⟩
def Vs (N:Nat) (aa:R1) (ab:R1):Option R1:=
  (Uo N ((ab.1.1,ab.1.2),ab.2)).bind fun ag=>(Zbq N (aa.1.1,aa.1.2) ag).bind fun ad=>(Uo N ((aa.1.1,aa.1.2),aa.2)).bind fun ah=>(Zbq N (ab.1.1,ab.1.2) ah).bind fun ae=>(Zig N (ad.1,ad.2) (ae.1,ae.2)).bind fun af=>(Uo N ((aa.1.1,aa.1.2),aa.2)).bind fun ai=>(Uo N ((ab.1.1,ab.1.2),ab.2)).bind fun aj=>(S8 N ai aj).bind fun ak=>(Zak N af.1 af.2 ak).bind fun ac=>some ((ac.1.1,ac.1.2),ac.2)
theorem Zej {N bo bz bp b0:Nat} {bq b1 br b2:Option Addr} {col:Zd} {w0:World} {aj ak r:R1} (c1 c2:Nat) (hm:Vs N aj ak=some r) (ba:Sl (Za.int .u32) col w0 bq bo aj.1.2) (bs:Sl (Za.int .u32) col w0 b1 bz aj.2) (bb:Sl (Za.int .u32) col w0 br bp ak.1.2) (bt:Sl (Za.int .u32) col w0 b2 b0 ak.2):
    Calls prog 73 #[(.agg #[.bool aj.1.1,.slice bq aj.1.2.length bo,.slice b1 aj.2.length bz]),(.agg #[.bool ak.1.1,.slice br ak.1.2.length bp,.slice b2 ak.2.length b0])] w0 (fun e w'=>∃ (col':Zd) (ra1:Option Addr) (rc2:Nat) (ra4:Option Addr) (rc5:Nat),e= .returned ((.agg #[.bool r.1.1,.slice ra1 r.1.2.length rc2,.slice ra4 r.2.length rc5]))∧Zi col w0 col' w'∧Zc (Za.int .u32) 79 c1 col' w' ra1 rc2 r.1.2∧Zc (Za.int .u32) 79 c2 col' w' ra4 rc5 r.2):=by
 refine Wi (m:=27) func73 rfl rfl rfl ?_;rw [Vs.eq_1] at hm;have aa:=St.start col w0;refine go ?_;refine Ye (col:=(Zj col)) 1 rfl ?_;intro cd c9 ce cf ae;refine Ye (col:=ce) 2 rfl ?_;intro cg da ch ca af;refine Xr (col:=ch) #[.bool false,.slice none (([]:List Int).length) 0,.slice none (([]:List Int).length) 0] 3 zeroValue47 ?_;intro db a4 ay b3 ab;refine go ?_;have bu:=Zx.clip (fun _=>false) ay a4;refine Zwb (col:=ay) [(0,1),(1,0),(2,0),(5,1),(6,0),(7,0),(3,3),(4,3),(8,3),(9,3),(10,3),(11,4),(12,2)] (by kernel_rfl) (by kernel_rfl) ⟨fun h=>absurd h (by decide),fun h=>absurd h (by decide),fun h=>absurd h (by decide),fun h=>absurd h (by decide),fun h=>absurd h (by decide),fun h=>absurd h (by decide),fun h=>absurd h (by decide),fun h=>absurd h (by decide),fun h=>absurd h (by decide),fun h=>absurd h (by decide),fun h=>absurd h (by decide),fun _=>⟨_,_,_,rfl,Zjx zeroValue45⟩,fun h=>absurd h (by decide),trivial⟩<|Zco (v:=(.pointer ((some (⟨cd,0,none⟩:Addr)).map (·.add 0)))) rfl rfl (fun _=>Zgj (sz:=2) (off:=0) underlying47 rfl sizeOf45 (by decide) rfl rfl ⟨_,_,rfl⟩) ?_;replace ae:=((ae.gr ca).gr b3).kpp bu;refine Zgq (v:=(.agg #[.bool aj.1.1,.slice bq aj.1.2.length bo])) rfl rfl (fun _ hC=>Wj isAgg45 sizeOf45 rfl rfl (((ae.atN).part 0 2 _ rfl).gr (hC.bl (Zu a4 ay)))) ?_;replace af:=(af.gr b3).kpp bu;refine Zgq (v:=(.agg #[.bool ak.1.1,.slice br ak.1.2.length bp,.slice b2 ak.2.length b0])) rfl rfl (fun _ hC=>Wj isAgg47 sizeOf47 rfl rfl (af.atN.gr (hC.bl (Zu a4 ay)))) ?_;refine Zco (v:=(.pointer ((some (⟨cg,0,none⟩:Addr)).map (·.add 0)))) rfl rfl (fun _=>Zgj (sz:=2) (off:=0) underlying47 rfl sizeOf45 (by decide) rfl rfl ⟨_,_,rfl⟩) ?_;refine Zgq (v:=(.agg #[.bool ak.1.1,.slice br ak.1.2.length bp])) rfl rfl (fun _ hC=>Wj isAgg45 sizeOf45 rfl rfl (((af.atN).part 0 2 _ rfl).gr (hC.bl (Zu a4 ay)))) ?_;refine Zgq (v:=(.agg #[.bool aj.1.1,.slice bq aj.1.2.length bo,.slice b1 aj.2.length bz])) rfl rfl (fun _ hC=>Wj isAgg47 sizeOf47 rfl rfl (ae.atN.gr (hC.bl (Zu a4 ay)))) ?_;refine Zaa rfl rfl ?_;intro dc hC0;have hC:=hC0.bl (Zu a4 ay);obtain ⟨dd,ci,hm⟩:=bZ hm;replace bb:=bb.keep (Zl.start col w0);replace bt:=bt.keep (Zl.start col w0);replace aa:=((((aa.grow cf).grow ca).grow b3).kpp bu).grow hC;refine Zh (Su 4 ci (bb.ks aa) (bt.ks aa)) ?_;rintro _ ao ⟨au,de,df,rfl,az,b4⟩;refine ⟨_,rfl,?_⟩
 refine Zm ?_;refine ⟨fun w'=>Zi (Zu ao au) ao (Zu ao au) w',fun g=>(Zu ao au) g=497,Zi.refl _ _,Sx,fun _=>⟨fun _ h=>Zab hC0 az h,fun b hb=>az.below.block b hb,fun g x1 x2=>Zbj az g x1 (by first | exact x2 | (simp only [Yl,x2];rfl) | (simp only [Yl,Xf,x2];rfl))⟩,?_⟩;have bc:=Zx.clip (fun _=>false) au ao;refine Zaa rfl rfl ?_;intro cj hC0;replace ab:=(((ab.kpp bu).gr hC).gr az).kpp bc;replace ae:=((ae.gr hC).gr az).kpp bc;replace af:=((af.gr hC).gr az).kpp bc;have hC:=hC0.bl (Zu ao au);obtain ⟨dg,ck,hm⟩:=bZ hm;replace ba:=ba.keep (Zl.start col w0);replace aa:=((aa.grow az).kpp bc).grow hC;replace b4:=(b4.kpp bc).gr hC;refine Zh (Zjk 5 ck ((ba.ks aa).froz 4) (b4.toSlF (Zg.int .u32))) ?_;rintro _ a5 ⟨cl,dh,di,rfl,am,ap⟩;refine ⟨_,rfl,?_⟩;replace bs:=bs.keep (Zl.start col w0);replace ap:=ap.thaw (Z0 .u32) am ((Fz.refl (col:=(Zu ao au))).froz 4) (by decide);replace am:=am.thawR (col:=(Zu ao au));generalize Xc cj.heap.size (Zu ao au) cl=bd at *;refine Zm ?_;refine ⟨fun w'=>Zi (Zu a5 bd) a5 (Zu a5 bd) w',fun g=>(Zu a5 bd) g=497,Zi.refl _ _,Sx,fun _=>⟨fun _ h=>Zab hC0 am h,fun b hb=>am.below.block b hb,fun g x1 x2=>Zbj am g x1 (by first | exact x2 | (simp only [Yl,x2];rfl) | (simp only [Yl,Xf,x2];rfl))⟩,?_⟩;have be:=Zx.clip (fun _=>false) bd a5;refine Zaa rfl rfl ?_;intro dj hC0;replace ae:=((ae.gr hC).gr am).kpp be;replace af:=((af.gr hC).gr am).kpp be;replace ab:=((ab.gr hC).gr am).kpp be;have hC:=hC0.bl (Zu a5 bd);obtain ⟨dk,cn,hm⟩:=bZ hm;replace aa:=((aa.grow am).kpp be).grow hC;refine Zh (Su 6 cn (ba.ks aa) (bs.ks aa)) ?_;rintro _ aq ⟨av,dl,dm,rfl,aw,b5⟩;refine ⟨_,rfl,?_⟩;refine Zm ?_;refine ⟨fun w'=>Zi (Zu aq av) aq (Zu aq av) w',fun g=>(Zu aq av) g=497,Zi.refl _ _,Sx,fun _=>⟨fun _ h=>Zab hC0 aw h,fun b hb=>aw.below.block b hb,fun g x1 x2=>Zbj aw g x1 (by first | exact x2 | (simp only [Yl,x2];rfl) | (simp only [Yl,Xf,x2];rfl))⟩,?_⟩;have a6:=Zx.clip (fun _=>false) av aq;refine Zaa rfl rfl ?_;intro co hC0;replace ap:=(((ap.kpp be).gr hC).gr aw).kpp a6;replace ae:=((ae.gr hC).gr aw).kpp a6;replace af:=((af.gr hC).gr aw).kpp a6;replace ab:=((ab.gr hC).gr aw).kpp a6;have hC:=hC0.bl (Zu aq av)
 obtain ⟨dn,cp,hm⟩:=bZ hm;replace aa:=((aa.grow aw).kpp a6).grow hC;replace b5:=(b5.kpp a6).gr hC;refine Zh (Zjk 7 cp ((bb.ks aa).froz 6) (b5.toSlF (Zg.int .u32))) ?_;rintro _ ar ⟨cq,dp,dq,rfl,al,bf⟩;refine ⟨_,rfl,?_⟩;replace bf:=bf.thaw (Z0 .u32) al ((Fz.refl (col:=(Zu aq av))).froz 6) (by decide);replace al:=al.thawR (col:=(Zu aq av));generalize Xc co.heap.size (Zu aq av) cq=ax at *;refine Zm ?_;refine ⟨fun w'=>Zi (Zu ar ax) ar (Zu ar ax) w',fun g=>(Zu ar ax) g=497,Zi.refl _ _,Sx,fun _=>⟨fun _ h=>Zab hC0 al h,fun b hb=>al.below.block b hb,fun g x1 x2=>Zbj al g x1 (by first | exact x2 | (simp only [Yl,x2];rfl) | (simp only [Yl,Xf,x2];rfl))⟩,?_⟩;have a7:=Zx.clip (fun _=>false) ax ar;refine Zaa rfl rfl ?_;intro cr hC0;replace ap:=((ap.gr hC).gr al).kpp a7;replace ae:=((ae.gr hC).gr al).kpp a7;replace af:=((af.gr hC).gr al).kpp a7;replace ab:=((ab.gr hC).gr al).kpp a7;have hC:=hC0.bl (Zu ar ax);obtain ⟨dr,cs,hm⟩:=bZ hm;replace bf:=(bf.kpp a7).gr hC;replace ap:=ap.gr hC;refine Zh (Zyc 8 cs ((ap.toSlF (Zg.int .u32)).froz 7) ((bf.froz 5 (by decide)).toSlF (Zg.int .u32))) ?_;rintro _ ac ⟨ct,ds,dt,rfl,an,ag⟩;refine ⟨_,rfl,?_⟩;replace ag:=ag.thaw (Z0 .u32) an (((Fz.refl (col:=(Zu ar ax))).froz 5).froz 7) (by decide);replace an:=an.thawR (col:=(Zu ar ax));generalize Xc cr.heap.size (Zu ar ax) ct=ad at *;refine Zm ?_;refine ⟨fun w'=>Zi (Zu ac ad) ac (Zu ac ad) w',fun g=>(Zu ac ad) g=497,Zi.refl _ _,Sx,fun _=>⟨fun _ h=>Zab hC0 an h,fun b hb=>an.below.block b hb,fun g x1 x2=>Zbj an g x1 (by first | exact x2 | (simp only [Yl,x2];rfl) | (simp only [Yl,Xf,x2];rfl))⟩,?_⟩;have bg:=Zx.clip (fun _=>false) ad ac;refine xaF rfl rfl (Zjx zeroValue45) ?_;intro ah cu;refine Zaa rfl rfl ?_;intro cv ⟨hC0,hZ0⟩;replace aa:=((((aa.grow al).kpp a7).grow hC).grow an).kpp bg;replace ae:=((ae.gr hC).gr an).kpp bg;replace af:=((af.gr hC).gr an).kpp bg;replace ab:=((ab.gr hC).gr an).kpp bg;have hC:=hC0.bl (Zu ac ad);obtain ⟨bh,b6⟩:=Zpf (col:=(Zu ac ad)) 9 hZ0 cu;replace b6:Zk 45 9 (W1 ah 9 (Zu ac ad)) cv ah #[.bool false,.slice none (([]:List Int).length) 0]:=b6;refine Z5 b6 ?_
 intro ai bi cw bv;refine Zm ?_;refine ⟨fun w'=>Zi (Zu ai (W1 ah 9 (Zu ac ad))) ai (Zu ai (W1 ah 9 (Zu ac ad))) w',fun g=>(Zu ai (W1 ah 9 (Zu ac ad))) g=497,Zi.refl _ _,Sx,fun h=>absurd h (by decide),?_⟩;have a8:=Zx.clip (fun _=>false) (W1 ah 9 (Zu ac ad)) ai;refine Zwg ?_;replace ag:=((((ag.kpp bg).gr hC).kpp bh).kp bi).kpp a8;replace ae:=(((ae.gr hC).kpp bh).kp bi).kpp a8;replace af:=(((af.gr hC).kpp bh).kp bi).kpp a8;replace ab:=(((ab.gr hC).kpp bh).kp bi).kpp a8;replace aa:=(((aa.grow hC).kpp bh).kp bi cw).kpp a8;intro cb hC;replace hC:Zi (Zu ai (W1 ah 9 (Zu ac ad))) ai (Zu ai (W1 ah 9 (Zu ac ad))) cb:=.of_below hC.below;refine Zw<|Wk (col:=(Zu ai (W1 ah 9 (Zu ac ad)))) [(0,1),(1,0),(2,1),(3,0),(4,0),(6,0),(5,3),(7,3),(8,3),(9,3),(10,2)] (by kernel_rfl) (by kernel_rfl)<|xF ⟨_,_,rfl⟩ ?_;replace bv:=(bv.kpp a8).gr hC;refine xW (fun _ hC=>((bv.atN).nth (q:=0) rfl).gr (hC.bl (Zu ai (W1 ah 9 (Zu ac ad))))) ?_;refine xF ⟨_,_,rfl⟩ ?_;refine xW (fun _ hC=>((bv.atN).nth (q:=1) rfl).gr (hC.bl (Zu ai (W1 ah 9 (Zu ac ad))))) ?_;replace ae:=ae.gr hC;refine xv rfl rfl (fun _ hC=>Xh isAgg47 sizeOf47 (ae.gr (hC.bl (Zu ai (W1 ah 9 (Zu ac ad)))))) ?_;replace af:=af.gr hC;refine xv rfl rfl (fun _ hC=>Xh isAgg47 sizeOf47 (af.gr (hC.bl (Zu ai (W1 ah 9 (Zu ac ad)))))) ?_;refine xe rfl rfl ?_;intro cx hC0;replace ag:=ag.gr hC;replace ab:=ab.gr hC;replace aa:=aa.grow hC;have hC:Zi (Zu ai (W1 ah 9 (Zu ac ad))) cb (Zu ai (W1 ah 9 (Zu ac ad))) cx:=.of_below hC0.below;obtain ⟨du,cy,hm⟩:=bZ hm;replace aa:=aa.grow hC;refine Zh (Su 10 cy (ba.ks aa) (bs.ks aa)) ?_;rintro _ dv ⟨cc,dw,dx,rfl,bw,bj⟩;refine ⟨_,rfl,?_⟩;refine Zm<|X0 cc hC0 bw<|xe rfl rfl ?_;intro dy hC0;replace ag:=(ag.gr hC).gr bw;replace ab:=(ab.gr hC).gr bw;have hC:=hC0.bl cc;obtain ⟨dz,cz,hm⟩:=bZ hm;replace aa:=(aa.grow bw).grow hC;refine Zh (Su 11 cz (bb.ks aa) (bt.ks aa)) ?_;rintro _ d0 ⟨bk,d1,d2,rfl,bm,b7⟩;refine ⟨_,rfl,?_⟩;refine Zm<|X0 bk hC0 bm<|xe rfl rfl ?_;intro c0 hC0;replace ag:=(ag.gr hC).gr bm;replace bj:=(bj.gr hC).gr bm;replace ab:=(ab.gr hC).gr bm;have hC:=hC0.bl bk
 obtain ⟨d3,c3,hm⟩:=bZ hm;replace bj:=bj.gr hC;replace b7:=b7.gr hC;refine Zh (Zem 12 c3 ((bj.toSlF (Zg.int .u32)).froz 11) ((b7.froz 10 (by decide)).toSlF (Zg.int .u32))) ?_;rintro _ d4 ⟨c4,d5,d6,rfl,a0,bn⟩;refine ⟨_,rfl,?_⟩;replace bn:=bn.thaw (Z0 .u32) a0 (((Fz.refl (col:=bk)).froz 10).froz 11) (by decide);replace a0:=a0.thawR (col:=bk);generalize Xc c0.heap.size bk c4=a9 at *;refine Zm<|X0 a9 hC0 a0<|xe rfl rfl ?_;intro c5 hC0;replace aa:=((aa.grow bm).grow hC).grow a0;replace ag:=(ag.gr hC).gr a0;replace ab:=(ab.gr hC).gr a0;have hC:=hC0.bl a9;obtain ⟨d7,c6,hm⟩:=bZ hm;replace ag:=ag.gr hC;replace bn:=bn.gr hC;refine Zh (Zgy 13 14 c6 ((ag.toSlF (Zg.int .u32)).froz 12) ((bn.froz 8 (by decide)).toSlF (Zg.int .u32))) ?_;rintro _ d8 ⟨c7,d9,ea,eb,ec,rfl,a1,a2,a3⟩;refine ⟨_,rfl,?_⟩;replace a2:=a2.thaw (Z0 .u32) a1 (((Fz.refl (col:=a9)).froz 8).froz 12) (by decide);replace a3:=a3.thaw (Z0 .u32) a1 (((Fz.refl (col:=a9)).froz 8).froz 12) (by decide);replace a1:=a1.thawR (col:=a9);generalize Xc c5.heap.size a9 c7=bx at *;refine Zm<|X0 bx hC0 a1<|xe rfl rfl ?_;intro ed hC0;replace ab:=(ab.gr hC).gr a1;replace aa:=(aa.grow hC).grow a1;have hC:=hC0.bl bx;replace ab:=ab.gr hC;refine Z5 ab ?_;intro ee b8 c8 b9;refine Zm<|xk bx<|Y7 ?_;replace a2:=(a2.gr hC).kp b8;replace a3:=(a3.gr hC).kp b8;replace aa:=(aa.grow hC).kp b8 c8;intro ef hC;replace hC:=hC.bl bx;refine W7 ?_;cases hm;replace a2:=a2.gr hC;replace a3:=a3.gr hC;replace b9:=b9.gr hC;replace aa:=aa.grow hC;exact ⟨rfl,_,ra b9.atN,_,_,_,_,_,rfl,aa.fin (cm [(13,c1),(14,c2)]),aa.fo a2,aa.fo a3⟩
def Zbp (N:Nat) (aa:R1) (ab:R1):Option R1:=
  (S8 N aa.1.2 ab.1.2).bind fun ad=>(Uo N ((aa.1.1,aa.1.2),aa.2)).bind fun ae=>(Uo N ((ab.1.1,ab.1.2),ab.2)).bind fun af=>(S8 N ae af).bind fun ag=>(Zak N (!decide (aa.1.1=ab.1.1)) ad ag).bind fun ac=>some ((ac.1.1,ac.1.2),ac.2)
theorem Zpi {N a4 a5 a6 a7:Nat} {a8 a9 ba bb:Option Addr} {col:Zd} {w0:World} {ai aj r:R1} (c1 c2:Nat) (hm:Zbp N ai aj=some r) (ar:Sl (Za.int .u32) col w0 a8 a4 ai.1.2) (ax:Sl (Za.int .u32) col w0 a9 a5 ai.2) (au:Sl (Za.int .u32) col w0 ba a6 aj.1.2) (ay:Sl (Za.int .u32) col w0 bb a7 aj.2):
    Calls prog 75 #[(.agg #[.bool ai.1.1,.slice a8 ai.1.2.length a4,.slice a9 ai.2.length a5]),(.agg #[.bool aj.1.1,.slice ba aj.1.2.length a6,.slice bb aj.2.length a7])] w0 (fun e w'=>∃ (col':Zd) (ra1:Option Addr) (rc2:Nat) (ra4:Option Addr) (rc5:Nat),e= .returned ((.agg #[.bool r.1.1,.slice ra1 r.1.2.length rc2,.slice ra4 r.2.length rc5]))∧Zi col w0 col' w'∧Zc (Za.int .u32) 79 c1 col' w' ra1 rc2 r.1.2∧Zc (Za.int .u32) 79 c2 col' w' ra4 rc5 r.2):=by
 refine Wi (m:=25) func75 rfl rfl rfl ?_;rw [Zbp.eq_1] at hm;have aa:=St.start col w0;refine go ?_;refine Ye (col:=(Zj col)) 1 rfl ?_;intro bt bu bf bg al;refine Ye (col:=bf) 2 rfl ?_;intro bv bw bh bc am;refine Xr (col:=bh) #[.bool false,.slice none (([]:List Int).length) 0,.slice none (([]:List Int).length) 0] 3 zeroValue47 ?_;intro bx bz ad az ab;refine go ?_;refine Wk (col:=ad) [(0,1),(1,1),(2,0),(3,1),(4,1),(5,0),(6,1),(7,1),(8,1),(9,0),(10,1),(11,1),(12,0),(14,0),(16,0),(13,3),(15,3),(17,3),(18,3),(19,3),(20,2)] (by kernel_rfl) (by kernel_rfl)<|xF ⟨_,_,rfl⟩ ?_;refine xF (U5 ⟨_,_,rfl⟩) ?_;replace al:=(al.gr bc).gr az;refine xW (fun _ hC=>((((al.atN).part 0 2 _ rfl)).nth (q:=0) rfl).gr (hC.bl ad)) ?_;refine xF ⟨_,_,rfl⟩ ?_;refine xF (U5 ⟨_,_,rfl⟩) ?_;replace am:=am.gr az;refine xW (fun _ hC=>((((am.atN).part 0 2 _ rfl)).nth (q:=0) rfl).gr (hC.bl ad)) ?_;refine xu rfl rfl (fun _=>Zit _ _ underlying4 rfl rfl) ?_;refine xF ⟨_,_,rfl⟩ ?_;refine xF (U5 ⟨_,_,rfl⟩) ?_;refine xW (fun _ hC=>((((al.atN).part 0 2 _ rfl)).nth (q:=1) rfl).gr (hC.bl ad)) ?_;refine xF ⟨_,_,rfl⟩ ?_;refine xF (U5 ⟨_,_,rfl⟩) ?_;refine xW (fun _ hC=>((((am.atN).part 0 2 _ rfl)).nth (q:=1) rfl).gr (hC.bl ad)) ?_;refine xv rfl rfl (fun _ hC=>Xh isAgg47 sizeOf47 (al.gr (hC.bl ad))) ?_;refine xv rfl rfl (fun _ hC=>Xh isAgg47 sizeOf47 (am.gr (hC.bl ad))) ?_;refine xe rfl rfl ?_;intro b0 hC0;have hC:=hC0.bl ad;obtain ⟨b1,bi,hm⟩:=bZ hm;replace ar:=ar.keep (Zl.start col w0);replace au:=au.keep (Zl.start col w0);replace aa:=(((aa.grow bg).grow bc).grow az).grow hC;refine Zh (Zem 4 bi (ar.ks aa) (au.ks aa)) ?_;rintro _ b2 ⟨bd,b3,b4,rfl,a0,ac⟩;refine ⟨_,rfl,?_⟩;refine Zm<|X0 bd hC0 a0<|xe rfl rfl ?_;intro b5 hC0;replace ab:=(ab.gr hC).gr a0;have hC:=hC0.bl bd;obtain ⟨b6,bj,hm⟩:=bZ hm;replace ax:=ax.keep (Zl.start col w0);replace aa:=(aa.grow a0).grow hC;refine Zh (Su 5 bj (ar.ks aa) (ax.ks aa)) ?_;rintro _ b7 ⟨be,b8,b9,rfl,av,an⟩;refine ⟨_,rfl,?_⟩;refine Zm<|X0 be hC0 av<|xe rfl rfl ?_;intro ca hC0;replace ac:=(ac.gr hC).gr av;replace ab:=(ab.gr hC).gr av;have hC:=hC0.bl be;obtain ⟨cb,bk,hm⟩:=bZ hm;replace ay:=ay.keep (Zl.start col w0);replace aa:=(aa.grow av).grow hC
 refine Zh (Su 6 bk (au.ks aa) (ay.ks aa)) ?_;rintro _ cc ⟨ao,cd,ce,rfl,ap,a1⟩;refine ⟨_,rfl,?_⟩;refine Zm<|X0 ao hC0 ap<|xe rfl rfl ?_;intro bm hC0;replace ac:=(ac.gr hC).gr ap;replace an:=(an.gr hC).gr ap;replace ab:=(ab.gr hC).gr ap;have hC:=hC0.bl ao;obtain ⟨cf,bn,hm⟩:=bZ hm;replace an:=an.gr hC;replace a1:=a1.gr hC;refine Zh (Zem 7 bn ((an.toSlF (Zg.int .u32)).froz 6) ((a1.froz 5 (by decide)).toSlF (Zg.int .u32))) ?_;rintro _ cg ⟨bo,ch,ci,rfl,ae,aq⟩;refine ⟨_,rfl,?_⟩;replace aq:=aq.thaw (Z0 .u32) ae (((Fz.refl (col:=ao)).froz 5).froz 6) (by decide);replace ae:=ae.thawR (col:=ao);generalize Xc bm.heap.size ao bo=ak at *;refine Zm<|X0 ak hC0 ae<|xe rfl rfl ?_;intro bp hC0;replace aa:=((aa.grow ap).grow hC).grow ae;replace ac:=(ac.gr hC).gr ae;replace ab:=(ab.gr hC).gr ae;have hC:=hC0.bl ak;obtain ⟨cj,bq,hm⟩:=bZ hm;replace ac:=ac.gr hC;replace aq:=aq.gr hC;refine Zh (Zgy 8 9 bq ((ac.toSlF (Zg.int .u32)).froz 7) ((aq.froz 4 (by decide)).toSlF (Zg.int .u32))) ?_;rintro _ ck ⟨br,cl,cn,co,cp,rfl,af,ag,ah⟩;refine ⟨_,rfl,?_⟩;replace ag:=ag.thaw (Z0 .u32) af (((Fz.refl (col:=ak)).froz 4).froz 7) (by decide);replace ah:=ah.thaw (Z0 .u32) af (((Fz.refl (col:=ak)).froz 4).froz 7) (by decide);replace af:=af.thawR (col:=ak);generalize Xc bp.heap.size ak br=aw at *;refine Zm<|X0 aw hC0 af<|xe rfl rfl ?_;intro cq hC0;replace ab:=(ab.gr hC).gr af;replace aa:=(aa.grow hC).grow af;have hC:=hC0.bl aw;replace ab:=ab.gr hC;refine Z5 ab ?_;intro cr a2 bs a3;refine Zm<|xk aw<|Y7 ?_;replace ag:=(ag.gr hC).kp a2;replace ah:=(ah.gr hC).kp a2;replace aa:=(aa.grow hC).kp a2 bs;intro cs hC;replace hC:=hC.bl aw;refine W7 ?_;cases hm;replace ag:=ag.gr hC;replace ah:=ah.gr hC;replace a3:=a3.gr hC;replace aa:=aa.grow hC;exact ⟨rfl,_,ra a3.atN,_,_,_,_,_,rfl,aa.fin (cm [(8,c1),(9,c2)]),aa.fo ag,aa.fo ah⟩
def Za7 (N:Nat) (aa:R4):Option Int:=
  (Zhh N aa.2).bind fun ab=>if (decide (ab=0))=true then (some 0) else (if aa.1=true then (some (-1)) else (some 1))
theorem Zgz {N af:Nat} {ag:Option Addr} {col:Zd} {w0:World} {ab:R4} {r:Int} (hm:Za7 N ab=some r) (ae:Sl (Za.int .u32) col w0 ag af ab.2):
    Calls prog 187 #[(.agg #[.bool ab.1,.slice ag ab.2.length af])] w0 (fun e w'=>e= .returned ((.int .i64 r))∧Below w0.heap.size w0 w'):=by
 refine Xk 2 (m:=11) func187 rfl rfl rfl rfl rfl ?_;rw [Za7.eq_1] at hm;have aa:=St.start col w0;refine go ?_;refine Ye (col:=(Zj col)) 1 rfl ?_;intro am ai ah aj ac;refine go ?_;refine Xu ac ?_;obtain ⟨an,ak,hm⟩:=bZ hm;replace ae:=ae.keep (Zl.start col w0);replace aa:=aa.grow aj;refine Zh (Zxf ak (ae.ks aa)) ?_;rintro _ al ⟨rfl,ad⟩;refine ⟨_,rfl,?_⟩;replace ad:Zi ah ai ah al:=.of_below ad;refine go ?_;replace ac:=ac.gr ad;replace aa:=aa.grow ad;refine Zr hm (fun hb hm=>go ?_) fun hb hm=>go ?_
 ·cases hm;exact ⟨rfl,rfl,aa.below⟩
 refine Xu ac ?_;refine go ?_;refine Zr hm (fun hb hm=>go ?_) fun hb hm=>go ?_
 ·cases hm;exact ⟨rfl,rfl,aa.below⟩
 cases hm;exact ⟨rfl,rfl,aa.below⟩
def Zih (N:Nat) (aa:R4) (ab:R4):Option Int:=
  (Za7 N (aa.1,aa.2)).bind fun ac=>(Za7 N (ab.1,ab.2)).bind fun ad=>if (decide (ac<ad))=true then (some (-1)) else (if (decide (ad<ac))=true then (some 1) else ((Zb1 N aa.2 ab.2).bind fun ae=>some (i64.wrap (ac * ae))))
theorem Zyd {N aj ak:Nat} {al am:Option Addr} {col:Zd} {w0:World} {ad ae:R4} {r:Int} (hm:Zih N ad ae=some r) (af:Sl (Za.int .u32) col w0 al aj ad.2) (ag:Sl (Za.int .u32) col w0 am ak ae.2):
    Calls prog 184 #[(.agg #[.bool ad.1,.slice al ad.2.length aj]),(.agg #[.bool ae.1,.slice am ae.2.length ak])] w0 (fun e w'=>e= .returned ((.int .i64 r))∧Below w0.heap.size w0 w'):=by
 refine Xk 4 (m:=26) func184 rfl rfl rfl rfl rfl ?_;rw [Zih.eq_1] at hm;have aa:=St.start col w0;refine go ?_;refine Ye (col:=(Zj col)) 1 rfl ?_;intro az a0 ao ap ac;refine Ye (col:=ao) 2 rfl ?_;intro a1 a2 ab an ah;refine go ?_;refine Tq (col:=ab) (by kernel_rfl) (by kernel_rfl) ?_;replace ac:=ac.gr an;refine qv rfl (fun _ hC=>Xh isAgg45 sizeOf45 (ac.gr (hC.bl ab))) ?_;obtain ⟨aq,ar,hm⟩:=bZ hm;replace af:=af.keep (Zl.start col w0);replace aa:=(aa.grow ap).grow an;refine qc (v:=(.int .i64 aq)) rfl (fun _ hC=>⟨_,_,Zod call187 rfl,(Zgz ar ((af.ks aa).gr (hC.bl ab)):).mono fun _ _ h=>⟨h.1,hC.trans (.of_below h.2)⟩⟩) ?_;refine qv rfl (fun _ hC=>Xh isAgg45 sizeOf45 (ah.gr (hC.bl ab))) ?_;obtain ⟨au,av,hm⟩:=bZ hm;replace ag:=ag.keep (Zl.start col w0);refine qc (v:=(.int .i64 au)) rfl (fun _ hC=>⟨_,_,Zod call187 rfl,(Zgz av ((ag.ks aa).gr (hC.bl ab)):).mono fun _ _ h=>⟨h.1,hC.trans (.of_below h.2)⟩⟩) ?_;refine go ?_;refine Vh ?_;intro aw hC;replace hC:=hC.bl ab;refine go ?_;replace ac:=ac.gr hC;replace ah:=ah.gr hC;replace aa:=aa.grow hC;refine Zr hm (fun hb hm=>go ?_) fun hb hm=>go ?_
 ·cases hm;exact ⟨rfl,rfl,aa.below⟩
 refine Zr hm (fun hb hm=>go ?_) fun hb hm=>go ?_
 ·cases hm;exact ⟨rfl,rfl,aa.below⟩
 refine Xu ac<|Xu ah ?_;obtain ⟨a3,ax,hm⟩:=bZ hm;refine Zh (Zjm ax (af.ks aa) (ag.ks aa)) ?_;rintro _ ay ⟨rfl,ai⟩;refine ⟨_,rfl,?_⟩;replace ai:Zi ab aw ab ay:=.of_below ai;refine go ?_;cases hm;replace aa:=aa.grow ai;exact ⟨rfl,rfl,aa.below⟩
def S1 (N:Nat) (aa:R1) (ab:R1):Option Int:=
  (Uo N ((ab.1.1,ab.1.2),ab.2)).bind fun ae=>(Zbq N (aa.1.1,aa.1.2) ae).bind fun ac=>(Uo N ((aa.1.1,aa.1.2),aa.2)).bind fun af=>(Zbq N (ab.1.1,ab.1.2) af).bind fun ad=>(Zih N (ac.1,ac.2) (ad.1,ad.2)).bind fun ag=>some ag
theorem Zek {N ap a0 aq a1:Nat} {ar a2 au a3:Option Addr} {col:Zd} {w0:World} {ac ad:R1} {r:Int} (hm:S1 N ac ad=some r) (al:Sl (Za.int .u32) col w0 ar ap ac.1.2) (av:Sl (Za.int .u32) col w0 a2 a0 ac.2) (am:Sl (Za.int .u32) col w0 au aq ad.1.2) (aw:Sl (Za.int .u32) col w0 a3 a1 ad.2):
    Calls prog 71 #[(.agg #[.bool ac.1.1,.slice ar ac.1.2.length ap,.slice a2 ac.2.length a0]),(.agg #[.bool ad.1.1,.slice au ad.1.2.length aq,.slice a3 ad.2.length a1])] w0 (fun e w'=>e= .returned ((.int .i64 r))∧Below w0.heap.size w0 w'):=by
 refine Xk 4 (m:=16) func71 rfl rfl rfl rfl rfl ?_;rw [S1.eq_1] at hm;have aa:=St.start col w0;refine go ?_;refine Ye (col:=(Zj col)) 1 rfl ?_;intro bm bn a8 a9 an;refine Ye (col:=a8) 2 rfl ?_;intro bo bp ae a4 a5;refine go ?_;refine Wk (col:=ae) [(0,1),(1,0),(2,0),(5,1),(6,0),(7,0),(3,3),(4,3),(8,3),(9,3),(10,3),(11,1)] (by kernel_rfl) (by kernel_rfl)<|xF ⟨_,_,rfl⟩ ?_;replace an:=an.gr a4;refine xv (v:=(.agg #[.bool ac.1.1,.slice ar ac.1.2.length ap])) rfl rfl (fun _ hC=>Wj isAgg45 sizeOf45 rfl rfl (((an.atN).part 0 2 _ rfl).gr (hC.bl ae))) ?_;refine xv rfl rfl (fun _ hC=>Xh isAgg47 sizeOf47 (a5.gr (hC.bl ae))) ?_;refine xF ⟨_,_,rfl⟩ ?_;refine xv (v:=(.agg #[.bool ad.1.1,.slice au ad.1.2.length aq])) rfl rfl (fun _ hC=>Wj isAgg45 sizeOf45 rfl rfl (((a5.atN).part 0 2 _ rfl).gr (hC.bl ae))) ?_;refine xv rfl rfl (fun _ hC=>Xh isAgg47 sizeOf47 (an.gr (hC.bl ae))) ?_;refine xe rfl rfl ?_;intro bq hC0;have hC:=hC0.bl ae;obtain ⟨br,ba,hm⟩:=bZ hm;replace am:=am.keep (Zl.start col w0);replace aw:=aw.keep (Zl.start col w0);replace aa:=((aa.grow a9).grow a4).grow hC;refine Zh (Su 3 ba (am.ks aa) (aw.ks aa)) ?_;rintro _ bs ⟨ah,bt,bu,rfl,a6,ax⟩;refine ⟨_,rfl,?_⟩;refine Zm<|X0 ah hC0 a6<|xe rfl rfl ?_;intro bb hC0;have hC:=hC0.bl ah;obtain ⟨bv,bc,hm⟩:=bZ hm;replace al:=al.keep (Zl.start col w0);replace aa:=(aa.grow a6).grow hC;replace ax:=ax.gr hC;refine Zh (Zjk 4 bc ((al.ks aa).froz 3) (ax.toSlF (Zg.int .u32))) ?_;rintro _ bw ⟨bd,bx,bz,rfl,ai,ab⟩;refine ⟨_,rfl,?_⟩;replace av:=av.keep (Zl.start col w0);replace ab:=ab.thaw (Z0 .u32) ai ((Fz.refl (col:=ah)).froz 3) (by decide);replace ai:=ai.thawR (col:=ah);generalize Xc bb.heap.size ah bd=a7 at *;refine Zm<|X0 a7 hC0 ai<|xe rfl rfl ?_;intro b0 hC0;have hC:=hC0.bl a7;obtain ⟨b1,be,hm⟩:=bZ hm;replace aa:=(aa.grow ai).grow hC;refine Zh (Su 5 be (al.ks aa) (av.ks aa)) ?_;rintro _ b2 ⟨aj,b3,b4,rfl,ay,az⟩;refine ⟨_,rfl,?_⟩;refine Zm<|X0 aj hC0 ay<|xe rfl rfl ?_;intro bf hC0;replace ab:=(ab.gr hC).gr ay;have hC:=hC0.bl aj;obtain ⟨b5,bg,hm⟩:=bZ hm;replace aa:=(aa.grow ay).grow hC;replace az:=az.gr hC
 refine Zh (Zjk 6 bg ((am.ks aa).froz 5) (az.toSlF (Zg.int .u32))) ?_;rintro _ b6 ⟨bh,b7,b8,rfl,af,ak⟩;refine ⟨_,rfl,?_⟩;replace ak:=ak.thaw (Z0 .u32) af ((Fz.refl (col:=aj)).froz 5) (by decide);replace af:=af.thawR (col:=aj);generalize Xc bf.heap.size aj bh=ag at *;refine Zm<|X0 ag hC0 af<|xe rfl rfl ?_;intro bi hC0;replace ab:=(ab.gr hC).gr af;have hC:=hC0.bl ag;obtain ⟨b9,bj,hm⟩:=bZ hm;replace ab:=ab.gr hC;replace ak:=ak.gr hC;refine Zh (Zyd bj ((ab.toSlF (Zg.int .u32)).froz 6) ((ak.froz 4 (by decide)).toSlF (Zg.int .u32))) ?_;rintro _ bk ⟨rfl,ao⟩;refine ⟨_,rfl,?_⟩;replace ao:Zi ag bi ag bk:=.of_below ao;refine Zm<|X0 ag hC0 ao<|xu rfl rfl (fun _=>Zt8 rfl) ?_;refine Y7 ?_;replace aa:=((aa.grow af).grow hC).grow ao;intro ca hC;replace hC:=hC.bl ag;refine W7 ?_;cases hm;replace aa:=aa.grow hC;exact ⟨rfl,rfl,aa.below⟩
def T8 (N:Nat):List R1→Bool→R2→R2→Option R1
  | [],aa,ab,ac=>some ((aa,ab),ac)
  | ad :: af,aa,ab,ac=>(Vs N ((aa,ab),ac) ((ad.1.1,ad.1.2),ad.2)).bind fun ae=>(T8 N af) ae.1.1 ae.1.2 ae.2
termination_by structural x=>x
def Ti (N:Nat) (aa:R8):Option R1:=
  (Q1 N 1).bind fun ab=>T8 N aa false ([]:List Int) ab
theorem Zel {N ba:Nat} {a0:Option Addr} {col:Zd} {w0:World} {af:R8} {r:R1} (c1 c2:Nat) (hm:Ti N af=some r) (h0:Sl (Za.pair (Za.pair Za.bool (Za.slice (Za.int .u32))) (Za.slice (Za.int .u32))) col w0 a0 ba af):
    Calls prog 69 #[.slice a0 af.length ba] w0 (fun e w'=>∃ (col':Zd) (ra1:Option Addr) (rc2:Nat) (ra4:Option Addr) (rc5:Nat),e= .returned ((.agg #[.bool r.1.1,.slice ra1 r.1.2.length rc2,.slice ra4 r.2.length rc5]))∧Zi col w0 col' w'∧Zc (Za.int .u32) 79 c1 col' w' ra1 rc2 r.1.2∧Zc (Za.int .u32) 79 c2 col' w' ra4 rc5 r.2):=by
 refine Wi (m:=19) func69 rfl rfl rfl ?_;rw [Ti.eq_1] at hm;have aa:=St.start col w0;refine go ?_;refine Xr (col:=(Zj col)) #[.bool false,.slice none (([]:List Int).length) 0,.slice none (([]:List Int).length) 0] 1 zeroValue47 ?_;intro bc cb bd be ab;refine go ?_;obtain ⟨bf,bg,hm⟩:=bZ hm;refine Zh (Zen (col:=bd) 2 bg) ?_;rintro _ cc ⟨bh,bi,bj,rfl,bb,aw⟩;refine ⟨_,rfl,?_⟩;refine lV (.agg #[.bool false,.slice none (([]:List Int).length) 0,.slice bi bf.length bj]) (Wg (l:=[_,_]) (qs:=[(0,2),(2,1)]) underlying47 zeroValue47 ⟨rfl,sizeOf45,rfl,sizeOf43,trivial⟩ rfl)<|Xr (col:=bh) #[.bool false,.slice none (([]:List Int).length) 0,.slice none (([]:List Int).length) 0] 3 zeroValue47 ?_;intro bk cd ce ax bm;refine Z5 bm ?_;intro cf ay bn ac;refine go ?_;replace aa:=(((aa.grow be).grow bb).grow ax).kp ay bn;replace ab:=((ab.gr bb).gr ax).kp ay;replace aw:=(aw.gr ax).kp ay;refine Z8 [2,3,8,9,1000000] (fun n f ak=>∃ ag an az a1 a2 aq a3 a4 ar ao,n=ao.length∧af.drop an=ao∧T8 N ao az aq ar=some r∧St w0 (Zj col) ag ak∧Zk 47 1 ag ak bc #[.bool false,.slice none (([]:List Int).length) 0,.slice none (([]:List Int).length) 0]∧Zc (Za.int .u32) 79 4 ag ak a1 a2 aq∧Zc (Za.int .u32) 79 2 ag ak a3 a4 ar∧Zk 47 3 ag ak bk #[.bool az,.slice a1 aq.length a2,.slice a3 ar.length a4]∧[10].map f=[.int .i64 an]) af.length ⟨_,0,_,none,0,_,_,_,_,_,rfl,rfl,hm,aa,ab,Zc.nil,aw,ac,rfl⟩ ?_;clear hm;intro n f ak hI;obtain ⟨ag,an,az,a1,a2,aq,a3,a4,ar,ao,hn,hl,hm,aa,ab,al,am,ac,hs⟩:=hI;subst hn;refine .lL [10] hs ?_;replace h0:=h0.keep (Zl.start col w0)
 cases ao with
 | nil=>
  have hk:¬ ((an:Int)<(af.length:Int)):=by have:=List.drop_eq_nil_iff.1 hl;omega
  have hkb:=decide_eq_false hk;rw [T8.eq_1] at hm;refine go ?_;refine X3 (congrArg Value.bool hkb)<|go ?_;refine lV _ (Xh isAgg47 sizeOf47 ac)<|Z5 ab ?_;intro cg a5 bo bp;refine go ?_;cases hm;replace al:=al.kp a5;replace am:=am.kp a5;replace aa:=aa.kp a5 bo;exact ⟨rfl,_,ra bp.atN,_,_,_,_,_,rfl,aa.fin (cm [(4,c1),(2,c2)]),aa.fo al,aa.fo am⟩
 | cons a6 bq=>
  obtain ⟨a7,br,bs⟩:=Yk hl;have hk:(an:Int)<(af.length:Int):=by omega
  have hkb:=decide_eq_true hk;rw [T8.eq_2] at hm;refine go ?_;refine X4 (congrArg Value.bool hkb)<|go ?_;refine lI a7 ((h0.ks aa).addr a7) ?_;obtain ⟨_,bt,bu⟩:=(h0.ks aa).atN a7;obtain ⟨_,_,rfl,bv,bw⟩:=Uf bt;obtain ⟨_,_,rfl,bx,bz⟩:=Uf bv;obtain ⟨rfl,_⟩:=bx;obtain ⟨⟨b0,b1,rfl,a8⟩,_⟩:=bz;obtain ⟨⟨b2,b3,rfl,a9⟩,_⟩:=bw;refine lV (.agg #[.bool a6.1.1,.slice b0 a6.1.2.length b1,.slice b2 a6.2.length b3]) (Wj isAgg47 sizeOf47 rfl rfl bu)<|Xr (col:=ag) #[.bool false,.slice none (([]:List Int).length) 0,.slice none (([]:List Int).length) 0] 5 zeroValue47 ?_;intro ch ci au ah b4;refine Z5 b4 ?_;intro b5 ai b6 b7;refine go ?_;replace ac:=(ac.gr ah).kp ai;refine lV _ (Xh isAgg47 sizeOf47 ac)<|lV _ (Xh isAgg47 sizeOf47 b7) ?_;obtain ⟨cj,b8,hm⟩:=bZ hm;replace al:=(al.gr ah).kp ai;replace am:=(am.gr ah).kp ai;replace a8:=(a8.gr ah).kp ai;replace a9:=(a9.gr ah).kp ai;refine Zh (Zej 6 7 b8 ((al.toSlF (Zg.int .u32)).froz 2) ((am.froz 4 (by decide)).toSlF (Zg.int .u32)) ((a8.froz 4).froz 2) ((a9.froz 4).froz 2)) ?_;rintro _ ck ⟨b9,cl,cn,co,cp,rfl,aj,ad,ae⟩;refine ⟨_,rfl,?_⟩;replace ad:=ad.thaw (Z0 .u32) aj (((Fz.refl (col:=au)).froz 4).froz 2) (by decide);replace ae:=ae.thaw (Z0 .u32) aj (((Fz.refl (col:=au)).froz 4).froz 2) (by decide);replace aj:=aj.thawR (col:=au);generalize Xc b5.heap.size au b9=cq at *;replace ac:=ac.gr aj;refine Z5 ac ?_;intro cr av ca ap;refine go ?_;replace ad:=ad.kp av;replace ad:=ad.recolSelf 4 (by decide);replace ae:=ae.kp av;replace ae:=ae.recol 6 4 (by decide);replace ab:=(((ab.gr ah).kp ai).gr aj).kp av;replace ab:=ab.recol 6 4 (by decide);replace ap:=ap.recol 6 4 (by decide);replace aa:=(((aa.grow ah).kp ai b6).grow aj).kp av ca;replace aa:=aa.recol 6 4 (by decide) (by decide);replace ad:=ad.recol 7 2 (by decide);replace ae:=ae.recolSelf 2 (by decide);replace ab:=ab.recol 7 2 (by decide);replace ap:=ap.recol 7 2 (by decide);replace aa:=aa.recol 7 2 (by decide) (by decide);exact ⟨bq.length,by simp,rfl,⟨_,_,_,_,_,_,_,_,_,_,rfl,br,hm,aa,ab,ad,ae,ap,(Yo (congrArg (Value.int .i64) (Yn (Nat.lt_of_lt_of_le bs (h0.ks aa).1.1))) rfl)⟩⟩
def Zge (N:Nat) (aa:Int):Option R4:=
  if (decide (aa<0))=true then ((Q1 N (u64.wrap (-(u64.wrap aa)))).bind fun ad=>(Qd N true ad).bind fun ab=>some (ab.1,ab.2)) else ((Q1 N (u64.wrap aa)).bind fun ae=>(Qd N false ae).bind fun ac=>some (ac.1,ac.2))
theorem Zpz {N:Nat} {col:Zd} {w0:World} {ai:Int} {r:R4} (c1:Nat) (hm:Zge N ai=some r):
    Calls prog 262 #[.int .i64 ai] w0 (fun e w'=>∃ (col':Zd) (ra1:Option Addr) (rc2:Nat),e= .returned ((.agg #[.bool r.1,.slice ra1 r.2.length rc2]))∧Zi col w0 col' w'∧Zc (Za.int .u32) 79 c1 col' w' ra1 rc2 r.2):=by
 refine Wi (m:=14) func262 rfl rfl rfl ?_;rw [Zge.eq_1] at hm;have aa:=St.start col w0;refine go ?_;refine Xr (col:=(Zj col)) #[.bool false,.slice none (([]:List Int).length) 0] 1 zeroValue45 ?_;intro a5 a6 aj ao ab;refine go ?_;replace aa:=aa.grow ao;refine Zr hm (fun hb hm=>go ?_) fun hb hm=>go ?_
 ·obtain ⟨a7,ap,hm⟩:=bZ hm;refine Zh (Zen (col:=aj) 2 ap) ?_;rintro _ aq ⟨ag,a8,a9,rfl,ak,ar⟩;refine ⟨_,rfl,?_⟩;obtain ⟨ba,au,hm⟩:=bZ hm;refine Zh (Zct 3 au (ar.toSlF (Zg.int .u32))) ?_;rintro _ bb ⟨av,bc,bd,rfl,ac,ad⟩;refine ⟨_,rfl,?_⟩;replace ad:=ad.thaw (Z0 .u32) ac ((Fz.refl (col:=ag)).froz 2) (by decide);replace ac:=ac.thawR (col:=ag);generalize Xc aq.heap.size ag av=be at *;replace ab:=(ab.gr ak).gr ac;refine Z5 ab ?_;intro bf al aw ax;refine go ?_;cases hm;replace aa:=((aa.grow ak).grow ac).kp al aw;replace ad:=ad.kp al;exact ⟨rfl,_,ra ax.atN,_,_,_,rfl,aa.fin (cm [(3,c1)]),aa.fo ad⟩
 obtain ⟨bg,ay,hm⟩:=bZ hm;refine Zh (Zen (col:=aj) 4 ay) ?_;rintro _ az ⟨ah,bh,bi,rfl,am,a0⟩;refine ⟨_,rfl,?_⟩;obtain ⟨bj,a1,hm⟩:=bZ hm;refine Zh (Zct 5 a1 (a0.toSlF (Zg.int .u32))) ?_;rintro _ bk ⟨a2,bm,bn,rfl,ae,af⟩;refine ⟨_,rfl,?_⟩;replace af:=af.thaw (Z0 .u32) ae ((Fz.refl (col:=ah)).froz 4) (by decide);replace ae:=ae.thawR (col:=ah);generalize Xc az.heap.size ah a2=bo at *;replace ab:=(ab.gr am).gr ae;refine Z5 ab ?_;intro bp an a3 a4;refine go ?_;cases hm;replace aa:=((aa.grow am).grow ae).kp an a3;replace af:=af.kp an;exact ⟨rfl,_,ra a4.atN,_,_,_,rfl,aa.fin (cm [(5,c1)]),aa.fo af⟩
def Zg7 (N:Nat) (ac:R4) (aa:R4):Option (R1×Int):=
  (Za7 N (aa.1,aa.2)).bind fun ad=>if (decide (ad=0))=true then (some (((false,([]:List Int)),([]:List Int)),11)) else ((Zak N (!decide (ac.1=aa.1)) ac.2 aa.2).bind fun ab=>some (((ab.1.1,ab.1.2),ab.2),0))
theorem Zwy {N an ao:Nat} {ap aq:Option Addr} {col:Zd} {w0:World} {ae af:R4} {r:(R1×Int)} (c1 c2:Nat) (hm:Zg7 N ae af=some r) (ai:Sl (Za.int .u32) col w0 ap an ae.2) (ag:Sl (Za.int .u32) col w0 aq ao af.2):
    Calls prog 114 #[(.agg #[.bool ae.1,.slice ap ae.2.length an]),(.agg #[.bool af.1,.slice aq af.2.length ao])] w0 (fun e w'=>∃ (col':Zd) (ra1:Option Addr) (rc2:Nat) (ra4:Option Addr) (rc5:Nat),e= .returned (.tuple #[(.agg #[.bool r.1.1.1,.slice ra1 r.1.1.2.length rc2,.slice ra4 r.1.2.length rc5]),.int .i64 r.2])∧Zi col w0 col' w'∧Zc (Za.int .u32) 79 c1 col' w' ra1 rc2 r.1.1.2∧Zc (Za.int .u32) 79 c2 col' w' ra4 rc5 r.1.2):=by
 refine Wi (m:=20) func114 rfl rfl rfl ?_;rw [Zg7.eq_1] at hm;have aa:=St.start col w0;refine go ?_;refine Ye (col:=(Zj col)) 1 rfl ?_;intro a8 a9 aw ax ah;refine Ye (col:=aw) 2 rfl ?_;intro ba bb ay ar ab;refine Xr (col:=ay) #[.bool false,.slice none (([]:List Int).length) 0,.slice none (([]:List Int).length) 0] 3 zeroValue47 ?_;intro bc az au aj ac;refine go ?_;replace ab:=ab.gr aj;refine lV _ (Xh isAgg45 sizeOf45 ab) ?_;obtain ⟨bd,a0,hm⟩:=bZ hm;replace ag:=ag.keep (Zl.start col w0);replace aa:=((aa.grow ax).grow ar).grow aj;refine Zh (Zgz a0 (ag.ks aa)) ?_;rintro _ a1 ⟨rfl,ad⟩;refine ⟨_,rfl,?_⟩;replace ad:Zi au az au a1:=.of_below ad;refine go ?_;replace ai:=ai.keep (Zl.start col w0);replace ah:=((ah.gr ar).gr aj).gr ad;replace ab:=ab.gr ad;replace ac:=ac.gr ad;replace aa:=aa.grow ad;refine Zr hm (fun hb hm=>go ?_) fun hb hm=>go ?_
 ·refine lV (.agg #[.bool false,.slice none (([]:List Int).length) 0,.slice none (([]:List Int).length) 0]) (Wg (l:=[_,_]) (qs:=[(0,2),(2,1)]) underlying47 zeroValue47 ⟨rfl,sizeOf45,rfl,sizeOf43,trivial⟩ rfl)<|Z5 ac ?_;intro be a2 a3 a4;refine go ?_;cases hm;replace aa:=aa.kp a2 a3;exact ⟨rfl,_,Ue a4.atN,_,none,0,none,0,rfl,aa.fin (cm []),Zc.nil,Zc.nil⟩
 refine Xu ah<|Xu ab ?_;refine go ?_;refine Xu ah<|Xu ab ?_;obtain ⟨bf,a5,hm⟩:=bZ hm;refine Zh (Zgy 4 5 a5 (ai.ks aa) (ag.ks aa)) ?_;rintro _ bg ⟨bh,bi,bj,bk,bm,rfl,av,ak,al⟩;refine ⟨_,rfl,?_⟩;replace ac:=ac.gr av;refine Z5 ac ?_;intro bn am a6 a7;refine go ?_;cases hm;replace aa:=(aa.grow av).kp am a6;replace ak:=ak.kp am;replace al:=al.kp am;exact ⟨rfl,_,Ue a7.atN,_,_,_,_,_,rfl,aa.fin (cm [(4,c1),(5,c2)]),aa.fo ak,aa.fo al⟩
def Ze4 (N:Nat) (ad:Int) (ae:Int):Option (R1×Int):=
  (Zge N ad).bind fun ab=>(Zge N ae).bind fun ac=>(Zg7 N (ab.1,ab.2) (ac.1,ac.2)).bind fun aa=>some (((aa.1.1.1,aa.1.1.2),aa.1.2),aa.2)
theorem Zpj {N:Nat} {col:Zd} {w0:World} {ak al:Int} {r:(R1×Int)} (c1 c2:Nat) (hm:Ze4 N ak al=some r):
    Calls prog 190 #[.int .i64 ak,.int .i64 al] w0 (fun e w'=>∃ (col':Zd) (ra1:Option Addr) (rc2:Nat) (ra4:Option Addr) (rc5:Nat),e= .returned (.tuple #[(.agg #[.bool r.1.1.1,.slice ra1 r.1.1.2.length rc2,.slice ra4 r.1.2.length rc5]),.int .i64 r.2])∧Zi col w0 col' w'∧Zc (Za.int .u32) 79 c1 col' w' ra1 rc2 r.1.1.2∧Zc (Za.int .u32) 79 c2 col' w' ra4 rc5 r.1.2):=by
 refine Wi (m:=13) func190 rfl rfl rfl ?_;rw [Ze4.eq_1] at hm;have ab:=St.start col w0;refine go ?_;refine Xr (col:=(Zj col)) #[.bool false,.slice none (([]:List Int).length) 0,.slice none (([]:List Int).length) 0] 1 zeroValue47 ?_;intro a4 a5 an ao ag;refine go ?_;obtain ⟨a6,ap,hm⟩:=bZ hm;refine Zh (Zpz (col:=an) 2 ap) ?_;rintro _ a7 ⟨aq,a8,a9,rfl,am,ah⟩;refine ⟨_,rfl,?_⟩;refine Yd rfl ?_;obtain ⟨ba,ar,hm⟩:=bZ hm;refine Zh (Zpz (col:=aq) 3 ar) ?_;rintro _ au ⟨ae,bb,bc,rfl,ai,av⟩;refine ⟨_,rfl,?_⟩;obtain ⟨af,aw,hm⟩:=bZ hm;replace ah:=ah.gr ai;refine Zh (Zwy 4 5 aw ((ah.toSlF (Zg.int .u32)).froz 3) ((av.froz 2 (by decide)).toSlF (Zg.int .u32))) ?_;rintro _ bd ⟨ax,ay,az,a0,a1,rfl,aa,ac,ad⟩;refine ⟨_,rfl,?_⟩;replace ac:=ac.thaw (Z0 .u32) aa (((Fz.refl (col:=ae)).froz 2).froz 3) (by decide);replace ad:=ad.thaw (Z0 .u32) aa (((Fz.refl (col:=ae)).froz 2).froz 3) (by decide);replace aa:=aa.thawR (col:=ae);generalize Xc au.heap.size ae ax=be at *;refine lV (.agg #[.bool af.1.1.1,.slice ay af.1.1.2.length az,.slice a0 af.1.2.length a1]) (Xe rfl rfl)<|lV (.int .i64 af.2) (Xe rfl rfl) ?_;replace ag:=((ag.gr am).gr ai).gr aa;refine Z5 ag ?_;intro bf aj a2 a3;refine go ?_;cases hm;replace ab:=((((ab.grow ao).grow am).grow ai).grow aa).kp aj a2;replace ac:=ac.kp aj;replace ad:=ad.kp aj;exact ⟨rfl,_,Ue a3.atN,_,_,_,_,_,rfl,ab.fin (cm [(4,c1),(5,c2)]),ab.fo ac,ab.fo ad⟩
def S3 (N:Nat) (aa:R1):Option Int:=
  (Za7 N (aa.1.1,aa.1.2)).bind fun ab=>some ab
theorem Zjj {N ac ag:Nat} {ad ah:Option Addr} {col:Zd} {w0:World} {aa:R1} {r:Int} (hm:S3 N aa=some r) (ae:Sl (Za.int .u32) col w0 ad ac aa.1.2) (ao:Sl (Za.int .u32) col w0 ah ag aa.2):
    Calls prog 72 #[(.agg #[.bool aa.1.1,.slice ad aa.1.2.length ac,.slice ah aa.2.length ag])] w0 (fun e w'=>e= .returned ((.int .i64 r))∧Below w0.heap.size w0 w'):=by
 refine Xk 2 (m:=6) func72 rfl rfl rfl rfl rfl ?_;rw [S3.eq_1] at hm;have ab:=St.start col w0;refine go ?_;refine Ye (col:=(Zj col)) 1 rfl ?_;intro ap aj ai ak al;refine go ?_;refine Y5 ⟨_,_,rfl⟩ ?_;refine lV (.agg #[.bool aa.1.1,.slice ad aa.1.2.length ac]) (Wj isAgg45 sizeOf45 rfl rfl ((al.atN).part 0 2 _ rfl)) ?_;obtain ⟨aq,am,hm⟩:=bZ hm;replace ae:=ae.keep (Zl.start col w0);replace ab:=ab.grow ak;refine Zh (Zgz am (ae.ks ab)) ?_;rintro _ an ⟨rfl,af⟩;refine ⟨_,rfl,?_⟩;replace af:Zi ai aj ai an:=.of_below af;refine go ?_;cases hm;replace ab:=ab.grow af;exact ⟨rfl,rfl,ab.below⟩
def Ze3 (N:Nat) (ab:R1) (aa:R1):Option (R1×Int):=
  (S3 N ((aa.1.1,aa.1.2),aa.2)).bind fun ad=>if (decide (ad=0))=true then (some (((false,([]:List Int)),([]:List Int)),11)) else ((Uo N ((aa.1.1,aa.1.2),aa.2)).bind fun ae=>(S8 N ab.1.2 ae).bind fun af=>(Uo N ((ab.1.1,ab.1.2),ab.2)).bind fun ag=>(S8 N ag aa.1.2).bind fun ah=>(Zak N (!decide (ab.1.1=aa.1.1)) af ah).bind fun ac=>some (((ac.1.1,ac.1.2),ac.2),0))
theorem Zwx {N a6 a7 a8 a9:Nat} {ba bb bc bd:Option Addr} {col:Zd} {w0:World} {aj ak:R1} {r:(R1×Int)} (c1 c2:Nat) (hm:Ze3 N aj ak=some r) (av:Sl (Za.int .u32) col w0 ba a6 aj.1.2) (az:Sl (Za.int .u32) col w0 bb a7 aj.2) (ao:Sl (Za.int .u32) col w0 bc a8 ak.1.2) (aw:Sl (Za.int .u32) col w0 bd a9 ak.2):
    Calls prog 146 #[(.agg #[.bool aj.1.1,.slice ba aj.1.2.length a6,.slice bb aj.2.length a7]),(.agg #[.bool ak.1.1,.slice bc ak.1.2.length a8,.slice bd ak.2.length a9])] w0 (fun e w'=>∃ (col':Zd) (ra1:Option Addr) (rc2:Nat) (ra4:Option Addr) (rc5:Nat),e= .returned (.tuple #[(.agg #[.bool r.1.1.1,.slice ra1 r.1.1.2.length rc2,.slice ra4 r.1.2.length rc5]),.int .i64 r.2])∧Zi col w0 col' w'∧Zc (Za.int .u32) 79 c1 col' w' ra1 rc2 r.1.1.2∧Zc (Za.int .u32) 79 c2 col' w' ra4 rc5 r.1.2):=by
 refine Wi (m:=30) func146 rfl rfl rfl ?_;rw [Ze3.eq_1] at hm;have aa:=St.start col w0;refine go ?_;refine Ye (col:=(Zj col)) 1 rfl ?_;intro b3 b4 bg bh ap;refine Ye (col:=bg) 2 rfl ?_;intro b5 b6 bi be ae;refine Xr (col:=bi) #[.bool false,.slice none (([]:List Int).length) 0,.slice none (([]:List Int).length) 0] 3 zeroValue47 ?_;intro b7 bj ac a0 ab;refine go ?_;replace ae:=ae.gr a0;refine lV _ (Xh isAgg47 sizeOf47 ae) ?_;obtain ⟨b8,bk,hm⟩:=bZ hm;replace ao:=ao.keep (Zl.start col w0);replace aw:=aw.keep (Zl.start col w0);replace aa:=((aa.grow bh).grow be).grow a0;refine Zh (Zjj bk (ao.ks aa) (aw.ks aa)) ?_;rintro _ bm ⟨rfl,al⟩;refine ⟨_,rfl,?_⟩;replace al:Zi ac bj ac bm:=.of_below al;refine go ?_;replace av:=av.keep (Zl.start col w0);replace az:=az.keep (Zl.start col w0);replace ap:=((ap.gr be).gr a0).gr al;replace ae:=ae.gr al;replace ab:=ab.gr al;replace aa:=aa.grow al;refine Zr hm (fun hb hm=>go ?_) fun hb hm=>go ?_
 ·refine lV (.agg #[.bool false,.slice none (([]:List Int).length) 0,.slice none (([]:List Int).length) 0]) (Wg (l:=[_,_]) (qs:=[(0,2),(2,1)]) underlying47 zeroValue47 ⟨rfl,sizeOf45,rfl,sizeOf43,trivial⟩ rfl)<|Z5 ab ?_;intro b9 bn bo bp;refine go ?_;cases hm;replace aa:=aa.kp bn bo;exact ⟨rfl,_,Ue bp.atN,_,none,0,none,0,rfl,aa.fin (cm []),Zc.nil,Zc.nil⟩
 refine Wk (col:=ac) [(0,1),(1,1),(2,0),(3,1),(4,1),(5,0),(6,1),(7,1),(8,1),(9,0),(10,0),(13,0),(15,1),(16,1),(17,0),(11,3),(12,3),(14,3),(18,3),(19,3),(20,2),(21,1)] (by kernel_rfl) (by kernel_rfl)<|xF ⟨_,_,rfl⟩ ?_;refine xF (U5 ⟨_,_,rfl⟩) ?_;refine xW (fun _ hC=>((((ap.atN).part 0 2 _ rfl)).nth (q:=0) rfl).gr (hC.bl ac)) ?_;refine xF ⟨_,_,rfl⟩ ?_;refine xF (U5 ⟨_,_,rfl⟩) ?_;refine xW (fun _ hC=>((((ae.atN).part 0 2 _ rfl)).nth (q:=0) rfl).gr (hC.bl ac)) ?_;refine xu rfl rfl (fun _=>Zit _ _ underlying4 rfl rfl) ?_;refine xF ⟨_,_,rfl⟩ ?_;refine xF (U5 ⟨_,_,rfl⟩) ?_;refine xW (fun _ hC=>((((ap.atN).part 0 2 _ rfl)).nth (q:=1) rfl).gr (hC.bl ac)) ?_;refine xv rfl rfl (fun _ hC=>Xh isAgg47 sizeOf47 (ae.gr (hC.bl ac))) ?_;refine xv rfl rfl (fun _ hC=>Xh isAgg47 sizeOf47 (ap.gr (hC.bl ac))) ?_;refine xF ⟨_,_,rfl⟩ ?_;refine xF (U5 ⟨_,_,rfl⟩) ?_;refine xW (fun _ hC=>((((ae.atN).part 0 2 _ rfl)).nth (q:=1) rfl).gr (hC.bl ac)) ?_;refine xe rfl rfl ?_;intro ca hC0;have hC:=hC0.bl ac;obtain ⟨cb,bq,hm⟩:=bZ hm;replace aa:=aa.grow hC;refine Zh (Su 4 bq (ao.ks aa) (aw.ks aa)) ?_;rintro _ cc ⟨aq,cd,ce,rfl,a1,a2⟩;refine ⟨_,rfl,?_⟩;refine Zm<|X0 aq hC0 a1<|xe rfl rfl ?_;intro br hC0;replace ab:=(ab.gr hC).gr a1;have hC:=hC0.bl aq;obtain ⟨cf,bs,hm⟩:=bZ hm;replace aa:=(aa.grow a1).grow hC;replace a2:=a2.gr hC;refine Zh (Zem 5 bs ((av.ks aa).froz 4) (a2.toSlF (Zg.int .u32))) ?_;rintro _ cg ⟨bt,ch,ci,rfl,am,ad⟩;refine ⟨_,rfl,?_⟩;replace ad:=ad.thaw (Z0 .u32) am ((Fz.refl (col:=aq)).froz 4) (by decide);replace am:=am.thawR (col:=aq);generalize Xc br.heap.size aq bt=bf at *;refine Zm<|X0 bf hC0 am<|xe rfl rfl ?_;intro cj hC0;replace ab:=(ab.gr hC).gr am;have hC:=hC0.bl bf;obtain ⟨ck,bu,hm⟩:=bZ hm;replace aa:=(aa.grow am).grow hC;refine Zh (Su 6 bu (av.ks aa) (az.ks aa)) ?_;rintro _ cl ⟨ar,cn,co,rfl,ax,a3⟩;refine ⟨_,rfl,?_⟩;refine Zm<|X0 ar hC0 ax<|xe rfl rfl ?_;intro bv hC0;replace ad:=(ad.gr hC).gr ax;replace ab:=(ab.gr hC).gr ax;have hC:=hC0.bl ar;obtain ⟨cp,bw,hm⟩:=bZ hm;replace aa:=(aa.grow ax).grow hC;replace a3:=a3.gr hC;refine Zh (Zem 7 bw (a3.toSlF (Zg.int .u32)) ((ao.ks aa).froz 6)) ?_
 rintro _ cq ⟨bx,cr,cs,rfl,af,au⟩;refine ⟨_,rfl,?_⟩;replace au:=au.thaw (Z0 .u32) af ((Fz.refl (col:=ar)).froz 6) (by decide);replace af:=af.thawR (col:=ar);generalize Xc bv.heap.size ar bx=an at *;refine Zm<|X0 an hC0 af<|xe rfl rfl ?_;intro bz hC0;replace ad:=(ad.gr hC).gr af;replace ab:=(ab.gr hC).gr af;have hC:=hC0.bl an;obtain ⟨ct,b0,hm⟩:=bZ hm;replace ad:=ad.gr hC;replace au:=au.gr hC;refine Zh (Zgy 8 9 b0 ((ad.toSlF (Zg.int .u32)).froz 7) ((au.froz 5 (by decide)).toSlF (Zg.int .u32))) ?_;rintro _ cu ⟨b1,cv,cw,cx,cy,rfl,ag,ah,ai⟩;refine ⟨_,rfl,?_⟩;replace ah:=ah.thaw (Z0 .u32) ag (((Fz.refl (col:=an)).froz 5).froz 7) (by decide);replace ai:=ai.thaw (Z0 .u32) ag (((Fz.refl (col:=an)).froz 5).froz 7) (by decide);replace ag:=ag.thawR (col:=an);generalize Xc bz.heap.size an b1=ay at *;refine Zm<|X0 ay hC0 ag<|xe rfl rfl ?_;intro cz hC0;replace aa:=((aa.grow af).grow hC).grow ag;replace ab:=(ab.gr hC).gr ag;have hC:=hC0.bl ay;replace ab:=ab.gr hC;refine Z5 ab ?_;intro c0 a4 b2 a5;refine Zm<|xk ay<|xu rfl rfl (fun _=>Zt8 rfl) ?_;refine Y7 ?_;replace ah:=(ah.gr hC).kp a4;replace ai:=(ai.gr hC).kp a4;replace aa:=(aa.grow hC).kp a4 b2;intro c3 hC;replace hC:=hC.bl ay;refine W7 ?_;cases hm;replace ah:=ah.gr hC;replace ai:=ai.gr hC;replace a5:=a5.gr hC;replace aa:=aa.grow hC;exact ⟨rfl,_,Ue a5.atN,_,_,_,_,_,rfl,aa.fin (cm [(8,c1),(9,c2)]),aa.fo ah,aa.fo ai⟩
theorem Zec {N k:Nat} {neg:Bool} {m:List Int} (hm:Zn m) (hk:m.length≤k) (hr:Xm N k):Qd N neg m=some (X5 (Zt (neg,m))):=by
 obtain ⟨r1,r2⟩:=hr
 rw [Qd,Znv hm (by omega) (by omega),oB,Zin]
 have e:decide (0<((Ze (Zb m)).length:Int))=decide (Zb m≠0):=by
  by_cases h:Zb m=0
  ·rw [h,Wt];decide
  ·have:=T5 h
   rw [decide_eq_true (by omega),decide_eq_true h]
 cases neg
 ·rw [if_neg (by decide),Zgf,Bool.false_and]
 ·rw [if_pos rfl,Zgf,e,Bool.true_and]
theorem Z26 {N k:Nat} {a:ZV} (hm:Zn a.2) (hk:a.2.length≤k) (hr:Xm N k):Zij N a=some (X5 (Zt a)):=by
 rw [Zij,Zec hm hk hr];rfl
theorem Zl0 {N k:Nat} {a:ZV} (hm:Zn a.2) (hk:a.2.length≤k) (hr:Xm N k):Za7 N a=some (Zt a).sign:=by
 obtain ⟨r1,r2⟩:=hr
 rw [Za7,Zwq hm (by omega) (by omega),oB,Zt]
 by_cases h:Zb a.2=0
 ·rw [h,Zef,if_pos (by decide)];simp
 ·have h1:Xd (Zb a.2)≠0:=by rw [Xd,if_neg h];omega
  rw [if_neg (dF (by omega))]
  by_cases h2:a.1=true
  ·rw [if_pos h2,if_pos h2,Int.sign_eq_neg_one_of_neg (by omega)]
  ·rw [if_neg h2,if_neg h2,Int.sign_eq_one_of_pos (by omega)]
theorem Zo5 {a b:ZV}:(a.1=b.1→Zt (a.1,Ze (Zb a.2+Zb b.2))=Zt a+Zt b)∧(a.1≠b.1→(Zb b.2≤Zb a.2→Zt (a.1,Ze (Zb a.2 - Zb b.2))=Zt a+Zt b)∧(Zb a.2<Zb b.2→Zt (b.1,Ze (Zb b.2 - Zb a.2))=Zt a+Zt b)):=by
 obtain ⟨s,x⟩:=a
 obtain ⟨t,y⟩:=b
 simp only [Zt,Z4]
 cases s <;> cases t <;> simp <;> (try constructor) <;> intros <;> omega
theorem Z23 {N k l:Nat} {a b:ZV} (ha:Zn a.2) (hb:Zn b.2) (hk:a.2.length≤k) (hl:b.2.length≤l) (hr:Xm N (k+l+1)):Zig N a b=some (X5 (Zt a+Zt b)):=by
 have hr':=hr
 obtain ⟨r1,r2⟩:=hr'
 have la:=Ys ha
 have lb:=Ys hb
 have lsum:(Ze (Zb a.2+Zb b.2)).length≤k+l+1:=Zng (by omega) (by omega)
 have ls1:(Ze (Zb a.2 - Zb b.2)).length≤k+l+1:=by have:=W4 (Nat.sub_le (Zb a.2) (Zb b.2));omega
 have ls2:(Ze (Zb b.2 - Zb a.2)).length≤k+l+1:=by have:=W4 (Nat.sub_le (Zb b.2) (Zb a.2));omega
 rw [Zig]
 by_cases h:a.1=b.1
 ·rw [if_pos (dT h),Zwk ha hb (by omega) (by omega) (by omega) (by omega),oB,Zec (Z9 _) lsum hr,oB,Zo5.1 h]
 ·rw [if_neg (dF h),Zvp ha hb (by omega) (by omega) (by omega) (by omega),oB]
  by_cases hlt:Zb a.2<Zb b.2
  ·rw [if_pos hlt,if_neg (by decide),Zvp hb ha (by omega) (by omega) (by omega) (by omega),oB,if_neg (by omega),Zec (Z9 _) ls2 hr,oB,(Zo5.2 h).2 hlt]
  ·rw [if_neg hlt,if_pos rfl,Zec (Z9 _) ls1 hr,oB,(Zo5.2 h).1 (by omega)]
theorem Zwh (a b:ZV):Zt (!decide (a.1=b.1),Ze (Zb a.2 * Zb b.2))=Zt a * Zt b:=by
 obtain ⟨s,x⟩:=a
 obtain ⟨t,y⟩:=b
 simp only [Zt,Z4]
 cases s <;> cases t <;> simp [Int.natCast_mul,Int.neg_mul,Int.mul_neg]
theorem Z25 {N k l:Nat} {a b:ZV} (ha:Zn a.2) (hb:Zn b.2) (hk:a.2.length≤k) (hl:b.2.length≤l) (hr:Xm N (k+l)):Zii N a b=some (X5 (Zt a * Zt b)):=by
 have hr':=hr
 obtain ⟨r1,r2⟩:=hr'
 have la:=Ys ha
 have lb:=Ys hb
 have:=U1 (Zb a.2) (Zb b.2)
 rw [Zii,Zil ha hb (by omega) (by omega),oB,Zec (k:=k+l) (Z9 _) (by omega) hr,oB,Zwh]
theorem Z29 (a b:ZV):(if (Zt a).sign<(Zt b).sign then -1 else if (Zt b).sign<(Zt a).sign then 1 else (Zt a).sign * (if Zb a.2<Zb b.2 then -1 else if Zb b.2<Zb a.2 then 1 else 0))=Zcp (Zt a) (Zt b):=by
 obtain ⟨s,x⟩:=a
 obtain ⟨t,y⟩:=b
 have key:∀ z:Int,z.sign=if z<0 then -1 else if 0<z then 1 else 0:=fun z=>(Zo6 z).symm
 rw [key,key]
 unfold Zcp
 simp only [Zt]
 generalize Zb x=X
 generalize Zb y=Y
 cases s <;> cases t <;> simp only [if_true,Bool.false_eq_true,if_false] <;> (repeat' split) <;> omega
theorem Z24 {N k l:Nat} {a b:ZV} (ha:Zn a.2) (hb:Zn b.2) (hk:a.2.length≤k) (hl:b.2.length≤l) (hr:Xm N (k+l)):Zih N a b=some (Zcp (Zt a) (Zt b)):=by
 have hr':=hr
 obtain ⟨r1,r2⟩:=hr'
 have sa:-1≤(Zt a).sign∧(Zt a).sign≤1:=by rw [← Zo6];unfold Zcp;(repeat' split) <;> omega
 rw [Zih,Zl0 ha hk (hr.mono (by omega)),oB,Zl0 hb hl (hr.mono (by omega)),oB,← Z29 a b]
 by_cases h1:(Zt a).sign<(Zt b).sign
 ·rw [if_pos (dT h1),if_pos h1]
 ·rw [if_neg (dF h1),if_neg h1]
  by_cases h2:(Zt b).sign<(Zt a).sign
  ·rw [if_pos (dT h2),if_pos h2]
  ·rw [if_neg (dF h2),if_neg h2,Zmu ha hb (by omega) (by omega) (by omega) (by omega),oB]
   congr 1
   refine Z2 ?_
   have:(Zt a).sign= -1∨(Zt a).sign=0∨(Zt a).sign=1:=by omega
   rcases this with h | h | h <;> rw [h] <;> (repeat' split) <;> decide
theorem Zwc {N:Nat} {z:Int} (h:-9223372036854775808≤z∧z≤9223372036854775807) (hr:Xm N 2):Zge N z=some (X5 z):=by
 have hr':=hr
 obtain ⟨r1,r2⟩:=hr'
 have l2:∀ n:Nat,n<18446744073709551616→(Ze n).length≤2:=fun n hn=>Wq.2 (by simpa using hn)
 rw [Zge]
 by_cases hz:z<0
 ·have e:u64.wrap (-u64.wrap z)= -z:=by rw [IntKind.wrap_u64,IntKind.wrap_u64];omega
  rw [if_pos (dT hz),e,Zgh (by omega) (by omega),oB,Zec (Z9 _) (l2 _ (by omega)) hr,oB]
  have e2:Zt (true,Ze (-z).toNat)=z:=by simp only [Zt,Z4,if_true];omega
  rw [e2]
 ·rw [if_neg (dF hz),Xo (by omega),Zgh (by omega) (by omega),oB,Zec (Z9 _) (l2 _ (by omega)) hr,oB]
  have e2:Zt (false,Ze z.toNat)=z:=by simp only [Zt,Z4];simp;omega
  rw [e2]
theorem Zcn {N k:Nat} {a:QV} (ha:RV k a) (hr:Xm N k):Uo N a=some (Ze (Yq a.2)):=by
 obtain ⟨r1,r2⟩:=hr
 have:=ha.ld
 rw [Uo,Znv ha.d (by omega) (by omega),oB,Yq]
 by_cases h:Zb a.2=0
 ·rw [h,Wt,if_neg (by decide),if_pos rfl,Zgh (by decide) (by omega)];rfl
 ·have:=T5 h
  rw [if_pos (dT (by omega)),if_neg h]
theorem Zah {k:Nat} {a:QV} (ha:RV k a):(Ze (Yq a.2)).length≤k+1:=by
 have h1:=Ys ha.d
 have h2:=ha.ld
 rw [Yq]
 split
 ·rw [Th];simp
 ·omega
theorem Zlg {N k l n:Nat} {a:ZV} (ha:Zn a.2) (hk:a.2.length≤k) (hl:(Ze n).length≤l) (hr:Xm N (k+l)):Zbq N a (Ze n)=some (X5 (Zt a * n)):=by
 rw [Zbq,Z25 (a:=(a.1,a.2)) (b:=(false,Ze n)) ha (Z9 _) hk hl hr,oB]
 have e:Zt (false,Ze n)=n:=by simp [Zt,Z4]
 rw [e]
theorem Zj9 {N k l:Nat} {neg:Bool} {num den:List Int} (hn:Zn num) (hd:Zn den) (h0:Zb den≠0) (hk:num.length≤k) (hl:den.length≤l) (hr:Xm N (k+l)):
  Zak N neg num den=some (Zp (mkRat (Zt (neg,num)) (Zb den))):=by
 have hr':=hr
 obtain ⟨r1,r2⟩:=hr'
 have l1:=Ys hn
 have l2:=Ys hd
 have hg:Nat.gcd (Zb num) (Zb den)≠0:=fun h=>h0 (Nat.gcd_eq_zero_iff.1 h).2
 have lg:(Ze (Nat.gcd (Zb num) (Zb den))).length≤den.length:=Nat.le_trans (W4 (Nat.gcd_le_right _ (by omega))) l2
 have lq:=W4 (Nat.div_le_self (Zb num) (Nat.gcd (Zb num) (Zb den)))
 rw [Zak,Zzu hn hd (by omega) (by omega),oB,Zjs hn (Z9 _) (by omega) (by omega),oB,Zjs hd (Z9 _) (by omega) (by omega),oB,Z4,if_neg hg,if_neg hg,
  Z26 (k:=k) (a:=(neg,Ze (Zb num / Nat.gcd (Zb num) (Zb den)))) (Z9 _) (by simp only;omega) (hr.mono (by omega)),oB,Zs0 h0,Zin,Z4]
theorem Zjy {N k:Nat} {a:QV} (ha:RV k a) (hr:Xm N k):S3 N a=some (Q9 (Xn a)):=by
 rw [S3,Zl0 (a:=(a.1.1,a.1.2)) ha.m ha.lm hr,oB,Z1n]
theorem Znh (z:Int):(X5 z).2=Ze z.natAbs:=rfl
theorem Zj6 {k l n:Nat} {a:ZV} (ha:Zn a.2) (hk:a.2.length≤k) (hl:(Ze n).length≤l):(X5 (Zt a * n)).2.length≤k+l:=by
 rw [Znh,Int.natAbs_mul,Int.natAbs_natCast,Zgr]
 have h1:=U1 (Zb a.2) n
 have h2:=Ys ha
 omega
theorem Zm3 {N k l:Nat} {a b:QV} (ha:RV k a) (hb:RV l b) (hr:Xm N (2 * (k+l+2))):S1 N a b=some (Sm (Xn a) (Xn b)):=by
 have da:=Zah ha
 have db:=Zah hb
 have o1:=Zj6 (n:=Yq b.2) ha.m ha.lm db
 have o2:=Zj6 (n:=Yq a.2) hb.m hb.lm da
 rw [S1,Zcn hb (hr.mono (by omega)),oB,Zlg (k:=k) (l:=l+1) ha.m ha.lm db (hr.mono (by omega)),oB,Zcn ha (hr.mono (by omega)),oB,Zlg (k:=l) (l:=k+1) hb.m hb.lm da (hr.mono (by omega)),oB,
  Z24 (a:=X5 _) (b:=X5 _) (Qp _) (Qp _) o1 o2 (hr.mono (by omega)),oB,Qh,Qh,Xn,Xn,Ztx (Tf _) (Tf _)]
theorem Zqk {N k l:Nat} {a b:QV} (ha:RV k a) (hb:RV l b) (hr:Xm N (k+l+2)):S8 N (Ze (Yq a.2)) (Ze (Yq b.2))=some (Ze (Yq a.2 * Yq b.2))∧(Ze (Yq a.2 * Yq b.2)).length≤k+l+2∧Yq a.2 * Yq b.2≠0:=by
 have da:=Zah ha
 have db:=Zah hb
 have hr':=hr
 obtain ⟨r1,r2⟩:=hr'
 have:=U1 (Yq a.2) (Yq b.2)
 refine ⟨by rw [Zil (Z9 _) (Z9 _) (by omega) (by omega),Z4,Z4],by omega,Nat.mul_ne_zero (Tf _) (Tf _)⟩
theorem Z2x {x y:Int} {k:Nat} (hx:(X5 x).2.length≤k) (hy:(X5 y).2.length≤k):(X5 (x+y)).2.length≤k+1:=by
 rw [Znh] at *
 exact Nat.le_trans (W4 (Int.natAbs_add_le _ _)) (Zng hx hy)
theorem Z08 (z:Int):((X5 z).1,(X5 z).2)=X5 z:=rfl
theorem Zbi {N k l:Nat} {a b:QV} (ha:RV k a) (hb:RV l b) (hr:Xm N (2 * (k+l+3))):Vs N a b=some (Zp (Xn a+Xn b)):=by
 have da:=Zah ha
 have db:=Zah hb
 have o1:=Zj6 (n:=Yq b.2) ha.m ha.lm db
 have o2:=Zj6 (n:=Yq a.2) hb.m hb.lm da
 obtain ⟨m1,m2,m3⟩:=Zqk ha hb (hr.mono (by omega))
 have sl:=Z2x (k:=k+l+1) (by omega) (Nat.le_trans o2 (by omega))
 rw [Vs,Zcn hb (hr.mono (by omega)),oB,Zlg (k:=k) (l:=l+1) ha.m ha.lm db (hr.mono (by omega)),oB,Zcn ha (hr.mono (by omega)),oB,Zlg (k:=l) (l:=k+1) hb.m hb.lm da (hr.mono (by omega)),oB,
  Z23 (a:=X5 _) (b:=X5 _) (Qp _) (Qp _) o1 o2 (hr.mono (by omega)),oB,Qh,Qh,oB,oB,m1,oB,
  Zj9 (Qp _) (Z9 _) (by rw [Z4];exact m3) sl m2 (hr.mono (by omega)),oB,Z08,Qh,Z4,Xn,Xn,Rat.mkRat_add_mkRat _ _ (Tf _) (Tf _)]
theorem Zq5 {N k l:Nat} {a b:QV} (ha:RV k a) (hb:RV l b) (hr:Xm N (2 * (k+l+3))):Zbp N a b=some (Zp (Xn a * Xn b)):=by
 have hr':=hr
 obtain ⟨r1,r2⟩:=hr'
 have h1:=ha.lm
 have h2:=hb.lm
 have la:=Ys ha.m
 have lb:=Ys hb.m
 have lm:=U1 (Zb a.1.2) (Zb b.1.2)
 obtain ⟨m1,m2,m3⟩:=Zqk ha hb (hr.mono (by omega))
 rw [Zbp,Zil ha.m hb.m (by omega) (by omega),oB,Zcn ha (hr.mono (by omega)),oB,Zcn hb (hr.mono (by omega)),oB,m1,oB,
  Zj9 (k:=k+l) (Z9 _) (Z9 _) (by rw [Z4];exact m3) (by omega) m2 (hr.mono (by omega)),oB,Zwh,Z4,Xn,Xn,Rat.mkRat_mul_mkRat]
theorem Znq (n₁:Int) (d₁:Nat) (b:ZV) (d₂:Nat) (s:Bool) (x:List Int) (h:n₁=Zt (s,x)) (hb:Zb b.2≠0):mkRat n₁ d₁ / mkRat (Zt b) d₂=mkRat (Zt (!decide (s=b.1),Ze (Zb x * d₂))) (d₁ * Zb b.2):=by
 have e1:mkRat (Zt b) d₂=(Zt b:Rat) / (d₂:Rat):=Rat.mkRat_eq_div _ _
 have hz:(Zt b:Rat)=(if b.1=true then -1 else 1) * (Zb b.2:Rat):=by
  rw [Zt];split
  ·rw [Rat.intCast_neg,Rat.neg_mul,Rat.one_mul];rfl
  ·rw [Rat.one_mul];rfl
 have hn:(Zt (!decide (s=b.1),Ze (Zb x * d₂)):Rat)=(if b.1=true then -1 else 1) * (n₁:Rat) * (d₂:Rat):=by
  subst h
  have:Zt (!decide (s=b.1),Ze (Zb x * d₂))=(if b.1=true then -1 else 1) * Zt (s,x) * (d₂:Int):=by
   obtain ⟨t,y⟩:=b
   simp only [Zt,Z4]
   cases s <;> cases t <;> simp [Int.natCast_mul,Int.neg_mul]
  rw [this,Rat.intCast_mul,Rat.intCast_mul]
  congr 2
  split <;> rfl
 have hbr:(Zb b.2:Rat)≠0:=fun h=>hb (Rat.natCast_eq_zero_iff.1 h)
 rw [Rat.mkRat_eq_div,e1,Rat.mkRat_eq_div,hn,hz,Rat.natCast_mul]
 have hs:(if b.1=true then (-1:Rat) else 1) * (if b.1=true then (-1:Rat) else 1)=1:=by split <;> grind
 generalize (if b.1=true then (-1:Rat) else 1)=sg at *
 generalize (n₁:Rat)=p
 generalize (d₁:Rat)=q
 generalize (d₂:Rat)=r
 generalize (Zb b.2:Rat)=m at *
 have hsg:sg≠0:=fun h=>by rw [h] at hs;grind
 have hinv:sg⁻¹=sg:=Rat.inv_eq_of_mul_eq_one hs
 simp only [Rat.div_def,Rat.inv_mul_rev,Rat.inv_inv,hinv]
 grind
theorem Zzk {N k l:Nat} {a b:QV} (ha:RV k a) (hb:RV l b) (hr:Xm N (2 * (k+l+3))):Ze3 N a b=some (if Xn b=0 then (((false,[]),[]),11) else (Zp (Xn a / Xn b),0)):=by
 have hr':=hr
 obtain ⟨r1,r2⟩:=hr'
 have h1:=ha.lm
 have h2:=hb.lm
 have la:=Ys ha.m
 have lb:=Ys hb.m
 have da:=Zah ha
 have db:=Zah hb
 rw [Ze3,Zjy hb (hr.mono (by omega)),oB]
 by_cases h0:Xn b=0
 ·rw [if_pos h0,h0,if_pos (by decide)]
 ·have hb0:Zb b.1.2≠0:=fun h=>h0 ((Zt6 b).2 h)
  have lm1:=U1 (Zb a.1.2) (Yq b.2)
  have lm2:=U1 (Yq a.2) (Zb b.1.2)
  have e:=Znq (Zt a.1) (Yq a.2) b.1 (Yq b.2) a.1.1 a.1.2 rfl hb0
  rw [if_neg (dF (fun h=>h0 (Zll.1 h))),if_neg h0,Zcn hb (hr.mono (by omega)),oB,Zil ha.m (Z9 _) (by omega) (by omega),oB,Zcn ha (hr.mono (by omega)),oB,Zil (Z9 _) hb.m (by omega) (by omega),oB,Z4,Z4,
   Zj9 (k:=k+l+1) (l:=k+l+1) (Z9 _) (Z9 _) (by rw [Z4];exact Nat.mul_ne_zero (Tf _) hb0) (by omega) (by omega) (hr.mono (by omega)),oB,Z4,← e]
  rfl
theorem Zzq {N k l:Nat} {a b:ZV} (ha:Zn a.2) (hb:Zn b.2) (hk:a.2.length≤k) (hl:b.2.length≤l) (hr:Xm N (k+l)):Zg7 N a b=some (if Zt b=0 then (((false,[]),[]),11) else (Zp ((Zt a:Rat) / (Zt b:Rat)),0)):=by
 rw [Zg7,Zl0 (a:=(b.1,b.2)) hb hl (hr.mono (by omega)),oB]
 by_cases h0:Zt b=0
 ·rw [if_pos h0,h0,if_pos (by decide)]
 ·have hb0:Zb b.2≠0:=fun h=>h0 (by have:=Zgr b;omega)
  have e:=Znq (Zt a) 1 b 1 a.1 a.2 rfl hb0
  have hs:¬ (Zt b).sign=0:=fun h=>h0 (Int.sign_eq_zero_iff_zero.1 h)
  rw [if_neg (dF hs),if_neg h0,Zj9 ha hb hb0 hk hl hr,oB]
  rw [Rat.mkRat_eq_div,Rat.mkRat_eq_div] at e
  have e1:(Zt a:Rat) / ((1:Nat):Rat) / ((Zt b:Rat) / ((1:Nat):Rat))=(Zt a:Rat) / (Zt b:Rat):=by
   have h1:((1:Nat):Rat)=1:=rfl
   have h2:(1:Rat)⁻¹=1:=Rat.inv_eq_of_mul_eq_one (by grind)
   simp only [h1,Rat.div_def,h2,Rat.mul_one]
  rw [e1,Nat.one_mul,Nat.mul_one] at e
  rw [e]
  have e2:Zt (!decide (a.1=b.1),Ze (Zb a.2))=Zt (!decide (a.1=b.1),a.2):=by simp only [Zt,Z4]
  rw [e2]
theorem Zq6 {N:Nat} {a b:Int} (h:-9223372036854775808≤a∧a≤9223372036854775807) (g:-9223372036854775808≤b∧b≤9223372036854775807) (hr:Xm N 4):Ze4 N a b=some (if b=0 then (((false,[]),[]),11) else (Zp ((a:Rat) / (b:Rat)),0)):=by
 have l2:∀ z:Int,-9223372036854775808≤z∧z≤9223372036854775807→(X5 z).2.length≤2:=fun z hz=>Wq.2 (by simp;omega)
 rw [Ze4,Zwc h (hr.mono (by omega)),oB,Zwc g (hr.mono (by omega)),oB,Zzq (a:=X5 a) (b:=X5 b) (Qp _) (Qp _) (l2 _ h) (l2 _ g) hr,oB,Qh,Qh]
def Vi (l:List QV):Rat:=(l.map Xn).sum
def Xz:List QV→Nat
 | []=>0
 | a :: l=>max a.1.2.length a.2.length+2+Xz l
theorem Zgl {a:QV} (hm:Zn a.1.2) (hd:Zn a.2):RV (max a.1.2.length a.2.length) a:=⟨hm,hd,Nat.le_max_left _ _,Nat.le_max_right _ _⟩
def Vc (a:QV):Prop:=Zn a.1.2∧Zn a.2
theorem Zt3 {a:QV} (h:Vc a):qs (Xn a)≤max a.1.2.length a.2.length+1:=by
 have:=Zt4 (Zgl h.1 h.2)
 omega
theorem Zq9 {N:Nat}:∀ (l:List QV) (q:Rat),(∀ a ∈ l,Vc a)→Xm N (4 * (qs q+Xz l+3))→T8 N l (Zp q).1.1 (Zp q).1.2 (Zp q).2=some (Zp (q+Vi l))∧qs (q+Vi l)≤qs q+Xz l
 | [],q,_,_=>by
  rw [T8.eq_1,Vi]
  simp only [List.map_nil,List.sum_nil,Rat.add_zero,Xz]
  exact ⟨trivial,by omega⟩
 | a :: l,q,hl,hr=>by
  have ha:=hl a List.mem_cons_self
  have hs:=Zt3 ha
  rw [Xz] at hr ⊢
  rw [T8.eq_2,Zbi (k:=qs q) (l:=max a.1.2.length a.2.length) (Zvd q) (Zgl ha.1 ha.2) (hr.mono (by omega)),oB]
  have e:Xn ((((Zp q).1.1,(Zp q).1.2),(Zp q).2):QV)=q:=Wx q
  have e2:Xn (((a.1.1,a.1.2),a.2):QV)=Xn a:=rfl
  have h1:=Z1m q (Xn a)
  obtain ⟨h2,h3⟩:=Zq9 l (q+Xn a) (fun x hx=>hl x (List.mem_cons_of_mem _ hx)) (hr.mono (by omega))
  rw [e,e2,h2]
  have e3:q+Xn a+Vi l=q+Vi (a :: l):=by rw [Vi,Vi,List.map_cons,List.sum_cons,Rat.add_assoc]
  rw [e3] at h3 ⊢
  exact ⟨rfl,by omega⟩
theorem Zra {N:Nat} {l:List QV} (hl:∀ a ∈ l,Vc a) (hr:Xm N (4 * (Xz l+4))):Ti N l=some (Zp (Vi l))∧qs (Vi l)≤Xz l+1:=by
 have hr':=hr
 obtain ⟨r1,r2⟩:=hr'
 obtain ⟨h1,h2⟩:=Zq9 (N:=N) l 0 hl (hr.mono (by rw [Zlk];omega))
 rw [Rat.zero_add] at h1 h2
 rw [Zlk] at h2
 have e:Zp 0=((false,[]),[1]):=by
  rw [Zp,X5]
  simp only [Rat.zero_num,Rat.zero_den,Int.natAbs_zero,Wt,Th]
  rfl
 rw [e] at h1
 refine ⟨?_,by omega⟩
 rw [Ti,Zgh (by decide) (by omega),oB,← h1]
 rw [show (1:Int).toNat=1 from rfl,Th]
def Bd (D M:Nat) (q:Rat):Prop:=∃ z:Int,q=mkRat z D∧z.natAbs≤M * D
theorem Bd.qs {D M:Nat} {q:Rat} (h:Bd D M q) (hD:D≠0) (hM:1≤M):qs q≤(Ze (M * D)).length:=by
 obtain ⟨z,rfl,hz⟩:=h
 have h1:D≤M * D:=Nat.le_mul_of_pos_left D hM
 exact Zlj (W4 hz) (W4 h1) (T5 (by omega))
theorem Bd.up {D M K:Nat} {q:Rat} (h:Bd D M q) (hK:M≤K):Bd D K q:=by
 obtain ⟨z,e,hz⟩:=h
 exact ⟨z,e,Nat.le_trans hz (Nat.mul_le_mul_right D hK)⟩
theorem Bd.lift {D M:Nat} (E:Nat) {q:Rat} (h:Bd D M q) (hD:D≠0) (hE:E≠0):Bd (D * E) M q:=by
 obtain ⟨z,rfl,hz⟩:=h
 refine ⟨z * E,?_,?_⟩
 ·rw [Zsm hD (Nat.mul_ne_zero hD hE),Int.natCast_mul,Int.mul_assoc,Int.mul_comm (E:Int)]
 ·rw [Int.natAbs_mul,Int.natAbs_natCast,← Nat.mul_assoc]
  exact Nat.mul_le_mul_right E hz
theorem Z0u (a b:Int) {D:Nat} (hD:D≠0):mkRat a D+mkRat b D=mkRat (a+b) D:=by
 rw [Rat.mkRat_add_mkRat _ _ hD hD,← Int.add_mul,Zsm (Nat.mul_ne_zero hD hD) hD,Int.natCast_mul,Int.mul_assoc]
theorem Bd.add {D M K:Nat} {a b:Rat} (ha:Bd D M a) (hb:Bd D K b) (hD:D≠0):Bd D (M+K) (a+b):=by
 obtain ⟨x,rfl,hx⟩:=ha
 obtain ⟨y,rfl,hy⟩:=hb
 refine ⟨x+y,Z0u x y hD,Nat.le_trans (Int.natAbs_add_le _ _) ?_⟩
 rw [Nat.add_mul];omega
theorem Bd.mul {D E M K:Nat} {a b:Rat} (ha:Bd D M a) (hb:Bd E K b):Bd (D * E) (M * K) (a * b):=by
 obtain ⟨x,rfl,hx⟩:=ha
 obtain ⟨y,rfl,hy⟩:=hb
 refine ⟨x * y,Rat.mkRat_mul_mkRat _ _ _ _,?_⟩
 rw [Int.natAbs_mul,Nat.mul_mul_mul_comm M K D E]
 exact Nat.mul_le_mul hx hy
theorem Bd.zero (D M:Nat):Bd D M 0:=⟨0,by rw [Rat.zero_mkRat],by simp⟩
theorem Bd.one:Bd 1 1 1:=⟨1,rfl,by simp⟩
def Td:List QV→Nat
 | []=>1
 | x :: t=>Yq x.2 * Td t
theorem Zjt:∀ t:List QV,Td t≠0
 | []=>by simp [Td]
 | x :: t=>Nat.mul_ne_zero (Tf x.2) (Zjt t)
theorem Zqu:∀ (t:List QV),(∀ x ∈ t,Vc x)→(Ze (Td t)).length≤Xz t+1
 | [],_=>by rw [Td,Th];simp
 | x :: t,h=>by
  have hx:=h x List.mem_cons_self
  have h1:=Zah (Zgl hx.1 hx.2)
  have h2:=Zqu t fun y hy=>h y (List.mem_cons_of_mem _ hy)
  have h3:=U1 (Yq x.2) (Td t)
  rw [Td,Xz];omega
theorem Zwo {x:QV} (h:0≤Xn x) (g:Xn x≤1):Bd (Yq x.2) 1 (Xn x):=by
 refine ⟨Zt x.1,rfl,?_⟩
 have hd:=Tf x.2
 have h1:¬ Zt x.1<0:=fun hn=>by
  have:Xn x<0:=by
   rw [Xn,show (0:Rat)=mkRat 0 1 from rfl,Zla hd (by decide)];omega
  exact absurd h (Rat.not_le.2 this)
 have h2:¬ (Yq x.2:Int)<Zt x.1:=fun hn=>by
  have:1<Xn x:=by
   rw [Xn,show (1:Rat)=mkRat 1 1 from rfl,Zla (by decide) hd];omega
  exact absurd g (Rat.not_le.2 this)
 omega
def Zbn (kk_L2:(Option Int)):List Int→R9→Option Int
  | [],aa=>kk_L2
  | ab :: ac,aa=>if (decide (0<((Wf aa ab).getD 0)))=true then (some 40) else ((some (Sf aa ab 1)).bind fun ad=>(Zbn kk_L2 ac) ad)
termination_by structural x=>x
def Qs:List R2→Option Int
  | []=>some 0
  | aa :: ab=>Zbn (Qs ab) aa ([]:List R3)
termination_by structural x=>x
def Zew (kk_L4:(Option Int)) (aa:Bool):Option Int:=
  if aa=true then (some 3) else kk_L4
def Qt (aa:Rb) (kk_L1:(Option Int)):List Int→Option Int
  | []=>kk_L1
  | ab :: ac=>if (decide (ab<0))=true then (Zew (Qt aa kk_L1 ac) true) else (Zew (Qt aa kk_L1 ac) (decide ((aa.length:Int)≤ab)))
termination_by structural x=>x
def Qr (aa:Rb):List R2→Option Int
  | []=>Qs aa
  | ab :: ac=>Qt aa (Qr aa ac) ab
termination_by structural x=>x
def Zev (aa:Rb):Option Int:=
  Qr aa aa
theorem Zwu {a6:Nat} {a0:Option Addr} {col:Zd} {w0:World} {ab:Rb} {r:Int} (hm:Zev ab=some r) (h0:Sl (Za.slice (Za.int .i64)) col w0 a0 a6 ab):
    Calls prog 201 #[.slice a0 ab.length a6] w0 (fun e w'=>e= .returned ((.int .i64 r))∧Below w0.heap.size w0 w'):=by
 refine Xk 2 (m:=57) func201 rfl rfl rfl rfl rfl ?_;rw [Zev.eq_1] at hm;have aa:=St.start col w0;refine go ?_;refine Z8 [0,12,13,1000000] (fun n f a7=>∃ a8 ag ah,n=ah.length∧ab.drop ag=ah∧Qr ab ah=some r∧St w0 (Zj col) a8 a7∧[14].map f=[.int .i64 ag]) ab.length ⟨_,0,_,rfl,rfl,hm,aa,rfl⟩ ?_;clear hm;intro n f a7 hI;obtain ⟨a8,ag,ah,hn,hl,hm,aa,hs⟩:=hI;subst hn;refine .lL [14] hs ?_;replace h0:=h0.keep (Zl.start col w0)
 cases ah with
 | nil=>
  have hk:¬ ((ag:Int)<(ab.length:Int)):=by have:=List.drop_eq_nil_iff.1 hl;omega
  have hkb:=decide_eq_false hk;rw [Qr.eq_1] at hm;refine go ?_;refine X3 (congrArg Value.bool hkb)<|go ?_;refine Z8 [34,35,1000000] (fun n f a9=>∃ au ai aj,n=aj.length∧ab.drop ai=aj∧Qs aj=some r∧St w0 (Zj col) au a9∧[36].map f=[.int .i64 ai]) ab.length ⟨_,0,_,rfl,rfl,hm,aa,rfl⟩ ?_;clear hm;intro n f a9 hI;obtain ⟨au,ai,aj,hn,hl,hm,aa,hs⟩:=hI;subst hn;refine .lL [36] hs ?_
  cases aj with
  | nil=>
   have hk:¬ ((ai:Int)<(ab.length:Int)):=by have:=List.drop_eq_nil_iff.1 hl;omega
   have hkb:=decide_eq_false hk;rw [Qs.eq_1] at hm;refine go ?_;refine X3 (congrArg Value.bool hkb)<|go ?_;cases hm;exact ⟨rfl,rfl,aa.below⟩
  | cons ak ba=>
   obtain ⟨ac,bi,bj⟩:=Yk hl;have hk:(ai:Int)<(ab.length:Int):=by omega
   have hkb:=decide_eq_true hk;rw [Qs.eq_2] at hm;refine go ?_;refine X4 (congrArg Value.bool hkb)<|go ?_;refine lI ac ((h0.ks aa).addr ac) ?_;obtain ⟨_,bk,bm⟩:=(h0.ks aa).atN ac;obtain ⟨⟨bn,bo,rfl,ad⟩,_⟩:=bk;refine lW bm.one<|go ?_;refine Z0d (col:=au) (fk:=(Value.int .i64)) (fv:=(Value.int .i64)) 1 rfl underlying243 rfl ?_;intro b3 b4 b5 bb bp;refine go ?_;replace ad:=ad.gr bb;replace aa:=aa.grow bb;refine Z8 [34,35,36,43,44,1000000] (fun n f aq=>∃ ar al av am an,n=an.length∧ak.drop al=an∧Zbn (Qs ba) an am=some r∧St w0 (Zj col) ar aq∧Sl (Za.int .i64) ar aq bn bo ak∧W8 (Value.int .i64) (Value.int .i64) 1 ar aq av am∧[45,9].map f=[.int .i64 al,.map (some av)]) ak.length ⟨_,0,_,_,_,rfl,rfl,hm,aa,ad,bp,rfl⟩ ?_;clear hm;intro n f aq hI;obtain ⟨ar,al,av,am,an,hn,hl,hm,aa,ad,bc,hs⟩:=hI;subst hn;refine .lL [45,9] hs ?_
   cases an with
   | nil=>
    have hk:¬ ((al:Int)<(ak.length:Int)):=by have:=List.drop_eq_nil_iff.1 hl;omega
    have hkb:=decide_eq_false hk;rw [Zbn.eq_1] at hm;refine go ?_;refine X3 (congrArg Value.bool hkb)<|go ?_;exact ⟨ba.length,by simp,rfl,⟨_,_,_,rfl,bi,hm,aa,(Yo (congrArg (Value.int .i64) (Yn (Nat.lt_of_lt_of_le bj (h0.ks aa).1.1))) rfl)⟩⟩
   | cons aw bq=>
    obtain ⟨ac,br,bs⟩:=Yk hl;have hk:(al:Int)<(ak.length:Int):=by omega
    have hkb:=decide_eq_true hk;rw [Zbn.eq_2] at hm;refine go ?_;refine X4 (congrArg Value.bool hkb)<|go ?_;refine lI ac (ad.addr ac)<|lW (ad.atInt ac) ?_;refine go ?_;refine lV (.int .i64 ((Wf am aw).getD 0)) (Zug Tt.int bc underlying243 underlying3 zeroValue3 rfl rfl)<|go ?_;refine Zr hm (fun hb hm=>go ?_) fun hb hm=>go ?_
    ·cases hm;exact ⟨rfl,rfl,aa.below⟩
    obtain ⟨bt,ax,hm⟩:=bZ hm;have ax:bt=Sf am aw 1:=(Option.some.inj ax).symm;refine Zrs (k:=aw) (v:=1) Tt.int bc underlying243 underlying3 rfl rfl rfl ?_;intro b6 bd bu be;rw [← ax] at be;refine go ?_;replace ad:=ad.kp bd;replace aa:=aa.kp bd bu;exact ⟨bq.length,by simp,rfl,⟨_,_,_,_,_,rfl,br,hm,aa,ad,be,(Yo (congrArg (Value.int .i64) (Yn (Nat.lt_of_lt_of_le bs ad.1.1))) rfl)⟩⟩
 | cons af ay=>
  obtain ⟨ac,bv,bw⟩:=Yk hl;have hk:(ag:Int)<(ab.length:Int):=by omega
  have hkb:=decide_eq_true hk;rw [Qr.eq_2] at hm;refine go ?_;refine X4 (congrArg Value.bool hkb)<|go ?_;refine lI ac ((h0.ks aa).addr ac) ?_;obtain ⟨_,bx,bz⟩:=(h0.ks aa).atN ac;obtain ⟨⟨bf,bg,rfl,ae⟩,_⟩:=bx;refine lW bz.one<|go ?_;refine Z8 [0,12,13,14,18,19,1000000] (fun n f az=>∃ a1 ao ap,n=ap.length∧af.drop ao=ap∧Qt ab (Qr ab ay) ap=some r∧St w0 (Zj col) a1 az∧Sl (Za.int .i64) a1 az bf bg af∧[20].map f=[.int .i64 ao]) af.length ⟨_,0,_,rfl,rfl,hm,aa,ae,rfl⟩ ?_;clear hm;intro n f az hI;obtain ⟨a1,ao,ap,hn,hl,hm,aa,ae,hs⟩:=hI;subst hn;refine .lL [20] hs ?_
  cases ap with
  | nil=>
   have hk:¬ ((ao:Int)<(af.length:Int)):=by have:=List.drop_eq_nil_iff.1 hl;omega
   have hkb:=decide_eq_false hk;rw [Qt.eq_1] at hm;refine go ?_;refine X3 (congrArg Value.bool hkb)<|go ?_;exact ⟨ay.length,by simp,rfl,⟨_,_,_,rfl,bv,hm,aa,(Yo (congrArg (Value.int .i64) (Yn (Nat.lt_of_lt_of_le bw (h0.ks aa).1.1))) rfl)⟩⟩
  | cons b0 bh=>
   obtain ⟨ac,b1,b2⟩:=Yk hl;have hk:(ao:Int)<(af.length:Int):=by omega
   have hkb:=decide_eq_true hk;rw [Qt.eq_2] at hm;refine go ?_;refine X4 (congrArg Value.bool hkb)<|go ?_;refine lI ac (ae.addr ac)<|lW (ae.atInt ac)<|Yr rfl<|Zm<|Zw ?_;refine Wp.cutK [0,12,13,14,18,19,20,1000000] (fun f a2=>∃ a3 a4,Zew (Qt ab (Qr ab ay) bh) a4=some r∧St w0 (Zj col) a3 a2∧Sl (Za.int .i64) a3 a2 bf bg af∧[31].map f=[.bool a4]) ?_ ?_
   ·intro f a2 hJ;obtain ⟨a3,a4,hm,aa,ae,hs⟩:=hJ;rw [Zew.eq_1] at hm;refine .lL [31] hs ?_;refine Zr hm (fun hb hm=>go ?_) fun hb hm=>go ?_
    ·cases hm;exact ⟨rfl,rfl,aa.below⟩
    exact ⟨bh.length,by simp,rfl,⟨_,_,_,rfl,b1,hm,aa,ae,(Yo (congrArg (Value.int .i64) (Yn (Nat.lt_of_lt_of_le b2 ae.1.1))) rfl)⟩⟩
   refine go ?_;refine X1 hm (fun a5 hm=>go ?_) fun a5 hm=>go ?_
   ·refine lV (.bool true) (Xs (congrArg Value.bool a5) rfl)<|Zm ?_;exact ⟨rfl,_,_,hm,aa,ae,rfl⟩
   refine lV (.bool (decide ((ab.length:Int)≤b0))) (Xl (congrArg Value.bool a5) rfl)<|Zm ?_;exact ⟨rfl,_,_,hm,aa,ae,rfl⟩
theorem Zy7:Y4 prog 3 1 8:=⟨Tryz.t3,_,rfl,rfl,rfl,rfl,rfl⟩
def Zbm (aa:Nat) (kk_L1:(Nat→Rb→Option Rb)):List Int→Rb→Option Rb
  | [],ab=>kk_L1 (aa+1) ab
  | ad :: ae,ab=>(Zq ab ad).bind fun ac=>Zz ((ac.length+[(aa:Int)].length) * 8≤140737488355328∧ac.length+[(aa:Int)].length≤maxLen) ((Zbm aa kk_L1 ae) (ab.set (Int.toNat ad) (ac++[(aa:Int)])))
termination_by structural x=>x
def Qq:List R2→Nat→Rb→Option Rb
  | [],ab,aa=>some aa
  | ac :: ad,ab,aa=>Zbm ab (Qq ad) ac aa
termination_by structural x=>x
def Zeu (aa:Rb):Option Rb:=
  Zz (aa.length * 24≤281474976710656∧aa.length≤maxLen) (Qq aa 0 (List.replicate aa.length (([]:List Int):List Int)))
theorem Zwt {a7:Nat} {a0:Option Addr} {col:Zd} {w0:World} {ae r:Rb} (c1:Nat) (hm:Zeu ae=some r) (h0:Sl (Za.slice (Za.int .i64)) col w0 a0 a7 ae):
    Calls prog 203 #[.slice a0 ae.length a7] w0 (fun e w'=>∃ (col':Zd) (ra1:Option Addr) (rc2:Nat),e= .returned ((.slice ra1 r.length rc2))∧Zi col w0 col' w'∧Zc (Za.row 3 (Za.int .i64)) 40 c1 col' w' ra1 rc2 r):=by
 refine Xk 2 (m:=37) func203 rfl rfl rfl rfl rfl ?_;rw [Zeu.eq_1] at hm;have aa:=St.start col w0;refine go ?_;obtain ⟨a8,hm⟩:=Z3 hm;refine Qo (col:=(Zj col)) (w:=w0) (r:=(Za.row 3 (Za.int .i64))) (n:=ae.length) (x0:=([]:List Int)) 1 rfl underlying24 Tryz.t40 rfl rfl rfl rfl rfl rfl rfl a8.1 a8.2 Z2d ?_;intro b4 b5 b6 bg bh;refine go ?_;replace aa:=aa.grow bg;refine Z8 [11,12,1000000] (fun n f aw=>∃ ax ab ay az ap aj,n=aj.length∧ae.drop ab=aj∧Qq aj ab ap=some r∧St w0 (Zj col) ax aw∧Zc (Za.row 3 (Za.int .i64)) 40 1 ax aw ay az ap∧[13,3].map f=[.int .i64 ab,.slice ay ap.length az]) ae.length ⟨_,0,_,_,_,_,rfl,rfl,hm,aa,bh,rfl⟩ ?_;clear hm;intro n f aw hI;obtain ⟨ax,ab,ay,az,ap,aj,hn,hl,hm,aa,a9,hs⟩:=hI;subst hn;refine .lL [13,3] hs ?_;replace h0:=h0.keep (Zl.start col w0)
 cases aj with
 | nil=>
  have hk:¬ ((ab:Int)<(ae.length:Int)):=by have:=List.drop_eq_nil_iff.1 hl;omega
  have hkb:=decide_eq_false hk;rw [Qq.eq_1] at hm;refine go ?_;refine X3 (congrArg Value.bool hkb)<|go ?_;cases hm;exact ⟨rfl,_,_,_,rfl,aa.fin (cm [(1,c1)]),aa.fo a9⟩
 | cons ak ba=>
  obtain ⟨af,bi,bj⟩:=Yk hl;have hk:(ab:Int)<(ae.length:Int):=by omega
  have hkb:=decide_eq_true hk;rw [Qq.eq_2] at hm;refine go ?_;refine X4 (congrArg Value.bool hkb)<|go ?_;refine lI af ((h0.ks aa).addr af) ?_;obtain ⟨_,bk,bm⟩:=(h0.ks aa).atN af;obtain ⟨⟨bn,bo,rfl,ac⟩,_⟩:=bk;refine lW bm.one<|go ?_;refine Z8 [11,12,13,18,19,4,1000000] (fun n f al=>∃ aq am ag ah ad an,n=an.length∧ak.drop am=an∧Zbm ab (Qq ba) an ad=some r∧St w0 (Zj col) aq al∧Sl (Za.int .i64) aq al bn bo ak∧Zc (Za.row 3 (Za.int .i64)) 40 1 aq al ag ah ad∧[20,3].map f=[.int .i64 am,.slice ag ad.length ah]) ak.length ⟨_,0,_,_,_,_,rfl,rfl,hm,aa,ac,a9,rfl⟩ ?_;clear hm;intro n f al hI;obtain ⟨aq,am,ag,ah,ad,an,hn,hl,hm,aa,ac,a1,hs⟩:=hI;subst hn;refine .lL [20,3] hs ?_
  cases an with
  | nil=>
   have hk:¬ ((am:Int)<(ak.length:Int)):=by have:=List.drop_eq_nil_iff.1 hl;omega
   have hkb:=decide_eq_false hk;rw [Zbm.eq_1] at hm;refine go ?_;refine X3 (congrArg Value.bool hkb)<|go ?_;exact ⟨ba.length,by simp,rfl,⟨_,_,_,_,_,_,rfl,bi,hm,aa,a1,(Yo (congrArg (Value.int .i64) (Yn (Nat.lt_of_lt_of_le bj (h0.ks aa).1.1))) rfl)⟩⟩
  | cons ar bp=>
   obtain ⟨af,bq,br⟩:=Yk hl;have hk:(am:Int)<(ak.length:Int):=by omega
   have hkb:=decide_eq_true hk;rw [Zbm.eq_2] at hm;refine go ?_;refine X4 (congrArg Value.bool hkb)<|go ?_;refine lI af (ac.addr af)<|lW (ac.atInt af) ?_;refine go ?_;obtain ⟨ao,au,hm⟩:=bZ hm;refine lI au (a1.addr au) ?_;obtain ⟨_,bb,bc,ai,bs⟩:=a1.open_ 2 (by decide) au;obtain ⟨bt,bu,rfl,a2⟩:=bs.row;replace ai:Wl (Za.row 3 (Za.int .i64)) 40 1 bb al ag ah ad (Int.toNat ar) [.slice bt ao.length bu]:=ai;refine lW ai.atN.one<|Yd rfl<|Vr (col:=bb) [(ab:Int)] 3 ?_;intro b7 bv bw av bx;obtain ⟨bd,hm⟩:=Z3 hm;replace a2:=a2.gr av;refine Zbl (col:=bw) (w:=bv) (r:=(Za.int .i64)) (c:=2) (c2:=2) (a2.ex) (bx.srcN (NB.int (k:=.i64))) rfl underlying40 Zy7 rfl rfl rfl bd.1 bd.2 (by decide) ?_;intro be bf b8 bz a3 a4;replace ai:=(ai.gr av).kpp a3;refine lI au (ai.addr)<|Z0e (v:=(.slice be ((ao++[(ab:Int)]).length) bf)) ai rfl sizeOf40 rfl (by intro u hu;simp only [Value.cells,List.mem_cons,List.not_mem_nil,or_false] at hu;subst hu;rfl) rfl rfl (by decide) ?_;intro b0 a5 b1 a6;replace a6:Wl (Za.row 3 (Za.int .i64)) 40 1 bz b0 ag ah ad (Int.toNat ar) [.slice be ((ao++[(ab:Int)]).length) bf]:=a6;replace a4:=a4.kp a5;have b2:=a4.new;have b3:=a6.close b2.has (by decide) (by decide);replace ac:=(((ac.kpp bc).gr av).kpp a3).kp a5;replace ac:=ac.recol 2 1 (by decide);replace aa:=(((aa.kpp bc).grow av).kpp a3).kp a5 b1;replace aa:=aa.recol 2 1 (by decide) (by decide);refine .ld (d:=3) (v:=(.slice ag ((ad.set (Int.toNat ar) (ao++[(ab:Int)])).length) ah)) (congrArg (fun n=>Value.slice ag n ah) (show ad.length=(ad.set (Int.toNat ar) (ao++[(ab:Int)])).length by simp only [nS])) ?_;refine go ?_;exact ⟨bp.length,by simp,rfl,⟨_,_,_,_,_,_,rfl,bq,hm,aa,ac,b3,(Yo (congrArg (Value.int .i64) (Yn (Nat.lt_of_lt_of_le br ac.1.1))) rfl)⟩⟩
def Zbo (aa:Int) (kk_L2:(Int→Int→Option R6)) (ab:Int):Option R6:=
  kk_L2 (i64.wrap (aa+1)) ab
def Zex (aa:Int) (ab:Int) (kk_L2:(Int→Int→Option R6)) (ac:Int) (ad:Bool):Option R6:=
  if ad=true then (Zbo aa kk_L2 ac) else (Zbo aa kk_L2 ab)
def T7 (N:Nat) (ad:List Int) (ag:Int) (aa:List Int) (ac:Int) (kk_L1:(List Int→Int→Option R6)):Nat→Int→Int→Option R6
  | 0,_,_=>none
  | ah+1,ae,ab=>if (decide (ae<2))=true then ((Zq [i64.wrap ((i64.wrap (2 * ac))+1),i64.wrap ((i64.wrap (2 * ac))+2)] ae).bind fun af=>if (decide (af<(i64.wrap ((ad.length:Int) - 1))))=true then ((Zq aa af).bind fun aj=>(Zq aa ab).bind fun ak=>Zex ae ab (T7 N ad ag aa ac kk_L1 ah) af (decide (aj<ak))) else (Zex ae ab (T7 N ad ag aa ac kk_L1 ah) af false)) else (if (decide (ab=ac))=true then (some (ag,aa.take (Int.toNat (i64.wrap ((ad.length:Int) - 1))))) else ((Zq aa ab).bind fun al=>(Zq aa ac).bind fun am=>(some (aa.set (Int.toNat ac) al)).bind fun ai=>(Zq ai ab).bind fun ao=>(some (ai.set (Int.toNat ab) am)).bind fun an=>kk_L1 an ab))
termination_by structural x=>x
def T6 (N:Nat) (aa:List Int) (ab:Int):Nat→R2→Int→Option R6
  | 0,_,_=>none
  | ad+1,ae,ac=>T7 N aa ab ae ac (T6 N aa ab ad) N 0 ac
termination_by structural x=>x
def Zg6 (N:Nat) (aa:List Int):Option R6:=
  (Zq aa 0).bind fun ac=>(Zq aa (i64.wrap ((aa.length:Int) - 1))).bind fun ad=>(some (aa.set (Int.toNat 0) ad)).bind fun ab=>Zz ((0:Int)≤(i64.wrap ((aa.length:Int) - 1))∧(i64.wrap ((aa.length:Int) - 1))≤(ab.length:Int)) (T6 N aa ac N ab 0)
theorem Zwv {N g0 al:Nat} {am:Option Addr} {col:Zd} {w0:World} {aa:R2} {r:R6} (qc0 ai:Nat) (hm:Zg6 N aa=some r) (hd:Te [qc0,ai]=true) (ap:Zc (Za.int .i64) 3 ai col w0 am al aa) (hb0:Zk 244 qc0 col w0 g0 #[.slice am aa.length al]):
    Calls prog 267 #[.pointer (some ⟨g0,0,none⟩)] w0 (fun e w'=>∃ (col':Zd) (oa1:Option Addr) (oc2:Nat),e= .returned ((.int .i64 r.1))∧Zx (pS [qc0,ai]) col w0 col' w'∧Zc (Za.int .i64) 3 ai col' w' oa1 oc2 r.2∧Zk 244 qc0 col' w' g0 #[.slice oa1 r.2.length oc2]):=by
 refine Xk 2 (m:=76) func267 rfl rfl rfl rfl rfl ?_;rw [Zg6.eq_1] at hm;have ac:=St.startL (l:=[qc0,ai]) rfl col w0;replace hb0:=hb0.startL (Zaf hd 0 rfl) (Zae hd 0 rfl);replace ap:=ap.startL (Zaf hd 1 rfl) (Zae hd 1 rfl);refine go ?_;refine lV (.pointer (some ⟨g0,0,none⟩)) (Qg rfl)<|lW hb0.at1<|go ?_;obtain ⟨au,av,hm⟩:=bZ hm;refine lI av (ap.addr av)<|lW (ap.atInt av) ?_;refine go ?_;obtain ⟨bm,be,hm⟩:=bZ hm;refine lI be (ap.addr be)<|lW (ap.atInt be)<|lI av (ap.addr av) ?_;obtain ⟨an,ay,hm⟩:=bZ hm;have ay:an=aa.set (Int.toNat 0) bm:=(Option.some.inj ay).symm;refine Wd (x1:=bm) ap av ?_;intro bu bn bv az;rw [← ay] at az;refine .ld (d:=3) (v:=(.slice am an.length al)) (congrArg (fun n=>Value.slice am n al) (show aa.length=an.length by rw [ay,nS])) ?_;replace hb0:=hb0.kp bn;replace hb0:Zk 244 440 (Xt [qc0,ai] col) bu g0 #[.slice am an.length al]:=by rw [← (show aa.length=an.length by rw [ay,nS])];exact hb0
 refine go ?_;obtain ⟨bf,hm⟩:=Z3 hm;refine lv (v:=.slice am (Int.toNat (i64.wrap ((aa.length:Int) - 1))) al) rfl rfl (Zgk underlying244 sizeOf3 rfl rfl bf.1 (by have:=az.lecap;have:=bf.2;omega))<|.ld (d:=28) (v:=(.slice am ((an.take (Int.toNat (i64.wrap ((aa.length:Int) - 1)))).length) al)) (congrArg (fun n=>Value.slice am n al) (List.length_take_of_le (show (Int.toNat (i64.wrap ((aa.length:Int) - 1)))≤an.length by have:=bf.2;omega)).symm) ?_;refine lV (.pointer (some ⟨g0,0,none⟩)) (Qg rfl)<|Sy (v:=(.slice am ((an.take (Int.toNat (i64.wrap ((aa.length:Int) - 1)))).length) al)) hb0 sizeOf244 rfl rfl (by intro u hu;simp only [Value.cells,List.mem_cons,List.not_mem_nil,or_false] at hu;subst hu;rfl) rfl rfl ?_;intro bw bo bx ab;replace ab:Zk 244 440 (Xt [qc0,ai] col) bw g0 #[(.slice am ((an.take (Int.toNat (i64.wrap ((aa.length:Int) - 1)))).length) al)]:=ab;refine go ?_;replace ac:=(ac.kp bn bv).kp bo bx;replace az:=az.kp bo;refine Z8 [4,5,1000000] (fun n f a4=>∃ a5 af ag ah ak ao,ao=n∧T6 N aa au ao ah ak=some r∧St w0 (Xt [qc0,ai] col) a5 a4∧Zc (Za.int .i64) 3 441 a5 a4 af ag ah∧Zk 244 440 a5 a4 g0 #[(.slice af ((ah.take (Int.toNat (i64.wrap ((aa.length:Int) - 1)))).length) ag)]∧[3,6].map f=[.slice af ah.length ag,.int .i64 ak]) N ⟨_,_,_,_,0,_,rfl,hm,ac,az,ab,rfl⟩ ?_;clear hm;intro n f a4 hI;obtain ⟨a5,af,ag,ah,ak,ao,hn,hm,ac,ad,ab,hs⟩:=hI;subst hn;refine .lL [3,6] hs ?_
 cases ao with
 | zero=>rw [T6.eq_1] at hm;cases hm
 | succ ao=>
  rw [T6.eq_2] at hm;refine go ?_;refine lV (.agg #[(.int .i64 (i64.wrap ((i64.wrap (2 * ak))+1))),(.int .i64 (i64.wrap ((i64.wrap (2 * ak))+2)))]) (Z1r underlying261 sizeOf3 zeroValue261 rfl)<|go ?_;refine Z8 [3,37,4,5,6,1000000] (fun n f a6=>∃ ae a0 a1 aq,aq=n∧T7 N aa au ah ak (T6 N aa au ao) aq a0 a1=some r∧St w0 (Xt [qc0,ai] col) ae a6∧Zc (Za.int .i64) 3 441 ae a6 af ag ah∧Zk 244 440 ae a6 g0 #[(.slice af ((ah.take (Int.toNat (i64.wrap ((aa.length:Int) - 1)))).length) ag)]∧[38,7].map f=[.int .i64 a0,.int .i64 a1]) N ⟨_,0,_,_,rfl,hm,ac,ad,ab,rfl⟩ ?_;clear hm;intro n f a6 hI;obtain ⟨ae,a0,a1,aq,hn,hm,ac,ad,ab,hs⟩:=hI;subst hn;refine .lL [38,7] hs ?_
  cases aq with
  | zero=>rw [T7.eq_1] at hm;cases hm
  | succ aq=>
   rw [T7.eq_2] at hm;refine go ?_;refine Zr hm (fun hb hm=>?_) fun hb hm=>go ?_
   ·refine X8<|Zw ?_;refine Wp.cutK [3,37,38,4,5,6,1000000] (fun f a7=>∃ a8 bg,Zbo a0 (T7 N aa au ah ak (T6 N aa au ao) aq) bg=some r∧St w0 (Xt [qc0,ai] col) a8 a7∧Zc (Za.int .i64) 3 441 a8 a7 af ag ah∧Zk 244 440 a8 a7 g0 #[(.slice af ((ah.take (Int.toNat (i64.wrap ((aa.length:Int) - 1)))).length) ag)]∧[7].map f=[.int .i64 bg]) ?_ ?_
    ·intro f a7 hJ;obtain ⟨a8,bg,hm,ac,ad,ab,hs⟩:=hJ;rw [Zbo.eq_1] at hm;refine .lL [7] hs<|go ?_;exact ⟨aq,by omega,rfl,⟨_,_,_,_,rfl,hm,ac,ad,ab,rfl⟩⟩
    refine go ?_;obtain ⟨bp,bz,hm⟩:=bZ hm;refine lV (.int .i64 bp) (Z1x (l:=[i64.wrap ((i64.wrap (2 * ak))+1),i64.wrap ((i64.wrap (2 * ak))+2)]) (k:=.i64) underlying261 sizeOf3 isAgg3 rfl rfl rfl bz)<|Yr rfl<|Zm<|Zw ?_;refine Wp.cutK [3,37,38,4,5,6,7,9,1000000] (fun f a9=>∃ ba bh,Zex a0 a1 (T7 N aa au ah ak (T6 N aa au ao) aq) bp bh=some r∧St w0 (Xt [qc0,ai] col) ba a9∧Zc (Za.int .i64) 3 441 ba a9 af ag ah∧Zk 244 440 ba a9 g0 #[(.slice af ((ah.take (Int.toNat (i64.wrap ((aa.length:Int) - 1)))).length) ag)]∧[54].map f=[.bool bh]) ?_ ?_
    ·intro f a9 hJ;obtain ⟨ba,bh,hm,ac,ad,ab,hs⟩:=hJ;rw [Zex.eq_1] at hm;refine .lL [54] hs ?_;refine Zr hm (fun hb hm=>go ?_) fun hb hm=>?_
     ·exact ⟨rfl,_,_,hm,ac,ad,ab,rfl⟩
     refine X8 ?_;exact ⟨rfl,_,_,hm,ac,ad,ab,rfl⟩
    refine Tq (col:=ae) (by kernel_rfl) (by kernel_rfl)<|go ?_;refine X1 hm (fun bi hm=>go ?_) fun bi hm=>go ?_
    ·obtain ⟨b0,bj,hm⟩:=bZ hm;refine qI bj (ad.addr bj) ?_;refine go ?_;refine qW (fun _ hC=>(ad.gr (hC.bl ae)).atInt bj) ?_;refine go ?_;obtain ⟨b1,bk,hm⟩:=bZ hm;refine qI bk (ad.addr bk) ?_;refine go ?_;refine qW (fun _ hC=>(ad.gr (hC.bl ae)).atInt bk) ?_;refine go ?_;refine qv (v:=(.bool (decide (b0<b1)))) rfl (fun _ hC=>Xs (congrArg Value.bool bi) rfl) ?_;refine Vh ?_;intro b6 hC;replace hC:=hC.bl ae;replace ad:=ad.gr hC;replace ab:=ab.gr hC;replace ac:=ac.grow hC;exact ⟨rfl,_,_,hm,ac,ad,ab,rfl⟩
    refine qv (v:=(.bool false)) rfl (fun _ hC=>Xl (congrArg Value.bool bi) rfl) ?_;refine Vh ?_;intro b7 hC;replace hC:=hC.bl ae;replace ad:=ad.gr hC;replace ab:=ab.gr hC;replace ac:=ac.grow hC;exact ⟨rfl,_,_,hm,ac,ad,ab,rfl⟩
   refine Zr hm (fun hb hm=>go ?_) fun hb hm=>go ?_
   ·cases hm;exact ⟨rfl,Sv w0.heap.size [qc0,ai] col ae (fun n=>bif Nat.beq n 441 then ai else bif Nat.beq n 440 then qc0 else 0),af,ag,rfl,ac.finL rfl (fun n=>bif Nat.beq n 441 then ai else bif Nat.beq n 440 then qc0 else 0),ac.finOwnL (g:=(fun n=>bif Nat.beq n 441 then ai else bif Nat.beq n 440 then qc0 else 0)) rfl (ad.take (Int.toNat (i64.wrap ((aa.length:Int) - 1)))) (by decide) (by decide) rfl,ac.finBoxL (g:=(fun n=>bif Nat.beq n 441 then ai else bif Nat.beq n 440 then qc0 else 0)) ab (by decide) (by decide) rfl⟩
   refine Wk (col:=ae) [(0,1),(1,1),(2,1),(3,1),(4,1),(5,1),(6,1),(7,0),(8,1),(9,1),(10,1),(11,0),(12,1),(13,2),(14,1),(15,2)] (by kernel_rfl) (by kernel_rfl)<|xu rfl rfl (fun _=>Vt rfl) ?_;refine xu rfl rfl (fun _=>Yw rfl) ?_;refine xu rfl rfl (fun _=>Vt rfl) ?_;refine xu rfl rfl (fun _=>Yw rfl) ?_;refine xu rfl rfl (fun _=>Vt rfl) ?_;refine xu rfl rfl (fun _=>Yw rfl) ?_;obtain ⟨bq,bb,hm⟩:=bZ hm;refine xu rfl rfl (fun _=>Y9 underlying244 sizeOf3 rfl rfl (Xj bb).1 (Xj bb).2.1 (ad.addr bb)) ?_;refine xW (fun _ hC=>(ad.gr (hC.bl ae)).atInt bb) ?_;refine xu rfl rfl (fun _=>Vt rfl) ?_;refine xu rfl rfl (fun _=>Yw rfl) ?_;obtain ⟨br,ar,hm⟩:=bZ hm;refine xu rfl rfl (fun _=>Y9 underlying244 sizeOf3 rfl rfl (Xj ar).1 (Xj ar).2.1 (ad.addr ar)) ?_;refine xW (fun _ hC=>(ad.gr (hC.bl ae)).atInt ar) ?_;refine xu rfl rfl (fun _=>Y9 underlying244 sizeOf3 rfl rfl (Xj ar).1 (Xj ar).2.1 (ad.addr ar)) ?_;refine xe rfl rfl ?_;intro b8 hC0;have hC:=hC0.bl ae;obtain ⟨aj,aw,hm⟩:=bZ hm;have aw:aj=ah.set (Int.toNat ak) bq:=(Option.some.inj aw).symm;replace ad:=ad.gr hC;refine Wd (x1:=bq) ad ar ?_;intro b2 bs b3 a2;rw [← aw] at a2;refine .ld (d:=3) (v:=(.slice af aj.length ag)) (congrArg (fun n=>Value.slice af n ag) (show ah.length=aj.length by rw [aw,nS])) ?_;refine .ld (d:=63) (v:=(.slice af aj.length ag)) (congrArg (fun n=>Value.slice af n ag) (show ah.length=aj.length by rw [aw,nS])) ?_;replace ab:=(ab.gr hC).kp bs;replace ab:Zk 244 440 ae b2 g0 #[(.slice af ((aj.take (Int.toNat (i64.wrap ((aa.length:Int) - 1)))).length) ag)]:=by rw [← (show (ah.take (Int.toNat (i64.wrap ((aa.length:Int) - 1)))).length=(aj.take (Int.toNat (i64.wrap ((aa.length:Int) - 1)))).length by rw [nK,nK,(show ah.length=aj.length by rw [aw,nS])])];exact ab
   refine Zm<|xk ae ?_;obtain ⟨b9,bc,hm⟩:=bZ hm;refine xu rfl rfl (fun _=>Y9 underlying244 sizeOf3 rfl rfl (Xj bc).1 (Xj bc).2.1 (a2.addr bc)) ?_;refine xe rfl rfl ?_;intro ca hC0;replace ac:=(ac.grow hC).kp bs b3;have hC:=hC0.bl ae;obtain ⟨ax,a3,hm⟩:=bZ hm;have a3:ax=aj.set (Int.toNat a1) br:=(Option.some.inj a3).symm;replace a2:=a2.gr hC;refine Wd (x1:=br) a2 bc ?_;intro b4 bt b5 bd;rw [← a3] at bd;refine .ld (d:=3) (v:=(.slice af ax.length ag)) (congrArg (fun n=>Value.slice af n ag) (show aj.length=ax.length by rw [a3,nS])) ?_;replace ab:=(ab.gr hC).kp bt;replace ab:Zk 244 440 ae b4 g0 #[(.slice af ((ax.take (Int.toNat (i64.wrap ((aa.length:Int) - 1)))).length) ag)]:=by rw [← (show (aj.take (Int.toNat (i64.wrap ((aa.length:Int) - 1)))).length=(ax.take (Int.toNat (i64.wrap ((aa.length:Int) - 1)))).length by rw [nK,nK,(show aj.length=ax.length by rw [a3,nS])])];exact ab
   refine Zm<|xk ae<|Y7 ?_;replace ac:=(ac.grow hC).kp bt b5;intro cb hC;replace hC:=hC.bl ae;refine go ?_;replace bd:=bd.gr hC;replace ab:=ab.gr hC;replace ac:=ac.grow hC;exact ⟨ao,by omega,rfl,⟨_,_,_,_,_,_,rfl,hm,ac,bd,ab,rfl⟩⟩
theorem Zy8:Y4 prog 3 1 8:=⟨Tryz.t3,_,rfl,rfl,rfl,rfl,rfl⟩
def Zez (ab:List Int) (aa:Int) (kk_L1:(List Int→Int→Option R2)) (ad:Bool):Option R2:=
  if ad=true then ((Zq ab (i64.wrap (Int.tdiv (i64.wrap (aa - 1)) 2))).bind fun ae=>(Zq ab aa).bind fun af=>(some (ab.set (Int.toNat aa) ae)).bind fun ac=>(Zq ac (i64.wrap (Int.tdiv (i64.wrap (aa - 1)) 2))).bind fun ah=>(some (ac.set (Int.toNat (i64.wrap (Int.tdiv (i64.wrap (aa - 1)) 2))) af)).bind fun ag=>kk_L1 ag (i64.wrap (Int.tdiv (i64.wrap (aa - 1)) 2))) else (some ab)
def Zaj (N:Nat):Nat→R2→Int→Option R2
  | 0,_,_=>none
  | ac+1,ab,aa=>if (decide (0<aa))=true then ((Zq ab aa).bind fun ad=>(Zq ab (i64.wrap (Int.tdiv (i64.wrap (aa - 1)) 2))).bind fun ae=>Zez ab aa (Zaj N ac) (decide (ad<ae))) else (Zez ab aa (Zaj N ac) false)
termination_by structural x=>x
def Zey (N:Nat) (aa:List Int) (ab:Int):Option R2:=
  Zz ((aa.length+[ab].length) * 8≤140737488355328∧aa.length+[ab].length≤maxLen) (Zaj N N (aa++[ab]) (i64.wrap (((aa++[ab]).length:Int) - 1)))
theorem Zph {N g0 a7:Nat} {a8:Option Addr} {col:Zd} {w0:World} {ao:R2} {an:Int} {r:R2} (qc0 af:Nat) (hm:Zey N ao an=some r) (hd:Te [qc0,af]=true) (ap:Zc (Za.int .i64) 3 af col w0 a8 a7 ao) (hb0:Zk 244 qc0 col w0 g0 #[.slice a8 ao.length a7]):
    Calls prog 266 #[.pointer (some ⟨g0,0,none⟩),.int .i64 an] w0 (fun e w'=>∃ (col':Zd) (oa1:Option Addr) (oc2:Nat),e= .returned (.tuple #[])∧Zx (pS [qc0,af]) col w0 col' w'∧Zc (Za.int .i64) 3 af col' w' oa1 oc2 r∧Zk 244 qc0 col' w' g0 #[.slice oa1 r.length oc2]):=by
 refine Zcu (m:=66) (args:=[.pointer (some ⟨g0,0,none⟩),.int .i64 an]) func266 rfl rfl rfl rfl ?_;rw [Zey.eq_1] at hm;have ab:=St.startL (l:=[qc0,af]) rfl col w0;replace hb0:=hb0.startL (Zaf hd 0 rfl) (Zae hd 0 rfl);replace ap:=ap.startL (Zaf hd 1 rfl) (Zae hd 1 rfl);refine go ?_;refine lV (.pointer (some ⟨g0,0,none⟩)) (Qg rfl)<|lW hb0.at1<|Yd rfl<|Vr (col:=(Xt [qc0,af] col)) [an] 1 ?_;intro bw bi bj a0 bk;obtain ⟨a9,hm⟩:=Z3 hm;replace ap:=ap.gr a0;refine Zbl (col:=bj) (w:=bi) (r:=(Za.int .i64)) (c:=441) (c2:=441) (ap.ex) (bk.srcN (NB.int (k:=.i64))) rfl underlying244 Zy8 rfl rfl rfl a9.1 a9.2 (by decide) ?_;intro ba bb bx bm bc a1;refine lV (.pointer (some ⟨g0,0,none⟩)) (Qg rfl) ?_;replace hb0:=(hb0.gr a0).kpp bc;refine Sy (v:=(.slice ba ((ao++[an]).length) bb)) hb0 sizeOf244 rfl rfl (by intro u hu;simp only [Value.cells,List.mem_cons,List.not_mem_nil,or_false] at hu;subst hu;rfl) rfl rfl ?_;intro bn bd bo aa;replace aa:Zk 244 440 bm bn g0 #[.slice ba ((ao++[an]).length) bb]:=aa;replace a1:=a1.kp bd;have bp:=a1.new;refine go ?_;refine lV (.pointer (some ⟨g0,0,none⟩)) (Qg rfl)<|lW aa.at1<|go ?_;replace ab:=((ab.grow a0).kpp bc).kp bd bo;refine Z8 [0,1000000] (fun n f au=>∃ ag ah ai aj ae al,al=n∧Zaj N al aj ae=some r∧St w0 (Xt [qc0,af] col) ag au∧Zc (Za.int .i64) 3 441 ag au ah ai aj∧Zk 244 440 ag au g0 #[.slice ah aj.length ai]∧[4].map f=[.int .i64 ae]) N ⟨_,_,_,_,_,_,rfl,hm,ab,bp,aa,rfl⟩ ?_;clear hm;intro n f au hI;obtain ⟨ag,ah,ai,aj,ae,al,hn,hm,ab,ac,aa,hs⟩:=hI;subst hn;refine .lL [4] hs ?_
 cases al with
 | zero=>rw [Zaj.eq_1] at hm;cases hm
 | succ al=>
  rw [Zaj.eq_2] at hm;refine Zw<|Zw ?_;refine Wp.cutK [0,4,1000000] (fun f av=>∃ ad a2,Zez aj ae (Zaj N al) a2=some r∧St w0 (Xt [qc0,af] col) ad av∧Zc (Za.int .i64) 3 441 ad av ah ai aj∧Zk 244 440 ad av g0 #[.slice ah aj.length ai]∧[36].map f=[.bool a2]) ?_ ?_
  ·intro f av hJ;obtain ⟨ad,a2,hm,ab,ac,aa,hs⟩:=hJ;rw [Zez.eq_1] at hm;refine .lL [36] hs ?_;refine Zr hm (fun hb hm=>go ?_) fun hb hm=>go ?_
   ·refine Wk (col:=ad) [(0,1),(1,1),(2,0),(3,1),(4,1),(5,1),(6,0),(7,1),(8,1),(9,1),(10,1),(11,1),(12,0),(13,1),(14,1),(15,1),(16,1),(17,0),(18,1),(19,1),(20,0),(21,1),(22,1),(23,0),(24,1),(25,2),(26,1),(27,2)] (by kernel_rfl) (by kernel_rfl)<|xu rfl rfl (fun _=>Zlp rfl) ?_;refine xu (v:=(.pointer (some ⟨g0,0,none⟩))) rfl rfl (fun _=>Qg rfl) ?_;refine xW (fun _ hC=>aa.at1.gr (hC.bl ad)) ?_;refine xu rfl rfl (fun _=>Yw rfl) ?_;refine xu rfl rfl (fun _=>Zlp rfl) ?_;refine xu (v:=(.pointer (some ⟨g0,0,none⟩))) rfl rfl (fun _=>Qg rfl) ?_;refine xW (fun _ hC=>aa.at1.gr (hC.bl ad)) ?_;refine xu rfl rfl (fun _=>Yw rfl) ?_;refine xu rfl rfl (fun _=>Zlq _ _ rfl rfl) ?_;refine xu (v:=(.int .i64 (i64.wrap (Int.tdiv (i64.wrap (ae - 1)) 2)))) rfl rfl (fun _=>V2 (i64.wrap (ae - 1)) 2 rfl rfl (by decide)) ?_;refine xu rfl rfl (fun _=>Zlp rfl) ?_;refine xu (v:=(.pointer (some ⟨g0,0,none⟩))) rfl rfl (fun _=>Qg rfl) ?_;refine xW (fun _ hC=>aa.at1.gr (hC.bl ad)) ?_;refine xu rfl rfl (fun _=>Yw rfl) ?_;refine xu rfl rfl (fun _=>Zlq _ _ rfl rfl) ?_;refine xu (v:=(.int .i64 (i64.wrap (Int.tdiv (i64.wrap (ae - 1)) 2)))) rfl rfl (fun _=>V2 (i64.wrap (ae - 1)) 2 rfl rfl (by decide)) ?_;obtain ⟨be,aw,hm⟩:=bZ hm;refine xu rfl rfl (fun _=>Y9 underlying244 sizeOf3 rfl rfl (Xj aw).1 (Xj aw).2.1 (ac.addr aw)) ?_;refine xW (fun _ hC=>(ac.gr (hC.bl ad)).atInt aw) ?_;refine xu rfl rfl (fun _=>Zlp rfl) ?_;refine xu (v:=(.pointer (some ⟨g0,0,none⟩))) rfl rfl (fun _=>Qg rfl) ?_;refine xW (fun _ hC=>aa.at1.gr (hC.bl ad)) ?_;refine xu rfl rfl (fun _=>Yw rfl) ?_;obtain ⟨bf,ak,hm⟩:=bZ hm;refine xu rfl rfl (fun _=>Y9 underlying244 sizeOf3 rfl rfl (Xj ak).1 (Xj ak).2.1 (ac.addr ak)) ?_;refine xW (fun _ hC=>(ac.gr (hC.bl ad)).atInt ak) ?_;refine xu rfl rfl (fun _=>Y9 underlying244 sizeOf3 rfl rfl (Xj ak).1 (Xj ak).2.1 (ac.addr ak)) ?_;refine xe rfl rfl ?_;intro bz hC0;have hC:=hC0.bl ad;obtain ⟨am,aq,hm⟩:=bZ hm;have aq:am=aj.set (Int.toNat ae) be:=(Option.some.inj aq).symm;replace ac:=ac.gr hC;refine Wd (x1:=be) ac ak ?_;intro bq bg br ar;rw [← aq] at ar;refine .ld (d:=46) (v:=(.slice ah am.length ai)) (congrArg (fun n=>Value.slice ah n ai) (show aj.length=am.length by rw [aq,nS])) ?_;replace aa:=(aa.gr hC).kp bg;replace aa:Zk 244 440 ad bq g0 #[.slice ah am.length ai]:=by rw [← (show aj.length=am.length by rw [aq,nS])];exact aa
    refine Zm<|xk ad ?_;obtain ⟨b0,ax,hm⟩:=bZ hm;refine xu rfl rfl (fun _=>Y9 underlying244 sizeOf3 rfl rfl (Xj ax).1 (Xj ax).2.1 (ar.addr ax)) ?_;refine xe rfl rfl ?_;intro b1 hC0;replace ab:=(ab.grow hC).kp bg br;have hC:=hC0.bl ad;obtain ⟨a3,ay,hm⟩:=bZ hm;have ay:a3=am.set (Int.toNat (i64.wrap (Int.tdiv (i64.wrap (ae - 1)) 2))) bf:=(Option.some.inj ay).symm;replace ar:=ar.gr hC;refine Wd (x1:=bf) ar ax ?_;intro bs bh bt az;rw [← ay] at az;replace aa:=(aa.gr hC).kp bh;replace aa:Zk 244 440 ad bs g0 #[.slice ah a3.length ai]:=by rw [← (show am.length=a3.length by rw [ay,nS])];exact aa
    refine Zm<|xk ad<|Y7 ?_;replace ab:=(ab.grow hC).kp bh bt;intro b2 hC;replace hC:=hC.bl ad;refine go ?_;refine lV (.int .i64 (i64.wrap (Int.tdiv (i64.wrap (ae - 1)) 2))) (V2 (i64.wrap (ae - 1)) 2 rfl rfl (by decide))<|go ?_;replace az:=az.gr hC;replace aa:=aa.gr hC;replace ab:=ab.grow hC;exact ⟨al,by omega,rfl,⟨_,_,_,_,_,_,rfl,hm,ab,az,aa,rfl⟩⟩
   cases hm;exact ⟨rfl,Sv w0.heap.size [qc0,af] col ad (fun n=>bif Nat.beq n 441 then af else bif Nat.beq n 440 then qc0 else 0),ah,ai,rfl,ab.finL rfl (fun n=>bif Nat.beq n 441 then af else bif Nat.beq n 440 then qc0 else 0),ab.finOwnL (g:=(fun n=>bif Nat.beq n 441 then af else bif Nat.beq n 440 then qc0 else 0)) rfl ac (by decide) (by decide) rfl,ab.finBoxL (g:=(fun n=>bif Nat.beq n 441 then af else bif Nat.beq n 440 then qc0 else 0)) aa (by decide) (by decide) rfl⟩
  refine Tq (col:=ag) (by kernel_rfl) (by kernel_rfl)<|go ?_;refine X1 hm (fun a4 hm=>go ?_) fun a4 hm=>go ?_
  ·refine qv (v:=(.pointer (some ⟨g0,0,none⟩))) rfl (fun _ hC=>Qg rfl) ?_;refine go ?_;refine qW (fun _ hC=>aa.at1.gr (hC.bl ag)) ?_;refine go ?_;obtain ⟨bu,a5,hm⟩:=bZ hm;refine qI a5 (ac.addr a5) ?_;refine go ?_;refine qW (fun _ hC=>(ac.gr (hC.bl ag)).atInt a5) ?_;refine go ?_;refine qv (v:=(.pointer (some ⟨g0,0,none⟩))) rfl (fun _ hC=>Qg rfl) ?_;refine go ?_;refine qW (fun _ hC=>aa.at1.gr (hC.bl ag)) ?_;refine go ?_;refine qv (v:=(.int .i64 (i64.wrap (Int.tdiv (i64.wrap (ae - 1)) 2)))) rfl (fun _ hC=>V2 (i64.wrap (ae - 1)) 2 rfl rfl (by decide)) ?_;refine go ?_;obtain ⟨bv,a6,hm⟩:=bZ hm;refine qI a6 (ac.addr a6) ?_;refine go ?_;refine qW (fun _ hC=>(ac.gr (hC.bl ag)).atInt a6) ?_;refine go ?_;refine qv (v:=(.bool (decide (bu<bv)))) rfl (fun _ hC=>Xs (congrArg Value.bool a4) rfl) ?_;refine Vh ?_;intro b3 hC;replace hC:=hC.bl ag;replace ac:=ac.gr hC;replace aa:=aa.gr hC;replace ab:=ab.grow hC;exact ⟨rfl,_,_,hm,ab,ac,aa,rfl⟩
  refine qv (v:=(.bool false)) rfl (fun _ hC=>Xl (congrArg Value.bool a4) rfl) ?_;refine Vh ?_;intro b4 hC;replace hC:=hC.bl ag;replace ac:=ac.gr hC;replace aa:=aa.gr hC;replace ab:=ab.grow hC;exact ⟨rfl,_,_,hm,ab,ac,aa,rfl⟩
def Ze1 (kk_L3:(List Int→R2→Option R2)) (aa:List Int) (ab:List Int):Option R2:=
  kk_L3 aa ab
def Qv (N:Nat) (ad:List Int) (kk_L2:(List Int→R2→R2→Option R2)) (ae:R6):List Int→R2→R2→Option R2
  | [],aa,ab=>kk_L2 aa ab (ad++[ae.1])
  | ac :: ag,aa,ab=>(Zq aa ac).bind fun ah=>(some (aa.set (Int.toNat ac) (i64.wrap (ah - 1)))).bind fun af=>(Zq af ac).bind fun ai=>if (decide (ai=0))=true then ((Zey N ab ac).bind fun aj=>Ze1 (Qv N ad kk_L2 ae ag) af aj) else (Ze1 (Qv N ad kk_L2 ae ag) af ab)
termination_by structural x=>x
def Un (N:Nat) (ac:Rb):Nat→R2→R2→R2→Option R2
  | 0,_,_,_=>none
  | ae+1,af,ad,ab=>if (decide (0<(ad.length:Int)))=true then ((Zg6 N ad).bind fun aa=>Zz ((ab.length+[aa.1].length) * 8≤140737488355328∧ab.length+[aa.1].length≤maxLen) ((Zq ac aa.1).bind fun ag=>Qv N ab (Un N ac ae) aa ag af aa.2)) else (some ab)
termination_by structural x=>x
def Ze2 (aa:Nat) (kk_L1:(Nat→R2→R2→Option R2)) (ab:List Int) (ac:List Int):Option R2:=
  kk_L1 (aa+1) ab ac
def Qu (N:Nat) (ad:Rb):List R2→Nat→R2→R2→Option R2
  | [],aa,ab,ac=>Un N ad N ab ac ([]:List Int)
  | ae :: af,aa,ab,ac=>(Zq ab (aa:Int)).bind fun ai=>(some (ab.set (Int.toNat (aa:Int)) (ae.length:Int))).bind fun ag=>if (decide ((ae.length:Int)=0))=true then ((Zey N ac (aa:Int)).bind fun ah=>Ze2 aa (Qu N ad af) ag ah) else (Ze2 aa (Qu N ad af) ag ac)
termination_by structural x=>x
def Ze0 (N:Nat) (aa:Rb) (ab:Rb):Option R2:=
  Zz (aa.length * 8≤281474976710656∧aa.length≤maxLen) (Qu N ab aa 0 (List.replicate aa.length (0:Int)) ([]:List Int))
theorem Zww {N cs ct:Nat} {a0 a1:Option Addr} {col:Zd} {w0:World} {af ag:Rb} {r:R2} (c1:Nat) (hm:Ze0 N af ag=some r) (h0:Sl (Za.slice (Za.int .i64)) col w0 a0 cs af) (h1:Sl (Za.slice (Za.int .i64)) col w0 a1 ct ag):
    Calls prog 202 #[.slice a0 af.length cs,.slice a1 ag.length ct] w0 (fun e w'=>∃ (col':Zd) (ra1:Option Addr) (rc2:Nat),e= .returned ((.slice ra1 r.length rc2))∧Zi col w0 col' w'∧Zc (Za.int .i64) 3 c1 col' w' ra1 rc2 r):=by
 refine Xk 4 (m:=66) func202 rfl rfl rfl rfl rfl ?_;rw [Ze0.eq_1] at hm;have aa:=St.start col w0;refine go ?_;obtain ⟨cu,hm⟩:=Z3 hm;refine Qo (col:=(Zj col)) (w:=w0) (r:=(Za.int .i64)) (n:=af.length) (x0:=0) 1 rfl underlying40 Tryz.t3 rfl rfl rfl rfl rfl rfl rfl cu.1 cu.2 (V3 .i64 0) ?_;intro d1 d2 c6 c7 bx;refine go ?_;refine Zcx (col:=c6) (v:=(.slice none (([]:List Int).length) 0)) 2 rfl zeroValue244 ?_;intro aq c8 c9 cv ab;replace ab:Zk 244 2 c9 c8 aq #[.slice none (([]:List Int).length) 0]:=ab;refine go ?_;replace aa:=(aa.grow c7).grow cv;replace bx:=bx.gr cv;refine Z8 [1,16,17,6,1000000] (fun n f az=>∃ a2 ah a3 a4 ar bz b0 bj a5,n=a5.length∧af.drop ah=a5∧Qu N ag a5 ah ar bj=some r∧St w0 (Zj col) a2 az∧Zc (Za.int .i64) 3 1 a2 az a3 a4 ar∧Zc (Za.int .i64) 3 3 a2 az bz b0 bj∧Zk 244 2 a2 az aq #[.slice bz bj.length b0]∧[18,5].map f=[.int .i64 ah,.slice a3 ar.length a4]) af.length ⟨_,0,_,_,_,none,0,_,_,rfl,rfl,hm,aa,bx,Zc.nil,ab,rfl⟩ ?_;clear hm;intro n f az hI;obtain ⟨a2,ah,a3,a4,ar,bz,b0,bj,a5,hn,hl,hm,aa,b1,a6,ab,hs⟩:=hI;subst hn;refine .lL [18,5] hs ?_;replace h0:=h0.keep (Zl.start col w0);replace h1:=h1.keep (Zl.start col w0)
 cases a5 with
 | nil=>
  have hk:¬ ((ah:Int)<(af.length:Int)):=by have:=List.drop_eq_nil_iff.1 hl;omega
  have hkb:=decide_eq_false hk;rw [Qu.eq_1] at hm;refine go ?_;refine X3 (congrArg Value.bool hkb)<|go ?_;refine Z8 [1,6,1000000] (fun n f au=>∃ av b2 b3 bk b4 b5 bm b6 b7 ai aj,aj=n∧Un N ag aj bk bm ai=some r∧St w0 (Zj col) av au∧Zc (Za.int .i64) 3 1 av au b2 b3 bk∧Zc (Za.int .i64) 3 3 av au b4 b5 bm∧Zk 244 2 av au aq #[.slice b4 bm.length b5]∧Zc (Za.int .i64) 3 4 av au b6 b7 ai∧[5,9].map f=[.slice b2 bk.length b3,.slice b6 ai.length b7]) N ⟨_,_,_,_,_,_,_,none,0,_,_,rfl,hm,aa,b1,a6,ab,Zc.nil,rfl⟩ ?_;clear hm;intro n f au hI;obtain ⟨av,b2,b3,bk,b4,b5,bm,b6,b7,ai,aj,hn,hm,aa,b8,da,ab,bn,hs⟩:=hI;subst hn;refine .lL [5,9] hs ?_
  cases aj with
  | zero=>rw [Un.eq_1] at hm;cases hm
  | succ aj=>
   rw [Un.eq_2] at hm;refine go ?_;refine lW ab.at1<|go ?_;refine Zr hm (fun hb hm=>go ?_) fun hb hm=>go ?_
   ·obtain ⟨a7,db,hm⟩:=bZ hm;refine Zh (Zwv 2 3 db rfl da ab) ?_;rintro _ d3 ⟨dc,d4,d5,rfl,b9,ca,ad⟩;refine ⟨_,rfl,go ?_⟩;refine Vr (col:=dc) [a7.1] 5 ?_;intro d6 d7 d8 a8 dd;obtain ⟨de,hm⟩:=Z3 hm;replace bn:=(bn.kpp b9).gr a8;refine Vq bn (dd.srcN (NB.int (k:=.i64))) de ?_;intro cw cx d9 ea bo ae;refine go ?_;obtain ⟨aw,cb,hm⟩:=bZ hm;replace aa:=((aa.kpp b9).grow a8).kpp bo;refine lI cb ((h1.ks aa).addr cb) ?_;obtain ⟨_,df,dg⟩:=(h1.ks aa).atN cb;obtain ⟨⟨cy,cz,rfl,ac⟩,_⟩:=df;refine lW dg.one<|go ?_;replace b8:=((b8.kpp b9).gr a8).kpp bo;replace ca:=(ca.gr a8).kpp bo;replace ad:=(ad.gr a8).kpp bo;refine Z8 [1,45,46,6,9,1000000] (fun n f ak=>∃ al a9 ba bb ax cc cd bp bc,n=bc.length∧aw.drop a9=bc∧Qv N ai (Un N ag aj) a7 bc ax bp=some r∧St w0 (Zj col) al ak∧Sl (Za.int .i64) al ak cy cz aw∧Zc (Za.int .i64) 3 1 al ak ba bb ax∧Zc (Za.int .i64) 3 3 al ak cc cd bp∧Zk 244 2 al ak aq #[.slice cc bp.length cd]∧Zc (Za.int .i64) 3 4 al ak cw cx (ai++[a7.1])∧[47,5].map f=[.int .i64 a9,.slice ba ax.length bb]) aw.length ⟨_,0,_,_,_,_,_,_,_,rfl,rfl,hm,aa,ac,b8,ca,ad,ae,rfl⟩ ?_;clear hm;intro n f ak hI;obtain ⟨al,a9,ba,bb,ax,cc,cd,bp,bc,hn,hl,hm,aa,ac,bd,be,ad,ae,hs⟩:=hI;subst hn;refine .lL [47,5] hs ?_
    cases bc with
    | nil=>
     have hk:¬ ((a9:Int)<(aw.length:Int)):=by have:=List.drop_eq_nil_iff.1 hl;omega
     have hkb:=decide_eq_false hk;rw [Qv.eq_1] at hm;refine go ?_;refine X3 (congrArg Value.bool hkb)<|go ?_;exact ⟨aj,by omega,rfl,⟨_,_,_,_,_,_,_,_,_,_,_,rfl,hm,aa,bd,be,ad,ae,rfl⟩⟩
    | cons dh c0=>
     obtain ⟨am,di,dj⟩:=Yk hl;have hk:(a9:Int)<(aw.length:Int):=by omega
     have hkb:=decide_eq_true hk;rw [Qv.eq_2] at hm;refine go ?_;refine X4 (congrArg Value.bool hkb)<|X8<|Zw ?_;refine Wp.cutK [1,45,46,47,6,9,1000000] (fun f an=>∃ ao ce cf bq cg ch br,Ze1 (Qv N ai (Un N ag aj) a7 c0) bq br=some r∧St w0 (Zj col) ao an∧Sl (Za.int .i64) ao an cy cz aw∧Zc (Za.int .i64) 3 1 ao an ce cf bq∧Zc (Za.int .i64) 3 3 ao an cg ch br∧Zk 244 2 ao an aq #[.slice cg br.length ch]∧Zc (Za.int .i64) 3 4 ao an cw cx (ai++[a7.1])∧[5].map f=[.slice ce bq.length cf]) ?_ ?_
     ·intro f an hJ;obtain ⟨ao,ce,cf,bq,cg,ch,br,hm,aa,ac,dk,dl,ad,ae,hs⟩:=hJ;rw [Ze1.eq_1] at hm;refine .lL [5] hs<|go ?_;exact ⟨c0.length,by simp,rfl,⟨_,_,_,_,_,_,_,_,_,rfl,di,hm,aa,ac,dk,dl,ad,ae,(Yo (congrArg (Value.int .i64) (Yn (Nat.lt_of_lt_of_le dj ac.1.1))) rfl)⟩⟩
     refine go ?_;refine lI am (ac.addr am)<|lW (ac.atInt am) ?_;refine go ?_;obtain ⟨c2,ay,hm⟩:=bZ hm;refine lI ay (bd.addr ay)<|lW (bd.atInt ay) ?_;refine go ?_;refine lI ay (bd.addr ay) ?_;obtain ⟨ci,bs,hm⟩:=bZ hm;have bs:ci=ax.set (Int.toNat dh) (i64.wrap (c2 - 1)):=(Option.some.inj bs).symm;refine Wd (x1:=i64.wrap (c2 - 1)) bd ay ?_;intro eb bf dm ap;rw [← bs] at ap;refine .ld (d:=5) (v:=(.slice ba ci.length bb)) (congrArg (fun n=>Value.slice ba n bb) (show ax.length=ci.length by rw [bs,nS])) ?_;refine go ?_;obtain ⟨ec,cj,hm⟩:=bZ hm;refine lI cj (ap.addr cj)<|lW (ap.atInt cj) ?_;refine go ?_;replace ac:=ac.kp bf;replace be:=be.kp bf;replace ae:=ae.kp bf;replace ad:=ad.kp bf;replace aa:=aa.kp bf dm;refine Zr hm (fun hb hm=>go ?_) fun hb hm=>?_
     ·obtain ⟨ed,dn,hm⟩:=bZ hm;refine Zh (Zph 2 3 dn rfl be ad) ?_;rintro _ ee ⟨ef,eg,eh,rfl,bt,dp,dq⟩;refine ⟨_,rfl,?_⟩;refine Zm ?_;replace ac:=ac.kpp bt;replace ap:=ap.kpp bt;replace ae:=ae.kpp bt;replace aa:=aa.kpp bt;exact ⟨rfl,_,_,_,_,_,_,_,hm,aa,ac,ap,dp,dq,ae,rfl⟩
     refine X8 ?_;exact ⟨rfl,_,_,_,_,_,_,_,hm,aa,ac,ap,be,ad,ae,rfl⟩
   cases hm;exact ⟨rfl,_,_,_,rfl,aa.fin (cm [(4,c1)]),aa.fo bn⟩
 | cons c3 c4=>
  obtain ⟨am,dr,ds⟩:=Yk hl;have hk:(ah:Int)<(af.length:Int):=by omega
  have hkb:=decide_eq_true hk;rw [Qu.eq_2] at hm;refine go ?_;refine X4 (congrArg Value.bool hkb)<|X8<|Zw ?_;refine Wp.cutK [1,16,17,18,6,1000000] (fun f bg=>∃ bh ck cl bu cn co bv,Ze2 ah (Qu N ag c4) bu bv=some r∧St w0 (Zj col) bh bg∧Zc (Za.int .i64) 3 1 bh bg ck cl bu∧Zc (Za.int .i64) 3 3 bh bg cn co bv∧Zk 244 2 bh bg aq #[.slice cn bv.length co]∧[5].map f=[.slice ck bu.length cl]) ?_ ?_
  ·intro f bg hJ;obtain ⟨bh,ck,cl,bu,cn,co,bv,hm,aa,dt,du,ab,hs⟩:=hJ;rw [Ze2.eq_1] at hm;refine .lL [5] hs<|go ?_;exact ⟨c4.length,by simp,rfl,⟨_,_,_,_,_,_,_,_,_,rfl,dr,hm,aa,dt,du,ab,(Yo (congrArg (Value.int .i64) (Yn (Nat.lt_of_lt_of_le ds (h0.ks aa).1.1))) rfl)⟩⟩
  refine go ?_;refine lI am ((h0.ks aa).addr am) ?_;obtain ⟨_,dv,dw⟩:=(h0.ks aa).atN am;obtain ⟨⟨ei,ej,rfl,ek⟩,_⟩:=dv;refine lW dw.one<|go ?_;obtain ⟨el,cp,hm⟩:=bZ hm;refine lI cp (b1.addr cp) ?_;obtain ⟨cq,bw,hm⟩:=bZ hm;have bw:cq=ar.set (Int.toNat (ah:Int)) (c3.length:Int):=(Option.some.inj bw).symm;refine Wd (x1:=(c3.length:Int)) b1 cp ?_;intro em cr dx bi;rw [← bw] at bi;refine .ld (d:=5) (v:=(.slice a3 cq.length a4)) (congrArg (fun n=>Value.slice a3 n a4) (show ar.length=cq.length by rw [bw,nS])) ?_;refine go ?_;replace a6:=a6.kp cr;replace ab:=ab.kp cr;replace aa:=aa.kp cr dx;refine Zr hm (fun hb hm=>go ?_) fun hb hm=>?_
  ·obtain ⟨en,dy,hm⟩:=bZ hm;refine Zh (Zph 2 3 dy rfl a6 ab) ?_;rintro _ eo ⟨ep,eq,er,rfl,c5,dz,d0⟩;refine ⟨_,rfl,?_⟩;refine Zm ?_;replace bi:=bi.kpp c5;replace aa:=aa.kpp c5;exact ⟨rfl,_,_,_,_,_,_,_,hm,aa,bi,dz,d0,rfl⟩
  refine X8 ?_;exact ⟨rfl,_,_,_,_,_,_,_,hm,aa,bi,a6,ab,rfl⟩
def Zai (N:Nat) (aa:Rb):Option Rc:=
  (Zev aa).bind fun ab=>if (!decide (ab=0))=true then (some (([]:List Int),ab)) else ((Zeu aa).bind fun ad=>(Ze0 N aa ad).bind fun ac=>if (decide ((ac.length:Int)<(aa.length:Int)))=true then (some (([]:List Int),42)) else (some (ac,0)))
theorem Zws {N ad:Nat} {a0:Option Addr} {col:Zd} {w0:World} {ab:Rb} {r:Rc} (c1:Nat) (hm:Zai N ab=some r) (h0:Sl (Za.slice (Za.int .i64)) col w0 a0 ad ab):
    Calls prog 89 #[.slice a0 ab.length ad] w0 (fun e w'=>∃ (col':Zd) (ra1:Option Addr) (rc2:Nat),e= .returned (.tuple #[.slice ra1 r.1.length rc2,.int .i64 r.2])∧Zi col w0 col' w'∧Zc (Za.int .i64) 3 c1 col' w' ra1 rc2 r.1):=by
 refine Zep 2 3 (m:=21) (args:=[.slice a0 ab.length ad]) func89 rfl rfl rfl rfl rfl ?_;rw [Zai.eq_1] at hm;have aa:=St.start col w0;refine go ?_;obtain ⟨ap,ah,hm⟩:=bZ hm;replace h0:=h0.keep (Zl.start col w0);refine Zh (Zwu ah (h0.ks aa)) ?_;rintro _ ai ⟨rfl,ae⟩;refine ⟨_,rfl,?_⟩;replace ae:Zi (Zj col) w0 (Zj col) ai:=.of_below ae;refine go ?_;replace aa:=aa.grow ae;refine Zr hm (fun hb hm=>go ?_) fun hb hm=>go ?_
 ·cases hm;exact ⟨rfl,_,none,0,rfl,aa.fin (cm []),Zc.nil⟩
 obtain ⟨aq,aj,hm⟩:=bZ hm;refine Zh (Zwt 1 aj (h0.ks aa)) ?_;rintro _ ak ⟨af,ar,au,rfl,al,am⟩;refine ⟨_,rfl,?_⟩;obtain ⟨av,an,hm⟩:=bZ hm;replace aa:=aa.grow al;refine Zh (Zww 2 an ((h0.ks aa).froz 1) (am.toSlF (Zg.row (Zg.int .i64)))) ?_;rintro _ aw ⟨ao,ax,ay,rfl,ac,ag⟩;refine ⟨_,rfl,?_⟩;replace ag:=ag.thaw (Z0 .i64) ac ((Fz.refl (col:=af)).froz 1) (by decide);replace ac:=ac.thawR (col:=af);generalize Xc ak.heap.size af ao=az at *;refine go ?_;replace aa:=aa.grow ac;refine Zr hm (fun hb hm=>go ?_) fun hb hm=>go ?_
 ·cases hm;exact ⟨rfl,_,none,0,rfl,aa.fin (cm []),Zc.nil⟩
 cases hm;exact ⟨rfl,_,_,_,rfl,aa.fin (cm [(2,c1)]),aa.fo ag⟩
def S0 (N:Nat) (aa:Rb):Option Int:=
  (Zai N aa).bind fun ab=>some ab.2
theorem Zwr {N ad:Nat} {a0:Option Addr} {col:Zd} {w0:World} {ac:Rb} {r:Int} (hm:S0 N ac=some r) (h0:Sl (Za.slice (Za.int .i64)) col w0 a0 ad ac):
    Calls prog 175 #[.slice a0 ac.length ad] w0 (fun e w'=>e= .returned ((.int .i64 r))∧Below w0.heap.size w0 w'):=by
 refine Xk 2 (m:=11) func175 rfl rfl rfl rfl rfl ?_;rw [S0.eq_1] at hm;have aa:=St.start col w0;refine go ?_;obtain ⟨ab,ag,hm⟩:=bZ hm;replace h0:=h0.keep (Zl.start col w0);refine Zh (Zws 1 ag (h0.ks aa)) ?_;rintro _ ai ⟨aj,ae,af,rfl,ah,ak⟩;refine ⟨_,rfl,?_⟩;refine lM (.tuple #[.slice ae ab.1.length af,.int .i64 ab.2])<|lV (.slice ae ab.1.length af) (Xe rfl rfl)<|lV (.int .i64 ab.2) (Xe rfl rfl)<|go ?_;cases hm;replace aa:=aa.grow ah;exact ⟨rfl,rfl,aa.below⟩
def Zkq (aa:Int) (kk_L2:(Int→Option Bool)) (ab:Bool):Option Bool:=
  if ab=true then (some false) else (kk_L2 (i64.wrap (aa+1)))
def Zh1 (N:Nat) (aa:Rb) (ab:Int) (kk_L1:(Int→Option Bool)):Nat→Int→Option Bool
  | 0,_=>none
  | ad+1,ac=>(Zq aa ab).bind fun ae=>if (decide (ac<(ae.length:Int)))=true then ((Zq ae ac).bind fun af=>if (decide (af<0))=true then (Zkq ac (Zh1 N aa ab kk_L1 ad) true) else (Zkq ac (Zh1 N aa ab kk_L1 ad) (decide ((aa.length:Int)≤af)))) else (kk_L1 (i64.wrap (ab+1)))
termination_by structural x=>x
def Zh0 (N:Nat) (aa:Rb):Nat→Int→Option Bool
  | 0,_=>none
  | ac+1,ab=>if (decide (ab<(aa.length:Int)))=true then (Zh1 N aa ab (Zh0 N aa ac) N 0) else (some true)
termination_by structural x=>x
def Zkp (N:Nat) (aa:Rb):Option Bool:=
  Zh0 N aa N 0
def Zko (N:Nat) (aa:List Int) (ac:Int):Nat→Int→Option Bool
  | 0,_=>none
  | ad+1,ab=>if (decide (ab<(aa.length:Int)))=true then ((Zq aa ab).bind fun ae=>if (decide (ae=ac))=true then (some true) else ((Zko N aa ac ad) (i64.wrap (ab+1)))) else (some false)
termination_by structural x=>x
def Zhz (N:Nat) (aa:List Int) (ab:Int):Option Bool:=
  Zko N aa ab N 0
def Zku (N:Nat) (ad:Rb) (ac:Int) (kk_L1:(Int→Option Bool)):Nat→Int→Option Bool
  | 0,_=>none
  | ae+1,aa=>(Zq ad ac).bind fun ab=>if (decide (aa<(ab.length:Int)))=true then (Zz ((0:Int)≤aa∧aa≤(ab.length:Int)) ((Zq ab aa).bind fun af=>(Zhz N (ab.take (Int.toNat aa)) af).bind fun ag=>if ag=true then (some true) else ((Zku N ad ac kk_L1 ae) (i64.wrap (aa+1))))) else (kk_L1 (i64.wrap (ac+1)))
termination_by structural x=>x
def Zh3 (N:Nat) (aa:Rb):Nat→Int→Option Bool
  | 0,_=>none
  | ac+1,ab=>if (decide (ab<(aa.length:Int)))=true then (Zku N aa ab (Zh3 N aa ac) N 0) else (some false)
termination_by structural x=>x
def Zkt (N:Nat) (aa:Rb):Option Bool:=
  Zh3 N aa N 0
def Zkr (aa:Int) (kk_L2:(Int→Int→Option R2)) (ab:Int):Option R2:=
  kk_L2 ab (i64.wrap (aa+1))
def Zks (aa:Int) (kk_L3:(Bool→Int→Option R2)) (ab:Bool):Option R2:=
  kk_L3 ab (i64.wrap (aa+1))
def Zh2 (N:Nat) (ac:Rb) (ad:List Int) (ae:Int) (aa:Int) (kk_L2:(Int→Int→Option R2)):Nat→Bool→Int→Option R2
  | 0,_,_=>none
  | af+1,ag,ab=>(Zq ac aa).bind fun ah=>if (decide (ab<(ah.length:Int)))=true then (if ag=true then ((Zq ah ab).bind fun ai=>(Zhz N ad ai).bind fun aj=>Zks ab (Zh2 N ac ad ae aa kk_L2 af) aj) else (Zks ab (Zh2 N ac ad ae aa kk_L2 af) false)) else (if ag=true then (Zkr aa kk_L2 aa) else (Zkr aa kk_L2 ae))
termination_by structural x=>x
def Zgb (N:Nat) (ad:Rb) (aa:List Int) (kk_L1:(List Int→Option R2)) (ab:Int) (ac:Int) (kk_L2:(Int→Int→Option R2)) (ae:Bool):Option R2:=
  if ae=true then ((Zhz N aa ac).bind fun af=>Zh2 N ad aa ab ac kk_L2 N (!af) 0) else (if (decide (ab<0))=true then (some aa) else (Zz ((aa.length+[ab].length) * 8≤140737488355328∧aa.length+[ab].length≤maxLen) (kk_L1 (aa++[ab]))))
def Zdx (N:Nat) (aa:Rb) (ab:List Int) (kk_L1:(List Int→Option R2)):Nat→Int→Int→Option R2
  | 0,_,_=>none
  | ae+1,ac,ad=>if (decide (ad<(aa.length:Int)))=true then (Zgb N aa ab kk_L1 ac ad (Zdx N aa ab kk_L1 ae) (decide (ac<0))) else (Zgb N aa ab kk_L1 ac ad (Zdx N aa ab kk_L1 ae) false)
termination_by structural x=>x
def Zdw (N:Nat) (aa:Rb):Nat→R2→Option R2
  | 0,_=>none
  | ab+1,ac=>Zdx N aa ac (Zdw N aa ab) N (-1) 0
termination_by structural x=>x
def Za5 (N:Nat) (aa:Rb):Option R2:=
  Zdw N aa N ([]:List Int)
def Zga (N:Nat) (aa:Rb):Option Int:=
  (Zkp N aa).bind fun ab=>if (!ab)=true then (some 3) else ((Zkt N aa).bind fun ac=>if ac=true then (some 40) else ((Za5 N aa).bind fun ad=>if (decide ((ad.length:Int)<(aa.length:Int)))=true then (some 42) else (some 0)))
theorem Zo8 (N:Nat) (l:List Int) (x:Int) (hl:l.length≤1048576):∀ (n k:Nat),l.length<n+k→k≤l.length→Zko N l x n (k:Int)=some (decide (x ∈ l.drop k))
 | 0,k,h,hk=>by omega
 | n+1,k,h,hk=>by
  rw [Zko.eq_2]
  by_cases hlt:k<l.length
  ·rw [if_pos (by simpa using hlt),Xg hlt,oB,wS (by omega),Zo8 N l x hl n (k+1) (by omega) (by omega),List.drop_eq_getElem_cons hlt]
   by_cases he:l[k]=x
   ·rw [if_pos (by simpa using he),decide_eq_true (by rw [he];exact List.mem_cons_self)]
   ·rw [if_neg (by simpa using he)]
    exact congrArg some (decide_eq_decide.2 ⟨fun h=>List.mem_cons_of_mem _ h,fun h=>(List.mem_cons.1 h).resolve_left (Ne.symm he)⟩)
  ·rw [if_neg (by simpa using hlt),List.drop_eq_nil_of_le (by omega)];simp
theorem Zl2 {N:Nat} {l:List Int} {x:Int} (hl:l.length≤1048576) (hN:1048576<N):Zhz N l x=some (decide (x ∈ l)):=by
 rw [Zhz];simpa using Zo8 N l x hl N 0 (by omega) (by omega)
def V8 (m:Int) (P:List R2):Bool:=P.all fun l=>l.all fun p=>decide (0≤p∧p<m)
theorem Zrm (N:Nat) (P:List R2) (i:Nat) (hi:i<P.length) (hP:P.length≤1048576) (hl:P[i].length≤1048576) (kk:Int→Option Bool):∀ (n k:Nat),P[i].length<n+k→k≤P[i].length→
  Zh1 N P (i:Int) kk n (k:Int)=if (P[i].drop k).all (fun p=>decide (0≤p∧p<(P.length:Int))) then kk ((i+1:Nat):Int) else some false
 | 0,k,h,hk=>by omega
 | n+1,k,h,hk=>by
  rw [Zh1.eq_2,Xg hi,oB]
  by_cases hlt:k<P[i].length
  ·rw [if_pos (by simpa using hlt),Xg hlt,oB,Zkq,Zkq,wS (by omega),Zrm N P i hi hP hl kk n (k+1) (by omega) (by omega),List.drop_eq_getElem_cons hlt]
   by_cases h1:P[i][k]<0
   ·rw [if_pos (by simpa using h1),if_pos rfl,if_neg (fun h=>by rw [List.all_cons,Bool.and_eq_true,decide_eq_true_eq] at h;omega)]
   ·rw [if_neg (by simpa using h1)]
    by_cases h2:(P.length:Int)≤P[i][k]
    ·rw [if_pos (by simpa using h2),if_neg (fun h=>by rw [List.all_cons,Bool.and_eq_true,decide_eq_true_eq] at h;omega)]
    ·rw [if_neg (by simpa using h2)]
     simp only [List.all_cons,Bool.and_eq_true]
     have h3:decide (0≤P[i][k]∧P[i][k]<(P.length:Int))=true:=by simp;omega
     simp only [h3,true_and]
  ·rw [if_neg (by simpa using hlt),List.drop_eq_nil_of_le (by omega),wS (by omega)];simp
theorem Zrl (N:Nat) (P:List R2) (hP:P.length≤1048576) (hl:∀ l ∈ P,l.length≤1048576) (hN:1048576<N):∀ (n i:Nat),P.length<n+i→i≤P.length→
  Zh0 N P n (i:Int)=some (V8 P.length (P.drop i))
 | 0,i,h,hi=>by omega
 | n+1,i,h,hi=>by
  rw [Zh0.eq_2]
  by_cases hlt:i<P.length
  ·have h0:=Zrm N P i hlt hP (hl _ (List.getElem_mem hlt)) (Zh0 N P n) N 0 (by have:=hl _ (List.getElem_mem hlt);omega) (by omega)
   rw [if_pos (by simpa using hlt)]
   rw [show (0:Int)=((0:Nat):Int) from rfl,h0,Zrl N P hP hl hN n (i+1) (by omega) (by omega),List.drop_eq_getElem_cons hlt]
   simp only [V8,List.all_cons,List.drop_zero]
   by_cases h1:(P[i].all fun p=>decide (0≤p∧p<(P.length:Int)))=true
   ·rw [if_pos h1,h1,Bool.true_and]
   ·rw [if_neg h1,Bool.eq_false_iff.2 h1,Bool.false_and]
  ·rw [if_neg (by simpa using hlt),List.drop_eq_nil_of_le (by omega)];rfl
theorem Zz3 {N:Nat} {P:List R2} (hP:P.length≤1048576) (hl:∀ l ∈ P,l.length≤1048576) (hN:1048576<N):Zkp N P=some (V8 P.length P):=by
 rw [Zkp];simpa using Zrl N P hP hl hN N 0 (by omega) (by omega)
def Ux (P:List R2):Bool:=P.any fun l=>!decide l.Nodup
theorem Zsy (l:List Int) (k:Nat) (hk:k<l.length):(l.take (k+1)).Nodup↔(l.take k).Nodup∧l[k] ∉ l.take k:=by
 rw [List.take_succ_eq_append_getElem hk,List.nodup_append]
 simp only [List.nodup_cons,List.not_mem_nil,not_false_eq_true,List.nodup_nil,and_self,List.mem_singleton,true_and]
 constructor
 ·rintro ⟨h1,h2⟩;exact ⟨h1,fun h=>h2 _ h _ rfl rfl⟩
 ·rintro ⟨h1,h2⟩;exact ⟨h1,fun a ha b hb e=>h2 (by rw [← hb,← e];exact ha)⟩
theorem Zv7 (N:Nat) (P:List R2) (i:Nat) (hi:i<P.length) (hP:P.length≤1048576) (hl:P[i].length≤1048576) (hN:1048576<N) (kk:Int→Option Bool):∀ (n k:Nat),P[i].length<n+k→k≤P[i].length→(P[i].take k).Nodup→
  Zku N P (i:Int) kk n (k:Int)=if P[i].Nodup then kk ((i+1:Nat):Int) else some true
 | 0,k,h,hk,_=>by omega
 | n+1,k,h,hk,hnd=>by
  rw [Zku.eq_2,Xg hi,oB]
  by_cases hlt:k<P[i].length
  ·rw [if_pos (by simpa using hlt),Z7 (by omega),Xg hlt,oB,Zl2 (by simp;omega) hN,oB,Int.toNat_natCast]
   by_cases h1:P[i][k] ∈ P[i].take k
   ·rw [if_pos (by simpa using h1),if_neg]
    intro h2
    exact ((Zsy _ k hlt).1 (h2.sublist (List.take_sublist _ _))).2 h1
   ·rw [if_neg (by simpa using h1),wS (by omega)]
    exact Zv7 N P i hi hP hl hN kk n (k+1) (by omega) (by omega) ((Zsy _ k hlt).2 ⟨hnd,h1⟩)
  ·rw [if_neg (by simpa using hlt),wS (by omega)]
   rw [List.take_of_length_le (by omega)] at hnd
   rw [if_pos hnd]
theorem Zv6 (N:Nat) (P:List R2) (hP:P.length≤1048576) (hl:∀ l ∈ P,l.length≤1048576) (hN:1048576<N):∀ (n i:Nat),P.length<n+i→i≤P.length→
  Zh3 N P n (i:Int)=some (Ux (P.drop i))
 | 0,i,h,hi=>by omega
 | n+1,i,h,hi=>by
  rw [Zh3.eq_2]
  by_cases hlt:i<P.length
  ·have h0:=Zv7 N P i hlt hP (hl _ (List.getElem_mem hlt)) hN (Zh3 N P n) N 0 (by have:=hl _ (List.getElem_mem hlt);omega) (by omega) (by simp)
   rw [if_pos (by simpa using hlt)]
   rw [show (0:Int)=((0:Nat):Int) from rfl,h0,Zv6 N P hP hl hN n (i+1) (by omega) (by omega),List.drop_eq_getElem_cons hlt]
   simp only [Ux,List.any_cons]
   by_cases h1:P[i].Nodup
   ·rw [if_pos h1];simp [h1]
   ·rw [if_neg h1];simp [h1]
  ·rw [if_neg (by simpa using hlt),List.drop_eq_nil_of_le (by omega)];rfl
theorem Z21 {N:Nat} {P:List R2} (hP:P.length≤1048576) (hl:∀ l ∈ P,l.length≤1048576) (hN:1048576<N):Zkt N P=some (Ux P):=by
 rw [Zkt];simpa using Zv6 N P hP hl hN N 0 (by omega) (by omega)
def Uw (P:List R2):Nat:=(P.map List.length).sum
theorem Ziz (l:List Int) (P:List R2):Uw (l :: P)=l.length+Uw P:=by simp [Uw]
theorem Zlv {l:List Int}:∀ {P:List R2},l ∈ P→l.length≤Uw P
 | x :: P,h=>by
  rw [Ziz]
  rcases List.mem_cons.1 h with rfl | h
  ·omega
  ·have:=Zlv h;omega
def Zm1:Nat→List R2→List R3
 | _,[]=>[]
 | k,l :: P=>l.map (fun p=>(p,(k:Int)))++Zm1 (k+1) P
theorem Zy2:∀ (k:Nat) (P:List R2),(Zm1 k P).length=Uw P
 | _,[]=>rfl
 | k,l :: P=>by rw [Zm1,nA,List.length_map,Zy2,Ziz]
def U4 (P:List R2) (l:List Int) (i:Nat):Bool:=!decide ((i:Int) ∈ l)&&(P.getD i []).all fun p=>decide (p ∈ l)
def Vb (P:List R2) (l:List Int) (i:Nat):Option Nat:=(List.range' i (P.length - i)).find? (U4 P l)
theorem Z02 (P:List R2) (l:List Int) (i:Nat) (h:P.length≤i):Vb P l i=none:=by
 rw [Vb,Nat.sub_eq_zero_of_le h];rfl
theorem Z04 (P:List R2) (l:List Int) (i:Nat) (h:i<P.length):Vb P l i=if U4 P l i then some i else Vb P l (i+1):=by
 rw [Vb,Vb,show P.length - i=(P.length - (i+1))+1 by omega,List.range'_succ,List.find?_cons]
 cases U4 P l i <;> simp
section
variable (N:Nat) (P:List R2) (l:List Int)
theorem Zny (hP:P.length≤1048576) (hl:l.length≤1048576) (hN:1048576<N) (next:Int) (i:Nat) (hi:i<P.length) (hli:P[i].length≤1048576) (kk:Int→Int→Option R2):∀ (n:Nat) (b:Bool) (k:Nat),P[i].length<n+k→k≤P[i].length→
  Zh2 N P l next (i:Int) kk n b (k:Int)=kk (if (b&&(P[i].drop k).all fun p=>decide (p ∈ l))=true then (i:Int) else next) ((i+1:Nat):Int)
 | 0,b,k,h,hk=>by omega
 | n+1,b,k,h,hk=>by
  rw [Zh2.eq_2,Xg hi,oB]
  by_cases hlt:k<P[i].length
  ·rw [if_pos (by simpa using hlt),Xg hlt,oB,Zl2 hl hN,oB,Zks,Zks,wS (by omega),Zny hP hl hN next i hi hli kk n _ (k+1) (by omega) (by omega),Zny hP hl hN next i hi hli kk n _ (k+1) (by omega) (by omega),List.drop_eq_getElem_cons hlt,List.all_cons]
   cases b
   ·rw [if_neg (by decide),Bool.false_and,Bool.false_and]
   ·rw [if_pos rfl,Bool.true_and]
  ·rw [if_neg (by simpa using hlt),List.drop_eq_nil_of_le (by omega),Zkr,Zkr,wS (by omega),List.all_nil,Bool.and_true]
   cases b
   ·rw [if_neg (by decide),if_neg (by decide)]
   ·rw [if_pos rfl,if_pos rfl]
def Ztw (kk:List Int→Option R2):Option Nat→Option R2
 | none=>some l
 | some i=>kk (l++[(i:Int)])
theorem Zs5 (hl:l.length<1048576) (kk:List Int→Option R2) (i:Nat) (i':Int) (kk2:Int→Int→Option R2):Zgb N P l kk (i:Int) i' kk2 false=kk (l++[(i:Int)]):=by
 rw [Zgb,if_neg (by decide),if_neg (by rw [decide_eq_true_eq];omega),Z7 (by simp only [nC,nN,maxLen];omega)]
theorem Zs4 (hP:P.length≤1048576) (hls:∀ x ∈ P,x.length≤1048576) (hl:l.length<1048576) (hN:1048576<N) (kk:List Int→Option R2):∀ (n i:Nat),P.length<n+i→i≤P.length→
  Zdx N P l kk n (-1) (i:Int)=Ztw l kk (Vb P l i)
 | 0,i,h,hi=>by omega
 | n+1,i,h,hi=>by
  rw [Zdx.eq_2]
  by_cases hlt:i<P.length
  ·have h3:=Zny N P l hP (by omega) hN (-1) i hlt (hls _ (List.getElem_mem hlt)) (Zdx N P l kk n) N (!decide ((i:Int) ∈ l)) 0 (by have:=hls _ (List.getElem_mem hlt);omega) (by omega)
   rw [if_pos (by simpa using hlt),Zgb,if_pos (by decide),Zl2 (by omega) hN,oB]
   rw [show (0:Int)=((0:Nat):Int) from rfl,h3,Z04 P l i hlt,List.drop_zero]
   have hb:(!decide ((i:Int) ∈ l)&&P[i].all fun p=>decide (p ∈ l))=U4 P l i:=by
    rw [U4,List.getD_eq_getElem?_getD,List.getElem?_eq_getElem hlt];rfl
   rw [hb]
   by_cases hr:U4 P l i=true
   ·rw [if_pos hr,if_pos hr]
    match n,h with
    | 0,h=>omega
    | n+1,h=>
     rw [Zdx.eq_2]
     by_cases h2:i+1<P.length
     ·rw [if_pos (dT (by omega)),show decide ((i:Int)<0)=false from decide_eq_false (by omega)]
      exact Zs5 N P l hl kk i _ _
     ·rw [if_neg (by rw [decide_eq_true_eq];omega)]
      exact Zs5 N P l hl kk i _ _
   ·rw [if_neg hr,if_neg hr]
    exact Zs4 hP hls hl hN kk n (i+1) (by omega) (by omega)
  ·rw [if_neg (by simpa using hlt),Z02 P l i (by omega),Zgb,if_neg (by decide),if_pos (by decide)];rfl
end
theorem Zs6 {N:Nat} {P:List R2} {l:List Int} (hP:P.length≤1048576) (hls:∀ x ∈ P,x.length≤1048576) (hl:l.length<1048576) (hN:1048576<N) (n:Nat):
  Zdw N P (n+1) l=Ztw l (Zdw N P n) (Vb P l 0):=by
 rw [Zdw.eq_2]
 exact Zs4 N P l hP hls hl hN _ N 0 (by omega) (by omega)
theorem Zsw {P:List R2} {l:List Int} {i j:Nat} (h:Vb P l i=some j):i≤j∧j<P.length∧U4 P l j=true∧∀ k,i≤k→k<j→U4 P l k=false:=by
 rw [Vb,List.find?_range'_eq_some] at h
 obtain ⟨h1,h2,h3⟩:=h
 rw [List.mem_range'] at h2
 obtain ⟨q,h4,h5⟩:=h2
 refine ⟨by omega,by omega,h1,fun k hk1 hk2=>?_⟩
 have:=h3 k hk1 hk2
 simpa using this
theorem Z03 {P:List R2} {l:List Int} {i:Nat} (h:Vb P l i=none):∀ k,i≤k→k<P.length→U4 P l k=false:=by
 rw [Vb,List.find?_eq_none] at h
 intro k hk1 hk2
 have:=h k (by rw [List.mem_range'];exact ⟨k - i,by omega,by omega⟩)
 simpa using this
theorem Z2e {P:List R2} {l:List Int} {i:Nat} (hi:i<P.length):U4 P l i=true↔(i:Int) ∉ l∧∀ p ∈ P[i],p ∈ l:=by
 rw [U4,List.getD_eq_getElem?_getD,List.getElem?_eq_getElem hi]
 simp
def U9 (P:List R2) (l:List Int):Prop:=l.Nodup∧(∀ x ∈ l,0≤x∧x<(P.length:Int))∧∀ (i:Nat) (hi:i<P.length),(i:Int) ∈ l→∀ p ∈ P[i],p ∈ l
theorem U9.len {P:List R2} {l:List Int} (h:U9 P l):l.length≤P.length:=by
 have h1:=Zim (r:=(List.range P.length).map fun i:Nat=>(i:Int)) h.1 fun x hx=>by
  have:=h.2.1 x hx
  exact List.mem_map.2 ⟨x.toNat,List.mem_range.2 (by omega),by omega⟩
 simpa using h1
theorem U9.step {P:List R2} {l:List Int} {j:Nat} (h:U9 P l) (hn:Vb P l 0=some j):U9 P (l++[(j:Int)])∧l.length<P.length:=by
 obtain ⟨_,h2,h3,_⟩:=Zsw hn
 obtain ⟨h4,h5⟩:=(Z2e h2).1 h3
 have h6:U9 P (l++[(j:Int)]):=by
  refine ⟨?_,?_,?_⟩
  ·rw [List.nodup_append]
   refine ⟨h.1,by simp,fun a ha b hb e=>?_⟩
   rw [List.mem_singleton] at hb;subst hb;subst e;exact h4 ha
  ·intro x hx
   rcases List.mem_append.1 hx with hx | hx
   ·exact h.2.1 x hx
   ·rw [List.mem_singleton] at hx;omega
  ·intro i hi hm p hp
   rcases List.mem_append.1 hm with hm | hm
   ·exact List.mem_append_left _ (h.2.2 i hi hm p hp)
   ·rw [List.mem_singleton] at hm
    have:i=j:=by omega
    subst this
    exact List.mem_append_left _ (h5 p hp)
 exact ⟨h6,by have:=h6.len;rw [nA,nC,nN] at this;omega⟩
theorem Zs7 {N:Nat} {P:List R2} (hP:P.length<1048576) (hls:∀ x ∈ P,x.length≤1048576) (hN:1048576<N):∀ (n:Nat) (l:List Int),U9 P l→P.length<n+l.length→
  ∃ r,Zdw N P n l=some r∧U9 P r∧Vb P r 0=none
 | 0,l,h,hn=>by have:=h.len;omega
 | n+1,l,h,hn=>by
  have hl:=h.len
  rw [Zs6 (by omega) hls (by omega) hN]
  cases hnx:Vb P l 0 with
  | none=>exact ⟨l,rfl,h,hnx⟩
  | some j=>
   obtain ⟨h1,h2⟩:=h.step hnx
   exact Zs7 hP hls hN n _ h1 (by simp;omega)
theorem Z1c {N:Nat} {P:List R2} (hP:P.length<1048576) (hls:∀ x ∈ P,x.length≤1048576) (hN:1048576<N):∃ r,Za5 N P=some r∧U9 P r∧Vb P r 0=none:=by
 rw [Za5]
 exact Zs7 hP hls hN N [] ⟨.nil,by simp,by simp⟩ (by simp;omega)
def gD (h:List Int) (j:Nat):Int:=h.getD j 0
theorem Sw {h:List Int} {j:Nat} (hj:j<h.length):gD h j=h[j]:=by rw [gD,List.getD_eq_getElem?_getD,List.getElem?_eq_getElem hj];rfl
theorem Ql {h:List Int} {j:Nat} (hj:j<h.length):Zq h (j:Int)=some (gD h j):=by rw [Xg hj,Sw hj]
def U6 (h:List Int) (i p:Nat):List Int:=(h.set i (gD h p)).set p (gD h i)
theorem Zix (h:List Int) (i p:Nat):(U6 h i p).length=h.length:=by simp [U6]
theorem Zvx {h:List Int} {i p:Nat} (hi:i<h.length) (hp:p<h.length):(U6 h i p).Perm h:=by
 rw [U6,Sw hi,Sw hp];exact List.set_set_perm hi hp
theorem Zj0 (h:List Int) (i j:Nat) (x:Int) (hi:i<h.length):gD (h.set i x) j=if j=i then x else gD h j:=by
 rw [gD,gD,List.getD_eq_getElem?_getD,List.getD_eq_getElem?_getD,List.getElem?_set]
 by_cases h1:i=j
 ·subst h1;rw [if_pos rfl,if_pos hi,if_pos rfl];rfl
 ·rw [if_neg h1,if_neg (Ne.symm h1)]
theorem Zbk {h:List Int} {i p:Nat} (hi:i<h.length) (hp:p<h.length) (j:Nat):gD (U6 h i p) j=if j=p then gD h i else if j=i then gD h p else gD h j:=by
 rw [U6,Zj0 _ _ _ _ (by simpa using hp),Zj0 _ _ _ _ hi]
def Ts (h:List Int) (n:Nat):Prop:=∀ j,0<j→j<n→gD h ((j - 1) / 2)≤gD h j
theorem Ts.min {h:List Int} {n:Nat} (hh:Ts h n):∀ j,j<n→gD h 0≤gD h j:=by
 intro j
 induction j using Nat.strongRecOn with
 | ind j ih=>
  intro hj
  by_cases h0:j=0
  ·subst h0;exact Int.le_refl _
  ·exact Int.le_trans (ih ((j - 1) / 2) (by omega) (by omega)) (hh j (by omega) hj)
/-! ### push -/
def Zi9 (h:List Int) (i:Nat):Prop:=(∀ j,0<j→j<h.length→j≠i→gD h ((j - 1) / 2)≤gD h j)∧∀ j,0<j→j<h.length→(j - 1) / 2=i→0<i→gD h ((i - 1) / 2)≤gD h j
theorem Zi9.step {h:List Int} {i:Nat} (hu:Zi9 h i) (hi:i<h.length) (h0:0<i) (hlt:gD h i<gD h ((i - 1) / 2)):Zi9 (U6 h i ((i - 1) / 2)) ((i - 1) / 2):=by
 have hp:(i - 1) / 2<h.length:=by omega
 refine ⟨fun j hj0 hj hjp=>?_,fun j hj0 hj hjp hp0=>?_⟩
 ·rw [Zix] at hj
  rw [Zbk hi hp,Zbk hi hp,if_neg hjp]
  by_cases hji:j=i
  ·subst hji;rw [if_pos rfl,if_pos rfl];omega
  ·rw [if_neg hji]
   have h1:=hu.1 j hj0 hj hji
   by_cases hq:(j - 1) / 2=(i - 1) / 2
   ·rw [if_pos hq];rw [hq] at h1;omega
   ·rw [if_neg hq]
    by_cases hq2:(j - 1) / 2=i
    ·rw [if_pos hq2];exact hu.2 j hj0 hj hq2 h0
    ·rw [if_neg hq2];exact h1
 ·rw [Zix] at hj
  rw [Zbk hi hp,Zbk hi hp,if_neg (by omega),if_neg (by omega),if_neg (by omega)]
  have h1:=hu.1 ((i - 1) / 2) hp0 hp (by omega)
  by_cases hji:j=i
  ·rw [if_pos hji];exact h1
  ·rw [if_neg hji]
   have h2:=hu.1 j hj0 hj hji
   rw [hjp] at h2;omega
theorem Zte {i:Nat} (h0:0<i) (h1:i≤9000000):i64.wrap (Int.tdiv (i64.wrap ((i:Int) - 1)) 2)=(((i - 1) / 2:Nat):Int):=by
 rw [Z2 (x:=(i:Int) - 1) (by omega),Int.tdiv_eq_ediv_of_nonneg (by omega),Z2 (by omega)];omega
theorem Ztu (N:Nat):∀ (n:Nat) (h:List Int) (i:Nat),i<n→i<h.length→h.length≤9000000→Zi9 h i→
  ∃ h',Zaj N n h (i:Int)=some h'∧h'.Perm h∧Ts h' h'.length
 | 0,h,i,hn,_,_,_=>by omega
 | n+1,h,i,hn,hi,hl,hu=>by
  rw [Zaj.eq_2]
  by_cases h0:0<i
  ·have hp:(i - 1) / 2<h.length:=by omega
   rw [if_pos (dT (by omega)),Ql hi,oB,Zte h0 (by omega),Ql hp,oB,Zez,Zte h0 (by omega)]
   by_cases hlt:gD h i<gD h ((i - 1) / 2)
   ·obtain ⟨h',h1,h2,h3⟩:=Ztu N n (U6 h i ((i - 1) / 2)) ((i - 1) / 2) (by omega) (by rw [Zix];exact hp) (by rw [Zix];exact hl) (hu.step hi h0 hlt)
    refine ⟨h',?_,h2.trans (Zvx hi hp),h3⟩
    rw [if_pos (dT hlt),Ql hp,oB,Ql hi,oB,oB,Int.toNat_natCast,Int.toNat_natCast,Xg (by simpa using hp),oB,oB]
    exact h1
   ·refine ⟨h,by rw [if_neg (by simpa using hlt)],.refl _,fun j hj0 hj=>?_⟩
    by_cases hji:j=i
    ·subst hji;omega
    ·exact hu.1 j hj0 hj hji
  ·have:i=0:=by omega
   subst this
   rw [if_neg (by decide),Zez,if_neg (by decide)]
   exact ⟨h,rfl,.refl _,fun j hj0 hj=>hu.1 j hj0 hj (by omega)⟩
theorem Zrc {h:List Int} {x:Int} {j:Nat} (hj:j<h.length):gD (h++[x]) j=gD h j:=by
 rw [Sw hj,Sw (by simp;omega),List.getElem_append_left hj]
theorem Ztv {N:Nat} {h:List Int} (x:Int) (hl:h.length<2000000) (hh:Ts h h.length) (hN:2000000<N):∃ h',Zey N h x=some h'∧h'.Perm (x :: h)∧Ts h' h'.length:=by
 rw [Zey,Z7 (by simp only [nC,nN,maxLen];omega)]
 have hle:(h++[x]).length=h.length+1:=by simp
 rw [Z2 (by omega),show (((h++[x]).length:Int) - 1)=((h.length:Nat):Int) by omega]
 obtain ⟨h',h1,h2,h3⟩:=Ztu N N (h++[x]) h.length (by omega) (by omega) (by omega) ⟨fun j hj0 hj hji=>by rw [Zrc (by omega),Zrc (by omega)];exact hh j hj0 (by omega),fun j hj0 hj hji h0=>by omega⟩
 exact ⟨h',h1,h2.trans (List.perm_append_singleton x h),h3⟩
/-! ### pop -/
def Zgs (l:List Int) (n i:Nat):Prop:=(∀ j,0<j→j<n→(j - 1) / 2≠i→gD l ((j - 1) / 2)≤gD l j)∧∀ j,0<j→j<n→(j - 1) / 2=i→0<i→gD l ((i - 1) / 2)≤gD l j
theorem Zgs.step {l:List Int} {n i q:Nat} (hu:Zgs l n i) (hn:n≤l.length) (hi:i<n) (hq:q<n) (hqi:(q - 1) / 2=i) (hq0:0<q) (hlt:gD l q<gD l i) (hle:∀ j,0<j→j<n→(j - 1) / 2=i→gD l q≤gD l j):Zgs (U6 l i q) n q:=by
 have hi':i<l.length:=by omega
 have hq':q<l.length:=by omega
 refine ⟨fun j hj0 hj hjp=>?_,fun j hj0 hj hjp _=>?_⟩
 ·rw [Zbk hi' hq',Zbk hi' hq',if_neg hjp]
  by_cases h1:(j - 1) / 2=i
  ·rw [if_pos h1]
   by_cases h2:j=q
   ·rw [if_pos h2];omega
   ·rw [if_neg h2,if_neg (by omega)];exact hle j hj0 hj h1
  ·rw [if_neg h1,if_neg (show j≠q by omega)]
   by_cases h2:j=i
   ·subst h2
    rw [if_pos rfl];exact hu.2 q hq0 hq hqi hj0
   ·rw [if_neg h2];exact hu.1 j hj0 hj h1
 ·rw [Zbk hi' hq',Zbk hi' hq',hqi,if_neg (by omega),if_pos rfl,if_neg (by omega),if_neg (by omega)]
  have:=hu.1 j hj0 hj (by omega)
  rwa [hjp] at this
theorem Z2y {l:List Int} {n i q:Nat} (hn:n≤l.length) (hi:i<n) (hq:q<n):(U6 l i q).take n=U6 (l.take n) i q:=by
 have h1:∀ j,j<n→gD (l.take n) j=gD l j:=fun j hj=>by rw [Sw (by simp;omega),Sw (by omega),List.getElem_take]
 rw [U6,U6,List.take_set,List.take_set,h1 i hi,h1 q hq]
theorem Ztl (N:Nat) (p0:List Int) (x0:Int) (n:Nat) (hp0:p0.length=n+1) (hn:n≤2000000) (hN:2000000<N):∀ (m:Nat) (l:List Int) (i:Nat),n<m+i→(i<n∨n=0∧i=0)→l.length=n+1→Zgs l n i→
  ∃ t,T6 N p0 x0 m l (i:Int)=some (x0,t)∧t.Perm (l.take n)∧Ts t n
 | 0,l,i,hm,hi,hl,hu=>by omega
 | m+1,l,i,hm,hi,hl,hu=>by
  rw [T6.eq_2]
  obtain ⟨N,rfl⟩:∃ N',N=N'+1+1+1:=⟨N - 3,by omega⟩
  have w1:i64.wrap ((p0.length:Int) - 1)=(n:Int):=by rw [Z2 (by omega)];omega
  have wa:i64.wrap (i64.wrap (2 * (i:Int))+1)=((2 * i+1:Nat):Int):=by rw [Z2 (x:=2 * (i:Int)) (by omega),Z2 (by omega)];omega
  have wb:i64.wrap (i64.wrap (2 * (i:Int))+2)=((2 * i+2:Nat):Int):=by rw [Z2 (x:=2 * (i:Int)) (by omega),Z2 (by omega)];omega
  -- one child after the other
  have stepv:∀ (v:Nat) (k least:Nat),v<2→k=2 * i+1+v→(least<n∨n=0)→least<l.length→∀ f kk,T7 (N+1+1+1) p0 x0 l (i:Int) kk (f+1) (v:Int) (least:Int)=
    T7 (N+1+1+1) p0 x0 l (i:Int) kk f ((v+1:Nat):Int) ((if k<n∧gD l k<gD l least then k else least:Nat):Int):=by
   intro v k least hv hk hle hll f kk
   rw [T7.eq_2,if_pos (dT (by omega)),wa,wb,w1]
   have hat:Zq [((2 * i+1:Nat):Int),((2 * i+2:Nat):Int)] (v:Int)=some (k:Int):=by
    rw [Zed]
    match v,hv with
    | 0,_=>simp [hk]
    | 1,_=>simp [hk];omega
   rw [hat,oB]
   by_cases h1:k<n
   ·rw [if_pos (dT (by omega)),Ql (by omega),oB,Ql hll,oB,Zex,Zbo,Zbo,wS (by omega)]
    by_cases h2:gD l k<gD l least
    ·rw [if_pos (dT h2),if_pos ⟨h1,h2⟩]
    ·rw [if_neg (by simpa using h2),if_neg (fun h=>h2 h.2)]
   ·rw [if_neg (by rw [decide_eq_true_eq];omega),Zex,Zbo,Zbo,if_neg (by decide),wS (by omega),if_neg (fun h=>h1 h.1)]
  have hil:i<l.length:=by omega
  have e1:=stepv 0 (2 * i+1) i (by omega) (by omega) (by omega) hil (N+1+1) (T6 (N+1+1+1) p0 x0 m)
  generalize hq1:(if 2 * i+1<n∧gD l (2 * i+1)<gD l i then 2 * i+1 else i)=q1 at e1
  have hq1':(q1=i∧(2 * i+1<n→gD l i≤gD l (2 * i+1)))∨(q1=2 * i+1∧q1<n∧gD l q1<gD l i):=by
   by_cases hc:2 * i+1<n∧gD l (2 * i+1)<gD l i
   ·rw [if_pos hc] at hq1;subst hq1;exact .inr ⟨rfl,hc.1,hc.2⟩
   ·rw [if_neg hc] at hq1;subst hq1;exact .inl ⟨rfl,fun h=>by omega⟩
  have e2:=stepv 1 (2 * i+2) q1 (by omega) (by omega) (by omega) (by omega) (N+1) (T6 (N+1+1+1) p0 x0 m)
  generalize hq2:(if 2 * i+2<n∧gD l (2 * i+2)<gD l q1 then 2 * i+2 else q1)=q2 at e2
  have hq2':(q2=i∧(2 * i+1<n→gD l i≤gD l (2 * i+1))∧(2 * i+2<n→gD l i≤gD l (2 * i+2)))∨((q2=2 * i+1∨q2=2 * i+2)∧q2<n∧gD l q2<gD l i∧(2 * i+1<n→gD l q2≤gD l (2 * i+1))∧(2 * i+2<n→gD l q2≤gD l (2 * i+2))):=by
   by_cases hc:2 * i+2<n∧gD l (2 * i+2)<gD l q1
   ·rw [if_pos hc] at hq2;subst hq2
    rcases hq1' with ⟨rfl,h3⟩ | ⟨rfl,h3,h4⟩
    ·exact .inr ⟨.inr rfl,hc.1,hc.2,fun h=>by have:=h3 h;omega,fun _=>Int.le_refl _⟩
    ·exact .inr ⟨.inr rfl,hc.1,by omega,fun _=>by omega,fun _=>Int.le_refl _⟩
   ·rw [if_neg hc] at hq2;subst hq2
    rcases hq1' with ⟨rfl,h3⟩ | ⟨rfl,h3,h4⟩
    ·exact .inl ⟨rfl,h3,fun h=>by omega⟩
    ·exact .inr ⟨.inl rfl,h3,h4,fun _=>Int.le_refl _,fun h=>by omega⟩
  rw [show (0:Int)=((0:Nat):Int) from rfl,e1]
  rw [show ((0+1:Nat):Int)=((1:Nat):Int) from rfl,e2,T7.eq_2,if_neg (by decide),w1,Int.toNat_natCast]
  rcases hq2' with ⟨rfl,h3,h4⟩ | ⟨h2,h3,h4,h5,h6⟩
  ·rw [if_pos (by simp)]
   refine ⟨_,rfl,.refl _,fun j hj0 hj=>?_⟩
   have ht:∀ k,k<n→gD (l.take n) k=gD l k:=fun k hk=>by rw [Sw (by simp;omega),Sw (by omega),List.getElem_take]
   rw [ht _ (by omega),ht _ hj]
   by_cases hq:(j - 1) / 2=q2
   ·rw [hq]
    rcases (show j=2 * q2+1∨j=2 * q2+2 by omega) with rfl | rfl
    ·exact h3 hj
    ·exact h4 hj
   ·exact hu.1 j hj0 hj hq
  ·have hq2l:q2<l.length:=by omega
   have hin:i<n:=by omega
   have hd:=hu.step (by omega) hin h3 (by omega) (by omega) h4 (fun j hj0 hj hji=>by
    rcases (show j=2 * i+1∨j=2 * i+2 by omega) with rfl | rfl
    ·exact h5 hj
    ·exact h6 hj)
   obtain ⟨t,k1,k2,k3⟩:=Ztl (N+1+1+1) p0 x0 n hp0 hn hN m (U6 l i q2) q2 (by omega) (.inl h3) (by rw [Zix];exact hl) hd
   refine ⟨t,?_,k2.trans ?_,k3⟩
   ·rw [if_neg (by simp;omega),Ql hq2l,oB,Ql hil,oB,oB,Int.toNat_natCast,Int.toNat_natCast,Xg (by simpa using hq2l),oB,oB]
    exact k1
   ·rw [Z2y (by omega) hin h3];exact Zvx (by simp;omega) (by simp;omega)
theorem Z1e {N:Nat} {h:List Int} (hl:h.length≤2000000) (h0:0<h.length) (hh:Ts h h.length) (hN:2000000<N):∃ x t,Zg6 N h=some (x,t)∧h.Perm (x :: t)∧(∀ y ∈ h,x≤y)∧Ts t t.length:=by
 rw [Zg6]
 obtain ⟨n,hn⟩:∃ n,h.length=n+1:=⟨h.length - 1,by omega⟩
 have w1:i64.wrap ((h.length:Int) - 1)=(n:Int):=by rw [Z2 (by omega)];omega
 rw [w1,show (0:Int)=((0:Nat):Int) from rfl,Ql h0,oB,Ql (by omega),oB,oB,Z7 (by simp;omega),Int.toNat_natCast]
 have hd:Zgs (h.set 0 (gD h n)) n 0:=by
  refine ⟨fun j hj0 hj hji=>?_,fun j _ _ _ h=>by omega⟩
  rw [Zj0 _ _ _ _ h0,Zj0 _ _ _ _ h0,if_neg (by omega),if_neg (by omega)]
  exact hh j hj0 (by omega)
 obtain ⟨t,h1,h2,h3⟩:=Ztl N h (gD h 0) n hn (by omega) hN N (h.set 0 (gD h n)) 0 (by omega) (by omega) (by simpa using hn) hd
 have hpm:h.Perm (gD h 0 :: (h.set 0 (gD h n)).take n):=by
  match h,hn with
  | x :: r,hn=>
   have hr:r.length=n:=by simpa using hn
   match n,hr with
   | 0,hr=>rw [List.length_eq_zero_iff.1 hr];exact .refl _
   | n+1,hr=>
    have e:gD (x :: r) (n+1)=gD r n:=rfl
    rw [e,List.set_cons_zero,List.take_succ_cons]
    refine List.Perm.cons x ?_
    have:r=r.take n++[gD r n]:=by
     have:=List.take_succ_eq_append_getElem (show n<r.length by omega)
     rw [List.take_of_length_le (by omega)] at this
     rw [Sw (by omega)];exact this
    conv=>lhs;rw [this]
    exact List.perm_append_singleton _ _
 have hp2:h.Perm (gD h 0 :: t):=hpm.trans (List.Perm.cons _ h2.symm)
 refine ⟨gD h 0,t,h1,hp2,fun y hy=>?_,?_⟩
 ·obtain ⟨j,hj,rfl⟩:=List.getElem_of_mem hy
  rw [← Sw hj];exact hh.min j hj
 ·have:=hp2.length_eq
  rw [nC,hn] at this
  rw [show t.length=n by omega];exact h3
theorem Yu {α:Type} {l:List α} {d:α} {j:Nat} (hj:j<l.length):l.getD j d=l[j]:=by rw [List.getD_eq_getElem?_getD,List.getElem?_eq_getElem hj];rfl
theorem Um {α:Type} {l:List α} (d:α) {j:Nat} (hj:j<l.length):Zq l (j:Int)=some (l.getD j d):=by rw [Xg hj,Yu hj]
theorem Sz {α:Type} (l:List α) (d:α) (i j:Nat) (x:α) (hi:i<l.length):(l.set i x).getD j d=if j=i then x else l.getD j d:=by
 rw [List.getD_eq_getElem?_getD,List.getD_eq_getElem?_getD,List.getElem?_set]
 by_cases h1:i=j
 ·subst h1;rw [if_pos rfl,if_pos hi,if_pos rfl];rfl
 ·rw [if_neg h1,if_neg (Ne.symm h1)]
def Vv:Nat→List R2→Int→List Int
 | _,[],_=>[]
 | k,l :: P,p=>List.replicate (l.count p) (k:Int)++Vv (k+1) P p
def Zi3 (n:Nat) (l:List Int):Prop:=∀ x ∈ l,0≤x∧x<(n:Int)
theorem Zp7 (k:Nat) (kk:Nat→List R2→Option Rb):∀ (l:List Int) (out:List R2),Zi3 out.length l→(∀ p:Nat,(out.getD p []).length+l.length≤1048576)→
  ∃ out',Zbm k kk l out=kk (k+1) out'∧out'.length=out.length∧∀ p:Nat,p<out.length→out'.getD p []=out.getD p []++List.replicate (l.count (p:Int)) (k:Int)
 | [],out,h,hb=>⟨out,by rw [Zbm.eq_1],rfl,fun p hp=>by simp⟩
 | x :: l,out,h,hb=>by
  obtain ⟨h0,h1⟩:=h x List.mem_cons_self
  obtain ⟨q,rfl⟩:=Int.eq_ofNat_of_zero_le h0
  have hq:q<out.length:=by omega
  have hbq:=hb q
  simp only [nC] at hbq hb
  rw [Zbm.eq_2,Um [] hq,oB,Z7 (by simp only [nC,nN,maxLen];omega),Int.toNat_natCast]
  obtain ⟨out',h2,h3,h4⟩:=Zp7 k kk l (out.set q (out.getD q []++[(k:Int)])) (by rw [nS];exact fun y hy=>h y (List.mem_cons_of_mem _ hy)) (fun p=>by
   rw [Sz _ _ _ _ _ hq]
   have:=hb p
   split
   ·simp only [nA,nC,nN];omega
   ·omega)
  refine ⟨out',h2,by rw [h3,nS],fun p hp=>?_⟩
  rw [h4 p (by rw [nS];exact hp),Sz _ _ _ _ _ hq,List.count_cons]
  by_cases hpq:p=q
  ·subst hpq
   rw [if_pos rfl,if_pos (by simp),List.append_assoc,show l.count (p:Int)+1=1+l.count (p:Int) by omega,show [(k:Int)]=List.replicate 1 (k:Int) from rfl,List.replicate_append_replicate]
  ·rw [if_neg hpq,if_neg (by simp;omega),Nat.add_zero]
theorem Zrq (p:Int):∀ (k:Nat) (P:List R2),(Vv k P p).length≤Uw P
 | _,[]=>by simp [Vv]
 | k,l :: P=>by
  rw [Vv,nA,List.length_replicate,Ziz]
  have:=Zrq p (k+1) P
  have:=List.count_le_length (a:=p) (l:=l)
  omega
theorem Zp6 (n:Nat):∀ (P:List R2) (k:Nat) (out:List R2),out.length=n→(∀ l ∈ P,Zi3 n l)→(∀ p:Nat,(out.getD p []).length+Uw P≤1048576)→
  ∃ out',Qq P k out=some out'∧out'.length=n∧∀ p:Nat,p<n→out'.getD p []=out.getD p []++Vv k P p
 | [],k,out,hn,_,_=>⟨out,by rw [Qq.eq_1],hn,fun p hp=>by simp [Vv]⟩
 | l :: P,k,out,hn,h,hb=>by
  simp only [Ziz] at hb
  rw [Qq.eq_2]
  obtain ⟨out1,h1,h2,h3⟩:=Zp7 k (Qq P) l out (by rw [hn];exact h l List.mem_cons_self) (fun p=>by have:=hb p;omega)
  obtain ⟨out',h4,h5,h6⟩:=Zp6 n P (k+1) out1 (by omega) (fun x hx=>h x (List.mem_cons_of_mem _ hx)) (fun p=>by
   have:=hb p
   by_cases hp:p<out.length
   ·rw [h3 p hp,nA,List.length_replicate]
    have:=List.count_le_length (a:=(p:Int)) (l:=l)
    omega
   ·rw [List.getD_eq_getElem?_getD,List.getElem?_eq_none (by omega)];simp;omega)
  refine ⟨out',by rw [h1,h4],h5,fun p hp=>?_⟩
  rw [h6 p hp,h3 p (by omega),List.append_assoc,Vv]
theorem Zyl {P:List R2} (hP:P.length≤1048576) (ht:Uw P≤1048576) (h:∀ l ∈ P,Zi3 P.length l):∃ D,Zeu P=some D∧D.length=P.length∧∀ p:Nat,p<P.length→D.getD p []=Vv 0 P p:=by
 rw [Zeu,Z7 (by simp only [maxLen];omega)]
 have hr:∀ p:Nat,(List.replicate P.length ([]:List Int)).getD p []=[]:=fun p=>by
  rw [List.getD_eq_getElem?_getD,List.getElem?_replicate];split <;> rfl
 obtain ⟨D,h1,h2,h3⟩:=Zp6 P.length P 0 (List.replicate P.length []) (by simp) h (fun p=>by rw [hr];simpa using ht)
 exact ⟨D,h1,h2,fun p hp=>by rw [h3 p hp,hr];rfl⟩
theorem Znd (p:Int):∀ (k:Nat) (P:List R2) (c:Nat),(Vv k P p).count (c:Int)=if k≤c then (P.getD (c - k) []).count p else 0
 | k,[],c=>by simp [Vv]
 | k,l :: P,c=>by
  rw [Vv,List.count_append,Znd p (k+1) P c,List.count_replicate]
  by_cases h1:k=c
  ·subst h1
   rw [if_pos (by simp),if_neg (by omega),if_pos (Nat.le_refl _),Nat.sub_self];rfl
  ·rw [if_neg (by simp;omega)]
   by_cases h2:k≤c
   ·rw [if_pos (by omega),if_pos h2,show c - k=(c - (k+1))+1 by omega];simp
   ·rw [if_neg (by omega),if_neg h2]
theorem Zrr (p:Int):∀ (k:Nat) (P:List R2) (x:Int),x ∈ Vv k P p→∃ c:Nat,x=(c:Int)∧k≤c∧c<k+P.length
 | k,[],x,h=>by simp [Vv] at h
 | k,l :: P,x,h=>by
  rw [Vv] at h
  rcases List.mem_append.1 h with h | h
  ·exact ⟨k,(List.mem_replicate.1 h).2,Nat.le_refl _,by simp⟩
  ·obtain ⟨c,h1,h2,h3⟩:=Zrr p (k+1) P x h
   exact ⟨c,h1,by omega,by rw [nC];omega⟩
def Tc (P:List R2) (out:List Int) (c:Nat):Nat:=(P.getD c []).countP fun q=>!decide (q ∈ out)
theorem Zqd (out:List Int) (p:Int) (hp:p ∉ out):∀ l:List Int,(l.countP fun q=>!decide (q ∈ out))=(l.countP fun q=>!decide (q ∈ out++[p]))+l.count p
 | []=>rfl
 | x :: l=>by
  rw [List.countP_cons,List.countP_cons,List.count_cons,Zqd out p hp l]
  by_cases h1:x=p
  ·subst h1
   have h2:(!decide (x ∈ out))=true:=by simp [hp]
   have h3:(!decide (x ∈ out++[x]))=false:=by simp
   rw [h2,h3];simp;omega
  ·have h3:(x ∈ out++[p])↔x ∈ out:=by simp [h1]
   rw [show (!decide (x ∈ out++[p]))=(!decide (x ∈ out)) from congrArg _ (decide_eq_decide.2 h3),if_neg (show ¬ ((x==p)=true) by simpa using h1)];omega
theorem Zqa {P:List R2} {out:List Int} {p:Int} (hp:p ∉ out) (c:Nat):Tc P out c=Tc P (out++[p]) c+(P.getD c []).count p:=Zqd out p hp _
theorem Zur (P:List R2) (out:List Int) (c:Nat):U4 P out c=true↔(c:Int) ∉ out∧Tc P out c=0:=by
 rw [U4,Tc,List.countP_eq_zero]
 simp
structure Zi4 (P:List R2) (out left ready:List Int):Prop where
 ok:U9 P out
 len:left.length=P.length
 cnt:∀ c:Nat,c<P.length→left.getD c 0=(Tc P out c:Int)
 heap:Ts ready ready.length
 nd:ready.Nodup
 mem:∀ y:Int,y ∈ ready↔∃ c:Nat,c<P.length∧y=(c:Int)∧(c:Int) ∉ out∧left.getD c 0=0
theorem Zov (N:Nat) (P:List R2) (hP:P.length≤1048576) (ht:Uw P≤1048576) (hN:2000000<N) (out:List Int) (p:Nat) (r2:List Int) (kk:List Int→List Int→List Int→Option R2):
  ∀ (rest left ready:List Int),rest.length≤9000000000000000000→left.length=P.length→(∀ c:Nat,c<P.length→left.getD c 0=((Tc P (out++[(p:Int)]) c+rest.count (c:Int):Nat):Int))→
   Ts ready ready.length→ready.Nodup→(∀ y:Int,y ∈ ready↔∃ c:Nat,c<P.length∧y=(c:Int)∧(c:Int) ∉ out++[(p:Int)]∧left.getD c 0=0)→
   (∀ x ∈ rest,∃ c:Nat,c<P.length∧x=(c:Int)∧x ∉ out++[(p:Int)])→
   ∃ left' ready',Qv N out kk ((p:Int),r2) rest left ready=kk left' ready' (out++[(p:Int)])∧left'.length=P.length∧(∀ c:Nat,c<P.length→left'.getD c 0=(Tc P (out++[(p:Int)]) c:Int))∧
    Ts ready' ready'.length∧ready'.Nodup∧∀ y:Int,y ∈ ready'↔∃ c:Nat,c<P.length∧y=(c:Int)∧(c:Int) ∉ out++[(p:Int)]∧left'.getD c 0=0
 | [],left,ready,_,h1,h2,h3,h4,h5,_=>⟨left,ready,by rw [Qv.eq_1],h1,fun c hc=>by rw [h2 c hc];simp,h3,h4,h5⟩
 | x :: rest,left,ready,hrest,h1,h2,h3,h4,h5,h6=>by
  obtain ⟨c0,hc0,rfl,hx⟩:=h6 x List.mem_cons_self
  have hc0l:c0<left.length:=by omega
  have hcx:=h2 c0 hc0
  rw [List.count_cons,if_pos (by simp)] at hcx
  have hle:Tc P (out++[(p:Int)]) c0≤1048576:=by
   have h7:=List.countP_le_length (p:=fun q=>!decide (q ∈ out++[(p:Int)])) (l:=P.getD c0 [])
   rw [Yu hc0] at h7
   have h8:=Zlv (P:=P) (List.getElem_mem hc0)
   rw [Tc,Yu hc0];omega
  have hrl:ready.length≤P.length:=by
   have h7:=Zim (r:=(List.range P.length).map fun i:Nat=>(i:Int)) h4 fun y hy=>by
    obtain ⟨c,h8,h9,_⟩:=(h5 y).1 hy
    exact List.mem_map.2 ⟨c,List.mem_range.2 h8,h9.symm⟩
   simpa using h7
  have hv:i64.wrap (left.getD c0 0 - 1)=((Tc P (out++[(p:Int)]) c0+rest.count (c0:Int):Nat):Int):=by
   have h9:=List.count_le_length (a:=(c0:Int)) (l:=rest)
   rw [hcx,Z2]
   ·omega
   ·simp only [nC] at hrest
    omega
  have hl1:∀ c:Nat,c<P.length→(left.set c0 (i64.wrap (left.getD c0 0 - 1))).getD c 0=((Tc P (out++[(p:Int)]) c+rest.count (c:Int):Nat):Int):=fun c hc=>by
   rw [Sz _ _ _ _ _ hc0l]
   by_cases hcc:c=c0
   ·subst hcc;rw [if_pos rfl,hv]
   ·rw [if_neg hcc,h2 c hc,List.count_cons,if_neg (by simp;omega),Nat.add_zero]
  have hne:left.getD c0 0≠0:=by rw [hcx];omega
  have hnr:(c0:Int) ∉ ready:=fun h=>by
   obtain ⟨c,h8,h9,_,h10⟩:=(h5 _).1 h
   have:c=c0:=by omega
   subst this;exact hne h10
  have h6':∀ x ∈ rest,∃ c:Nat,c<P.length∧x=(c:Int)∧x ∉ out++[(p:Int)]:=fun x hx=>h6 x (List.mem_cons_of_mem _ hx)
  have hr':rest.length≤9000000000000000000:=by simp only [nC] at hrest;omega
  rw [Qv.eq_2,Um 0 hc0l,oB,oB,Int.toNat_natCast,Um 0 (by rw [nS];exact hc0l),oB,Ze1,Sz _ _ _ _ _ hc0l,if_pos rfl]
  by_cases hz:i64.wrap (left.getD c0 0 - 1)=0
  ·obtain ⟨ready1,k1,k2,k3⟩:=Ztv (N:=N) (c0:Int) (by omega:ready.length<2000000) h3 hN
   rw [if_pos (by simpa using hz),k1,oB,Ze1]
   refine Zov N P hP ht hN out p r2 kk rest _ ready1 hr' (by rw [nS];exact h1) hl1 k3 (k2.nodup_iff.2 (List.nodup_cons.2 ⟨hnr,h4⟩)) (fun y=>?_) h6'
   rw [k2.mem_iff,List.mem_cons]
   constructor
   ·rintro (rfl | hy)
    ·exact ⟨c0,hc0,rfl,hx,by rw [Sz _ _ _ _ _ hc0l,if_pos rfl,hz]⟩
    ·obtain ⟨c,h8,h9,h10,h11⟩:=(h5 y).1 hy
     refine ⟨c,h8,h9,h10,?_⟩
     rw [Sz _ _ _ _ _ hc0l]
     split
     ·exact hz
     ·exact h11
   ·rintro ⟨c,h8,h9,h10,h11⟩
    by_cases hcc:c=c0
    ·subst hcc;exact .inl h9
    ·rw [Sz _ _ _ _ _ hc0l,if_neg hcc] at h11
     exact .inr ((h5 y).2 ⟨c,h8,h9,h10,h11⟩)
  ·rw [if_neg (by simpa using hz)]
   refine Zov N P hP ht hN out p r2 kk rest _ ready hr' (by rw [nS];exact h1) hl1 h3 h4 (fun y=>?_) h6'
   rw [h5 y]
   constructor
   ·rintro ⟨c,h8,h9,h10,h11⟩
    refine ⟨c,h8,h9,h10,?_⟩
    rw [Sz _ _ _ _ _ hc0l,if_neg (fun h=>hne (by rw [← h];exact h11))];exact h11
   ·rintro ⟨c,h8,h9,h10,h11⟩
    refine ⟨c,h8,h9,h10,?_⟩
    rw [Sz _ _ _ _ _ hc0l] at h11
    split at h11
    ·exact absurd h11 hz
    ·exact h11
theorem Z2t {N:Nat} {P D:List R2} (hP:P.length≤1048576) (ht:Uw P≤1048576) (hN:2000000<N) (hD:D.length=P.length) (hDk:∀ p:Nat,p<P.length→D.getD p []=Vv 0 P p) {out left ready:List Int} (hi:Zi4 P out left ready) (n:Nat):
  (Vb P out 0=none→Un N D (n+1) left ready out=some out)∧
  ∀ p,Vb P out 0=some p→∃ left' ready',Zi4 P (out++[(p:Int)]) left' ready'∧Un N D (n+1) left ready out=Un N D n left' ready' (out++[(p:Int)]):=by
 have hrl:ready.length≤P.length:=by
  have h7:=Zim (r:=(List.range P.length).map fun i:Nat=>(i:Int)) hi.nd fun y hy=>by
   obtain ⟨c,h8,h9,_⟩:=(hi.mem y).1 hy
   exact List.mem_map.2 ⟨c,List.mem_range.2 h8,h9.symm⟩
  simpa using h7
 have hrd:∀ c:Nat,c<P.length→(U4 P out c=true↔(c:Int) ∈ ready):=fun c hc=>by
  rw [Zur,hi.mem]
  constructor
  ·rintro ⟨h1,h2⟩;exact ⟨c,hc,rfl,h1,by rw [hi.cnt c hc,h2];rfl⟩
  ·rintro ⟨c',h1,h2,h3,h4⟩
   have:c'=c:=by omega
   subst this
   rw [hi.cnt c' h1] at h4
   exact ⟨h3,by omega⟩
 refine ⟨fun hn=>?_,fun p hn=>?_⟩
 ·have h0:ready=[]:=by
   cases hr:ready with
   | nil=>rfl
   | cons y l=>
    obtain ⟨c,h1,h2,_⟩:=(hi.mem y).1 (by rw [hr];exact List.mem_cons_self)
    have h3:=Z03 hn c (Nat.zero_le _) h1
    have h4:=(hrd c h1).2 (by rw [← h2,hr];exact List.mem_cons_self)
    rw [h3] at h4;cases h4
  rw [Un.eq_2,h0,if_neg (by decide)]
 ·obtain ⟨_,hp,hr,hmin⟩:=Zsw hn
  have hpr:=(hrd p hp).1 hr
  have hpos:0<ready.length:=List.length_pos_of_mem hpr
  obtain ⟨x,t,k1,k2,k3,k4⟩:=Z1e (N:=N) (by omega:ready.length≤2000000) hpos hi.heap hN
  have hxr:x ∈ ready:=k2.mem_iff.2 List.mem_cons_self
  have hxp:x=(p:Int):=by
   obtain ⟨c,h1,h2,_⟩:=(hi.mem x).1 hxr
   have h3:=k3 _ hpr
   have h4:¬ c<p:=fun hlt=>by
    have h5:=hmin c (Nat.zero_le _) hlt
    have h6:=(hrd c h1).2 (by rw [← h2];exact hxr)
    rw [h5] at h6;cases h6
   omega
  subst hxp
  have hnd:((p:Int) :: t).Nodup:=k2.nodup_iff.1 hi.nd
  obtain ⟨hp1,hp2⟩:=(Zur P out p).1 hr
  obtain ⟨hok,hlt⟩:=hi.ok.step hn
  have hol:=hi.ok.len
  have hself:(P.getD p []).count (p:Int)=0:=by have:=Zqa (P:=P) hp1 p;omega
  rw [Un.eq_2,if_pos (dT (by omega)),k1,oB,Z7 (by simp only [nC,nN,maxLen];omega),Um [] (by rw [hD];exact hp),oB,hDk p hp]
  have hkl:=Zrq (p:Int) 0 P
  obtain ⟨left',ready',h1,h2,h3,h4,h5,h6⟩:=Zov N P hP ht hN out p t (Un N D n) (Vv 0 P p) left t (by omega) hi.len (fun c hc=>by
    rw [hi.cnt c hc,Zqa hp1 c,Znd (p:Int) 0 P c,if_pos (Nat.zero_le _),Nat.sub_zero]) k4 (List.nodup_cons.1 hnd).2 (fun y=>by
    have h7:y ∈ t↔y ∈ ready∧y≠(p:Int):=by
     rw [k2.mem_iff,List.mem_cons]
     exact ⟨fun h=>⟨.inr h,fun e=>(List.nodup_cons.1 hnd).1 (by rw [← e];exact h)⟩,fun h=>h.1.resolve_left h.2⟩
    rw [h7,hi.mem]
    constructor
    ·rintro ⟨⟨c,h8,h9,h10,h11⟩,h12⟩
     exact ⟨c,h8,h9,by rw [List.mem_append,List.mem_singleton];exact fun h=>h.elim h10 fun h=>h12 (by rw [h9,h]),h11⟩
    ·rintro ⟨c,h8,h9,h10,h11⟩
     rw [List.mem_append,List.mem_singleton] at h10
     exact ⟨⟨c,h8,h9,fun h=>h10 (.inl h),h11⟩,fun h=>h10 (.inr (by rw [← h9,h]))⟩) (fun x hx=>by
    obtain ⟨c,h7,_,h8⟩:=Zrr (p:Int) 0 P x hx
    have h8:c<P.length:=by omega
    have h9:=Znd (p:Int) 0 P c
    rw [if_pos (Nat.zero_le _),Nat.sub_zero] at h9
    have h10:0<(P.getD c []).count (p:Int):=by rw [← h9,← h7];exact List.count_pos_iff.2 hx
    refine ⟨c,h8,h7,fun h=>?_⟩
    rcases List.mem_append.1 h with h | h
    ·rw [h7] at h
     have h11:=hi.ok.2.2 c h8 h (p:Int) (by rw [Yu h8] at h10;exact List.count_pos_iff.1 h10)
     exact hp1 h11
    ·rw [List.mem_singleton] at h
     have:c=p:=by omega
     subst this
     omega)
  exact ⟨left',ready',⟨hok,h2,h3,h4,h5,h6⟩,h1⟩
theorem Zvo {N:Nat} {P D:List R2} (hP:P.length<1048576) (hls:∀ x ∈ P,x.length≤1048576) (ht:Uw P≤1048576) (hN:2000000<N) (hD:D.length=P.length) (hDk:∀ p:Nat,p<P.length→D.getD p []=Vv 0 P p):∀ (n:Nat) (out left ready:List Int),Zi4 P out left ready→P.length<n+out.length→
  Un N D n left ready out=Zdw N P n out
 | 0,out,left,ready,hi,hn=>by have:=hi.ok.len;omega
 | n+1,out,left,ready,hi,hn=>by
  have hl:=hi.ok.len
  obtain ⟨h1,h2⟩:=Z2t (N:=N) (by omega) ht hN hD hDk hi n
  rw [Zs6 (by omega) hls (by omega) (by omega)]
  cases hnx:Vb P out 0 with
  | none=>rw [h1 hnx];rfl
  | some p=>
   obtain ⟨left',ready',h3,h4⟩:=h2 p hnx
   rw [h4]
   exact Zvo hP hls ht hN hD hDk n _ _ _ h3 (by simp;omega)
theorem Zou {N:Nat} (P D:List R2) (hP:P.length<1048576) (hN:2000000<N) (hl:∀ l ∈ P,l.length≤1048576):∀ (Q:List R2) (k:Nat) (left ready:List Int),P.drop k=Q→k≤P.length→left.length=P.length→
  (∀ c:Nat,c<k→left.getD c 0=((P.getD c []).length:Int))→Ts ready ready.length→ready.Nodup→(∀ y:Int,y ∈ ready↔∃ c:Nat,c<k∧y=(c:Int)∧(P.getD c []).length=0)→
  ∃ left' ready',Qu N D Q k left ready=Un N D N left' ready' []∧Zi4 P [] left' ready'
 | [],k,left,ready,hQ,hk,h1,h2,h3,h4,h5=>by
  have hkP:k=P.length:=by have:=congrArg List.length hQ;simp at this;omega
  subst hkP
  have hc0:∀ c,Tc P [] c=(P.getD c []).length:=fun c=>by
   rw [Tc,List.countP_eq_length.2 (fun a _=>by simp)]
  refine ⟨left,ready,by rw [Qu.eq_1],⟨⟨.nil,by simp,by simp⟩,h1,fun c hc=>by rw [h2 c hc,hc0],h3,h4,fun y=>?_⟩⟩
  rw [h5]
  constructor
  ·rintro ⟨c,h6,h7,h8⟩;exact ⟨c,h6,h7,by simp,by rw [h2 c h6,h8];rfl⟩
  ·rintro ⟨c,h6,h7,_,h8⟩;exact ⟨c,h6,h7,by rw [h2 c h6] at h8;omega⟩
 | x :: Q,k,left,ready,hQ,hk,h1,h2,h3,h4,h5=>by
  have hkl:k<P.length:=by
   rcases Nat.lt_or_ge k P.length with h | h
   ·exact h
   ·rw [List.drop_eq_nil_of_le h] at hQ;cases hQ
  rw [List.drop_eq_getElem_cons hkl] at hQ
  obtain ⟨hx,hQ⟩:=List.cons.inj hQ
  have hxd:P.getD k []=x:=by rw [Yu hkl,hx]
  have hkl':k<left.length:=by omega
  have hrl:ready.length≤k:=by
   have h7:=Zim (r:=(List.range k).map fun i:Nat=>(i:Int)) h4 fun y hy=>by
    obtain ⟨c,h8,h9,_⟩:=(h5 y).1 hy
    exact List.mem_map.2 ⟨c,List.mem_range.2 h8,h9.symm⟩
   simpa using h7
  have hl1:∀ c:Nat,c<k+1→(left.set k (x.length:Int)).getD c 0=((P.getD c []).length:Int):=fun c hc=>by
   rw [Sz _ _ _ _ _ hkl']
   by_cases hck:c=k
   ·subst hck;rw [if_pos rfl,hxd]
   ·rw [if_neg hck,h2 c (by omega)]
  have hnr:(k:Int) ∉ ready:=fun h=>by obtain ⟨c,h6,h7,_⟩:=(h5 _).1 h;omega
  rw [Qu.eq_2,Um 0 hkl',oB,oB,Int.toNat_natCast]
  by_cases h0:x.length=0
  ·obtain ⟨ready1,k1,k2,k3⟩:=Ztv (N:=N) (k:Int) (by omega:ready.length<2000000) h3 hN
   rw [if_pos (dT (by omega)),k1,oB,Ze2]
   refine Zou P D hP hN hl Q (k+1) _ ready1 hQ (by omega) (by rw [nS];exact h1) hl1 k3 (k2.nodup_iff.2 (List.nodup_cons.2 ⟨hnr,h4⟩)) (fun y=>?_)
   rw [k2.mem_iff,List.mem_cons,h5]
   constructor
   ·rintro (rfl | ⟨c,h6,h7,h8⟩)
    ·exact ⟨k,by omega,rfl,by rw [hxd];exact h0⟩
    ·exact ⟨c,by omega,h7,h8⟩
   ·rintro ⟨c,h6,h7,h8⟩
    by_cases hck:c=k
    ·subst hck;exact .inl h7
    ·exact .inr ⟨c,by omega,h7,h8⟩
  ·rw [if_neg (by rw [decide_eq_true_eq];omega),Ze2]
   refine Zou P D hP hN hl Q (k+1) _ ready hQ (by omega) (by rw [nS];exact h1) hl1 h3 h4 (fun y=>?_)
   rw [h5]
   constructor
   ·rintro ⟨c,h6,h7,h8⟩;exact ⟨c,by omega,h7,h8⟩
   ·rintro ⟨c,h6,h7,h8⟩
    by_cases hck:c=k
    ·subst hck;rw [hxd] at h8;exact absurd h8 h0
    ·exact ⟨c,by omega,h7,h8⟩
theorem Z2s {N:Nat} {P D:List R2} (hP:P.length<1048576) (hls:∀ x ∈ P,x.length≤1048576) (ht:Uw P≤1048576) (hN:2000000<N) (hD:D.length=P.length) (hDk:∀ p:Nat,p<P.length→D.getD p []=Vv 0 P p):Ze0 N P D=Za5 N P:=by
 rw [Ze0,Z7 (by simp only [maxLen];omega),Za5]
 obtain ⟨left,ready,h1,h2⟩:=Zou (N:=N) P D hP hN hls P 0 (List.replicate P.length 0) [] rfl (Nat.zero_le _) (by simp) (fun c hc=>by omega) (fun j _ hj=>by simp at hj) .nil (fun y=>by simp)
 rw [h1]
 exact Zvo hP hls ht hN hD hDk N [] _ _ h2 (by simp;omega)
theorem Zqz (kk:Option Int):∀ (l:List Int) (seen:List R3) (S:List Int),S.Nodup→(∀ k,Wf seen k=if k ∈ S then some 1 else none)→Zbn kk l seen=if (S++l).Nodup then kk else some 40
 | [],seen,S,h1,h2=>by rw [Zbn.eq_1,List.append_nil,if_pos h1]
 | x :: l,seen,S,h1,h2=>by
  rw [Zbn.eq_2,h2 x]
  by_cases hx:x ∈ S
  ·rw [if_pos hx,if_pos (by decide),if_neg]
   intro h
   exact (List.nodup_append.1 h).2.2 x hx x List.mem_cons_self rfl
  ·rw [if_neg hx,if_neg (by decide),oB,Zqz kk l _ (S++[x]) (by
    rw [List.nodup_append]
    refine ⟨h1,by simp,fun a ha b hb e=>?_⟩
    rw [List.mem_singleton] at hb;subst hb;subst e;exact hx ha) (fun k=>by
    rw [Zsj,h2 k]
    by_cases hk:k=x
    ·subst hk;rw [if_pos rfl,if_pos (by simp)]
    ·rw [if_neg hk]
     by_cases hs:k ∈ S
     ·rw [if_pos hs,if_pos (by simp [hs])]
     ·rw [if_neg hs,if_neg (by simp [hs,hk])])]
   rw [List.append_assoc];rfl
theorem Zqy:∀ P:List R2,Qs P=if Ux P then some 40 else some 0
 | []=>by rw [Qs.eq_1];rfl
 | l :: P=>by
  rw [Qs.eq_2,Zqz _ l [] [] .nil (fun k=>by simp [Wf]),Zqy P,List.nil_append]
  by_cases h:l.Nodup
  ·rw [if_pos h]
   have:Ux (l :: P)=Ux P:=by rw [Ux,Ux,List.any_cons,decide_eq_true h];rfl
   rw [this]
  ·rw [if_neg h]
   have:Ux (l :: P)=true:=by rw [Ux,List.any_cons,decide_eq_false h];rfl
   rw [this];rfl
theorem Zq0 (P:List R2) (kk:Option Int):∀ l:List Int,Qt P kk l=if (l.all fun p=>decide (0≤p∧p<(P.length:Int)))=true then kk else some 3
 | []=>by rw [Qt.eq_1];rfl
 | x :: l=>by
  rw [Qt.eq_2,Zq0 P kk l,Zew,Zew,List.all_cons]
  by_cases h1:x<0
  ·rw [if_pos (by simpa using h1),if_pos rfl,decide_eq_false (by omega),Bool.false_and,if_neg (by decide)]
  ·rw [if_neg (by simpa using h1)]
   by_cases h2:(P.length:Int)≤x
   ·rw [if_pos (by simpa using h2),decide_eq_false (by omega),Bool.false_and,if_neg (by decide)]
   ·rw [if_neg (by simpa using h2),decide_eq_true (by omega),Bool.true_and]
theorem Zqx (P:List R2):∀ Q:List R2,Qr P Q=if V8 P.length Q=true then Qs P else some 3
 | []=>by rw [Qr.eq_1];rfl
 | l :: Q=>by
  rw [Qr.eq_2,Zq0,Zqx P Q]
  by_cases h:(l.all fun p=>decide (0≤p∧p<(P.length:Int)))=true
  ·rw [if_pos h]
   have:V8 P.length (l :: Q)=V8 P.length Q:=by rw [V8,V8,List.all_cons,h,Bool.true_and]
   rw [this]
  ·rw [if_neg h]
   have:V8 P.length (l :: Q)=false:=by rw [V8,List.all_cons,Bool.eq_false_iff.2 h,Bool.false_and]
   rw [this,if_neg (by decide)]
theorem Zzp (P:List R2):Zev P=if V8 P.length P=true then (if Ux P=true then some 40 else some 0) else some 3:=by
 rw [Zev,Zqx,Zqy]
structure Zi6 (P:List R2):Prop where
 n:P.length≤1048575
 t:Uw P≤1048576
theorem Zi6.ls {P:List R2} (h:Zi6 P):∀ x ∈ P,x.length≤1048576:=fun x hx=>Nat.le_trans (Zlv hx) h.t
theorem Zrk {P:List R2} {n:Nat} (h:V8 n P=true):∀ l ∈ P,Zi3 n l:=by
 intro l hl x hx
 rw [V8,List.all_eq_true] at h
 have:=List.all_eq_true.1 (h l hl) x hx
 simpa using this
inductive Zi5 (N:Nat) (P:List R2):Prop
 | err (e:Int) (D:Zai N P=some ([],e)) (R:Zga N P=some e) (ne:e=3∨e=40):Zi5 N P
 | cyc (I:V8 P.length P=true) (T:Ux P=false) (l:List Int) (o:Za5 N P=some l) (ok:U9 P l) (mx:Vb P l 0=none) (lt:l.length<P.length) (D:Zai N P=some ([],42)) (R:Zga N P=some 42):Zi5 N P
 | ord (I:V8 P.length P=true) (T:Ux P=false) (l:List Int) (o:Za5 N P=some l) (ok:U9 P l) (mx:Vb P l 0=none) (eq:l.length=P.length) (D:Zai N P=some (l,0)) (R:Zga N P=some 0):Zi5 N P
theorem Zvj {N:Nat} {P:List R2} (h:Zi6 P) (hN:2000000<N):Zi5 N P:=by
 have hn:=h.n
 have ht:=h.t
 have hls:=h.ls
 have hls':∀ x ∈ P,x.length≤1048576:=fun x hx=>by have:=hls x hx;omega
 have hD:Zai N P=(Zev P).bind fun r_1=>if (!decide (r_1=0))=true then (some (([]:List Int),r_1)) else ((Zeu P).bind fun r_5=>(Ze0 N P r_5).bind fun r_13=>if (decide ((r_13.length:Int)<(P.length:Int)))=true then (some (([]:List Int),42)) else (some (r_13,0))):=by rw [Zai]
 have hR:Zga N P=(Zkp N P).bind fun r_1=>if (!r_1)=true then (some 3) else ((Zkt N P).bind fun r_5=>if r_5=true then (some 40) else ((Za5 N P).bind fun r_9=>if (decide ((r_9.length:Int)<(P.length:Int)))=true then (some 42) else (some 0))):=by rw [Zga]
 rw [Zzp] at hD
 rw [Zz3 (by omega) hls' (by omega),oB] at hR
 by_cases hI:V8 P.length P=true
 ·rw [hI,if_neg (by decide),Z21 (by omega) hls' (by omega),oB] at hR
  rw [if_pos hI] at hD
  by_cases hT:Ux P=true
  ·rw [if_pos hT] at hD hR
   exact .err 40 (by rw [hD];rfl) hR (.inr rfl)
  ·rw [if_neg hT] at hD hR
   obtain ⟨l,h1,h2,h3⟩:=Z1c (N:=N) (P:=P) (by omega) hls' (by omega)
   obtain ⟨D,h4,h5,h6⟩:=Zyl (P:=P) (by omega) (by omega) (Zrk hI)
   rw [h1,oB] at hR
   rw [oB,if_neg (by decide),h4,oB,Z2s (by omega) hls' (by omega) hN h5 h6,h1,oB] at hD
   have hT:=Bool.eq_false_iff.2 hT
   have hle:=h2.len
   by_cases hlt:l.length<P.length
   ·rw [if_pos (dT (by omega))] at hR hD
    exact .cyc hI hT l h1 h2 h3 hlt hD hR
   ·rw [if_neg (by rw [decide_eq_true_eq];omega)] at hR hD
    exact .ord hI hT l h1 h2 h3 (by omega) hD hR
 ·rw [Bool.eq_false_iff.2 hI,if_pos (by decide)] at hR
  rw [if_neg hI] at hD
  exact .err 3 (by rw [hD];rfl) hR (.inl rfl)
def Zf1 (ab:List Int) (aa:Int) (kk_L1:(Int→Option R2)) (ac:Bool):Option R2:=
  if ac=true then (kk_L1 (i64.wrap (aa - 1))) else (Zz ((0:Int)≤aa∧aa≤(ab.length:Int)) (Zz ((([]:List Int).length+(ab.take (Int.toNat aa)).length) * 4≤140737488355328∧([]:List Int).length+(ab.take (Int.toNat aa)).length≤maxLen) (some (([]:List Int)++(ab.take (Int.toNat aa))))))
def Za4 (N:Nat) (aa:List Int):Nat→Int→Option R2
  | 0,_=>none
  | ac+1,ab=>if (decide (0<ab))=true then ((Zq aa (i64.wrap (ab - 1))).bind fun ad=>Zf1 aa ab (Za4 N aa ac) (decide (ad=0))) else (Zf1 aa ab (Za4 N aa ac) false)
termination_by structural x=>x
def Uj (N:Nat) (aa:List Int):Option R2:=
  Za4 N aa N (aa.length:Int)
theorem Ty {N ae:Nat} {a0:Option Addr} {col:Zd} {w0:World} {ab r:R2} (c1:Nat) (hm:Uj N ab=some r) (h0:Sl (Za.int .u32) col w0 a0 ae ab):
    Calls prog 212 #[.slice a0 ab.length ae] w0 (fun e w'=>∃ (col':Zd) (ra1:Option Addr) (rc2:Nat),e= .returned ((.slice ra1 r.length rc2))∧Zi col w0 col' w'∧Zc (Za.int .u32) 79 c1 col' w' ra1 rc2 r):=by
 refine Xk 2 (m:=24) func212 rfl rfl rfl rfl rfl ?_;rw [Uj.eq_1] at hm;have aa:=St.start col w0;refine go ?_;refine Z8 [0,1000000] (fun n f aj=>∃ ak ac ad,ad=n∧Za4 N ab ad ac=some r∧St w0 (Zj col) ak aj∧[3].map f=[.int .i64 ac]) N ⟨_,_,_,rfl,hm,aa,rfl⟩ ?_;clear hm;intro n f aj hI;obtain ⟨ak,ac,ad,hn,hm,aa,hs⟩:=hI;subst hn;refine .lL [3] hs ?_;replace h0:=h0.keep (Zl.start col w0)
 cases ad with
 | zero=>rw [Za4.eq_1] at hm;cases hm
 | succ ad=>
  rw [Za4.eq_2] at hm;refine Zw<|Zw ?_;refine Wp.cutK [0,3,1000000] (fun f al=>∃ am af,Zf1 ab ac (Za4 N ab ad) af=some r∧St w0 (Zj col) am al∧[16].map f=[.bool af]) ?_ ?_
  ·intro f al hJ;obtain ⟨am,af,hm,aa,hs⟩:=hJ;rw [Zf1.eq_1] at hm;refine .lL [16] hs ?_;refine Zr hm (fun hb hm=>go ?_) fun hb hm=>go ?_
   ·exact ⟨ad,by omega,rfl,⟨_,_,_,rfl,hm,aa,rfl⟩⟩
   obtain ⟨ag,hm⟩:=Z3 hm;refine lv (v:=.slice a0 (Int.toNat ac) ae) rfl rfl (Zgk underlying43 sizeOf79 rfl rfl ag.1 (by have:=(h0.ks aa).1.2;have:=ag.2;omega))<|.ld (d:=22) (v:=(.slice a0 ((ab.take (Int.toNat ac)).length) ae)) (congrArg (fun n=>Value.slice a0 n ae) (List.length_take_of_le (show (Int.toNat ac)≤ab.length by have:=ag.2;omega)).symm) ?_;obtain ⟨an,hm⟩:=Z3 hm;refine Vq (c:=1) Zc.nil ((h0.ks aa).take (Int.toNat ac)).srcC an ?_;intro ar au av aw ao ap;refine go ?_;cases hm;replace aa:=aa.kpp ao;exact ⟨rfl,_,_,_,rfl,aa.fin (cm [(1,c1)]),aa.fo ap⟩
  refine go ?_;refine X1 hm (fun ah hm=>go ?_) fun ah hm=>go ?_
  ·obtain ⟨aq,ai,hm⟩:=bZ hm;refine lI ai ((h0.ks aa).addr ai) ?_;refine go ?_;refine lW ((h0.ks aa).atInt ai)<|go ?_;refine lV (.bool (decide (aq=0))) (Xs (congrArg Value.bool ah) rfl)<|Zm ?_;exact ⟨rfl,_,_,hm,aa,rfl⟩
  refine lV (.bool false) (Xl (congrArg Value.bool ah) rfl)<|Zm ?_;exact ⟨rfl,_,_,hm,aa,rfl⟩
def Zdo (N:Nat):Nat→Int→Int→Option Int
  | 0,_,_=>none
  | ac+1,aa,ab=>if (decide (0<ab))=true then ((Zdo N ac) (i64.wrap (aa+1)) (u32.wrap (Int.tdiv ab 2))) else (some aa)
termination_by structural x=>x
def Zht (N:Nat) (ab:List Int):Option Int:=
  (Uj N ab).bind fun aa=>if (decide ((aa.length:Int)=0))=true then (some 0) else ((Zq aa (i64.wrap ((aa.length:Int) - 1))).bind fun ac=>Zdo N N (i64.wrap (32 * (i64.wrap ((aa.length:Int) - 1)))) ac)
theorem Zxl {N ag:Nat} {a0:Option Addr} {col:Zd} {w0:World} {ad:R2} {r:Int} (hm:Zht N ad=some r) (h0:Sl (Za.int .u32) col w0 a0 ag ad):
    Calls prog 121 #[.slice a0 ad.length ag] w0 (fun e w'=>e= .returned ((.int .i64 r))∧Below w0.heap.size w0 w'):=by
 refine Xk 2 (m:=28) func121 rfl rfl rfl rfl rfl ?_;rw [Zht.eq_1] at hm;have aa:=St.start col w0;refine go ?_;obtain ⟨am,ak,hm⟩:=bZ hm;replace h0:=h0.keep (Zl.start col w0);refine Zh (Ty 1 ak (h0.ks aa)) ?_;rintro _ an ⟨ao,ap,aq,rfl,al,ah⟩;refine ⟨_,rfl,go ?_⟩;replace aa:=aa.grow al;refine Zr hm (fun hb hm=>go ?_) fun hb hm=>go ?_
 ·cases hm;exact ⟨rfl,rfl,aa.below⟩
 obtain ⟨ar,ae,hm⟩:=bZ hm;refine lI ae (ah.addr ae)<|lW (ah.atInt ae) ?_;refine go ?_;refine Z8 [1000000] (fun n f ai=>∃ aj af ac ab,ab=n∧Zdo N ab af ac=some r∧St w0 (Zj col) aj ai∧[4,5].map f=[.int .i64 af,.int .u32 ac]) N ⟨_,_,_,_,rfl,hm,aa,rfl⟩ ?_;clear hm;intro n f ai hI;obtain ⟨aj,af,ac,ab,hn,hm,aa,hs⟩:=hI;subst hn;refine .lL [4,5] hs ?_
 cases ab with
 | zero=>rw [Zdo.eq_1] at hm;cases hm
 | succ ab=>
  rw [Zdo.eq_2] at hm;refine go ?_;refine Zr hm (fun hb hm=>go ?_) fun hb hm=>go ?_
  ·refine lV (.int .u32 (u32.wrap (Int.tdiv ac 2))) (V2 ac 2 rfl rfl (by decide))<|go ?_;exact ⟨ab,by omega,rfl,⟨_,_,_,_,rfl,hm,aa,rfl⟩⟩
  cases hm;exact ⟨rfl,rfl,aa.below⟩
def Qb (aa:List Int) (ab:Int):Option Int:=
  if (decide (ab<(aa.length:Int)))=true then ((Zq aa ab).bind fun ac=>some (u64.wrap ac)) else (some 0)
theorem Zcs {ad:Nat} {a0:Option Addr} {col:Zd} {w0:World} {ab:R2} {ae r:Int} (hm:Qb ab ae=some r) (h0:Sl (Za.int .u32) col w0 a0 ad ab):
    Calls prog 275 #[.slice a0 ab.length ad,.int .i64 ae] w0 (fun e w'=>e= .returned ((.int .u64 r))∧Below w0.heap.size w0 w'):=by
 refine Xk 4 (m:=14) func275 rfl rfl rfl rfl rfl ?_;rw [Qb.eq_1] at hm;have aa:=St.start col w0;refine go ?_;replace h0:=h0.keep (Zl.start col w0);refine Zr hm (fun hb hm=>go ?_) fun hb hm=>go ?_
 ·obtain ⟨af,ac,hm⟩:=bZ hm;refine lI ac ((h0.ks aa).addr ac)<|lW ((h0.ks aa).atInt ac) ?_;refine go ?_;cases hm;exact ⟨rfl,rfl,aa.below⟩
 cases hm;exact ⟨rfl,rfl,aa.below⟩
def Zhs (ab:List Int) (aa:Int):Option Int:=
  (Qb ab (i64.wrap (Int.tdiv aa 32))).bind fun ac=>Zz (0≤(Int.tmod aa 32)) (some (Int.tmod (u32.wrap (Yh .u64 ac (Int.tmod aa 32))) 2))
theorem Zxk {af:Nat} {a0:Option Addr} {col:Zd} {w0:World} {ad:R2} {aa r:Int} (hm:Zhs ad aa=some r) (h0:Sl (Za.int .u32) col w0 a0 af ad):
    Calls prog 230 #[.slice a0 ad.length af,.int .i64 aa] w0 (fun e w'=>e= .returned ((.int .u32 r))∧Below w0.heap.size w0 w'):=by
 refine Xk 4 (m:=14) func230 rfl rfl rfl rfl rfl ?_;rw [Zhs.eq_1] at hm;have ab:=St.start col w0;refine go ?_;refine lV (.int .i64 (i64.wrap (Int.tdiv aa 32))) (V2 aa 32 rfl rfl (by decide)) ?_;obtain ⟨ac,ag,hm⟩:=bZ hm;replace h0:=h0.keep (Zl.start col w0);refine Zh (Zcs ag (h0.ks ab)) ?_;rintro _ ah ⟨rfl,ae⟩;refine ⟨_,rfl,?_⟩;replace ae:Zi (Zj col) w0 (Zj col) ah:=.of_below ae;refine Yd rfl<|lV (.int .i64 (Int.tmod aa 32)) (Sn aa 32 rfl rfl (by decide)) ?_;obtain ⟨ai,hm⟩:=Z3 hm;refine lV (.int .u64 (Yh .u64 ac (Int.tmod aa 32))) (So ac (Int.tmod aa 32) rfl rfl ai)<|go ?_;refine lV (.int .u32 (Int.tmod (u32.wrap (Yh .u64 ac (Int.tmod aa 32))) 2)) (Sn (u32.wrap (Yh .u64 ac (Int.tmod aa 32))) 2 rfl rfl (by decide))<|go ?_;cases hm;replace ab:=ab.grow ae;exact ⟨rfl,rfl,ab.below⟩
def Zf6 (aa:List Int):Option R2:=
  some aa
def Zdt (N:Nat) (ad:List Int):Nat→R2→Int→Int→Option R2
  | 0,_,_,_=>none
  | af+1,ab,aa,ae=>if (decide (ae<(ad.length:Int)))=true then ((Zq ad ae).bind fun ac=>Zz ((ab.length+[u32.wrap (Int.tmod (u64.wrap (aa+(u64.wrap (2 * (u64.wrap ac))))) 4294967296)].length) * 4≤140737488355328∧ab.length+[u32.wrap (Int.tmod (u64.wrap (aa+(u64.wrap (2 * (u64.wrap ac))))) 4294967296)].length≤maxLen) ((Zdt N ad af) (ab++[u32.wrap (Int.tmod (u64.wrap (aa+(u64.wrap (2 * (u64.wrap ac))))) 4294967296)]) (u64.wrap (Int.tdiv (u64.wrap (aa+(u64.wrap (2 * (u64.wrap ac))))) 4294967296)) (i64.wrap (ae+1)))) else (if (decide (0<aa))=true then (Zz ((ab.length+[u32.wrap aa].length) * 4≤140737488355328∧ab.length+[u32.wrap aa].length≤maxLen) (Zf6 (ab++[u32.wrap aa]))) else (Zf6 ab))
termination_by structural x=>x
def Zf5 (N:Nat) (aa:List Int) (ab:Int):Option R2:=
  Zdt N aa N ([]:List Int) (u64.wrap ab) 0
theorem Zpv {N au:Nat} {a0:Option Addr} {col:Zd} {w0:World} {ag:R2} {av:Int} {r:R2} (c1:Nat) (hm:Zf5 N ag av=some r) (h0:Sl (Za.int .u32) col w0 a0 au ag):
    Calls prog 291 #[.slice a0 ag.length au,.int .u32 av] w0 (fun e w'=>∃ (col':Zd) (ra1:Option Addr) (rc2:Nat),e= .returned ((.slice ra1 r.length rc2))∧Zi col w0 col' w'∧Zc (Za.int .u32) 79 c1 col' w' ra1 rc2 r):=by
 refine Xk 4 (m:=40) func291 rfl rfl rfl rfl rfl ?_;rw [Zf5.eq_1] at hm;have aa:=St.start col w0;refine go ?_;refine Z8 [0,1000000] (fun n f aj=>∃ ae ak al ah ab am ad,ad=n∧Zdt N ag ad ah ab am=some r∧St w0 (Zj col) ae aj∧Zc (Za.int .u32) 79 1 ae aj ak al ah∧[5,6,7].map f=[.slice ak ah.length al,.int .u64 ab,.int .i64 am]) N ⟨_,none,0,_,_,0,_,rfl,hm,aa,Zc.nil,rfl⟩ ?_;clear hm;intro n f aj hI;obtain ⟨ae,ak,al,ah,ab,am,ad,hn,hm,aa,ac,hs⟩:=hI;subst hn;refine .lL [5,6,7] hs ?_;replace h0:=h0.keep (Zl.start col w0)
 cases ad with
 | zero=>rw [Zdt.eq_1] at hm;cases hm
 | succ ad=>
  rw [Zdt.eq_2] at hm;refine go ?_;refine Zr hm (fun hb hm=>go ?_) fun hb hm=>?_
  ·obtain ⟨af,an,hm⟩:=bZ hm;refine lI an ((h0.ks aa).addr an)<|lW ((h0.ks aa).atInt an) ?_;refine go ?_;refine lV (.int .u64 (Int.tmod (u64.wrap (ab+(u64.wrap (2 * (u64.wrap af))))) 4294967296)) (Sn (u64.wrap (ab+(u64.wrap (2 * (u64.wrap af))))) 4294967296 rfl rfl (by decide))<|go ?_;refine Vr (col:=ae) [u32.wrap (Int.tmod (u64.wrap (ab+(u64.wrap (2 * (u64.wrap af))))) 4294967296)] 2 ?_;intro a8 a9 ba aw ay;obtain ⟨az,hm⟩:=Z3 hm;replace ac:=ac.gr aw;refine Vq ac (ay.srcN (NB.int (k:=.u32))) az ?_;intro bb bc bd be a1 a2;refine go ?_;refine lV (.int .u64 (u64.wrap (Int.tdiv (u64.wrap (ab+(u64.wrap (2 * (u64.wrap af))))) 4294967296))) (V2 (u64.wrap (ab+(u64.wrap (2 * (u64.wrap af))))) 4294967296 rfl rfl (by decide))<|go ?_;replace aa:=(aa.grow aw).kpp a1;exact ⟨ad,by omega,rfl,⟨_,_,_,_,_,_,_,rfl,hm,aa,a2,rfl⟩⟩
  refine Zeb (Zcv ?_);refine Zw ?_;refine Wp.cutK [1000000] (fun f ao=>∃ ap aq ar ai,Zf6 ai=some r∧St w0 (Zj col) ap ao∧Zc (Za.int .u32) 79 1 ap ao aq ar ai∧[5].map f=[.slice aq ai.length ar]) ?_ ?_
  ·intro f ao hJ;obtain ⟨ap,aq,ar,ai,hm,aa,a3,hs⟩:=hJ;rw [Zf6.eq_1] at hm;refine .lL [5] hs<|go ?_;cases hm;exact ⟨rfl,_,_,_,rfl,aa.fin (cm [(1,c1)]),aa.fo a3⟩
  refine go ?_;refine Zr hm (fun hb hm=>go ?_) fun hb hm=>?_
  ·refine Vr (col:=ae) [u32.wrap ab] 3 ?_;intro bf bg bh ax a4;obtain ⟨a5,hm⟩:=Z3 hm;replace ac:=ac.gr ax;refine Vq ac (a4.srcN (NB.int (k:=.u32))) a5 ?_;intro bi bj bk bm a6 a7;refine go ?_;replace aa:=(aa.grow ax).kpp a6;exact ⟨rfl,_,_,_,_,hm,aa,a7,rfl⟩
  refine X8 ?_;exact ⟨rfl,_,_,_,_,hm,aa,ac,rfl⟩
def Zdq (N:Nat) (ab:List Int) (ac:List Int):Nat→Int→Option Int
  | 0,_=>none
  | af+1,aa=>if (decide (0≤aa))=true then ((Qb ab aa).bind fun ad=>(Qb ac aa).bind fun ae=>if (decide (ad<ae))=true then (some (-1)) else (if (decide (ae<ad))=true then (some 1) else ((Zdq N ab ac af) (i64.wrap (aa - 1))))) else (some 0)
termination_by structural x=>x
def Zfw (N:Nat) (aa:List Int) (ab:List Int) (ac:Int):Option Int:=
  Zdq N aa ab N (i64.wrap (ac - 1))
def Zdp (N:Nat) (aa:List Int) (ab:List Int):Option Int:=
  if (decide ((aa.length:Int)<(ab.length:Int)))=true then (Zfw N aa ab (ab.length:Int)) else (Zfw N aa ab (aa.length:Int))
theorem Zmj {N ak al:Nat} {a0 a1:Option Addr} {col:Zd} {w0:World} {ad ae:R2} {r:Int} (hm:Zdp N ad ae=some r) (h0:Sl (Za.int .u32) col w0 a0 ak ad) (h1:Sl (Za.int .u32) col w0 a1 al ae):
    Calls prog 276 #[.slice a0 ad.length ak,.slice a1 ae.length al] w0 (fun e w'=>e= .returned ((.int .i64 r))∧Below w0.heap.size w0 w'):=by
 refine Xk 4 (m:=35) func276 rfl rfl rfl rfl rfl ?_;rw [Zdp.eq_1] at hm;have aa:=St.start col w0;refine Zw<|Wr<|Yr rfl<|Zm<|Zw<|Wr<|Y0 rfl<|lV _ (Zcj underlying43 rfl)<|Yr rfl<|Zm<|Zw ?_;replace h0:=h0.keep (Zl.start col w0);replace h1:=h1.keep (Zl.start col w0);refine Wp.cutK [0,1,1000000] (fun f am=>∃ an af,Zfw N ad ae af=some r∧St w0 (Zj col) an am∧[5].map f=[.int .i64 af]) ?_ ?_
 ·intro f am hJ;obtain ⟨an,af,hm,aa,hs⟩:=hJ;rw [Zfw.eq_1] at hm;refine .lL [5] hs<|go ?_;refine Z8 [0,1,1000000] (fun n f ag=>∃ ab ah ac,ac=n∧Zdq N ad ae ac ah=some r∧St w0 (Zj col) ab ag∧[6].map f=[.int .i64 ah]) N ⟨_,_,_,rfl,hm,aa,rfl⟩ ?_;clear hm;intro n f ag hI;obtain ⟨ab,ah,ac,hn,hm,aa,hs⟩:=hI;subst hn;refine .lL [6] hs ?_
  cases ac with
  | zero=>rw [Zdq.eq_1] at hm;cases hm
  | succ ac=>
   rw [Zdq.eq_2] at hm;refine go ?_;refine Zr hm (fun hb hm=>go ?_) fun hb hm=>go ?_
   ·obtain ⟨au,ap,hm⟩:=bZ hm;refine Zh (Zcs ap (h0.ks aa)) ?_;rintro _ ao ⟨rfl,ai⟩;refine ⟨_,rfl,?_⟩;replace ai:Zi ab ag ab ao:=.of_below ai;refine go ?_;obtain ⟨av,aq,hm⟩:=bZ hm;replace aa:=aa.grow ai;refine Zh (Zcs aq (h1.ks aa)) ?_;rintro _ ar ⟨rfl,aj⟩;refine ⟨_,rfl,?_⟩;replace aj:Zi ab ao ab ar:=.of_below aj;refine go ?_;replace aa:=aa.grow aj;refine Zr hm (fun hb hm=>go ?_) fun hb hm=>go ?_
    ·cases hm;exact ⟨rfl,rfl,aa.below⟩
    refine Zr hm (fun hb hm=>go ?_) fun hb hm=>go ?_
    ·cases hm;exact ⟨rfl,rfl,aa.below⟩
    exact ⟨ac,by omega,rfl,⟨_,_,_,rfl,hm,aa,rfl⟩⟩
   cases hm;exact ⟨rfl,rfl,aa.below⟩
 refine go ?_;refine Zr hm (fun hb hm=>go ?_) fun hb hm=>?_
 ·exact ⟨rfl,_,_,hm,aa,rfl⟩
 refine X8 ?_;exact ⟨rfl,_,_,hm,aa,rfl⟩
def Zkl (aa:Int) (kk_L1:(List Int→Int→Int→Option Rd)) (ab:List Int) (ac:Int):Option Rd:=
  kk_L1 ab ac (i64.wrap (aa+1))
def Zf4 (aa:List Int) (ab:Int) (ae:Int) (kk_L1:(List Int→Int→Int→Option Rd)) (ac:Int) (af:Int) (ad:Int):Option Rd:=
  Zz ((aa.length+[u32.wrap (u64.wrap (ad - (u64.wrap (ac+ab))))].length) * 4≤140737488355328∧aa.length+[u32.wrap (u64.wrap (ad - (u64.wrap (ac+ab))))].length≤maxLen) (Zkl ae kk_L1 (aa++[u32.wrap (u64.wrap (ad - (u64.wrap (ac+ab))))]) af)
def Qa (N:Nat) (ab:List Int) (ac:List Int):Nat→R2→Int→Int→Option Rd
  | 0,_,_,_=>none
  | ah+1,ad,ae,aa=>if (decide (aa<(ab.length:Int)))=true then ((Qb ab aa).bind fun af=>(Qb ac aa).bind fun ag=>if (decide (af<(u64.wrap (ag+ae))))=true then (Zf4 ad ae aa (Qa N ab ac ah) ag 1 (u64.wrap (af+4294967296))) else (Zf4 ad ae aa (Qa N ab ac ah) ag 0 af)) else ((Uj N ad).bind fun ai=>some (ai,true))
termination_by structural x=>x
def Zf3 (N:Nat) (aa:List Int) (ab:List Int):Option Rd:=
  (Zdp N aa ab).bind fun ac=>if (decide (ac<0))=true then (some (([]:List Int),false)) else (Qa N aa ab N ([]:List Int) 0 0)
theorem Zpu {N au av:Nat} {a0 a1:Option Addr} {col:Zd} {w0:World} {ae af:R2} {r:Rd} (c1:Nat) (hm:Zf3 N ae af=some r) (h0:Sl (Za.int .u32) col w0 a0 au ae) (h1:Sl (Za.int .u32) col w0 a1 av af):
    Calls prog 228 #[.slice a0 ae.length au,.slice a1 af.length av] w0 (fun e w'=>∃ (col':Zd) (ra1:Option Addr) (rc2:Nat),e= .returned (.tuple #[.slice ra1 r.1.length rc2,.bool r.2])∧Zi col w0 col' w'∧Zc (Za.int .u32) 79 c1 col' w' ra1 rc2 r.1):=by
 refine Zep 4 5 (m:=43) (args:=[.slice a0 ae.length au,.slice a1 af.length av]) func228 rfl rfl rfl rfl rfl ?_;rw [Zf3.eq_1] at hm;have aa:=St.start col w0;refine go ?_;obtain ⟨bn,ba,hm⟩:=bZ hm;replace h0:=h0.keep (Zl.start col w0);replace h1:=h1.keep (Zl.start col w0);refine Zh (Zmj ba (h0.ks aa) (h1.ks aa)) ?_;rintro _ bb ⟨rfl,aw⟩;refine ⟨_,rfl,?_⟩;replace aw:Zi (Zj col) w0 (Zj col) bb:=.of_below aw;refine go ?_;replace aa:=aa.grow aw;refine Zr hm (fun hb hm=>go ?_) fun hb hm=>go ?_
 ·cases hm;exact ⟨rfl,_,none,0,rfl,aa.fin (cm []),Zc.nil⟩
 refine Z8 [0,1,1000000] (fun n f ah=>∃ ab ak al ag ai aj ad,ad=n∧Qa N ae af ad ag ai aj=some r∧St w0 (Zj col) ab ah∧Zc (Za.int .u32) 79 1 ab ah ak al ag∧[6,7,8].map f=[.slice ak ag.length al,.int .u64 ai,.int .i64 aj]) N ⟨_,none,0,_,0,0,_,rfl,hm,aa,Zc.nil,rfl⟩ ?_;clear hm;intro n f ah hI;obtain ⟨ab,ak,al,ag,ai,aj,ad,hn,hm,aa,ac,hs⟩:=hI;subst hn;refine .lL [6,7,8] hs ?_
 cases ad with
 | zero=>rw [Qa.eq_1] at hm;cases hm
 | succ ad=>
  rw [Qa.eq_2] at hm;refine go ?_;refine Zr hm (fun hb hm=>?_) fun hb hm=>go ?_
  ·refine X8<|Zw ?_;refine Wp.cutK [0,1,8,1000000] (fun f ax=>∃ ay az a2 am a3,Zkl aj (Qa N ae af ad) am a3=some r∧St w0 (Zj col) ay ax∧Zc (Za.int .u32) 79 1 ay ax az a2 am∧[6,7].map f=[.slice az am.length a2,.int .u64 a3]) ?_ ?_
   ·intro f ax hJ;obtain ⟨ay,az,a2,am,a3,hm,aa,bc,hs⟩:=hJ;rw [Zkl.eq_1] at hm;refine .lL [6,7] hs<|go ?_;exact ⟨ad,by omega,rfl,⟨_,_,_,_,_,_,_,rfl,hm,aa,bc,rfl⟩⟩
   refine go ?_;obtain ⟨bo,bd,hm⟩:=bZ hm;refine Zh (Zcs bd (h0.ks aa)) ?_;rintro _ a7 ⟨rfl,an⟩;refine ⟨_,rfl,?_⟩;replace an:Zi ab ah ab a7:=.of_below an;refine go ?_;obtain ⟨a8,be,hm⟩:=bZ hm;replace aa:=aa.grow an;refine Zh (Zcs be (h1.ks aa)) ?_;rintro _ bf ⟨rfl,ao⟩;refine ⟨_,rfl,?_⟩;replace ao:Zi ab a7 ab bf:=.of_below ao;refine Yd rfl<|lV _ (Qf _ _ rfl rfl)<|Yr rfl<|Zm<|Zw<|Wr<|Yr rfl<|Zm<|Zw ?_;replace ac:=(ac.gr an).gr ao;replace aa:=aa.grow ao;refine Wp.cutK [0,1,10,6,8,1000000] (fun f a4=>∃ ap a5 aq,Zf4 ag ai aj (Qa N ae af ad) a8 a5 aq=some r∧St w0 (Zj col) ap a4∧Zc (Za.int .u32) 79 1 ap a4 ak al ag∧[7,9].map f=[.int .u64 a5,.int .u64 aq]) ?_ ?_
   ·intro f a4 hJ;obtain ⟨ap,a5,aq,hm,aa,ac,hs⟩:=hJ;rw [Zf4.eq_1] at hm;refine .lL [7,9] hs<|go ?_;refine Vr (col:=ap) [u32.wrap (u64.wrap (aq - (u64.wrap (a8+ai))))] 2 ?_;intro bp bq br a9 bg;obtain ⟨bh,hm⟩:=Z3 hm;replace ac:=ac.gr a9;refine Vq ac (bg.srcN (NB.int (k:=.u32))) bh ?_;intro bs bt bu bv bi bj;refine go ?_;replace aa:=(aa.grow a9).kpp bi;exact ⟨rfl,_,_,_,_,_,hm,aa,bj,rfl⟩
   refine go ?_;refine Zr hm (fun hb hm=>go ?_) fun hb hm=>?_
   ·exact ⟨rfl,_,1,_,hm,aa,ac,rfl⟩
   refine X8 ?_;exact ⟨rfl,_,0,_,hm,aa,ac,rfl⟩
  obtain ⟨bw,bk,hm⟩:=bZ hm;refine Zh (Ty 3 bk (ac.toSlF (Zg.int .u32))) ?_;rintro _ bx ⟨bm,bz,b0,rfl,ar,a6⟩;refine ⟨_,rfl,?_⟩;replace a6:=a6.thaw (Z0 .u32) ar ((Fz.refl (col:=ab)).froz 1) (by decide);replace ar:=ar.thawR (col:=ab);generalize Xc ah.heap.size ab bm=b1 at *;refine go ?_;cases hm;replace aa:=aa.grow ar;exact ⟨rfl,_,_,_,rfl,aa.fin (cm [(3,c1)]),aa.fo a6⟩
def Zfy (aa:Int) (kk_L1:(List Int→Int→R2→Option Ra)) (ab:List Int) (ac:List Int):Option Ra:=
  kk_L1 ab (i64.wrap (aa - 1)) ac
def Za2 (N:Nat) (ad:List Int) (ab:List Int):Nat→R2→Int→R2→Option Ra
  | 0,_,_,_=>none
  | af+1,ag,aa,ac=>if (decide (0≤aa))=true then ((Zhs ad aa).bind fun ah=>(Zf5 N ag ah).bind fun ai=>(Uj N ai).bind fun ae=>(Zdp N ae ab).bind fun aj=>if (decide (0≤aj))=true then ((Zf3 N ae ab).bind fun ak=>(Zq ac (i64.wrap (Int.tdiv aa 32))).bind fun al=>Zz (0≤(Int.tmod aa 32)) ((some (ac.set (Int.toNat (i64.wrap (Int.tdiv aa 32))) (u32.wrap (al+(Xy .u32 1 (Int.tmod aa 32)))))).bind fun am=>Zfy aa (Za2 N ad ab af) ak.1 am)) else (Zfy aa (Za2 N ad ab af) ae ac)) else ((Uj N ac).bind fun an=>some (an,ag,0))
termination_by structural x=>x
def Zfx (N:Nat) (ab:List Int) (ad:List Int):Option Ra:=
  (Uj N ad).bind fun ac=>if (decide ((ac.length:Int)=0))=true then (some (([]:List Int),([]:List Int),11)) else ((Zht N ab).bind fun aa=>Zz ((Int.toNat (i64.wrap (Int.tdiv (i64.wrap (aa+31)) 32))) * 4≤281474976710656∧(Int.toNat (i64.wrap (Int.tdiv (i64.wrap (aa+31)) 32)))≤maxLen∧0≤(i64.wrap (Int.tdiv (i64.wrap (aa+31)) 32))) (Za2 N ab ac N ([]:List Int) (i64.wrap (aa - 1)) (List.replicate (Int.toNat (i64.wrap (Int.tdiv (i64.wrap (aa+31)) 32))) (0:Int))))
theorem Zps {N bd be:Nat} {a0 a1:Option Addr} {col:Zd} {w0:World} {ak a4:R2} {r:Ra} (c1 c2:Nat) (hm:Zfx N ak a4=some r) (h0:Sl (Za.int .u32) col w0 a0 bd ak) (h1:Sl (Za.int .u32) col w0 a1 be a4):
    Calls prog 272 #[.slice a0 ak.length bd,.slice a1 a4.length be] w0 (fun e w'=>∃ (col':Zd) (ra1:Option Addr) (rc2:Nat) (ra4:Option Addr) (rc5:Nat),e= .returned (.tuple #[.slice ra1 r.1.length rc2,.slice ra4 r.2.1.length rc5,.int .i64 r.2.2])∧Zi col w0 col' w'∧Zc (Za.int .u32) 79 c1 col' w' ra1 rc2 r.1∧Zc (Za.int .u32) 79 c2 col' w' ra4 rc5 r.2.1):=by
 refine Zp0 4 5 6 (m:=61) (args:=[.slice a0 ak.length bd,.slice a1 a4.length be]) func272 rfl rfl rfl rfl rfl ?_;rw [Zfx.eq_1] at hm;have aa:=St.start col w0;refine go ?_;obtain ⟨a5,b3,hm⟩:=bZ hm;replace h1:=h1.keep (Zl.start col w0);refine Zh (Ty 1 b3 (h1.ks aa)) ?_;rintro _ b4 ⟨bf,bt,bu,rfl,b5,ab⟩;refine ⟨_,rfl,go ?_⟩;replace h0:=h0.keep (Zl.start col w0);replace aa:=aa.grow b5;refine Zr hm (fun hb hm=>go ?_) fun hb hm=>go ?_
 ·cases hm;exact ⟨rfl,_,none,0,none,0,rfl,aa.fin (cm []),Zc.nil,Zc.nil⟩
 obtain ⟨bg,b6,hm⟩:=bZ hm;refine Zh (Zxl b6 (h0.ks aa)) ?_;rintro _ bv ⟨rfl,a6⟩;refine ⟨_,rfl,?_⟩;replace a6:Zi bf b4 bf bv:=.of_below a6;refine go ?_;refine lV (.int .i64 (i64.wrap (Int.tdiv (i64.wrap (bg+31)) 32))) (V2 (i64.wrap (bg+31)) 32 rfl rfl (by decide)) ?_;obtain ⟨a7,hm⟩:=Z3 hm;refine Qo (col:=bf) (w:=bv) (r:=(Za.int .u32)) (n:=(Int.toNat (i64.wrap (Int.tdiv (i64.wrap (bg+31)) 32)))) (x0:=0) 2 rfl underlying43 Tryz.t79 rfl rfl rfl rfl rfl (congrArg (Value.int _) (Int.toNat_of_nonneg a7.2.2).symm) (congrArg (Value.int _) (Int.toNat_of_nonneg a7.2.2).symm) a7.1 a7.2.1 (V3 .u32 0) ?_;intro cp cq cr bw b7;refine go ?_;replace ab:=(ab.gr a6).gr bw;replace aa:=(aa.grow a6).grow bw;refine Z8 [0,7,1000000] (fun n f ai=>∃ ae bh bi a8 ac av aw al aj,aj=n∧Za2 N ak a5 aj a8 ac al=some r∧St w0 (Zj col) ae ai∧Zc (Za.int .u32) 79 3 ae ai bh bi a8∧Zc (Za.int .u32) 79 1 ae ai bt bu a5∧Zc (Za.int .u32) 79 2 ae ai av aw al∧[10,11,9].map f=[.slice bh a8.length bi,.int .i64 ac,.slice av al.length aw]) N ⟨_,none,0,_,_,_,_,_,_,rfl,hm,aa,Zc.nil,ab,b7,rfl⟩ ?_;clear hm;intro n f ai hI;obtain ⟨ae,bh,bi,a8,ac,av,aw,al,aj,hn,hm,aa,am,ab,ad,hs⟩:=hI;subst hn;refine .lL [10,11,9] hs ?_
 cases aj with
 | zero=>rw [Za2.eq_1] at hm;cases hm
 | succ aj=>
  rw [Za2.eq_2] at hm;refine go ?_;refine Zr hm (fun hb hm=>?_) fun hb hm=>go ?_
  ·refine X8<|Zw ?_;refine Wp.cutK [0,11,7,1000000] (fun f ax=>∃ ay bj bk a9 bm bn ba,Zfy ac (Za2 N ak a5 aj) a9 ba=some r∧St w0 (Zj col) ay ax∧Zc (Za.int .u32) 79 3 ay ax bj bk a9∧Zc (Za.int .u32) 79 1 ay ax bt bu a5∧Zc (Za.int .u32) 79 2 ay ax bm bn ba∧[10,9].map f=[.slice bj a9.length bk,.slice bm ba.length bn]) ?_ ?_
   ·intro f ax hJ;obtain ⟨ay,bj,bk,a9,bm,bn,ba,hm,aa,b8,ab,b9,hs⟩:=hJ;rw [Zfy.eq_1] at hm;refine .lL [10,9] hs<|go ?_;exact ⟨aj,by omega,rfl,⟨_,_,_,_,_,_,_,_,_,rfl,hm,aa,b8,ab,b9,rfl⟩⟩
   refine go ?_;obtain ⟨cs,ca,hm⟩:=bZ hm;refine Zh (Zxk ca (h0.ks aa)) ?_;rintro _ bx ⟨rfl,an⟩;refine ⟨_,rfl,?_⟩;replace an:Zi ae ai ae bx:=.of_below an;obtain ⟨ct,cb,hm⟩:=bZ hm;replace am:=am.gr an;refine Zh (Zpv 4 cb (am.toSlF (Zg.int .u32))) ?_;rintro _ cc ⟨cd,cu,cv,rfl,ao,bo⟩;refine ⟨_,rfl,?_⟩;replace bo:=bo.thaw (Z0 .u32) ao ((Fz.refl (col:=ae)).froz 3) (by decide);replace ao:=ao.thawR (col:=ae);generalize Xc bx.heap.size ae cd=bp at *;obtain ⟨cw,ce,hm⟩:=bZ hm;refine Zh (Ty 5 ce (bo.toSlF (Zg.int .u32))) ?_;rintro _ cf ⟨cg,cx,cy,rfl,ap,af⟩;refine ⟨_,rfl,?_⟩;replace af:=af.thaw (Z0 .u32) ap ((Fz.refl (col:=bp)).froz 4) (by decide);replace ap:=ap.thawR (col:=bp);generalize Xc cc.heap.size bp cg=az at *;refine go ?_;obtain ⟨cz,ch,hm⟩:=bZ hm;replace ab:=((ab.gr an).gr ao).gr ap;refine Zh (Zmj ch ((af.toSlF (Zg.int .u32)).froz 1) ((ab.froz 5 (by decide)).toSlF (Zg.int .u32))) ?_;rintro _ bz ⟨rfl,aq⟩;refine ⟨_,rfl,?_⟩;replace aq:Zi az cf az bz:=.of_below aq;refine go ?_;replace ad:=(((ad.gr an).gr ao).gr ap).gr aq;replace aa:=(((aa.grow an).grow ao).grow ap).grow aq;replace ab:=ab.gr aq;replace af:=af.gr aq;refine Zr hm (fun hb hm=>go ?_) fun hb hm=>?_
   ·obtain ⟨bb,ci,hm⟩:=bZ hm;refine Zh (Zpu 6 ci ((af.toSlF (Zg.int .u32)).froz 1) ((ab.froz 5 (by decide)).toSlF (Zg.int .u32))) ?_;rintro _ c0 ⟨cj,b0,b1,rfl,ar,ag⟩;refine ⟨_,rfl,?_⟩;replace ag:=ag.thaw (Z0 .u32) ar (((Fz.refl (col:=az)).froz 5).froz 1) (by decide);replace ar:=ar.thawR (col:=az);generalize Xc bz.heap.size az cj=a2 at *;refine lM (.tuple #[.slice b0 bb.1.length b1,.bool bb.2])<|lV (.slice b0 bb.1.length b1) (Xe rfl rfl)<|lV (.bool bb.2) (Xe rfl rfl)<|go ?_;refine Wk (col:=a2) [(0,1),(1,1),(2,1),(3,1),(4,1),(5,1),(6,1),(7,0),(8,1),(9,1),(10,1),(11,1),(12,1),(13,2)] (by kernel_rfl) (by kernel_rfl)<|xu rfl rfl (fun _=>Vt rfl) ?_;refine xu rfl rfl (fun _=>Yw rfl) ?_;refine xu (v:=(.int .i64 (i64.wrap (Int.tdiv ac 32)))) rfl rfl (fun _=>V2 ac 32 rfl rfl (by decide)) ?_;refine xu rfl rfl (fun _=>Vt rfl) ?_;refine xu rfl rfl (fun _=>Yw rfl) ?_;refine xu (v:=(.int .i64 (i64.wrap (Int.tdiv ac 32)))) rfl rfl (fun _=>V2 ac 32 rfl rfl (by decide)) ?_;obtain ⟨b2,ah,hm⟩:=bZ hm;replace ad:=ad.gr ar;refine xu rfl rfl (fun _=>Y9 underlying43 sizeOf79 rfl rfl (Xj ah).1 (Xj ah).2.1 (ad.addr ah)) ?_;refine xW (fun _ hC=>(ad.gr (hC.bl a2)).atInt ah) ?_;refine xu rfl rfl (fun _=>Yw rfl) ?_;refine xu (v:=(.int .i64 (Int.tmod ac 32))) rfl rfl (fun _=>Sn ac 32 rfl rfl (by decide)) ?_;obtain ⟨ck,hm⟩:=Z3 hm;refine xu (v:=(.int .u32 (Xy .u32 1 (Int.tmod ac 32)))) rfl rfl (fun _=>Zd6 1 (Int.tmod ac 32) rfl rfl ck) ?_;refine xu rfl rfl (fun _=>Qf _ _ rfl rfl) ?_;refine xu rfl rfl (fun _=>Y9 underlying43 sizeOf79 rfl rfl (Xj ah).1 (Xj ah).2.1 (ad.addr ah)) ?_;refine xe rfl rfl ?_;intro c3 hC0;have hC:=hC0.bl a2;obtain ⟨bq,bc,hm⟩:=bZ hm;have bc:bq=al.set (Int.toNat (i64.wrap (Int.tdiv ac 32))) (u32.wrap (b2+(Xy .u32 1 (Int.tmod ac 32)))):=(Option.some.inj bc).symm;replace ad:=ad.gr hC;refine Wd (x1:=u32.wrap (b2+(Xy .u32 1 (Int.tmod ac 32)))) ad ah ?_;intro c4 br cl au;rw [← bc] at au;refine .ld (d:=9) (v:=(.slice av bq.length aw)) (congrArg (fun n=>Value.slice av n aw) (show al.length=bq.length by rw [bc,nS])) ?_;refine Zm<|xk a2<|Y7 ?_;replace ab:=((ab.gr ar).gr hC).kp br;replace aa:=((aa.grow ar).grow hC).kp br cl;replace ag:=(ag.gr hC).kp br;intro c5 hC;replace hC:=hC.bl a2;replace ab:=ab.gr hC;replace ab:=ab.recol 6 3 (by decide);replace au:=au.gr hC
    replace au:=au.recol 6 3 (by decide);replace ag:=ag.gr hC;replace ag:=ag.recolSelf 3 (by decide);replace aa:=aa.grow hC;replace aa:=aa.recol 6 3 (by decide) (by decide);exact ⟨rfl,_,_,_,_,_,_,_,hm,aa,ag,ab,au,rfl⟩
   refine X8 ?_;replace ab:=ab.recol 5 3 (by decide);replace ad:=ad.recol 5 3 (by decide);replace af:=af.recolSelf 3 (by decide);replace aa:=aa.recol 5 3 (by decide) (by decide);exact ⟨rfl,_,_,_,_,_,_,_,hm,aa,af,ab,ad,rfl⟩
  obtain ⟨c6,cn,hm⟩:=bZ hm;refine Zh (Ty 7 cn (ad.toSlF (Zg.int .u32))) ?_;rintro _ c7 ⟨co,c8,c9,rfl,a3,bs⟩;refine ⟨_,rfl,?_⟩;replace bs:=bs.thaw (Z0 .u32) a3 ((Fz.refl (col:=ae)).froz 2) (by decide);replace a3:=a3.thawR (col:=ae);generalize Xc ai.heap.size ae co=da at *;refine go ?_;cases hm;replace am:=am.gr a3;replace aa:=aa.grow a3;exact ⟨rfl,_,_,_,_,_,rfl,aa.fin (cm [(7,c1),(3,c2)]),aa.fo bs,aa.fo am⟩
def Zhw (aa:Bool):Option Bool:=
  some aa
def Zb8 (aa:List Int):Option Bool:=
  if (decide ((aa.length:Int)=0))=true then (Zhw true) else ((Zq aa 0).bind fun ab=>Zhw (decide ((Int.tmod ab 2)=0)))
theorem Zjn {ag:Nat} {a0:Option Addr} {col:Zd} {w0:World} {ab:R2} {r:Bool} (hm:Zb8 ab=some r) (h0:Sl (Za.int .u32) col w0 a0 ag ab):
    Calls prog 289 #[.slice a0 ab.length ag] w0 (fun e w'=>e= .returned ((.bool r))∧Below w0.heap.size w0 w'):=by
 refine Xk 2 (m:=13) func289 rfl rfl rfl rfl rfl ?_;rw [Zb8.eq_1] at hm;have aa:=St.start col w0;refine Zw<|Wr<|lAB rfl<|Zm<|Zw ?_;replace h0:=h0.keep (Zl.start col w0);refine Wp.cutK [1000000] (fun f ah=>∃ ai ac,Zhw ac=some r∧St w0 (Zj col) ai ah∧[2].map f=[.bool ac]) ?_ ?_
 ·intro f ah hJ;obtain ⟨ai,ac,hm,aa,hs⟩:=hJ;rw [Zhw.eq_1] at hm;refine .lL [2] hs<|W7 ?_;cases hm;exact ⟨rfl,rfl,aa.below⟩
 refine go ?_;refine X1 hm (fun ad hm=>go ?_) fun ad hm=>go ?_
 ·refine lV (.bool true) (Xs (congrArg Value.bool ad) rfl)<|go ?_;exact ⟨rfl,_,_,hm,aa,rfl⟩
 obtain ⟨ae,af,hm⟩:=bZ hm;refine lI af ((h0.ks aa).addr af) ?_;refine go ?_;refine lW ((h0.ks aa).atInt af)<|go ?_;refine lV (.int .u32 (Int.tmod ae 2)) (Sn ae 2 rfl rfl (by decide))<|go ?_;refine lV (.bool (decide ((Int.tmod ae 2)=0))) (Xl (congrArg Value.bool ad) rfl)<|go ?_;exact ⟨rfl,_,_,hm,aa,rfl⟩
def Zdu (N:Nat) (ac:List Int):Nat→R2→Int→Int→Option R2
  | 0,_,_,_=>none
  | af+1,ab,ad,aa=>if (decide (0≤aa))=true then ((Zq ac aa).bind fun ae=>(Zq ab aa).bind fun ai=>(some (ab.set (Int.toNat aa) (u32.wrap (u64.wrap (Int.tdiv (u64.wrap ((u64.wrap (ad * 4294967296))+(u64.wrap ae))) 2))))).bind fun ag=>(Zdu N ac af) ag (Int.tmod (u64.wrap ((u64.wrap (ad * 4294967296))+(u64.wrap ae))) 2) (i64.wrap (aa - 1))) else ((Uj N ab).bind fun ah=>some ah)
termination_by structural x=>x
def Zb9 (N:Nat) (aa:List Int):Option R2:=
  Zz (aa.length * 4≤281474976710656∧aa.length≤maxLen) (Zdu N aa N (List.replicate aa.length (0:Int)) 0 (i64.wrap ((aa.length:Int) - 1)))
theorem Zjo {N au:Nat} {a0:Option Addr} {col:Zd} {w0:World} {ag r:R2} (c1:Nat) (hm:Zb9 N ag=some r) (h0:Sl (Za.int .u32) col w0 a0 au ag):
    Calls prog 290 #[.slice a0 ag.length au] w0 (fun e w'=>∃ (col':Zd) (ra1:Option Addr) (rc2:Nat),e= .returned ((.slice ra1 r.length rc2))∧Zi col w0 col' w'∧Zc (Za.int .u32) 79 c1 col' w' ra1 rc2 r):=by
 refine Xk 2 (m:=34) func290 rfl rfl rfl rfl rfl ?_;rw [Zb9.eq_1] at hm;have aa:=St.start col w0;refine go ?_;obtain ⟨av,hm⟩:=Z3 hm;refine Qo (col:=(Zj col)) (w:=w0) (r:=(Za.int .u32)) (n:=ag.length) (x0:=0) 1 rfl underlying43 Tryz.t79 rfl rfl rfl rfl rfl rfl rfl av.1 av.2 (V3 .u32 0) ?_;intro a4 a5 a6 ax ay;refine go ?_;replace aa:=aa.grow ax;refine Z8 [0,1000000] (fun n f aj=>∃ ac ah ai ad ab ak ae,ae=n∧Zdu N ag ae ad ab ak=some r∧St w0 (Zj col) ac aj∧Zc (Za.int .u32) 79 1 ac aj ah ai ad∧[3,4,5].map f=[.slice ah ad.length ai,.int .u64 ab,.int .i64 ak]) N ⟨_,_,_,_,0,_,_,rfl,hm,aa,ay,rfl⟩ ?_;clear hm;intro n f aj hI;obtain ⟨ac,ah,ai,ad,ab,ak,ae,hn,hm,aa,an,hs⟩:=hI;subst hn;refine .lL [3,4,5] hs ?_;replace h0:=h0.keep (Zl.start col w0)
 cases ae with
 | zero=>rw [Zdu.eq_1] at hm;cases hm
 | succ ae=>
  rw [Zdu.eq_2] at hm;refine go ?_;refine Zr hm (fun hb hm=>go ?_) fun hb hm=>go ?_
  ·obtain ⟨af,ao,hm⟩:=bZ hm;refine lI ao ((h0.ks aa).addr ao)<|lW ((h0.ks aa).atInt ao) ?_;refine go ?_;refine lV (.int .u64 (u64.wrap (Int.tdiv (u64.wrap ((u64.wrap (ab * 4294967296))+(u64.wrap af))) 2))) (V2 (u64.wrap ((u64.wrap (ab * 4294967296))+(u64.wrap af))) 2 rfl rfl (by decide))<|go ?_;obtain ⟨a7,ap,hm⟩:=bZ hm;refine lI ap (an.addr ap) ?_;obtain ⟨aq,al,hm⟩:=bZ hm;have al:aq=ad.set (Int.toNat ak) (u32.wrap (u64.wrap (Int.tdiv (u64.wrap ((u64.wrap (ab * 4294967296))+(u64.wrap af))) 2))):=(Option.some.inj al).symm;refine Wd (x1:=u32.wrap (u64.wrap (Int.tdiv (u64.wrap ((u64.wrap (ab * 4294967296))+(u64.wrap af))) 2))) an ap ?_;intro a8 az a1 aw;rw [← al] at aw;refine .ld (d:=3) (v:=(.slice ah aq.length ai)) (congrArg (fun n=>Value.slice ah n ai) (show ad.length=aq.length by rw [al,nS])) ?_;refine go ?_;refine lV (.int .u64 (Int.tmod (u64.wrap ((u64.wrap (ab * 4294967296))+(u64.wrap af))) 2)) (Sn (u64.wrap ((u64.wrap (ab * 4294967296))+(u64.wrap af))) 2 rfl rfl (by decide))<|go ?_;replace aa:=aa.kp az a1;exact ⟨ae,by omega,rfl,⟨_,_,_,_,_,_,_,rfl,hm,aa,aw,rfl⟩⟩
  obtain ⟨a9,a2,hm⟩:=bZ hm;refine Zh (Ty 2 a2 (an.toSlF (Zg.int .u32))) ?_;rintro _ ba ⟨a3,bb,bc,rfl,am,ar⟩;refine ⟨_,rfl,?_⟩;replace ar:=ar.thaw (Z0 .u32) am ((Fz.refl (col:=ac)).froz 1) (by decide);replace am:=am.thawR (col:=ac);generalize Xc aj.heap.size ac a3=bd at *;refine go ?_;cases hm;replace aa:=aa.grow am;exact ⟨rfl,_,_,_,rfl,aa.fin (cm [(2,c1)]),aa.fo ar⟩
def Zf0 (N:Nat) (kk_L2:(List Int→R2→Option R2)) (aa:List Int) (ab:List Int):Option R2:=
  (Zf3 N ab aa).bind fun ac=>kk_L2 aa ac.1
def Zhv (N:Nat) (kk_L2:(List Int→R2→Option R2)) (ab:List Int) (aa:List Int) (kk_L4:(List Int→Option R2)) (ac:Bool):Option R2:=
  if ac=true then ((Zb9 N aa).bind fun ad=>kk_L4 ad) else ((Zdp N ab aa).bind fun ae=>if (decide (0<ae))=true then (Zf0 N kk_L2 aa ab) else (Zf0 N kk_L2 ab aa))
def Q2 (N:Nat) (kk_L2:(List Int→R2→Option R2)) (aa:List Int):Nat→R2→Option R2
  | 0,_=>none
  | ac+1,ab=>if (decide (0<(ab.length:Int)))=true then ((Zb8 ab).bind fun ad=>Zhv N kk_L2 aa ab (Q2 N kk_L2 aa ac) ad) else (Zhv N kk_L2 aa ab (Q2 N kk_L2 aa ac) false)
termination_by structural x=>x
def Zdr (N:Nat) (ab:List Int) (kk_L2:(List Int→R2→Option R2)):Nat→R2→Option R2
  | 0,_=>none
  | ac+1,aa=>(Zb8 aa).bind fun ad=>if ad=true then ((Zb9 N aa).bind fun ae=>(Zdr N ab kk_L2 ac) ae) else (Q2 N kk_L2 aa N ab)
termination_by structural x=>x
def Zds (N:Nat) (aa:Int):Nat→R2→Int→Option R2
  | 0,_,_=>none
  | ad+1,ab,ac=>if (decide (ac<aa))=true then ((Zf5 N ab 0).bind fun ae=>(Zds N aa ad) ae (i64.wrap (ac+1))) else (some ab)
termination_by structural x=>x
def Vx (N:Nat) (aa:Int):Nat→R2→R2→Option R2
  | 0,_,_=>none
  | ad+1,ab,ac=>if (decide (0<(ac.length:Int)))=true then (Zdr N ac (Vx N aa ad) N ab) else (Zds N aa N ab 0)
termination_by structural x=>x
def Zfz (N:Nat) (aa:List Int) (ab:List Int) (ac:Int) (kk_L1:(List Int→R2→Int→Option R2)) (ad:Bool):Option R2:=
  if ad=true then ((Zb9 N aa).bind fun ae=>(Zb9 N ab).bind fun af=>kk_L1 ae af (i64.wrap (ac+1))) else (Vx N ac N aa ab)
def Za3 (N:Nat):Nat→R2→R2→Int→Option R2
  | 0,_,_,_=>none
  | ac+1,aa,ab,ad=>(Zb8 aa).bind fun ae=>if ae=true then ((Zb8 ab).bind fun af=>Zfz N aa ab ad (Za3 N ac) af) else (Zfz N aa ab ad (Za3 N ac) false)
termination_by structural x=>x
def Zhu (N:Nat) (ac:List Int) (ad:List Int):Option R2:=
  (Uj N ac).bind fun aa=>(Uj N ad).bind fun ab=>if (decide ((aa.length:Int)=0))=true then (some ab) else (if (decide ((ab.length:Int)=0))=true then (some aa) else (Za3 N N aa ab 0))
theorem Zxm {N cs ct:Nat} {a0 a1:Option Addr} {col:Zd} {w0:World} {cb cc r:R2} (c1:Nat) (hm:Zhu N cb cc=some r) (h0:Sl (Za.int .u32) col w0 a0 cs cb) (h1:Sl (Za.int .u32) col w0 a1 ct cc):
    Calls prog 271 #[.slice a0 cb.length cs,.slice a1 cc.length ct] w0 (fun e w'=>∃ (col':Zd) (ra1:Option Addr) (rc2:Nat),e= .returned ((.slice ra1 r.length rc2))∧Zi col w0 col' w'∧Zc (Za.int .u32) 79 c1 col' w' ra1 rc2 r):=by
 refine Xk 4 (m:=69) func271 rfl rfl rfl rfl rfl ?_;rw [Zhu.eq_1] at hm;have aa:=St.start col w0;refine go ?_;obtain ⟨dv,c3,hm⟩:=bZ hm;replace h0:=h0.keep (Zl.start col w0);refine Zh (Ty 1 c3 (h0.ks aa)) ?_;rintro _ dw ⟨dx,dy,dz,rfl,c4,bs⟩;refine ⟨_,rfl,go ?_⟩;obtain ⟨d0,c5,hm⟩:=bZ hm;replace h1:=h1.keep (Zl.start col w0);replace aa:=aa.grow c4;refine Zh (Ty 2 c5 (h1.ks aa)) ?_;rintro _ d1 ⟨d2,d3,d4,rfl,cu,cv⟩;refine ⟨_,rfl,go ?_⟩;replace bs:=bs.gr cu;replace aa:=aa.grow cu;refine Zr hm (fun hb hm=>go ?_) fun hb hm=>go ?_
 ·cases hm;exact ⟨rfl,_,_,_,rfl,aa.fin (cm [(2,c1)]),aa.fo cv⟩
 refine Zr hm (fun hb hm=>go ?_) fun hb hm=>go ?_
 ·cases hm;exact ⟨rfl,_,_,_,rfl,aa.fin (cm [(1,c1)]),aa.fo bs⟩
 refine Z8 [1000000] (fun n f a6=>∃ am bt bu au bv bw av ae an,an=n∧Za3 N an au av ae=some r∧St w0 (Zj col) am a6∧Zc (Za.int .u32) 79 1 am a6 bt bu au∧Zc (Za.int .u32) 79 2 am a6 bv bw av∧[5,6,7].map f=[.slice bt au.length bu,.slice bv av.length bw,.int .i64 ae]) N ⟨_,_,_,_,_,_,_,0,_,rfl,hm,aa,bs,cv,rfl⟩ ?_;clear hm;intro n f a6 hI;obtain ⟨am,bt,bu,au,bv,bw,av,ae,an,hn,hm,aa,ag,ad,hs⟩:=hI;subst hn;refine .lL [5,6,7] hs ?_
 cases an with
 | zero=>rw [Za3.eq_1] at hm;cases hm
 | succ an=>
  rw [Za3.eq_2] at hm;refine Zw<|Zw ?_;refine Wp.cutK [5,6,7,1000000] (fun f a7=>∃ ao cd,Zfz N au av ae (Za3 N an) cd=some r∧St w0 (Zj col) ao a7∧Zc (Za.int .u32) 79 1 ao a7 bt bu au∧Zc (Za.int .u32) 79 2 ao a7 bv bw av∧[26].map f=[.bool cd]) ?_ ?_
  ·intro f a7 hJ;obtain ⟨ao,cd,hm,aa,ag,ad,hs⟩:=hJ;rw [Zfz.eq_1] at hm;refine .lL [26] hs ?_;refine Zr hm (fun hb hm=>go ?_) fun hb hm=>go ?_
   ·obtain ⟨d5,c6,hm⟩:=bZ hm;refine Zh (Zjo 3 c6 (ag.toSlF (Zg.int .u32))) ?_;rintro _ c7 ⟨c8,d6,d7,rfl,a8,ai⟩;refine ⟨_,rfl,?_⟩;replace ai:=ai.thaw (Z0 .u32) a8 ((Fz.refl (col:=ao)).froz 1) (by decide);replace a8:=a8.thawR (col:=ao);generalize Xc a7.heap.size ao c8=ce at *;refine go ?_;obtain ⟨d8,c9,hm⟩:=bZ hm;replace ad:=ad.gr a8;refine Zh (Zjo 4 c9 (ad.toSlF (Zg.int .u32))) ?_;rintro _ d9 ⟨da,ea,eb,rfl,a9,ap⟩;refine ⟨_,rfl,?_⟩;replace ap:=ap.thaw (Z0 .u32) a9 ((Fz.refl (col:=ce)).froz 2) (by decide);replace a9:=a9.thawR (col:=ce);generalize Xc c7.heap.size ce da=ec at *;refine go ?_;replace ai:=ai.gr a9;replace ai:=ai.recolSelf 1 (by decide);replace ap:=ap.recol 3 1 (by decide);replace aa:=(aa.grow a8).grow a9;replace aa:=aa.recol 3 1 (by decide) (by decide);replace ai:=ai.recol 4 2 (by decide);replace ap:=ap.recolSelf 2 (by decide);replace aa:=aa.recol 4 2 (by decide) (by decide);exact ⟨an,by omega,rfl,⟨_,_,_,_,_,_,_,_,_,rfl,hm,aa,ai,ap,rfl⟩⟩
   refine Z8 [7,1000000] (fun n f bx=>∃ bz cf cg b0 b1 b2 aw af,af=n∧Vx N ae af b0 aw=some r∧St w0 (Zj col) bz bx∧Zc (Za.int .u32) 79 1 bz bx cf cg b0∧Zc (Za.int .u32) 79 2 bz bx b1 b2 aw∧[5,6].map f=[.slice cf b0.length cg,.slice b1 aw.length b2]) N ⟨_,_,_,_,_,_,_,_,rfl,hm,aa,ag,ad,rfl⟩ ?_;clear hm;intro n f bx hI;obtain ⟨bz,cf,cg,b0,b1,b2,aw,af,hn,hm,aa,cw,ah,hs⟩:=hI;subst hn;refine .lL [5,6] hs ?_
   cases af with
   | zero=>rw [Vx.eq_1] at hm;cases hm
   | succ af=>
    rw [Vx.eq_2] at hm;refine go ?_;refine Zr hm (fun hb hm=>go ?_) fun hb hm=>go ?_
    ·refine Z8 [6,7,1000000] (fun n f ba=>∃ aj bb bc ak ax,ax=n∧Zdr N aw (Vx N ae af) ax ak=some r∧St w0 (Zj col) aj ba∧Zc (Za.int .u32) 79 1 aj ba bb bc ak∧Zc (Za.int .u32) 79 2 aj ba b1 b2 aw∧[5].map f=[.slice bb ak.length bc]) N ⟨_,_,_,_,_,rfl,hm,aa,cw,ah,rfl⟩ ?_;clear hm;intro n f ba hI;obtain ⟨aj,bb,bc,ak,ax,hn,hm,aa,ab,ah,hs⟩:=hI;subst hn;refine .lL [5] hs ?_
     cases ax with
     | zero=>rw [Zdr.eq_1] at hm;cases hm
     | succ ax=>
      rw [Zdr.eq_2] at hm;refine go ?_;obtain ⟨ed,db,hm⟩:=bZ hm;refine Zh (Zjn db (ab.toSlF (Zg.int .u32))) ?_;rintro _ cx ⟨rfl,bd⟩;refine ⟨_,rfl,?_⟩;replace bd:Zi aj ba aj cx:=.of_below bd;refine Zm ?_;replace ab:=ab.gr bd;replace ah:=ah.gr bd;replace aa:=aa.grow bd;refine Zr hm (fun hb hm=>go ?_) fun hb hm=>go ?_
      ·obtain ⟨ee,dc,hm⟩:=bZ hm;refine Zh (Zjo 5 dc (ab.toSlF (Zg.int .u32))) ?_;rintro _ ef ⟨dd,eg,eh,rfl,be,bf⟩;refine ⟨_,rfl,?_⟩;replace bf:=bf.thaw (Z0 .u32) be ((Fz.refl (col:=aj)).froz 1) (by decide);replace be:=be.thawR (col:=aj);generalize Xc cx.heap.size aj dd=ei at *;refine go ?_;replace ah:=ah.gr be;replace ah:=ah.recol 5 1 (by decide);replace bf:=bf.recolSelf 1 (by decide);replace aa:=aa.grow be;replace aa:=aa.recol 5 1 (by decide) (by decide);exact ⟨ax,by omega,rfl,⟨_,_,_,_,_,rfl,hm,aa,bf,ah,rfl⟩⟩
      refine Z8 [5,7,1000000] (fun n f bg=>∃ ay b3 b4 az aq,aq=n∧Q2 N (Vx N ae af) ak aq az=some r∧St w0 (Zj col) ay bg∧Zc (Za.int .u32) 79 1 ay bg bb bc ak∧Zc (Za.int .u32) 79 2 ay bg b3 b4 az∧[6].map f=[.slice b3 az.length b4]) N ⟨_,_,_,_,_,rfl,hm,aa,ab,ah,rfl⟩ ?_;clear hm;intro n f bg hI;obtain ⟨ay,b3,b4,az,aq,hn,hm,aa,ab,ac,hs⟩:=hI;subst hn;refine .lL [6] hs ?_
      cases aq with
      | zero=>rw [Q2.eq_1] at hm;cases hm
      | succ aq=>
       rw [Q2.eq_2] at hm;refine Zw<|Zw ?_;refine Wp.cutK [5,6,7,1000000] (fun f a2=>∃ al ch,Zhv N (Vx N ae af) ak az (Q2 N (Vx N ae af) ak aq) ch=some r∧St w0 (Zj col) al a2∧Zc (Za.int .u32) 79 1 al a2 bb bc ak∧Zc (Za.int .u32) 79 2 al a2 b3 b4 az∧[46].map f=[.bool ch]) ?_ ?_
       ·intro f a2 hJ;obtain ⟨al,ch,hm,aa,ab,ac,hs⟩:=hJ;rw [Zhv.eq_1] at hm;refine .lL [46] hs ?_;refine Zr hm (fun hb hm=>go ?_) fun hb hm=>?_
        ·obtain ⟨ej,de,hm⟩:=bZ hm;refine Zh (Zjo 6 de (ac.toSlF (Zg.int .u32))) ?_;rintro _ ek ⟨df,el,em,rfl,bh,bi⟩;refine ⟨_,rfl,?_⟩;replace bi:=bi.thaw (Z0 .u32) bh ((Fz.refl (col:=al)).froz 2) (by decide);replace bh:=bh.thawR (col:=al);generalize Xc a2.heap.size al df=en at *;refine go ?_;replace ab:=ab.gr bh;replace ab:=ab.recol 6 2 (by decide);replace bi:=bi.recolSelf 2 (by decide);replace aa:=aa.grow bh;replace aa:=aa.recol 6 2 (by decide) (by decide);exact ⟨aq,by omega,rfl,⟨_,_,_,_,_,rfl,hm,aa,ab,bi,rfl⟩⟩
        refine Zeb (Zcv ?_);refine Zw ?_;refine Wp.cutK [7,1000000] (fun f bj=>∃ ar ci cj b5 ck cl b6,Zf0 N (Vx N ae af) b5 b6=some r∧St w0 (Zj col) ar bj∧Zc (Za.int .u32) 79 1 ar bj ci cj b5∧Zc (Za.int .u32) 79 2 ar bj ck cl b6∧[5,6].map f=[.slice ci b5.length cj,.slice ck b6.length cl]) ?_ ?_
        ·intro f bj hJ;obtain ⟨ar,ci,cj,b5,ck,cl,b6,hm,aa,a3,dg,hs⟩:=hJ;rw [Zf0.eq_1] at hm;refine .lL [5,6] hs<|go ?_;obtain ⟨b7,dh,hm⟩:=bZ hm;refine Zh (Zpu 7 dh ((dg.toSlF (Zg.int .u32)).froz 1) ((a3.froz 2 (by decide)).toSlF (Zg.int .u32))) ?_;rintro _ eo ⟨di,cy,cz,rfl,bk,bm⟩;refine ⟨_,rfl,?_⟩;replace bm:=bm.thaw (Z0 .u32) bk (((Fz.refl (col:=ar)).froz 2).froz 1) (by decide);replace bk:=bk.thawR (col:=ar);generalize Xc bj.heap.size ar di=ep at *;refine lM (.tuple #[.slice cy b7.1.length cz,.bool b7.2])<|lV (.slice cy b7.1.length cz) (Xe rfl rfl)<|lV (.bool b7.2) (Xe rfl rfl)<|go ?_;replace a3:=a3.gr bk;replace a3:=a3.recol 7 2 (by decide);replace bm:=bm.recolSelf 2 (by decide);replace aa:=aa.grow bk;replace aa:=aa.recol 7 2 (by decide) (by decide);exact ⟨af,by omega,rfl,⟨_,_,_,_,_,_,_,_,rfl,hm,aa,a3,bm,rfl⟩⟩
        refine go ?_;obtain ⟨eq,dj,hm⟩:=bZ hm;refine Zh (Zmj dj ((ab.toSlF (Zg.int .u32)).froz 2) ((ac.froz 1 (by decide)).toSlF (Zg.int .u32))) ?_;rintro _ dk ⟨rfl,bn⟩;refine ⟨_,rfl,?_⟩;replace bn:Zi al a2 al dk:=.of_below bn;refine go ?_;replace ab:=ab.gr bn;replace ac:=ac.gr bn;replace aa:=aa.grow bn;refine Zr hm (fun hb hm=>go ?_) fun hb hm=>?_
        ·replace ac:=ac.recol 1 8 (by decide);replace ab:=ab.recolSelf 8 (by decide);replace aa:=aa.recol 1 8 (by decide) (by decide);replace ac:=ac.recolSelf 1 (by decide);replace ab:=ab.recol 2 1 (by decide);replace aa:=aa.recol 2 1 (by decide) (by decide);replace ac:=ac.recol 8 2 (by decide);replace ab:=ab.recolSelf 2 (by decide);replace aa:=aa.recol 8 2 (by decide) (by decide);exact ⟨rfl,_,_,_,_,_,_,_,hm,aa,ac,ab,rfl⟩
        refine X8 ?_;exact ⟨rfl,_,_,_,_,_,_,_,hm,aa,ab,ac,rfl⟩
       refine go ?_;refine X1 hm (fun cn hm=>go ?_) fun cn hm=>go ?_
       ·obtain ⟨dl,dm,hm⟩:=bZ hm;refine Zh (Zjn dm (ac.toSlF (Zg.int .u32))) ?_;rintro _ dn ⟨rfl,bo⟩;refine ⟨_,rfl,?_⟩;replace bo:Zi ay bg ay dn:=.of_below bo;refine lV (.bool dl) (Xs (congrArg Value.bool cn) rfl)<|Zm ?_;replace ab:=ab.gr bo;replace ac:=ac.gr bo;replace aa:=aa.grow bo;exact ⟨rfl,_,_,hm,aa,ab,ac,rfl⟩
       refine lV (.bool false) (Xl (congrArg Value.bool cn) rfl)<|Zm ?_;exact ⟨rfl,_,_,hm,aa,ab,ac,rfl⟩
    refine Z8 [7,1000000] (fun n f b8=>∃ a4 co cp b9 cq a5,a5=n∧Zds N ae a5 b9 cq=some r∧St w0 (Zj col) a4 b8∧Zc (Za.int .u32) 79 1 a4 b8 co cp b9∧[5,8].map f=[.slice co b9.length cp,.int .i64 cq]) N ⟨_,_,_,_,0,_,rfl,hm,aa,cw,rfl⟩ ?_;clear hm;intro n f b8 hI;obtain ⟨a4,co,cp,b9,cq,a5,hn,hm,aa,c0,hs⟩:=hI;subst hn;refine .lL [5,8] hs ?_
    cases a5 with
    | zero=>rw [Zds.eq_1] at hm;cases hm
    | succ a5=>
     rw [Zds.eq_2] at hm;refine go ?_;refine Zr hm (fun hb hm=>go ?_) fun hb hm=>go ?_
     ·obtain ⟨er,dp,hm⟩:=bZ hm;refine Zh (Zpv 9 dp (c0.toSlF (Zg.int .u32))) ?_;rintro _ es ⟨dq,et,eu,rfl,ca,bp⟩;refine ⟨_,rfl,?_⟩;replace bp:=bp.thaw (Z0 .u32) ca ((Fz.refl (col:=a4)).froz 1) (by decide);replace ca:=ca.thawR (col:=a4);generalize Xc b8.heap.size a4 dq=ew at *;refine go ?_;replace bp:=bp.recolSelf 1 (by decide);replace aa:=aa.grow ca;replace aa:=aa.recol 9 1 (by decide) (by decide);exact ⟨a5,by omega,rfl,⟨_,_,_,_,_,_,rfl,hm,aa,bp,rfl⟩⟩
     cases hm;exact ⟨rfl,_,_,_,rfl,aa.fin (cm [(1,c1)]),aa.fo c0⟩
  refine go ?_;obtain ⟨ey,dr,hm⟩:=bZ hm;refine Zh (Zjn dr (ag.toSlF (Zg.int .u32))) ?_;rintro _ c2 ⟨rfl,bq⟩;refine ⟨_,rfl,?_⟩;replace bq:Zi am a6 am c2:=.of_below bq;refine Y6 rfl ?_;replace ag:=ag.gr bq;replace ad:=ad.gr bq;replace aa:=aa.grow bq;refine X1 hm (fun cr hm=>go ?_) fun cr hm=>go ?_
  ·obtain ⟨ds,dt,hm⟩:=bZ hm;refine Zh (Zjn dt (ad.toSlF (Zg.int .u32))) ?_;rintro _ du ⟨rfl,br⟩;refine ⟨_,rfl,?_⟩;replace br:Zi am c2 am du:=.of_below br;refine lV (.bool ds) (Xs (congrArg Value.bool cr) rfl)<|Zm ?_;replace ag:=ag.gr br;replace ad:=ad.gr br;replace aa:=aa.grow br;exact ⟨rfl,_,_,hm,aa,ag,ad,rfl⟩
  refine lV (.bool false) (Xl (congrArg Value.bool cr) rfl)<|Zm ?_;exact ⟨rfl,_,_,hm,aa,ag,ad,rfl⟩
def Zhr (af:List Int) (ag:List Int) (ad:List Int) (aa:Int) (ae:Int) (kk_L1:(List Int→Int→Int→Option R2)):Option R2:=
  (Qb af ae).bind fun ab=>(Qb ag ae).bind fun ac=>Zz ((ad.length+[u32.wrap (Int.tmod (u64.wrap ((u64.wrap (aa+ab))+ac)) 4294967296)].length) * 4≤140737488355328∧ad.length+[u32.wrap (Int.tmod (u64.wrap ((u64.wrap (aa+ab))+ac)) 4294967296)].length≤maxLen) (kk_L1 (ad++[u32.wrap (Int.tmod (u64.wrap ((u64.wrap (aa+ab))+ac)) 4294967296)]) (u64.wrap (Int.tdiv (u64.wrap ((u64.wrap (aa+ab))+ac)) 4294967296)) (i64.wrap (ae+1)))
def Zb7 (N:Nat) (ab:List Int) (ac:List Int) (aa:List Int) (ad:Int) (ae:Int) (kk_L1:(List Int→Int→Int→Option R2)) (af:Bool):Option R2:=
  if af=true then (Zhr ab ac aa ad ae kk_L1) else ((Uj N aa).bind fun ag=>some ag)
def Sd (N:Nat) (aa:List Int) (ab:List Int):Nat→R2→Int→Int→Option R2
  | 0,_,_,_=>none
  | ae+1,af,ad,ac=>if (decide (ac<(aa.length:Int)))=true then (Zb7 N aa ab af ad ac (Sd N aa ab ae) true) else (if (decide (ac<(ab.length:Int)))=true then (Zb7 N aa ab af ad ac (Sd N aa ab ae) true) else (Zb7 N aa ab af ad ac (Sd N aa ab ae) (decide (0<ad))))
termination_by structural x=>x
def Zhq (N:Nat) (aa:List Int) (ab:List Int):Option R2:=
  Sd N aa ab N ([]:List Int) 0 0
theorem Zxj {N a3 a4:Nat} {a0 a1:Option Addr} {col:Zd} {w0:World} {ae ad r:R2} (c1:Nat) (hm:Zhq N ae ad=some r) (h0:Sl (Za.int .u32) col w0 a0 a3 ae) (h1:Sl (Za.int .u32) col w0 a1 a4 ad):
    Calls prog 227 #[.slice a0 ae.length a3,.slice a1 ad.length a4] w0 (fun e w'=>∃ (col':Zd) (ra1:Option Addr) (rc2:Nat),e= .returned ((.slice ra1 r.length rc2))∧Zi col w0 col' w'∧Zc (Za.int .u32) 79 c1 col' w' ra1 rc2 r):=by
 refine Xk 4 (m:=43) func227 rfl rfl rfl rfl rfl ?_;rw [Zhq.eq_1] at hm;have aa:=St.start col w0;refine go ?_;refine Z8 [0,1,1000000] (fun n f av=>∃ aw ak al af ab ai ag,ag=n∧Sd N ae ad ag af ab ai=some r∧St w0 (Zj col) aw av∧Zc (Za.int .u32) 79 1 aw av ak al af∧[5,6,7].map f=[.slice ak af.length al,.int .u64 ab,.int .i64 ai]) N ⟨_,none,0,_,0,0,_,rfl,hm,aa,Zc.nil,rfl⟩ ?_;clear hm;intro n f av hI;obtain ⟨aw,ak,al,af,ab,ai,ag,hn,hm,aa,ac,hs⟩:=hI;subst hn;refine .lL [5,6,7] hs ?_;replace h0:=h0.keep (Zl.start col w0);replace h1:=h1.keep (Zl.start col w0)
 cases ag with
 | zero=>rw [Sd.eq_1] at hm;cases hm
 | succ ag=>
  rw [Sd.eq_2] at hm;refine Zw ?_;refine Wp.cutK [0,1,5,6,7,1000000] (fun f ao=>∃ ah,Zhr ae ad af ab ai (Sd N ae ad ag)=some r∧St w0 (Zj col) ah ao∧Zc (Za.int .u32) 79 1 ah ao ak al af) ?_ ?_
  ·intro f ao hJ;obtain ⟨ah,hm,aa,ac⟩:=hJ;rw [Zhr.eq_1] at hm;refine go ?_;obtain ⟨am,a7,hm⟩:=bZ hm;refine Zh (Zcs a7 (h0.ks aa)) ?_;rintro _ a5 ⟨rfl,ap⟩;refine ⟨_,rfl,?_⟩;replace ap:Zi ah ao ah a5:=.of_below ap;refine go ?_;obtain ⟨an,a8,hm⟩:=bZ hm;replace aa:=aa.grow ap;refine Zh (Zcs a8 (h1.ks aa)) ?_;rintro _ a9 ⟨rfl,aq⟩;refine ⟨_,rfl,?_⟩;replace aq:Zi ah a5 ah a9:=.of_below aq;refine go ?_;refine lV (.int .u64 (Int.tmod (u64.wrap ((u64.wrap (ab+am))+an)) 4294967296)) (Sn (u64.wrap ((u64.wrap (ab+am))+an)) 4294967296 rfl rfl (by decide))<|go ?_;refine Vr (col:=ah) [u32.wrap (Int.tmod (u64.wrap ((u64.wrap (ab+am))+an)) 4294967296)] 2 ?_;intro bg bh bi a6 ba;obtain ⟨bb,hm⟩:=Z3 hm;replace ac:=((ac.gr ap).gr aq).gr a6;refine Vq ac (ba.srcN (NB.int (k:=.u32))) bb ?_;intro bj bk bm bn bc bd;refine go ?_;refine lV (.int .u64 (u64.wrap (Int.tdiv (u64.wrap ((u64.wrap (ab+am))+an)) 4294967296))) (V2 (u64.wrap ((u64.wrap (ab+am))+an)) 4294967296 rfl rfl (by decide))<|go ?_;replace aa:=((aa.grow aq).grow a6).kpp bc;exact ⟨ag,by omega,rfl,⟨_,_,_,_,_,_,_,rfl,hm,aa,bd,rfl⟩⟩
  refine Zw ?_;refine Wp.cutK [0,1,5,6,7,1000000] (fun f ar=>∃ aj ax,Zb7 N ae ad af ab ai (Sd N ae ad ag) ax=some r∧St w0 (Zj col) aj ar∧Zc (Za.int .u32) 79 1 aj ar ak al af∧[21].map f=[.bool ax]) ?_ ?_
  ·intro f ar hJ;obtain ⟨aj,ax,hm,aa,ac,hs⟩:=hJ;rw [Zb7.eq_1] at hm;refine .lL [21] hs ?_;refine Zr hm (fun hb hm=>?_) fun hb hm=>go ?_
   ·refine X8 ?_;exact ⟨rfl,_,hm,aa,ac⟩
   obtain ⟨bo,be,hm⟩:=bZ hm;refine Zh (Ty 3 be (ac.toSlF (Zg.int .u32))) ?_;rintro _ bp ⟨bf,bq,br,rfl,au,ay⟩;refine ⟨_,rfl,?_⟩;replace ay:=ay.thaw (Z0 .u32) au ((Fz.refl (col:=aj)).froz 1) (by decide);replace au:=au.thawR (col:=aj);generalize Xc ar.heap.size aj bf=bs at *;refine go ?_;cases hm;replace aa:=aa.grow au;exact ⟨rfl,_,_,_,rfl,aa.fin (cm [(3,c1)]),aa.fo ay⟩
  refine go ?_;refine X1 hm (fun az hm=>go ?_) fun az hm=>go ?_
  ·refine lV (.bool true) (Xs (congrArg Value.bool az) rfl)<|Y6 rfl<|lP 18 rfl rfl<|lP 18 rfl rfl<|lV (.bool true) (Xs rfl rfl)<|Zm ?_;exact ⟨rfl,_,_,hm,aa,ac,rfl⟩
  refine lV (.bool (decide (ai<(ad.length:Int)))) (Xl (congrArg Value.bool az) rfl)<|Y6 rfl ?_;refine X1 hm (fun a2 hm=>go ?_) fun a2 hm=>go ?_
  ·refine lV (.bool true) (Xs (congrArg Value.bool a2) rfl)<|Zm ?_;exact ⟨rfl,_,_,hm,aa,ac,rfl⟩
  refine lV (.bool (decide (0<ab))) (Xl (congrArg Value.bool a2) rfl)<|Zm ?_;exact ⟨rfl,_,_,hm,aa,ac,rfl⟩

end Go.Proofs.YtbmjpjhbankpoaaGreat
