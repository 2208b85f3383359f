/-
  What functions of the program compute, as plain Lean functions (m_..), and proofs that they compute it (c_..). Printed by a program of the author; no conditions.
-/
import Derived.Test.YtkhnlgdenkikoaaGreatLearnRisesBFloat
import Derived.Test.YtkhnlgdenkikoaaGreatProg
import Derived.Test.YtkhnlgdenkikoaaGreatLearnRisesBBrief
import Derived.Test.YtkhnlgdenkikoaaGreatLearnRisesBThree
import Derived.Test.YtkhnlgdenkikoaaGreatLearnRisesF2
set_option linter.unusedVariables false
set_option maxRecDepth 100000
set_option maxHeartbeats 2000000
namespace Go.Proofs.YtkhnlgdenkikoaaGreat
open Go Go.RowKit
open Int renaming sign_eq_one_of_pos→jP,toNat→aA,tdiv→bJ,toNat_natCast→aD,natCast_mul→bU,tdiv_eq_ediv_of_nonneg→bX,natCast_ediv→iS,natCast_nonneg→eJ,ofNat_lt→gV,natCast_add→eB,tmod→cG
open Nat renaming le_trans→aU,gcd→dE,div_le_self→cU,one_mul→aX,lt_of_lt_of_le→aF,beq→aJ,lt_or_ge→cQ,min_eq_right→dI,min_eq_left→bB,div_lt_iff_lt_mul→eK,add_mul→aZ,le_mul_of_pos_right→eC,le_refl→aY,min_le_right→kU,mul_le_mul_right→bC,zero_le→bK,zero_mul→cT,add_comm→eW,add_zero→bQ,zero_add→cW,add_sub_cancel_left→gL,sub_self→fO,mul_comm→cB
open List renaming length_singleton→aL,drop_eq_nil_iff→aH,mem_cons→aP,not_mem_nil→bL,length_drop→bI,length_take→cX,mem_cons_self→aC,mem_cons_of_mem→aB,append_nil→dD,nodup_append→dP,append_assoc→bG,nil_append→aV,drop_eq_nil_of_le→aO,drop_eq_getElem_cons→aK,getElem_mem→aG,length_map→aI,take_add_one→kJ,getElem?_eq_getElem→aN,map_append→eE,take_of_length_le→bP,length_pos_iff→dH,map_cons→aQ,cons_append→bY,take_append_drop→dM,any_cons→fE,mem_map→bO,drop_take→kZ,drop_drop→dR,mem_of_mem_take→cR,mem_of_mem_drop→cM,drop_zero→aT,any_eq_false→fV,getElem_take→iI,getElem_drop→iH,append_inj'→kN,mem_range→fS,getD_eq_getElem?_getD→aE,getElem_append_right→fY,set_append_right→gT,map_nil→bN,replicate→aM,getElem?_map→cY,length_replicate→bD,length→kC
open Rat renaming mkRat_eq_div→dA,inv_eq_of_mul_eq_one→gO,not_lt→fI,lt_irrefl→dO
open Option renaming toList_some→fJ
open Go.IntKind (i8 i16 i32 i64 u8 u16 u32 u64)
open Go.Proofs.Tryz

def Zh3 (N:Nat) (aa:R5) (ab:R5):Option R5:=
  (Zke N aa.2 ab.2).bind fun ad=>(Qp N (!decide (aa.1=ab.1)) ad).bind fun ac=>some (ac.1,ac.2)
theorem Zub {N ar au:Nat} {av aw:Option Addr} {col:Ze} {w0:World} {ag ah r:R5} (c1:Nat) (hm:Zh3 N ag ah=some r) (al:Sl (Za.int .u32) col w0 av ar ag.2) (am:Sl (Za.int .u32) col w0 aw au ah.2):
    Calls prog 122 #[(.agg #[.bool ag.1,.slice av ag.2.length ar]),(.agg #[.bool ah.1,.slice aw ah.2.length au])] w0 (fun e w'=>∃ (col':Ze) (ra1:Option Addr) (rc2:Nat),e= .returned ((.agg #[.bool r.1,.slice ra1 r.2.length rc2]))∧Zh col w0 col' w'∧Zb (Za.int .u32) 95 c1 col' w' ra1 rc2 r.2):=by
 refine Wq (m:=16) func122 rfl rfl rfl ?_;rw [Zh3.eq_1] at hm;have aa:=St.start col w0;refine go ?_;refine Xs (col:=(Zk col)) 1 rfl ?_;intro a7 a8 az a0 ai;refine Xs (col:=az) 2 rfl ?_;intro a9 ba a1 ax aj;refine Xr (col:=a1) #[.bool false,.slice none (([]:List Int).length) 0] 3 zeroValue37 ?_;intro bb bc ad an ab;refine go ?_;refine W7 (col:=ad) [(0,1),(1,0),(2,1),(3,0),(4,1),(5,1),(6,0),(7,1),(8,0),(9,3),(10,3),(11,2)] (by kernel_rfl) (by kernel_rfl)<|xF ⟨_,_,rfl⟩ ?_;replace ai:=(ai.gr ax).gr an;refine xW (fun _ hC=>((ai.atN).nth (q:=0) rfl).gr (hC.bl ad)) ?_;refine xF ⟨_,_,rfl⟩ ?_;replace aj:=aj.gr an;refine xW (fun _ hC=>((aj.atN).nth (q:=0) rfl).gr (hC.bl ad)) ?_;refine xu rfl rfl (fun _=>Zit _ _ underlying4 rfl rfl) ?_;refine xF ⟨_,_,rfl⟩ ?_;refine xW (fun _ hC=>((ai.atN).nth (q:=1) rfl).gr (hC.bl ad)) ?_;refine xF ⟨_,_,rfl⟩ ?_;refine xW (fun _ hC=>((aj.atN).nth (q:=1) rfl).gr (hC.bl ad)) ?_;refine xe rfl rfl ?_;intro bd hC0;have hC:=hC0.bl ad;obtain ⟨be,a2,hm⟩:=bZ hm;replace al:=al.keep (Zi.start col w0);replace am:=am.keep (Zi.start col w0);replace aa:=(((aa.grow a0).grow ax).grow an).grow hC;refine Zj (Z4d 4 a2 (al.ks aa) (am.ks aa)) ?_;rintro _ bf ⟨af,bg,bh,rfl,ao,ap⟩;refine ⟨_,rfl,?_⟩;refine Zl<|Xz af hC0 ao<|xe rfl rfl ?_;intro a3 hC0;replace ab:=(ab.gr hC).gr ao;have hC:=hC0.bl af;obtain ⟨bi,a4,hm⟩:=bZ hm;replace ap:=ap.gr hC;refine Zj (Zgi 5 a4 (ap.toSlF (Zd.int .u32))) ?_;rintro _ bj ⟨a5,bk,bm,rfl,ae,ac⟩;refine ⟨_,rfl,?_⟩;replace ac:=ac.thaw (Z7 .u32) ae ((Fz.refl (col:=af)).froz 4) (by decide);replace ae:=ae.thawR (col:=af);generalize Xj a3.heap.size af a5=ak at *;refine Zl<|Xz ak hC0 ae<|xe rfl rfl ?_;intro bn hC0;replace aa:=((aa.grow ao).grow hC).grow ae;replace ab:=(ab.gr hC).gr ae;have hC:=hC0.bl ak;replace ab:=ab.gr hC;refine Z5 ab ?_;intro bo ay a6 aq;refine Zl<|xk ak<|Wi ?_;replace ac:=(ac.gr hC).kp ay;replace aa:=(aa.grow hC).kp ay a6;intro bp hC;replace hC:=hC.bl ak;refine Vv ?_;cases hm;replace ac:=ac.gr hC;replace aq:=aq.gr hC;replace aa:=aa.grow hC;exact ⟨rfl,_,ra aq.atN,_,_,_,rfl,aa.fin (cm [(5,c1)]),aa.fo ac⟩
def Zkf (N:Nat) (aa:R5) (ab:R5):Option R5:=
  if (decide (aa.1=ab.1))=true then ((Zhv N aa.2 ab.2).bind fun ag=>(Qp N aa.1 ag).bind fun ac=>some (ac.1,ac.2)) else ((Zdx N aa.2 ab.2).bind fun ad=>if ad.2=true then ((Qp N aa.1 ad.1).bind fun ae=>some (ae.1,ae.2)) else ((Zdx N ab.2 aa.2).bind fun ah=>(Qp N ab.1 ah.1).bind fun af=>some (af.1,af.2)))
theorem Z4e {N a3 a4:Nat} {a5 a6:Option Addr} {col:Ze} {w0:World} {ao ap r:R5} (c1:Nat) (hm:Zkf N ao ap=some r) (ag:Sl (Za.int .u32) col w0 a5 a3 ao.2) (ah:Sl (Za.int .u32) col w0 a6 a4 ap.2):
    Calls prog 126 #[(.agg #[.bool ao.1,.slice a5 ao.2.length a3]),(.agg #[.bool ap.1,.slice a6 ap.2.length a4])] w0 (fun e w'=>∃ (col':Ze) (ra1:Option Addr) (rc2:Nat),e= .returned ((.agg #[.bool r.1,.slice ra1 r.2.length rc2]))∧Zh col w0 col' w'∧Zb (Za.int .u32) 95 c1 col' w' ra1 rc2 r.2):=by
 refine Wq (m:=45) func126 rfl rfl rfl ?_;rw [Zkf.eq_1] at hm;have aa:=St.start col w0;refine go ?_;refine Xs (col:=(Zk col)) 1 rfl ?_;intro b3 b4 bf bg ad;refine Xs (col:=bf) 2 rfl ?_;intro b5 b6 bh a7 ac;refine Xr (col:=bh) #[.bool false,.slice none (([]:List Int).length) 0] 3 zeroValue37 ?_;intro b7 b8 ai aw ab;refine go ?_;refine Yk ⟨_,_,rfl⟩ ?_;replace ad:=(ad.gr a7).gr aw;refine lW ((ad.atN).nth (q:=0) rfl)<|Yk ⟨_,_,rfl⟩ ?_;replace ac:=ac.gr aw;refine lW ((ac.atN).nth (q:=0) rfl)<|go ?_;replace ag:=ag.keep (Zi.start col w0);replace ah:=ah.keep (Zi.start col w0);replace aa:=((aa.grow bg).grow a7).grow aw;refine Zq hm (fun hb hm=>?_) fun hb hm=>go ?_
 ·refine Z0<|W7 (col:=ai) [(0,1),(1,0),(2,1),(3,0),(4,1),(5,0),(6,3),(7,3),(8,2)] (by kernel_rfl) (by kernel_rfl)<|xF ⟨_,_,rfl⟩ ?_;refine xW (fun _ hC=>((ad.atN).nth (q:=0) rfl).gr (hC.bl ai)) ?_;refine xF ⟨_,_,rfl⟩ ?_;refine xW (fun _ hC=>((ad.atN).nth (q:=1) rfl).gr (hC.bl ai)) ?_;refine xF ⟨_,_,rfl⟩ ?_;refine xW (fun _ hC=>((ac.atN).nth (q:=1) rfl).gr (hC.bl ai)) ?_;refine xe rfl rfl ?_;intro b9 hC0;have hC:=hC0.bl ai;obtain ⟨ca,bi,hm⟩:=bZ hm;replace aa:=aa.grow hC;refine Zj (Z4b 4 bi (ag.ks aa) (ah.ks aa)) ?_;rintro _ cb ⟨aj,cc,cd,rfl,ax,ay⟩;refine ⟨_,rfl,?_⟩;refine Zl<|Xz aj hC0 ax<|xe rfl rfl ?_;intro bj hC0;replace ab:=(ab.gr hC).gr ax;have hC:=hC0.bl aj;obtain ⟨ce,bk,hm⟩:=bZ hm;replace ay:=ay.gr hC;refine Zj (Zgi 5 bk (ay.toSlF (Zd.int .u32))) ?_;rintro _ cf ⟨bm,cg,ch,rfl,af,ae⟩;refine ⟨_,rfl,?_⟩;replace ae:=ae.thaw (Z7 .u32) af ((Fz.refl (col:=aj)).froz 4) (by decide);replace af:=af.thawR (col:=aj);generalize Xj bj.heap.size aj bm=aq at *;refine Zl<|Xz aq hC0 af<|xe rfl rfl ?_;intro ci hC0;replace aa:=((aa.grow ax).grow hC).grow af;replace ab:=(ab.gr hC).gr af;have hC:=hC0.bl aq;replace ab:=ab.gr hC;refine Z5 ab ?_;intro cj a8 bn az;refine Zl<|xk aq<|Wi ?_;replace ae:=(ae.gr hC).kp a8;replace aa:=(aa.grow hC).kp a8 bn;intro ck hC;replace hC:=hC.bl aq;refine Vv ?_;cases hm;replace ae:=ae.gr hC;replace az:=az.gr hC;replace aa:=aa.grow hC;exact ⟨rfl,_,ra az.atN,_,_,_,rfl,aa.fin (cm [(5,c1)]),aa.fo ae⟩
 refine Xk ad<|Xk ac ?_;obtain ⟨ar,bo,hm⟩:=bZ hm;refine Zj (Zua 6 bo (ag.ks aa) (ah.ks aa)) ?_;rintro _ bp ⟨a0,a9,ba,rfl,au,bq⟩;refine ⟨_,rfl,?_⟩;refine lM (.tuple #[.slice a9 ar.1.length ba,.bool ar.2])<|lV (.slice a9 ar.1.length ba) (Xx rfl rfl)<|lV (.bool ar.2) (Xx rfl rfl)<|go ?_;replace ad:=ad.gr au;replace ac:=ac.gr au;replace ab:=ab.gr au;replace aa:=aa.grow au;refine Zq hm (fun hb hm=>go ?_) fun hb hm=>go ?_
 ·refine Xk ad<|Y2 rfl ?_;obtain ⟨cl,br,hm⟩:=bZ hm;refine Zj (Zgi 7 br (bq.toSlF (Zd.int .u32))) ?_;rintro _ cn ⟨bs,co,cp,rfl,ak,al⟩;refine ⟨_,rfl,?_⟩;replace al:=al.thaw (Z7 .u32) ak ((Fz.refl (col:=a0)).froz 6) (by decide);replace ak:=ak.thawR (col:=a0);generalize Xj bp.heap.size a0 bs=cq at *;replace ab:=ab.gr ak;refine Z5 ab ?_;intro cr bb bt bu;refine go ?_;cases hm;replace aa:=(aa.grow ak).kp bb bt;replace al:=al.kp bb;exact ⟨rfl,_,ra bu.atN,_,_,_,rfl,aa.fin (cm [(7,c1)]),aa.fo al⟩
 refine Xk ac<|Xk ad ?_;obtain ⟨av,bv,hm⟩:=bZ hm;refine Zj (Zua 8 bv (ah.ks aa) (ag.ks aa)) ?_;rintro _ bw ⟨a1,bc,bd,rfl,a2,bx⟩;refine ⟨_,rfl,?_⟩;refine lM (.tuple #[.slice bc av.1.length bd,.bool av.2])<|lV (.slice bc av.1.length bd) (Xx rfl rfl)<|lV (.bool av.2) (Xx rfl rfl)<|go ?_;refine Yk ⟨_,_,rfl⟩ ?_;replace ac:=ac.gr a2;refine lW ((ac.atN).nth (q:=0) rfl)<|Y2 rfl ?_;obtain ⟨cs,bz,hm⟩:=bZ hm;refine Zj (Zgi 9 bz (bx.toSlF (Zd.int .u32))) ?_;rintro _ ct ⟨b0,cu,cv,rfl,am,an⟩;refine ⟨_,rfl,?_⟩;replace an:=an.thaw (Z7 .u32) am ((Fz.refl (col:=a1)).froz 8) (by decide);replace am:=am.thawR (col:=a1);generalize Xj bw.heap.size a1 b0=cw at *;replace ab:=(ab.gr a2).gr am;refine Z5 ab ?_;intro cx be b1 b2;refine go ?_;cases hm;replace aa:=((aa.grow a2).grow am).kp be b1;replace an:=an.kp be;exact ⟨rfl,_,ra b2.atN,_,_,_,rfl,aa.fin (cm [(9,c1)]),aa.fo an⟩
def Zh4 (N:Nat) (aa:R5):Option R5:=
  (Qp N aa.1 aa.2).bind fun ab=>some (ab.1,ab.2)
theorem Z4h {N ag:Nat} {ah:Option Addr} {col:Ze} {w0:World} {ab r:R5} (c1:Nat) (hm:Zh4 N ab=some r) (ad:Sl (Za.int .u32) col w0 ah ag ab.2):
    Calls prog 179 #[(.agg #[.bool ab.1,.slice ah ab.2.length ag])] w0 (fun e w'=>∃ (col':Ze) (ra1:Option Addr) (rc2:Nat),e= .returned ((.agg #[.bool r.1,.slice ra1 r.2.length rc2]))∧Zh col w0 col' w'∧Zb (Za.int .u32) 95 c1 col' w' ra1 rc2 r.2):=by
 refine Wq (m:=8) func179 rfl rfl rfl ?_;rw [Zh4.eq_1] at hm;have aa:=St.start col w0;refine go ?_;refine Xs (col:=(Zk col)) 1 rfl ?_;intro aq ar al am ac;refine Xr (col:=al) #[.bool false,.slice none (([]:List Int).length) 0] 2 zeroValue37 ?_;intro au av aw ai ae;refine go ?_;refine Yk ⟨_,_,rfl⟩ ?_;replace ac:=ac.gr ai;refine lW ((ac.atN).nth (q:=0) rfl)<|Xk ac ?_;obtain ⟨ax,an,hm⟩:=bZ hm;replace ad:=ad.keep (Zi.start col w0);replace aa:=(aa.grow am).grow ai;refine Zj (Zgi 3 an (ad.ks aa)) ?_;rintro _ ay ⟨az,a0,a1,rfl,aj,af⟩;refine ⟨_,rfl,?_⟩;replace ae:=ae.gr aj;refine Z5 ae ?_;intro a2 ak ao ap;refine go ?_;cases hm;replace aa:=(aa.grow aj).kp ak ao;replace af:=af.kp ak;exact ⟨rfl,_,ra ap.atN,_,_,_,rfl,aa.fin (cm [(3,c1)]),aa.fo af⟩
def Zq0 (N:Nat) (aa:R5) (ab:List Int):Option R1:=
  (Zqx N aa.2 ab).bind fun ac=>(Zm2 N aa.2 ac).bind fun ae=>(Zm2 N ab ac).bind fun af=>(Zh4 N (aa.1,ae.1)).bind fun ad=>(V8 N af.1).bind fun ag=>some ((ad.1,ad.2),ag)
def Zkh (N:Nat) (aa:R5):Option R5:=
  (Qp N (!aa.1) aa.2).bind fun ab=>some (ab.1,ab.2)
theorem Z4g {N ag:Nat} {ah:Option Addr} {col:Ze} {w0:World} {ab r:R5} (c1:Nat) (hm:Zkh N ab=some r) (ad:Sl (Za.int .u32) col w0 ah ag ab.2):
    Calls prog 173 #[(.agg #[.bool ab.1,.slice ah ab.2.length ag])] w0 (fun e w'=>∃ (col':Ze) (ra1:Option Addr) (rc2:Nat),e= .returned ((.agg #[.bool r.1,.slice ra1 r.2.length rc2]))∧Zh col w0 col' w'∧Zb (Za.int .u32) 95 c1 col' w' ra1 rc2 r.2):=by
 refine Wq (m:=9) func173 rfl rfl rfl ?_;rw [Zkh.eq_1] at hm;have aa:=St.start col w0;refine go ?_;refine Xs (col:=(Zk col)) 1 rfl ?_;intro aq ar al am ac;refine Xr (col:=al) #[.bool false,.slice none (([]:List Int).length) 0] 2 zeroValue37 ?_;intro au av aw ai ae;refine go ?_;refine Yk ⟨_,_,rfl⟩ ?_;replace ac:=ac.gr ai;refine lW ((ac.atN).nth (q:=0) rfl)<|go ?_;refine Xk ac ?_;obtain ⟨ax,an,hm⟩:=bZ hm;replace ad:=ad.keep (Zi.start col w0);replace aa:=(aa.grow am).grow ai;refine Zj (Zgi 3 an (ad.ks aa)) ?_;rintro _ ay ⟨az,a0,a1,rfl,aj,af⟩;refine ⟨_,rfl,?_⟩;replace ae:=ae.gr aj;refine Z5 ae ?_;intro a2 ak ao ap;refine go ?_;cases hm;replace aa:=(aa.grow aj).kp ak ao;replace af:=af.kp ak;exact ⟨rfl,_,ra ap.atN,_,_,_,rfl,aa.fin (cm [(3,c1)]),aa.fo af⟩
def Zki (N:Nat) (aa:R5) (ab:R5):Option R5:=
  (Zkh N (ab.1,ab.2)).bind fun ac=>(Zkf N (aa.1,aa.2) (ac.1,ac.2)).bind fun ad=>some (ad.1,ad.2)
theorem Z4j {N ar au:Nat} {av aw:Option Addr} {col:Ze} {w0:World} {af ag r:R5} (c1:Nat) (hm:Zki N af ag=some r) (aj:Sl (Za.int .u32) col w0 av ar af.2) (ak:Sl (Za.int .u32) col w0 aw au ag.2):
    Calls prog 198 #[(.agg #[.bool af.1,.slice av af.2.length ar]),(.agg #[.bool ag.1,.slice aw ag.2.length au])] w0 (fun e w'=>∃ (col':Ze) (ra1:Option Addr) (rc2:Nat),e= .returned ((.agg #[.bool r.1,.slice ra1 r.2.length rc2]))∧Zh col w0 col' w'∧Zb (Za.int .u32) 95 c1 col' w' ra1 rc2 r.2):=by
 refine Wq (m:=9) func198 rfl rfl rfl ?_;rw [Zki.eq_1] at hm;have aa:=St.start col w0;refine go ?_;refine Xs (col:=(Zk col)) 1 rfl ?_;intro a7 a8 az a0 al;refine Xs (col:=az) 2 rfl ?_;intro a9 ba a1 ax am;refine Xr (col:=a1) #[.bool false,.slice none (([]:List Int).length) 0] 3 zeroValue37 ?_;intro bb bc ah an ab;refine go ?_;refine W7 (col:=ah) [(0,0),(1,0),(2,3),(3,3),(4,2)] (by kernel_rfl) (by kernel_rfl) ?_;replace al:=(al.gr ax).gr an;refine xv rfl rfl (fun _ hC=>Xd isAgg37 sizeOf37 (al.gr (hC.bl ah))) ?_;replace am:=am.gr an;refine xv rfl rfl (fun _ hC=>Xd isAgg37 sizeOf37 (am.gr (hC.bl ah))) ?_;refine xe rfl rfl ?_;intro bd hC0;have hC:=hC0.bl ah;obtain ⟨be,a2,hm⟩:=bZ hm;replace ak:=ak.keep (Zi.start col w0);replace aa:=(((aa.grow a0).grow ax).grow an).grow hC;refine Zj (Z4g 4 a2 (ak.ks aa)) ?_;rintro _ bf ⟨ae,bg,bh,rfl,ao,ap⟩;refine ⟨_,rfl,?_⟩;refine Zl<|Xz ae hC0 ao<|xe rfl rfl ?_;intro a3 hC0;replace ab:=(ab.gr hC).gr ao;have hC:=hC0.bl ae;obtain ⟨bi,a4,hm⟩:=bZ hm;replace aj:=aj.keep (Zi.start col w0);replace aa:=(aa.grow ao).grow hC;replace ap:=ap.gr hC;refine Zj (Z4e 5 a4 ((aj.ks aa).froz 4) (ap.toSlF (Zd.int .u32))) ?_;rintro _ bj ⟨a5,bk,bm,rfl,ad,ac⟩;refine ⟨_,rfl,?_⟩;replace ac:=ac.thaw (Z7 .u32) ad ((Fz.refl (col:=ae)).froz 4) (by decide);replace ad:=ad.thawR (col:=ae);generalize Xj a3.heap.size ae a5=ai at *;refine Zl<|Xz ai hC0 ad<|xe rfl rfl ?_;intro bn hC0;replace ab:=(ab.gr hC).gr ad;have hC:=hC0.bl ai;replace ab:=ab.gr hC;refine Z5 ab ?_;intro bo ay a6 aq;refine Zl<|xk ai<|Wi ?_;replace aa:=((aa.grow ad).grow hC).kp ay a6;replace ac:=(ac.gr hC).kp ay;intro bp hC;replace hC:=hC.bl ai;refine Vv ?_;cases hm;replace ac:=ac.gr hC;replace aq:=aq.gr hC;replace aa:=aa.grow hC;exact ⟨rfl,_,ra aq.atN,_,_,_,rfl,aa.fin (cm [(5,c1)]),aa.fo ac⟩
def Zh5 (N:Nat) (aa:R5):Option Int:=
  (Zh4 N (aa.1,aa.2)).bind fun ab=>if (decide ((ab.2.length:Int)=0))=true then (some 0) else (if ab.1=true then (some (-1)) else (some 1))
theorem Z4i {N ad:Nat} {ae:Option Addr} {col:Ze} {w0:World} {ab:R5} {r:Int} (hm:Zh5 N ab=some r) (ac:Sl (Za.int .u32) col w0 ae ad ab.2):
    Calls prog 197 #[(.agg #[.bool ab.1,.slice ae ab.2.length ad])] w0 (fun e w'=>e= .returned ((.int .i64 r))∧Below w0.heap.size w0 w'):=by
 refine Xl 2 (m:=12) func197 rfl rfl rfl rfl rfl ?_;rw [Zh5.eq_1] at hm;have aa:=St.start col w0;refine go ?_;refine Xs (col:=(Zk col)) 1 rfl ?_;intro ap aq ar ag ah;refine go ?_;refine lV _ (Xd isAgg37 sizeOf37 ah) ?_;obtain ⟨au,ai,hm⟩:=bZ hm;replace ac:=ac.keep (Zi.start col w0);replace aa:=aa.grow ag;refine Zj (Z4h 2 ai (ac.ks aa)) ?_;rintro _ av ⟨aj,aw,ax,rfl,ak,ay⟩;refine ⟨_,rfl,?_⟩;refine Xr (col:=aj) #[.bool false,.slice none (([]:List Int).length) 0] 3 zeroValue37 ?_;intro az a0 a1 al am;refine Z5 am ?_;intro a2 an ao af;refine go ?_;refine Xk af ?_;refine go ?_;replace aa:=((aa.grow ak).grow al).kp an ao;refine Zq hm (fun hb hm=>go ?_) fun hb hm=>go ?_
 ·cases hm;exact ⟨rfl,rfl,aa.below⟩
 refine Xk af<|Zl ?_;refine Zq hm (fun hb hm=>go ?_) fun hb hm=>go ?_
 ·cases hm;exact ⟨rfl,rfl,aa.below⟩
 cases hm;exact ⟨rfl,rfl,aa.below⟩
def Zkg (N:Nat) (aa:R5) (ab:R5):Option Int:=
  (Zki N (aa.1,aa.2) (ab.1,ab.2)).bind fun ac=>(Zh5 N (ac.1,ac.2)).bind fun ad=>some ad
theorem Z4f {N ah ai:Nat} {aj ak:Option Addr} {col:Ze} {w0:World} {ab ac:R5} {r:Int} (hm:Zkg N ab ac=some r) (ad:Sl (Za.int .u32) col w0 aj ah ab.2) (ae:Sl (Za.int .u32) col w0 ak ai ac.2):
    Calls prog 166 #[(.agg #[.bool ab.1,.slice aj ab.2.length ah]),(.agg #[.bool ac.1,.slice ak ac.2.length ai])] w0 (fun e w'=>e= .returned ((.int .i64 r))∧Below w0.heap.size w0 w'):=by
 refine Xl 4 (m:=9) func166 rfl rfl rfl rfl rfl ?_;rw [Zkg.eq_1] at hm;have aa:=St.start col w0;refine go ?_;refine Xs (col:=(Zk col)) 1 rfl ?_;intro ay az an ao af;refine Xs (col:=an) 2 rfl ?_;intro a0 a1 a2 al ap;refine go ?_;replace af:=af.gr al;refine lV _ (Xd isAgg37 sizeOf37 af)<|lV _ (Xd isAgg37 sizeOf37 ap) ?_;obtain ⟨a3,aq,hm⟩:=bZ hm;replace ad:=ad.keep (Zi.start col w0);replace ae:=ae.keep (Zi.start col w0);replace aa:=(aa.grow ao).grow al;refine Zj (Z4j 3 aq (ad.ks aa) (ae.ks aa)) ?_;rintro _ ar ⟨am,a4,a5,rfl,au,av⟩;refine ⟨_,rfl,?_⟩;obtain ⟨a6,aw,hm⟩:=bZ hm;refine Zj (Z4i aw (av.toSlF (Zd.int .u32))) ?_;rintro _ ax ⟨rfl,ag⟩;refine ⟨_,rfl,?_⟩;replace ag:Zh am ar am ax:=.of_below ag;refine go ?_;cases hm;replace aa:=(aa.grow au).grow ag;exact ⟨rfl,rfl,aa.below⟩
def Zh6 (N:Nat) (aa:R1) (ab:R1):Option Int:=
  (Zh7 N ((ab.1.1,ab.1.2),ab.2)).bind fun ag=>(Zh8 ag).bind fun ac=>(Zh3 N (aa.1.1,aa.1.2) (ac.1,ac.2)).bind fun ad=>(Zh7 N ((aa.1.1,aa.1.2),aa.2)).bind fun ah=>(Zh8 ah).bind fun ae=>(Zh3 N (ab.1.1,ab.1.2) (ae.1,ae.2)).bind fun af=>(Zkg N (ad.1,ad.2) (af.1,af.2)).bind fun ai=>some ai
theorem Z4k {N am a0 an a1:Nat} {ao a2 ap a3:Option Addr} {col:Ze} {w0:World} {ac ad:R1} {r:Int} (hm:Zh6 N ac ad=some r) (ai:Sl (Za.int .u32) col w0 ao am ac.1.2) (aq:Sl (Za.int .u32) col w0 a2 a0 ac.2) (aj:Sl (Za.int .u32) col w0 ap an ad.1.2) (ar:Sl (Za.int .u32) col w0 a3 a1 ad.2):
    Calls prog 115 #[(.agg #[.bool ac.1.1,.slice ao ac.1.2.length am,.slice a2 ac.2.length a0]),(.agg #[.bool ad.1.1,.slice ap ad.1.2.length an,.slice a3 ad.2.length a1])] w0 (fun e w'=>e= .returned ((.int .i64 r))∧Below w0.heap.size w0 w'):=by
 refine Xl 4 (m:=18) func115 rfl rfl rfl rfl rfl ?_;rw [Zh6.eq_1] at hm;have aa:=St.start col w0;refine go ?_;refine Xs (col:=(Zk col)) 1 rfl ?_;intro bq br be bf ak;refine Xs (col:=be) 2 rfl ?_;intro bs bt ae a4 a5;refine go ?_;refine W7 (col:=ae) [(0,1),(1,0),(2,0),(6,1),(7,0),(8,0),(3,3),(4,3),(5,3),(9,3),(10,3),(11,3),(12,3),(13,1)] (by kernel_rfl) (by kernel_rfl)<|xF ⟨_,_,rfl⟩ ?_;replace ak:=ak.gr a4;refine xv (v:=(.agg #[.bool ac.1.1,.slice ao ac.1.2.length am])) rfl rfl (fun _ hC=>W4 isAgg37 sizeOf37 rfl rfl (((ak.atN).part 0 2 _ rfl).gr (hC.bl ae))) ?_;refine xv rfl rfl (fun _ hC=>Xd isAgg39 sizeOf39 (a5.gr (hC.bl ae))) ?_;refine xF ⟨_,_,rfl⟩ ?_;refine xv (v:=(.agg #[.bool ad.1.1,.slice ap ad.1.2.length an])) rfl rfl (fun _ hC=>W4 isAgg37 sizeOf37 rfl rfl (((a5.atN).part 0 2 _ rfl).gr (hC.bl ae))) ?_;refine xv rfl rfl (fun _ hC=>Xd isAgg39 sizeOf39 (ak.gr (hC.bl ae))) ?_;refine xe rfl rfl ?_;intro bu hC0;have hC:=hC0.bl ae;obtain ⟨bv,bg,hm⟩:=bZ hm;replace aj:=aj.keep (Zi.start col w0);replace ar:=ar.keep (Zi.start col w0);replace aa:=((aa.grow bf).grow a4).grow hC;refine Zj (Zuc 3 bg (aj.ks aa) (ar.ks aa)) ?_;rintro _ bw ⟨a6,bx,bz,rfl,a7,ag⟩;refine ⟨_,rfl,?_⟩;refine Zl<|Xz a6 hC0 a7<|xe rfl rfl ?_;intro b0 hC0;have hC:=hC0.bl a6;replace ag:=ag.gr hC;replace ag:=(ag).toSlF (Zd.int .u32);replace aa:=(aa.grow a7).grow hC;replace aa:=aa.froz 3 (by decide) (by decide);obtain ⟨b1,bh,hm⟩:=bZ hm;refine Zj (Zud bh ag) ?_;rintro _ b2 ⟨a8,b3,b4,rfl,a9,au⟩;refine ⟨_,rfl,?_⟩;refine Zl<|Xz a8 hC0 a9<|xe rfl rfl ?_;intro b5 hC0;have hC:=hC0.bl a8;obtain ⟨b6,bi,hm⟩:=bZ hm;replace ai:=ai.keep (Zi.start col w0);replace aa:=(aa.grow a9).grow hC;replace au:=au.gr hC;refine Zj (Zub 4 bi (ai.ks aa) au) ?_;rintro _ b7 ⟨ba,b8,b9,rfl,bb,ab⟩;refine ⟨_,rfl,?_⟩;refine Zl<|Xz ba hC0 bb<|xe rfl rfl ?_;intro ca hC0;have hC:=hC0.bl ba;obtain ⟨cb,bj,hm⟩:=bZ hm;replace aq:=aq.keep (Zi.start col w0);replace aa:=(aa.grow bb).grow hC;refine Zj (Zuc 5 bj (ai.ks aa) (aq.ks aa)) ?_;rintro _ cc ⟨bc,cd,ce,rfl,av,ah⟩;refine ⟨_,rfl,?_⟩
 refine Zl<|Xz bc hC0 av<|xe rfl rfl ?_;intro cf hC0;replace ab:=(ab.gr hC).gr av;have hC:=hC0.bl bc;replace ab:=ab.gr hC;replace ab:=ab.froz 5 (by decide);replace ah:=ah.gr hC;replace ah:=(ah).toSlF (Zd.int .u32);replace aa:=(aa.grow av).grow hC;replace aa:=aa.froz 5 (by decide) (by decide);obtain ⟨cg,bk,hm⟩:=bZ hm;refine Zj (Zud bk ah) ?_;rintro _ ch ⟨bd,ci,cj,rfl,aw,ax⟩;refine ⟨_,rfl,?_⟩;refine Zl<|Xz bd hC0 aw<|xe rfl rfl ?_;intro ck hC0;have hC:=hC0.bl bd;obtain ⟨cl,bm,hm⟩:=bZ hm;replace aa:=(aa.grow aw).grow hC;replace ax:=ax.gr hC;refine Zj (Zub 6 bm (aj.ks aa) ax) ?_;rintro _ cn ⟨af,co,cp,rfl,ay,az⟩;refine ⟨_,rfl,?_⟩;refine Zl<|Xz af hC0 ay<|xe rfl rfl ?_;intro bn hC0;replace ab:=((ab.gr aw).gr hC).gr ay;have hC:=hC0.bl af;obtain ⟨cq,bo,hm⟩:=bZ hm;replace ab:=ab.gr hC;replace az:=az.gr hC;refine Zj (Z4f bo ((ab.toSlF (Zd.int .u32)).froz 6) ((az.froz 4 (by decide)).toSlF (Zd.int .u32))) ?_;rintro _ bp ⟨rfl,al⟩;refine ⟨_,rfl,?_⟩;replace al:Zh af bn af bp:=.of_below al;refine Zl<|Xz af hC0 al<|xu rfl rfl (fun _=>Zr5 rfl) ?_;refine Wi ?_;replace aa:=((aa.grow ay).grow hC).grow al;intro cr hC;replace hC:=hC.bl af;refine Vv ?_;cases hm;replace aa:=aa.grow hC;exact ⟨rfl,rfl,aa.below⟩
def Zne (N:Nat) (aa:Int):Option R5:=
  if (decide (0≤aa))=true then ((Zm8 N (u64.wrap aa)).bind fun ad=>(Qp N false ad).bind fun ab=>some (ab.1,ab.2)) else ((Zm8 N (u64.wrap (i64.wrap (-(i64.wrap (aa+1)))))).bind fun ae=>(Zhv N ae [1]).bind fun af=>(Qp N true af).bind fun ac=>some (ac.1,ac.2))
def Zxd (N:Nat) (ac:R5) (aa:R5):Option (R1×Int):=
  (Zh5 N (aa.1,aa.2)).bind fun ad=>if (decide (ad=0))=true then (some (((false,([]:List Int)),([]:List Int)),11)) else ((Zq0 N (!decide (ac.1=aa.1),ac.2) aa.2).bind fun ab=>some (((ab.1.1,ab.1.2),ab.2),0))
def Zxe (N:Nat) (ad:Int) (ae:Int):Option (R1×Int):=
  (Zne N ad).bind fun ab=>(Zne N ae).bind fun ac=>(Zxd N (ab.1,ab.2) (ac.1,ac.2)).bind fun aa=>some (((aa.1.1.1,aa.1.1.2),aa.1.2),aa.2)
def Zxf (N:Nat) (ab:Int) (ac:Int):Option R1:=
  (Zxe N ab ac).bind fun aa=>some ((aa.1.1.1,aa.1.1.2),aa.1.2)
theorem Zeb {N k:Nat} {neg:Bool} {m:List Int} (hm:Zn m) (hk:m.length≤k) (hr:Z9 N k):Qp N neg m=some (Xv (Zt (neg,m))):=by
 obtain ⟨a,b⟩:=hr
 rw [Qp,Th hm (by omega) (by omega),oB,Zlb]
 have e:decide (0<((Zg (Zc m)).length:Int))=decide (Zc m≠0):=by
  by_cases h:Zc m=0
  ·rw [h,Vm];decide
  ·have:=Tt h
   rw [decide_eq_true (by omega),decide_eq_true h]
 cases neg
 ·rw [if_neg (by decide),Zh2,Bool.false_and]
 ·rw [if_pos rfl,Zh2,e,Bool.true_and]
theorem Z0j {N k:Nat} {a:ZV} (hm:Zn a.2) (hk:a.2.length≤k) (hr:Z9 N k):Zh4 N a=some (Xv (Zt a)):=by
 rw [Zh4,Zeb hm hk hr];rfl
theorem Z0t {N k:Nat} {a:ZV} (hm:Zn a.2) (hk:a.2.length≤k) (hr:Z9 N k):Zh5 N a=some (Zt a).sign:=by
 rw [Zh5,Z0j hm hk hr,oB,Xv]
 generalize Zt a=z
 by_cases h:z=0
 ·subst h;rw [Int.natAbs_zero,Vm,if_pos (by decide)];rfl
 ·have:=Tt (n:=z.natAbs) (by omega)
  rw [if_neg (dF (by simp only;omega))]
  by_cases h2:z<0
  ·rw [if_pos (dT h2),Int.sign_eq_neg_one_of_neg h2]
  ·rw [if_neg (fun b=>h2 (of_decide_eq_true b)),jP (by omega)]
theorem Z9f {N k l:Nat} {a b:ZV} (ha:Zn a.2) (hb:Zn b.2) (hk:a.2.length≤k) (hl:b.2.length≤l) (hr:Z9 N (k+l+1)):Zkf N a b=some (Xv (Zt a+Zt b)):=by
 have d:=hr
 obtain ⟨g,i⟩:=d
 have j:=Yq ha
 have m:=Yq hb
 have c:(Zg (Zc a.2+Zc b.2)).length≤k+l+1:=Zmo (by omega) (by omega)
 have e:(Zg (Zc a.2 - Zc b.2)).length≤k+l+1:=by have:=Wx (Nat.sub_le (Zc a.2) (Zc b.2));omega
 have f:(Zg (Zc b.2 - Zc a.2)).length≤k+l+1:=by have:=Wx (Nat.sub_le (Zc b.2) (Zc a.2));omega
 rw [Zkf]
 by_cases h:a.1=b.1
 ·rw [if_pos (dT h),Zzt ha hb (by omega) (by omega),oB,Zeb (Xf _) c hr,oB,Zi1.1 h]
 ·rw [if_neg (dF h),Zln ha hb (by omega) (by omega) (by omega) (by omega),oB]
  by_cases hlt:Zc a.2<Zc b.2
  ·rw [if_pos hlt,if_neg (by decide),Zln hb ha (by omega) (by omega) (by omega) (by omega),oB,if_neg (by omega),Zeb (Xf _) f hr,oB,(Zi1.2 h).2 hlt]
  ·rw [if_neg hlt,if_pos rfl,Zeb (Xf _) e hr,oB,(Zi1.2 h).1 (by omega)]
theorem Z9t {N k:Nat} {a:ZV} (hm:Zn a.2) (hk:a.2.length≤k) (hr:Z9 N k):Zkh N a=some (Xv (-Zt a)):=by
 rw [Zkh,Zeb hm hk hr,oB,Xbf]
theorem Zw1 {a:ZV} (hm:Zn a.2):(Xv (Zt a)).2.length≤a.2.length:=by
 rw [Zgq,Zeh];exact Yq hm
theorem Z7e {a:ZV} (hm:Zn a.2):(Xv (-Zt a)).2.length≤a.2.length:=by
 rw [Zgq,Int.natAbs_neg,Zeh];exact Yq hm
theorem Z9z {N k l:Nat} {a b:ZV} (ha:Zn a.2) (hb:Zn b.2) (hk:a.2.length≤k) (hl:b.2.length≤l) (hr:Z9 N (k+l+1)):Zki N a b=some (Xv (Zt a - Zt b)):=by
 rw [Zki,Z9t (a:=(b.1,b.2)) hb hl (hr.mono (by omega)),oB,Z9f (a:=(a.1,a.2)) (b:=Xv _) ha (Sc _) hk (aU (Z7e hb) hl) hr,oB,T6,Int.sub_eq_add_neg]
theorem Z0d {N k l:Nat} {a b:ZV} (ha:Zn a.2) (hb:Zn b.2) (hk:a.2.length≤k) (hl:b.2.length≤l) (hr:Z9 N (k+l)):Zh3 N a b=some (Xv (Zt a * Zt b)):=by
 have c:=hr
 obtain ⟨d,e⟩:=c
 have f:=Yq ha
 have g:=Yq hb
 have:=U3 (Zc a.2) (Zc b.2)
 rw [Zh3,Z9s ha hb (by omega) (by omega),oB,Zeb (k:=k+l) (Xf _) (by omega) hr,oB,Ztb]
theorem Xbe (a b:Int):(a - b).sign=Zam a b:=by
 rw [← Zpa];unfold Zam
 (repeat' split) <;> omega
theorem Z9j {N k l:Nat} {a b:ZV} (ha:Zn a.2) (hb:Zn b.2) (hk:a.2.length≤k) (hl:b.2.length≤l) (hr:Z9 N (k+l+1)):Zkg N a b=some (Zam (Zt a) (Zt b)):=by
 have sl:(Xv (Zt a - Zt b)).2.length≤k+l+1:=Xan (k:=k+l) (aU (Zw1 ha) (by omega)) (aU (Zw1 hb) (by omega))
 rw [Zkg,Z9z (a:=(a.1,a.2)) (b:=(b.1,b.2)) ha hb hk hl hr,oB,Z0t (a:=Xv _) (Sc _) sl hr,oB,T6,Xbe]
theorem Z0l {N:Nat} {z:Int} (h:-9223372036854775808≤z∧z≤9223372036854775807) (hr:Z9 N 4):Zne N z=some (Xv z):=by
 have c:=hr
 obtain ⟨i,j⟩:=c
 have a:∀ n:Nat,n<18446744073709551616→(Zg n).length≤2:=fun n d=>W0.2 (by simpa using d)
 have f:Zn [1]:=.cons (by decide) .nil
 rw [Zne]
 by_cases hz:0≤z
 ·rw [if_pos (dT hz),Xm (by omega),Z0m (by omega) (by omega),oB,Zeb (Xf _) (a _ (by omega)) (hr.mono (by omega)),oB]
  have b:Zt (false,Zg z.toNat)=z:=by simp only [Zt,Xc];simp;omega
  rw [b]
 ·have g:=a (-z - 1).toNat (by omega)
  have e:u64.wrap (i64.wrap (-i64.wrap (z+1)))= -z - 1:=by rw [Zv (x:=z+1) (by omega),Zv (by omega),Xm (by omega)];omega
  rw [if_neg (dF hz),e,Z0m (by omega) (by omega),oB,Zzt (Xf _) f (by simp only [aL];omega) (by simp only [aL];omega),oB,Xc,Wo,Yz,Zeb (k:=4) (Xf _) (by
   have:=a ((-z - 1).toNat+((1:Int).toNat+4294967296 * 0)) (by omega)
   omega) hr,oB]
  have b:Zt (true,Zg ((-z - 1).toNat+((1:Int).toNat+4294967296 * 0)))=z:=by simp only [Zt,Xc,if_true];omega
  rw [b]
theorem Zzy {N k:Nat} {a:QV} (ha:RV k a) (hr:Z9 N k):Zh7 N a=some (Zg (Yv a.2)):=by
 obtain ⟨b,c⟩:=hr
 have:=ha.ld
 rw [Zh7,Th ha.d (by omega) (by omega),oB,Yv]
 by_cases h:Zc a.2=0
 ·rw [h,Vm,if_pos (by decide),if_pos rfl,Znf,oB,Ss]
 ·have:=Tt h
  rw [if_neg (dF (by omega)),if_neg h]
theorem Z9r {N k l:Nat} {num:ZV} {den:List Int} (hn:Zn num.2) (hd:Zn den) (h0:Zc den≠0) (hk:num.2.length≤k) (hl:den.length≤l) (hr:Z9 N (k+l)):
  Zq0 N num den=some (Zo (mkRat (Zt num) (Zc den))):=by
 have c:=hr
 obtain ⟨j,m⟩:=c
 have n:=Yq hn
 have f:=Yq hd
 have d:dE (Zc num.2) (Zc den)≠0:=fun h=>h0 (Nat.gcd_eq_zero_iff.1 h).2
 have lg:(Zg (dE (Zc num.2) (Zc den))).length≤den.length:=aU (Wx (Nat.gcd_le_right _ (by omega))) f
 have o:=Wx (cU (Zc num.2) (dE (Zc num.2) (Zc den)))
 have ld:=Wx (cU (Zc den) (dE (Zc num.2) (Zc den)))
 obtain ⟨g,i,e,b,p⟩:=Z9q (N:=N) (M:=k+l) hn hd (by omega) (by omega) (by omega) (by omega)
 rw [Zq0,i,oB,Zzz hn e (by rw [b];omega) (by omega) (by rw [b];omega) (by omega),oB,Zzz hd e (by rw [b];omega) (by omega) (by rw [b];omega) (by omega),oB,b,if_neg d,if_neg d,
  Z0j (k:=k) (a:=(num.1,Zg (Zc num.2 / dE (Zc num.2) (Zc den)))) (Xf _) (by simp only;omega) (hr.mono (by omega)),oB,Th (Xf _) (by omega) (by omega),oB,Zx7 (neg:=num.1) h0,Zlb,Xc,Xc]
theorem Z22 (n:Nat):Zt (false,Zg n)=n:=by simp [Zt,Xc]
theorem Z9p {N k l:Nat} {a b:QV} (ha:RV k a) (hb:RV l b) (hr:Z9 N (2 * (k+l+3))):Zh6 N a b=some (Tf (Zr a) (Zr b)):=by
 have c:=Q4 ha
 have d:=Q4 hb
 have e:=Zgr (n:=Yv b.2) ha.m ha.lm d
 have f:=Zgr (n:=Yv a.2) hb.m hb.lm c
 rw [Zh6,Zzy hb (hr.mono (by omega)),oB,Zh8,oB,Z0d (a:=(a.1.1,a.1.2)) (b:=(false,Zg (Yv b.2))) (k:=k) (l:=l+1) ha.m (Xf _) ha.lm d (hr.mono (by omega)),oB,Zzy ha (hr.mono (by omega)),oB,Zh8,oB,Z0d (a:=(b.1.1,b.1.2)) (b:=(false,Zg (Yv a.2))) (k:=l) (l:=k+1) hb.m (Xf _) hb.lm c (hr.mono (by omega)),oB,Z22,Z22,
  Z9j (a:=Xv _) (b:=Xv _) (Sc _) (Sc _) e f (hr.mono (by omega)),oB,T6,T6,Zr,Zr,Zry (Tq _) (Tq _)]
theorem Xbg {N:Nat} {a b:Int} (h:-9223372036854775808≤a∧a≤9223372036854775807) (g:0<b∧b≤9223372036854775807) (hr:Z9 N 8):Zxf N a b=some (Zo ((a:Rat) / (b:Rat))):=by
 have d:∀ z:Int,-9223372036854775808≤z∧z≤9223372036854775807→(Xv z).2.length≤2:=fun z n=>W0.2 (by simp;omega)
 have i:=d a h
 have f:=d b (by omega)
 have c:Zc (Xv b).2≠0:=by rw [Zgq,Xc];omega
 have e:=Zq9 (Zt (Xv a)) 1 (Xv b) 1 (Xv a).1 (Xv a).2 rfl c
 rw [Zxf,Zxe,Z0l h (hr.mono (by omega)),oB,Z0l (by omega) (hr.mono (by omega)),oB,Zxd,Z0t (a:=Xv b) (Sc _) f (hr.mono (by omega)),oB,T6,jP g.1,if_neg (by decide),Z9r (num:=(!decide ((Xv a).1=(Xv b).1),(Xv a).2)) (Sc _) (Sc _) c i f (hr.mono (by omega)),oB,oB,oB]
 rw [dA,dA,T6,T6] at e
 have j:(a:Rat) / ((1:Nat):Rat) / ((b:Rat) / ((1:Nat):Rat))=(a:Rat) / (b:Rat):=by
  have k:((1:Nat):Rat)=1:=rfl
  have l:(1:Rat)⁻¹=1:=gO (by grind)
  simp only [k,Rat.div_def,l,Rat.mul_one]
 rw [j,aX,Nat.mul_one] at e
 rw [e]
 have m:Zt (!decide ((Xv a).1=(Xv b).1),Zg (Zc (Xv a).2))=Zt (!decide ((Xv a).1=(Xv b).1),(Xv a).2):=by simp only [Zt,Xc]
 rw [m]
theorem div_one (a:Rat):a / 1=a:=by
 have b:(1:Rat)⁻¹=1:=gO (by grind)
 rw [Rat.div_def,b,Rat.mul_one]
def Zfx (ab:ByteArray):List ByteArray→Nat→Option Int
  | [],aa=>some (-1)
  | ac :: ad,aa=>if (decide (ab=ac))=true then (some (aa:Int)) else ((Zfx ab ad) (aa+1))
termination_by structural x=>x
def Znw (aa:List ByteArray) (ab:ByteArray):Option Int:=
  Zfx ab aa 0
theorem Z48 {ag:Nat} {a0:Option Addr} {col:Ze} {w0:World} {ab:R3} {ae:ByteArray} {r:Int} (hm:Znw ab ae=some r) (h0:Sl Za.str col w0 a0 ag ab):
    Calls prog 195 #[.slice a0 ab.length ag,.string ae] w0 (fun e w'=>e= .returned ((.int .i64 r))∧Below w0.heap.size w0 w'):=by
 refine Xl 4 (m:=19) func195 rfl rfl rfl rfl rfl ?_;rw [Znw.eq_1] at hm;have aa:=St.start col w0;refine go ?_;refine Z4 [0,1,7,1000000] (fun n f ah=>∃ ai ac ad,n=ad.length∧ab.drop ac=ad∧Zfx ae ad ac=some r∧St w0 (Zk col) ai ah∧[8].map f=[.int .i64 ac]) ab.length ⟨_,0,_,rfl,rfl,hm,aa,rfl⟩ ?_;clear hm;intro n f ah hI;obtain ⟨ai,ac,ad,hn,hl,hm,aa,hs⟩:=hI;subst hn;refine .lL [8] hs ?_;replace h0:=h0.keep (Zi.start col w0)
 cases ad with
 | nil=>
  have hk:¬ ((ac:Int)<(ab.length:Int)):=by have:=aH.1 hl;omega
  have hkb:=decide_eq_false hk;rw [Zfx.eq_1] at hm;refine go ?_;refine X2 (congrArg Value.bool hkb)<|go ?_;cases hm;exact ⟨rfl,rfl,aa.below⟩
 | cons am aj=>
  obtain ⟨af,ak,al⟩:=Yd hl;have hk:(ac:Int)<(ab.length:Int):=by omega
  have hkb:=decide_eq_true hk;rw [Zfx.eq_2] at hm;refine go ?_;refine X3 (congrArg Value.bool hkb)<|go ?_;refine lI af ((h0.ks aa).addr af)<|lW ((h0.ks aa).atStr af) ?_;refine go ?_;refine Zq hm (fun hb hm=>go ?_) fun hb hm=>go ?_
  ·cases hm;exact ⟨rfl,rfl,aa.below⟩
  exact ⟨aj.length,by simp,rfl,⟨_,_,_,rfl,ak,hm,aa,(Yg (congrArg (Value.int .i64) (Yb (aF al (h0.ks aa).1.1))) rfl)⟩⟩
def Zk3 (aa:List ByteArray) (ab:ByteArray):Option Bool:=
  (Znw aa ab).bind fun ac=>some (decide (0≤ac))
theorem Z45 {ad:Nat} {a0:Option Addr} {col:Ze} {w0:World} {ab:R3} {ae:ByteArray} {r:Bool} (hm:Zk3 ab ae=some r) (h0:Sl Za.str col w0 a0 ad ab):
    Calls prog 159 #[.slice a0 ab.length ad,.string ae] w0 (fun e w'=>e= .returned ((.bool r))∧Below w0.heap.size w0 w'):=by
 refine Xl 4 (m:=9) func159 rfl rfl rfl rfl rfl ?_;rw [Zk3.eq_1] at hm;have aa:=St.start col w0;refine go ?_;obtain ⟨ah,af,hm⟩:=bZ hm;replace h0:=h0.keep (Zi.start col w0);refine Zj (Z48 af (h0.ks aa)) ?_;rintro _ ag ⟨rfl,ac⟩;refine ⟨_,rfl,?_⟩;replace ac:Zh (Zk col) w0 (Zk col) ag:=.of_below ac;refine go ?_;cases hm;replace aa:=aa.grow ac;exact ⟨rfl,rfl,aa.below⟩
def Zdr:List ByteArray→(List (ByteArray×Int))→Option Bool
  | [],aa=>some false
  | ab :: ac,aa=>if (decide (0<((W3 aa ab).getD 0)))=true then (some true) else ((some (Qr aa ab 1)).bind fun ad=>(Zdr ac) ad)
termination_by structural x=>x
def Zj0 (aa:List ByteArray):Option Bool:=
  Zdr aa ([]:List (ByteArray×Int))
theorem Z33 {al:Nat} {a0:Option Addr} {col:Ze} {w0:World} {ab:R3} {r:Bool} (hm:Zj0 ab=some r) (h0:Sl Za.str col w0 a0 al ab):
    Calls prog 160 #[.slice a0 ab.length al] w0 (fun e w'=>e= .returned ((.bool r))∧Below w0.heap.size w0 w'):=by
 refine Xl 2 (m:=20) func160 rfl rfl rfl rfl rfl ?_;rw [Zj0.eq_1] at hm;have aa:=St.start col w0;refine go ?_;refine Z69 (col:=(Zk col)) (fk:=Value.string) (fv:=(Value.int .i64)) 1 rfl ?_;intro ay az a1 ao ap;refine go ?_;replace aa:=aa.grow ao;refine Z4 [7,8,1000000] (fun n f af=>∃ ag ah ac ad ae,n=ae.length∧ab.drop ad=ae∧Zdr ae ac=some r∧St w0 (Zk col) ag af∧Vy Value.string (Value.int .i64) 1 ag af ah ac∧[9,3].map f=[.int .i64 ad,.map (some ah)]) ab.length ⟨_,_,_,0,_,rfl,rfl,hm,aa,ap,rfl⟩ ?_;clear hm;intro n f af hI;obtain ⟨ag,ah,ac,ad,ae,hn,hl,hm,aa,am,hs⟩:=hI;subst hn;refine .lL [9,3] hs ?_;replace h0:=h0.keep (Zi.start col w0)
 cases ae with
 | nil=>
  have hk:¬ ((ad:Int)<(ab.length:Int)):=by have:=aH.1 hl;omega
  have hkb:=decide_eq_false hk;rw [Zdr.eq_1] at hm;refine go ?_;refine X2 (congrArg Value.bool hkb)<|go ?_;cases hm;exact ⟨rfl,rfl,aa.below⟩
 | cons ai aq=>
  obtain ⟨aj,ar,au⟩:=Yd hl;have hk:(ad:Int)<(ab.length:Int):=by omega
  have hkb:=decide_eq_true hk;rw [Zdr.eq_2] at hm;refine go ?_;refine X3 (congrArg Value.bool hkb)<|go ?_;refine lI aj ((h0.ks aa).addr aj)<|lW ((h0.ks aa).atStr aj) ?_;refine go ?_;refine lV (.int .i64 ((W3 ac ai).getD 0)) (Zzl S5.str am underlying195 underlying9 zeroValue3 rfl rfl)<|go ?_;refine Zq hm (fun hb hm=>go ?_) fun hb hm=>go ?_
  ·cases hm;exact ⟨rfl,rfl,aa.below⟩
  obtain ⟨av,ak,hm⟩:=bZ hm;have ak:av=Qr ac ai 1:=(Option.some.inj ak).symm;refine Zwm (k:=ai) (v:=1) S5.str am underlying195 underlying9 rfl rfl rfl ?_;intro a2 aw ax an;rw [← ak] at an;refine go ?_;replace aa:=aa.kp aw ax;exact ⟨aq.length,by simp,rfl,⟨_,_,_,_,_,rfl,ar,hm,aa,an,(Yg (congrArg (Value.int .i64) (Yb (aF au (h0.ks aa).1.1))) rfl)⟩⟩
def Zhj (ab:R0) (aa:Nat) (kk_L1:(Nat→Option Int)) (ac:Bool):Option Int:=
  if ac=true then (some 40) else ((Zm ab.2.2.1 (aa:Int)).bind fun ad=>if (decide ((ad.length:Int)=0))=true then (some 43) else (kk_L1 (aa+1)))
def Zb3 (aa:R0):List ByteArray→Nat→Option Int
  | [],ab=>some 0
  | ad :: ac,ab=>Z2 ((0:Int)≤(ab:Int)∧(ab:Int)≤(aa.2.1.length:Int)) ((Zk3 (aa.2.1.take (aA (ab:Int))) ad).bind fun ae=>if ae=true then (Zhj aa ab (Zb3 aa ac) true) else ((Zm aa.2.2.1 (ab:Int)).bind fun af=>(Zj0 af).bind fun ag=>Zhj aa ab (Zb3 aa ac) ag))
termination_by structural x=>x
def Ze5 (aa:R0):Option Int:=
  Zb3 aa aa.2.1 0
theorem Z30 {ae ak al am:Nat} {af an ao ap:Option Addr} {col:Ze} {w0:World} {aa:R0} {r:Int} (hm:Ze5 aa=some r) (ag:Sl Za.str col w0 af ae aa.2.1) (ai:Sl (Za.slice Za.str) col w0 an ak aa.2.2.1) (bi:Sl (Za.slice (Za.int .i64)) col w0 ao al aa.2.2.2.1) (bj:Sl (Za.slice (Za.pair (Za.pair Za.bool (Za.slice (Za.int .u32))) (Za.slice (Za.int .u32)))) col w0 ap am aa.2.2.2.2):
    Calls prog 85 #[(.agg #[.string aa.1,.slice af aa.2.1.length ae,.slice an aa.2.2.1.length ak,.slice ao aa.2.2.2.1.length al,.slice ap aa.2.2.2.2.length am])] w0 (fun e w'=>e= .returned ((.int .i64 r))∧Below w0.heap.size w0 w'):=by
 refine Xl 2 (m:=37) func85 rfl rfl rfl rfl rfl ?_;rw [Ze5.eq_1] at hm;have ab:=St.start col w0;refine go ?_;refine Xs (col:=(Zk col)) 1 rfl ?_;intro a3 bk bm a6 ac;refine go ?_;refine Xk ac ?_;refine go ?_;replace ab:=ab.grow a6;refine Z4 [1,6,7,1000000] (fun n f aq=>∃ ah ad aj,n=aj.length∧aa.2.1.drop ad=aj∧Zb3 aa aj ad=some r∧St w0 (Zk col) ah aq∧Zf 27 1 ah aq a3 #[.string aa.1,.slice af aa.2.1.length ae,.slice an aa.2.2.1.length ak,.slice ao aa.2.2.2.1.length al,.slice ap aa.2.2.2.2.length am]∧[8].map f=[.int .i64 ad]) aa.2.1.length ⟨_,0,_,rfl,rfl,hm,ab,ac,rfl⟩ ?_;clear hm;intro n f aq hI;obtain ⟨ah,ad,aj,hn,hl,hm,ab,ac,hs⟩:=hI;subst hn;refine .lL [8] hs ?_;replace ag:=ag.keep (Zi.start col w0);replace ai:=ai.keep (Zi.start col w0)
 cases aj with
 | nil=>
  have hk:¬ ((ad:Int)<(aa.2.1.length:Int)):=by have:=aH.1 hl;omega
  have hkb:=decide_eq_false hk;rw [Zb3.eq_1] at hm;refine go ?_;refine X2 (congrArg Value.bool hkb)<|go ?_;cases hm;exact ⟨rfl,rfl,ab.below⟩
 | cons bn a4=>
  obtain ⟨av,a7,a8⟩:=Yd hl;have hk:(ad:Int)<(aa.2.1.length:Int):=by omega
  have hkb:=decide_eq_true hk;rw [Zb3.eq_2] at hm;refine go ?_;refine X3 (congrArg Value.bool hkb)<|go ?_;refine lI av ((ag.ks ab).addr av)<|lW ((ag.ks ab).atStr av)<|Y7 rfl<|lAT rfl<|Zl<|Zef<|Z0 ?_;refine Wp.cutK [1,3,6,7,8,1000000] (fun f aw=>∃ ax ay,Zhj aa ad (Zb3 aa a4) ay=some r∧St w0 (Zk col) ax aw∧Zf 27 1 ax aw a3 #[.string aa.1,.slice af aa.2.1.length ae,.slice an aa.2.2.1.length ak,.slice ao aa.2.2.2.1.length al,.slice ap aa.2.2.2.2.length am]∧[13].map f=[.bool ay]) ?_ ?_
  ·intro f aw hJ;obtain ⟨ax,ay,hm,ab,ac,hs⟩:=hJ;rw [Zhj.eq_1] at hm;refine .lL [13] hs ?_;refine Zq hm (fun hb hm=>go ?_) fun hb hm=>go ?_
   ·cases hm;exact ⟨rfl,rfl,ab.below⟩
   refine Xk ac<|X1 rfl ?_;obtain ⟨bo,az,hm⟩:=bZ hm;refine lI az ((ai.ks ab).addr az) ?_;obtain ⟨_,a9,ba⟩:=(ai.ks ab).atN az;obtain ⟨⟨bp,bq,rfl,br⟩,_⟩:=a9;refine lW ba.one<|go ?_;refine Zq hm (fun hb hm=>go ?_) fun hb hm=>go ?_
   ·cases hm;exact ⟨rfl,rfl,ab.below⟩
   exact ⟨a4.length,by simp,rfl,⟨_,_,_,rfl,a7,hm,ab,ac,(Yg (congrArg (Value.int .i64) (Yb (aF a8 (ag.ks ab).1.1))) rfl)⟩⟩
  refine Vd<|Xk ac<|X1 rfl ?_;obtain ⟨a0,hm⟩:=Z8 hm;refine lv (v:=.slice af (aA (ad:Int)) ae) rfl rfl (Zlk underlying22 sizeOf9 rfl rfl a0.1 (by have:=(ag.ks ab).1.2;have:=a0.2;omega))<|.ld (d:=17) (v:=(.slice af ((aa.2.1.take (aA (ad:Int))).length) ae)) (congrArg (fun n=>Value.slice af n ae) (List.length_take_of_le (show (aA (ad:Int))≤aa.2.1.length by have:=a0.2;omega)).symm) ?_;refine lMT rfl ?_;obtain ⟨bs,bb,hm⟩:=bZ hm;refine Zj (Z45 bb ((ag.ks ab).take (aA (ad:Int)))) ?_;rintro _ a5 ⟨rfl,ar⟩;refine ⟨_,rfl,?_⟩;replace ar:Zh ah aq ah a5:=.of_below ar;refine Ts rfl ?_;replace ac:=ac.gr ar;replace ab:=ab.grow ar;refine Yt hm (fun a1 hm=>go ?_) fun a1 hm=>go ?_
  ·refine lV (.bool true) (Yf (congrArg Value.bool a1) rfl)<|go ?_;exact ⟨rfl,_,_,hm,ab,ac,rfl⟩
  refine Yk ⟨_,_,rfl⟩ ?_;refine go ?_;refine lW ((ac.atN).nth (q:=2) rfl)<|go ?_;obtain ⟨bt,a2,hm⟩:=bZ hm;refine lI a2 ((ai.ks ab).addr a2) ?_;refine go ?_;obtain ⟨_,bc,bd⟩:=(ai.ks ab).atN a2;obtain ⟨⟨bu,bv,rfl,be⟩,_⟩:=bc;refine lW bd.one<|go ?_;obtain ⟨bf,bg,hm⟩:=bZ hm;refine Zj (Z33 bg be) ?_;rintro _ bh ⟨rfl,au⟩;refine ⟨_,rfl,?_⟩;replace au:Zh ah a5 ah bh:=.of_below au;refine lV (.bool bf) (X8 (congrArg Value.bool a1) rfl)<|go ?_;replace ac:=ac.gr au;replace ab:=ab.grow au;exact ⟨rfl,_,_,hm,ab,ac,rfl⟩
def Zhh (aa:Bool) (ab:List Int) (ac:List Int):Option R1:=
  some ((aa,ab),ac)
def Zb2 (N:Nat) (aa:R1):Option R1:=
  (Zfd N aa.2).bind fun ab=>if (decide ((ab.length:Int)=0))=true then ((Q9 N 1).bind fun ac=>Zhh aa.1.1 aa.1.2 ac) else (Zhh aa.1.1 aa.1.2 aa.2)
theorem Zt5 {N am a1:Nat} {an a2:Option Addr} {col:Ze} {w0:World} {ad r:R1} (hm:Zb2 N ad=some r) (ai:Sl (Za.int .u32) col w0 an am ad.1.2) (aj:Sl (Za.int .u32) col w0 a2 a1 ad.2):
    Calls prog 104 #[(.agg #[.bool ad.1.1,.slice an ad.1.2.length am,.slice a2 ad.2.length a1])] w0 (fun e w'=>∃ (col':Ze) (ra1:Option Addr) (rc2:Nat) (ra4:Option Addr) (rc5:Nat),e= .returned ((.agg #[.bool r.1.1,.slice ra1 r.1.2.length rc2,.slice ra4 r.2.length rc5]))∧Zh col w0 col' w'∧Sl (Za.int .u32) col' w' ra1 rc2 r.1.2∧Sl (Za.int .u32) col' w' ra4 rc5 r.2):=by
 refine Wq (m:=11) func104 rfl rfl rfl ?_;rw [Zb2.eq_1] at hm;have aa:=St.start col w0;refine go ?_;refine Xs (col:=(Zk col)) 1 rfl ?_;intro a3 bj a8 a9 ab;refine Xr (col:=a8) #[.bool false,.slice none (([]:List Int).length) 0,.slice none (([]:List Int).length) 0] 2 zeroValue39 ?_;intro ba bk bm a4 ac;refine Zl<|Z0 ?_;replace ai:=ai.keep (Zi.start col w0);replace aj:=aj.keep (Zi.start col w0);replace aa:=(aa.grow a9).grow a4;replace ab:=ab.gr a4;refine Wp.cutK [1,2,1000000] (fun f ae=>∃ af ao ap aq ak ar au al,Zhh ao ak al=some r∧St w0 (Zk col) af ae∧Sl (Za.int .u32) af ae ap aq ak∧Sl (Za.int .u32) af ae ar au al∧Zf 39 1 af ae a3 #[.bool ao,.slice ap ak.length aq,.slice ar al.length au]∧Zf 39 2 af ae ba #[.bool false,.slice none (([]:List Int).length) 0,.slice none (([]:List Int).length) 0]) ?_ ?_
 ·intro f ae hJ;obtain ⟨af,ao,ap,aq,ak,ar,au,al,hm,aa,av,aw,ab,ac⟩:=hJ;rw [Zhh.eq_1] at hm;refine go ?_;refine lV _ (Xd isAgg39 sizeOf39 ab)<|Z5 ac ?_;intro bn ax bb bc;refine go ?_;cases hm;replace av:=av.kp ax;replace aw:=aw.kp ax;replace aa:=aa.kp ax bb;exact ⟨rfl,_,ra bc.atN,_,_,_,_,_,rfl,aa.fin (cm []),aa.fs av,aa.fs aw⟩
 refine go ?_;refine Xk ab ?_;obtain ⟨bo,bd,hm⟩:=bZ hm;refine Zj (Zpu 3 bd (aj.ks aa)) ?_;rintro _ bp ⟨be,bq,br,rfl,ay,bs⟩;refine ⟨_,rfl,go ?_⟩;replace ab:=ab.gr ay;replace ac:=ac.gr ay;replace aa:=aa.grow ay;refine Zq hm (fun hb hm=>?_) fun hb hm=>?_
 ·refine Vd ?_;obtain ⟨a5,bf,hm⟩:=bZ hm;refine Zj (Zej (col:=be) 4 bf) ?_;rintro _ bt ⟨bg,a6,a7,rfl,az,ag⟩;refine ⟨_,rfl,?_⟩;refine Yk ⟨_,_,rfl⟩ ?_;replace ab:=ab.gr az;refine Zaw (off:=2) (v:=(.slice a6 a5.length a7)) ab sizeOf35 rfl rfl (by intro u hu;simp only [Value.cells,aP,bL,or_false] at hu;subst hu;rfl) rfl rfl ?_;intro bh a0 bi ah;replace ah:Zf 39 1 bg bh a3 #[.bool ad.1.1,.slice an ad.1.2.length am,.slice a6 a5.length a7]:=ah;refine Zl ?_;replace ag:=ag.kp a0;replace ag:=(ag).toSlF (Zd.int .u32);replace ah:=ah.froz 4 (by decide);replace ac:=(ac.gr az).kp a0;replace ac:=ac.froz 4 (by decide);replace aa:=(aa.grow az).kp a0 bi;replace aa:=aa.froz 4 (by decide) (by decide);exact ⟨rfl,_,_,_,_,_,_,_,_,hm,aa,(ai.ks aa),ag,ah,ac⟩
 refine Yl ?_;exact ⟨rfl,_,_,_,_,_,_,_,_,hm,aa,(ai.ks aa),(aj.ks aa),ab,ac⟩
theorem Z6c:Wv prog 39 3 56:=⟨Tryz.t39,_,rfl,rfl,rfl,rfl,rfl⟩
def Zdq (N:Nat):List R1→R4→Option R4
  | [],ab=>some ab
  | ac :: ad,ab=>(Zb2 N ((ac.1.1,ac.1.2),ac.2)).bind fun aa=>Z2 ((ab.length+[((aa.1.1,aa.1.2),aa.2)].length) * 56≤140737488355328∧ab.length+[((aa.1.1,aa.1.2),aa.2)].length≤maxLen) ((Zdq N ad) (ab++[((aa.1.1,aa.1.2),aa.2)]))
termination_by structural x=>x
def Zhi (N:Nat) (aa:R4):Option R4:=
  Z2 (aa.length * 56≤281474976710656∧aa.length≤maxLen) (Zdq N aa ([]:List R1))
theorem Zt6 {N ar:Nat} {a0:Option Addr} {col:Ze} {w0:World} {ac r:R4} (c1:Nat) (hm:Zhi N ac=some r) (h0:Sl (Za.pair (Za.pair Za.bool (Za.slice (Za.int .u32))) (Za.slice (Za.int .u32))) col w0 a0 ar ac):
    Calls prog 89 #[.slice a0 ac.length ar] w0 (fun e w'=>∃ (col':Ze) (ra1:Option Addr) (rc2:Nat),e= .returned ((.slice ra1 r.length rc2))∧Zh col w0 col' w'∧Zb (Za.pair (Za.pair Za.bool (Za.slice (Za.int .u32))) (Za.slice (Za.int .u32))) 39 c1 col' w' ra1 rc2 r):=by
 refine Xl 2 (m:=22) func89 rfl rfl rfl rfl rfl ?_;rw [Zhi.eq_1] at hm;have ab:=St.start col w0;refine go ?_;obtain ⟨au,hm⟩:=Z8 hm;refine Zwl (col:=(Zk col)) (w:=w0) (r:=(Za.pair (Za.pair Za.bool (Za.slice (Za.int .u32))) (Za.slice (Za.int .u32)))) (n:=ac.length) 1 rfl underlying114 Z6c rfl rfl rfl au.1 au.2 ?_;intro bt bu bv a2 a3;refine go ?_;replace ab:=ab.grow a2;refine Z4 [10,9,1000000] (fun n f ak=>∃ af ad al am ag ae,n=ae.length∧ac.drop ad=ae∧Zdq N ae ag=some r∧St w0 (Zk col) af ak∧Zb (Za.pair (Za.pair Za.bool (Za.slice (Za.int .u32))) (Za.slice (Za.int .u32))) 39 1 af ak al am ag∧[11,3].map f=[.int .i64 ad,.slice al ag.length am]) ac.length ⟨_,0,_,_,_,_,rfl,rfl,hm,ab,a3,rfl⟩ ?_;clear hm;intro n f ak hI;obtain ⟨af,ad,al,am,ag,ae,hn,hl,hm,ab,ah,hs⟩:=hI;subst hn;refine .lL [11,3] hs ?_;replace h0:=h0.keep (Zi.start col w0)
 cases ae with
 | nil=>
  have hk:¬ ((ad:Int)<(ac.length:Int)):=by have:=aH.1 hl;omega
  have hkb:=decide_eq_false hk;rw [Zdq.eq_1] at hm;refine go ?_;refine X2 (congrArg Value.bool hkb)<|go ?_;cases hm;exact ⟨rfl,_,_,_,rfl,ab.fin (cm [(1,c1)]),ab.fo ah⟩
 | cons an a4=>
  obtain ⟨ao,a5,a6⟩:=Yd hl;have hk:(ad:Int)<(ac.length:Int):=by omega
  have hkb:=decide_eq_true hk;rw [Zdq.eq_2] at hm;refine go ?_;refine X3 (congrArg Value.bool hkb)<|go ?_;refine lI ao ((h0.ks ab).addr ao) ?_;obtain ⟨_,a7,a8⟩:=(h0.ks ab).atN ao;obtain ⟨_,_,rfl,a9,ba⟩:=Uw a7;obtain ⟨_,_,rfl,bb,bc⟩:=Uw a9;obtain ⟨rfl,_⟩:=bb;obtain ⟨⟨bd,be,rfl,ap⟩,_⟩:=bc;obtain ⟨⟨bf,bg,rfl,aq⟩,_⟩:=ba;refine lV (.agg #[.bool an.1.1,.slice bd an.1.2.length be,.slice bf an.2.length bg]) (W4 isAgg39 sizeOf39 rfl rfl a8)<|Xr (col:=af) #[.bool false,.slice none (([]:List Int).length) 0,.slice none (([]:List Int).length) 0] 2 zeroValue39 ?_;intro bw bx bz ai bh;refine Z5 bh ?_;intro b0 aj bi bj;refine go ?_;refine lV _ (Xd isAgg39 sizeOf39 bj) ?_;obtain ⟨aa,bk,hm⟩:=bZ hm;replace ap:=(ap.gr ai).kp aj;replace aq:=(aq.gr ai).kp aj;refine Zj (Zt5 bk ap aq) ?_;rintro _ b1 ⟨bm,av,aw,ax,ay,rfl,az,bn,bo⟩;refine ⟨_,rfl,?_⟩;refine Ur (col:=bm) (r:=(Za.pair (Za.pair Za.bool (Za.slice (Za.int .u32))) (Za.slice (Za.int .u32)))) (xs:=[((aa.1.1,aa.1.2),aa.2)]) [(.agg #[.bool aa.1.1,.slice av aa.1.2.length aw,.slice ax aa.2.length ay])] 3 (Wa.ofF (Rows.consF (r:=(Za.pair (Za.pair Za.bool (Za.slice (Za.int .u32))) (Za.slice (Za.int .u32)))) (x:=((aa.1.1,aa.1.2),aa.2)) (cs:=[.bool aa.1.1,.slice av aa.1.2.length aw,.slice ax aa.2.length ay]) (Ziw (Ziw (Zcl aa.1.1) (Zll bn)) (Zll bo)) Rows.nil0)) ?_;intro b2 b3 b4 a1 bp;obtain ⟨bq,hm⟩:=Z8 hm;replace ah:=(((ah.gr ai).kp aj).gr az).gr a1;refine V1 ah (bp.srcN (NB.pair (NB.pair NB.bool NB.slice) NB.slice)) bq ?_;intro b5 b6 b7 b8 br bs;refine go ?_;replace ab:=((((ab.grow ai).kp aj bi).grow az).grow a1).kpp br;exact ⟨a4.length,by simp,rfl,⟨_,_,_,_,_,_,rfl,a5,hm,ab,bs,(Yg (congrArg (Value.int .i64) (Yb (aF a6 (h0.ks ab).1.1))) rfl)⟩⟩
def Zd2 (N:Nat) (ab:List R1) (ac:Int):Nat→Int→Option R9
  | 0,_=>none
  | ad+1,aa=>if (decide (aa<(ab.length:Int)))=true then (Z2 ((0:Int)≤aa∧aa≤(ab.length:Int)) (Z2 ((0:Int)≤aa∧aa≤(i64.wrap (aa+(if ((ab.drop (aA aa)).length:Int)<ac then ((ab.drop (aA aa)).length:Int) else ac)))∧(i64.wrap (aa+(if ((ab.drop (aA aa)).length:Int)<ac then ((ab.drop (aA aa)).length:Int) else ac)))≤(i64.wrap (aa+(if ((ab.drop (aA aa)).length:Int)<ac then ((ab.drop (aA aa)).length:Int) else ac)))∧(i64.wrap (aa+(if ((ab.drop (aA aa)).length:Int)<ac then ((ab.drop (aA aa)).length:Int) else ac)))≤(ab.length:Int)) (((Zd2 N ab ac ad) (i64.wrap (aa+ac))).bind fun ae=>some ((ab.take (aA (i64.wrap (aa+(if ((ab.drop (aA aa)).length:Int)<ac then ((ab.drop (aA aa)).length:Int) else ac))))).drop (aA aa) :: ae)))) else (some [])
termination_by structural x=>x
def Zns (N:Nat) (aa:List R1) (ab:Int):Option R9:=
  Zd2 N aa ab N 0
theorem Z40 (N:Nat) (col:Ze) (w0:World) (g0:Nat) (af0:Option Addr) (capf0:Nat) (ab:List R1) (hf0:Sl (Za.pair (Za.pair Za.bool (Za.slice (Za.int .u32))) (Za.slice (Za.int .u32))) col w0 af0 capf0 ab) (hb0:Zf 114 450 col w0 g0 #[.slice af0 ab.length capf0]) (g1:Nat) (ac:Int) (hb1:Zf 3 450 col w0 g1 #[.int .i64 ac]) (r:List R4) (hm:Zns N ab ac=some r):
    Zi4 prog 1 196 [.pointer (some ⟨g0,0,none⟩),.pointer (some ⟨g1,0,none⟩)] (fun (y:List R1) (col:Ze) (w:World) (args:List Value)=>∃ (a0:Option Addr) (ak:Nat),args=[.slice a0 y.length ak]∧Sl (Za.pair (Za.pair Za.bool (Za.slice (Za.int .u32))) (Za.slice (Za.int .u32))) col w a0 ak y) r col w0:=by
 intro l J X hjs hxs hy ad;refine Zcs (m:=31) (args:=[.func (.yield l) #[] #[],.pointer (some ⟨g0,0,none⟩),.pointer (some ⟨g1,0,none⟩)]) func196 rfl rfl rfl rfl ?_;rw [Zns.eq_1] at hm;refine go ?_;refine Z4 [0,1,2,1000000] (fun n f ah=>∃ ae r aa af,af=n∧Zd2 N ab ac af aa=some r∧J r ae ah∧Sl (Za.pair (Za.pair Za.bool (Za.slice (Za.int .u32))) (Za.slice (Za.int .u32))) ae ah af0 capf0 ab∧Zf 114 450 ae ah g0 #[.slice af0 ab.length capf0]∧Zf 3 450 ae ah g1 #[.int .i64 ac]∧[4].map f=[.int .i64 aa]) N ⟨_,_,0,_,rfl,hm,ad,hf0,hb0,hb1,rfl⟩ ?_;clear hm;intro n f ah hI;obtain ⟨ae,r,aa,af,hn,hm,ad,hf0,hb0,hb1,hs⟩:=hI;subst hn;refine .lL [4] hs ?_
 cases af with
 | zero=>rw [Zd2.eq_1] at hm;cases hm
 | succ af=>
  rw [Zd2.eq_2] at hm;refine go ?_;refine lW hb0.at1<|go ?_;refine Zq hm (fun hb hm=>go ?_) fun hb hm=>go ?_
  ·refine V4 (col:=ae) (by kernel_rfl) (by kernel_rfl)<|qW (fun _ hC=>hb1.at1.gr (hC.bl ae)) ?_;refine qW (fun _ hC=>hb0.at1.gr (hC.bl ae)) ?_;refine go ?_;obtain ⟨al,hm⟩:=Z8 hm;have ap:=hf0.drop (sz:=3) rfl (aA aa);refine qv (v:=.slice (if capf0=(aA aa) then af0 else af0.map (·.add ((aA aa) * 3))) (ab.length - (aA aa)) (capf0 - (aA aa))) rfl (fun _ hC=>Zzp underlying114 sizeOf39 rfl rfl al.1 al.2) ?_;generalize (if capf0=(aA aa) then af0 else af0.map (·.add ((aA aa) * 3)))=am at *;refine .ld (d:=16) (v:=(.slice am ((ab.drop (aA aa)).length) (capf0 - (aA aa)))) (congrArg (fun n=>Value.slice am n (capf0 - (aA aa))) (bI (i:=(aA aa)) (l:=ab)).symm) ?_;refine go ?_;refine qv (v:=(.int .i64 (if ((ab.drop (aA aa)).length:Int)<ac then ((ab.drop (aA aa)).length:Int) else ac))) rfl (fun _ hC=>Zlj ac ((ab.drop (aA aa)).length:Int) rfl rfl) ?_;refine go ?_;refine Vc ?_;intro aq hC;replace hC:=hC.bl ae;replace hf0:=hf0.gr hC;replace hb0:=hb0.gr hC;replace hb1:=hb1.gr hC;replace ad:=hjs _ _ _ _ _ ad hC.toP;refine go ?_;refine lM (.func (.yield l) #[] #[])<|lW hb0.at1<|go ?_;obtain ⟨ag,hm⟩:=Z8 hm;have an:=((hf0.take (aA (i64.wrap (aa+(if ((ab.drop (aA aa)).length:Int)<ac then ((ab.drop (aA aa)).length:Int) else ac))))).recap (show (ab.take (aA (i64.wrap (aa+(if ((ab.drop (aA aa)).length:Int)<ac then ((ab.drop (aA aa)).length:Int) else ac))))).length≤(aA (i64.wrap (aa+(if ((ab.drop (aA aa)).length:Int)<ac then ((ab.drop (aA aa)).length:Int) else ac)))) by rw [cX (i:=(aA (i64.wrap (aa+(if ((ab.drop (aA aa)).length:Int)<ac then ((ab.drop (aA aa)).length:Int) else ac))))) (l:=ab)];have:=ag.2;omega)).drop (sz:=3) rfl (aA aa);refine lv (v:=.slice (if (aA (i64.wrap (aa+(if ((ab.drop (aA aa)).length:Int)<ac then ((ab.drop (aA aa)).length:Int) else ac))))=(aA aa) then af0 else af0.map (·.add ((aA aa) * 3))) ((aA (i64.wrap (aa+(if ((ab.drop (aA aa)).length:Int)<ac then ((ab.drop (aA aa)).length:Int) else ac)))) - (aA aa)) ((aA (i64.wrap (aa+(if ((ab.drop (aA aa)).length:Int)<ac then ((ab.drop (aA aa)).length:Int) else ac)))) - (aA aa))) rfl rfl (Zzr underlying114 sizeOf39 rfl rfl rfl rfl ag.1 ag.2.1 ag.2.2.1 (by have:=hf0.1.2;have:=ag.2.2.2;omega)) ?_
   generalize (if (aA (i64.wrap (aa+(if ((ab.drop (aA aa)).length:Int)<ac then ((ab.drop (aA aa)).length:Int) else ac))))=(aA aa) then af0 else af0.map (·.add ((aA aa) * 3)))=ai at *;refine .ld (d:=28) (v:=(.slice ai (((ab.take (aA (i64.wrap (aa+(if ((ab.drop (aA aa)).length:Int)<ac then ((ab.drop (aA aa)).length:Int) else ac))))).drop (aA aa)).length) ((aA (i64.wrap (aa+(if ((ab.drop (aA aa)).length:Int)<ac then ((ab.drop (aA aa)).length:Int) else ac)))) - (aA aa)))) (congrArg (fun n=>Value.slice ai n ((aA (i64.wrap (aa+(if ((ab.drop (aA aa)).length:Int)<ac then ((ab.drop (aA aa)).length:Int) else ac)))) - (aA aa))) (show (aA (i64.wrap (aa+(if ((ab.drop (aA aa)).length:Int)<ac then ((ab.drop (aA aa)).length:Int) else ac)))) - (aA aa)=((ab.take (aA (i64.wrap (aa+(if ((ab.drop (aA aa)).length:Int)<ac then ((ab.drop (aA aa)).length:Int) else ac))))).drop (aA aa)).length by rw [bI (i:=(aA aa)) (l:=ab.take (aA (i64.wrap (aa+(if ((ab.drop (aA aa)).length:Int)<ac then ((ab.drop (aA aa)).length:Int) else ac))))),cX (i:=(aA (i64.wrap (aa+(if ((ab.drop (aA aa)).length:Int)<ac then ((ab.drop (aA aa)).length:Int) else ac))))) (l:=ab)];have:=ag.2;omega)) ?_;obtain ⟨ar,hc_14m,ao⟩:=bZ hm;cases ao;have hm:=hc_14m;refine ly1 rfl rfl rfl (hy _ _ _ _ [(.slice ai (((ab.take (aA (i64.wrap (aa+(if ((ab.drop (aA aa)).length:Int)<ac then ((ab.drop (aA aa)).length:Int) else ac))))).drop (aA aa)).length) ((aA (i64.wrap (aa+(if ((ab.drop (aA aa)).length:Int)<ac then ((ab.drop (aA aa)).length:Int) else ac)))) - (aA aa)))] ad ⟨ai,((aA (i64.wrap (aa+(if ((ab.drop (aA aa)).length:Int)<ac then ((ab.drop (aA aa)).length:Int) else ac)))) - (aA aa)),rfl,an⟩) ?_;rintro _ au ⟨av,aj,⟨rfl,hJ⟩ | ⟨rfl,hX⟩⟩
   ·refine ⟨_,rfl,?_⟩;have ad:=hJ;refine go ?_;refine X2 rfl<|go ?_;replace hb1:=hb1.kpp aj;refine lW hb1.at1<|go ?_;replace hf0:=hf0.kpp aj;replace hb0:=hb0.kpp aj;exact ⟨af,by omega,rfl,⟨_,_,_,_,rfl,hm,ad,hf0,hb0,hb1,rfl⟩⟩
   refine ⟨_,rfl,?_⟩;have ad:=hX;refine go ?_;refine X3 rfl<|Vv ?_;exact ⟨rfl,⟨_,rfl⟩,_,.inr ad⟩
  cases hm;exact ⟨rfl,⟨_,rfl⟩,_,.inl ad⟩
def Znt (N:Nat) (aa:R4) (ab:Int):Option R9:=
  Zns N aa ab
def Znr (N:Nat) (ab:R4) (aa:Int):Option R9:=
  if (decide (aa<1))=true then none else (Znt N ab aa)
theorem Z4z {N aa:Nat} {a0:Option Addr} {col:Ze} {w0:World} {ac:R4} {ad:Int} {r:R9} (hm:Znr N ac ad=some r) (h0:Sl (Za.pair (Za.pair Za.bool (Za.slice (Za.int .u32))) (Za.slice (Za.int .u32))) col w0 a0 aa ac):
    Calls prog 162 #[.slice a0 ac.length aa,.int .i64 ad] w0 (fun e w'=>∃ (col':Ze) (rv1:Value),e= .returned (rv1)∧Zh col w0 col' w'∧It prog 1 rv1 (fun (y:List R1) (col:Ze) (w:World) (args:List Value)=>∃ (a0:Option Addr) (aa:Nat),args=[.slice a0 y.length aa]∧Sl (Za.pair (Za.pair Za.bool (Za.slice (Za.int .u32))) (Za.slice (Za.int .u32))) col w a0 aa y) r q0 col' w'):=by
 refine Xl 4 (m:=9) func162 rfl rfl rfl rfl rfl ?_;rw [Znr.eq_1] at hm;have ab:=St.start col w0;refine go ?_;refine Zc0 (col:=(Zk col)) (v:=(.slice a0 ac.length aa)) 1 rfl rfl ?_;intro af ap an aq ae;replace ae:Zf 114 1 an ap af #[.slice a0 ac.length aa]:=ae;refine Zc0 (col:=an) (v:=(.int .i64 ad)) 2 rfl rfl ?_;intro ag ar au ao ah;replace ah:Zf 3 2 au ar ag #[.int .i64 ad]:=ah;refine lv (v:=_) rfl rfl (Sg rfl)<|Zl<|Z0 ?_;replace h0:=h0.keep (Zi.start col w0);replace ab:=(ab.grow aq).grow ao;replace ae:=ae.gr ao;refine Wp.cutK [2,3,1000000] (fun f aj=>∃ ai,Znt N ac ad=some r∧St w0 (Zk col) ai aj∧Zf 114 1 ai aj af #[.slice a0 ac.length aa]∧Zf 3 2 ai aj ag #[.int .i64 ad]) ?_ ?_
 ·intro f aj hJ;obtain ⟨ai,hm,ab,ae,ah⟩:=hJ;rw [Znt.eq_1] at hm;refine go ?_;refine lV (.func (.func 196) #[] #[.pointer (some ⟨af,0,none⟩),.pointer (some ⟨ag,0,none⟩)]) (Zr7 rfl rfl)<|lA (.func (.func 196) #[] #[.pointer (some ⟨af,0,none⟩),.pointer (some ⟨ag,0,none⟩)])<|go ?_;have ak:=ab.finBox (G:=(fun n=>bif aJ n 1 then 450 else bif aJ n 2 then 450 else 0)) ae (by decide) (by decide) (show (fun n=>bif aJ n 1 then 450 else bif aJ n 2 then 450 else 0) 1=450 from rfl);have h0f:=ab.finSl (g:=(fun n=>bif aJ n 1 then 450 else bif aJ n 2 then 450 else 0)) rfl (h0.ks ab);have al:=ab.finBox (G:=(fun n=>bif aJ n 1 then 450 else bif aJ n 2 then 450 else 0)) ah (by decide) (by decide) (show (fun n=>bif aJ n 1 then 450 else bif aJ n 2 then 450 else 0) 2=450 from rfl);refine ⟨rfl,Vz w0.heap.size col ai (fun n=>bif aJ n 1 then 450 else bif aJ n 2 then 450 else 0),_,rfl,ab.fin (fun n=>bif aJ n 1 then 450 else bif aJ n 2 then 450 else 0),196,[.pointer (some ⟨af,0,none⟩),.pointer (some ⟨ag,0,none⟩)],rfl,call196,?_⟩;intro col9 w9 am hk9;replace ak:=ak.itk am hk9 rfl;replace h0f:=h0f.itk am hk9 rfl;replace al:=al.itk am hk9 rfl;exact Z40 N col9 w9 af a0 aa ac h0f ak ag ad al r hm
 refine go ?_;refine lW ah.at1<|go ?_;refine Zq hm (fun hb hm=>?_) fun hb hm=>?_
 ·cases hm
 refine Yl ?_;exact ⟨rfl,_,hm,ab,ae,ah⟩
def Ze6 (N:Nat):Option R1:=
  (Zbt N 1 1).bind fun aa=>some ((aa.1.1.1,aa.1.1.2),aa.1.2)
theorem Zpr {N:Nat} {col:Ze} {w0:World} {r:R1} (c1 c2:Nat) (hm:Ze6 N=some r):
    Calls prog 103 #[] w0 (fun e w'=>∃ (col':Ze) (ra1:Option Addr) (rc2:Nat) (ra4:Option Addr) (rc5:Nat),e= .returned ((.agg #[.bool r.1.1,.slice ra1 r.1.2.length rc2,.slice ra4 r.2.length rc5]))∧Zh col w0 col' w'∧Zb (Za.int .u32) 95 c1 col' w' ra1 rc2 r.1.2∧Zb (Za.int .u32) 95 c2 col' w' ra4 rc5 r.2):=by
 refine Wq (m:=8) func103 rfl rfl rfl ?_;rw [Ze6.eq_1] at hm;have ab:=St.start col w0;refine go ?_;refine Xr (col:=(Zk col)) #[.bool false,.slice none (([]:List Int).length) 0,.slice none (([]:List Int).length) 0] 1 zeroValue39 ?_;intro ay az an ao ae;refine go ?_;obtain ⟨aa,ap,hm⟩:=bZ hm;refine Zj (Zl8 (col:=an) 2 3 ap) ?_;rintro _ a0 ⟨aq,ai,aj,ak,al,rfl,am,af,ag⟩;refine ⟨_,rfl,?_⟩;refine lM (.tuple #[(.agg #[.bool aa.1.1.1,.slice ai aa.1.1.2.length aj,.slice ak aa.1.2.length al]),.int .i64 aa.2])<|lV (.agg #[.bool aa.1.1.1,.slice ai aa.1.1.2.length aj,.slice ak aa.1.2.length al]) (Xx rfl rfl)<|lV (.int .i64 aa.2) (Xx rfl rfl)<|Xr (col:=aq) #[.bool false,.slice none (([]:List Int).length) 0,.slice none (([]:List Int).length) 0] 4 zeroValue39 ?_;intro a1 a2 a3 ac ar;refine Z5 ar ?_;intro a4 ad au av;refine go ?_;refine lV _ (Xd isAgg39 sizeOf39 av) ?_;replace ae:=((ae.gr am).gr ac).kp ad;refine Z5 ae ?_;intro a5 ah aw ax;refine go ?_;cases hm;replace ab:=((((ab.grow ao).grow am).grow ac).kp ad au).kp ah aw;replace af:=((af.gr ac).kp ad).kp ah;replace ag:=((ag.gr ac).kp ad).kp ah;exact ⟨rfl,_,ra ax.atN,_,_,_,_,_,rfl,ab.fin (cm [(2,c1),(3,c2)]),ab.fo af,ab.fo ag⟩
def Zqu (aa:Bool):Option Bool:=
  some aa
def Ze8 (N:Nat):List R4→Bool→Option Bool
  | [],ac=>some true
  | ad :: ae,ac=>(Zc8 N ad).bind fun aa=>(Ze6 N).bind fun ab=>(Zbr N ((aa.1.1,aa.1.2),aa.2) ((ab.1.1,ab.1.2),ab.2)).bind fun af=>if (!decide (af=0))=true then (Zqu false) else ((Ze8 N ae) ac)
termination_by structural x=>x
def Zj1 (N:Nat) (aa:R4) (ab:Int):Option Bool:=
  (Znr N aa ab).bind fun ac=>Ze8 N ac false
theorem Z34 {N ah:Nat} {a0:Option Addr} {col:Ze} {w0:World} {am:R4} {ao:Int} {r:Bool} (hm:Zj1 N am ao=some r) (h0:Sl (Za.pair (Za.pair Za.bool (Za.slice (Za.int .u32))) (Za.slice (Za.int .u32))) col w0 a0 ah am):
    Calls prog 91 #[.slice a0 am.length ah,.int .i64 ao] w0 (fun e w'=>e= .returned ((.bool r))∧Below w0.heap.size w0 w'):=by
 refine Zuh (m:=15) (args:=[.slice a0 am.length ah,.int .i64 ao]) func91 rfl rfl rfl ?_;rw [Zj1.eq_1] at hm;have aa:=St.start col w0;replace h0:=h0.keep (Zi.start col w0);have hmk:Yy 499 (Zk col) w0 []:=.nil;refine go ?_;refine Zav (col:=(Zk col)) (v:=(.bool false)) 1 rfl zeroValue4 ?_;intro ai a4 a5 ax ab;replace ab:Zf 4 1 a5 a4 ai #[.bool false]:=ab;refine go ?_;obtain ⟨a6,a7,hm⟩:=bZ hm;replace aa:=aa.grow ax;refine Zj (Z4z a7 (h0.ks aa)) ?_;rintro _ bq ⟨a8,br,rfl,ap,a9⟩;refine ⟨_,rfl,go ?_⟩;replace hmk:=(hmk.gr ax).gr ap;replace ab:=ab.gr ap;replace aa:=aa.grow ap;refine Zo3 (psl:=[9]) (arr:=(fun (y:List R1) (col:Ze) (w:World) (args:List Value)=>∃ (a0:Option Addr) (ah:Nat),args=[.slice a0 y.length ah]∧Sl (Za.pair (Za.pair Za.bool (Za.slice (Za.int .u32))) (Za.slice (Za.int .u32))) col w a0 ah y)) (ys:=a6) (col:=a8) 498 rfl a9 rfl hmk rfl rfl (by rintro _ _ _ _ ⟨_,_,rfl,_⟩;rfl) (fun ys_ ad ae=>∃ (ac:Bool),Ze8 N ys_ ac=some r∧St w0 (Zk col) ad ae∧Zf 4 1 ad ae ai #[.bool ac]) (fun c_ ad ae=>(c_= .ret∧∃ (ac:Bool),Zqu ac=some r∧St w0 (Zk col) ad ae∧Zf 4 1 ad ae ai #[.bool ac])) ?_ ?_ ⟨false,hm,aa,ab⟩ ?_ ?_ ?_
 ·intro ys_ ad ae col2_ w2_ hJ hk;obtain ⟨ac,hm,aa,ab⟩:=hJ;exact ⟨ac,hm,aa.kpp hk rfl rfl,ab.kpp hk rfl⟩
 ·intro c_ ad ae col2_ w2_ hX hk;obtain ⟨rfl,hX⟩:=hX;obtain ⟨ac,hm,aa,ab⟩:=hX;exact ⟨rfl,⟨ac,hm,aa.kpp hk rfl rfl,ab.kpp hk rfl⟩⟩
 ·intro bs bt bu bv bw ad ae args hJ hrec hmk harr;obtain ⟨ac,hm,aa,ab⟩:=hJ;rw [Ze8.eq_2] at hm;have hki:=Zu.refl (pC 1) ad ae;obtain ⟨bx,bz,rfl,aq⟩:=harr;refine go ?_;refine ⟨_,hrec,?_⟩;intro b0 b1 aj ay hrec2;have hrec:=hrec2;refine go ?_;obtain ⟨b2,ba,hm⟩:=bZ hm;replace aq:=aq.kp aj;refine Zj (Zpm 2 3 ba aq) ?_;rintro _ b3 ⟨bb,b4,b5,b6,b7,rfl,ak,ar,au⟩;refine ⟨_,rfl,?_⟩;obtain ⟨b8,bc,hm⟩:=bZ hm;refine lc rfl rfl (Zip call103) (Zpr (col:=bb) 4 5 bc:) ?_;rintro _ bd ⟨av,b9,ca,cb,cc,rfl,af,be,bf⟩;refine ⟨_,rfl,?_⟩;obtain ⟨cd,bg,hm⟩:=bZ hm;replace ar:=ar.gr af;replace au:=au.gr af;refine Zj (Zl6 bg ((((ar.toSlF (Zd.int .u32)).froz 3).froz 4).froz 5) ((((au.froz 2 (by decide)).toSlF (Zd.int .u32)).froz 4).froz 5) ((((be.froz 2 (by decide)).froz 3 (by decide)).toSlF (Zd.int .u32)).froz 5) ((((bf.froz 2 (by decide)).froz 3 (by decide)).froz 4 (by decide)).toSlF (Zd.int .u32))) ?_;rintro _ bh ⟨rfl,ag⟩;refine ⟨_,rfl,?_⟩;replace ag:Zh av bd av bh:=.of_below ag;refine go ?_;replace ab:=(((ab.kp aj).gr ak).gr af).gr ag;replace hmk:=(((hmk.kp aj).gr ak).gr af).gr ag;replace hki:=(((hki.kp aj ay rfl).gr ak).gr af).gr ag;replace aa:=(((aa.kp aj ay).grow ak).grow af).grow ag;replace hrec:=((hrec.gr ak).gr af).gr ag;refine Zq hm (fun hb hm=>go ?_) fun hb hm=>?_
  ·refine Sr (v:=(.bool false)) ab sizeOf4 rfl rfl (by intro u hu;simp only [Value.cells,aP,bL,or_false] at hu;subst hu;rfl) rfl rfl ?_;intro bi an az aw;replace aw:Zf 4 1 av bi ai #[.bool false]:=aw;refine go ?_;replace hrec:=hrec.kp an;replace hmk:=hmk.kp an;replace hki:=hki.kp an az rfl;replace aa:=aa.kp an az;exact ⟨_,hki,⟨rfl,⟨false,hm,aa,aw⟩⟩,hrec,hmk⟩
  refine Yl ?_;exact ⟨_,hki,⟨ac,hm,aa,ab⟩,hrec,hmk⟩
 ·intro bj ad ae hJ hmk;obtain ⟨ac,hm,aa,ab⟩:=hJ;rw [Ze8.eq_1] at hm;refine go ?_;refine Sr (v:=(.bool true)) ab sizeOf4 rfl rfl (by intro u hu;simp only [Value.cells,aP,bL,or_false] at hu;subst hu;rfl) rfl rfl ?_;intro bk a1 bm al;replace al:Zf 4 1 ad bk ai #[.bool true]:=al;refine go ?_;cases hm;replace hmk:=hmk.kp a1;refine ⟨_,(bj :: []),rfl,hmk,?_⟩;intro ce a2 bn;replace aa:=(aa.kp a1 bm).kp a2 bn;replace al:=al.kp a2;exact ⟨_,Zz5 rfl rfl isAgg4 rfl al.at1,rfl,aa.below⟩
 intro c_ bo ad ae hX hmk;obtain ⟨rfl,hX⟩:=hX;obtain ⟨ac,hm,aa,ab⟩:=hX;rw [Zqu.eq_1] at hm;refine Vv ?_;cases hm;refine ⟨_,(bo :: []),rfl,hmk,?_⟩;intro cf a3 bp;replace ab:=ab.kp a3;replace aa:=aa.kp a3 bp;exact ⟨_,Zz5 rfl rfl isAgg4 rfl ab.at1,rfl,aa.below⟩
def Zhl (aa:Bool):Option Bool:=
  some aa
def Zhk (N:Nat) (aa:R1):Option Bool:=
  (Ta N ((aa.1.1,aa.1.2),aa.2)).bind fun ac=>if (decide (ac<0))=true then (Zhl true) else ((Ze6 N).bind fun ab=>(Zbr N ((aa.1.1,aa.1.2),aa.2) ((ab.1.1,ab.1.2),ab.2)).bind fun ad=>Zhl (decide (0<ad)))
theorem Z31 {N al am:Nat} {an ao:Option Addr} {col:Ze} {w0:World} {ac:R1} {r:Bool} (hm:Zhk N ac=some r) (ah:Sl (Za.int .u32) col w0 an al ac.1.2) (ai:Sl (Za.int .u32) col w0 ao am ac.2):
    Calls prog 90 #[(.agg #[.bool ac.1.1,.slice an ac.1.2.length al,.slice ao ac.2.length am])] w0 (fun e w'=>e= .returned ((.bool r))∧Below w0.heap.size w0 w'):=by
 refine Xl 2 (m:=12) func90 rfl rfl rfl rfl rfl ?_;rw [Zhk.eq_1] at hm;have aa:=St.start col w0;refine go ?_;refine Xs (col:=(Zk col)) 1 rfl ?_;intro a6 a7 ab ay aj;refine Zmm rfl<|Zl<|Z0 ?_;replace ah:=ah.keep (Zi.start col w0);replace ai:=ai.keep (Zi.start col w0);replace aa:=aa.grow ay;refine Wp.cutK [1000000] (fun f av=>∃ aw ap,Zhl ap=some r∧St w0 (Zk col) aw av∧[2].map f=[.bool ap]) ?_ ?_
 ·intro f av hJ;obtain ⟨aw,ap,hm,aa,hs⟩:=hJ;rw [Zhl.eq_1] at hm;refine .lL [2] hs<|Vv ?_;cases hm;exact ⟨rfl,rfl,aa.below⟩
 refine W7 (col:=ab) [(0,0),(1,3),(2,1),(3,1),(4,0),(5,3),(6,3),(7,1),(8,1),(9,1)] (by kernel_rfl) (by kernel_rfl)<|xv rfl rfl (fun _ hC=>Xd isAgg39 sizeOf39 (aj.gr (hC.bl ab))) ?_;refine xe rfl rfl ?_;intro az hC0;have hC:=hC0.bl ab;obtain ⟨ae,a0,hm⟩:=bZ hm;replace aa:=aa.grow hC;refine Zj (Zgg a0 (ah.ks aa) (ai.ks aa)) ?_;rintro _ a1 ⟨rfl,ag⟩;refine ⟨_,rfl,?_⟩;replace ag:Zh ab az ab a1:=.of_below ag;refine Zl<|Xz ab hC0 ag<|xu rfl rfl (fun _=>Zr9 _ _ rfl rfl) ?_;refine xu rfl rfl (fun _=>Tg rfl) ?_;replace aj:=(aj.gr hC).gr ag;replace aa:=aa.grow ag;refine Yt hm (fun ad hm=>?_) fun ad hm=>?_
 ·refine Yr (b:=decide (ae<0)) 6 rfl rfl rfl rfl rfl (by rw [ad];rfl)<|Yr (b:=decide (ae<0)) 6 rfl rfl rfl rfl rfl (by rw [ad];rfl)<|Yr (b:=decide (ae<0)) 6 rfl rfl rfl rfl rfl (by rw [ad];rfl)<|Yr (b:=decide (ae<0)) 6 rfl rfl rfl rfl rfl (by rw [ad];rfl)<|xu (v:=(.bool true)) rfl rfl (fun _=>Yf (congrArg Value.bool ad) rfl) ?_;refine xu rfl rfl (fun _=>Zd8 rfl) ?_;refine Wi ?_;intro a8 hC;replace hC:=hC.bl ab;replace aa:=aa.grow hC;exact ⟨rfl,_,_,hm,aa,rfl⟩
 refine Zo9 (v:=(.agg #[.bool ac.1.1,.slice an ac.1.2.length al,.slice ao ac.2.length am])) (b:=decide (ae<0)) 6 rfl rfl rfl rfl rfl (by rw [ad];rfl) (fun _ hC=>W4 isAgg39 sizeOf39 rfl rfl (aj.atN.gr (hC.bl ab))) ?_;refine xe rfl rfl ?_;intro a9 hC0;have hC:=hC0.bl ab;refine go ?_;obtain ⟨ba,a2,hm⟩:=bZ hm;refine lc rfl rfl (Zip call103) (Zpr (col:=ab) 6 7 a2:) ?_;rintro _ bb ⟨af,bc,bd,be,bf,rfl,ax,aq,ar⟩;refine ⟨_,rfl,?_⟩;refine Zl<|Xz af hC0 ax<|xe rfl rfl ?_;intro a3 hC0;replace aa:=(aa.grow hC).grow ax;have hC:=hC0.bl af;refine go ?_;obtain ⟨au,a4,hm⟩:=bZ hm;replace aq:=aq.gr hC;replace ar:=ar.gr hC;replace aa:=aa.grow hC;refine Zj (Zl6 a4 (((ah.ks aa).froz 6).froz 7) (((ai.ks aa).froz 6).froz 7) ((aq.toSlF (Zd.int .u32)).froz 7) ((ar.froz 6 (by decide)).toSlF (Zd.int .u32))) ?_;rintro _ a5 ⟨rfl,ak⟩;refine ⟨_,rfl,?_⟩;replace ak:Zh af a3 af a5:=.of_below ak;refine Zl<|Xz af hC0 ak<|Ziy (v:=(.bool (decide (0<au)))) (b:=decide (ae<0)) 6 rfl rfl rfl rfl rfl (by rw [ad];rfl) (fun _=>Zr8 au 0 rfl rfl) ?_;refine xu (v:=(.bool (decide (0<au)))) rfl rfl (fun _=>X8 (congrArg Value.bool ad) rfl) ?_;refine xu rfl rfl (fun _=>Zd8 rfl) ?_;refine Wi ?_;intro bg hC;replace hC:=hC.bl af;replace aa:=(aa.grow ak).grow hC;exact ⟨rfl,_,_,hm,aa,rfl⟩
def Zfw (N:Nat):List R1→Nat→Option Int
  | [],aa=>some (-1)
  | ab :: ac,aa=>(Zhk N ((ab.1.1,ab.1.2),ab.2)).bind fun ad=>if ad=true then (some (aa:Int)) else ((Zfw N ac) (aa+1))
termination_by structural x=>x
def Znv (N:Nat) (aa:R4):Option Int:=
  Zfw N aa 0
theorem Z46 {N aj:Nat} {a0:Option Addr} {col:Ze} {w0:World} {ab:R4} {r:Int} (hm:Znv N ab=some r) (h0:Sl (Za.pair (Za.pair Za.bool (Za.slice (Za.int .u32))) (Za.slice (Za.int .u32))) col w0 a0 aj ab):
    Calls prog 161 #[.slice a0 ab.length aj,(.func (.func 90) #[] #[])] w0 (fun e w'=>e= .returned ((.int .i64 r))∧Below w0.heap.size w0 w'):=by
 refine Xl 4 (m:=19) func161 rfl rfl rfl rfl rfl ?_;rw [Znv.eq_1] at hm;have aa:=St.start col w0;refine go ?_;refine Z4 [0,1,7,1000000] (fun n f af=>∃ ae ac ad,n=ad.length∧ab.drop ac=ad∧Zfw N ad ac=some r∧St w0 (Zk col) ae af∧[8].map f=[.int .i64 ac]) ab.length ⟨_,0,_,rfl,rfl,hm,aa,rfl⟩ ?_;clear hm;intro n f af hI;obtain ⟨ae,ac,ad,hn,hl,hm,aa,hs⟩:=hI;subst hn;refine .lL [8] hs ?_;replace h0:=h0.keep (Zi.start col w0)
 cases ad with
 | nil=>
  have hk:¬ ((ac:Int)<(ab.length:Int)):=by have:=aH.1 hl;omega
  have hkb:=decide_eq_false hk;rw [Zfw.eq_1] at hm;refine go ?_;refine X2 (congrArg Value.bool hkb)<|go ?_;cases hm;exact ⟨rfl,rfl,aa.below⟩
 | cons ag ak=>
  obtain ⟨ah,al,am⟩:=Yd hl;have hk:(ac:Int)<(ab.length:Int):=by omega
  have hkb:=decide_eq_true hk;rw [Zfw.eq_2] at hm;refine go ?_;refine X3 (congrArg Value.bool hkb)<|go ?_;refine lM (.func (.func 90) #[] #[])<|go ?_;refine lI ah ((h0.ks aa).addr ah) ?_;obtain ⟨_,an,ao⟩:=(h0.ks aa).atN ah;obtain ⟨_,_,rfl,ap,aq⟩:=Uw an;obtain ⟨_,_,rfl,ar,au⟩:=Uw ap;obtain ⟨rfl,_⟩:=ar;obtain ⟨⟨av,aw,rfl,ax⟩,_⟩:=au;obtain ⟨⟨ay,az,rfl,a1⟩,_⟩:=aq;refine lV (.agg #[.bool ag.1.1,.slice av ag.1.2.length aw,.slice ay ag.2.length az]) (W4 isAgg39 sizeOf39 rfl rfl ao) ?_;obtain ⟨a4,a2,hm⟩:=bZ hm;refine lc rfl rfl (Zzg call90 rfl rfl) (Z31 a2 ax a1:) ?_;rintro _ a3 ⟨rfl,ai⟩;refine ⟨_,rfl,?_⟩;replace ai:Zh ae af ae a3:=.of_below ai;refine Zl ?_;replace aa:=aa.grow ai;refine Zq hm (fun hb hm=>go ?_) fun hb hm=>go ?_
  ·cases hm;exact ⟨rfl,rfl,aa.below⟩
  exact ⟨ak.length,by simp,rfl,⟨_,_,_,rfl,al,hm,aa,(Yg (congrArg (Value.int .i64) (Yb (aF am (h0.ks aa).1.1))) rfl)⟩⟩
def Znu (N:Nat) (aa:R4):Option Bool:=
  (Znv N aa).bind fun ab=>some (decide (0≤ab))
theorem Z43 {N ad:Nat} {a0:Option Addr} {col:Ze} {w0:World} {ab:R4} {r:Bool} (hm:Znu N ab=some r) (h0:Sl (Za.pair (Za.pair Za.bool (Za.slice (Za.int .u32))) (Za.slice (Za.int .u32))) col w0 a0 ad ab):
    Calls prog 88 #[.slice a0 ab.length ad,(.func (.func 90) #[] #[])] w0 (fun e w'=>e= .returned ((.bool r))∧Below w0.heap.size w0 w'):=by
 refine Xl 4 (m:=9) func88 rfl rfl rfl rfl rfl ?_;rw [Znu.eq_1] at hm;have aa:=St.start col w0;refine go ?_;refine lM (.func (.func 90) #[] #[]) ?_;obtain ⟨ag,ae,hm⟩:=bZ hm;replace h0:=h0.keep (Zi.start col w0);refine Zj (Z46 ae (h0.ks aa)) ?_;rintro _ af ⟨rfl,ac⟩;refine ⟨_,rfl,?_⟩;replace ac:Zh (Zk col) w0 (Zk col) af:=.of_below ac;refine go ?_;cases hm;replace aa:=aa.grow ac;exact ⟨rfl,rfl,aa.below⟩
def Ze7 (ab:R0):List Int→Int→Option Int
  | [],aa=>some aa
  | ad :: ae,aa=>(Zm ab.2.2.1 ad).bind fun ac=>(Ze7 ab ae) (if 1099511627776<(i64.wrap (aa * (ac.length:Int))) then 1099511627776 else (i64.wrap (aa * (ac.length:Int))))
termination_by structural x=>x
def Zhm (aa:R0) (ab:Int):Option Int:=
  (Zm aa.2.2.2.1 ab).bind fun ac=>Ze7 aa ac 1
theorem Z32 {am an ao ap:Nat} {aq ar au av:Option Addr} {col:Ze} {w0:World} {aa:R0} {a0 r:Int} (hm:Zhm aa a0=some r) (bc:Sl Za.str col w0 aq am aa.2.1) (ai:Sl (Za.slice Za.str) col w0 ar an aa.2.2.1) (aj:Sl (Za.slice (Za.int .i64)) col w0 au ao aa.2.2.2.1) (bd:Sl (Za.slice (Za.pair (Za.pair Za.bool (Za.slice (Za.int .u32))) (Za.slice (Za.int .u32)))) col w0 av ap aa.2.2.2.2):
    Calls prog 87 #[(.agg #[.string aa.1,.slice aq aa.2.1.length am,.slice ar aa.2.2.1.length an,.slice au aa.2.2.2.1.length ao,.slice av aa.2.2.2.2.length ap]),.int .i64 a0] w0 (fun e w'=>e= .returned ((.int .i64 r))∧Below w0.heap.size w0 w'):=by
 refine Xl 4 (m:=29) func87 rfl rfl rfl rfl rfl ?_;rw [Zhm.eq_1] at hm;have ab:=St.start col w0;refine go ?_;refine Xs (col:=(Zk col)) 1 rfl ?_;intro a1 be bf a2 ae;refine go ?_;refine Xk ae<|X1 rfl ?_;obtain ⟨af,aw,hm⟩:=bZ hm;replace aj:=aj.keep (Zi.start col w0);replace ab:=ab.grow a2;refine lI aw ((aj.ks ab).addr aw) ?_;obtain ⟨_,a3,a4⟩:=(aj.ks ab).atN aw;obtain ⟨⟨a5,a6,rfl,ac⟩,_⟩:=a3;refine lW a4.one<|go ?_;refine Z4 [12,13,2,1000000] (fun n f ak=>∃ al ag ad ah,n=ah.length∧af.drop ag=ah∧Ze7 aa ah ad=some r∧St w0 (Zk col) al ak∧Sl (Za.int .i64) al ak a5 a6 af∧Zf 27 1 al ak a1 #[.string aa.1,.slice aq aa.2.1.length am,.slice ar aa.2.2.1.length an,.slice au aa.2.2.2.1.length ao,.slice av aa.2.2.2.2.length ap]∧[14,5].map f=[.int .i64 ag,.int .i64 ad]) af.length ⟨_,0,1,_,rfl,rfl,hm,ab,ac,ae,rfl⟩ ?_;clear hm;intro n f ak hI;obtain ⟨al,ag,ad,ah,hn,hl,hm,ab,ac,ae,hs⟩:=hI;subst hn;refine .lL [14,5] hs ?_;replace ai:=ai.keep (Zi.start col w0)
 cases ah with
 | nil=>
  have hk:¬ ((ag:Int)<(af.length:Int)):=by have:=aH.1 hl;omega
  have hkb:=decide_eq_false hk;rw [Ze7.eq_1] at hm;refine go ?_;refine X2 (congrArg Value.bool hkb)<|go ?_;cases hm;exact ⟨rfl,rfl,ab.below⟩
 | cons bg a7=>
  obtain ⟨ax,a8,a9⟩:=Yd hl;have hk:(ag:Int)<(af.length:Int):=by omega
  have hkb:=decide_eq_true hk;rw [Ze7.eq_2] at hm;refine go ?_;refine X3 (congrArg Value.bool hkb)<|go ?_;refine lI ax (ac.addr ax)<|lW (ac.atInt ax) ?_;refine go ?_;refine Xk ae<|X1 rfl ?_;obtain ⟨ay,az,hm⟩:=bZ hm;refine lI az ((ai.ks ab).addr az) ?_;obtain ⟨_,ba,bb⟩:=(ai.ks ab).atN az;obtain ⟨⟨bh,bi,rfl,bj⟩,_⟩:=ba;refine lW bb.one<|go ?_;refine lV (.int .i64 (if 1099511627776<(i64.wrap (ad * (ay.length:Int))) then 1099511627776 else (i64.wrap (ad * (ay.length:Int))))) (Zlj (i64.wrap (ad * (ay.length:Int))) 1099511627776 rfl rfl)<|go ?_;exact ⟨a7.length,by simp,rfl,⟨_,_,_,_,rfl,a8,hm,ab,ac,ae,(Yg (congrArg (Value.int .i64) (Yb (aF a9 ac.1.1))) rfl)⟩⟩
def Zdo (N:Nat) (ab:R0):List R4→Nat→Option Int
  | [],aa=>some 0
  | ac :: ad,aa=>(Zm ab.2.2.1 (aa:Int)).bind fun ae=>(Zhi N ac).bind fun af=>(Zj1 N af (ae.length:Int)).bind fun ag=>if (!ag)=true then (some 46) else ((Zdo N ab ad) (aa+1))
termination_by structural x=>x
def Zb1 (N:Nat) (aa:R0):List R4→Option Int
  | []=>Zdo N aa aa.2.2.2.2 0
  | ab :: ac=>(Zhi N ab).bind fun ad=>(Znu N ad).bind fun ae=>if ae=true then (some 45) else (Zb1 N aa ac)
termination_by structural x=>x
def Zb0 (N:Nat) (aa:R0):List R4→Nat→Option Int
  | [],ab=>Zb1 N aa aa.2.2.2.2
  | ae :: af,ab=>(Zhm (aa.1,aa.2.1,aa.2.2.1,aa.2.2.2.1,aa.2.2.2.2) (ab:Int)).bind fun ac=>(Zm aa.2.2.1 (ab:Int)).bind fun ad=>if (decide (65536<(i64.wrap (ac * (ad.length:Int)))))=true then (some 4) else (if (!decide ((i64.wrap (ac * (ad.length:Int)))=(ae.length:Int)))=true then (some 60) else ((Zb0 N aa af) (ab+1)))
termination_by structural x=>x
def Zbd (N:Nat) (aa:R0) (ad:Bool):Option Int:=
  if ad=true then (some 60) else (if (decide (1024<(aa.2.1.length:Int)))=true then (some 4) else ((Ze5 (aa.1,aa.2.1,aa.2.2.1,aa.2.2.2.1,aa.2.2.2.2)).bind fun ab=>if (!decide (ab=0))=true then (some ab) else ((Q5 N aa.2.2.2.1).bind fun ac=>if (!decide (ac=0))=true then (some ac) else (Zb0 N aa aa.2.2.2.2 0))))
def W1 (N:Nat) (aa:R0):Option Int:=
  if (!decide ((aa.2.2.1.length:Int)=(aa.2.1.length:Int)))=true then (Zbd N aa true) else (if (!decide ((aa.2.2.2.1.length:Int)=(aa.2.1.length:Int)))=true then (Zbd N aa true) else (Zbd N aa (!decide ((aa.2.2.2.2.length:Int)=(aa.2.1.length:Int)))))
theorem Zjc {N aj ak al am:Nat} {an ao ap aq:Option Addr} {col:Ze} {w0:World} {ab:R0} {r:Int} (hm:W1 N ab=some r) (a2:Sl Za.str col w0 an aj ab.2.1) (ag:Sl (Za.slice Za.str) col w0 ao ak ab.2.2.1) (aw:Sl (Za.slice (Za.int .i64)) col w0 ap al ab.2.2.2.1) (ad:Sl (Za.slice (Za.pair (Za.pair Za.bool (Za.slice (Za.int .u32))) (Za.slice (Za.int .u32)))) col w0 aq am ab.2.2.2.2):
    Calls prog 20 #[(.agg #[.string ab.1,.slice an ab.2.1.length aj,.slice ao ab.2.2.1.length ak,.slice ap ab.2.2.2.1.length al,.slice aq ab.2.2.2.2.length am])] w0 (fun e w'=>e= .returned ((.int .i64 r))∧Below w0.heap.size w0 w'):=by
 refine Xl 2 (m:=103) func20 rfl rfl rfl rfl rfl ?_;rw [W1.eq_1] at hm;have aa:=St.start col w0;refine go ?_;refine Xs (col:=(Zk col)) 1 rfl ?_;intro a3 cp cq bo ac;refine go ?_;refine Xk ac<|lV _ (Zaj underlying22 rfl)<|Y7 rfl<|Zl<|Z0<|Z0 ?_;replace a2:=a2.keep (Zi.start col w0);replace ag:=ag.keep (Zi.start col w0);replace aw:=aw.keep (Zi.start col w0);replace ad:=ad.keep (Zi.start col w0);replace aa:=aa.grow bo;refine Wp.cutK [1,3,1000000] (fun f a4=>∃ ah a9,Zbd N ab a9=some r∧St w0 (Zk col) ah a4∧Zf 27 1 ah a4 a3 #[.string ab.1,.slice an ab.2.1.length aj,.slice ao ab.2.2.1.length ak,.slice ap ab.2.2.2.1.length al,.slice aq ab.2.2.2.2.length am]∧[34].map f=[.bool a9]) ?_ ?_
 ·intro f a4 hJ;obtain ⟨ah,a9,hm,aa,ac,hs⟩:=hJ;rw [Zbd.eq_1] at hm;refine .lL [34] hs ?_;refine Zq hm (fun hb hm=>go ?_) fun hb hm=>go ?_
  ·cases hm;exact ⟨rfl,rfl,aa.below⟩
  refine Zq hm (fun hb hm=>go ?_) fun hb hm=>go ?_
  ·cases hm;exact ⟨rfl,rfl,aa.below⟩
  refine lV _ (Xd isAgg27 sizeOf27 ac) ?_;obtain ⟨cr,bp,hm⟩:=bZ hm;refine Zj (Z30 bp (a2.ks aa) (ag.ks aa) (aw.ks aa) (ad.ks aa)) ?_;rintro _ bk ⟨rfl,a5⟩;refine ⟨_,rfl,?_⟩;replace a5:Zh ah a4 ah bk:=.of_below a5;refine go ?_;replace ac:=ac.gr a5;replace aa:=aa.grow a5;refine Zq hm (fun hb hm=>go ?_) fun hb hm=>go ?_
  ·cases hm;exact ⟨rfl,rfl,aa.below⟩
  refine Xk ac ?_;obtain ⟨cs,bq,hm⟩:=bZ hm;refine Zj (Z3f bq (aw.ks aa)) ?_;rintro _ br ⟨rfl,a6⟩;refine ⟨_,rfl,?_⟩;replace a6:Zh ah bk ah br:=.of_below a6;refine go ?_;replace ac:=ac.gr a6;replace aa:=aa.grow a6;refine Zq hm (fun hb hm=>go ?_) fun hb hm=>go ?_
  ·cases hm;exact ⟨rfl,rfl,aa.below⟩
  refine Xk ac ?_;refine go ?_;refine Z4 [1,49,50,1000000] (fun n f ba=>∃ ae ar ax,n=ax.length∧ab.2.2.2.2.drop ar=ax∧Zb0 N ab ax ar=some r∧St w0 (Zk col) ae ba∧Zf 27 1 ae ba a3 #[.string ab.1,.slice an ab.2.1.length aj,.slice ao ab.2.2.1.length ak,.slice ap ab.2.2.2.1.length al,.slice aq ab.2.2.2.2.length am]∧[51].map f=[.int .i64 ar]) ab.2.2.2.2.length ⟨_,0,_,rfl,rfl,hm,aa,ac,rfl⟩ ?_;clear hm;intro n f ba hI;obtain ⟨ae,ar,ax,hn,hl,hm,aa,ac,hs⟩:=hI;subst hn;refine .lL [51] hs ?_
  cases ax with
  | nil=>
   have hk:¬ ((ar:Int)<(ab.2.2.2.2.length:Int)):=by have:=aH.1 hl;omega
   have hkb:=decide_eq_false hk;rw [Zb0.eq_1] at hm;refine go ?_;refine X2 (congrArg Value.bool hkb)<|go ?_;refine Xk ac ?_;refine go ?_;refine Z4 [1,74,75,1000000] (fun n f bb=>∃ bc ay az,n=az.length∧ab.2.2.2.2.drop ay=az∧Zb1 N ab az=some r∧St w0 (Zk col) bc bb∧Zf 27 1 bc bb a3 #[.string ab.1,.slice an ab.2.1.length aj,.slice ao ab.2.2.1.length ak,.slice ap ab.2.2.2.1.length al,.slice aq ab.2.2.2.2.length am]∧[76].map f=[.int .i64 ay]) ab.2.2.2.2.length ⟨_,0,_,rfl,rfl,hm,aa,ac,rfl⟩ ?_;clear hm;intro n f bb hI;obtain ⟨bc,ay,az,hn,hl,hm,aa,ac,hs⟩:=hI;subst hn;refine .lL [76] hs ?_
   cases az with
   | nil=>
    have hk:¬ ((ay:Int)<(ab.2.2.2.2.length:Int)):=by have:=aH.1 hl;omega
    have hkb:=decide_eq_false hk;rw [Zb1.eq_1] at hm;refine go ?_;refine X2 (congrArg Value.bool hkb)<|go ?_;refine Xk ac ?_;refine go ?_;refine Z4 [1,85,86,1000000] (fun n f bd=>∃ ai au a0,n=a0.length∧ab.2.2.2.2.drop au=a0∧Zdo N ab a0 au=some r∧St w0 (Zk col) ai bd∧Zf 27 1 ai bd a3 #[.string ab.1,.slice an ab.2.1.length aj,.slice ao ab.2.2.1.length ak,.slice ap ab.2.2.2.1.length al,.slice aq ab.2.2.2.2.length am]∧[87].map f=[.int .i64 au]) ab.2.2.2.2.length ⟨_,0,_,rfl,rfl,hm,aa,ac,rfl⟩ ?_;clear hm;intro n f bd hI;obtain ⟨ai,au,a0,hn,hl,hm,aa,ac,hs⟩:=hI;subst hn;refine .lL [87] hs ?_
    cases a0 with
    | nil=>
     have hk:¬ ((au:Int)<(ab.2.2.2.2.length:Int)):=by have:=aH.1 hl;omega
     have hkb:=decide_eq_false hk;rw [Zdo.eq_1] at hm;refine go ?_;refine X2 (congrArg Value.bool hkb)<|go ?_;cases hm;exact ⟨rfl,rfl,aa.below⟩
    | cons ct bs=>
     obtain ⟨af,bt,bu⟩:=Yd hl;have hk:(au:Int)<(ab.2.2.2.2.length:Int):=by omega
     have hkb:=decide_eq_true hk;rw [Zdo.eq_2] at hm;refine go ?_;refine X3 (congrArg Value.bool hkb)<|go ?_;refine lI af ((ad.ks aa).addr af) ?_;obtain ⟨_,bv,bw⟩:=(ad.ks aa).atN af;obtain ⟨⟨cu,cv,rfl,be⟩,_⟩:=bv;refine lW bw.one<|go ?_;refine W7 (col:=ai) [(0,1),(2,1),(3,0),(4,1),(5,1),(6,0),(7,1),(1,3),(8,3),(9,1)] (by kernel_rfl) (by kernel_rfl)<|xu rfl rfl (fun _=>T0 rfl) ?_;refine xF ⟨_,_,rfl⟩ ?_;refine xW (fun _ hC=>((ac.atN).nth (q:=2) rfl).gr (hC.bl ai)) ?_;refine xu rfl rfl (fun _=>Y4 rfl) ?_;obtain ⟨cw,a7,hm⟩:=bZ hm;refine xu rfl rfl (fun _=>Y3 underlying23 sizeOf22 rfl rfl (Xe a7).1 (Xe a7).2.1 ((ag.ks aa).addr a7)) ?_;obtain ⟨_,bx,bz⟩:=(ag.ks aa).atN a7;obtain ⟨⟨cx,cy,rfl,cz⟩,_⟩:=bx;refine xW (fun _ hC=>bz.one.gr (hC.bl ai)) ?_;refine xu rfl rfl (fun _=>Zaj underlying22 rfl) ?_;refine xe rfl rfl ?_;intro c0 hC0;have hC:=hC0.bl ai;obtain ⟨c1,b0,hm⟩:=bZ hm;replace be:=be.gr hC;refine Zj (Zt6 2 b0 be) ?_;rintro _ c2 ⟨av,c3,c4,rfl,bf,bg⟩;refine ⟨_,rfl,?_⟩;refine Zl<|Xz av hC0 bf<|xe rfl rfl ?_;intro b1 hC0;replace ac:=(ac.gr hC).gr bf;replace aa:=(aa.grow hC).grow bf;have hC:=hC0.bl av;obtain ⟨c5,b2,hm⟩:=bZ hm;replace bg:=bg.gr hC;refine Zj (Z34 b2 (bg.toSlF (Zd.pair (Zd.pair Zd.bool Zd.slice) Zd.slice))) ?_;rintro _ b3 ⟨rfl,a1⟩;refine ⟨_,rfl,?_⟩;replace a1:Zh av b1 av b3:=.of_below a1;refine Zl<|Xz av hC0 a1<|xu rfl rfl (fun _=>Zsa _ rfl) ?_;refine Wi ?_;replace ac:=(ac.gr hC).gr a1;replace aa:=(aa.grow hC).grow a1;intro c6 hC;replace hC:=hC.bl av;replace ac:=ac.gr hC;replace aa:=aa.grow hC;refine Zq hm (fun hb hm=>go ?_) fun hb hm=>go ?_
     ·cases hm;exact ⟨rfl,rfl,aa.below⟩
     exact ⟨bs.length,by simp,rfl,⟨_,_,_,rfl,bt,hm,aa,ac,(Yg (congrArg (Value.int .i64) (Yb (aF bu (ad.ks aa).1.1))) rfl)⟩⟩
   | cons c7 b4=>
    obtain ⟨af,b5,b6⟩:=Yd hl;have hk:(ay:Int)<(ab.2.2.2.2.length:Int):=by omega
    have hkb:=decide_eq_true hk;rw [Zb1.eq_2] at hm;refine go ?_;refine X3 (congrArg Value.bool hkb)<|go ?_;refine lI af ((ad.ks aa).addr af) ?_;obtain ⟨_,b7,b8⟩:=(ad.ks aa).atN af;obtain ⟨⟨c8,c9,rfl,b9⟩,_⟩:=b7;refine lW b8.one<|go ?_;obtain ⟨da,ca,hm⟩:=bZ hm;refine Zj (Zt6 3 ca b9) ?_;rintro _ cb ⟨bm,db,dc,rfl,bn,cc⟩;refine ⟨_,rfl,?_⟩;obtain ⟨dd,cd,hm⟩:=bZ hm;refine Zj (Z43 cd (cc.toSlF (Zd.pair (Zd.pair Zd.bool Zd.slice) Zd.slice))) ?_;rintro _ ce ⟨rfl,a8⟩;refine ⟨_,rfl,?_⟩;replace a8:Zh bm cb bm ce:=.of_below a8;refine Zl ?_;replace ac:=(ac.gr bn).gr a8;replace aa:=(aa.grow bn).grow a8;refine Zq hm (fun hb hm=>go ?_) fun hb hm=>go ?_
    ·cases hm;exact ⟨rfl,rfl,aa.below⟩
    exact ⟨b4.length,by simp,rfl,⟨_,_,_,rfl,b5,hm,aa,ac,(Yg (congrArg (Value.int .i64) (Yb (aF b6 (ad.ks aa).1.1))) rfl)⟩⟩
  | cons de cf=>
   obtain ⟨af,cg,ch⟩:=Yd hl;have hk:(ar:Int)<(ab.2.2.2.2.length:Int):=by omega
   have hkb:=decide_eq_true hk;rw [Zb0.eq_2] at hm;refine go ?_;refine X3 (congrArg Value.bool hkb)<|go ?_;refine lI af ((ad.ks aa).addr af) ?_;obtain ⟨_,ci,cj⟩:=(ad.ks aa).atN af;obtain ⟨⟨df,dg,rfl,dh⟩,_⟩:=ci;refine lW cj.one<|go ?_;refine V4 (col:=ae) (by kernel_rfl) (by kernel_rfl)<|qv rfl (fun _ hC=>Xd isAgg27 sizeOf27 (ac.gr (hC.bl ae))) ?_;refine go ?_;obtain ⟨ck,cl,hm⟩:=bZ hm;refine qc (v:=(.int .i64 ck)) rfl (fun _ hC=>⟨_,_,Zlh call87 rfl rfl,(Z32 cl ((a2.ks aa).gr (hC.bl ae)) ((ag.ks aa).gr (hC.bl ae)) ((aw.ks aa).gr (hC.bl ae)) ((ad.ks aa).gr (hC.bl ae)):).mono fun _ _ h=>⟨h.1,hC.trans (.of_below h.2)⟩⟩) ?_;refine qF ⟨_,_,rfl⟩ ?_;refine qW (fun _ hC=>((ac.atN).nth (q:=2) rfl).gr (hC.bl ae)) ?_;refine go ?_;obtain ⟨di,bh,hm⟩:=bZ hm;refine qI bh ((ag.ks aa).addr bh) ?_;obtain ⟨_,cn,co⟩:=(ag.ks aa).atN bh;obtain ⟨⟨dj,dl,rfl,dm⟩,_⟩:=cn;refine qW (fun _ hC=>co.one.gr (hC.bl ae)) ?_;refine go ?_;refine Vc ?_;intro dn hC;replace hC:=hC.bl ae;refine go ?_;replace ac:=ac.gr hC;replace aa:=aa.grow hC;refine Zq hm (fun hb hm=>go ?_) fun hb hm=>go ?_
   ·cases hm;exact ⟨rfl,rfl,aa.below⟩
   refine Zq hm (fun hb hm=>go ?_) fun hb hm=>go ?_
   ·cases hm;exact ⟨rfl,rfl,aa.below⟩
   exact ⟨cf.length,by simp,rfl,⟨_,_,_,rfl,cg,hm,aa,ac,(Yg (congrArg (Value.int .i64) (Yb (aF ch (ad.ks aa).1.1))) rfl)⟩⟩
 refine Vd<|Xk ac ?_;refine go ?_;refine Yt hm (fun bi hm=>go ?_) fun bi hm=>go ?_
 ·refine lV (.bool true) (Yf (congrArg Value.bool bi) rfl)<|Ts rfl<|lP 28 rfl rfl<|lP 28 rfl rfl<|lP 28 rfl rfl<|lP 28 rfl rfl<|lP 28 rfl rfl<|lV (.bool true) (Yf rfl rfl)<|Zl ?_;exact ⟨rfl,_,_,hm,aa,ac,rfl⟩
 refine Yk ⟨_,_,rfl⟩ ?_;refine go ?_;refine lW ((ac.atN).nth (q:=3) rfl)<|go ?_;refine lV (.bool (!decide ((ab.2.2.2.1.length:Int)=(ab.2.1.length:Int)))) (X8 (congrArg Value.bool bi) rfl)<|Ts rfl ?_;refine Yt hm (fun bj hm=>go ?_) fun bj hm=>go ?_
 ·refine lV (.bool true) (Yf (congrArg Value.bool bj) rfl)<|Zl ?_;exact ⟨rfl,_,_,hm,aa,ac,rfl⟩
 refine Yk ⟨_,_,rfl⟩ ?_;refine go ?_;refine lW ((ac.atN).nth (q:=4) rfl)<|go ?_;refine lV (.bool (!decide ((ab.2.2.2.2.length:Int)=(ab.2.1.length:Int)))) (X8 (congrArg Value.bool bj) rfl)<|Zl ?_;exact ⟨rfl,_,_,hm,aa,ac,rfl⟩
def Zfp (N:Nat) (ab:R0):Nat→R2→Int→Option R2
  | 0,_,_=>none
  | ae+1,aa,ac=>if (decide (ac<(ab.2.2.1.length:Int)))=true then ((Zm ab.2.2.1 ac).bind fun ad=>Z2 ((aa.length+[(ad.length:Int)].length) * 8≤140737488355328∧aa.length+[(ad.length:Int)].length≤maxLen) ((Zfp N ab ae) (aa++[(ad.length:Int)]) (i64.wrap (ac+1)))) else (some aa)
termination_by structural x=>x
def Zih (N:Nat) (aa:R0):Option R2:=
  Zfp N aa N ([]:List Int) 0
theorem Z4q {N aj ak al am:Nat} {an ao ap aq:Option Addr} {col:Ze} {w0:World} {aa:R0} {r:R2} (c1:Nat) (hm:Zih N aa=some r) (a7:Sl Za.str col w0 an aj aa.2.1) (af:Sl (Za.slice Za.str) col w0 ao ak aa.2.2.1) (a8:Sl (Za.slice (Za.int .i64)) col w0 ap al aa.2.2.2.1) (a9:Sl (Za.slice (Za.pair (Za.pair Za.bool (Za.slice (Za.int .u32))) (Za.slice (Za.int .u32)))) col w0 aq am aa.2.2.2.2):
    Calls prog 92 #[(.agg #[.string aa.1,.slice an aa.2.1.length aj,.slice ao aa.2.2.1.length ak,.slice ap aa.2.2.2.1.length al,.slice aq aa.2.2.2.2.length am])] w0 (fun e w'=>∃ (col':Ze) (ra1:Option Addr) (rc2:Nat),e= .returned ((.slice ra1 r.length rc2))∧Zh col w0 col' w'∧Zb (Za.int .i64) 3 c1 col' w' ra1 rc2 r):=by
 refine Xl 2 (m:=22) func92 rfl rfl rfl rfl rfl ?_;rw [Zih.eq_1] at hm;have ab:=St.start col w0;refine go ?_;refine Xs (col:=(Zk col)) 1 rfl ?_;intro az ba bb a0 ac;refine go ?_;replace ab:=ab.grow a0;refine Z4 [1,1000000] (fun n f ag=>∃ ae ar au ah av ad,ad=n∧Zfp N aa ad ah av=some r∧St w0 (Zk col) ae ag∧Zf 27 1 ae ag az #[.string aa.1,.slice an aa.2.1.length aj,.slice ao aa.2.2.1.length ak,.slice ap aa.2.2.2.1.length al,.slice aq aa.2.2.2.2.length am]∧Zb (Za.int .i64) 3 2 ae ag ar au ah∧[3,4].map f=[.slice ar ah.length au,.int .i64 av]) N ⟨_,none,0,_,0,_,rfl,hm,ab,ac,Zb.nil,rfl⟩ ?_;clear hm;intro n f ag hI;obtain ⟨ae,ar,au,ah,av,ad,hn,hm,ab,ac,ai,hs⟩:=hI;subst hn;refine .lL [3,4] hs ?_;replace af:=af.keep (Zi.start col w0)
 cases ad with
 | zero=>rw [Zfp.eq_1] at hm;cases hm
 | succ ad=>
  rw [Zfp.eq_2] at hm;refine go ?_;refine Xk ac ?_;refine go ?_;refine Zq hm (fun hb hm=>go ?_) fun hb hm=>go ?_
  ·refine Xk ac<|X1 rfl ?_;obtain ⟨a1,aw,hm⟩:=bZ hm;refine lI aw ((af.ks ab).addr aw) ?_;obtain ⟨_,a2,a3⟩:=(af.ks ab).atN aw;obtain ⟨⟨bc,bd,rfl,be⟩,_⟩:=a2;refine lW a3.one<|go ?_;refine V7 (col:=ae) [(a1.length:Int)] 3 ?_;intro bf bg bh ax a4;obtain ⟨a5,hm⟩:=Z8 hm;replace ai:=ai.gr ax;refine V1 ai (a4.srcN (NB.int (k:=.i64))) a5 ?_;intro bi bj bk bm ay a6;refine go ?_;replace ac:=(ac.gr ax).kpp ay;replace ab:=(ab.grow ax).kpp ay;exact ⟨ad,by omega,rfl,⟨_,_,_,_,_,_,rfl,hm,ab,ac,a6,rfl⟩⟩
  cases hm;exact ⟨rfl,_,_,_,rfl,ab.fin (cm [(2,c1)]),ab.fo ai⟩
def Zic (aa:Int) (kk_L2:(Int→Int→Option Int)) (ab:Int):Option Int:=
  kk_L2 ab (i64.wrap (aa+1))
def Zca (N:Nat) (aa:List Int) (ac:List Int):Nat→Int→Int→Option Int
  | 0,_,_=>none
  | af+1,ad,ab=>if (decide (ab<(aa.length:Int)))=true then ((Zm aa ab).bind fun ag=>(Zm ac ag).bind fun ae=>Z2 (ae≠0) (if (decide ((i64.wrap (bJ 1099511627776 ae))<ad))=true then (Zic ab (Zca N aa ac af) 1099511627776) else (Zic ab (Zca N aa ac af) (i64.wrap (ad * ae))))) else (some ad)
termination_by structural x=>x
def Zfo (N:Nat) (aa:List Int) (ab:List Int):Nat→Int→Option Int
  | 0,_=>none
  | ad+1,ac=>if (decide (ac<(aa.length:Int)))=true then ((Zm aa ac).bind fun ae=>(Zm ab ae).bind fun af=>if (decide (af<1))=true then (some 0) else ((Zfo N aa ab ad) (i64.wrap (ac+1)))) else (Zca N aa ab N 1 0)
termination_by structural x=>x
def Zkp (N:Nat) (aa:List Int) (ab:List Int):Option Int:=
  Zfo N aa ab N 0
theorem Z4n {N an ao:Nat} {a0 a1:Option Addr} {col:Ze} {w0:World} {ac ad:R2} {r:Int} (hm:Zkp N ac ad=some r) (h0:Sl (Za.int .i64) col w0 a0 an ac) (h1:Sl (Za.int .i64) col w0 a1 ao ad):
    Calls prog 93 #[.slice a0 ac.length an,.slice a1 ad.length ao] w0 (fun e w'=>e= .returned ((.int .i64 r))∧Below w0.heap.size w0 w'):=by
 refine Xl 4 (m:=48) func93 rfl rfl rfl rfl rfl ?_;rw [Zkp.eq_1] at hm;have aa:=St.start col w0;refine go ?_;refine Z4 [0,1,1000000] (fun n f ap=>∃ aq ai ae,ae=n∧Zfo N ac ad ae ai=some r∧St w0 (Zk col) aq ap∧[5].map f=[.int .i64 ai]) N ⟨_,0,_,rfl,hm,aa,rfl⟩ ?_;clear hm;intro n f ap hI;obtain ⟨aq,ai,ae,hn,hm,aa,hs⟩:=hI;subst hn;refine .lL [5] hs ?_;replace h0:=h0.keep (Zi.start col w0);replace h1:=h1.keep (Zi.start col w0)
 cases ae with
 | zero=>rw [Zfo.eq_1] at hm;cases hm
 | succ ae=>
  rw [Zfo.eq_2] at hm;refine go ?_;refine Zq hm (fun hb hm=>go ?_) fun hb hm=>go ?_
  ·obtain ⟨az,aj,hm⟩:=bZ hm;refine lI aj ((h0.ks aa).addr aj)<|lW ((h0.ks aa).atInt aj) ?_;obtain ⟨a2,ak,hm⟩:=bZ hm;refine lI ak ((h1.ks aa).addr ak)<|lW ((h1.ks aa).atInt ak) ?_;refine go ?_;refine Zq hm (fun hb hm=>go ?_) fun hb hm=>go ?_
   ·cases hm;exact ⟨rfl,rfl,aa.below⟩
   exact ⟨ae,by omega,rfl,⟨_,_,_,rfl,hm,aa,rfl⟩⟩
  refine Z4 [0,1,1000000] (fun n f ar=>∃ au al ah ab,ab=n∧Zca N ac ad ab al ah=some r∧St w0 (Zk col) au ar∧[6,7].map f=[.int .i64 al,.int .i64 ah]) N ⟨_,1,0,_,rfl,hm,aa,rfl⟩ ?_;clear hm;intro n f ar hI;obtain ⟨au,al,ah,ab,hn,hm,aa,hs⟩:=hI;subst hn;refine .lL [6,7] hs ?_
  cases ab with
  | zero=>rw [Zca.eq_1] at hm;cases hm
  | succ ab=>
   rw [Zca.eq_2] at hm;refine go ?_;refine Zq hm (fun hb hm=>?_) fun hb hm=>go ?_
   ·refine Yl<|Z0 ?_;refine Wp.cutK [0,1,7,1000000] (fun f av=>∃ aw am,Zic ah (Zca N ac ad ab) am=some r∧St w0 (Zk col) aw av∧[6].map f=[.int .i64 am]) ?_ ?_
    ·intro f av hJ;obtain ⟨aw,am,hm,aa,hs⟩:=hJ;rw [Zic.eq_1] at hm;refine .lL [6] hs<|go ?_;exact ⟨ab,by omega,rfl,⟨_,_,_,_,rfl,hm,aa,rfl⟩⟩
    refine go ?_;obtain ⟨a3,af,hm⟩:=bZ hm;refine lI af ((h0.ks aa).addr af)<|lW ((h0.ks aa).atInt af) ?_;obtain ⟨ax,ag,hm⟩:=bZ hm;refine lI ag ((h1.ks aa).addr ag)<|lW ((h1.ks aa).atInt ag) ?_;obtain ⟨ay,hm⟩:=Z8 hm;refine lV (.int .i64 (i64.wrap (bJ 1099511627776 ax))) (Qx 1099511627776 ax rfl rfl ay)<|go ?_;refine Zq hm (fun hb hm=>go ?_) fun hb hm=>go ?_
    ·exact ⟨rfl,_,1099511627776,hm,aa,rfl⟩
    refine lI af ((h0.ks aa).addr af)<|lW ((h0.ks aa).atInt af)<|lI ag ((h1.ks aa).addr ag)<|lW ((h1.ks aa).atInt ag) ?_;refine go ?_;exact ⟨rfl,_,_,hm,aa,rfl⟩
   cases hm;exact ⟨rfl,rfl,aa.below⟩
def Zkr (aa:Bool):Option Bool:=
  some aa
def Zkq (ab:Int) (aa:Int):Option Bool:=
  if (decide (0<aa))=true then (Z2 (aa≠0) (Zkr (decide ((i64.wrap (bJ 65536 aa))<ab)))) else (Zkr false)
theorem Z4o {col:Ze} {w0:World} {ac aa:Int} {r:Bool} (hm:Zkq ac aa=some r):
    Calls prog 94 #[.int .i64 ac,.int .i64 aa] w0 (fun e w'=>e= .returned ((.bool r))∧Below w0.heap.size w0 w'):=by
 refine Xl 4 (m:=13) func94 rfl rfl rfl rfl rfl ?_;rw [Zkq.eq_1] at hm;have ab:=St.start col w0;refine Z0<|Vd<|Zmm rfl<|Zl<|Z0 ?_;refine Wp.cutK [1000000] (fun f af=>∃ ag ad,Zkr ad=some r∧St w0 (Zk col) ag af∧[4].map f=[.bool ad]) ?_ ?_
 ·intro f af hJ;obtain ⟨ag,ad,hm,ab,hs⟩:=hJ;rw [Zkr.eq_1] at hm;refine .lL [4] hs<|Vv ?_;cases hm;exact ⟨rfl,rfl,ab.below⟩
 refine go ?_;refine Yt hm (fun ae hm=>go ?_) fun ae hm=>go ?_
 ·obtain ⟨ah,hm⟩:=Z8 hm;refine lV (.int .i64 (i64.wrap (bJ 65536 aa))) (Qx 65536 aa rfl rfl ah)<|go ?_;refine lV (.bool (decide ((i64.wrap (bJ 65536 aa))<ac))) (Yf (congrArg Value.bool ae) rfl)<|go ?_;exact ⟨rfl,_,_,hm,ab,rfl⟩
 refine lV (.bool false) (X8 (congrArg Value.bool ae) rfl)<|go ?_;exact ⟨rfl,_,_,hm,ab,rfl⟩
abbrev Zp:=ByteArray×List ByteArray×List R3×List R2×List (List QV)
instance decMemB:∀ (s:ByteArray) (l:List ByteArray),Decidable (s ∈ l)
 | _,[]=>isFalse (by simp)
 | s,x :: l=>if h:s=x then isTrue (by rw [h];exact aC) else match decMemB s l with
  | isTrue h2=>isTrue (aB _ h2)
  | isFalse h2=>isFalse (by rw [aP];rintro (h3 | h3) <;> contradiction)
theorem Zwd (s:ByteArray):∀ (l:List ByteArray) (k:Nat),∃ j:Int,Zfx s l k=some j∧(0≤j↔s ∈ l)
 | [],k=>⟨-1,rfl,by simp⟩
 | x :: l,k=>by
  rw [Zfx.eq_2]
  by_cases h:s=x
  ·rw [if_pos (dT h)];exact ⟨_,rfl,by simp [h]⟩
  ·rw [if_neg (dF h)]
   obtain ⟨j,a,b⟩:=Zwd s l (k+1)
   exact ⟨j,a,by rw [b,aP];simp [h]⟩
theorem Z5s (s:ByteArray) (l:List ByteArray):Zk3 l s=some (decide (s ∈ l)):=by
 obtain ⟨j,a,b⟩:=Zwd s l 0
 rw [Zk3,Znw,a,oB]
 congr 1
 exact decide_eq_decide.2 b
theorem Zxq:∀ (l:List ByteArray) (seen:List (ByteArray×Int)) (S:List ByteArray),S.Nodup→(∀ k,W3 seen k=if k ∈ S then some 1 else none)→Zdr l seen=some (!decide (S++l).Nodup)
 | [],seen,S,c,d=>by rw [Zdr.eq_1,dD,decide_eq_true c];rfl
 | x :: l,seen,S,c,d=>by
  rw [Zdr.eq_2,d x]
  by_cases hx:x ∈ S
  ·rw [if_pos hx,if_pos (by decide),decide_eq_false]
   ·rfl
   intro h
   exact (dP.1 h).2.2 x hx x aC rfl
  ·rw [if_neg hx,if_neg (by decide),oB,Zxq l _ (S++[x]) (by
    rw [dP]
    refine ⟨c,by simp,fun a g b f e=>?_⟩
    rw [List.mem_singleton] at f;subst f;subst e;exact hx g) (fun k=>by
    rw [Zxj,d k]
    by_cases hk:k=x
    ·subst hk;rw [if_pos rfl,if_pos (by simp)]
    ·rw [if_neg hk]
     by_cases hs:k ∈ S
     ·rw [if_pos hs,if_pos (by simp [hs])]
     ·rw [if_neg hs,if_neg (by simp [hs,hk])])]
   rw [bG];rfl
theorem Z7w (l:List ByteArray):Zj0 l=some (!decide l.Nodup):=by
 rw [Zj0,Zxq l [] [] .nil (fun k=>by simp [W3]),aV]
def Zbi (names:List ByteArray) (vals:List R3):Nat→Nat→Int
 | 0,_=>0
 | m+1,v=>if names.getD v ⟨#[]⟩ ∈ names.take v∨¬ (vals.getD v []).Nodup then 40 else if vals.getD v []=[] then 43 else Zbi names vals m (v+1)
theorem Zxv (n:Zp) (hl:n.2.2.1.length=n.2.1.length):∀ (l:List ByteArray) (k:Nat),n.2.1.drop k=l→k≤n.2.1.length→Zb3 n l k=some (Zbi n.2.1 n.2.2.1 l.length k)
 | [],k,_,_=>rfl
 | x :: l,k,c,f=>by
  have a:k<n.2.1.length:=by
   rcases cQ k n.2.1.length with h | h
   ·exact h
   ·rw [aO h] at c;cases c
  have b:=aK a
  rw [c] at b
  obtain ⟨e,d⟩:=List.cons.inj b
  rw [Zb3.eq_2,Z6 (by omega),aD,Z5s,oB,nC,Zbi,Xi a,← e,Xi (by omega)]
  by_cases h1:x ∈ n.2.1.take k
  ·rw [if_pos (dT h1),Zhj,if_pos rfl,if_pos (.inl h1)]
  ·rw [if_neg (dF h1),Z1 (by omega),oB,Z7w,oB,Zhj]
   by_cases h2:(n.2.2.1[k]'(by omega)).Nodup
   ·rw [decide_eq_true h2,if_neg (by decide),if_neg (by simp [h1,h2]),Z1 (by omega),oB]
    by_cases h3:n.2.2.1[k]'(by omega)=[]
    ·rw [if_pos (by rw [h3];decide),if_pos h3]
    ·rw [if_neg (by simpa using h3),if_neg h3]
     exact Zxv n hl l (k+1) d.symm (by omega)
   ·rw [decide_eq_false h2,if_pos (by decide),if_pos (.inr h2)]
theorem Zxw (n:Zp) (hl:n.2.2.1.length=n.2.1.length):Ze5 n=some (Zbi n.2.1 n.2.2.1 n.2.1.length 0):=by
 rw [Ze5];exact Zxv n hl n.2.1 0 (by simp) (by omega)
theorem Zxx {names:List ByteArray} {vals:List R3}:∀ (m v:Nat),Zbi names vals m v=0→∀ i,v≤i→i<v+m→vals.getD i []≠[]∧(vals.getD i []).Nodup∧names.getD i ⟨#[]⟩ ∉ names.take i
 | 0,v,_,i,a,b=>by omega
 | m+1,v,h,i,a,b=>by
  rw [Zbi] at h
  by_cases h3:names.getD v ⟨#[]⟩ ∈ names.take v∨¬ (vals.getD v []).Nodup
  ·rw [if_pos h3] at h;cases h
  ·rw [if_neg h3] at h
   by_cases h4:vals.getD v []=[]
   ·rw [if_pos h4] at h;cases h
   ·rw [if_neg h4] at h
    rcases cQ v i with c | c
    ·exact Zxx m (v+1) h i (by omega) (by omega)
    ·have:i=v:=by omega
     subst this
     exact ⟨h4,by simpa using (not_or.1 h3).2,(not_or.1 h3).1⟩
def Yn (vals:List R3):List Int→Nat→Nat
 | [],k=>k
 | p :: ps,k=>Yn vals ps (min (k * (vals.getD p.toNat []).length) 1099511627776)
theorem Z0r (vals:List R3):∀ (ps:List Int) (k:Nat),k≤1099511627776→Yn vals ps k≤1099511627776
 | [],k,h=>h
 | p :: ps,k,h=>Z0r vals ps _ (by omega)
theorem Zre {a b:Nat} (h:a≤1099511627776) (g:b≤1048576):a * b≤1152921504606846976:=by
 have:=Nat.mul_le_mul h g
 simpa using this
theorem Zxp (n:Zp) (hb:∀ l ∈ n.2.2.1,l.length≤1048576):∀ (ps:List Int) (k:Nat),k≤1099511627776→(∀ p ∈ ps,0≤p∧p<(n.2.2.1.length:Int))→Ze7 n ps (k:Int)=some (Yn n.2.2.1 ps k:Int)
 | [],k,_,_=>rfl
 | p :: ps,k,c,b=>by
  have g:=b p aC
  have a:p.toNat<n.2.2.1.length:=by omega
  have d:=hb _ (aG a)
  have i:=Zre c d
  rw [Ze7.eq_2,show p=((p.toNat:Nat):Int) by omega,Z1 a,oB,Yn,aD,Xi a,← bU,Zv (by omega)]
  have e:=Zxp n hb ps (min (k * n.2.2.1[p.toNat].length) 1099511627776) (by omega) (fun q f=>b q (aB _ f))
  rw [← e]
  congr 1
  by_cases h5:1099511627776<k * n.2.2.1[p.toNat].length
  ·rw [if_pos (by omega),dI (by omega)];rfl
  ·rw [if_neg (by omega),bB (by omega)]
theorem Z1j (N:Nat) (n:Zp) (hl:n.2.2.1.length≤1048576):∀ (m i:Nat) (out:List Int),i≤n.2.2.1.length→n.2.2.1.length<m+i→out=(n.2.2.1.take i).map (fun l=>(l.length:Int))→Zfp N n m out (i:Int)=some (n.2.2.1.map fun l=>(l.length:Int))
 | 0,i,out,b,c,_=>by omega
 | m+1,i,out,b,c,a=>by
  rw [Zfp.eq_2]
  have d:out.length=i:=by rw [a,aI,nK];omega
  by_cases hi:i<n.2.2.1.length
  ·rw [if_pos (dT (by omega)),Z1 hi,oB,Z6 (by simp only [aL,maxLen];omega),Zv (by omega)]
   exact Z1j N n hl m (i+1) _ (by omega) (by omega) (by rw [a,kJ,aN hi,fJ,eE];rfl)
  ·rw [if_neg (dF (by omega)),a,bP (by omega)]
theorem Z98 {N:Nat} {n:Zp} (hl:n.2.2.1.length≤1048576) (hN:1048576<N):Zih N n=some (n.2.2.1.map fun l=>(l.length:Int)):=by
 rw [Zih]
 exact Z1j N n hl N 0 [] (by omega) (by omega) (by simp)
theorem Zsn {vals:List R3} {i:Nat} (h:i<vals.length):Zm (vals.map fun l=>(l.length:Int)) (i:Int)=some (vals[i].length:Int):=by
 rw [Z1 (by rw [aI];exact h),List.getElem_map]
theorem Zp0 (N:Nat) (ps:List Int) (vals:List R3) (hb:∀ l ∈ vals,l.length≤1048576) (hne:∀ l ∈ vals,l≠[]) (hp:∀ p ∈ ps,0≤p∧p<(vals.length:Int)) (hps:ps.length≤1048576):∀ (m i k:Nat),i≤ps.length→ps.length<m+i→k≤1099511627776→
  Zca N ps (vals.map fun l=>(l.length:Int)) m (k:Int) (i:Int)=some (Yn vals (ps.drop i) k:Int)
 | 0,i,k,c,d,_=>by omega
 | m+1,i,k,c,d,f=>by
  rw [Zca.eq_2]
  by_cases hi:i<ps.length
  ·have n:=hp _ (aG hi)
   have a:(ps[i]).toNat<vals.length:=by omega
   have g:=hb _ (aG a)
   have j:0<vals[(ps[i]).toNat].length:=dH.2 (hne _ (aG a))
   have o:=Zre f g
   rw [if_pos (dT (by omega)),Z1 hi,oB]
   conv=>lhs;rw [show ps[i]=(((ps[i]).toNat:Nat):Int) by omega]
   rw [Zsn a,oB,Z6 (by omega),aK hi,Yn,Xi a]
   have e:i64.wrap (bJ 1099511627776 (vals[(ps[i]).toNat].length:Int))=((1099511627776 / vals[(ps[i]).toNat].length:Nat):Int):=by
    rw [bX (by decide),show (1099511627776:Int)=((1099511627776:Nat):Int) from rfl,← iS]
    refine Zv ⟨by have:=eJ (1099511627776 / vals[(ps[i]).toNat].length);omega,?_⟩
    have:=cU 1099511627776 vals[(ps[i]).toNat].length
    omega
   rw [e]
   have b:1099511627776 / vals[(ps[i]).toNat].length<k↔1099511627776<k * vals[(ps[i]).toNat].length:=eK j
   by_cases h9:1099511627776<k * vals[(ps[i]).toNat].length
   ·rw [if_pos (dT (gV.2 (b.2 h9))),Zic,Zv (by omega),dI (by omega)]
    exact Zp0 N ps vals hb hne hp hps m (i+1) 1099511627776 (by omega) (by omega) (by omega)
   ·rw [if_neg (by rw [decide_eq_false (fun h=>h9 (b.1 (gV.1 h)))];decide),Zic,← bU,Zv (by omega),Zv (by omega),bB (by omega)]
    exact Zp0 N ps vals hb hne hp hps m (i+1) _ (by omega) (by omega) (by omega)
  ·rw [if_neg (dF (by omega)),aO (by omega),Yn]
theorem Zum (N:Nat) (ps:List Int) (vals:List R3) (hb:∀ l ∈ vals,l.length≤1048576) (hne:∀ l ∈ vals,l≠[]) (hp:∀ p ∈ ps,0≤p∧p<(vals.length:Int)) (hps:ps.length≤1048576) (hN:1048577<N):∀ (m i:Nat),i≤ps.length→ps.length<m+i→
  Zfo N ps (vals.map fun l=>(l.length:Int)) m (i:Int)=some (Yn vals ps 1:Int)
 | 0,i,b,c=>by omega
 | m+1,i,b,c=>by
  rw [Zfo.eq_2]
  by_cases hi:i<ps.length
  ·have d:=hp _ (aG hi)
   have a:(ps[i]).toNat<vals.length:=by omega
   have e:0<vals[(ps[i]).toNat].length:=dH.2 (hne _ (aG a))
   rw [if_pos (dT (by omega)),Z1 hi,oB]
   conv=>lhs;rw [show ps[i]=(((ps[i]).toNat:Nat):Int) by omega]
   rw [Zsn a,oB,if_neg (dF (by omega)),Zv (by omega)]
   exact Zum N ps vals hb hne hp hps hN m (i+1) (by omega) (by omega)
  ·rw [if_neg (dF (by omega))]
   exact Zp0 N ps vals hb hne hp hps N 0 1 (by omega) (by omega) (by omega)
theorem Z5k {N:Nat} {ps:List Int} {vals:List R3} (hb:∀ l ∈ vals,l.length≤1048576) (hne:∀ l ∈ vals,l≠[]) (hp:∀ p ∈ ps,0≤p∧p<(vals.length:Int)) (hps:ps.length≤1048576) (hN:1048577<N):Zkp N ps (vals.map fun l=>(l.length:Int))=some (Yn vals ps 1:Int):=by
 rw [Zkp]
 exact Zum N ps vals hb hne hp hps hN N 0 (by omega) (by omega)
theorem Z8h {r c:Nat} (hc:0<c):Zkq (r:Int) (c:Int)=some (decide (65536<r * c)):=by
 have e:i64.wrap (bJ 65536 (c:Int))=((65536 / c:Nat):Int):=by
  rw [bX (by decide),show (65536:Int)=((65536:Nat):Int) from rfl,← iS]
  refine Zv ⟨by have:=eJ (65536 / c);omega,?_⟩
  have:=cU 65536 c
  omega
 rw [Zkq,if_pos (dT (by omega)),Z6 (by omega),e,Zkr]
 congr 1
 refine decide_eq_decide.2 ?_
 rw [gV]
 exact eK hc
def S3 (vals:List R3) (P:List R2) (T:List (List QV)):Nat→Nat→Int
 | 0,_=>0
 | m+1,v=>if 65536<Yn vals (P.getD v []) 1 * (vals.getD v []).length then 4 else if Yn vals (P.getD v []) 1 * (vals.getD v []).length≠(T.getD v []).length then 60 else S3 vals P T m (v+1)
structure Ve (n:Zp) (W:Nat):Prop where
 nm:n.2.1.length≤1048575
 vl:∀ l ∈ n.2.2.1,l.length≤1048576
 pn:Zi5 n.2.2.2.1
 tl:∀ t ∈ n.2.2.2.2,t.length≤1048576
 tq:∀ t ∈ n.2.2.2.2,X6 t≤W
 lim:∀ t ∈ n.2.2.2.2,∀ x ∈ t,Vx x
structure Um (n:Zp):Prop where
 v:n.2.2.1.length=n.2.1.length
 p:n.2.2.2.1.length=n.2.1.length
 t:n.2.2.2.2.length=n.2.1.length
 i:U2 n.2.2.2.1.length n.2.2.2.1=true
 ne:∀ l ∈ n.2.2.1,l≠[]
theorem Um.par {n:Zp} (h:Um n) {ps:List Int} (hp:ps ∈ n.2.2.2.1):∀ p ∈ ps,0≤p∧p<(n.2.2.1.length:Int):=by
 have:=Zwe h.i ps hp
 rw [h.p] at this
 rw [h.v];exact this
theorem Zrb {N W:Nat} {n:Zp} (hs:Ve n W) (he:Um n):∀ (l:List (List QV)) (k:Nat),n.2.2.2.2.drop k=l→k≤n.2.1.length→Zb0 N n l k=if S3 n.2.2.1 n.2.2.2.1 n.2.2.2.2 l.length k=0 then Zb1 N n n.2.2.2.2 else some (S3 n.2.2.1 n.2.2.2.1 n.2.2.2.2 l.length k)
 | [],k,_,_=>by rw [Zb0.eq_1];rfl
 | t :: l,k,d,o=>by
  have q:=he.t;have r:=he.v;have s:=he.p
  have b:k<n.2.2.2.2.length:=by
   rcases cQ k n.2.2.2.2.length with h | h
   ·exact h
   ·rw [aO h] at d;cases d
  have c:=aK b
  rw [d] at c
  obtain ⟨i,g⟩:=List.cons.inj c
  have e:k<n.2.2.1.length:=by omega
  have kp:k<n.2.2.2.1.length:=by omega
  have j:=Z0r n.2.2.1 (n.2.2.2.1[k]) 1 (by omega)
  have m:=hs.vl _ (aG e)
  have u:=Zre j m
  have f:Zhm n (k:Int)=some (Yn n.2.2.1 n.2.2.2.1[k] 1:Int):=by
   rw [Zhm,Z1 kp,oB]
   exact Zxp n hs.vl _ 1 (by omega) (he.par (aG kp))
  rw [Zb0.eq_2]
  have a:Zhm (n.1,n.2.1,n.2.2.1,n.2.2.2.1,n.2.2.2.2) (k:Int)=some (Yn n.2.2.1 n.2.2.2.1[k] 1:Int):=f
  rw [a,oB,Z1 e,oB,← bU,Zv (by omega),nC,S3,Xi kp,Xi e,Xi b,← i]
  generalize Yn n.2.2.1 n.2.2.2.1[k] 1 * n.2.2.1[k].length=rc at *
  by_cases h1:65536<rc
  ·rw [if_pos (dT (by omega)),if_pos h1,if_neg (by decide)]
  ·rw [if_neg (dF (by omega)),if_neg h1]
   by_cases h2:rc=t.length
   ·rw [if_neg (by rw [decide_eq_true (by omega)];decide),if_neg (show ¬ rc≠t.length from fun h=>h h2)]
    exact Zrb hs he l (k+1) g.symm (by omega)
   ·rw [if_pos (by rw [decide_eq_false (by omega)];decide),if_pos h2,if_neg (by decide)]
def Tz (x:QV):Bool:=decide (Zr x<0)||decide (1<Zr x)
theorem Z8v {a b:Rat}:0<Tf a b↔b<a:=by
 rw [Tf]
 by_cases h:a<b
 ·rw [if_pos h]
  constructor
  ·intro c;omega
  ·intro c;exact absurd (Rat.le_of_lt c) (Rat.not_le.2 h)
 ·rw [if_neg h]
  by_cases c:b<a
  ·simp [c]
  ·simp [c]
theorem Zy7 {a b:Rat}:Tf a b=0↔a=b:=by
 rw [Tf]
 constructor
 ·intro h
  split at h
  ·cases h
  ·split at h
   ·cases h
   ·rename_i c d
    exact Rat.le_antisymm (fI.1 d) (fI.1 c)
 ·rintro rfl
  rw [if_neg dO,if_neg dO]
theorem Zn0 {N:Nat} (hr:Z9 N 8):Ze6 N=some (Zo 1):=by
 rw [Ze6,Zmj (by omega) (by omega) (hr.mono (by omega)),oB,if_neg (by decide)]
 have:((1:Int):Rat) / ((1:Int):Rat)=1:=div_one _
 rw [this]
theorem Z0v:RV 1 (Zo 1):=Vo (by rw [Zck];omega)
theorem Z7v {N k:Nat} {x:QV} (hx:RV k x) (hr:Z9 N (2 * k+16)):Zhk N x=some (Tz x):=by
 have c:Ta N ((x.1.1,x.1.2),x.2)=some (S1 (Zr x)):=Zer hx (hr.mono (by omega))
 rw [Zhk,c,oB,Tz]
 by_cases h:Zr x<0
 ·rw [if_pos (dT (Zr3.2 h)),Zhl,decide_eq_true h,Bool.true_or]
 ·rw [if_neg (dF (fun d=>h (Zr3.1 d))),decide_eq_false h,Bool.false_or,Zn0 (hr.mono (by omega)),oB,Zqc (a:=((x.1.1,x.1.2),x.2)) (b:=Zo 1) hx Z0v (hr.mono (by omega)),oB,Zhl,Wt]
  congr 1
  exact decide_eq_decide.2 Z8v
def Wm (x:QV):QV:=if Zc x.2=0 then (x.1,[1]) else x
theorem Zvo {x:QV} (h:Vx x):Vx (Wm x):=by
 rw [Wm];split
 ·exact ⟨h.1,.cons (by decide) .nil⟩
 ·exact h
theorem Zmg (x:QV):Zr (Wm x)=Zr x:=by
 rw [Wm];split
 ·rename_i h
  rw [Zr,Zr]
  show mkRat (Zt x.1) (Yv [1])=mkRat (Zt x.1) (Yv x.2)
  rw [Yv,Yv,if_pos h]
  congr 1
 ·rfl
theorem Z6s (x:QV):Tz (Wm x)=Tz x:=by rw [Tz,Tz,Zmg]
theorem Z6r (x:QV):max (Wm x).1.2.length (Wm x).2.length≤max x.1.2.length x.2.length+1:=by
 rw [Wm];split
 ·show max x.1.2.length [(1:Int)].length≤_
  simp only [aL];omega
 ·omega
theorem Zr1:∀ l:List QV,2 * l.length≤X6 l
 | []=>by simp [X6]
 | a :: l=>by rw [X6,nC];have:=Zr1 l;omega
theorem Zrz:∀ l:List QV,X6 (l.map Wm)≤X6 l+l.length
 | []=>by simp [X6]
 | a :: l=>by
  rw [aQ,X6,X6,nC]
  have:=Zrz l;have:=Z6r a;omega
theorem Zy8 (a b:List QV):X6 (a++b)=X6 a+X6 b:=by
 induction a with
 | nil=>simp [X6]
 | cons x a c=>rw [bY,X6,X6,c];omega
theorem Z8x (l:List QV) (k:Nat):X6 (l.take k)≤X6 l:=by
 have:=Zy8 (l.take k) (l.drop k)
 rw [dM] at this;omega
theorem Z8w (l:List QV) (k:Nat):X6 (l.drop k)≤X6 l:=by
 have:=Zy8 (l.take k) (l.drop k)
 rw [dM] at this;omega
theorem Zy9 {l:List QV} {x:QV} (h:x ∈ l):max x.1.2.length x.2.length≤X6 l:=by
 induction l with
 | nil=>simp at h
 | cons y l a=>
  rw [X6]
  rcases aP.1 h with rfl | h
  ·omega
  ·have:=a h;omega
theorem Zqd {N k:Nat} {x:QV} (h:Vx x) (hk:max x.1.2.length x.2.length≤k) (hr:Z9 N k):Zb2 N x=some (Wm x):=by
 obtain ⟨a,b⟩:=hr
 rw [Zb2,Zri h.2 (by omega) (by omega),oB,Wm]
 by_cases h0:Zc x.2=0
 ·rw [h0,Vm,if_pos (by decide),if_pos rfl,Zlc (by decide) (by omega),oB,Zhh,show (1:Int).toNat=1 from rfl,Ss]
 ·have:=Tt h0
  rw [if_neg (dF (by omega)),if_neg h0,Zhh]
theorem Zvt {N W:Nat} (hr:Z9 N W):∀ (l out:List QV),(∀ x ∈ l,Vx x)→X6 l≤W→out.length+l.length≤1048576→Zdq N l out=some (out++l.map Wm)
 | [],out,_,_,_=>by rw [Zdq.eq_1];simp
 | x :: l,out,b,c,a=>by
  rw [X6] at c
  rw [nC] at a
  have d:Zb2 N ((x.1.1,x.1.2),x.2)=some (Wm x):=Zqd (x:=x) (b x aC) (k:=W) (by omega) hr
  rw [Zdq.eq_2,d,oB,Z6 (by simp only [aL,maxLen];omega),Zvt hr l _ (fun y e=>b y (aB _ e)) (by omega) (by simp only [nA,aL];omega)]
  simp
theorem Zvu {N W:Nat} {l:List QV} (hr:Z9 N W) (hl:∀ x ∈ l,Vx x) (hq:X6 l≤W) (hlen:l.length≤1048576):Zhi N l=some (l.map Wm):=by
 rw [Zhi,Z6 (by simp only [maxLen];omega),Zvt hr l [] hl hq (by simpa using hlen),aV]
theorem Zwa {N W:Nat} (hr:Z9 N (2 * W+16)):∀ (l:List QV) (k:Nat),(∀ x ∈ l,Vx x)→X6 l≤W→∃ j:Int,Zfw N l k=some j∧(0≤j↔l.any Tz=true)
 | [],k,_,_=>⟨-1,rfl,by simp⟩
 | x :: l,k,b,d=>by
  rw [X6] at d
  have c:=b x aC
  have a:Zhk N ((x.1.1,x.1.2),x.2)=some (Tz x):=Z7v (x:=x) (Zcm c.1 c.2) (hr.mono (by omega))
  rw [Zfw.eq_2,a,oB,fE]
  cases Tz x with
  | true=>rw [if_pos rfl];exact ⟨_,rfl,by simp⟩
  | false=>
   rw [if_neg (by decide)]
   obtain ⟨j,a,e⟩:=Zwa hr l (k+1) (fun y f=>b y (aB _ f)) (by omega)
   exact ⟨j,a,by rw [e];simp⟩
def Zep (T:List (List QV)):Bool:=T.any fun t=>t.any Tz
theorem Z28 (l:List QV):(l.map Wm).any Tz=l.any Tz:=by
 induction l with
 | nil=>rfl
 | cons x l a=>rw [aQ,fE,fE,a,Z6s]
theorem Zq8 {N W:Nat} {n:Zp} (hr:Z9 N (4 * W+16)):∀ l:List (List QV),(∀ t ∈ l,t.length≤1048576∧X6 t≤W∧∀ x ∈ t,Vx x)→Zb1 N n l=if Zep l=true then some 45 else Zdo N n n.2.2.2.2 0
 | [],_=>by rw [Zb1.eq_1];rfl
 | t :: l,h=>by
  obtain ⟨d,e,c⟩:=h t aC
  have i:=Zr1 t
  have k:=Zrz t
  obtain ⟨j,f,a⟩:=Zwa (N:=N) (W:=2 * W) (hr.mono (by omega)) (t.map Wm) 0 (fun x b=>by
   obtain ⟨y,g,rfl⟩:=bO.1 b
   exact Zvo (c y g)) (by omega)
  rw [Zb1.eq_2,Zvu (W:=W) (hr.mono (by omega)) c e d,oB,Znu,Znv,f,oB,oB,Zep,fE]
  rw [Z28] at a
  by_cases ho:t.any Tz=true
  ·rw [if_pos (dT (a.2 ho)),ho,Bool.true_or,if_pos rfl]
  ·rw [if_neg (dF (fun h=>ho (a.1 h))),Bool.eq_false_iff.2 ho,Bool.false_or]
   exact Zq8 hr l fun x b=>h x (aB _ b)
def Te (c:Nat):Nat→List QV→Bool
 | 0,_=>true
 | m+1,l=>decide (Yu (l.take c)=1)&&Te c m (l.drop c)
def Zjf (c:Nat):Nat→List QV→List (List QV)
 | 0,_=>[]
 | m+1,l=>l.take c :: Zjf c m (l.drop c)
theorem Zun (N:Nat) (l:List QV) (c:Nat) (hc:0<c) (hl:l.length≤1048576) (hcs:c≤1048576):∀ (m fuel i:Nat),i+m * c=l.length→m<fuel→Zd2 N l (c:Int) fuel (i:Int)=some (Zjf c m (l.drop i))
 | 0,0,i,_,h=>by omega
 | 0,fuel+1,i,a,_=>by
  rw [Zd2.eq_2,if_neg (dF (by omega))];rfl
 | m+1,0,i,_,h=>by omega
 | m+1,fuel+1,i,a,b=>by
  have d:i+c+m * c=l.length:=by rw [aZ,aX] at a;omega
  have e:(if ((l.drop i).length:Int)<(c:Int) then ((l.drop i).length:Int) else (c:Int))=(c:Int):=by
   rw [bI]
   by_cases h:((l.length - i:Nat):Int)<(c:Int)
   ·omega
   ·rw [if_neg h]
  rw [Zd2.eq_2,if_pos (dT (by omega)),aD,e,Zv (by omega),Z6 (by omega),Z6 (by omega),show (i:Int)+(c:Int)=((i+c:Nat):Int) by omega,Zun N l c hc hl hcs m fuel (i+c) (by omega) (by omega),oB,aD,Zjf,kZ,show i+c - i=c by omega,dR]
theorem Z80 (l:List QV):Yu (l.map Wm)=Yu l:=by
 rw [Yu,Yu,List.map_map]
 congr 1
 exact List.map_congr_left fun x _=>Zmg x
theorem Zyc (c:Nat):∀ (m:Nat) (l:List QV),Te c m (l.map Wm)=Te c m l
 | 0,l=>rfl
 | m+1,l=>by rw [Te,Te,← List.map_take,← List.map_drop,Z80,Zyc c m]
theorem Zxu {N W:Nat} (hr:Z9 N (4 * W+40)) (c:Nat) (b:Bool):∀ (m:Nat) (l:List QV),(∀ x ∈ l,Vx x)→X6 l≤W→Ze8 N (Zjf c m l) b=some (Te c m l)
 | 0,l,_,_=>rfl
 | m+1,l,e,j=>by
  have k:=Z8x l c
  have n:=Z8w l c
  obtain ⟨f,g⟩:=Zqi (N:=N) (l:=l.take c) (fun x d=>e x (cR d)) (hr.mono (by omega))
  rw [Zjf,Ze8.eq_2,f,oB,Zn0 (hr.mono (by omega)),oB,Zqc (a:=Zo _) (b:=Zo 1) (Vo g) Z0v (hr.mono (by omega)),oB,Wt,Wt,Te]
  by_cases h:Yu (l.take c)=1
  ·rw [if_neg (by rw [Zy7.2 h];decide),decide_eq_true h,Bool.true_and]
   exact Zxu hr c b m _ (fun x d=>e x (cM d)) (by omega)
  ·rw [if_pos (by rw [decide_eq_false (fun i=>h (Zy7.1 i))];decide),decide_eq_false h,Bool.false_and];rfl
theorem Z7x {N W c m:Nat} {l:List QV} (hr:Z9 N (4 * W+40)) (hl:∀ x ∈ l,Vx x) (hq:X6 l≤W) (hc:0<c) (hcs:c≤1048576) (hll:l.length≤1048576) (hm:m * c=l.length) (hN:1048577<N):Zj1 N l (c:Int)=some (Te c m l):=by
 have a:m≤l.length:=by rw [← hm];exact eC m hc
 rw [Zj1,Znr,if_neg (dF (by omega)),Znt,Zns,show (0:Int)=((0:Nat):Int) from rfl,Zun N l c hc hll hcs m N 0 (by omega) (by omega),oB,aT]
 exact Zxu hr c false m l hl hq
def Zec (vals:List R3) (P:List R2) (T:List (List QV)):Nat→Nat→Int
 | 0,_=>0
 | m+1,v=>if Te (vals.getD v []).length (Yn vals (P.getD v []) 1) (T.getD v [])=true then Zec vals P T m (v+1) else 46
theorem Zsl {vals:List R3} {P:List R2} {T:List (List QV)}:∀ (m v:Nat),S3 vals P T m v=0→∀ i,v≤i→i<v+m→Yn vals (P.getD i []) 1 * (vals.getD i []).length=(T.getD i []).length∧(T.getD i []).length≤65536
 | 0,v,_,i,a,b=>by omega
 | m+1,v,h,i,a,b=>by
  rw [S3] at h
  by_cases h3:65536<Yn vals (P.getD v []) 1 * (vals.getD v []).length
  ·rw [if_pos h3] at h;cases h
  ·rw [if_neg h3] at h
   by_cases h4:Yn vals (P.getD v []) 1 * (vals.getD v []).length=(T.getD v []).length
   ·rw [if_neg (show ¬ Yn vals (P.getD v []) 1 * (vals.getD v []).length≠(T.getD v []).length from fun h=>h h4)] at h
    rcases cQ v i with c | c
    ·exact Zsl m (v+1) h i (by omega) (by omega)
    ·have:i=v:=by omega
     subst this
     exact ⟨h4,by omega⟩
   ·rw [if_pos h4] at h;cases h
theorem Zrc {N W:Nat} {n:Zp} (hs:Ve n W) (he:Um n) (hsh:S3 n.2.2.1 n.2.2.2.1 n.2.2.2.2 n.2.1.length 0=0) (hr:Z9 N (8 * W+40)) (hN:1048577<N):∀ (l:List (List QV)) (k:Nat),n.2.2.2.2.drop k=l→k≤n.2.1.length→Zdo N n l k=some (Zec n.2.2.1 n.2.2.2.1 n.2.2.2.2 l.length k)
 | [],k,_,_=>rfl
 | t :: l,k,f,w=>by
  have A:=he.t;have B:=he.v;have C:=he.p
  have a:k<n.2.2.2.2.length:=by
   rcases cQ k n.2.2.2.2.length with h | h
   ·exact h
   ·rw [aO h] at f;cases f
  have e:=aK a
  rw [f] at e
  obtain ⟨b,g⟩:=List.cons.inj e
  have c:k<n.2.2.1.length:=by omega
  have kp:k<n.2.2.2.1.length:=by omega
  have d:t ∈ n.2.2.2.2:=by rw [b];exact aG a
  have j:=hs.vl _ (aG c)
  have o:0<n.2.2.1[k].length:=dH.2 (he.ne _ (aG c))
  obtain ⟨i,q⟩:=Zsl _ 0 hsh k (by omega) (by omega)
  rw [Xi c,Xi a,← b] at i
  rw [Xi a,← b] at q
  have r:=hs.tq t d
  have u:=Zr1 t
  have D:=Zrz t
  rw [Zdo.eq_2,Z1 c,oB,Zvu (W:=W) (hr.mono (by omega)) (hs.lim t d) r (hs.tl t d),oB,
   Z7x (W:=2 * W) (m:=Yn n.2.2.1 (n.2.2.2.1.getD k []) 1) (hr.mono (by omega)) (fun x b=>by
    obtain ⟨y,s,rfl⟩:=bO.1 b
    exact Zvo (hs.lim t d y s)) (by omega) o j (by rw [aI];omega) (by rw [aI];exact i) hN,oB,Zyc,nC,Zec,Xi c,Xi a,← b]
  cases Te n.2.2.1[k].length (Yn n.2.2.1 (n.2.2.2.1.getD k []) 1) t with
  | true=>
   rw [if_neg (by decide),if_pos rfl]
   exact Zrc hs he hsh hr hN l (k+1) g.symm (by omega)
  | false=>rw [if_pos (by decide),if_neg (by decide)]
structure Xu (N:Nat) (n:Zp):Prop where
 ev:Um n
 le:n.2.1.length≤1024
 nm:Zbi n.2.1 n.2.2.1 n.2.1.length 0=0
 sh:S3 n.2.2.1 n.2.2.2.1 n.2.2.2.2 n.2.1.length 0=0
 en:Zep n.2.2.2.2=false
 su:Zec n.2.2.1 n.2.2.2.1 n.2.2.2.2 n.2.1.length 0=0
 tw:Tj n.2.2.2.1=false
 or:∃ l,Zbo N n.2.2.2.1=some (l,0)∧Zad N n.2.2.2.1=some l∧Zia N n.2.2.2.1=some 0∧U8 n.2.2.2.1 l∧l.length=n.2.2.2.1.length
def cnt (n:Zp) (v:Nat):Nat:=(n.2.2.1.getD v []).length
def T3 (n:Zp) (w:List Int):List Int→Nat→Nat
 | [],r=>r
 | p :: ps,r=>T3 n w ps (r * cnt n p.toNat+(w.getD p.toNat 0).toNat)
def Wz (n:Zp) (w:List Int) (v:Nat):Nat:=T3 n w (n.2.2.2.1.getD v []) 0
def Ux (n:Zp) (w:List Int) (v:Nat):List QV:=((n.2.2.2.2.getD v []).drop (Wz n w v * cnt n v)).take (cnt n v)
structure Xn (n:Zp) (w:List Int):Prop where
 len:w.length=n.2.1.length
 ok:∀ i,i<w.length→0≤w.getD i 0∧w.getD i 0<(cnt n i:Int)
theorem Uo {n:Zp} (he:Um n) {v:Nat} (hv:v<n.2.1.length):0<cnt n v:=by
 have a:v<n.2.2.1.length:=by rw [he.v];exact hv
 rw [cnt,Xi a]
 exact dH.2 (he.ne _ (aG a))
theorem Zf3 {n:Zp} (he:Um n):∀ (ps:List Int) (k:Nat),(∀ p ∈ ps,0≤p∧p<(n.2.1.length:Int))→k≤1099511627776→k≤Yn n.2.2.1 ps k
 | [],k,_,_=>aY _
 | p :: ps,k,a,b=>by
  have f:=a p aC
  have c:0<(n.2.2.1.getD p.toNat []).length:=Uo he (by omega)
  rw [Yn]
  have d:k≤min (k * (n.2.2.1.getD p.toNat []).length) 1099511627776:=Nat.le_min.2 ⟨eC k c,b⟩
  exact aU d (Zf3 he ps _ (fun q e=>a q (aB _ e)) (kU _ _))
theorem Zos {n:Zp} (he:Um n) {w:List Int} (hw:Xn n w) {p:Int} {ps:List Int} {r k:Nat} (hp:∀ q ∈ p :: ps,0≤q∧q<(n.2.1.length:Int)) (hr:r<k) (hk:k≤65536) (hb:Yn n.2.2.1 (p :: ps) k≤65536):
  r * cnt n p.toNat+(w.getD p.toNat 0).toNat<k * cnt n p.toNat∧k * cnt n p.toNat≤65536∧Yn n.2.2.1 ps (k * cnt n p.toNat)≤65536:=by
 have d:=hp p aC
 have e:=hw.ok p.toNat (by rw [hw.len];omega)
 have f:r * cnt n p.toNat+cnt n p.toNat≤k * cnt n p.toNat:=by
  have:=bC (cnt n p.toNat) (show r+1≤k by omega)
  rwa [aZ,aX] at this
 rw [Yn] at hb
 have a:=Zf3 he ps (min (k * (n.2.2.1.getD p.toNat []).length) 1099511627776) (fun q b=>hp q (aB _ b)) (kU _ _)
 have c:k * (n.2.2.1.getD p.toNat []).length≤1099511627776:=by
  rcases Nat.le_total (k * (n.2.2.1.getD p.toNat []).length) 1099511627776 with h | h
  ·exact h
  ·rw [dI h] at a hb;omega
 rw [bB c] at a hb
 exact ⟨by omega,aU a hb,hb⟩
theorem Z0o {n:Zp} (he:Um n) {w:List Int} (hw:Xn n w):∀ (ps:List Int) (r k:Nat),(∀ q ∈ ps,0≤q∧q<(n.2.1.length:Int))→r<k→k≤65536→Yn n.2.2.1 ps k≤65536→T3 n w ps r<Yn n.2.2.1 ps k
 | [],r,k,_,a,_,_=>a
 | p :: ps,r,k,b,a,d,e=>by
  obtain ⟨f,c,g⟩:=Zos he hw b a d e
  have:=Z0o he hw ps _ _ (fun q i=>b q (aB _ i)) f c g
  rw [T3,Yn,bB (by rw [cnt] at c;omega)]
  exact this
section
variable {N:Nat} {n:Zp} (hf:Xu N n)
include hf
theorem Xu.pars {v:Nat} (hv:v<n.2.1.length):∀ p ∈ n.2.2.2.1.getD v [],0≤p∧p<(n.2.1.length:Int):=fun p a=>by
 have b:v<n.2.2.2.1.length:=by rw [hf.ev.p];exact hv
 rw [Xi b] at a
 have:=hf.ev.par (aG b) p a
 rwa [hf.ev.v] at this
theorem Xu.rows {v:Nat} (hv:v<n.2.1.length):Yn n.2.2.1 (n.2.2.2.1.getD v []) 1 * cnt n v=(n.2.2.2.2.getD v []).length∧(n.2.2.2.2.getD v []).length≤65536∧Yn n.2.2.1 (n.2.2.2.1.getD v []) 1≤65536:=by
 have a:=Zsl _ 0 hf.sh v (bK _) (by omega)
 have b:=Uo hf.ev hv
 refine ⟨a.1,a.2,?_⟩
 have c:Yn n.2.2.1 (n.2.2.2.1.getD v []) 1≤Yn n.2.2.1 (n.2.2.2.1.getD v []) 1 * cnt n v:=eC _ b
 have d:Yn n.2.2.1 (n.2.2.2.1.getD v []) 1 * cnt n v≤65536:=by
  have:=a.1;rw [cnt,this];exact a.2
 omega
theorem Xu.row {w:List Int} (hw:Xn n w) {v:Nat} (hv:v<n.2.1.length):Wz n w v * cnt n v+cnt n v≤(n.2.2.2.2.getD v []).length∧Wz n w v<65536:=by
 obtain ⟨d,e,a⟩:=hf.rows hv
 have b:=Z0o hf.ev hw _ 0 1 (hf.pars hv) (by omega) (by omega) a
 have c:=bC (cnt n v) (show Wz n w v+1≤Yn n.2.2.1 (n.2.2.2.1.getD v []) 1 from b)
 rw [aZ,aX,d] at c
 exact ⟨c,aF b a⟩
theorem Xu.rowT_len {w:List Int} (hw:Xn n w) {v:Nat} (hv:v<n.2.1.length):(Ux n w v).length=cnt n v:=by
 have:=(hf.row hw hv).1
 rw [Ux,nK,bI];omega
theorem Xu.ent {v:Nat} (hv:v<n.2.1.length):∀ x ∈ n.2.2.2.2.getD v [],0≤Zr x∧Zr x≤1:=fun x b=>by
 have c:v<n.2.2.2.2.length:=by rw [hf.ev.t];exact hv
 rw [Xi c] at b
 have d:=hf.en
 rw [Zep,fV] at d
 have e:=d _ (aG c)
 rw [Bool.not_eq_true,fV] at e
 have a:=e x b
 simp only [Tz,Bool.or_eq_true,decide_eq_true_eq,not_or] at a
 exact ⟨fI.1 a.1,fI.1 a.2⟩
end
theorem Zk9 {n:Zp} {w:List Int} {v:Nat} {x:QV} (h:x ∈ Ux n w v):x ∈ n.2.2.2.2.getD v []:=cM (cR h)
theorem Z0n {n:Zp} {w:List Int} {v j:Nat} (hj:j<(Ux n w v).length):Zm (n.2.2.2.2.getD v []) ((Wz n w v * cnt n v+j:Nat):Int)=some (Ux n w v)[j]:=by
 have a:Wz n w v * cnt n v+j<(n.2.2.2.2.getD v []).length:=by
  rw [Ux,nK,bI] at hj;omega
 rw [Z1 a]
 simp only [Ux,iI,iH]
def Up (P:List R2) (l:List Int):Prop:=∀ (a:List Int) (v:Int) (b:List Int),l=a++v :: b→∀ p ∈ P.getD v.toNat [],p ∈ a
theorem Up.step {P:List R2} {l:List Int} {j:Nat} (h:Up P l) (hn:Vr P l 0=some j):Up P (l++[(j:Int)]):=by
 obtain ⟨_,f,i,_⟩:=Zrf hn
 obtain ⟨q,k⟩:=(Zz3 f).1 i
 intro a v b e p d
 rcases List.eq_nil_or_concat b with rfl | ⟨m,c,rfl⟩
 ·obtain ⟨o,g⟩:=kN e rfl
  rw [List.cons.injEq] at g
  obtain ⟨rfl,-⟩:=g
  subst o
  rw [aD,Xi f] at d
  exact k p d
 ·rw [List.concat_eq_append,← bY,← bG] at e
  exact h a v m (kN e rfl).1 p d
theorem Zyk {N:Nat} {P:List R2} (hP:P.length<1048576) (hls:∀ x ∈ P,x.length≤1048576) (hN:1048576<N):∀ (n:Nat) (l r:List Int),U8 P l→Up P l→Zb9 N P n l=some r→Up P r
 | 0,l,r,_,_,h=>by rw [Zb9.eq_1] at h;cases h
 | n+1,l,r,a,b,h=>by
  have c:=a.len
  rw [Zrn (by omega) hls (by omega) hN] at h
  cases hnx:Vr P l 0 with
  | none=>rw [hnx] at h;cases h;exact b
  | some j=>
   rw [hnx] at h
   exact Zyk hP hls hN n (l++[(j:Int)]) r (a.step hnx).1 (b.step hnx) h
structure Zf8 (P:List R2) (l:List Int):Prop where
 rg:∀ x ∈ l,0≤x∧x<(P.length:Int)
 nd:l.Nodup
 up:Up P l
theorem Z8e {N:Nat} {P:List R2} {l:List Int} (hP:P.length<1048576) (hls:∀ x ∈ P,x.length≤1048576) (hN:1048576<N) (h:Zad N P=some l) (ho:U8 P l):Zf8 P l:=
 ⟨ho.2.1,ho.1,Zyk hP hls hN N [] l ⟨.nil,by simp,by simp⟩ (fun a v b e=>by cases a <;> simp at e) (by rwa [Zad] at h)⟩
section
variable {N W:Nat} {n:Zp} (hf:Xu N n) (hs:Ve n W)
include hf hs
theorem Zeq {v:Nat} (hv:v<n.2.1.length):∀ x ∈ n.2.2.2.2.getD v [],Vx x∧max x.1.2.length x.2.length≤W:=fun x a=>by
 have b:v<n.2.2.2.2.length:=by rw [hf.ev.t];exact hv
 rw [Xi b] at a
 have c:=hs.tq _ (aG b)
 exact ⟨hs.lim _ (aG b) x a,aU (Zy9 a) c⟩
end
/-! the document's loops -/
/-! a row's entries are 1 together -/
theorem Zyb {c:Nat}:∀ (m:Nat) (l:List QV),Te c m l=true→∀ r,r<m→Yu ((l.drop (r * c)).take c)=1
 | 0,l,_,r,h=>by omega
 | m+1,l,h,r,a=>by
  rw [Te,Bool.and_eq_true,decide_eq_true_iff] at h
  cases r with
  | zero=>rw [cT,aT];exact h.1
  | succ r=>
   have:=Zyb m (l.drop c) h.2 r (by omega)
   rw [dR] at this
   rw [aZ,aX,eW]
   exact this
theorem Z13 {vals:List R3} {P:List R2} {T:List (List QV)}:∀ (m v:Nat),Zec vals P T m v=0→∀ i,v≤i→i<v+m→Te (vals.getD i []).length (Yn vals (P.getD i []) 1) (T.getD i [])=true
 | 0,v,_,i,a,b=>by omega
 | m+1,v,h,i,a,b=>by
  rw [Zec] at h
  split at h
  ·rename_i c
   rcases cQ v i with d | d
   ·exact Z13 m (v+1) h i (by omega) (by omega)
   ·have:i=v:=by omega
    subst this
    exact c
  ·cases h
/-! parts side by side -/
def Qd (n:Zp):List Int→Nat→Bool
 | [],_=>true
 | x :: l,k=>!decide (x<0)&&(!decide ((cnt n k:Int)≤x)&&Qd n l (k+1))
theorem Zwc {n:Zp}:∀ (l:List Int) (k:Nat),Qd n l k=true→∀ i,i<l.length→0≤l.getD i 0∧l.getD i 0<(cnt n (k+i):Int)
 | [],_,_,i,a=>by simp at a
 | x :: l,k,h,i,a=>by
  simp only [Qd,Bool.and_eq_true,Bool.not_eq_true',decide_eq_false_iff_not] at h
  cases i with
  | zero=>rw [List.getD_cons_zero,bQ];omega
  | succ i=>
   rw [List.getD_cons_succ,show k+(i+1)=k+1+i by omega]
   exact Zwc l (k+1) h.2.2 i (by simpa using a)
theorem Z63 {n:Zp} {w:List Int} (hl:w.length=n.2.1.length) (h:Qd n w 0=true):Xn n w:=⟨hl,fun i a=>by have:=Zwc w 0 h i a;rwa [cW] at this⟩
def Zbc (N:Nat) (ab:R0) (ac:List Int) (aa:Nat) (ah:Bool) (ai:List Int) (aj:List Int) (kk_L2:(Nat→Bool→R2→R2→Option (R1×Int))) (ak:R4):List Int→Int→Option (R1×Int)
  | [],ad=>(Zm ab.2.2.1 (aa:Int)).bind fun am=>(Zm ac (aa:Int)).bind fun an=>(Zm ak (i64.wrap ((i64.wrap (ad * (am.length:Int)))+an))).bind fun ae=>(Zb2 N ((ae.1.1,ae.1.2),ae.2)).bind fun af=>(Qg N ((ah,ai),aj) ((af.1.1,af.1.2),af.2)).bind fun ag=>kk_L2 (aa+1) ag.1.1 ag.1.2 ag.2
  | al :: ao,ad=>(Zm ab.2.2.1 al).bind fun ap=>(Zm ac al).bind fun aq=>(Zbc N ab ac aa ah ai aj kk_L2 ak ao) (i64.wrap ((i64.wrap (ad * (ap.length:Int)))+aq))
termination_by structural x=>x
def Qk (N:Nat) (aa:R0) (af:List Int):List R4→Nat→Bool→R2→R2→Option (R1×Int)
  | [],ab,ac,ad,ae=>some (((ac,ad),ae),0)
  | ag :: ah,ab,ac,ad,ae=>(Zm aa.2.2.2.1 (ab:Int)).bind fun ai=>Zbc N aa af ab ac ad ae (Qk N aa af ah) ag ai 0
termination_by structural x=>x
def Zhg (aa:Nat) (ab:Bool) (ac:List Int) (ad:List Int) (kk_L1:(Nat→Bool→R2→R2→Option (R1×Int))) (ae:Bool):Option (R1×Int):=
  if ae=true then (some (((false,([]:List Int)),([]:List Int)),3)) else (kk_L1 (aa+1) ab ac ad)
def Qj (N:Nat) (aa:R0) (ac:List Int):List Int→Nat→Bool→R2→R2→Option (R1×Int)
  | [],ab,ad,ae,af=>(Ze6 N).bind fun ag=>Qk N aa ac aa.2.2.2.2 0 ag.1.1 ag.1.2 ag.2
  | ah :: ai,ab,ad,ae,af=>if (decide (ah<0))=true then (Zhg ab ad ae af (Qj N aa ac ai) true) else ((Zm aa.2.2.1 (ab:Int)).bind fun aj=>Zhg ab ad ae af (Qj N aa ac ai) (decide ((aj.length:Int)≤ah)))
termination_by structural x=>x
def Qi (N:Nat) (aa:R0) (ab:List Int):Option (R1×Int):=
  (W1 N (aa.1,aa.2.1,aa.2.2.1,aa.2.2.2.1,aa.2.2.2.2)).bind fun ac=>if (!decide (ac=0))=true then (some (((false,([]:List Int)),([]:List Int)),ac)) else (if (!decide ((ab.length:Int)=(aa.2.1.length:Int)))=true then (some (((false,([]:List Int)),([]:List Int)),60)) else (Qj N aa ab ab 0 false ([]:List Int) ([]:List Int)))
theorem Z3y {N bf bg bh bi cu:Nat} {bj bk bm bn a1:Option Addr} {col:Ze} {w0:World} {ab:R0} {ak:R2} {r:(R1×Int)} (c1 c2:Nat) (hm:Qi N ab ak=some r) (cd:Sl Za.str col w0 bj bf ab.2.1) (au:Sl (Za.slice Za.str) col w0 bk bg ab.2.2.1) (bt:Sl (Za.slice (Za.int .i64)) col w0 bm bh ab.2.2.2.1) (bo:Sl (Za.slice (Za.pair (Za.pair Za.bool (Za.slice (Za.int .u32))) (Za.slice (Za.int .u32)))) col w0 bn bi ab.2.2.2.2) (h1:Sl (Za.int .i64) col w0 a1 cu ak):
    Calls prog 26 #[(.agg #[.string ab.1,.slice bj ab.2.1.length bf,.slice bk ab.2.2.1.length bg,.slice bm ab.2.2.2.1.length bh,.slice bn ab.2.2.2.2.length bi]),.slice a1 ak.length cu] w0 (fun e w'=>∃ (col':Ze) (ra1:Option Addr) (rc2:Nat) (ra4:Option Addr) (rc5:Nat),e= .returned (.tuple #[(.agg #[.bool r.1.1.1,.slice ra1 r.1.1.2.length rc2,.slice ra4 r.1.2.length rc5]),.int .i64 r.2])∧Zh col w0 col' w'∧Zb (Za.int .u32) 95 c1 col' w' ra1 rc2 r.1.1.2∧Zb (Za.int .u32) 95 c2 col' w' ra4 rc5 r.1.2):=by
 refine Wq (m:=103) func26 rfl rfl rfl ?_;rw [Qi.eq_1] at hm;have aa:=St.start col w0;refine go ?_;refine Xs (col:=(Zk col)) 1 rfl ?_;intro b7 er c3 c4 ac;refine Xr (col:=c3) #[.bool false,.slice none (([]:List Int).length) 0,.slice none (([]:List Int).length) 0] 2 zeroValue39 ?_;intro b8 c5 cv cw ad;refine go ?_;replace ac:=ac.gr cw;refine lV _ (Xd isAgg27 sizeOf27 ac) ?_;obtain ⟨es,c6,hm⟩:=bZ hm;replace cd:=cd.keep (Zi.start col w0);replace au:=au.keep (Zi.start col w0);replace bt:=bt.keep (Zi.start col w0);replace bo:=bo.keep (Zi.start col w0);replace aa:=(aa.grow c4).grow cw;refine Zj (Zjc c6 (cd.ks aa) (au.ks aa) (bt.ks aa) (bo.ks aa)) ?_;rintro _ c7 ⟨rfl,bu⟩;refine ⟨_,rfl,?_⟩;replace bu:Zh cv c5 cv c7:=.of_below bu;refine go ?_;replace h1:=h1.keep (Zi.start col w0);replace ac:=ac.gr bu;replace ad:=ad.gr bu;replace aa:=aa.grow bu;refine Zq hm (fun hb hm=>go ?_) fun hb hm=>go ?_
 ·refine lV (.agg #[.bool false,.slice none (([]:List Int).length) 0,.slice none (([]:List Int).length) 0]) (Wy (l:=[_,_]) (qs:=[(0,2),(2,1)]) underlying39 zeroValue39 ⟨rfl,sizeOf37,rfl,sizeOf35,trivial⟩ rfl)<|X1 rfl<|Z5 ad ?_;intro et c8 c9 da;refine go ?_;cases hm;replace aa:=aa.kp c8 c9;exact ⟨rfl,_,Uj da.atN,_,none,0,none,0,rfl,aa.fin (cm []),Zb.nil,Zb.nil⟩
 refine Xk ac ?_;refine go ?_;refine Zq hm (fun hb hm=>go ?_) fun hb hm=>go ?_
 ·refine lV (.agg #[.bool false,.slice none (([]:List Int).length) 0,.slice none (([]:List Int).length) 0]) (Wy (l:=[_,_]) (qs:=[(0,2),(2,1)]) underlying39 zeroValue39 ⟨rfl,sizeOf37,rfl,sizeOf35,trivial⟩ rfl)<|Z5 ad ?_;intro eu db dc dd;refine go ?_;cases hm;replace aa:=aa.kp db dc;exact ⟨rfl,_,Uj dd.atN,_,none,0,none,0,rfl,aa.fin (cm []),Zb.nil,Zb.nil⟩
 refine Z4 [1,2,28,29,4,1000000] (fun n f bp=>∃ a4 a5 a6 av aw al ax ay am bv,n=bv.length∧ak.drop a5=bv∧Qj N ab ak bv a5 a6 al am=some r∧St w0 (Zk col) a4 bp∧Zf 27 1 a4 bp b7 #[.string ab.1,.slice bj ab.2.1.length bf,.slice bk ab.2.2.1.length bg,.slice bm ab.2.2.2.1.length bh,.slice bn ab.2.2.2.2.length bi]∧Zb (Za.int .u32) 95 3 a4 bp av aw al∧Zb (Za.int .u32) 95 4 a4 bp ax ay am∧Zf 39 2 a4 bp b8 #[.bool a6,.slice av al.length aw,.slice ax am.length ay]∧[30].map f=[.int .i64 a5]) ak.length ⟨_,0,_,none,0,_,none,0,_,_,rfl,rfl,hm,aa,ac,Zb.nil,Zb.nil,ad,rfl⟩ ?_;clear hm;intro n f bp hI;obtain ⟨a4,a5,a6,av,aw,al,ax,ay,am,bv,hn,hl,hm,aa,ac,ae,af,ad,hs⟩:=hI;subst hn;refine .lL [30] hs ?_
 cases bv with
 | nil=>
  have hk:¬ ((a5:Int)<(ak.length:Int)):=by have:=aH.1 hl;omega
  have hkb:=decide_eq_false hk;rw [Qj.eq_1] at hm;refine go ?_;refine X2 (congrArg Value.bool hkb)<|go ?_;obtain ⟨ew,de,hm⟩:=bZ hm;refine lc rfl rfl (Zip call103) (Zpr (col:=a4) 5 6 de:) ?_;rintro _ ey ⟨df,ez,e0,e1,e2,rfl,bw,ce,cf⟩;refine ⟨_,rfl,?_⟩;refine Xr (col:=df) #[.bool false,.slice none (([]:List Int).length) 0,.slice none (([]:List Int).length) 0] 7 zeroValue39 ?_;intro cx e3 e4 a7 dg;refine Z5 dg ?_;intro e5 a8 dh ah;refine go ?_;refine Yk ⟨_,_,rfl⟩ ?_;replace ac:=((ac.gr bw).gr a7).kp a8;refine lW ((ac.atN).nth (q:=4) rfl)<|go ?_;replace ae:=((ae.gr bw).gr a7).kp a8;replace af:=((af.gr bw).gr a7).kp a8;replace ad:=((ad.gr bw).gr a7).kp a8;replace aa:=((aa.grow bw).grow a7).kp a8 dh;replace ce:=(ce.gr a7).kp a8;replace cf:=(cf.gr a7).kp a8;refine Z4 [1,2,4,51,52,9,1000000] (fun n f az=>∃ a0 a9 bx bz b0 ba b1 b2 bb b3,n=b3.length∧ab.2.2.2.2.drop a9=b3∧Qk N ab ak b3 a9 bx ba bb=some r∧St w0 (Zk col) a0 az∧Zf 27 1 a0 az b7 #[.string ab.1,.slice bj ab.2.1.length bf,.slice bk ab.2.2.1.length bg,.slice bm ab.2.2.2.1.length bh,.slice bn ab.2.2.2.2.length bi]∧Zb (Za.int .u32) 95 3 a0 az av aw al∧Zb (Za.int .u32) 95 4 a0 az ax ay am∧Zf 39 2 a0 az b8 #[.bool a6,.slice av al.length aw,.slice ax am.length ay]∧Zb (Za.int .u32) 95 5 a0 az bz b0 ba∧Zb (Za.int .u32) 95 6 a0 az b1 b2 bb∧Zf 39 7 a0 az cx #[.bool bx,.slice bz ba.length b0,.slice b1 bb.length b2]∧[53].map f=[.int .i64 a9]) ab.2.2.2.2.length ⟨_,0,_,_,_,_,_,_,_,_,rfl,rfl,hm,aa,ac,ae,af,ad,ce,cf,ah,rfl⟩ ?_;clear hm;intro n f az hI;obtain ⟨a0,a9,bx,bz,b0,ba,b1,b2,bb,b3,hn,hl,hm,aa,ac,ae,af,ad,ai,aj,ah,hs⟩:=hI;subst hn;refine .lL [53] hs ?_
  cases b3 with
  | nil=>
   have hk:¬ ((a9:Int)<(ab.2.2.2.2.length:Int)):=by have:=aH.1 hl;omega
   have hkb:=decide_eq_false hk;rw [Qk.eq_1] at hm;refine go ?_;refine X2 (congrArg Value.bool hkb)<|go ?_;refine lV _ (Xd isAgg39 sizeOf39 ah)<|Z5 ad ?_;intro e6 cg di dj;refine go ?_;cases hm;replace ai:=ai.kp cg;replace aj:=aj.kp cg;replace aa:=aa.kp cg di;exact ⟨rfl,_,Uj dj.atN,_,_,_,_,_,rfl,aa.fin (cm [(5,c1),(6,c2)]),aa.fo ai,aa.fo aj⟩
  | cons cy cz=>
   obtain ⟨an,dl,dm⟩:=Yd hl;have hk:(a9:Int)<(ab.2.2.2.2.length:Int):=by omega
   have hkb:=decide_eq_true hk;rw [Qk.eq_2] at hm;refine go ?_;refine X3 (congrArg Value.bool hkb)<|go ?_;refine lI an ((bo.ks aa).addr an) ?_;obtain ⟨_,dn,dp⟩:=(bo.ks aa).atN an;obtain ⟨⟨dq,dr,rfl,bc⟩,_⟩:=dn;refine lW dp.one<|go ?_;refine Xk ac<|X1 rfl ?_;obtain ⟨b4,ch,hm⟩:=bZ hm;refine lI ch ((bt.ks aa).addr ch) ?_;obtain ⟨_,ds,dt⟩:=(bt.ks aa).atN ch;obtain ⟨⟨du,dv,rfl,a3⟩,_⟩:=ds;refine lW dt.one<|go ?_;refine Z4 [1,10,11,2,4,51,52,53,62,63,9,1000000] (fun n f ao=>∃ ag ci b5 b6,n=b6.length∧b4.drop b5=b6∧Zbc N ab ak a9 bx ba bb (Qk N ab ak cz) cy b6 ci=some r∧St w0 (Zk col) ag ao∧Sl (Za.pair (Za.pair Za.bool (Za.slice (Za.int .u32))) (Za.slice (Za.int .u32))) ag ao dq dr cy∧Zf 27 1 ag ao b7 #[.string ab.1,.slice bj ab.2.1.length bf,.slice bk ab.2.2.1.length bg,.slice bm ab.2.2.2.1.length bh,.slice bn ab.2.2.2.2.length bi]∧Zb (Za.int .u32) 95 3 ag ao av aw al∧Zb (Za.int .u32) 95 4 ag ao ax ay am∧Zf 39 2 ag ao b8 #[.bool a6,.slice av al.length aw,.slice ax am.length ay]∧Sl (Za.int .i64) ag ao du dv b4∧Zb (Za.int .u32) 95 5 ag ao bz b0 ba∧Zb (Za.int .u32) 95 6 ag ao b1 b2 bb∧Zf 39 7 ag ao cx #[.bool bx,.slice bz ba.length b0,.slice b1 bb.length b2]∧[64,12].map f=[.int .i64 b5,.int .i64 ci]) b4.length ⟨_,0,0,_,rfl,rfl,hm,aa,bc,ac,ae,af,ad,a3,ai,aj,ah,rfl⟩ ?_;clear hm;intro n f ao hI;obtain ⟨ag,ci,b5,b6,hn,hl,hm,aa,bc,ac,ae,af,ad,a3,ai,aj,ah,hs⟩:=hI;subst hn;refine .lL [64,12] hs ?_
   cases b6 with
   | nil=>
    have hk:¬ ((b5:Int)<(b4.length:Int)):=by have:=aH.1 hl;omega
    have hkb:=decide_eq_false hk;rw [Zbc.eq_1] at hm;refine go ?_;refine X2 (congrArg Value.bool hkb)<|go ?_;refine W7 (col:=ag) [(0,0),(1,1),(2,1),(3,1),(4,0),(5,1),(6,1),(7,0),(8,1),(9,1),(10,1),(11,1),(12,1),(13,0),(14,1),(15,1),(16,0),(17,3),(18,3),(19,2)] (by kernel_rfl) (by kernel_rfl)<|xv rfl rfl (fun _ hC=>Xd isAgg39 sizeOf39 (ah.gr (hC.bl ag))) ?_;refine xu rfl rfl (fun _=>T0 rfl) ?_;refine xu rfl rfl (fun _=>Y4 rfl) ?_;refine xF ⟨_,_,rfl⟩ ?_;refine xW (fun _ hC=>((ac.atN).nth (q:=2) rfl).gr (hC.bl ag)) ?_;refine xu rfl rfl (fun _=>Y4 rfl) ?_;obtain ⟨e7,b9,hm⟩:=bZ hm;refine xu rfl rfl (fun _=>Y3 underlying23 sizeOf22 rfl rfl (Xe b9).1 (Xe b9).2.1 ((au.ks aa).addr b9)) ?_;obtain ⟨_,dw,dx⟩:=(au.ks aa).atN b9;obtain ⟨⟨e8,e9,rfl,fa⟩,_⟩:=dw;refine xW (fun _ hC=>dx.one.gr (hC.bl ag)) ?_;refine xu rfl rfl (fun _=>Zaj underlying22 rfl) ?_;refine xu rfl rfl (fun _=>Zis _ _ rfl rfl) ?_;refine xu rfl rfl (fun _=>T0 rfl) ?_;refine xu rfl rfl (fun _=>Y4 rfl) ?_;obtain ⟨fb,ca,hm⟩:=bZ hm;refine xu rfl rfl (fun _=>Y3 underlying33 sizeOf3 rfl rfl (Xe ca).1 (Xe ca).2.1 ((h1.ks aa).addr ca)) ?_;refine xW (fun _ hC=>((h1.ks aa).gr (hC.bl ag)).atInt ca) ?_;refine xu rfl rfl (fun _=>Zai _ _ rfl rfl) ?_;obtain ⟨cj,cb,hm⟩:=bZ hm;refine xu rfl rfl (fun _=>Y3 underlying114 sizeOf39 rfl rfl (Xe cb).1 (Xe cb).2.1 (bc.addr cb)) ?_;obtain ⟨_,dy,dz⟩:=bc.atN cb;obtain ⟨_,_,rfl,d0,d1⟩:=Uw dy;obtain ⟨_,_,rfl,d2,d3⟩:=Uw d0;obtain ⟨rfl,_⟩:=d2;obtain ⟨⟨d4,d5,rfl,ck⟩,_⟩:=d3;obtain ⟨⟨d6,d7,rfl,cl⟩,_⟩:=d1;refine xv (v:=(.agg #[.bool cj.1.1,.slice d4 cj.1.2.length d5,.slice d6 cj.2.length d7])) rfl rfl (fun _ hC=>W4 isAgg39 sizeOf39 rfl rfl (dz.gr (hC.bl ag))) ?_;refine xe rfl rfl ?_;intro fc hC0;have hC:=hC0.bl ag;obtain ⟨fd,d8,hm⟩:=bZ hm;replace ck:=ck.gr hC;replace cl:=cl.gr hC;refine Zj (Zt5 d8 ck cl) ?_;rintro _ fe ⟨bq,ff,fg,fh,fi,rfl,a2,cn,co⟩;refine ⟨_,rfl,?_⟩;refine Zl<|Xz bq hC0 a2<|xe rfl rfl ?_;intro d9 hC0;replace ae:=(ae.gr hC).gr a2;replace af:=(af.gr hC).gr a2;replace ai:=(ai.gr hC).gr a2;replace aj:=(aj.gr hC).gr a2;replace ac:=(ac.gr hC).gr a2;replace ad:=(ad.gr hC).gr a2;replace ah:=(ah.gr hC).gr a2;replace aa:=(aa.grow hC).grow a2
    have hC:=hC0.bl bq;obtain ⟨fj,ea,hm⟩:=bZ hm;replace ai:=ai.gr hC;replace aj:=aj.gr hC;replace cn:=cn.gr hC;replace co:=co.gr hC;refine Zj (Zl7 8 9 ea ((ai.toSlF (Zd.int .u32)).froz 6) ((aj.froz 5 (by decide)).toSlF (Zd.int .u32)) ((cn.froz 5).froz 6) ((co.froz 5).froz 6)) ?_;rintro _ fk ⟨eb,fl,fm,fn,fp,rfl,ap,aq,ar⟩;refine ⟨_,rfl,?_⟩;replace aq:=aq.thaw (Z7 .u32) ap (((Fz.refl (col:=bq)).froz 5).froz 6) (by decide);replace ar:=ar.thaw (Z7 .u32) ap (((Fz.refl (col:=bq)).froz 5).froz 6) (by decide);replace ap:=ap.thawR (col:=bq);generalize Xj d9.heap.size bq eb=cc at *;refine Zl<|Xz cc hC0 ap<|xe rfl rfl ?_;intro fq hC0;replace ae:=(ae.gr hC).gr ap;replace af:=(af.gr hC).gr ap;replace ac:=(ac.gr hC).gr ap;replace ad:=(ad.gr hC).gr ap;replace ah:=(ah.gr hC).gr ap;replace aa:=(aa.grow hC).grow ap;have hC:=hC0.bl cc;replace ah:=ah.gr hC;refine Z5 ah ?_;intro fr bd ec be;refine Zl<|xk cc<|Wi ?_;replace ae:=(ae.gr hC).kp bd;replace af:=(af.gr hC).kp bd;replace aq:=(aq.gr hC).kp bd;replace ar:=(ar.gr hC).kp bd;replace ac:=(ac.gr hC).kp bd;replace ad:=(ad.gr hC).kp bd;replace aa:=(aa.grow hC).kp bd ec;intro ft hC;replace hC:=hC.bl cc;refine go ?_;replace ae:=ae.gr hC;replace ae:=ae.recol 8 5 (by decide);replace af:=af.gr hC;replace af:=af.recol 8 5 (by decide);replace aq:=aq.gr hC;replace aq:=aq.recolSelf 5 (by decide);replace ar:=ar.gr hC;replace ar:=ar.recol 8 5 (by decide);replace ac:=ac.gr hC;replace ac:=ac.recol 8 5 (by decide);replace ad:=ad.gr hC;replace ad:=ad.recol 8 5 (by decide);replace be:=be.gr hC;replace be:=be.recol 8 5 (by decide);replace aa:=aa.grow hC;replace aa:=aa.recol 8 5 (by decide) (by decide);replace ae:=ae.recol 9 6 (by decide);replace af:=af.recol 9 6 (by decide);replace aq:=aq.recol 9 6 (by decide);replace ar:=ar.recolSelf 6 (by decide);replace ac:=ac.recol 9 6 (by decide);replace ad:=ad.recol 9 6 (by decide);replace be:=be.recol 9 6 (by decide);replace aa:=aa.recol 9 6 (by decide) (by decide);exact ⟨cz.length,by simp,rfl,⟨_,_,_,_,_,_,_,_,_,_,rfl,dl,hm,aa,ac,ae,af,ad,aq,ar,be,(Yg (congrArg (Value.int .i64) (Yb (aF dm (bo.ks aa).1.1))) rfl)⟩⟩
   | cons fu ed=>
    obtain ⟨an,ee,ef⟩:=Yd hl;have hk:(b5:Int)<(b4.length:Int):=by omega
    have hkb:=decide_eq_true hk;rw [Zbc.eq_2] at hm;refine go ?_;refine X3 (congrArg Value.bool hkb)<|go ?_;refine lI an (a3.addr an)<|lW (a3.atInt an) ?_;refine go ?_;refine V4 (col:=ag) (by kernel_rfl) (by kernel_rfl)<|go ?_;refine qF ⟨_,_,rfl⟩ ?_;refine qW (fun _ hC=>((ac.atN).nth (q:=2) rfl).gr (hC.bl ag)) ?_;refine go ?_;obtain ⟨fv,cp,hm⟩:=bZ hm;refine qI cp ((au.ks aa).addr cp) ?_;obtain ⟨_,eg,eh⟩:=(au.ks aa).atN cp;obtain ⟨⟨fw,fx,rfl,fy⟩,_⟩:=eg;refine qW (fun _ hC=>eh.one.gr (hC.bl ag)) ?_;refine go ?_;obtain ⟨fz,cq,hm⟩:=bZ hm;refine qI cq ((h1.ks aa).addr cq)<|qW (fun _ hC=>((h1.ks aa).gr (hC.bl ag)).atInt cq) ?_;refine go ?_;refine Vc ?_;intro f0 hC;replace hC:=hC.bl ag;refine go ?_;replace bc:=bc.gr hC;replace ae:=ae.gr hC;replace af:=af.gr hC;replace a3:=a3.gr hC;replace ai:=ai.gr hC;replace aj:=aj.gr hC;replace ac:=ac.gr hC;replace ad:=ad.gr hC;replace ah:=ah.gr hC;replace aa:=aa.grow hC;exact ⟨ed.length,by simp,rfl,⟨_,_,_,_,rfl,ee,hm,aa,bc,ac,ae,af,ad,a3,ai,aj,ah,(Yg (congrArg (Value.int .i64) (Yb (aF ef a3.1.1))) rfl)⟩⟩
 | cons ei c0=>
  obtain ⟨an,ej,ek⟩:=Yd hl;have hk:(a5:Int)<(ak.length:Int):=by omega
  have hkb:=decide_eq_true hk;rw [Qj.eq_2] at hm;refine go ?_;refine X3 (congrArg Value.bool hkb)<|go ?_;refine lI an ((h1.ks aa).addr an)<|lW ((h1.ks aa).atInt an)<|Y7 rfl<|Y7 rfl<|Zl<|Z0 ?_;refine Wp.cutK [1,2,28,29,30,4,1000000] (fun f br=>∃ bs cr,Zhg a5 a6 al am (Qj N ab ak c0) cr=some r∧St w0 (Zk col) bs br∧Zf 27 1 bs br b7 #[.string ab.1,.slice bj ab.2.1.length bf,.slice bk ab.2.2.1.length bg,.slice bm ab.2.2.2.1.length bh,.slice bn ab.2.2.2.2.length bi]∧Zb (Za.int .u32) 95 3 bs br av aw al∧Zb (Za.int .u32) 95 4 bs br ax ay am∧Zf 39 2 bs br b8 #[.bool a6,.slice av al.length aw,.slice ax am.length ay]∧[46].map f=[.bool cr]) ?_ ?_
  ·intro f br hJ;obtain ⟨bs,cr,hm,aa,ac,ae,af,ad,hs⟩:=hJ;rw [Zhg.eq_1] at hm;refine .lL [46] hs ?_;refine Zq hm (fun hb hm=>go ?_) fun hb hm=>go ?_
   ·refine lV (.agg #[.bool false,.slice none (([]:List Int).length) 0,.slice none (([]:List Int).length) 0]) (Wy (l:=[_,_]) (qs:=[(0,2),(2,1)]) underlying39 zeroValue39 ⟨rfl,sizeOf37,rfl,sizeOf35,trivial⟩ rfl)<|Z5 ad ?_;intro f1 el em en;refine go ?_;cases hm;replace aa:=aa.kp el em;exact ⟨rfl,_,Uj en.atN,_,none,0,none,0,rfl,aa.fin (cm []),Zb.nil,Zb.nil⟩
   exact ⟨c0.length,by simp,rfl,⟨_,_,_,_,_,_,_,_,_,_,rfl,ej,hm,aa,ac,ae,af,ad,(Yg (congrArg (Value.int .i64) (Yb (aF ek (h1.ks aa).1.1))) rfl)⟩⟩
  refine go ?_;refine Yt hm (fun cs hm=>go ?_) fun cs hm=>go ?_
  ·refine lV (.bool true) (Yf (congrArg Value.bool cs) rfl)<|Zl ?_;exact ⟨rfl,_,_,hm,aa,ac,ae,af,ad,rfl⟩
  refine Yk ⟨_,_,rfl⟩ ?_;refine go ?_;refine lW ((ac.atN).nth (q:=2) rfl)<|go ?_;obtain ⟨eo,ct,hm⟩:=bZ hm;refine lI ct ((au.ks aa).addr ct) ?_;refine go ?_;obtain ⟨_,ep,eq⟩:=(au.ks aa).atN ct;obtain ⟨⟨f2,f3,rfl,f4⟩,_⟩:=ep;refine lW eq.one<|go ?_;refine lV (.bool (decide ((eo.length:Int)≤ei))) (X8 (congrArg Value.bool cs) rfl)<|Zl ?_;exact ⟨rfl,_,_,hm,aa,ac,ae,af,ad,rfl⟩
def ent (n:Zp) (w:List Int) (v:Nat):Rat:=Zr ((Ux n w v).getD (w.getD v 0).toNat ((false,[]),[]))
def Uu (n:Zp) (w:List Int):Nat→Nat→Rat→Rat
 | 0,_,q=>q
 | m+1,k,q=>Uu n w m (k+1) (q * ent n w k)
section
variable {N:Nat} {n:Zp} (hf:Xu N n) {w:List Int} (hw:Xn n w)
include hf hw
variable {W K:Nat} (hs:Ve n W) (hr:Z9 N (8 * K+40)) (hWK:1025 * (W+2)+4≤K)
include hs hr hWK
omit hr hWK in
theorem Z6l {k:Nat} (hk:k<n.2.1.length):qs (ent n w k)≤W+1:=by
 have c:=hw.ok k (by rw [hw.len];exact hk)
 have a:(w.getD k 0).toNat<(Ux n w k).length:=by rw [hf.rowT_len hw hk];omega
 rw [ent,Xi a]
 obtain ⟨b,d⟩:=Zeq hf hs hk _ (Zk9 (aG a))
 have:=Zzb b
 omega
omit hs hr hWK in
theorem Zpz {k:Nat} (hk:k<n.2.1.length) (a:Bool) (b c:List Int) (kk:Nat→Bool→List Int→List Int→Option (QV×Int)) (t:List QV):∀ (ps:List Int) (r kb:Nat),(∀ q ∈ ps,0≤q∧q<(n.2.1.length:Int))→r<kb→kb≤65536→Yn n.2.2.1 ps kb≤65536→
  Zbc N n w k a b c kk t ps (r:Int)=Zbc N n w k a b c kk t [] (T3 n w ps r:Int)
 | [],r,kb,_,_,_,_=>rfl
 | p :: ps,r,kb,d,e,f,g=>by
  obtain ⟨i,m,o⟩:=Zos hf.ev hw d e f g
  have A:=d p aC
  have B:=hw.ok p.toNat (by rw [hw.len];omega)
  have C:r * cnt n p.toNat≤kb * cnt n p.toNat:=bC _ (by omega)
  have q1:Zm n.2.2.1 p=some (n.2.2.1.getD p.toNat []):=by
   have:=Wf (l:=n.2.2.1) [] (j:=p.toNat) (by rw [hf.ev.v];omega)
   rwa [show ((p.toNat:Nat):Int)=p by omega] at this
  have s:Zm w p=some (w.getD p.toNat 0):=by
   have:=Wf (l:=w) 0 (j:=p.toNat) (by rw [hw.len];omega)
   rwa [show ((p.toNat:Nat):Int)=p by omega] at this
  have u:i64.wrap ((r:Int) * ((n.2.2.1.getD p.toNat []).length:Int))=((r * cnt n p.toNat:Nat):Int):=by
   rw [show ((n.2.2.1.getD p.toNat []).length:Int)=((cnt n p.toNat:Nat):Int) from rfl,← bU]
   exact Zv (by omega)
  have x:i64.wrap (((r * cnt n p.toNat:Nat):Int)+w.getD p.toNat 0)=((r * cnt n p.toNat+(w.getD p.toNat 0).toNat:Nat):Int):=by
   rw [eB,show (((w.getD p.toNat 0).toNat:Nat):Int)=w.getD p.toNat 0 by omega]
   exact Zv (by omega)
  rw [Zbc.eq_2,q1,oB,s,oB,u,x]
  exact Zpz hk a b c kk t ps _ _ (fun q y=>d q (aB _ y)) i m o
theorem Zui:∀ (l:List (List QV)) (k:Nat) (q:Rat),n.2.2.2.2.drop k=l→k≤n.2.1.length→qs q≤k * (W+1)+1→Qk N n w l k (Zo q).1.1 (Zo q).1.2 (Zo q).2=some (Zo (Uu n w l.length k q),0)
 | [],k,q,_,_,_=>rfl
 | t :: l,k,q,c,P,s=>by
  have Q:=hf.ev.t
  have J:=hf.le
  have e:k<n.2.2.2.2.length:=by
   rcases cQ k n.2.2.2.2.length with h | h
   ·exact h
   ·rw [aO h] at c;cases c
  have a:k<n.2.1.length:=by omega
  rw [aK e] at c
  obtain ⟨u,x⟩:=List.cons.inj c
  have j:n.2.2.2.2.getD k []=t:=by rw [Xi e];exact u
  have d:=hf.rows a
  have A:=hf.row hw a
  have L:=hw.ok k (by rw [hw.len];exact a)
  have m:=Zpz hf hw a (Zo q).1.1 (Zo q).1.2 (Zo q).2 (Qk N n w l) t (n.2.2.2.1.getD k []) 0 1 (hf.pars a) (by omega) (by omega) d.2.2
  rw [show ((0:Nat):Int)=0 from rfl] at m
  have f:(w.getD k 0).toNat<(Ux n w k).length:=by rw [hf.rowT_len hw a];omega
  have B:i64.wrap ((Wz n w k:Int) * ((n.2.2.1.getD k []).length:Int))=((Wz n w k * cnt n k:Nat):Int):=by
   rw [show ((n.2.2.1.getD k []).length:Int)=((cnt n k:Nat):Int) from rfl,← bU]
   exact Zv (by omega)
  have C:i64.wrap (((Wz n w k * cnt n k:Nat):Int)+w.getD k 0)=((Wz n w k * cnt n k+(w.getD k 0).toNat:Nat):Int):=by
   rw [eB,show (((w.getD k 0).toNat:Nat):Int)=w.getD k 0 by omega]
   exact Zv (by omega)
  have o:Zm t ((Wz n w k * cnt n k+(w.getD k 0).toNat:Nat):Int)=some (Ux n w k)[(w.getD k 0).toNat]:=by
   rw [← j];exact Z0n f
  obtain ⟨y,g⟩:∃ y,y=(Ux n w k)[(w.getD k 0).toNat]:=⟨_,rfl⟩
  obtain ⟨i,D⟩:=Zeq hf hs a y (Zk9 (g ▸ aG f))
  have E:ent n w k=Zr y:=by rw [ent,Xi f,g]
  have F:k * (W+1)≤1024 * (W+1):=bC _ (by omega)
  have b:Vx (Wm y):=by
   rw [Wm];split
   ·exact ⟨i.1,by simp [Zn]⟩
   ·exact i
  have r:RV (W+1) (Wm y):=by
   refine ⟨b.1,b.2,?_,?_⟩
   ·rw [Wm];split
    ·simp only;omega
    ·omega
   ·rw [Wm];split
    ·simp
    ·omega
  have G:Zb2 N ((y.1.1,y.1.2),y.2)=some (Wm y):=Zqd i D (hr.mono (by omega))
  have H:Qg N (((Zo q).1.1,(Zo q).1.2),(Zo q).2) (((Wm y).1.1,(Wm y).1.2),(Wm y).2)=some (Zo (q * ent n w k)):=by
   have:=Zmi (Vo s) r (hr.mono (by omega))
   rwa [Wt,Zmg,← E] at this
  have M:=Zlg q (ent n w k)
  have O:=Z6l hf hw hs a
  have I:=Zui l (k+1) (q * ent n w k) x (by omega) (by rw [aZ,aX];omega)
  rw [Qk.eq_2,Wf [] (by rw [hf.ev.p];exact a),oB,m,← Wz,Zbc.eq_1,Wf [] (by rw [hf.ev.v];exact a),oB,Wf 0 (by rw [hw.len];exact a),oB,B,C,o,← g,oB,G,oB,H,oB,nC,Uu]
  exact I
end
theorem Zpy {N:Nat} {n:Zp} (he:Um n) (hl:n.2.1.length≤1048576) (w:List Int) (hw:w.length=n.2.1.length):∀ (l:List Int) (k:Nat) (b:Bool) (l1 l2:List Int),w.drop k=l→k≤w.length→Qj N n w l k b l1 l2=if Qd n l k=true then Qj N n w [] w.length b l1 l2 else some (((false,([]:List Int)),([]:List Int)),3)
 | [],k,b,l1,l2,a,c=>by
  have:=aH.1 a
  rw [Qd,if_pos rfl,show k=w.length by omega]
 | x :: l,k,b,l1,l2,a,c=>by
  have d:k<w.length:=by
   rcases cQ k w.length with h | h
   ·exact h
   ·rw [aO h] at a;cases a
  rw [aK d] at a
  obtain ⟨f,e⟩:=List.cons.inj a
  rw [Qj.eq_2,Qd]
  by_cases hx:x<0
  ·rw [if_pos (dT hx),Zhg,if_pos rfl,decide_eq_true hx];rfl
  ·rw [if_neg (dF hx),Wf [] (by rw [he.v];omega),oB,Zhg,decide_eq_false hx]
   by_cases hc:(cnt n k:Int)≤x
   ·rw [show ((n.2.2.1.getD k []).length:Int)=(cnt n k:Int) from rfl,decide_eq_true hc,if_pos rfl];rfl
   ·rw [show ((n.2.2.1.getD k []).length:Int)=(cnt n k:Int) from rfl,decide_eq_false hc,if_neg (by decide),Zpy he hl w hw l (k+1) b l1 l2 e (by omega)];rfl
theorem Z5g {N W K:Nat} {n:Zp} (hf:Xu N n) (hs:Ve n W) (hr:Z9 N (8 * K+40)) (hWK:1025 * (W+2)+4≤K) (hN:2000000<N) (hC:W1 N n=some 0) (w:List Int):
  ∃ p e,Qi N n w=some (p,e)∧((e≠0∧(decide (w.length=n.2.1.length)&&Qd n w 0)=false)∨(e=0∧Xn n w∧p=Zo (Uu n w n.2.1.length 0 1))):=by
 have a:W1 N (n.1,n.2.1,n.2.2.1,n.2.2.2.1,n.2.2.2.2)=some 0:=hC
 have c:=hf.le
 rw [Qi,a,oB,if_neg (by decide)]
 by_cases hlen:w.length=n.2.1.length
 ·rw [if_neg (show ¬ (!decide ((w.length:Int)=(n.2.1.length:Int)))=true by rw [decide_eq_true (by omega)];decide),Zpy hf.ev (by omega) w hlen w 0 false [] [] rfl (bK _)]
  cases hin:Qd n w 0 with
  | false=>rw [if_neg (show ¬ false=true by decide)];exact ⟨_,3,rfl,.inl ⟨by decide,by simp⟩⟩
  | true=>
   have hw:=Z63 hlen hin
   have b:=Zui hf hw hs hr hWK n.2.2.2.2 0 1 rfl (bK _) (by rw [Zck];omega)
   rw [if_pos rfl,Qj.eq_1,Zn0 (hr.mono (by omega)),oB,b,hf.ev.t]
   exact ⟨_,0,rfl,.inr ⟨rfl,hw,rfl⟩⟩
 ·rw [if_pos (show (!decide ((w.length:Int)=(n.2.1.length:Int)))=true by rw [decide_eq_false (by omega)];rfl)]
  exact ⟨_,60,rfl,.inl ⟨by decide,by rw [decide_eq_false hlen];rfl⟩⟩
theorem Z8d {n:Zp} {l:List Int} (ho:U8 n.2.2.2.1 l) (hl:l.length=n.2.2.2.1.length) (hp:n.2.2.2.1.length=n.2.1.length):∀ i,i<n.2.1.length→(i:Int) ∈ l:=fun i d=>by
 apply Classical.byContradiction
 intro b
 have c:=Zim (l:=(i:Int) :: l) (r:=(List.range n.2.2.2.1.length).map fun j:Nat=>(j:Int)) (List.nodup_cons.2 ⟨b,ho.1⟩) fun x a=>by
  rw [bO]
  rcases aP.1 a with rfl | a
  ·exact ⟨i,fS.2 (by omega),rfl⟩
  ·have:=ho.2.1 x a
   exact ⟨x.toNat,fS.2 (by omega),by omega⟩
 rw [aI,List.length_range,nC] at c
 omega
theorem Zwb {n:Zp} {w:List Int} (hd:Xn n w):(decide (w.length=n.2.1.length)&&Qd n w 0)=true:=by
 have:∀ (l:List Int) (j:Nat),w.drop j=l→Qd n l j=true:=by
  intro l
  induction l with
  | nil=>intro j _;rfl
  | cons x l c=>
   intro j b
   have a:j<w.length:=by
    rcases cQ j w.length with h | h
    ·exact h
    ·rw [aO h] at b;cases b
   rw [aK a] at b
   obtain ⟨e,f⟩:=List.cons.inj b
   have d:=hd.ok j a
   rw [Xi a,e] at d
   rw [Qd,c (j+1) f,decide_eq_false (by omega),decide_eq_false (by omega)];rfl
 rw [this w 0 (by rw [aT]),Bool.and_true]
 exact decide_eq_true hd.len
def Xp (n:Zp) (T:List (List QV)):Zp:=(n.1,n.2.1,n.2.2.1,n.2.2.2.1,T)
structure Zap (n:Zp) (T:List (List QV)):Prop where
 len:T.length=n.2.1.length
 sz:∀ v,v<n.2.1.length→(T.getD v []).length=(n.2.2.2.2.getD v []).length
 ent:∀ v,v<n.2.1.length→∀ x ∈ T.getD v [],0≤Zr x∧Zr x≤1
 row:∀ v,v<n.2.1.length→∀ j,j<Yn n.2.2.1 (n.2.2.2.1.getD v []) 1→Yu (((T.getD v []).drop (j * cnt n v)).take (cnt n v))=1
theorem Zyd {c:Nat}:∀ (m:Nat) (l:List QV),(∀ j,j<m→Yu ((l.drop (j * c)).take c)=1)→Te c m l=true
 | 0,l,_=>rfl
 | m+1,l,h=>by
  have a:=h 0 (by omega)
  rw [cT,aT] at a
  rw [Te,decide_eq_true a,Bool.true_and]
  refine Zyd m _ fun j b=>?_
  have:=h (j+1) (by omega)
  rw [dR,show c+j * c=(j+1) * c by rw [aZ,aX,eW]]
  exact this
theorem Z1c {vals:List R3} {P:List R2} {T T':List (List QV)}:∀ m v,(∀ i,v≤i→i<v+m→(T.getD i []).length=(T'.getD i []).length)→S3 vals P T m v=S3 vals P T' m v
 | 0,v,_=>rfl
 | m+1,v,h=>by
  rw [S3,S3,h v (aY _) (by omega),Z1c m (v+1) fun i a b=>h i (by omega) (by omega)]
theorem Z15 {vals:List R3} {P:List R2} {T:List (List QV)}:∀ m v,(∀ i,v≤i→i<v+m→Te (vals.getD i []).length (Yn vals (P.getD i []) 1) (T.getD i [])=true)→Zec vals P T m v=0
 | 0,v,_=>rfl
 | m+1,v,h=>by
  rw [Zec,if_pos (h v (aY _) (by omega)),Z15 m (v+1) fun i a b=>h i (by omega) (by omega)]
section
variable {N:Nat} {n:Zp} {T:List (List QV)} (hf:Xu N n)
include hf
theorem Zsz:Zap n n.2.2.2.2 where
 len:=hf.ev.t
 sz:=fun v _=>rfl
 ent:=fun v hv=>hf.ent hv
 row:=fun v hv=>Zyb _ _ (Z13 _ _ hf.su v (bK _) (by omega))
variable (h:Zap n T)
include h
theorem Zsi:Xu N (Xp n T) where
 ev:=⟨hf.ev.v,hf.ev.p,h.len,hf.ev.i,hf.ev.ne⟩
 le:=hf.le
 nm:=hf.nm
 sh:=(Z1c n.2.1.length 0 fun i _ b=>h.sz i (by omega)).trans hf.sh
 en:=by
  show Zep T=false
  rw [Zep,fV]
  intro t ht
  obtain ⟨v,hv,rfl⟩:=List.getElem_of_mem ht
  have hv2:v<n.2.1.length:=by rw [← h.len];exact hv
  rw [Bool.not_eq_true,fV]
  intro x hx
  have:=h.ent v hv2 x (by rw [Xi hv];exact hx)
  rw [Tz,decide_eq_false (fI.2 this.1),decide_eq_false (fI.2 this.2)]
  decide
 su:=Z15 n.2.1.length 0 fun i _ b=>Zyd _ _ (h.row i (by omega))
 tw:=hf.tw
 or:=hf.or
omit hf h in
theorem Zsh {w:List Int} (hw:Xn n w):Xn (Xp n T) w:=⟨hw.len,hw.ok⟩
omit hf h in
theorem Z9m (w:List Int) (v:Nat):Wz (Xp n T) w v=Wz n w v:=by
 have b:∀ (a:List Int) (r:Nat),T3 (Xp n T) w a r=T3 n w a r:=fun a=>by
  induction a with
  | nil=>intro r;rfl
  | cons p a c=>intro r;rw [T3,T3,c];rfl
 exact b _ _
omit hf h in
theorem Zz4 {w:List Int} {v:Nat} (hx:(w.getD v 0).toNat<cnt n v):ent (Xp n T) w v=Zr ((T.getD v []).getD (Wz n w v * cnt n v+(w.getD v 0).toNat) ((false,[]),[])):=by
 rw [ent,Ux,Z9m]
 show Zr (((((T.getD v []).drop (Wz n w v * cnt n v)).take (cnt n v)).getD (w.getD v 0).toNat ((false,[]),[])))=_
 congr 1
 generalize T.getD v []=t
 generalize (w.getD v 0).toNat=x at *
 rw [aE,aE,List.getElem?_take,if_pos hx,List.getElem?_drop]
end
def Zhc (aa:Int) (ab:Int) (kk_L1:(R4→Int→Option R4)) (ac:List R1):Option R4:=
  kk_L1 ac (i64.wrap (ab+aa))
def Zdn (N:Nat) (ah:R4) (ac:Int) (ad:Int) (kk_L1:(R4→Int→Option R4)) (ab:R1):Nat→R4→Int→Option R4
  | 0,_,_=>none
  | ai+1,ae,aa=>if (decide (aa<(i64.wrap (ad+ac))))=true then ((Zm ah aa).bind fun af=>(Zbs N ((af.1.1,af.1.2),af.2) ((ab.1.1,ab.1.2),ab.2)).bind fun ag=>(Zm ae aa).bind fun ak=>(some (ae.set (aA aa) ((ag.1.1.1,ag.1.1.2),ag.1.2))).bind fun aj=>(Zdn N ah ac ad kk_L1 ab ai) aj (i64.wrap (aa+1))) else (Zhc ac ad kk_L1 ae)
termination_by structural x=>x
def Sv (N:Nat) (ac:R4) (ab:Int):Nat→R4→Int→Option R4
  | 0,_,_=>none
  | af+1,ad,aa=>if (decide (aa<(ad.length:Int)))=true then (Z2 ((0:Int)≤aa∧aa≤(i64.wrap (aa+ab))∧(i64.wrap (aa+ab))≤(ac.length:Int)) ((Zc8 N ((ac.take (aA (i64.wrap (aa+ab)))).drop (aA aa))).bind fun ae=>(Ta N ((ae.1.1,ae.1.2),ae.2)).bind fun ag=>if (decide (ag=0))=true then (Zhc ab aa (Sv N ac ab af) ad) else (Zdn N ac ab aa (Sv N ac ab af) ae N ad aa))) else (some ad)
termination_by structural x=>x
def Ze3 (N:Nat) (aa:R4) (ab:R4) (ac:Int):Option R4:=
  Sv N ab ac N aa 0
theorem Zt3 {N ai ao:Nat} {a0 a1:Option Addr} {col:Ze} {w0:World} {aj ak:R4} {ah:Int} {r:R4} (qc0:Nat) (hm:Ze3 N aj ak ah=some r) (hd:U1 [qc0]=true) (h0:Zb (Za.pair (Za.pair Za.bool (Za.row 95 (Za.int .u32))) (Za.row 95 (Za.int .u32))) 39 qc0 col w0 a0 ai aj) (h1:Sl (Za.pair (Za.pair Za.bool (Za.slice (Za.int .u32))) (Za.slice (Za.int .u32))) col w0 a1 ao ak):
    Calls prog 102 #[.slice a0 aj.length ai,.slice a1 ak.length ao,.int .i64 ah] w0 (fun e w'=>∃ (col':Ze),e= .returned (.tuple #[])∧Zu (pS [qc0]) col w0 col' w'∧Zb (Za.pair (Za.pair Za.bool (Za.row 95 (Za.int .u32))) (Za.row 95 (Za.int .u32))) 39 qc0 col' w' a0 ai r∧r.length=aj.length):=by
 refine Zcs (m:=46) (args:=[.slice a0 aj.length ai,.slice a1 ak.length ao,.int .i64 ah]) func102 rfl rfl rfl rfl ?_;rw [Ze3.eq_1] at hm;have aa:=St.startL (l:=[qc0]) rfl col w0;replace h0:=h0.startL (T9 hd 0 rfl) (T8 hd 0 rfl);refine go ?_;refine Z4 [1,2,1000000] (fun n f bd=>∃ be ar ab ap,ap=n∧Sv N ak ah ap ar ab=some r∧St w0 (Xh [qc0] col) be bd∧Zb (Za.pair (Za.pair Za.bool (Za.row 95 (Za.int .u32))) (Za.row 95 (Za.int .u32))) 39 440 be bd a0 ai ar∧ar.length=aj.length∧ar.length=aj.length∧[0,6].map f=[.slice a0 ar.length ai,.int .i64 ab]) N ⟨_,_,0,_,rfl,hm,aa,h0,rfl,rfl,rfl⟩ ?_;clear hm;intro n f bd hI;obtain ⟨be,ar,ab,ap,hn,hm,aa,ay,bq,bf,hs⟩:=hI;subst hn;refine .lL [0,6] hs ?_;replace h1:=h1.keep (Zi.startL [qc0] col w0)
 cases ap with
 | zero=>rw [Sv.eq_1] at hm;cases hm
 | succ ap=>
  rw [Sv.eq_2] at hm;refine go ?_;refine Zq hm (fun hb hm=>?_) fun hb hm=>go ?_
  ·refine Yl<|Z0 ?_;refine Wp.cutK [1,2,6,1000000] (fun f bg=>∃ bh au,Zhc ah ab (Sv N ak ah ap) au=some r∧St w0 (Xh [qc0] col) bh bg∧Zb (Za.pair (Za.pair Za.bool (Za.row 95 (Za.int .u32))) (Za.row 95 (Za.int .u32))) 39 440 bh bg a0 ai au∧au.length=aj.length∧au.length=aj.length∧[0].map f=[.slice a0 au.length ai]) ?_ ?_
   ·intro f bg hJ;obtain ⟨bh,au,hm,aa,b3,b4,b5,hs⟩:=hJ;rw [Zhc.eq_1] at hm;refine .lL [0] hs<|go ?_;exact ⟨ap,by omega,rfl,⟨_,_,_,_,rfl,hm,aa,b3,b4,b5,rfl⟩⟩
   refine go ?_;obtain ⟨a5,hm⟩:=Z8 hm;have b6:=((h1.ks aa).take (aA (i64.wrap (ab+ah)))).drop (sz:=3) rfl (aA ab);refine lv (v:=.slice (if ao=(aA ab) then a1 else a1.map (·.add ((aA ab) * 3))) ((aA (i64.wrap (ab+ah))) - (aA ab)) (ao - (aA ab))) rfl rfl (Zzq underlying114 sizeOf39 rfl rfl rfl a5.1 a5.2.1 (by have:=(h1.ks aa).1.2;have:=a5.2.2;omega)) ?_;generalize (if ao=(aA ab) then a1 else a1.map (·.add ((aA ab) * 3)))=br at *;refine .ld (d:=21) (v:=(.slice br (((ak.take (aA (i64.wrap (ab+ah)))).drop (aA ab)).length) (ao - (aA ab)))) (congrArg (fun n=>Value.slice br n (ao - (aA ab))) (show (aA (i64.wrap (ab+ah))) - (aA ab)=((ak.take (aA (i64.wrap (ab+ah)))).drop (aA ab)).length by rw [bI,nK];have:=a5.2;omega)) ?_;obtain ⟨av,b7,hm⟩:=bZ hm;refine Zj (Zpm 1 2 b7 b6) ?_;rintro _ cv ⟨b8,bs,bt,bu,bv,rfl,bw,ad,ae⟩;refine ⟨_,rfl,?_⟩;refine Xr (col:=b8) #[.bool false,.slice none (([]:List Int).length) 0,.slice none (([]:List Int).length) 0] 3 zeroValue39 ?_;intro b9 cw bx a6 ca;refine Z5 ca ?_;intro cb a7 cc af;refine go ?_;refine lV _ (Xd isAgg39 sizeOf39 af) ?_;obtain ⟨cx,cd,hm⟩:=bZ hm;replace ad:=(ad.gr a6).kp a7;replace ae:=(ae.gr a6).kp a7;refine Zj (Zgg cd ((ad.toSlF (Zd.int .u32)).froz 2) ((ae.froz 1 (by decide)).toSlF (Zd.int .u32))) ?_;rintro _ ce ⟨rfl,aq⟩;refine ⟨_,rfl,?_⟩;replace aq:Zh bx cb bx ce:=.of_below aq;refine go ?_;replace ay:=(((ay.gr bw).gr a6).kp a7).gr aq;replace aa:=(((aa.grow bw).grow a6).kp a7 cc).grow aq;replace ad:=ad.gr aq;replace ae:=ae.gr aq;replace af:=af.gr aq;refine Zq hm (fun hb hm=>go ?_) fun hb hm=>go ?_
   ·exact ⟨rfl,_,_,hm,aa,ay,bq,bf,rfl⟩
   refine Z4 [1,2,6,7,1000000] (fun n f aw=>∃ ag am a8 ax,ax=n∧Zdn N ak ah ab (Sv N ak ah ap) av ax am a8=some r∧St w0 (Xh [qc0] col) ag aw∧Zb (Za.pair (Za.pair Za.bool (Za.row 95 (Za.int .u32))) (Za.row 95 (Za.int .u32))) 39 440 ag aw a0 ai am∧am.length=aj.length∧Zb (Za.int .u32) 95 1 ag aw bs bt av.1.2∧Zb (Za.int .u32) 95 2 ag aw bu bv av.2∧Zf 39 3 ag aw b9 #[.bool av.1.1,.slice bs av.1.2.length bt,.slice bu av.2.length bv]∧am.length=aj.length∧[0,8].map f=[.slice a0 am.length ai,.int .i64 a8]) N ⟨_,_,_,_,rfl,hm,aa,ay,bq,ad,ae,af,bf,rfl⟩ ?_;clear hm;intro n f aw hI;obtain ⟨ag,am,a8,ax,hn,hm,aa,an,bz,ad,ae,af,cf,hs⟩:=hI;subst hn;refine .lL [0,8] hs ?_
   cases ax with
   | zero=>rw [Zdn.eq_1] at hm;cases hm
   | succ ax=>
    rw [Zdn.eq_2] at hm;refine go ?_;refine Zq hm (fun hb hm=>go ?_) fun hb hm=>go ?_
    ·refine W7 (col:=ag) [(0,1),(1,1),(2,1),(3,1),(4,1),(5,0),(6,0),(7,3),(8,1),(9,1),(10,1),(11,1),(12,2)] (by kernel_rfl) (by kernel_rfl)<|xu rfl rfl (fun _=>T0 rfl) ?_;refine xu rfl rfl (fun _=>Y4 rfl) ?_;refine xu rfl rfl (fun _=>T0 rfl) ?_;refine xu rfl rfl (fun _=>Y4 rfl) ?_;obtain ⟨bi,a9,hm⟩:=bZ hm;refine xu rfl rfl (fun _=>Y3 underlying114 sizeOf39 rfl rfl (Xe a9).1 (Xe a9).2.1 ((h1.ks aa).addr a9)) ?_;obtain ⟨_,cg,ch⟩:=(h1.ks aa).atN a9;obtain ⟨_,_,rfl,ci,cj⟩:=Uw cg;obtain ⟨_,_,rfl,ck,cl⟩:=Uw ci;obtain ⟨rfl,_⟩:=ck;obtain ⟨⟨cn,co,rfl,bj⟩,_⟩:=cl;obtain ⟨⟨cp,cq,rfl,bk⟩,_⟩:=cj;refine xv (v:=(.agg #[.bool bi.1.1,.slice cn bi.1.2.length co,.slice cp bi.2.length cq])) rfl rfl (fun _ hC=>W4 isAgg39 sizeOf39 rfl rfl (ch.gr (hC.bl ag))) ?_;refine xv rfl rfl (fun _ hC=>Xd isAgg39 sizeOf39 (af.gr (hC.bl ag))) ?_;refine xe rfl rfl ?_;intro cr hC0;have hC:=hC0.bl ag;obtain ⟨ac,cs,hm⟩:=bZ hm;replace ad:=ad.gr hC;replace ae:=ae.gr hC;replace bj:=bj.gr hC;replace bk:=bk.gr hC;refine Zj (Zty 4 5 cs ((bj.froz 1).froz 2) ((bk.froz 1).froz 2) ((ad.toSlF (Zd.int .u32)).froz 2) ((ae.froz 1 (by decide)).toSlF (Zd.int .u32))) ?_;rintro _ cy ⟨ct,bm,bn,bo,bp,rfl,al,az,a2⟩;refine ⟨_,rfl,?_⟩;replace az:=az.thaw (Z7 .u32) al (((Fz.refl (col:=ag)).froz 1).froz 2) (by decide);replace a2:=a2.thaw (Z7 .u32) al (((Fz.refl (col:=ag)).froz 1).froz 2) (by decide);replace al:=al.thawR (col:=ag);generalize Xj cr.heap.size ag ct=b0 at *;refine Zl<|Xz b0 hC0 al<|xu (v:=(.tuple #[(.agg #[.bool ac.1.1.1,.slice bm ac.1.1.2.length bn,.slice bo ac.1.2.length bp]),.int .i64 ac.2])) rfl rfl (fun _=>V3 rfl) ?_;refine xu (v:=(.agg #[.bool ac.1.1.1,.slice bm ac.1.1.2.length bn,.slice bo ac.1.2.length bp])) rfl rfl (fun _=>Xx rfl rfl) ?_;refine xu (v:=(.int .i64 ac.2)) rfl rfl (fun _=>Xx rfl rfl) ?_;obtain ⟨cz,ba,hm⟩:=bZ hm;replace an:=(an.gr hC).gr al;refine xu rfl rfl (fun _=>Y3 underlying114 sizeOf39 rfl rfl (Xe ba).1 (Xe ba).2.1 (an.addr ba)) ?_;refine xe rfl rfl ?_;intro c0 hC0;replace af:=(af.gr hC).gr al;replace aa:=(aa.grow hC).grow al;have hC:=hC0.bl b0;replace az:=az.gr hC;replace a2:=a2.gr hC
     have cu:=X7.join (X7.joinL (Zcl ac.1.1.1) az.has) a2.has (by decide) (by decide);replace an:=an.gr hC;replace an:=an.recol 5 4 (by decide);replace ad:=(ad.gr al).gr hC;replace ad:=ad.recol 5 4 (by decide);replace ae:=(ae.gr al).gr hC;replace ae:=ae.recol 5 4 (by decide);replace af:=af.gr hC;replace af:=af.recol 5 4 (by decide);replace aa:=aa.grow hC;replace aa:=aa.recol 5 4 (by decide) (by decide);obtain ⟨a3,a4,hm⟩:=bZ hm;have a4:a3=am.set (aA a8) ((ac.1.1.1,ac.1.1.2),ac.1.2):=(Option.some.inj a4).symm;refine Zwo (x1:=((ac.1.1.1,ac.1.1.2),ac.1.2)) (v:=(.agg #[.bool ac.1.1.1,.slice bm ac.1.1.2.length bn,.slice bo ac.1.2.length bp])) an ba rfl sizeOf39 cu rfl rfl (by decide) ?_;intro c1 b1 bb bc;rw [← a4] at bc;have b2:a3.length=aj.length:=(show am.length=a3.length by rw [a4,nS]).symm.trans bz;refine .ld (d:=0) (v:=(.slice a0 a3.length ai)) (congrArg (fun n=>Value.slice a0 n ai) (show am.length=a3.length by rw [a4,nS])) ?_;refine Zl<|xk b1<|Wi ?_;intro c2 hC;replace hC:=hC.bl b1;refine go ?_;replace ad:=(ad.kpp bb).gr hC;replace ae:=(ae.kpp bb).gr hC;replace af:=(af.kpp bb).gr hC;replace aa:=(aa.kpp bb).grow hC;replace bc:=bc.gr hC;exact ⟨ax,by omega,rfl,⟨_,_,_,_,rfl,hm,aa,bc,b2,ad,ae,af,b2,rfl⟩⟩
    exact ⟨rfl,_,_,hm,aa,an,bz,cf,rfl⟩
  cases hm;exact ⟨rfl,_,rfl,aa.finL rfl (cm [(440,qc0)]),aa.foL ay,bf⟩
def U5 (t q:List QV):List QV:=if Yu q=0 then t else q.map fun x=>Zo (Zr x / Yu q)
def Wb (k:Nat):Nat→List QV→List QV→List QV
 | 0,t,_=>t
 | m+1,t,q=>U5 (t.take k) (q.take k)++Wb k m (t.drop k) (q.drop k)
theorem Z95 {t q:List QV} (h:t.length=q.length):(U5 t q).length=t.length:=by
 rw [U5];split
 ·rfl
 ·rw [aI,h]
section
variable {N B:Nat} (hr:Z9 N (8 * B+64)) {q:List QV} {k:Nat} (hk:1≤k) (hq:∀ x ∈ q,RV B x) (hql:q.length≤1048576)
include hr hk hq hql
theorem Zw9 {at0:Nat} (hat:at0+k≤q.length) (kk:List QV→Int→Option (List QV)) {S:Rat} (hS:S≠0) (hSq:qs S≤B) (A t:List QV) (hA:A.length=at0) (ht:k≤t.length):∀ (m u f:Nat),u+m=k→m<f→
  Zdn N q (k:Int) (at0:Int) kk (Zo S) f (A++((((q.drop at0).take k).take u).map (fun x=>Zo (Zr x / S))++t.drop u)) ((at0+u:Nat):Int)=kk (A++((((q.drop at0).take k).map fun x=>Zo (Zr x / S))++t.drop k)) ((at0+k:Nat):Int)
 | m,u,0,_,h=>by omega
 | 0,u,f+1,e,_=>by
  obtain rfl:u=k:=by omega
  rw [Zdn.eq_2,Zv (by omega),if_neg (dF (by omega)),Zhc,Zv (by omega),bP (l:=(q.drop at0).take u) (by rw [nK];omega),eB]
 | m+1,u,f+1,e,o=>by
  have d:at0+u<q.length:=by omega
  have g:((q.drop at0).take k).length=k:=by rw [nK,bI];omega
  have j:((q.drop at0).take k)[u]'(by omega)=q[at0+u]:=by rw [iI,iH]
  have n:Zbs N ((q[at0+u].1.1,q[at0+u].1.2),q[at0+u].2) (((Zo S).1.1,(Zo S).1.2),(Zo S).2)=some (Zo (Zr q[at0+u] / S),0):=by
   have:=Zvj (N:=N) (hq _ (aG d)) (Vo hSq) (hr.mono (by omega))
   rwa [Wt,if_neg hS] at this
  have a:((((q.drop at0).take k).take u).map (fun x=>Zo (Zr x / S))).length=u:=by rw [aI,nK];omega
  have b:Zm (A++((((q.drop at0).take k).take u).map (fun x=>Zo (Zr x / S))++t.drop u)) ((at0+u:Nat):Int)=some (t[u]'(by omega)):=by
   rw [Z1 (by simp only [nA,a,bI];omega),fY (by omega)]
   simp only [hA,gL]
   rw [fY (by omega)]
   simp only [a,fO,iH,bQ]
  have c:(A++((((q.drop at0).take k).take u).map (fun x=>Zo (Zr x / S))++t.drop u)).set (at0+u) (Zo (Zr q[at0+u] / S))=A++((((q.drop at0).take k).take (u+1)).map (fun x=>Zo (Zr x / S))++t.drop (u+1)):=by
   rw [gT _ _ (by omega),hA,gL,gT _ _ (by omega),a,fO,aK (l:=t) (i:=u) (by omega),List.set_cons_zero,kJ,aN (by omega),fJ,eE,List.map_singleton,j,bG]
   rfl
  rw [Zdn.eq_2,Zv (by omega),if_pos (dT (by omega)),Z1 d,oB,n,oB,b,oB,oB,aD]
  dsimp only
  rw [show (((Zo (Zr q[at0+u] / S)).1.1,(Zo (Zr q[at0+u] / S)).1.2),(Zo (Zr q[at0+u] / S)).2)=Zo (Zr q[at0+u] / S) from rfl,c,wS (by omega)]
  exact Zw9 hat kk hS hSq A t hA ht m (u+1) f (by omega) (by omega)
theorem Zw8 (hsq:∀ j,X6 ((q.drop (j * k)).take k)+1≤B):∀ (m j f:Nat) (A t:List QV),A.length=j * k→t.length=m * k→q.length=(j+m) * k→m<f→k<N→
  Sv N q (k:Int) f (A++t) ((j * k:Nat):Int)=some (A++Wb k m t (q.drop (j * k)))
 | m,j,0,_,_,_,_,_,h,_=>by omega
 | 0,j,f+1,A,t,g,c,i,_,_=>by
  rw [cT] at c
  rw [Sv.eq_2,if_neg (dF (by simp only [nA];omega)),Wb]
 | m+1,j,f+1,A,t,g,c,i,E,b=>by
  have u:(j+1) * k=j * k+k:=by rw [aZ,aX]
  have F:(j+(m+1)) * k=j * k+(m * k+k):=by rw [aZ,aZ,aX]
  rw [aZ,aX] at c
  have n:j * k+k≤q.length:=by omega
  obtain ⟨v,w⟩:=Zqi (N:=N) (l:=(q.drop (j * k)).take k) (fun a y=>let h:=hq a (cM (cR y));⟨h.m,h.d⟩) (hr.mono (by have:=hsq j;omega))
  have D:=hsq j
  have C:Ta N (((Zo (Yu ((q.drop (j * k)).take k))).1.1,(Zo (Yu ((q.drop (j * k)).take k))).1.2),(Zo (Yu ((q.drop (j * k)).take k))).2)=some (S1 (Yu ((q.drop (j * k)).take k))):=by
   have:=Zer (N:=N) (Vo w) (hr.mono (by omega))
   rwa [Wt] at this
  have o:(q.take (j * k+k)).drop (j * k)=(q.drop (j * k)).take k:=by rw [kZ,gL]
  have step:∀ R:List QV,R.length=k→R=U5 (t.take k) ((q.drop (j * k)).take k)→Sv N q (k:Int) f (A++(R++t.drop k)) ((j * k+k:Nat):Int)=some (A++Wb k (m+1) t (q.drop (j * k))):=fun R G p=>by
   have r:=Zw8 hsq m (j+1) f (A++R) (t.drop k) (by rw [nA];omega) (by rw [bI];omega) (by rw [i];congr 1;omega) (by omega) b
   rw [u,bG] at r
   rw [r,Wb,← p,dR,bG]
  rw [Sv.eq_2,if_pos (dT (by simp only [nA];omega)),Zv (by omega),Z6 (by omega),show aA (((j * k:Nat):Int)+(k:Int))=j * k+k by omega,aD,o,v,oB,C,oB]
  by_cases h0:Yu ((q.drop (j * k)).take k)=0
  ·have:=step (t.take k) (by rw [nK];omega) (by rw [U5,if_pos h0])
   rw [dM] at this
   rw [if_pos (dT (Zf1.2 h0)),Zhc,Zv (by omega)]
   exact this
  ·have s:=Zw9 hr hk hq hql n (Sv N q (k:Int) f) h0 (by omega) A t g (by omega) k 0 N (by omega) b
   rw [List.take_zero,bN,aV,aT,bQ] at s
   rw [if_neg (by rw [decide_eq_false fun e=>h0 (Zf1.1 e)];decide)]
   refine s.trans ?_
   exact step _ (by rw [aI,nK,bI];omega) (by rw [U5,if_neg h0])
theorem Zxa {R:Nat} {t:List QV} (ht:t.length=R * k) (hqR:q.length=R * k) (hsq:∀ j,X6 ((q.drop (j * k)).take k)+1≤B) (hkN:k<N) (hRN:R<N):Ze3 N t q (k:Int)=some (Wb k R t q):=by
 have:=Zw8 hr hk hq hql hsq R 0 N [] t (by rw [cT];rfl) ht (by rw [cW];exact hqR) hRN hkN
 rw [cT,aV,aV,aT] at this
 rw [Ze3]
 exact this
end
theorem Z6h:Wv prog 3 1 8:=⟨Tryz.t3,_,rfl,rfl,rfl,rfl,rfl⟩
def Qq (aa:List Int):Option R2:=
  Z2 ((([]:List Int).length+aa.length) * 8≤140737488355328∧([]:List Int).length+aa.length≤maxLen) (some (([]:List Int)++aa))
theorem Zjd {ad:Nat} {a0:Option Addr} {col:Ze} {w0:World} {ac r:R2} (c1:Nat) (hm:Qq ac=some r) (h0:Sl (Za.int .i64) col w0 a0 ad ac):
    Calls prog 61 #[.slice a0 ac.length ad] w0 (fun e w'=>∃ (col':Ze) (ra1:Option Addr) (rc2:Nat),e= .returned ((.slice ra1 r.length rc2))∧Zh col w0 col' w'∧Zb (Za.int .i64) 3 c1 col' w' ra1 rc2 r):=by
 refine Xl 2 (m:=8) func61 rfl rfl rfl rfl rfl ?_;rw [Qq.eq_1] at hm;have aa:=St.start col w0;refine go ?_;replace h0:=h0.keep (Zi.start col w0);rcases Zrg h0 with ab | ab
 ·replace hm:some ([]:List Int)=some r:=by have h0:=ab.2;subst h0;simpa [Z2,maxLen] using hm
  refine lv (v:=.bool a0.isNone) rfl rfl (Zir underlying33 rfl)<|.ld (d:=4) (v:=.bool true) (congrArg Value.bool ab.1)<|Zl<|X3 rfl<|go ?_;cases hm;exact ⟨rfl,_,none,0,rfl,aa.fin (cm []),Zb.nil⟩
 refine lv (v:=.bool a0.isNone) rfl rfl (Zir underlying33 rfl)<|.ld (d:=4) (v:=.bool false) (congrArg Value.bool ab)<|Zl<|X2 rfl<|go ?_;refine Zqr (col:=(Zk col)) (r:=(Za.int .i64)) 1 rfl underlying33 Z6h rfl ?_;intro aj ak al ae af;refine Y2 rfl ?_;obtain ⟨ag,hm⟩:=Z8 hm;replace h0:=h0.gr ae;refine V1 af h0.srcC ag ?_;intro am an ao ap ah ai;refine go ?_;cases hm;replace aa:=(aa.grow ae).kpp ah;exact ⟨rfl,_,_,_,rfl,aa.fin (cm [(1,c1)]),aa.fo ai⟩
def Zcg:List Int→Int→Option Rc
  | [],aa=>some (aa,0)
  | ab :: ac,aa=>Z2 (aa≠0) (if (decide ((i64.wrap (bJ 2147483647 aa))<ab))=true then (some (0,4)) else ((Zcg ac) (i64.wrap (aa * ab))))
termination_by structural x=>x
def Zk0 (kk_L1:(Bool→Option Rc)) (aa:Bool):Option Rc:=
  kk_L1 aa
def Zbh (aa:List Int):List Int→Bool→Option Rc
  | [],ab=>if ab=true then (some (0,0)) else (Zcg aa 1)
  | ac :: ad,ab=>if (decide (ac<0))=true then (some (0,3)) else (if ab=true then (Zk0 (Zbh aa ad) true) else (Zk0 (Zbh aa ad) (decide (ac=0))))
termination_by structural x=>x
def Zkz (aa:List Int):Option Rc:=
  Zbh aa aa false
theorem Z4v {ai:Nat} {a0:Option Addr} {col:Ze} {w0:World} {ab:R2} {r:Rc} (hm:Zkz ab=some r) (h0:Sl (Za.int .i64) col w0 a0 ai ab):
    Calls prog 137 #[.slice a0 ab.length ai] w0 (fun e w'=>e= .returned (.tuple #[.int .i64 r.1,.int .i64 r.2])∧Below w0.heap.size w0 w'):=by
 refine Zje 2 3 (m:=40) (args:=[.slice a0 ab.length ai]) func137 rfl rfl rfl rfl rfl ?_;rw [Zkz.eq_1] at hm;have aa:=St.start col w0;refine go ?_;refine Z4 [0,10,11,1000000] (fun n f am=>∃ an ad aj ae,n=ae.length∧ab.drop ad=ae∧Zbh ab ae aj=some r∧St w0 (Zk col) an am∧[12,4].map f=[.int .i64 ad,.bool aj]) ab.length ⟨_,0,_,_,rfl,rfl,hm,aa,rfl⟩ ?_;clear hm;intro n f am hI;obtain ⟨an,ad,aj,ae,hn,hl,hm,aa,hs⟩:=hI;subst hn;refine .lL [12,4] hs ?_;replace h0:=h0.keep (Zi.start col w0)
 cases ae with
 | nil=>
  have hk:¬ ((ad:Int)<(ab.length:Int)):=by have:=aH.1 hl;omega
  have hkb:=decide_eq_false hk;rw [Zbh.eq_1] at hm;refine go ?_;refine X2 (congrArg Value.bool hkb)<|go ?_;refine Zq hm (fun hb hm=>go ?_) fun hb hm=>go ?_
  ·cases hm;exact ⟨rfl,rfl,aa.below⟩
  refine Z4 [25,26,1000000] (fun n f ao=>∃ ap af ag ah,n=ah.length∧ab.drop af=ah∧Zcg ah ag=some r∧St w0 (Zk col) ap ao∧[27,7].map f=[.int .i64 af,.int .i64 ag]) ab.length ⟨_,0,1,_,rfl,rfl,hm,aa,rfl⟩ ?_;clear hm;intro n f ao hI;obtain ⟨ap,af,ag,ah,hn,hl,hm,aa,hs⟩:=hI;subst hn;refine .lL [27,7] hs ?_
  cases ah with
  | nil=>
   have hk:¬ ((af:Int)<(ab.length:Int)):=by have:=aH.1 hl;omega
   have hkb:=decide_eq_false hk;rw [Zcg.eq_1] at hm;refine go ?_;refine X2 (congrArg Value.bool hkb)<|go ?_;cases hm;exact ⟨rfl,rfl,aa.below⟩
  | cons a3 av=>
   obtain ⟨ac,aw,ax⟩:=Yd hl;have hk:(af:Int)<(ab.length:Int):=by omega
   have hkb:=decide_eq_true hk;rw [Zcg.eq_2] at hm;refine go ?_;refine X3 (congrArg Value.bool hkb)<|go ?_;refine lI ac ((h0.ks aa).addr ac)<|lW ((h0.ks aa).atInt ac) ?_;refine go ?_;obtain ⟨ay,hm⟩:=Z8 hm;refine lV (.int .i64 (i64.wrap (bJ 2147483647 ag))) (Qx 2147483647 ag rfl rfl ay)<|go ?_;refine Zq hm (fun hb hm=>go ?_) fun hb hm=>go ?_
   ·cases hm;exact ⟨rfl,rfl,aa.below⟩
   exact ⟨av.length,by simp,rfl,⟨_,_,_,_,rfl,aw,hm,aa,(Yg (congrArg (Value.int .i64) (Yb (aF ax (h0.ks aa).1.1))) rfl)⟩⟩
 | cons az aq=>
  obtain ⟨ac,a1,a2⟩:=Yd hl;have hk:(ad:Int)<(ab.length:Int):=by omega
  have hkb:=decide_eq_true hk;rw [Zbh.eq_2] at hm;refine go ?_;refine X3 (congrArg Value.bool hkb)<|Yl<|Z0 ?_;refine Wp.cutK [0,10,11,12,1000000] (fun f ar=>∃ au ak,Zk0 (Zbh ab aq) ak=some r∧St w0 (Zk col) au ar∧[4].map f=[.bool ak]) ?_ ?_
  ·intro f ar hJ;obtain ⟨au,ak,hm,aa,hs⟩:=hJ;rw [Zk0.eq_1] at hm;refine .lL [4] hs<|go ?_;exact ⟨aq.length,by simp,rfl,⟨_,_,_,_,rfl,a1,hm,aa,(Yg (congrArg (Value.int .i64) (Yb (aF a2 (h0.ks aa).1.1))) rfl)⟩⟩
  refine go ?_;refine lI ac ((h0.ks aa).addr ac)<|lW ((h0.ks aa).atInt ac) ?_;refine go ?_;refine Zq hm (fun hb hm=>go ?_) fun hb hm=>go ?_
  ·cases hm;exact ⟨rfl,rfl,aa.below⟩
  refine Yt hm (fun al hm=>go ?_) fun al hm=>go ?_
  ·refine lV (.bool true) (Yf (congrArg Value.bool al) rfl)<|go ?_;exact ⟨rfl,_,_,hm,aa,rfl⟩
  refine lV (.bool (decide (az=0))) (X8 (congrArg Value.bool al) rfl)<|go ?_;exact ⟨rfl,_,_,hm,aa,rfl⟩
def Zd1 (N:Nat) (ab:List Int):Nat→Int→Option (List Rc)
  | 0,_=>none
  | ac+1,aa=>if (decide (0≤aa))=true then ((Zm ab aa).bind fun ad=>((Zd1 N ab ac) (i64.wrap (aa - 1))).bind fun ae=>some ((aa,ad) :: ae)) else (some [])
termination_by structural x=>x
def Znq (N:Nat) (aa:List Int):Option (List Rc):=
  Zd1 N aa N (i64.wrap ((aa.length:Int) - 1))
theorem Z4y (N:Nat) (col:Ze) (w0:World) (g0:Nat) (af0:Option Addr) (capf0:Nat) (ab:List Int) (hf0:Sl (Za.int .i64) col w0 af0 capf0 ab) (hb0:Zf 33 450 col w0 g0 #[.slice af0 ab.length capf0]) (r:List Rc) (hm:Znq N ab=some r):
    Zi4 prog 1 215 [.pointer (some ⟨g0,0,none⟩)] (fun (y:Int×Int) (col:Ze) (w:World) (args:List Value)=>args=[.int .i64 y.1,.int .i64 y.2]) r col w0:=by
 intro l J X hjs hxs hy aa;refine Zcs (m:=19) (args:=[.func (.yield l) #[] #[],.pointer (some ⟨g0,0,none⟩)]) func215 rfl rfl rfl rfl ?_;rw [Znq.eq_1] at hm;refine go ?_;refine lW hb0.at1<|go ?_;refine Z4 [0,1,1000000] (fun n f ad=>∃ ae r af ac,ac=n∧Zd1 N ab ac af=some r∧J r ae ad∧Sl (Za.int .i64) ae ad af0 capf0 ab∧Zf 33 450 ae ad g0 #[.slice af0 ab.length capf0]∧[3].map f=[.int .i64 af]) N ⟨_,_,_,_,rfl,hm,aa,hf0,hb0,rfl⟩ ?_;clear hm;intro n f ad hI;obtain ⟨ae,r,af,ac,hn,hm,aa,hf0,hb0,hs⟩:=hI;subst hn;refine .lL [3] hs ?_
 cases ac with
 | zero=>rw [Zd1.eq_1] at hm;cases hm
 | succ ac=>
  rw [Zd1.eq_2] at hm;refine go ?_;refine Zq hm (fun hb hm=>go ?_) fun hb hm=>go ?_
  ·refine lM (.func (.yield l) #[] #[])<|X1 rfl<|lW hb0.at1<|X1 rfl ?_;obtain ⟨ai,ag,hm⟩:=bZ hm;refine lI ag (hf0.addr ag)<|lW (hf0.atInt ag) ?_;obtain ⟨ak,hc_8m,aj⟩:=bZ hm;cases aj;have hm:=hc_8m;refine ly2 rfl rfl rfl rfl (hy _ _ _ _ [.int .i64 af,.int .i64 ai] aa rfl) ?_;rintro _ al ⟨am,ah,⟨rfl,hJ⟩ | ⟨rfl,hX⟩⟩
   ·refine ⟨_,rfl,?_⟩;have aa:=hJ;refine go ?_;refine X2 rfl<|go ?_;replace hf0:=hf0.kpp ah;replace hb0:=hb0.kpp ah;exact ⟨ac,by omega,rfl,⟨_,_,_,_,rfl,hm,aa,hf0,hb0,rfl⟩⟩
   refine ⟨_,rfl,?_⟩;have aa:=hX;refine go ?_;refine X3 rfl<|Vv ?_;exact ⟨rfl,⟨_,rfl⟩,_,.inr aa⟩
  cases hm;exact ⟨rfl,⟨_,rfl⟩,_,.inl aa⟩
def Znp (N:Nat) (aa:List Int):Option (List Rc):=
  Znq N aa
theorem Z4x {N ac:Nat} {a0:Option Addr} {col:Ze} {w0:World} {aa:R2} {r:(List Rc)} (hm:Znp N aa=some r) (h0:Sl (Za.int .i64) col w0 a0 ac aa):
    Calls prog 186 #[.slice a0 aa.length ac] w0 (fun e w'=>∃ (col':Ze) (rv1:Value),e= .returned (rv1)∧Zh col w0 col' w'∧It prog 1 rv1 (fun (y:Int×Int) (col:Ze) (w:World) (args:List Value)=>args=[.int .i64 y.1,.int .i64 y.2]) r q0 col' w'):=by
 refine Xl 2 (m:=4) func186 rfl rfl rfl rfl rfl ?_;rw [Znp.eq_1] at hm;have ab:=St.start col w0;refine go ?_;refine Zc0 (col:=(Zk col)) (v:=(.slice a0 aa.length ac)) 1 rfl rfl ?_;intro ad ai ag aj ae;replace ae:Zf 33 1 ag ai ad #[.slice a0 aa.length ac]:=ae;refine lv (v:=_) rfl rfl (Sg rfl)<|go ?_;refine lV (.func (.func 215) #[] #[.pointer (some ⟨ad,0,none⟩)]) (Z86 rfl)<|lA (.func (.func 215) #[] #[.pointer (some ⟨ad,0,none⟩)])<|go ?_;replace ab:=ab.grow aj;have af:=ab.finBox (G:=(fun n=>bif aJ n 1 then 450 else 0)) ae (by decide) (by decide) (show (fun n=>bif aJ n 1 then 450 else 0) 1=450 from rfl);replace h0:=h0.keep (Zi.start col w0);have h0f:=ab.finSl (g:=(fun n=>bif aJ n 1 then 450 else 0)) rfl (h0.ks ab);refine ⟨rfl,Vz w0.heap.size col ag (fun n=>bif aJ n 1 then 450 else 0),_,rfl,ab.fin (fun n=>bif aJ n 1 then 450 else 0),215,[.pointer (some ⟨ad,0,none⟩)],rfl,call215,?_⟩;intro col9 w9 ah hk9;replace af:=af.itk ah hk9 rfl;replace h0f:=h0f.itk ah hk9 rfl;exact Z4y N col9 w9 ad a0 ac aa h0f af r hm
def Zd0:List Rc→Int→R2→Option R2
  | [],ac,ab=>some ab
  | aa :: ad,ac,ab=>Z2 (aa.2≠0) ((Zm ab aa.1).bind fun af=>(some (ab.set (aA aa.1) (cG ac aa.2))).bind fun ae=>Z2 (aa.2≠0) ((Zd0 ad) (i64.wrap (bJ ac aa.2)) ae))
termination_by structural x=>x
def Zk1 (N:Nat) (aa:List Int) (ab:Int):Option R2:=
  if (decide ((aa.length:Int)=0))=true then (some ([]:List Int)) else (Z2 (aa.length * 8≤281474976710656∧aa.length≤maxLen) ((Znp N aa).bind fun ac=>Zd0 ac ab (aM aa.length (0:Int))))
theorem Z4w {N a1:Nat} {a0:Option Addr} {col:Ze} {w0:World} {ag:R2} {am:Int} {r:R2} (c1:Nat) (hm:Zk1 N ag am=some r) (h0:Sl (Za.int .i64) col w0 a0 a1 ag):
    Calls prog 140 #[.slice a0 ag.length a1,.int .i64 am] w0 (fun e w'=>∃ (col':Ze) (ra1:Option Addr) (rc2:Nat),e= .returned ((.slice ra1 r.length rc2))∧Zh col w0 col' w'∧Zb (Za.int .i64) 3 c1 col' w' ra1 rc2 r):=by
 refine Z5f 4 (mc:=499) (m:=28) (args:=[.slice a0 ag.length a1,.int .i64 am]) func140 rfl rfl rfl rfl rfl ?_;rw [Zk1.eq_1] at hm;have aa:=St.start col w0;replace h0:=h0.keep (Zi.start col w0);have hmk:Yy 499 (Zk col) w0 []:=.nil;refine go ?_;refine Zc0 (col:=(Zk col)) (v:=(.int .i64 am)) 1 rfl rfl ?_;intro a2 a9 a3 ba ac;replace ac:Zf 3 1 a3 a9 a2 #[.int .i64 am]:=ac;refine go ?_;replace hmk:=hmk.gr ba;replace aa:=aa.grow ba;refine Zq hm (fun hb hm=>go ?_) fun hb hm=>go ?_
 ·cases hm;refine ⟨_,[],rfl,hmk,?_⟩;intro bz bh bi;replace aa:=aa.kp bh bi;exact ⟨Vz w0.heap.size col a3 (fun n=>0),none,0,rfl,aa.fin (fun n=>0),Zb.nil⟩
 obtain ⟨bb,hm⟩:=Z8 hm;refine Q3 (col:=a3) (w:=a9) (r:=(Za.int .i64)) (n:=ag.length) (x0:=0) 2 rfl underlying33 Tryz.t3 rfl rfl rfl rfl rfl rfl rfl bb.1 bb.2 (Zd9 .i64 0) ?_;intro a4 b0 bj a5 a6;refine Zav (col:=bj) (v:=(.slice none (([]:List Int).length) 0)) 3 rfl zeroValue33 ?_;intro ar bk bc au a7;replace a7:Zf 33 3 bc bk ar #[.slice none (([]:List Int).length) 0]:=a7;refine Sr (v:=(.slice a4 ((aM ag.length (0:Int)).length) ag.length)) a7 sizeOf33 rfl rfl (by intro u hu;simp only [Value.cells,aP,bL,or_false] at hu;subst hu;rfl) rfl rfl ?_;intro bm av bn ab;replace ab:Zf 33 3 bc bm ar #[.slice a4 ((aM ag.length (0:Int)).length) ag.length]:=ab;refine go ?_;obtain ⟨bo,bp,hm⟩:=bZ hm;replace aa:=((aa.grow a5).grow au).kp av bn;refine Zj (Z4x bp (h0.ks aa)) ?_;rintro _ b1 ⟨bq,b2,rfl,aq,br⟩;refine ⟨_,rfl,go ?_⟩;replace ac:=(((ac.gr a5).gr au).kp av).gr aq;replace hmk:=(((hmk.gr a5).gr au).kp av).gr aq;replace a6:=((a6.gr au).kp av).gr aq;replace ab:=ab.gr aq;replace aa:=aa.grow aq;refine Zo3 (psl:=[16,17]) (arr:=(fun (y:Int×Int) (col:Ze) (w:World) (args:List Value)=>args=[.int .i64 y.1,.int .i64 y.2])) (ys:=bo) (col:=bq) 498 rfl br rfl hmk rfl rfl (by rintro _ _ _ _ rfl;rfl) (fun ys_ ad al=>∃ (ae:Int) (ai:Option Addr) (aj:Nat) (ak:List Int),Zd0 ys_ ae ak=some r∧St w0 (Zk col) ad al∧Zf 3 1 ad al a2 #[.int .i64 ae]∧Zb (Za.int .i64) 3 2 ad al ai aj ak∧Zf 33 3 ad al ar #[.slice ai ak.length aj]) (fun _ _ _=>False) ?_ ?_ ⟨am,a4,ag.length,(aM ag.length (0:Int)),hm,aa,ac,a6,ab⟩ ?_ ?_ ?_
 ·intro ys_ ad al col2_ w2_ hJ hk;obtain ⟨ae,ai,aj,ak,hm,aa,ac,af,ab⟩:=hJ;exact ⟨ae,ai,aj,ak,hm,aa.kpp hk rfl rfl,ac.kpp hk rfl,af.kpp hk rfl rfl,ab.kpp hk rfl⟩
 ·intro _ _ _ _ _ h _;exact h
 ·intro b3 b4 b5 ah b6 ad al args hJ hrec hmk harr;obtain ⟨ae,ai,aj,ak,hm,aa,ac,af,ab⟩:=hJ;rw [Zd0.eq_2] at hm;have hki:=Zu.refl (pC 1) ad al;subst harr;refine go ?_;refine ⟨_,hrec,?_⟩;intro b7 b8 an bd hrec2;have hrec:=hrec2;refine go ?_;refine W7 (col:=ad) [(0,0),(1,1),(2,0),(3,1),(4,1),(5,1),(6,2)] (by kernel_rfl) (by kernel_rfl) ?_;replace ab:=ab.kp an;refine xW (fun _ hC=>ab.at1.gr (hC.bl ad)) ?_;refine xu rfl rfl (fun _=>Y4 rfl) ?_;replace ac:=ac.kp an;refine xW (fun _ hC=>ac.at1.gr (hC.bl ad)) ?_;refine xu rfl rfl (fun _=>Y4 rfl) ?_;obtain ⟨bs,hm⟩:=Z8 hm;refine xu (v:=(.int .i64 (cG ae ah.2))) rfl rfl (fun _=>Ziu ae ah.2 rfl rfl bs) ?_;obtain ⟨b9,aw,hm⟩:=bZ hm;replace af:=af.kp an;refine xu rfl rfl (fun _=>Y3 underlying33 sizeOf3 rfl rfl (Xe aw).1 (Xe aw).2.1 (af.addr aw)) ?_;refine xe rfl rfl ?_;intro ca hC0;have hC:=hC0.bl ad;obtain ⟨ax,ay,hm⟩:=bZ hm;have ay:ax=ak.set (aA ah.1) (cG ae ah.2):=(Option.some.inj ay).symm;replace af:=af.gr hC;refine Wr (x1:=cG ae ah.2) af aw ?_;intro bt ao be az;rw [← ay] at az;replace ab:=(ab.gr hC).kp ao;replace ab:Zf 33 3 ad bt ar #[.slice ai ax.length aj]:=by rw [← (show ak.length=ax.length by rw [ay,nS])];exact ab
  refine Zl<|xk ad<|Wi ?_;replace hmk:=((hmk.kp an).gr hC).kp ao;replace hki:=((hki.kp an bd rfl).gr hC).kp ao be rfl;replace aa:=((aa.kp an bd).grow hC).kp ao be;replace ac:=(ac.gr hC).kp ao;replace hrec:=(hrec.gr hC).kp ao;intro cb hC;replace hC:=hC.bl ad;refine Vd ?_;replace ac:=ac.gr hC;refine lW ac.at1<|X1 rfl ?_;obtain ⟨bu,hm⟩:=Z8 hm;refine lV (.int .i64 (i64.wrap (bJ ae ah.2))) (Qx ae ah.2 rfl rfl bu)<|Sr (v:=(.int .i64 (i64.wrap (bJ ae ah.2)))) ac sizeOf3 rfl rfl (by intro u hu;simp only [Value.cells,aP,bL,or_false] at hu;subst hu;rfl) rfl rfl ?_;intro bv ap bf a8;replace a8:Zf 3 1 ad bv a2 #[.int .i64 (i64.wrap (bJ ae ah.2))]:=a8;refine Zl ?_;replace az:=(az.gr hC).kp ap;replace ab:=(ab.gr hC).kp ap;replace hrec:=(hrec.gr hC).kp ap;replace hmk:=(hmk.gr hC).kp ap;replace hki:=(hki.gr hC).kp ap bf rfl;replace aa:=(aa.grow hC).kp ap bf;exact ⟨_,hki,⟨(i64.wrap (bJ ae ah.2)),ai,aj,ax,hm,aa,a8,az,ab⟩,hrec,hmk⟩
 ·intro bw ad al hJ hmk;obtain ⟨ae,ai,aj,ak,hm,aa,ac,af,ab⟩:=hJ;rw [Zd0.eq_1] at hm;refine go ?_;refine lW ab.at1<|go ?_;cases hm;refine ⟨_,(bw :: []),rfl,hmk,?_⟩;intro cc bg bx;replace af:=af.kp bg;replace aa:=aa.kp bg bx;exact ⟨Vz w0.heap.size col ad (fun n=>bif aJ n 2 then c1 else 0),ai,aj,rfl,aa.fin (fun n=>bif aJ n 2 then c1 else 0),aa.finOwn (g:=(fun n=>bif aJ n 2 then c1 else 0)) rfl af (by decide) (by decide) rfl⟩
 intro _ _ _ _ h;exact h.elim
def Zdz (N:Nat) (ab:Int) (ac:List Int):Nat→Int→Option (List R7)
  | 0,_=>none
  | ad+1,aa=>if (decide (aa<ab))=true then ((Zk1 N ac aa).bind fun ae=>((Zdz N ab ac ad) (i64.wrap (aa+1))).bind fun af=>some ((aa,ae) :: af)) else (some [])
termination_by structural x=>x
def Zno (N:Nat) (aa:Int) (ab:List Int):Option (List R7):=
  Zdz N aa ab N 0
theorem Z4u (N:Nat) (cy:Nat) (col:Ze) (w0:World) (g0:Nat) (ah:Int) (hb0:Zf 3 450 col w0 g0 #[.int .i64 ah]) (g1:Nat) (af1:Option Addr) (capf1:Nat) (ad:List Int) (hf1:Zb (Za.int .i64) 3 450 col w0 af1 capf1 ad) (hb1:Zf 33 450 col w0 g1 #[.slice af1 ad.length capf1]) (r:List R7) (hm:Zno N ah ad=some r):
    Zi4 prog 1 139 [.pointer (some ⟨g0,0,none⟩),.pointer (some ⟨g1,0,none⟩)] (fun (y:Int×List Int) (col:Ze) (w:World) (args:List Value)=>∃ (a1:Option Addr) (ak:Nat),args=[.int .i64 y.1,.slice a1 y.2.length ak]∧Zb (Za.int .i64) 3 cy col w a1 ak y.2) r col w0:=by
 intro l J X hjs hxs hy aa;refine Zcs (m:=17) (args:=[.func (.yield l) #[] #[],.pointer (some ⟨g0,0,none⟩),.pointer (some ⟨g1,0,none⟩)]) func139 rfl rfl rfl rfl ?_;rw [Zno.eq_1] at hm;refine go ?_;refine lW hb0.at1<|go ?_;refine Z4 [0,2,5,1000000] (fun n f ae=>∃ ab r ai af,af=n∧Zdz N ah ad af ai=some r∧J r ab ae∧Zb (Za.int .i64) 3 450 ab ae af1 capf1 ad∧Zf 33 450 ab ae g1 #[.slice af1 ad.length capf1]∧Zf 3 450 ab ae g0 #[.int .i64 ah]∧[6].map f=[.int .i64 ai]) N ⟨_,_,0,_,rfl,hm,aa,hf1,hb1,hb0,rfl⟩ ?_;clear hm;intro n f ae hI;obtain ⟨ab,r,ai,af,hn,hm,aa,hf1,hb1,hb0,hs⟩:=hI;subst hn;refine .lL [6] hs ?_
 cases af with
 | zero=>rw [Zdz.eq_1] at hm;cases hm
 | succ af=>
  rw [Zdz.eq_2] at hm;refine go ?_;refine Zq hm (fun hb hm=>go ?_) fun hb hm=>go ?_
  ·refine lM (.func (.yield l) #[] #[])<|X1 rfl<|lW hb1.at1<|X1 rfl ?_;obtain ⟨an,ao,hm⟩:=bZ hm;refine Zj (Z4w 501 ao (hf1.toSlF (Zd.int .i64))) ?_;rintro _ ar ⟨ap,al,am,rfl,ac,ag⟩;refine ⟨_,rfl,?_⟩;replace ag:=ag.thaw (Z7 .i64) ac ((Fz.refl (col:=ab)).froz 450) (by decide);replace ac:=ac.thawR (col:=ab);generalize Xj ae.heap.size ab ap=au at *;replace hf1:=hf1.gr ac;replace hb1:=hb1.gr ac;replace hb0:=hb0.gr ac;replace aa:=hjs _ _ _ _ _ aa ac.toP;replace hf1:=hf1.recol 501 cy (by decide);replace ag:=ag.recolSelf cy (by decide);replace hb1:=hb1.recol 501 cy (by decide);replace hb0:=hb0.recol 501 cy (by decide);replace aa:=hjs _ _ _ _ _ aa ((Zu.refl _ _ _).recol 501 cy rfl);obtain ⟨av,hc_15m,aq⟩:=bZ hm;cases aq;have hm:=hc_15m;refine ly2 rfl rfl rfl rfl (hy _ _ _ _ [.int .i64 ai,.slice al an.length am] aa ⟨al,am,rfl,ag⟩) ?_;rintro _ aw ⟨ax,aj,⟨rfl,hJ⟩ | ⟨rfl,hX⟩⟩
   ·refine ⟨_,rfl,?_⟩;have aa:=hJ;refine go ?_;refine X2 rfl<|go ?_;replace hf1:=hf1.kpp aj;replace hb1:=hb1.kpp aj;replace hb0:=hb0.kpp aj;exact ⟨af,by omega,rfl,⟨_,_,_,_,rfl,hm,aa,hf1,hb1,hb0,rfl⟩⟩
   refine ⟨_,rfl,?_⟩;have aa:=hX;refine go ?_;refine X3 rfl<|Vv ?_;exact ⟨rfl,⟨_,rfl⟩,_,.inr aa⟩
  cases hm;exact ⟨rfl,⟨_,rfl⟩,_,.inl aa⟩
def Zky (N:Nat) (ab:List Int):Option (List R7):=
  (Qq ab).bind fun aa=>(Zkz aa).bind fun ac=>Zno N ac.1 aa
theorem Z4t {N ay:Nat} {a0:Option Addr} {col:Ze} {w0:World} {ai:R2} {r:(List R7)} (cy:Nat) (hm:Zky N ai=some r) (h0:Sl (Za.int .i64) col w0 a0 ay ai):
    Calls prog 60 #[.slice a0 ai.length ay] w0 (fun e w'=>∃ (col':Ze) (rv1:Value),e= .returned (rv1)∧Zh col w0 col' w'∧It prog 1 rv1 (fun (y:Int×List Int) (col:Ze) (w:World) (args:List Value)=>∃ (a1:Option Addr) (az:Nat),args=[.int .i64 y.1,.slice a1 y.2.length az]∧Zb (Za.int .i64) 3 cy col w a1 az y.2) r q1 col' w'):=by
 refine Xl 2 (m:=14) func60 rfl rfl rfl rfl rfl ?_;rw [Zky.eq_1] at hm;have aa:=St.start col w0;refine go ?_;refine lv (v:=_) rfl rfl (Sg rfl)<|go ?_;obtain ⟨aj,a5,hm⟩:=bZ hm;replace h0:=h0.keep (Zi.start col w0);refine Zj (Zjd 1 a5 (h0.ks aa)) ?_;rintro _ bf ⟨a6,ak,al,rfl,a7,ac⟩;refine ⟨_,rfl,?_⟩;refine Zav (col:=a6) (v:=(.slice none (([]:List Int).length) 0)) 2 rfl zeroValue33 ?_;intro ad a8 ag a2 am;replace am:Zf 33 2 ag a8 ad #[.slice none (([]:List Int).length) 0]:=am;refine Sr (v:=(.slice ak aj.length al)) am sizeOf33 rfl rfl (by intro u hu;simp only [Value.cells,aP,bL,or_false] at hu;subst hu;rfl) rfl rfl ?_;intro a3 a4 a9 ae;replace ae:Zf 33 2 ag a3 ad #[.slice ak aj.length al]:=ae;refine go ?_;refine lW ae.at1 ?_;obtain ⟨ab,ba,hm⟩:=bZ hm;replace ac:=(ac.gr a2).kp a4;refine Zj (Z4v ba (ac.toSlF (Zd.int .i64))) ?_;rintro _ bb ⟨rfl,ah⟩;refine ⟨_,rfl,?_⟩;replace ah:Zh ag a3 ag bb:=.of_below ah;refine lM (.tuple #[.int .i64 ab.1,.int .i64 ab.2])<|lV (.int .i64 ab.1) (Xx rfl rfl)<|lV (.int .i64 ab.2) (Xx rfl rfl)<|Zav (col:=ag) (v:=(.int .i64 0)) 3 rfl zeroValue3 ?_;intro af bc an ao ap;replace ap:Zf 3 3 an bc af #[.int .i64 0]:=ap;refine Sr (v:=(.int .i64 ab.1)) ap sizeOf3 rfl rfl (by intro u hu;simp only [Value.cells,aP,bL,or_false] at hu;subst hu;rfl) rfl rfl ?_;intro bd aq be ar;replace ar:Zf 3 3 an bd af #[.int .i64 ab.1]:=ar;refine go ?_;refine lV (.func (.func 139) #[] #[.pointer (some ⟨af,0,none⟩),.pointer (some ⟨ad,0,none⟩)]) (Zr7 rfl rfl)<|lA (.func (.func 139) #[] #[.pointer (some ⟨af,0,none⟩),.pointer (some ⟨ad,0,none⟩)])<|go ?_;replace aa:=(((((aa.grow a7).grow a2).kp a4 a9).grow ah).grow ao).kp aq be;have au:=aa.finBox (G:=(fun n=>bif aJ n 3 then 450 else bif aJ n 2 then 450 else bif aJ n 1 then 450 else 0)) ar (by decide) (by decide) (show (fun n=>bif aJ n 3 then 450 else bif aJ n 2 then 450 else bif aJ n 1 then 450 else 0) 3=450 from rfl);replace ae:=((ae.gr ah).gr ao).kp aq;have av:=aa.finBox (G:=(fun n=>bif aJ n 3 then 450 else bif aJ n 2 then 450 else bif aJ n 1 then 450 else 0)) ae (by decide) (by decide) (show (fun n=>bif aJ n 3 then 450 else bif aJ n 2 then 450 else bif aJ n 1 then 450 else 0) 2=450 from rfl);replace ac:=((ac.gr ah).gr ao).kp aq
 have aw:=aa.finOwn (g:=(fun n=>bif aJ n 3 then 450 else bif aJ n 2 then 450 else bif aJ n 1 then 450 else 0)) rfl ac (by decide) (by decide) (show (fun n=>bif aJ n 3 then 450 else bif aJ n 2 then 450 else bif aJ n 1 then 450 else 0) 1=450 from rfl);refine ⟨rfl,Vz w0.heap.size col an (fun n=>bif aJ n 3 then 450 else bif aJ n 2 then 450 else bif aJ n 1 then 450 else 0),_,rfl,aa.fin (fun n=>bif aJ n 3 then 450 else bif aJ n 2 then 450 else bif aJ n 1 then 450 else 0),139,[.pointer (some ⟨af,0,none⟩),.pointer (some ⟨ad,0,none⟩)],rfl,call139,?_⟩;intro col9 w9 ax hk9;replace au:=au.itk ax hk9 rfl;replace av:=av.itk ax hk9 rfl;replace aw:=aw.itk ax hk9 rfl (Z7 .i64);exact Z4u N cy col9 w9 af ab.1 au ad ak al aj aw av r hm
def Xw:List Nat→Nat
 | []=>1
 | s :: ss=>s * Xw ss
def Vq:List Nat→Nat→List Int
 | [],_=>[]
 | s :: ss,a=>((a / Xw ss:Nat):Int) :: Vq ss (a % Xw ss)
theorem Zrw:∀ ss:List Nat,(∀ s ∈ ss,0<s)→0<Xw ss
 | [],_=>by rw [Xw];decide
 | s :: ss,h=>Nat.mul_pos (h s aC) (Zrw ss fun x a=>h x (aB _ a))
theorem Zp5:∀ (ss:List Nat) (a:Nat),(Vq ss a).length=ss.length
 | [],_=>rfl
 | s :: ss,a=>by rw [Vq,nC,nC,Zp5 ss]
def W2 (ss:List Nat):List Int:=ss.map fun s:Nat=>(s:Int)
theorem Zjg {l:List Int} (h:l.length≤1099511627776):Qq l=some l:=by
 rw [Qq,Z6 (by simp only [nN,maxLen];omega),aV]
theorem Z0y:∀ (ss:List Nat) (c:Nat),0<c→(∀ s ∈ ss,0<s)→c * Xw ss≤65536→Zcg (W2 ss) (c:Int)=some (((c * Xw ss:Nat):Int),0)
 | [],c,_,_,_=>by rw [W2,bN,Zcg.eq_1,Xw,Nat.mul_one]
 | s :: ss,c,d,a,f=>by
  have g:=Zrw ss fun x b=>a x (aB _ b)
  have i:=a s aC
  rw [Xw,← Nat.mul_assoc] at f ⊢
  have k:c * s≤c * s * Xw ss:=eC _ g
  have e:bJ 2147483647 (c:Int)=((2147483647 / c:Nat):Int):=rfl
  have l:s≤2147483647 / c:=by
   rw [Nat.le_div_iff_mul_le d,cB];omega
  have m:2147483647 / c≤2147483647:=cU _ _
  have j:(c:Int) * (s:Int)=((c * s:Nat):Int):=(bU c s).symm
  rw [W2,aQ,Zcg.eq_2,Z6 (by omega),e,Zv (x:=((2147483647 / c:Nat):Int)) (by omega),if_neg (dF (by omega)),j,Zv (by omega)]
  exact Z0y ss (c * s) (Nat.mul_pos d i) (fun x b=>a x (aB _ b)) f
theorem Z0x (p:List Int):∀ (ss:List Nat),(∀ s ∈ ss,0<s)→Zbh p (W2 ss) false=Zcg p 1
 | [],_=>by rw [W2,bN,Zbh.eq_1,if_neg (by decide)]
 | s :: ss,a=>by
  have c:=a s aC
  rw [W2,aQ,Zbh.eq_2,if_neg (dF (by omega)),if_neg (by decide),Zk0,decide_eq_false (by omega)]
  exact Z0x p ss fun x b=>a x (aB _ b)
theorem Z90 {ss:List Nat} (hs:∀ s ∈ ss,0<s) (hb:Xw ss≤65536):Zkz (W2 ss)=some ((Xw ss:Int),0):=by
 have:=Z0y ss 1 (by decide) hs (by rw [aX];exact hb)
 rw [Zkz,Z0x _ ss hs,show (1:Int)=((1:Nat):Int) from rfl,this,aX]
def Zgf (ss:List Nat):Nat→List Rc
 | 0=>[]
 | k+1=>((k:Int),((ss.getD k 0:Nat):Int)) :: Zgf ss k
theorem Z17 {ss:List Nat} {k:Nat} (h:k<ss.length):Zm (W2 ss) (k:Int)=some ((ss.getD k 0:Nat):Int):=by
 rw [Zga,W2,cY,aN h,aE,aN h];rfl
theorem Z0w (N:Nat) (ss:List Nat) (hl:ss.length≤1099511627776):∀ (f k:Nat),k≤ss.length→k<f→Zd1 N (W2 ss) f ((k:Int) - 1)=some (Zgf ss k)
 | 0,k,_,h=>by omega
 | f+1,0,a,b=>by rw [Zd1.eq_2,if_neg (by decide)];rfl
 | f+1,k+1,a,b=>by
  rw [Zd1.eq_2,show ((k+1:Nat):Int) - 1=(k:Int) by omega,if_pos (dT (by omega)),Z17 (by omega),oB,Zv (by omega),Z0w N ss hl f k (by omega) (by omega),oB,Zgf]
theorem Z0z (ss:List Nat) (hs:∀ s ∈ ss,0<s) (a:Nat) (ha:a<4611686018427387904):∀ k,k≤ss.length→Zd0 (Zgf ss k) ((a / Xw (ss.drop k):Nat):Int) (aM k 0++Vq (ss.drop k) (a % Xw (ss.drop k)))=some (Vq ss (a % Xw ss))
 | 0,_=>by rw [Zgf,Zd0.eq_1,aT];rfl
 | k+1,l=>by
  have b:k<ss.length:=by omega
  have c:ss.drop k=ss.getD k 0 :: ss.drop (k+1):=by
   rw [aK b,aE,aN b];rfl
  have d:=Z0z ss hs a ha k (by omega)
  have m:0<ss.getD k 0:=by
   rw [aE,aN b]
   exact hs _ (aG b)
  rw [c,Xw,Vq,Nat.mod_mul_left_mod,cB,Nat.mod_mul_right_div_self,← Nat.div_div_eq_div_mul] at d
  have j:=cU a (Xw (ss.drop (k+1)))
  generalize a / Xw (ss.drop (k+1))=q at *
  generalize Vq (ss.drop (k+1)) (a % Xw (ss.drop (k+1)))=D at *
  have e:cG (q:Int) ((ss.getD k 0:Nat):Int)=((q % ss.getD k 0:Nat):Int):=rfl
  have f:bJ (q:Int) ((ss.getD k 0:Nat):Int)=((q / ss.getD k 0:Nat):Int):=rfl
  have n:q / ss.getD k 0≤q:=cU _ _
  have g:(aM (k+1) (0:Int)++D).set k ((q % ss.getD k 0:Nat):Int)=aM k 0++((q % ss.getD k 0:Nat):Int) :: D:=by
   rw [List.replicate_succ',bG,gT (i:=k) _ (by rw [bD];exact aY _),bD,fO];rfl
  generalize q / ss.getD k 0=z at *
  rw [Zgf,Zd0.eq_2,Z6 (by simp only;omega)]
  dsimp only
  rw [Z1 (by rw [nA,bD];omega),oB,e,f,aD,g,oB,Z6 (by omega),Zv (by omega)]
  exact d
theorem Z5y {N:Nat} {ss:List Nat} (hs:∀ s ∈ ss,0<s) (hl:ss.length≤1048576) (hN:1048577<N) {a:Nat} (ha:a<Xw ss) (hb:Xw ss≤65536):Zk1 N (W2 ss) (a:Int)=some (Vq ss a):=by
 have b:(W2 ss).length=ss.length:=by rw [W2,aI]
 rw [Zk1,b]
 by_cases h0:ss.length=0
 ·have:ss=[]:=List.eq_nil_of_length_eq_zero h0
  rw [if_pos (dT (by omega)),this,Vq]
 ·have c:=Z0w N ss (by omega) N ss.length (aY _) (by omega)
  have d:=Z0z ss hs a (by omega) ss.length (aY _)
  rw [List.drop_length,Xw,Nat.div_one,Vq,dD,Nat.mod_eq_of_lt ha] at d
  rw [if_neg (dF (by omega)),Z6 (by simp only [maxLen];omega),Znp,Znq,b,Zv (by omega),c,oB]
  exact d
def Zcz (ss:List Nat):Nat→Nat→List R7
 | _,0=>[]
 | k,m+1=>((k:Int),Vq ss k) :: Zcz ss (k+1) m
theorem Zzu {N:Nat} {ss:List Nat} (hs:∀ s ∈ ss,0<s) (hl:ss.length≤1048576) (hN:1048577<N) (hb:Xw ss≤65536):∀ (m k f:Nat),k+m=Xw ss→m<f→Zdz N (Xw ss:Int) (W2 ss) f (k:Int)=some (Zcz ss k m)
 | m,k,0,_,h=>by omega
 | 0,k,f+1,a,b=>by rw [Zdz.eq_2,if_neg (dF (by omega))];rfl
 | m+1,k,f+1,a,b=>by
  rw [Zdz.eq_2,if_pos (dT (by omega)),Z5y hs hl hN (by omega) hb,oB,wS (by omega),Zzu hs hl hN hb m (k+1) f (by omega) (by omega),oB,Zcz]
theorem Z9g {N:Nat} {ss:List Nat} (hs:∀ s ∈ ss,0<s) (hl:ss.length≤1048576) (hN:1048577<N) (hb:Xw ss≤65536):Zky N (W2 ss)=some (Zcz ss 0 (Xw ss)):=by
 have a:(W2 ss).length=ss.length:=by rw [W2,aI]
 rw [Zky,Zjg (by omega),oB,Z90 hs hb,oB,Zno]
 exact Zzu hs hl hN hb (Xw ss) 0 N (by omega) (by omega)
theorem Z5h {N W:Nat} {n:Zp} (hf:Xu N n) (hs:Ve n W) (hr:Z9 N (8 * W+40)) (hN:2000000<N):W1 N n=some 0:=by
 obtain ⟨l,b,k,m,o,q⟩:=hf.or
 have c:=hf.ev.v;have r:=hf.ev.p;have a:=hf.ev.t;have j:=hf.le
 have d:Ze5 (n.1,n.2.1,n.2.2.1,n.2.2.2.1,n.2.2.2.2)=some (Zbi n.2.1 n.2.2.1 n.2.1.length 0):=Zxw n c
 have e:Q5 N n.2.2.2.1=some 0:=by rw [Q5,b];rfl
 have f:=Zrb (N:=N) hs hf.ev n.2.2.2.2 0 (by simp) (by omega)
 have g:=Zq8 (N:=N) (n:=n) (W:=W) (hr.mono (by omega)) n.2.2.2.2 (fun t h=>⟨hs.tl t h,hs.tq t h,hs.lim t h⟩)
 have i:=Zrc (N:=N) hs hf.ev hf.sh hr (by omega) n.2.2.2.2 0 (by simp) (by omega)
 rw [W1,if_neg (by rw [decide_eq_true (by omega)];decide),if_neg (by rw [decide_eq_true (by omega)];decide),show (!decide ((n.2.2.2.2.length:Int)=(n.2.1.length:Int)))=false by rw [decide_eq_true (by omega)];rfl,Zbd,if_neg (show ¬ (false=true) by decide),if_neg (dF (by omega)),
  d,oB,hf.nm,if_neg (by decide),e,oB,if_neg (by decide),f,a,if_pos hf.sh,g,hf.en,if_neg (by decide),i,a,hf.su]
def Zdp:List R3→R2→Option R2
  | [],aa=>some aa
  | ab :: ac,aa=>Z2 ((aa.length+[(ab.length:Int)].length) * 8≤140737488355328∧aa.length+[(ab.length:Int)].length≤maxLen) ((Zdp ac) (aa++[(ab.length:Int)]))
termination_by structural x=>x
def Zjz (aa:R0):Option R2:=
  Zdp aa.2.2.1 ([]:List Int)
theorem Z3z {am an ao ap:Nat} {aq ar au av:Option Addr} {col:Ze} {w0:World} {aa:R0} {r:R2} (c1:Nat) (hm:Zjz aa=some r) (a9:Sl Za.str col w0 aq am aa.2.1) (ac:Sl (Za.slice Za.str) col w0 ar an aa.2.2.1) (ba:Sl (Za.slice (Za.int .i64)) col w0 au ao aa.2.2.2.1) (bb:Sl (Za.slice (Za.pair (Za.pair Za.bool (Za.slice (Za.int .u32))) (Za.slice (Za.int .u32)))) col w0 av ap aa.2.2.2.2):
    Calls prog 105 #[(.agg #[.string aa.1,.slice aq aa.2.1.length am,.slice ar aa.2.2.1.length an,.slice au aa.2.2.2.1.length ao,.slice av aa.2.2.2.2.length ap])] w0 (fun e w'=>∃ (col':Ze) (ra1:Option Addr) (rc2:Nat),e= .returned ((.slice ra1 r.length rc2))∧Zh col w0 col' w'∧Zb (Za.int .i64) 3 c1 col' w' ra1 rc2 r):=by
 refine Xl 2 (m:=20) func105 rfl rfl rfl rfl rfl ?_;rw [Zjz.eq_1] at hm;have ab:=St.start col w0;refine go ?_;refine Xs (col:=(Zk col)) 1 rfl ?_;intro bc bd be ax ay;refine go ?_;refine Xk ay ?_;refine go ?_;replace ab:=ab.grow ax;refine Z4 [7,8,1000000] (fun n f ai=>∃ af aj ak ag ad ae,n=ae.length∧aa.2.2.1.drop ad=ae∧Zdp ae ag=some r∧St w0 (Zk col) af ai∧Zb (Za.int .i64) 3 2 af ai aj ak ag∧[9,3].map f=[.int .i64 ad,.slice aj ag.length ak]) aa.2.2.1.length ⟨_,none,0,_,0,_,rfl,rfl,hm,ab,Zb.nil,rfl⟩ ?_;clear hm;intro n f ai hI;obtain ⟨af,aj,ak,ag,ad,ae,hn,hl,hm,ab,ah,hs⟩:=hI;subst hn;refine .lL [9,3] hs ?_;replace ac:=ac.keep (Zi.start col w0)
 cases ae with
 | nil=>
  have hk:¬ ((ad:Int)<(aa.2.2.1.length:Int)):=by have:=aH.1 hl;omega
  have hkb:=decide_eq_false hk;rw [Zdp.eq_1] at hm;refine go ?_;refine X2 (congrArg Value.bool hkb)<|go ?_;cases hm;exact ⟨rfl,_,_,_,rfl,ab.fin (cm [(2,c1)]),ab.fo ah⟩
 | cons az a0=>
  obtain ⟨al,a1,a2⟩:=Yd hl;have hk:(ad:Int)<(aa.2.2.1.length:Int):=by omega
  have hkb:=decide_eq_true hk;rw [Zdp.eq_2] at hm;refine go ?_;refine X3 (congrArg Value.bool hkb)<|go ?_;refine lI al ((ac.ks ab).addr al) ?_;obtain ⟨_,a3,a4⟩:=(ac.ks ab).atN al;obtain ⟨⟨bf,bg,rfl,bh⟩,_⟩:=a3;refine lW a4.one<|go ?_;refine V7 (col:=af) [(az.length:Int)] 3 ?_;intro bi bj bk aw a5;obtain ⟨a6,hm⟩:=Z8 hm;replace ah:=ah.gr aw;refine V1 ah (a5.srcN (NB.int (k:=.i64))) a6 ?_;intro bm bn bo bp a7 a8;refine go ?_;replace ab:=(ab.grow aw).kpp a7;exact ⟨a0.length,by simp,rfl,⟨_,_,_,_,_,_,rfl,a1,hm,ab,a8,(Yg (congrArg (Value.int .i64) (Yb (aF a2 (ac.ks ab).1.1))) rfl)⟩⟩
theorem Z6j:Wv prog 9 1 16:=⟨Tryz.t9,_,rfl,rfl,rfl,rfl,rfl⟩
def Zfv (aa:List ByteArray):Option R3:=
  Z2 ((([]:List ByteArray).length+aa.length) * 16≤140737488355328∧([]:List ByteArray).length+aa.length≤maxLen) (some (([]:List ByteArray)++aa))
theorem Zuf {ad:Nat} {a0:Option Addr} {col:Ze} {w0:World} {ac r:R3} (c1:Nat) (hm:Zfv ac=some r) (h0:Sl Za.str col w0 a0 ad ac):
    Calls prog 138 #[.slice a0 ac.length ad] w0 (fun e w'=>∃ (col':Ze) (ra1:Option Addr) (rc2:Nat),e= .returned ((.slice ra1 r.length rc2))∧Zh col w0 col' w'∧Zb Za.str 9 c1 col' w' ra1 rc2 r):=by
 refine Xl 2 (m:=8) func138 rfl rfl rfl rfl rfl ?_;rw [Zfv.eq_1] at hm;have aa:=St.start col w0;refine go ?_;replace h0:=h0.keep (Zi.start col w0);rcases Zrg h0 with ab | ab
 ·replace hm:some ([]:List ByteArray)=some r:=by have h0:=ab.2;subst h0;simpa [Z2,maxLen] using hm
  refine lv (v:=.bool a0.isNone) rfl rfl (Zir underlying22 rfl)<|.ld (d:=4) (v:=.bool true) (congrArg Value.bool ab.1)<|Zl<|X3 rfl<|go ?_;cases hm;exact ⟨rfl,_,none,0,rfl,aa.fin (cm []),Zb.nil⟩
 refine lv (v:=.bool a0.isNone) rfl rfl (Zir underlying22 rfl)<|.ld (d:=4) (v:=.bool false) (congrArg Value.bool ab)<|Zl<|X2 rfl<|go ?_;refine Zqr (col:=(Zk col)) (r:=Za.str) 1 rfl underlying22 Z6j rfl ?_;intro aj ak al ae af;refine Y2 rfl ?_;obtain ⟨ag,hm⟩:=Z8 hm;replace h0:=h0.gr ae;refine V1 af h0.srcC ag ?_;intro am an ao ap ah ai;refine go ?_;cases hm;replace aa:=(aa.grow ae).kpp ah;exact ⟨rfl,_,_,_,rfl,aa.fin (cm [(1,c1)]),aa.fo ai⟩
/-! a network whose lists are its own -/
def Yp (x:QV):QV:=Zo (Zr x)
def Wl (n:Zp):Zp:=(n.1,n.2.1,n.2.2.1,n.2.2.2.1,n.2.2.2.2.map (List.map Yp))
theorem Zp4 (x:QV):Zr (Yp x)=Zr x:=Wt _
theorem Z5u (T:List (List QV)) (v:Nat):(T.map (List.map Yp)).getD v []=(T.getD v []).map Yp:=by
 rw [aE,aE,cY]
 cases T[v]? with
 | none=>rfl
 | some t=>rfl
section
variable {N W K:Nat} {n:Zp} (hf:Xu N n) (hs:Ve n W) (hr:Z9 N (8 * K+40)) (hWK:1025 * (W+2)+4≤K) (hN:2000000<N)
include hf hs hr hWK hN
def W6 (n:Zp):List Nat:=n.2.2.1.map kC
omit hr hWK hf hN hs in
theorem Zwh:∀ (l:List R3) (out:List Int),out.length+l.length≤1048576→Zdp l out=some (out++W2 (l.map kC))
 | [],out,_=>by rw [Zdp.eq_1,bN,W2,bN,dD]
 | x :: l,out,h=>by
  rw [nC] at h
  rw [Zdp.eq_2,Z6 (by simp only [aL,maxLen];omega),Zwh l _ (by rw [nA,aL];omega),bG];rfl
end
def Zhd (aa:Nat) (kk_L2:(Nat→Option Int)) (ab:Bool):Option Int:=
  if ab=true then (some 71) else (kk_L2 (aa+1))
def Zbb (ab:R0) (kk_L1:(Option Int)):List Int→Nat→Option Int
  | [],aa=>kk_L1
  | ac :: ad,aa=>if (decide (ac<(-1)))=true then (Zhd aa (Zbb ab kk_L1 ad) true) else ((Zm ab.2.2.1 (aa:Int)).bind fun ae=>Zhd aa (Zbb ab kk_L1 ad) (decide ((ae.length:Int)≤ac)))
termination_by structural x=>x
def Zba (aa:R0):List R2→Option Int
  | []=>some 0
  | ab :: ac=>if (!decide ((ab.length:Int)=(aa.2.1.length:Int)))=true then (some 71) else (Zbb aa (Zba aa ac) ab 0)
termination_by structural x=>x
def Q8 (N:Nat) (aa:R0) (ac:R6):Option Int:=
  (W1 N (aa.1,aa.2.1,aa.2.2.1,aa.2.2.2.1,aa.2.2.2.2)).bind fun ab=>if (!decide (ab=0))=true then (some ab) else (Zba aa ac)
theorem Zpq {N ai aj ak al bc:Nat} {am an ao ap a1:Option Addr} {col:Ze} {w0:World} {aa:R0} {ae:R6} {r:Int} (hm:Q8 N aa ae=some r) (a2:Sl Za.str col w0 am ai aa.2.1) (aq:Sl (Za.slice Za.str) col w0 an aj aa.2.2.1) (a3:Sl (Za.slice (Za.int .i64)) col w0 ao ak aa.2.2.2.1) (a4:Sl (Za.slice (Za.pair (Za.pair Za.bool (Za.slice (Za.int .u32))) (Za.slice (Za.int .u32)))) col w0 ap al aa.2.2.2.2) (h1:Sl (Za.slice (Za.int .i64)) col w0 a1 bc ae):
    Calls prog 95 #[(.agg #[.string aa.1,.slice am aa.2.1.length ai,.slice an aa.2.2.1.length aj,.slice ao aa.2.2.2.1.length ak,.slice ap aa.2.2.2.2.length al]),.slice a1 ae.length bc] w0 (fun e w'=>e= .returned ((.int .i64 r))∧Below w0.heap.size w0 w'):=by
 refine Xl 4 (m:=48) func95 rfl rfl rfl rfl rfl ?_;rw [Q8.eq_1] at hm;have ab:=St.start col w0;refine go ?_;refine Xs (col:=(Zk col)) 1 rfl ?_;intro a5 bh bd bi ac;refine go ?_;refine lV _ (Xd isAgg27 sizeOf27 ac) ?_;obtain ⟨bw,bj,hm⟩:=bZ hm;replace a2:=a2.keep (Zi.start col w0);replace aq:=aq.keep (Zi.start col w0);replace a3:=a3.keep (Zi.start col w0);replace a4:=a4.keep (Zi.start col w0);replace ab:=ab.grow bi;refine Zj (Zjc bj (a2.ks ab) (aq.ks ab) (a3.ks ab) (a4.ks ab)) ?_;rintro _ bk ⟨rfl,aw⟩;refine ⟨_,rfl,?_⟩;replace aw:Zh bd bh bd bk:=.of_below aw;refine go ?_;replace h1:=h1.keep (Zi.start col w0);replace ac:=ac.gr aw;replace ab:=ab.grow aw;refine Zq hm (fun hb hm=>go ?_) fun hb hm=>go ?_
 ·cases hm;exact ⟨rfl,rfl,ab.below⟩
 refine Z4 [15,16,2,1000000] (fun n f a6=>∃ a7 ar au,n=au.length∧ae.drop ar=au∧Zba aa au=some r∧St w0 (Zk col) a7 a6∧Zf 27 1 a7 a6 a5 #[.string aa.1,.slice am aa.2.1.length ai,.slice an aa.2.2.1.length aj,.slice ao aa.2.2.2.1.length ak,.slice ap aa.2.2.2.2.length al]∧[17].map f=[.int .i64 ar]) ae.length ⟨_,0,_,rfl,rfl,hm,ab,ac,rfl⟩ ?_;clear hm;intro n f a6 hI;obtain ⟨a7,ar,au,hn,hl,hm,ab,ac,hs⟩:=hI;subst hn;refine .lL [17] hs ?_
 cases au with
 | nil=>
  have hk:¬ ((ar:Int)<(ae.length:Int)):=by have:=aH.1 hl;omega
  have hkb:=decide_eq_false hk;rw [Zba.eq_1] at hm;refine go ?_;refine X2 (congrArg Value.bool hkb)<|go ?_;cases hm;exact ⟨rfl,rfl,ab.below⟩
 | cons ah a8=>
  obtain ⟨af,bm,bn⟩:=Yd hl;have hk:(ar:Int)<(ae.length:Int):=by omega
  have hkb:=decide_eq_true hk;rw [Zba.eq_2] at hm;refine go ?_;refine X3 (congrArg Value.bool hkb)<|go ?_;refine lI af ((h1.ks ab).addr af) ?_;obtain ⟨_,bo,bp⟩:=(h1.ks ab).atN af;obtain ⟨⟨be,bf,rfl,ad⟩,_⟩:=bo;refine lW bp.one<|go ?_;refine Xk ac ?_;refine go ?_;refine Zq hm (fun hb hm=>go ?_) fun hb hm=>go ?_
  ·cases hm;exact ⟨rfl,rfl,ab.below⟩
  refine Z4 [15,16,17,2,27,28,1000000] (fun n f ax=>∃ ay ag av,n=av.length∧ah.drop ag=av∧Zbb aa (Zba aa a8) av ag=some r∧St w0 (Zk col) ay ax∧Zf 27 1 ay ax a5 #[.string aa.1,.slice am aa.2.1.length ai,.slice an aa.2.2.1.length aj,.slice ao aa.2.2.2.1.length ak,.slice ap aa.2.2.2.2.length al]∧Sl (Za.int .i64) ay ax be bf ah∧[29].map f=[.int .i64 ag]) ah.length ⟨_,0,_,rfl,rfl,hm,ab,ac,ad,rfl⟩ ?_;clear hm;intro n f ax hI;obtain ⟨ay,ag,av,hn,hl,hm,ab,ac,ad,hs⟩:=hI;subst hn;refine .lL [29] hs ?_
  cases av with
  | nil=>
   have hk:¬ ((ag:Int)<(ah.length:Int)):=by have:=aH.1 hl;omega
   have hkb:=decide_eq_false hk;rw [Zbb.eq_1] at hm;refine go ?_;refine X2 (congrArg Value.bool hkb)<|go ?_;exact ⟨a8.length,by simp,rfl,⟨_,_,_,rfl,bm,hm,ab,ac,(Yg (congrArg (Value.int .i64) (Yb (aF bn (h1.ks ab).1.1))) rfl)⟩⟩
  | cons bq bg=>
   obtain ⟨af,br,bs⟩:=Yd hl;have hk:(ag:Int)<(ah.length:Int):=by omega
   have hkb:=decide_eq_true hk;rw [Zbb.eq_2] at hm;refine go ?_;refine X3 (congrArg Value.bool hkb)<|go ?_;refine lI af (ad.addr af)<|lW (ad.atInt af)<|Y7 rfl<|Y7 rfl<|Zl<|Z0 ?_;refine Wp.cutK [15,16,17,2,27,28,29,1000000] (fun f az=>∃ a0 a9,Zhd ag (Zbb aa (Zba aa a8) bg) a9=some r∧St w0 (Zk col) a0 az∧Zf 27 1 a0 az a5 #[.string aa.1,.slice am aa.2.1.length ai,.slice an aa.2.2.1.length aj,.slice ao aa.2.2.2.1.length ak,.slice ap aa.2.2.2.2.length al]∧Sl (Za.int .i64) a0 az be bf ah∧[45].map f=[.bool a9]) ?_ ?_
   ·intro f az hJ;obtain ⟨a0,a9,hm,ab,ac,ad,hs⟩:=hJ;rw [Zhd.eq_1] at hm;refine .lL [45] hs ?_;refine Zq hm (fun hb hm=>go ?_) fun hb hm=>go ?_
    ·cases hm;exact ⟨rfl,rfl,ab.below⟩
    exact ⟨bg.length,by simp,rfl,⟨_,_,_,rfl,br,hm,ab,ac,ad,(Yg (congrArg (Value.int .i64) (Yb (aF bs ad.1.1))) rfl)⟩⟩
   refine go ?_;refine Yt hm (fun ba hm=>go ?_) fun ba hm=>go ?_
   ·refine lV (.bool true) (Yf (congrArg Value.bool ba) rfl)<|Zl ?_;exact ⟨rfl,_,_,hm,ab,ac,ad,rfl⟩
   refine Yk ⟨_,_,rfl⟩ ?_;refine go ?_;refine lW ((ac.atN).nth (q:=2) rfl)<|go ?_;obtain ⟨bt,bb,hm⟩:=bZ hm;refine lI bb ((aq.ks ab).addr bb) ?_;refine go ?_;obtain ⟨_,bu,bv⟩:=(aq.ks ab).atN bb;obtain ⟨⟨bx,bz,rfl,b0⟩,_⟩:=bu;refine lW bv.one<|go ?_;refine lV (.bool (decide ((bt.length:Int)≤bq))) (X8 (congrArg Value.bool ba) rfl)<|Zl ?_;exact ⟨rfl,_,_,hm,ab,ac,ad,rfl⟩

end Go.Proofs.YtkhnlgdenkikoaaGreat
