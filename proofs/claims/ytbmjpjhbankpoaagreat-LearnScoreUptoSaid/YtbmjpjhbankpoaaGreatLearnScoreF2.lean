/-
  What functions of the program compute, as plain Lean functions (m_..), and proofs that they compute it (c_..). Printed by a program of the author; no conditions.
-/
import Derived.Test.YtbmjpjhbankpoaaGreatLearnScoreBFloat
import Derived.Test.YtbmjpjhbankpoaaGreatProg
import Derived.Test.YtbmjpjhbankpoaaGreatLearnScoreBBrief
import Derived.Test.YtbmjpjhbankpoaaGreatLearnScoreF1
set_option linter.unusedVariables false
set_option maxRecDepth 100000
set_option maxHeartbeats 2000000
namespace Go.Proofs.YtbmjpjhbankpoaaGreat
open Go Go.RowKit
open Go.IntKind (i8 i16 i32 i64 u8 u16 u32 u64)
open Go.Proofs.Tryz

def Zfj (N:Nat) (aa:R2) (ab:R2):Option Int:=
  (Tq N ((ab.1.1,ab.1.2),ab.2)).bind fun ae=>(Zbi N (aa.1.1,aa.1.2) ae).bind fun ac=>(Tq N ((aa.1.1,aa.1.2),aa.2)).bind fun af=>(Zbi N (ab.1.1,ab.1.2) af).bind fun ad=>(Zje N (ac.1,ac.2) (ad.1,ad.2)).bind fun ag=>some ag
theorem Zpi {N ap a0 aq a1:Nat} {ar a2 au a3:Option Addr} {col:Ze} {w0:World} {ac ad:R2} {r:Int} (hm:Zfj N ac ad=some r) (al:Sl (Za.int .u32) col w0 ar ap ac.1.2) (av:Sl (Za.int .u32) col w0 a2 a0 ac.2) (am:Sl (Za.int .u32) col w0 au aq ad.1.2) (aw:Sl (Za.int .u32) col w0 a3 a1 ad.2):
    Calls prog 71 #[(.agg #[.bool ac.1.1,.slice ar ac.1.2.length ap,.slice a2 ac.2.length a0]),(.agg #[.bool ad.1.1,.slice au ad.1.2.length aq,.slice a3 ad.2.length a1])] w0 (fun e w'=>e= .returned ((.int .i64 r))∧Below w0.heap.size w0 w'):=by
 refine Z1 4 (m:=16) func71 rfl rfl rfl rfl rfl ?_;rw [Zfj.eq_1] at hm;have aa:=St.start col w0;refine go ?_;refine Xe (col:=(Zg col)) 1 rfl ?_;intro bm bn a8 a9 an;refine Xe (col:=a8) 2 rfl ?_;intro bo bp ae a4 a5;refine go ?_;refine W9 (col:=ae) [(0,1),(1,0),(2,0),(5,1),(6,0),(7,0),(3,3),(4,3),(8,3),(9,3),(10,3),(11,1)] (by kernel_rfl) (by kernel_rfl)<|xF ⟨_,_,rfl⟩ ?_;replace an:=an.gr a4;refine xv (v:=(.agg #[.bool ac.1.1,.slice ar ac.1.2.length ap])) rfl rfl (fun _ hC=>Y1 isAgg45 sizeOf45 rfl rfl (((an.atN).part 0 2 _ rfl).gr (hC.bl ae))) ?_;refine xv rfl rfl (fun _ hC=>Xd isAgg47 sizeOf47 (a5.gr (hC.bl ae))) ?_;refine xF ⟨_,_,rfl⟩ ?_;refine xv (v:=(.agg #[.bool ad.1.1,.slice au ad.1.2.length aq])) rfl rfl (fun _ hC=>Y1 isAgg45 sizeOf45 rfl rfl (((a5.atN).part 0 2 _ rfl).gr (hC.bl ae))) ?_;refine xv rfl rfl (fun _ hC=>Xd isAgg47 sizeOf47 (an.gr (hC.bl ae))) ?_;refine xe rfl rfl ?_;intro bq hC0;have hC:=hC0.bl ae;obtain ⟨br,ba,hm⟩:=bZ hm;replace am:=am.keep (Zh.start col w0);replace aw:=aw.keep (Zh.start col w0);replace aa:=((aa.grow a9).grow a4).grow hC;refine Zi (Za8 3 ba (am.ks aa) (aw.ks aa)) ?_;rintro _ bs ⟨ah,bt,bu,rfl,a6,ax⟩;refine ⟨_,rfl,?_⟩;refine Zo<|X1 ah hC0 a6<|xe rfl rfl ?_;intro bb hC0;have hC:=hC0.bl ah;obtain ⟨bv,bc,hm⟩:=bZ hm;replace al:=al.keep (Zh.start col w0);replace aa:=(aa.grow a6).grow hC;replace ax:=ax.gr hC;refine Zi (Zkf 4 bc ((al.ks aa).froz 3) (ax.toSlF (Zj.int .u32))) ?_;rintro _ bw ⟨bd,bx,bz,rfl,ai,ab⟩;refine ⟨_,rfl,?_⟩;replace av:=av.keep (Zh.start col w0);replace ab:=ab.thaw (Z2 .u32) ai ((Fz.refl (col:=ah)).froz 3) (by decide);replace ai:=ai.thawR (col:=ah);generalize Z7 bb.heap.size ah bd=a7 at *;refine Zo<|X1 a7 hC0 ai<|xe rfl rfl ?_;intro b0 hC0;have hC:=hC0.bl a7;obtain ⟨b1,be,hm⟩:=bZ hm;replace aa:=(aa.grow ai).grow hC;refine Zi (Za8 5 be (al.ks aa) (av.ks aa)) ?_;rintro _ b2 ⟨aj,b3,b4,rfl,ay,az⟩;refine ⟨_,rfl,?_⟩;refine Zo<|X1 aj hC0 ay<|xe rfl rfl ?_;intro bf hC0;replace ab:=(ab.gr hC).gr ay;have hC:=hC0.bl aj;obtain ⟨b5,bg,hm⟩:=bZ hm;replace aa:=(aa.grow ay).grow hC;replace az:=az.gr hC
 refine Zi (Zkf 6 bg ((am.ks aa).froz 5) (az.toSlF (Zj.int .u32))) ?_;rintro _ b6 ⟨bh,b7,b8,rfl,af,ak⟩;refine ⟨_,rfl,?_⟩;replace ak:=ak.thaw (Z2 .u32) af ((Fz.refl (col:=aj)).froz 5) (by decide);replace af:=af.thawR (col:=aj);generalize Z7 bf.heap.size aj bh=ag at *;refine Zo<|X1 ag hC0 af<|xe rfl rfl ?_;intro bi hC0;replace ab:=(ab.gr hC).gr af;have hC:=hC0.bl ag;obtain ⟨b9,bj,hm⟩:=bZ hm;replace ab:=ab.gr hC;replace ak:=ak.gr hC;refine Zi (Zzb bj ((ab.toSlF (Zj.int .u32)).froz 6) ((ak.froz 4 (by decide)).toSlF (Zj.int .u32))) ?_;rintro _ bk ⟨rfl,ao⟩;refine ⟨_,rfl,?_⟩;replace ao:Zf ag bi ag bk:=.of_below ao;refine Zo<|X1 ag hC0 ao<|xu rfl rfl (fun _=>Zty rfl) ?_;refine Wu ?_;replace aa:=((aa.grow af).grow hC).grow ao;intro ca hC;replace hC:=hC.bl ag;refine Wh ?_;cases hm;replace aa:=aa.grow hC;exact ⟨rfl,rfl,aa.below⟩
def Zbh (N:Nat):List R2→Bool→R1→R1→Option R2
  | [],aa,ab,ac=>some ((aa,ab),ac)
  | ad :: af,aa,ab,ac=>(Zh4 N ((aa,ab),ac) ((ad.1.1,ad.1.2),ad.2)).bind fun ae=>(Zbh N af) ae.1.1 ae.1.2 ae.2
termination_by structural x=>x
def Zh5 (N:Nat) (aa:R7):Option R2:=
  (So N 1).bind fun ab=>Zbh N aa false ([]:List Int) ab
theorem Zxh {N ba:Nat} {a0:Option Addr} {col:Ze} {w0:World} {af:R7} {r:R2} (c1 c2:Nat) (hm:Zh5 N af=some r) (h0:Sl (Za.pair (Za.pair Za.bool (Za.slice (Za.int .u32))) (Za.slice (Za.int .u32))) col w0 a0 ba af):
    Calls prog 69 #[.slice a0 af.length ba] w0 (fun e w'=>∃ (col':Ze) (ra1:Option Addr) (rc2:Nat) (ra4:Option Addr) (rc5:Nat),e= .returned ((.agg #[.bool r.1.1,.slice ra1 r.1.2.length rc2,.slice ra4 r.2.length rc5]))∧Zf col w0 col' w'∧Zc (Za.int .u32) 79 c1 col' w' ra1 rc2 r.1.2∧Zc (Za.int .u32) 79 c2 col' w' ra4 rc5 r.2):=by
 refine Yt (m:=19) func69 rfl rfl rfl ?_;rw [Zh5.eq_1] at hm;have aa:=St.start col w0;refine go ?_;refine Xs (col:=(Zg col)) #[.bool false,.slice none (([]:List Int).length) 0,.slice none (([]:List Int).length) 0] 1 zeroValue47 ?_;intro bc cb bd be ab;refine go ?_;obtain ⟨bf,bg,hm⟩:=bZ hm;refine Zi (Zcr (col:=bd) 2 bg) ?_;rintro _ cc ⟨bh,bi,bj,rfl,bb,aw⟩;refine ⟨_,rfl,?_⟩;refine lV (.agg #[.bool false,.slice none (([]:List Int).length) 0,.slice bi bf.length bj]) (Wl (l:=[_,_]) (qs:=[(0,2),(2,1)]) underlying47 zeroValue47 ⟨rfl,sizeOf45,rfl,sizeOf43,trivial⟩ rfl)<|Xs (col:=bh) #[.bool false,.slice none (([]:List Int).length) 0,.slice none (([]:List Int).length) 0] 3 zeroValue47 ?_;intro bk cd ce ax bm;refine Xa bm ?_;intro cf ay bn ac;refine go ?_;replace aa:=(((aa.grow be).grow bb).grow ax).kp ay bn;replace ab:=((ab.gr bb).gr ax).kp ay;replace aw:=(aw.gr ax).kp ay;refine Zu [2,3,8,9,1000000] (fun n f ak=>∃ ag an az a1 a2 aq a3 a4 ar ao,n=ao.length∧af.drop an=ao∧Zbh N ao az aq ar=some r∧St w0 (Zg col) ag ak∧Zk 47 1 ag ak bc #[.bool false,.slice none (([]:List Int).length) 0,.slice none (([]:List Int).length) 0]∧Zc (Za.int .u32) 79 4 ag ak a1 a2 aq∧Zc (Za.int .u32) 79 2 ag ak a3 a4 ar∧Zk 47 3 ag ak bk #[.bool az,.slice a1 aq.length a2,.slice a3 ar.length a4]∧[10].map f=[.int .i64 an]) af.length ⟨_,0,_,none,0,_,_,_,_,_,rfl,rfl,hm,aa,ab,Zc.nil,aw,ac,rfl⟩ ?_;clear hm;intro n f ak hI;obtain ⟨ag,an,az,a1,a2,aq,a3,a4,ar,ao,hn,hl,hm,aa,ab,al,am,ac,hs⟩:=hI;subst hn;refine .lL [10] hs ?_;replace h0:=h0.keep (Zh.start col w0)
 cases ao with
 | nil=>
  have hk:¬ ((an:Int)<(af.length:Int)):=by have:=List.drop_eq_nil_iff.1 hl;omega
  have hkb:=decide_eq_false hk;rw [Zbh.eq_1] at hm;refine go ?_;refine Yd (congrArg Value.bool hkb)<|go ?_;refine lV _ (Xd isAgg47 sizeOf47 ac)<|Xa ab ?_;intro cg a5 bo bp;refine go ?_;cases hm;replace al:=al.kp a5;replace am:=am.kp a5;replace aa:=aa.kp a5 bo;exact ⟨rfl,_,ra bp.atN,_,_,_,_,_,rfl,aa.fin (cm [(4,c1),(2,c2)]),aa.fo al,aa.fo am⟩
 | cons a6 bq=>
  obtain ⟨a7,br,bs⟩:=Yn hl;have hk:(an:Int)<(af.length:Int):=by omega
  have hkb:=decide_eq_true hk;rw [Zbh.eq_2] at hm;refine go ?_;refine Ye (congrArg Value.bool hkb)<|go ?_;refine lI a7 ((h0.ks aa).addr a7) ?_;obtain ⟨_,bt,bu⟩:=(h0.ks aa).atN a7;obtain ⟨_,_,rfl,bv,bw⟩:=W8 bt;obtain ⟨_,_,rfl,bx,bz⟩:=W8 bv;obtain ⟨rfl,_⟩:=bx;obtain ⟨⟨b0,b1,rfl,a8⟩,_⟩:=bz;obtain ⟨⟨b2,b3,rfl,a9⟩,_⟩:=bw;refine lV (.agg #[.bool a6.1.1,.slice b0 a6.1.2.length b1,.slice b2 a6.2.length b3]) (Y1 isAgg47 sizeOf47 rfl rfl bu)<|Xs (col:=ag) #[.bool false,.slice none (([]:List Int).length) 0,.slice none (([]:List Int).length) 0] 5 zeroValue47 ?_;intro ch ci au ah b4;refine Xa b4 ?_;intro b5 ai b6 b7;refine go ?_;replace ac:=(ac.gr ah).kp ai;refine lV _ (Xd isAgg47 sizeOf47 ac)<|lV _ (Xd isAgg47 sizeOf47 b7) ?_;obtain ⟨cj,b8,hm⟩:=bZ hm;replace al:=(al.gr ah).kp ai;replace am:=(am.gr ah).kp ai;replace a8:=(a8.gr ah).kp ai;replace a9:=(a9.gr ah).kp ai;refine Zi (Zxe 6 7 b8 ((al.toSlF (Zj.int .u32)).froz 2) ((am.froz 4 (by decide)).toSlF (Zj.int .u32)) ((a8.froz 4).froz 2) ((a9.froz 4).froz 2)) ?_;rintro _ ck ⟨b9,cl,cn,co,cp,rfl,aj,ad,ae⟩;refine ⟨_,rfl,?_⟩;replace ad:=ad.thaw (Z2 .u32) aj (((Fz.refl (col:=au)).froz 4).froz 2) (by decide);replace ae:=ae.thaw (Z2 .u32) aj (((Fz.refl (col:=au)).froz 4).froz 2) (by decide);replace aj:=aj.thawR (col:=au);generalize Z7 b5.heap.size au b9=cq at *;replace ac:=ac.gr aj;refine Xa ac ?_;intro cr av ca ap;refine go ?_;replace ad:=ad.kp av;replace ad:=ad.recolSelf 4 (by decide);replace ae:=ae.kp av;replace ae:=ae.recol 6 4 (by decide);replace ab:=(((ab.gr ah).kp ai).gr aj).kp av;replace ab:=ab.recol 6 4 (by decide);replace ap:=ap.recol 6 4 (by decide);replace aa:=(((aa.grow ah).kp ai b6).grow aj).kp av ca;replace aa:=aa.recol 6 4 (by decide) (by decide);replace ad:=ad.recol 7 2 (by decide);replace ae:=ae.recolSelf 2 (by decide);replace ab:=ab.recol 7 2 (by decide);replace ap:=ap.recol 7 2 (by decide);replace aa:=aa.recol 7 2 (by decide) (by decide);exact ⟨bq.length,by simp,rfl,⟨_,_,_,_,_,_,_,_,_,_,rfl,br,hm,aa,ab,ad,ae,ap,(Yq (congrArg (Value.int .i64) (Yj (Nat.lt_of_lt_of_le bs (h0.ks aa).1.1))) rfl)⟩⟩
def Zhc (N:Nat) (aa:Int):Option R3:=
  if (decide (aa<0))=true then ((So N (u64.wrap (-(u64.wrap aa)))).bind fun ad=>(Sy N true ad).bind fun ab=>some (ab.1,ab.2)) else ((So N (u64.wrap aa)).bind fun ae=>(Sy N false ae).bind fun ac=>some (ac.1,ac.2))
theorem Zp7 {N:Nat} {col:Ze} {w0:World} {ai:Int} {r:R3} (c1:Nat) (hm:Zhc N ai=some r):
    Calls prog 262 #[.int .i64 ai] w0 (fun e w'=>∃ (col':Ze) (ra1:Option Addr) (rc2:Nat),e= .returned ((.agg #[.bool r.1,.slice ra1 r.2.length rc2]))∧Zf col w0 col' w'∧Zc (Za.int .u32) 79 c1 col' w' ra1 rc2 r.2):=by
 refine Yt (m:=14) func262 rfl rfl rfl ?_;rw [Zhc.eq_1] at hm;have aa:=St.start col w0;refine go ?_;refine Xs (col:=(Zg col)) #[.bool false,.slice none (([]:List Int).length) 0] 1 zeroValue45 ?_;intro a5 a6 aj ao ab;refine go ?_;replace aa:=aa.grow ao;refine Zm hm (fun hb hm=>go ?_) fun hb hm=>go ?_
 ·obtain ⟨a7,ap,hm⟩:=bZ hm;refine Zi (Zcr (col:=aj) 2 ap) ?_;rintro _ aq ⟨ag,a8,a9,rfl,ak,ar⟩;refine ⟨_,rfl,?_⟩;obtain ⟨ba,au,hm⟩:=bZ hm;refine Zi (Zcu 3 au (ar.toSlF (Zj.int .u32))) ?_;rintro _ bb ⟨av,bc,bd,rfl,ac,ad⟩;refine ⟨_,rfl,?_⟩;replace ad:=ad.thaw (Z2 .u32) ac ((Fz.refl (col:=ag)).froz 2) (by decide);replace ac:=ac.thawR (col:=ag);generalize Z7 aq.heap.size ag av=be at *;replace ab:=(ab.gr ak).gr ac;refine Xa ab ?_;intro bf al aw ax;refine go ?_;cases hm;replace aa:=((aa.grow ak).grow ac).kp al aw;replace ad:=ad.kp al;exact ⟨rfl,_,ra ax.atN,_,_,_,rfl,aa.fin (cm [(3,c1)]),aa.fo ad⟩
 obtain ⟨bg,ay,hm⟩:=bZ hm;refine Zi (Zcr (col:=aj) 4 ay) ?_;rintro _ az ⟨ah,bh,bi,rfl,am,a0⟩;refine ⟨_,rfl,?_⟩;obtain ⟨bj,a1,hm⟩:=bZ hm;refine Zi (Zcu 5 a1 (a0.toSlF (Zj.int .u32))) ?_;rintro _ bk ⟨a2,bm,bn,rfl,ae,af⟩;refine ⟨_,rfl,?_⟩;replace af:=af.thaw (Z2 .u32) ae ((Fz.refl (col:=ah)).froz 4) (by decide);replace ae:=ae.thawR (col:=ah);generalize Z7 az.heap.size ah a2=bo at *;replace ab:=(ab.gr am).gr ae;refine Xa ab ?_;intro bp an a3 a4;refine go ?_;cases hm;replace aa:=((aa.grow am).grow ae).kp an a3;replace af:=af.kp an;exact ⟨rfl,_,ra a4.atN,_,_,_,rfl,aa.fin (cm [(5,c1)]),aa.fo af⟩
def Zfl (N:Nat) (ac:R3) (aa:R3):Option (R2×Int):=
  (Zcd N (aa.1,aa.2)).bind fun ad=>if (decide (ad=0))=true then (some (((false,([]:List Int)),([]:List Int)),11)) else ((Zc2 N (!decide (ac.1=aa.1)) ac.2 aa.2).bind fun ab=>some (((ab.1.1,ab.1.2),ab.2),0))
theorem Zpj {N an ao:Nat} {ap aq:Option Addr} {col:Ze} {w0:World} {ae af:R3} {r:(R2×Int)} (c1 c2:Nat) (hm:Zfl N ae af=some r) (ai:Sl (Za.int .u32) col w0 ap an ae.2) (ag:Sl (Za.int .u32) col w0 aq ao af.2):
    Calls prog 114 #[(.agg #[.bool ae.1,.slice ap ae.2.length an]),(.agg #[.bool af.1,.slice aq af.2.length ao])] w0 (fun e w'=>∃ (col':Ze) (ra1:Option Addr) (rc2:Nat) (ra4:Option Addr) (rc5:Nat),e= .returned (.tuple #[(.agg #[.bool r.1.1.1,.slice ra1 r.1.1.2.length rc2,.slice ra4 r.1.2.length rc5]),.int .i64 r.2])∧Zf col w0 col' w'∧Zc (Za.int .u32) 79 c1 col' w' ra1 rc2 r.1.1.2∧Zc (Za.int .u32) 79 c2 col' w' ra4 rc5 r.1.2):=by
 refine Yt (m:=20) func114 rfl rfl rfl ?_;rw [Zfl.eq_1] at hm;have aa:=St.start col w0;refine go ?_;refine Xe (col:=(Zg col)) 1 rfl ?_;intro a8 a9 aw ax ah;refine Xe (col:=aw) 2 rfl ?_;intro ba bb ay ar ab;refine Xs (col:=ay) #[.bool false,.slice none (([]:List Int).length) 0,.slice none (([]:List Int).length) 0] 3 zeroValue47 ?_;intro bc az au aj ac;refine go ?_;replace ab:=ab.gr aj;refine lV _ (Xd isAgg45 sizeOf45 ab) ?_;obtain ⟨bd,a0,hm⟩:=bZ hm;replace ag:=ag.keep (Zh.start col w0);replace aa:=((aa.grow ax).grow ar).grow aj;refine Zi (Zkm a0 (ag.ks aa)) ?_;rintro _ a1 ⟨rfl,ad⟩;refine ⟨_,rfl,?_⟩;replace ad:Zf au az au a1:=.of_below ad;refine go ?_;replace ai:=ai.keep (Zh.start col w0);replace ah:=((ah.gr ar).gr aj).gr ad;replace ab:=ab.gr ad;replace ac:=ac.gr ad;replace aa:=aa.grow ad;refine Zm hm (fun hb hm=>go ?_) fun hb hm=>go ?_
 ·refine lV (.agg #[.bool false,.slice none (([]:List Int).length) 0,.slice none (([]:List Int).length) 0]) (Wl (l:=[_,_]) (qs:=[(0,2),(2,1)]) underlying47 zeroValue47 ⟨rfl,sizeOf45,rfl,sizeOf43,trivial⟩ rfl)<|Xa ac ?_;intro be a2 a3 a4;refine go ?_;cases hm;replace aa:=aa.kp a2 a3;exact ⟨rfl,_,Za4 a4.atN,_,none,0,none,0,rfl,aa.fin (cm []),Zc.nil,Zc.nil⟩
 refine Z9 ah<|Z9 ab ?_;refine go ?_;refine Z9 ah<|Z9 ab ?_;obtain ⟨bf,a5,hm⟩:=bZ hm;refine Zi (Zm3 4 5 a5 (ai.ks aa) (ag.ks aa)) ?_;rintro _ bg ⟨bh,bi,bj,bk,bm,rfl,av,ak,al⟩;refine ⟨_,rfl,?_⟩;replace ac:=ac.gr av;refine Xa ac ?_;intro bn am a6 a7;refine go ?_;cases hm;replace aa:=(aa.grow av).kp am a6;replace ak:=ak.kp am;replace al:=al.kp am;exact ⟨rfl,_,Za4 a7.atN,_,_,_,_,_,rfl,aa.fin (cm [(4,c1),(5,c2)]),aa.fo ak,aa.fo al⟩
def Zfm (N:Nat) (ad:Int) (ae:Int):Option (R2×Int):=
  (Zhc N ad).bind fun ab=>(Zhc N ae).bind fun ac=>(Zfl N (ab.1,ab.2) (ac.1,ac.2)).bind fun aa=>some (((aa.1.1.1,aa.1.1.2),aa.1.2),aa.2)
theorem Zpk {N:Nat} {col:Ze} {w0:World} {ak al:Int} {r:(R2×Int)} (c1 c2:Nat) (hm:Zfm N ak al=some r):
    Calls prog 190 #[.int .i64 ak,.int .i64 al] w0 (fun e w'=>∃ (col':Ze) (ra1:Option Addr) (rc2:Nat) (ra4:Option Addr) (rc5:Nat),e= .returned (.tuple #[(.agg #[.bool r.1.1.1,.slice ra1 r.1.1.2.length rc2,.slice ra4 r.1.2.length rc5]),.int .i64 r.2])∧Zf col w0 col' w'∧Zc (Za.int .u32) 79 c1 col' w' ra1 rc2 r.1.1.2∧Zc (Za.int .u32) 79 c2 col' w' ra4 rc5 r.1.2):=by
 refine Yt (m:=13) func190 rfl rfl rfl ?_;rw [Zfm.eq_1] at hm;have ab:=St.start col w0;refine go ?_;refine Xs (col:=(Zg col)) #[.bool false,.slice none (([]:List Int).length) 0,.slice none (([]:List Int).length) 0] 1 zeroValue47 ?_;intro a4 a5 an ao ag;refine go ?_;obtain ⟨a6,ap,hm⟩:=bZ hm;refine Zi (Zp7 (col:=an) 2 ap) ?_;rintro _ a7 ⟨aq,a8,a9,rfl,am,ah⟩;refine ⟨_,rfl,?_⟩;refine Xn rfl ?_;obtain ⟨ba,ar,hm⟩:=bZ hm;refine Zi (Zp7 (col:=aq) 3 ar) ?_;rintro _ au ⟨ae,bb,bc,rfl,ai,av⟩;refine ⟨_,rfl,?_⟩;obtain ⟨af,aw,hm⟩:=bZ hm;replace ah:=ah.gr ai;refine Zi (Zpj 4 5 aw ((ah.toSlF (Zj.int .u32)).froz 3) ((av.froz 2 (by decide)).toSlF (Zj.int .u32))) ?_;rintro _ bd ⟨ax,ay,az,a0,a1,rfl,aa,ac,ad⟩;refine ⟨_,rfl,?_⟩;replace ac:=ac.thaw (Z2 .u32) aa (((Fz.refl (col:=ae)).froz 2).froz 3) (by decide);replace ad:=ad.thaw (Z2 .u32) aa (((Fz.refl (col:=ae)).froz 2).froz 3) (by decide);replace aa:=aa.thawR (col:=ae);generalize Z7 au.heap.size ae ax=be at *;refine lV (.agg #[.bool af.1.1.1,.slice ay af.1.1.2.length az,.slice a0 af.1.2.length a1]) (Xq rfl rfl)<|lV (.int .i64 af.2) (Xq rfl rfl) ?_;replace ag:=((ag.gr am).gr ai).gr aa;refine Xa ag ?_;intro bf aj a2 a3;refine go ?_;cases hm;replace ab:=((((ab.grow ao).grow am).grow ai).grow aa).kp aj a2;replace ac:=ac.kp aj;replace ad:=ad.kp aj;exact ⟨rfl,_,Za4 a3.atN,_,_,_,_,_,rfl,ab.fin (cm [(4,c1),(5,c2)]),ab.fo ac,ab.fo ad⟩
def Zfn (N:Nat) (aa:R2):Option Int:=
  (Zcd N (aa.1.1,aa.1.2)).bind fun ab=>some ab
theorem Zxg {N ac ag:Nat} {ad ah:Option Addr} {col:Ze} {w0:World} {aa:R2} {r:Int} (hm:Zfn N aa=some r) (ae:Sl (Za.int .u32) col w0 ad ac aa.1.2) (ao:Sl (Za.int .u32) col w0 ah ag aa.2):
    Calls prog 72 #[(.agg #[.bool aa.1.1,.slice ad aa.1.2.length ac,.slice ah aa.2.length ag])] w0 (fun e w'=>e= .returned ((.int .i64 r))∧Below w0.heap.size w0 w'):=by
 refine Z1 2 (m:=6) func72 rfl rfl rfl rfl rfl ?_;rw [Zfn.eq_1] at hm;have ab:=St.start col w0;refine go ?_;refine Xe (col:=(Zg col)) 1 rfl ?_;intro ap aj ai ak al;refine go ?_;refine Xv ⟨_,_,rfl⟩ ?_;refine lV (.agg #[.bool aa.1.1,.slice ad aa.1.2.length ac]) (Y1 isAgg45 sizeOf45 rfl rfl ((al.atN).part 0 2 _ rfl)) ?_;obtain ⟨aq,am,hm⟩:=bZ hm;replace ae:=ae.keep (Zh.start col w0);replace ab:=ab.grow ak;refine Zi (Zkm am (ae.ks ab)) ?_;rintro _ an ⟨rfl,af⟩;refine ⟨_,rfl,?_⟩;replace af:Zf ai aj ai an:=.of_below af;refine go ?_;cases hm;replace ab:=ab.grow af;exact ⟨rfl,rfl,ab.below⟩
theorem Zer {N k:Nat} {neg:Bool} {m:List Int} (hm:Zn m) (hk:m.length≤k) (hr:Z5 N k):Sy N neg m=some (Xf (Zr (neg,m))):=by
 obtain ⟨r1,r2⟩:=hr
 rw [Sy,Zn3 hm (by omega) (by omega),oB,Zjk]
 have e:decide (0<((Zd (Zb m)).length:Int))=decide (Zb m≠0):=by
  by_cases h:Zb m=0
  ·rw [h,Wg];decide
  ·have:=Sk h
   rw [decide_eq_true (by omega),decide_eq_true h]
 cases neg
 ·rw [if_neg (by decide),Zhd,Bool.false_and]
 ·rw [if_pos rfl,Zhd,e,Bool.true_and]
theorem Z3o {N k:Nat} {a:ZV} (hm:Zn a.2) (hk:a.2.length≤k) (hr:Z5 N k):Zjg N a=some (Xf (Zr a)):=by
 rw [Zjg,Zer hm hk hr];rfl
theorem Zmr {N k:Nat} {a:ZV} (hm:Zn a.2) (hk:a.2.length≤k) (hr:Z5 N k):Zcd N a=some (Zr a).sign:=by
 obtain ⟨r1,r2⟩:=hr
 rw [Zcd,Zw4 hm (by omega) (by omega),oB,Zr]
 by_cases h:Zb a.2=0
 ·rw [h,Zev,if_pos (by decide)];simp
 ·have h1:Z8 (Zb a.2)≠0:=by rw [Z8,if_neg h];omega
  rw [if_neg (dF (by omega))]
  by_cases h2:a.1=true
  ·rw [if_pos h2,if_pos h2,Int.sign_eq_neg_one_of_neg (by omega)]
  ·rw [if_neg h2,if_neg h2,Int.sign_eq_one_of_pos (by omega)]
theorem Zho {a b:ZV}:(a.1=b.1→Zr (a.1,Zd (Zb a.2+Zb b.2))=Zr a+Zr b)∧(a.1≠b.1→(Zb b.2≤Zb a.2→Zr (a.1,Zd (Zb a.2 - Zb b.2))=Zr a+Zr b)∧(Zb a.2<Zb b.2→Zr (b.1,Zd (Zb b.2 - Zb a.2))=Zr a+Zr b)):=by
 obtain ⟨s,x⟩:=a
 obtain ⟨t,y⟩:=b
 simp only [Zr,Zy]
 cases s <;> cases t <;> simp <;> (try constructor) <;> intros <;> omega
theorem Z3j {N k l:Nat} {a b:ZV} (ha:Zn a.2) (hb:Zn b.2) (hk:a.2.length≤k) (hl:b.2.length≤l) (hr:Z5 N (k+l+1)):Zjd N a b=some (Xf (Zr a+Zr b)):=by
 have hr':=hr
 obtain ⟨r1,r2⟩:=hr'
 have la:=X4 ha
 have lb:=X4 hb
 have lsum:(Zd (Zb a.2+Zb b.2)).length≤k+l+1:=Zky (by omega) (by omega)
 have ls1:(Zd (Zb a.2 - Zb b.2)).length≤k+l+1:=by have:=Wy (Nat.sub_le (Zb a.2) (Zb b.2));omega
 have ls2:(Zd (Zb b.2 - Zb a.2)).length≤k+l+1:=by have:=Wy (Nat.sub_le (Zb b.2) (Zb a.2));omega
 rw [Zjd]
 by_cases h:a.1=b.1
 ·rw [if_pos (dT h),Zwy ha hb (by omega) (by omega) (by omega) (by omega),oB,Zer (Zw _) lsum hr,oB,Zho.1 h]
 ·rw [if_neg (dF h),Zv4 ha hb (by omega) (by omega) (by omega) (by omega),oB]
  by_cases hlt:Zb a.2<Zb b.2
  ·rw [if_pos hlt,if_neg (by decide),Zv4 hb ha (by omega) (by omega) (by omega) (by omega),oB,if_neg (by omega),Zer (Zw _) ls2 hr,oB,(Zho.2 h).2 hlt]
  ·rw [if_neg hlt,if_pos rfl,Zer (Zw _) ls1 hr,oB,(Zho.2 h).1 (by omega)]
theorem Z3u (b:ZV):Zr (!b.1,b.2)= -Zr b:=by
 obtain ⟨s,x⟩:=b
 cases s <;> simp [Zr]
theorem Zo6 (a b:ZV):Zr (!decide (a.1=b.1),Zd (Zb a.2 * Zb b.2))=Zr a * Zr b:=by
 obtain ⟨s,x⟩:=a
 obtain ⟨t,y⟩:=b
 simp only [Zr,Zy]
 cases s <;> cases t <;> simp [Int.natCast_mul,Int.neg_mul,Int.mul_neg]
theorem Z3n {N k l:Nat} {a b:ZV} (ha:Zn a.2) (hb:Zn b.2) (hk:a.2.length≤k) (hl:b.2.length≤l) (hr:Z5 N (k+l)):Zjf N a b=some (Xf (Zr a * Zr b)):=by
 have hr':=hr
 obtain ⟨r1,r2⟩:=hr'
 have la:=X4 ha
 have lb:=X4 hb
 have:=Wz (Zb a.2) (Zb b.2)
 rw [Zjf,Zji ha hb (by omega) (by omega),oB,Zer (k:=k+l) (Zw _) (by omega) hr,oB,Zo6]
theorem Z3s (a b:ZV):(if (Zr a).sign<(Zr b).sign then -1 else if (Zr b).sign<(Zr a).sign then 1 else (Zr a).sign * (if Zb a.2<Zb b.2 then -1 else if Zb b.2<Zb a.2 then 1 else 0))=S5 (Zr a) (Zr b):=by
 obtain ⟨s,x⟩:=a
 obtain ⟨t,y⟩:=b
 have key:∀ z:Int,z.sign=if z<0 then -1 else if 0<z then 1 else 0:=fun z=>(Zmu z).symm
 rw [key,key]
 unfold S5
 simp only [Zr]
 generalize Zb x=X
 generalize Zb y=Y
 cases s <;> cases t <;> simp only [if_true,Bool.false_eq_true,if_false] <;> (repeat' split) <;> omega
theorem Z3l {N k l:Nat} {a b:ZV} (ha:Zn a.2) (hb:Zn b.2) (hk:a.2.length≤k) (hl:b.2.length≤l) (hr:Z5 N (k+l)):Zje N a b=some (S5 (Zr a) (Zr b)):=by
 have hr':=hr
 obtain ⟨r1,r2⟩:=hr'
 have sa:-1≤(Zr a).sign∧(Zr a).sign≤1:=by rw [← Zmu];unfold S5;(repeat' split) <;> omega
 rw [Zje,Zmr ha hk (hr.mono (by omega)),oB,Zmr hb hl (hr.mono (by omega)),oB,← Z3s a b]
 by_cases h1:(Zr a).sign<(Zr b).sign
 ·rw [if_pos (dT h1),if_pos h1]
 ·rw [if_neg (dF h1),if_neg h1]
  by_cases h2:(Zr b).sign<(Zr a).sign
  ·rw [if_pos (dT h2),if_pos h2]
  ·rw [if_neg (dF h2),if_neg h2,Znl ha hb (by omega) (by omega) (by omega) (by omega),oB]
   congr 1
   refine Zs ?_
   have:(Zr a).sign= -1∨(Zr a).sign=0∨(Zr a).sign=1:=by omega
   rcases this with h | h | h <;> rw [h] <;> (repeat' split) <;> decide
theorem Zwp {N:Nat} {z:Int} (h:-9223372036854775808≤z∧z≤9223372036854775807) (hr:Z5 N 2):Zhc N z=some (Xf z):=by
 have hr':=hr
 obtain ⟨r1,r2⟩:=hr'
 have l2:∀ n:Nat,n<18446744073709551616→(Zd n).length≤2:=fun n hn=>Wd.2 (by simpa using hn)
 rw [Zhc]
 by_cases hz:z<0
 ·have e:u64.wrap (-u64.wrap z)= -z:=by rw [IntKind.wrap_u64,IntKind.wrap_u64];omega
  rw [if_pos (dT hz),e,Zei (by omega) (by omega),oB,Zer (Zw _) (l2 _ (by omega)) hr,oB]
  have e2:Zr (true,Zd (-z).toNat)=z:=by simp only [Zr,Zy,if_true];omega
  rw [e2]
 ·rw [if_neg (dF hz),Xb (by omega),Zei (by omega) (by omega),oB,Zer (Zw _) (l2 _ (by omega)) hr,oB]
  have e2:Zr (false,Zd z.toNat)=z:=by simp only [Zr,Zy];simp;omega
  rw [e2]
theorem Zhm {N k:Nat} {a:QV} (ha:RV k a) (hr:Z5 N k):Tq N a=some (Zd (X6 a.2)):=by
 obtain ⟨r1,r2⟩:=hr
 have:=ha.ld
 rw [Tq,Zn3 ha.d (by omega) (by omega),oB,X6]
 by_cases h:Zb a.2=0
 ·rw [h,Wg,if_neg (by decide),if_pos rfl,Zei (by decide) (by omega)];rfl
 ·have:=Sk h
  rw [if_pos (dT (by omega)),if_neg h]
theorem Tn {k:Nat} {a:QV} (ha:RV k a):(Zd (X6 a.2)).length≤k+1:=by
 have h1:=X4 ha.d
 have h2:=ha.ld
 rw [X6]
 split
 ·rw [V1];simp
 ·omega
theorem Zly {N k l n:Nat} {a:ZV} (ha:Zn a.2) (hk:a.2.length≤k) (hl:(Zd n).length≤l) (hr:Z5 N (k+l)):Zbi N a (Zd n)=some (Xf (Zr a * n)):=by
 rw [Zbi,Z3n (a:=(a.1,a.2)) (b:=(false,Zd n)) ha (Zw _) hk hl hr,oB]
 have e:Zr (false,Zd n)=n:=by simp [Zr,Zy]
 rw [e]
theorem Znw {N k l:Nat} {neg:Bool} {num den:List Int} (hn:Zn num) (hd:Zn den) (h0:Zb den≠0) (hk:num.length≤k) (hl:den.length≤l) (hr:Z5 N (k+l)):
  Zc2 N neg num den=some (Xc (mkRat (Zr (neg,num)) (Zb den))):=by
 have hr':=hr
 obtain ⟨r1,r2⟩:=hr'
 have l1:=X4 hn
 have l2:=X4 hd
 have hg:Nat.gcd (Zb num) (Zb den)≠0:=fun h=>h0 (Nat.gcd_eq_zero_iff.1 h).2
 have lg:(Zd (Nat.gcd (Zb num) (Zb den))).length≤den.length:=Nat.le_trans (Wy (Nat.gcd_le_right _ (by omega))) l2
 have lq:=Wy (Nat.div_le_self (Zb num) (Nat.gcd (Zb num) (Zb den)))
 rw [Zc2,Z0d hn hd (by omega) (by omega),oB,Zkr hn (Zw _) (by omega) (by omega),oB,Zkr hd (Zw _) (by omega) (by omega),oB,Zy,if_neg hg,if_neg hg,
  Z3o (k:=k) (a:=(neg,Zd (Zb num / Nat.gcd (Zb num) (Zb den)))) (Zw _) (by simp only;omega) (hr.mono (by omega)),oB,Zs2 h0,Zjk,Zy]
theorem Z0c {N k:Nat} {a:QV} (ha:RV k a) (hr:Z5 N k):Zfn N a=some (Zcg (Xl a)):=by
 rw [Zfn,Zmr (a:=(a.1.1,a.1.2)) ha.m ha.lm hr,oB,Ztx]
theorem Ze6 (z:Int):(Xf z).2=Zd z.natAbs:=rfl
theorem Zbd {k l n:Nat} {a:ZV} (ha:Zn a.2) (hk:a.2.length≤k) (hl:(Zd n).length≤l):(Xf (Zr a * n)).2.length≤k+l:=by
 rw [Ze6,Int.natAbs_mul,Int.natAbs_natCast,Zes]
 have h1:=Wz (Zb a.2) n
 have h2:=X4 ha
 omega
theorem Zqz {N k l:Nat} {a b:QV} (ha:RV k a) (hb:RV l b) (hr:Z5 N (2 * (k+l+2))):Zfj N a b=some (T8 (Xl a) (Xl b)):=by
 have da:=Tn ha
 have db:=Tn hb
 have o1:=Zbd (n:=X6 b.2) ha.m ha.lm db
 have o2:=Zbd (n:=X6 a.2) hb.m hb.lm da
 rw [Zfj,Zhm hb (hr.mono (by omega)),oB,Zly (k:=k) (l:=l+1) ha.m ha.lm db (hr.mono (by omega)),oB,Zhm ha (hr.mono (by omega)),oB,Zly (k:=l) (l:=k+1) hb.m hb.lm da (hr.mono (by omega)),oB,
  Z3l (a:=Xf _) (b:=Xf _) (Vy _) (Vy _) o1 o2 (hr.mono (by omega)),oB,Vs,Vs,Xl,Xl,Zn8 (Sf _) (Sf _)]
theorem Znm {N k l:Nat} {a b:QV} (ha:RV k a) (hb:RV l b) (hr:Z5 N (k+l+2)):Sn N (Zd (X6 a.2)) (Zd (X6 b.2))=some (Zd (X6 a.2 * X6 b.2))∧(Zd (X6 a.2 * X6 b.2)).length≤k+l+2∧X6 a.2 * X6 b.2≠0:=by
 have da:=Tn ha
 have db:=Tn hb
 have hr':=hr
 obtain ⟨r1,r2⟩:=hr'
 have:=Wz (X6 a.2) (X6 b.2)
 refine ⟨by rw [Zji (Zw _) (Zw _) (by omega) (by omega),Zy,Zy],by omega,Nat.mul_ne_zero (Sf _) (Sf _)⟩
theorem Zow {x y:Int} {k:Nat} (hx:(Xf x).2.length≤k) (hy:(Xf y).2.length≤k):(Xf (x+y)).2.length≤k+1:=by
 rw [Ze6] at *
 exact Nat.le_trans (Wy (Int.natAbs_add_le _ _)) (Zky hx hy)
theorem Z3d {x y:Int} {k:Nat} (hx:(Xf x).2.length≤k) (hy:(Xf y).2.length≤k):(Xf (x - y)).2.length≤k+1:=by
 rw [Int.sub_eq_add_neg]
 refine Zow hx ?_
 rw [Ze6,Int.natAbs_neg];exact hy
theorem Z1o (z:Int):((Xf z).1,(Xf z).2)=Xf z:=rfl
theorem Zz2 {N k l:Nat} {a b:QV} (ha:RV k a) (hb:RV l b) (hr:Z5 N (2 * (k+l+3))):Zh4 N a b=some (Xc (Xl a+Xl b)):=by
 have da:=Tn ha
 have db:=Tn hb
 have o1:=Zbd (n:=X6 b.2) ha.m ha.lm db
 have o2:=Zbd (n:=X6 a.2) hb.m hb.lm da
 obtain ⟨m1,m2,m3⟩:=Znm ha hb (hr.mono (by omega))
 have sl:=Zow (k:=k+l+1) (by omega) (Nat.le_trans o2 (by omega))
 rw [Zh4,Zhm hb (hr.mono (by omega)),oB,Zly (k:=k) (l:=l+1) ha.m ha.lm db (hr.mono (by omega)),oB,Zhm ha (hr.mono (by omega)),oB,Zly (k:=l) (l:=k+1) hb.m hb.lm da (hr.mono (by omega)),oB,
  Z3j (a:=Xf _) (b:=Xf _) (Vy _) (Vy _) o1 o2 (hr.mono (by omega)),oB,Vs,Vs,oB,oB,m1,oB,
  Znw (Vy _) (Zw _) (by rw [Zy];exact m3) sl m2 (hr.mono (by omega)),oB,Z1o,Vs,Zy,Xl,Xl,Rat.mkRat_add_mkRat _ _ (Sf _) (Sf _)]
theorem Zz9 {N k l:Nat} {a b:QV} (ha:RV k a) (hb:RV l b) (hr:Z5 N (2 * (k+l+3))):Zfk N a b=some (Xc (Xl a * Xl b)):=by
 have hr':=hr
 obtain ⟨r1,r2⟩:=hr'
 have h1:=ha.lm
 have h2:=hb.lm
 have la:=X4 ha.m
 have lb:=X4 hb.m
 have lm:=Wz (Zb a.1.2) (Zb b.1.2)
 obtain ⟨m1,m2,m3⟩:=Znm ha hb (hr.mono (by omega))
 rw [Zfk,Zji ha.m hb.m (by omega) (by omega),oB,Zhm ha (hr.mono (by omega)),oB,Zhm hb (hr.mono (by omega)),oB,m1,oB,
  Znw (k:=k+l) (Zw _) (Zw _) (by rw [Zy];exact m3) (by omega) m2 (hr.mono (by omega)),oB,Zo6,Zy,Xl,Xl,Rat.mkRat_mul_mkRat]
theorem Zsk (n₁:Int) (d₁:Nat) (b:ZV) (d₂:Nat) (s:Bool) (x:List Int) (h:n₁=Zr (s,x)) (hb:Zb b.2≠0):mkRat n₁ d₁ / mkRat (Zr b) d₂=mkRat (Zr (!decide (s=b.1),Zd (Zb x * d₂))) (d₁ * Zb b.2):=by
 have e1:mkRat (Zr b) d₂=(Zr b:Rat) / (d₂:Rat):=Rat.mkRat_eq_div _ _
 have hz:(Zr b:Rat)=(if b.1=true then -1 else 1) * (Zb b.2:Rat):=by
  rw [Zr];split
  ·rw [Rat.intCast_neg,Rat.neg_mul,Rat.one_mul];rfl
  ·rw [Rat.one_mul];rfl
 have hn:(Zr (!decide (s=b.1),Zd (Zb x * d₂)):Rat)=(if b.1=true then -1 else 1) * (n₁:Rat) * (d₂:Rat):=by
  subst h
  have:Zr (!decide (s=b.1),Zd (Zb x * d₂))=(if b.1=true then -1 else 1) * Zr (s,x) * (d₂:Int):=by
   obtain ⟨t,y⟩:=b
   simp only [Zr,Zy]
   cases s <;> cases t <;> simp [Int.natCast_mul,Int.neg_mul]
  rw [this,Rat.intCast_mul,Rat.intCast_mul]
  congr 2
  split <;> rfl
 have hbr:(Zb b.2:Rat)≠0:=fun h=>hb (Rat.natCast_eq_zero_iff.1 h)
 rw [Rat.mkRat_eq_div,e1,Rat.mkRat_eq_div,hn,hz,Rat.natCast_mul]
 have hs:(if b.1=true then (-1:Rat) else 1) * (if b.1=true then (-1:Rat) else 1)=1:=by split <;> grind
 generalize (if b.1=true then (-1:Rat) else 1)=sg at *
 generalize (n₁:Rat)=p
 generalize (d₁:Rat)=q
 generalize (d₂:Rat)=r
 generalize (Zb b.2:Rat)=m at *
 have hsg:sg≠0:=fun h=>by rw [h] at hs;grind
 have hinv:sg⁻¹=sg:=Rat.inv_eq_of_mul_eq_one hs
 simp only [Rat.div_def,Rat.inv_mul_rev,Rat.inv_inv,hinv]
 grind
theorem Zra {N k l:Nat} {a b:ZV} (ha:Zn a.2) (hb:Zn b.2) (hk:a.2.length≤k) (hl:b.2.length≤l) (hr:Z5 N (k+l)):Zfl N a b=some (if Zr b=0 then (((false,[]),[]),11) else (Xc ((Zr a:Rat) / (Zr b:Rat)),0)):=by
 rw [Zfl,Zmr (a:=(b.1,b.2)) hb hl (hr.mono (by omega)),oB]
 by_cases h0:Zr b=0
 ·rw [if_pos h0,h0,if_pos (by decide)]
 ·have hb0:Zb b.2≠0:=fun h=>h0 (by have:=Zes b;omega)
  have e:=Zsk (Zr a) 1 b 1 a.1 a.2 rfl hb0
  have hs:¬ (Zr b).sign=0:=fun h=>h0 (Int.sign_eq_zero_iff_zero.1 h)
  rw [if_neg (dF hs),if_neg h0,Znw ha hb hb0 hk hl hr,oB]
  rw [Rat.mkRat_eq_div,Rat.mkRat_eq_div] at e
  have e1:(Zr a:Rat) / ((1:Nat):Rat) / ((Zr b:Rat) / ((1:Nat):Rat))=(Zr a:Rat) / (Zr b:Rat):=by
   have h1:((1:Nat):Rat)=1:=rfl
   have h2:(1:Rat)⁻¹=1:=Rat.inv_eq_of_mul_eq_one (by grind)
   simp only [h1,Rat.div_def,h2,Rat.mul_one]
  rw [e1,Nat.one_mul,Nat.mul_one] at e
  rw [e]
  have e2:Zr (!decide (a.1=b.1),Zd (Zb a.2))=Zr (!decide (a.1=b.1),a.2):=by simp only [Zr,Zy]
  rw [e2]
theorem Zrb {N:Nat} {a b:Int} (h:-9223372036854775808≤a∧a≤9223372036854775807) (g:-9223372036854775808≤b∧b≤9223372036854775807) (hr:Z5 N 4):Zfm N a b=some (if b=0 then (((false,[]),[]),11) else (Xc ((a:Rat) / (b:Rat)),0)):=by
 have l2:∀ z:Int,-9223372036854775808≤z∧z≤9223372036854775807→(Xf z).2.length≤2:=fun z hz=>Wd.2 (by simp;omega)
 rw [Zfm,Zwp h (hr.mono (by omega)),oB,Zwp g (hr.mono (by omega)),oB,Zra (a:=Xf a) (b:=Xf b) (Vy _) (Vy _) (l2 _ h) (l2 _ g) hr,oB,Vs,Vs]
def W1 (l:List QV):Rat:=(l.map Xl).sum
def X5:List QV→Nat
 | []=>0
 | a :: l=>max a.1.2.length a.2.length+2+X5 l
theorem Zeo {a:QV} (hm:Zn a.1.2) (hd:Zn a.2):RV (max a.1.2.length a.2.length) a:=⟨hm,hd,Nat.le_max_left _ _,Nat.le_max_right _ _⟩
def W3 (a:QV):Prop:=Zn a.1.2∧Zn a.2
theorem Ztw {a:QV} (h:W3 a):qs (Xl a)≤max a.1.2.length a.2.length+1:=by
 have:=Z10 (Zeo h.1 h.2)
 omega
theorem Zre {N:Nat}:∀ (l:List QV) (q:Rat),(∀ a ∈ l,W3 a)→Z5 N (4 * (qs q+X5 l+3))→Zbh N l (Xc q).1.1 (Xc q).1.2 (Xc q).2=some (Xc (q+W1 l))∧qs (q+W1 l)≤qs q+X5 l
 | [],q,_,_=>by
  rw [Zbh.eq_1,W1]
  simp only [List.map_nil,List.sum_nil,Rat.add_zero,X5]
  exact ⟨trivial,by omega⟩
 | a :: l,q,hl,hr=>by
  have ha:=hl a List.mem_cons_self
  have hs:=Ztw ha
  rw [X5] at hr ⊢
  rw [Zbh.eq_2,Zz2 (k:=qs q) (l:=max a.1.2.length a.2.length) (Zoq q) (Zeo ha.1 ha.2) (hr.mono (by omega)),oB]
  have e:Xl ((((Xc q).1.1,(Xc q).1.2),(Xc q).2):QV)=q:=Qx q
  have e2:Xl (((a.1.1,a.1.2),a.2):QV)=Xl a:=rfl
  have h1:=Ztv q (Xl a)
  obtain ⟨h2,h3⟩:=Zre l (q+Xl a) (fun x hx=>hl x (List.mem_cons_of_mem _ hx)) (hr.mono (by omega))
  rw [e,e2,h2]
  have e3:q+Xl a+W1 l=q+W1 (a :: l):=by rw [W1,W1,List.map_cons,List.sum_cons,Rat.add_assoc]
  rw [e3] at h3 ⊢
  exact ⟨rfl,by omega⟩
theorem Zrf {N:Nat} {l:List QV} (hl:∀ a ∈ l,W3 a) (hr:Z5 N (4 * (X5 l+4))):Zh5 N l=some (Xc (W1 l))∧qs (W1 l)≤X5 l+1:=by
 have hr':=hr
 obtain ⟨r1,r2⟩:=hr'
 obtain ⟨h1,h2⟩:=Zre (N:=N) l 0 hl (hr.mono (by rw [Zob];omega))
 rw [Rat.zero_add] at h1 h2
 rw [Zob] at h2
 have e:Xc 0=((false,[]),[1]):=by
  rw [Xc,Xf]
  simp only [Rat.zero_num,Rat.zero_den,Int.natAbs_zero,Wg,V1]
  rfl
 rw [e] at h1
 refine ⟨?_,by omega⟩
 rw [Zh5,Zei (by decide) (by omega),oB,← h1]
 rw [show (1:Int).toNat=1 from rfl,V1]
def Zgg (ab:List Int) (aa:Int) (kk_L1:(Int→Option R1)) (ac:Bool):Option R1:=
  if ac=true then (kk_L1 (i64.wrap (aa - 1))) else (Z0 ((0:Int)≤aa∧aa≤(ab.length:Int)) (Z0 ((([]:List Int).length+(ab.take (Int.toNat aa)).length) * 4≤140737488355328∧([]:List Int).length+(ab.take (Int.toNat aa)).length≤maxLen) (some (([]:List Int)++(ab.take (Int.toNat aa))))))
def Zan (N:Nat) (aa:List Int):Nat→Int→Option R1
  | 0,_=>none
  | ac+1,ab=>if (decide (0<ab))=true then ((Zl aa (i64.wrap (ab - 1))).bind fun ad=>Zgg aa ab (Zan N aa ac) (decide (ad=0))) else (Zgg aa ab (Zan N aa ac) false)
termination_by structural x=>x
def W6 (N:Nat) (aa:List Int):Option R1:=
  Zan N aa N (aa.length:Int)
theorem V0 {N ae:Nat} {a0:Option Addr} {col:Ze} {w0:World} {ab r:R1} (c1:Nat) (hm:W6 N ab=some r) (h0:Sl (Za.int .u32) col w0 a0 ae ab):
    Calls prog 212 #[.slice a0 ab.length ae] w0 (fun e w'=>∃ (col':Ze) (ra1:Option Addr) (rc2:Nat),e= .returned ((.slice ra1 r.length rc2))∧Zf col w0 col' w'∧Zc (Za.int .u32) 79 c1 col' w' ra1 rc2 r):=by
 refine Z1 2 (m:=24) func212 rfl rfl rfl rfl rfl ?_;rw [W6.eq_1] at hm;have aa:=St.start col w0;refine go ?_;refine Zu [0,1000000] (fun n f aj=>∃ ak ac ad,ad=n∧Zan N ab ad ac=some r∧St w0 (Zg col) ak aj∧[3].map f=[.int .i64 ac]) N ⟨_,_,_,rfl,hm,aa,rfl⟩ ?_;clear hm;intro n f aj hI;obtain ⟨ak,ac,ad,hn,hm,aa,hs⟩:=hI;subst hn;refine .lL [3] hs ?_;replace h0:=h0.keep (Zh.start col w0)
 cases ad with
 | zero=>rw [Zan.eq_1] at hm;cases hm
 | succ ad=>
  rw [Zan.eq_2] at hm;refine Zt<|Zt ?_;refine Wp.cutK [0,3,1000000] (fun f al=>∃ am af,Zgg ab ac (Zan N ab ad) af=some r∧St w0 (Zg col) am al∧[16].map f=[.bool af]) ?_ ?_
  ·intro f al hJ;obtain ⟨am,af,hm,aa,hs⟩:=hJ;rw [Zgg.eq_1] at hm;refine .lL [16] hs ?_;refine Zm hm (fun hb hm=>go ?_) fun hb hm=>go ?_
   ·exact ⟨ad,by omega,rfl,⟨_,_,_,rfl,hm,aa,rfl⟩⟩
   obtain ⟨ag,hm⟩:=Z3 hm;refine lv (v:=.slice a0 (Int.toNat ac) ae) rfl rfl (Q0 underlying43 sizeOf79 rfl rfl ag.1 (by have:=(h0.ks aa).1.2;have:=ag.2;omega))<|.ld (d:=22) (v:=(.slice a0 ((ab.take (Int.toNat ac)).length) ae)) (congrArg (fun n=>Value.slice a0 n ae) (List.length_take_of_le (show (Int.toNat ac)≤ab.length by have:=ag.2;omega)).symm) ?_;obtain ⟨an,hm⟩:=Z3 hm;refine Wk (c:=1) Zc.nil ((h0.ks aa).take (Int.toNat ac)).srcC an ?_;intro ar au av aw ao ap;refine go ?_;cases hm;replace aa:=aa.kpp ao;exact ⟨rfl,_,_,_,rfl,aa.fin (cm [(1,c1)]),aa.fo ap⟩
  refine go ?_;refine Xu hm (fun ah hm=>go ?_) fun ah hm=>go ?_
  ·obtain ⟨aq,ai,hm⟩:=bZ hm;refine lI ai ((h0.ks aa).addr ai) ?_;refine go ?_;refine lW ((h0.ks aa).atInt ai)<|go ?_;refine lV (.bool (decide (aq=0))) (Xg (congrArg Value.bool ah) rfl)<|Zo ?_;exact ⟨rfl,_,_,hm,aa,rfl⟩
  refine lV (.bool false) (Xt (congrArg Value.bool ah) rfl)<|Zo ?_;exact ⟨rfl,_,_,hm,aa,rfl⟩
def Zdj (N:Nat):Nat→Int→Int→Option Int
  | 0,_,_=>none
  | ac+1,aa,ab=>if (decide (0<ab))=true then ((Zdj N ac) (i64.wrap (aa+1)) (u32.wrap (Int.tdiv ab 2))) else (some aa)
termination_by structural x=>x
def Zin (N:Nat) (ab:List Int):Option Int:=
  (W6 N ab).bind fun aa=>if (decide ((aa.length:Int)=0))=true then (some 0) else ((Zl aa (i64.wrap ((aa.length:Int) - 1))).bind fun ac=>Zdj N N (i64.wrap (32 * (i64.wrap ((aa.length:Int) - 1)))) ac)
theorem Zx3 {N ag:Nat} {a0:Option Addr} {col:Ze} {w0:World} {ad:R1} {r:Int} (hm:Zin N ad=some r) (h0:Sl (Za.int .u32) col w0 a0 ag ad):
    Calls prog 121 #[.slice a0 ad.length ag] w0 (fun e w'=>e= .returned ((.int .i64 r))∧Below w0.heap.size w0 w'):=by
 refine Z1 2 (m:=28) func121 rfl rfl rfl rfl rfl ?_;rw [Zin.eq_1] at hm;have aa:=St.start col w0;refine go ?_;obtain ⟨am,ak,hm⟩:=bZ hm;replace h0:=h0.keep (Zh.start col w0);refine Zi (V0 1 ak (h0.ks aa)) ?_;rintro _ an ⟨ao,ap,aq,rfl,al,ah⟩;refine ⟨_,rfl,go ?_⟩;replace aa:=aa.grow al;refine Zm hm (fun hb hm=>go ?_) fun hb hm=>go ?_
 ·cases hm;exact ⟨rfl,rfl,aa.below⟩
 obtain ⟨ar,ae,hm⟩:=bZ hm;refine lI ae (ah.addr ae)<|lW (ah.atInt ae) ?_;refine go ?_;refine Zu [1000000] (fun n f ai=>∃ aj af ac ab,ab=n∧Zdj N ab af ac=some r∧St w0 (Zg col) aj ai∧[4,5].map f=[.int .i64 af,.int .u32 ac]) N ⟨_,_,_,_,rfl,hm,aa,rfl⟩ ?_;clear hm;intro n f ai hI;obtain ⟨aj,af,ac,ab,hn,hm,aa,hs⟩:=hI;subst hn;refine .lL [4,5] hs ?_
 cases ab with
 | zero=>rw [Zdj.eq_1] at hm;cases hm
 | succ ab=>
  rw [Zdj.eq_2] at hm;refine go ?_;refine Zm hm (fun hb hm=>go ?_) fun hb hm=>go ?_
  ·refine lV (.int .u32 (u32.wrap (Int.tdiv ac 2))) (Vq ac 2 rfl rfl (by decide))<|go ?_;exact ⟨ab,by omega,rfl,⟨_,_,_,_,rfl,hm,aa,rfl⟩⟩
  cases hm;exact ⟨rfl,rfl,aa.below⟩
def Ss (aa:List Int) (ab:Int):Option Int:=
  if (decide (ab<(aa.length:Int)))=true then ((Zl aa ab).bind fun ac=>some (u64.wrap ac)) else (some 0)
theorem Zcs {ad:Nat} {a0:Option Addr} {col:Ze} {w0:World} {ab:R1} {ae r:Int} (hm:Ss ab ae=some r) (h0:Sl (Za.int .u32) col w0 a0 ad ab):
    Calls prog 275 #[.slice a0 ab.length ad,.int .i64 ae] w0 (fun e w'=>e= .returned ((.int .u64 r))∧Below w0.heap.size w0 w'):=by
 refine Z1 4 (m:=14) func275 rfl rfl rfl rfl rfl ?_;rw [Ss.eq_1] at hm;have aa:=St.start col w0;refine go ?_;replace h0:=h0.keep (Zh.start col w0);refine Zm hm (fun hb hm=>go ?_) fun hb hm=>go ?_
 ·obtain ⟨af,ac,hm⟩:=bZ hm;refine lI ac ((h0.ks aa).addr ac)<|lW ((h0.ks aa).atInt ac) ?_;refine go ?_;cases hm;exact ⟨rfl,rfl,aa.below⟩
 cases hm;exact ⟨rfl,rfl,aa.below⟩
def Zim (ab:List Int) (aa:Int):Option Int:=
  (Ss ab (i64.wrap (Int.tdiv aa 32))).bind fun ac=>Z0 (0≤(Int.tmod aa 32)) (some (Int.tmod (u32.wrap (X8 .u64 ac (Int.tmod aa 32))) 2))
theorem Zx2 {af:Nat} {a0:Option Addr} {col:Ze} {w0:World} {ad:R1} {aa r:Int} (hm:Zim ad aa=some r) (h0:Sl (Za.int .u32) col w0 a0 af ad):
    Calls prog 230 #[.slice a0 ad.length af,.int .i64 aa] w0 (fun e w'=>e= .returned ((.int .u32 r))∧Below w0.heap.size w0 w'):=by
 refine Z1 4 (m:=14) func230 rfl rfl rfl rfl rfl ?_;rw [Zim.eq_1] at hm;have ab:=St.start col w0;refine go ?_;refine lV (.int .i64 (i64.wrap (Int.tdiv aa 32))) (Vq aa 32 rfl rfl (by decide)) ?_;obtain ⟨ac,ag,hm⟩:=bZ hm;replace h0:=h0.keep (Zh.start col w0);refine Zi (Zcs ag (h0.ks ab)) ?_;rintro _ ah ⟨rfl,ae⟩;refine ⟨_,rfl,?_⟩;replace ae:Zf (Zg col) w0 (Zg col) ah:=.of_below ae;refine Xn rfl<|lV (.int .i64 (Int.tmod aa 32)) (S3 aa 32 rfl rfl (by decide)) ?_;obtain ⟨ai,hm⟩:=Z3 hm;refine lV (.int .u64 (X8 .u64 ac (Int.tmod aa 32))) (T9 ac (Int.tmod aa 32) rfl rfl ai)<|go ?_;refine lV (.int .u32 (Int.tmod (u32.wrap (X8 .u64 ac (Int.tmod aa 32))) 2)) (S3 (u32.wrap (X8 .u64 ac (Int.tmod aa 32))) 2 rfl rfl (by decide))<|go ?_;cases hm;replace ab:=ab.grow ae;exact ⟨rfl,rfl,ab.below⟩
def Zgl (aa:List Int):Option R1:=
  some aa
def Zdq (N:Nat) (ad:List Int):Nat→R1→Int→Int→Option R1
  | 0,_,_,_=>none
  | af+1,ab,aa,ae=>if (decide (ae<(ad.length:Int)))=true then ((Zl ad ae).bind fun ac=>Z0 ((ab.length+[u32.wrap (Int.tmod (u64.wrap (aa+(u64.wrap (2 * (u64.wrap ac))))) 4294967296)].length) * 4≤140737488355328∧ab.length+[u32.wrap (Int.tmod (u64.wrap (aa+(u64.wrap (2 * (u64.wrap ac))))) 4294967296)].length≤maxLen) ((Zdq N ad af) (ab++[u32.wrap (Int.tmod (u64.wrap (aa+(u64.wrap (2 * (u64.wrap ac))))) 4294967296)]) (u64.wrap (Int.tdiv (u64.wrap (aa+(u64.wrap (2 * (u64.wrap ac))))) 4294967296)) (i64.wrap (ae+1)))) else (if (decide (0<aa))=true then (Z0 ((ab.length+[u32.wrap aa].length) * 4≤140737488355328∧ab.length+[u32.wrap aa].length≤maxLen) (Zgl (ab++[u32.wrap aa]))) else (Zgl ab))
termination_by structural x=>x
def Zgk (N:Nat) (aa:List Int) (ab:Int):Option R1:=
  Zdq N aa N ([]:List Int) (u64.wrap ab) 0
theorem Zpw {N au:Nat} {a0:Option Addr} {col:Ze} {w0:World} {ag:R1} {av:Int} {r:R1} (c1:Nat) (hm:Zgk N ag av=some r) (h0:Sl (Za.int .u32) col w0 a0 au ag):
    Calls prog 291 #[.slice a0 ag.length au,.int .u32 av] w0 (fun e w'=>∃ (col':Ze) (ra1:Option Addr) (rc2:Nat),e= .returned ((.slice ra1 r.length rc2))∧Zf col w0 col' w'∧Zc (Za.int .u32) 79 c1 col' w' ra1 rc2 r):=by
 refine Z1 4 (m:=40) func291 rfl rfl rfl rfl rfl ?_;rw [Zgk.eq_1] at hm;have aa:=St.start col w0;refine go ?_;refine Zu [0,1000000] (fun n f aj=>∃ ae ak al ah ab am ad,ad=n∧Zdq N ag ad ah ab am=some r∧St w0 (Zg col) ae aj∧Zc (Za.int .u32) 79 1 ae aj ak al ah∧[5,6,7].map f=[.slice ak ah.length al,.int .u64 ab,.int .i64 am]) N ⟨_,none,0,_,_,0,_,rfl,hm,aa,Zc.nil,rfl⟩ ?_;clear hm;intro n f aj hI;obtain ⟨ae,ak,al,ah,ab,am,ad,hn,hm,aa,ac,hs⟩:=hI;subst hn;refine .lL [5,6,7] hs ?_;replace h0:=h0.keep (Zh.start col w0)
 cases ad with
 | zero=>rw [Zdq.eq_1] at hm;cases hm
 | succ ad=>
  rw [Zdq.eq_2] at hm;refine go ?_;refine Zm hm (fun hb hm=>go ?_) fun hb hm=>?_
  ·obtain ⟨af,an,hm⟩:=bZ hm;refine lI an ((h0.ks aa).addr an)<|lW ((h0.ks aa).atInt an) ?_;refine go ?_;refine lV (.int .u64 (Int.tmod (u64.wrap (ab+(u64.wrap (2 * (u64.wrap af))))) 4294967296)) (S3 (u64.wrap (ab+(u64.wrap (2 * (u64.wrap af))))) 4294967296 rfl rfl (by decide))<|go ?_;refine W5 (col:=ae) [u32.wrap (Int.tmod (u64.wrap (ab+(u64.wrap (2 * (u64.wrap af))))) 4294967296)] 2 ?_;intro a8 a9 ba aw ay;obtain ⟨az,hm⟩:=Z3 hm;replace ac:=ac.gr aw;refine Wk ac (ay.srcN (NB.int (k:=.u32))) az ?_;intro bb bc bd be a1 a2;refine go ?_;refine lV (.int .u64 (u64.wrap (Int.tdiv (u64.wrap (ab+(u64.wrap (2 * (u64.wrap af))))) 4294967296))) (Vq (u64.wrap (ab+(u64.wrap (2 * (u64.wrap af))))) 4294967296 rfl rfl (by decide))<|go ?_;replace aa:=(aa.grow aw).kpp a1;exact ⟨ad,by omega,rfl,⟨_,_,_,_,_,_,_,rfl,hm,aa,a2,rfl⟩⟩
  refine Zjy (Zhx ?_);refine Zt ?_;refine Wp.cutK [1000000] (fun f ao=>∃ ap aq ar ai,Zgl ai=some r∧St w0 (Zg col) ap ao∧Zc (Za.int .u32) 79 1 ap ao aq ar ai∧[5].map f=[.slice aq ai.length ar]) ?_ ?_
  ·intro f ao hJ;obtain ⟨ap,aq,ar,ai,hm,aa,a3,hs⟩:=hJ;rw [Zgl.eq_1] at hm;refine .lL [5] hs<|go ?_;cases hm;exact ⟨rfl,_,_,_,rfl,aa.fin (cm [(1,c1)]),aa.fo a3⟩
  refine go ?_;refine Zm hm (fun hb hm=>go ?_) fun hb hm=>?_
  ·refine W5 (col:=ae) [u32.wrap ab] 3 ?_;intro bf bg bh ax a4;obtain ⟨a5,hm⟩:=Z3 hm;replace ac:=ac.gr ax;refine Wk ac (a4.srcN (NB.int (k:=.u32))) a5 ?_;intro bi bj bk bm a6 a7;refine go ?_;replace aa:=(aa.grow ax).kpp a6;exact ⟨rfl,_,_,_,_,hm,aa,a7,rfl⟩
  refine Xr ?_;exact ⟨rfl,_,_,_,_,hm,aa,ac,rfl⟩
def Zdl (N:Nat) (ab:List Int) (ac:List Int):Nat→Int→Option Int
  | 0,_=>none
  | af+1,aa=>if (decide (0≤aa))=true then ((Ss ab aa).bind fun ad=>(Ss ac aa).bind fun ae=>if (decide (ad<ae))=true then (some (-1)) else (if (decide (ae<ad))=true then (some 1) else ((Zdl N ab ac af) (i64.wrap (aa - 1))))) else (some 0)
termination_by structural x=>x
def Zgb (N:Nat) (aa:List Int) (ab:List Int) (ac:Int):Option Int:=
  Zdl N aa ab N (i64.wrap (ac - 1))
def Zdk (N:Nat) (aa:List Int) (ab:List Int):Option Int:=
  if (decide ((aa.length:Int)<(ab.length:Int)))=true then (Zgb N aa ab (ab.length:Int)) else (Zgb N aa ab (aa.length:Int))
theorem Zm9 {N ak al:Nat} {a0 a1:Option Addr} {col:Ze} {w0:World} {ad ae:R1} {r:Int} (hm:Zdk N ad ae=some r) (h0:Sl (Za.int .u32) col w0 a0 ak ad) (h1:Sl (Za.int .u32) col w0 a1 al ae):
    Calls prog 276 #[.slice a0 ad.length ak,.slice a1 ae.length al] w0 (fun e w'=>e= .returned ((.int .i64 r))∧Below w0.heap.size w0 w'):=by
 refine Z1 4 (m:=35) func276 rfl rfl rfl rfl rfl ?_;rw [Zdk.eq_1] at hm;have aa:=St.start col w0;refine Zt<|Wa<|Yh rfl<|Zo<|Zt<|Wa<|Yi rfl<|lV _ (Zel underlying43 rfl)<|Yh rfl<|Zo<|Zt ?_;replace h0:=h0.keep (Zh.start col w0);replace h1:=h1.keep (Zh.start col w0);refine Wp.cutK [0,1,1000000] (fun f am=>∃ an af,Zgb N ad ae af=some r∧St w0 (Zg col) an am∧[5].map f=[.int .i64 af]) ?_ ?_
 ·intro f am hJ;obtain ⟨an,af,hm,aa,hs⟩:=hJ;rw [Zgb.eq_1] at hm;refine .lL [5] hs<|go ?_;refine Zu [0,1,1000000] (fun n f ag=>∃ ab ah ac,ac=n∧Zdl N ad ae ac ah=some r∧St w0 (Zg col) ab ag∧[6].map f=[.int .i64 ah]) N ⟨_,_,_,rfl,hm,aa,rfl⟩ ?_;clear hm;intro n f ag hI;obtain ⟨ab,ah,ac,hn,hm,aa,hs⟩:=hI;subst hn;refine .lL [6] hs ?_
  cases ac with
  | zero=>rw [Zdl.eq_1] at hm;cases hm
  | succ ac=>
   rw [Zdl.eq_2] at hm;refine go ?_;refine Zm hm (fun hb hm=>go ?_) fun hb hm=>go ?_
   ·obtain ⟨au,ap,hm⟩:=bZ hm;refine Zi (Zcs ap (h0.ks aa)) ?_;rintro _ ao ⟨rfl,ai⟩;refine ⟨_,rfl,?_⟩;replace ai:Zf ab ag ab ao:=.of_below ai;refine go ?_;obtain ⟨av,aq,hm⟩:=bZ hm;replace aa:=aa.grow ai;refine Zi (Zcs aq (h1.ks aa)) ?_;rintro _ ar ⟨rfl,aj⟩;refine ⟨_,rfl,?_⟩;replace aj:Zf ab ao ab ar:=.of_below aj;refine go ?_;replace aa:=aa.grow aj;refine Zm hm (fun hb hm=>go ?_) fun hb hm=>go ?_
    ·cases hm;exact ⟨rfl,rfl,aa.below⟩
    refine Zm hm (fun hb hm=>go ?_) fun hb hm=>go ?_
    ·cases hm;exact ⟨rfl,rfl,aa.below⟩
    exact ⟨ac,by omega,rfl,⟨_,_,_,rfl,hm,aa,rfl⟩⟩
   cases hm;exact ⟨rfl,rfl,aa.below⟩
 refine go ?_;refine Zm hm (fun hb hm=>go ?_) fun hb hm=>?_
 ·exact ⟨rfl,_,_,hm,aa,rfl⟩
 refine Xr ?_;exact ⟨rfl,_,_,hm,aa,rfl⟩
def Zk8 (aa:Int) (kk_L1:(List Int→Int→Int→Option Ra)) (ab:List Int) (ac:Int):Option Ra:=
  kk_L1 ab ac (i64.wrap (aa+1))
def Zgj (aa:List Int) (ab:Int) (ae:Int) (kk_L1:(List Int→Int→Int→Option Ra)) (ac:Int) (af:Int) (ad:Int):Option Ra:=
  Z0 ((aa.length+[u32.wrap (u64.wrap (ad - (u64.wrap (ac+ab))))].length) * 4≤140737488355328∧aa.length+[u32.wrap (u64.wrap (ad - (u64.wrap (ac+ab))))].length≤maxLen) (Zk8 ae kk_L1 (aa++[u32.wrap (u64.wrap (ad - (u64.wrap (ac+ab))))]) af)
def Sr (N:Nat) (ab:List Int) (ac:List Int):Nat→R1→Int→Int→Option Ra
  | 0,_,_,_=>none
  | ah+1,ad,ae,aa=>if (decide (aa<(ab.length:Int)))=true then ((Ss ab aa).bind fun af=>(Ss ac aa).bind fun ag=>if (decide (af<(u64.wrap (ag+ae))))=true then (Zgj ad ae aa (Sr N ab ac ah) ag 1 (u64.wrap (af+4294967296))) else (Zgj ad ae aa (Sr N ab ac ah) ag 0 af)) else ((W6 N ad).bind fun ai=>some (ai,true))
termination_by structural x=>x
def Zbw (N:Nat) (aa:List Int) (ab:List Int):Option Ra:=
  (Zdk N aa ab).bind fun ac=>if (decide (ac<0))=true then (some (([]:List Int),false)) else (Sr N aa ab N ([]:List Int) 0 0)
theorem Zkg {N au av:Nat} {a0 a1:Option Addr} {col:Ze} {w0:World} {ae af:R1} {r:Ra} (c1:Nat) (hm:Zbw N ae af=some r) (h0:Sl (Za.int .u32) col w0 a0 au ae) (h1:Sl (Za.int .u32) col w0 a1 av af):
    Calls prog 228 #[.slice a0 ae.length au,.slice a1 af.length av] w0 (fun e w'=>∃ (col':Ze) (ra1:Option Addr) (rc2:Nat),e= .returned (.tuple #[.slice ra1 r.1.length rc2,.bool r.2])∧Zf col w0 col' w'∧Zc (Za.int .u32) 79 c1 col' w' ra1 rc2 r.1):=by
 refine Zko 4 5 (m:=43) (args:=[.slice a0 ae.length au,.slice a1 af.length av]) func228 rfl rfl rfl rfl rfl ?_;rw [Zbw.eq_1] at hm;have aa:=St.start col w0;refine go ?_;obtain ⟨bn,ba,hm⟩:=bZ hm;replace h0:=h0.keep (Zh.start col w0);replace h1:=h1.keep (Zh.start col w0);refine Zi (Zm9 ba (h0.ks aa) (h1.ks aa)) ?_;rintro _ bb ⟨rfl,aw⟩;refine ⟨_,rfl,?_⟩;replace aw:Zf (Zg col) w0 (Zg col) bb:=.of_below aw;refine go ?_;replace aa:=aa.grow aw;refine Zm hm (fun hb hm=>go ?_) fun hb hm=>go ?_
 ·cases hm;exact ⟨rfl,_,none,0,rfl,aa.fin (cm []),Zc.nil⟩
 refine Zu [0,1,1000000] (fun n f ah=>∃ ab ak al ag ai aj ad,ad=n∧Sr N ae af ad ag ai aj=some r∧St w0 (Zg col) ab ah∧Zc (Za.int .u32) 79 1 ab ah ak al ag∧[6,7,8].map f=[.slice ak ag.length al,.int .u64 ai,.int .i64 aj]) N ⟨_,none,0,_,0,0,_,rfl,hm,aa,Zc.nil,rfl⟩ ?_;clear hm;intro n f ah hI;obtain ⟨ab,ak,al,ag,ai,aj,ad,hn,hm,aa,ac,hs⟩:=hI;subst hn;refine .lL [6,7,8] hs ?_
 cases ad with
 | zero=>rw [Sr.eq_1] at hm;cases hm
 | succ ad=>
  rw [Sr.eq_2] at hm;refine go ?_;refine Zm hm (fun hb hm=>?_) fun hb hm=>go ?_
  ·refine Xr<|Zt ?_;refine Wp.cutK [0,1,8,1000000] (fun f ax=>∃ ay az a2 am a3,Zk8 aj (Sr N ae af ad) am a3=some r∧St w0 (Zg col) ay ax∧Zc (Za.int .u32) 79 1 ay ax az a2 am∧[6,7].map f=[.slice az am.length a2,.int .u64 a3]) ?_ ?_
   ·intro f ax hJ;obtain ⟨ay,az,a2,am,a3,hm,aa,bc,hs⟩:=hJ;rw [Zk8.eq_1] at hm;refine .lL [6,7] hs<|go ?_;exact ⟨ad,by omega,rfl,⟨_,_,_,_,_,_,_,rfl,hm,aa,bc,rfl⟩⟩
   refine go ?_;obtain ⟨bo,bd,hm⟩:=bZ hm;refine Zi (Zcs bd (h0.ks aa)) ?_;rintro _ a7 ⟨rfl,an⟩;refine ⟨_,rfl,?_⟩;replace an:Zf ab ah ab a7:=.of_below an;refine go ?_;obtain ⟨a8,be,hm⟩:=bZ hm;replace aa:=aa.grow an;refine Zi (Zcs be (h1.ks aa)) ?_;rintro _ bf ⟨rfl,ao⟩;refine ⟨_,rfl,?_⟩;replace ao:Zf ab a7 ab bf:=.of_below ao;refine Xn rfl<|lV _ (Za3 _ _ rfl rfl)<|Yh rfl<|Zo<|Zt<|Wa<|Yh rfl<|Zo<|Zt ?_;replace ac:=(ac.gr an).gr ao;replace aa:=aa.grow ao;refine Wp.cutK [0,1,10,6,8,1000000] (fun f a4=>∃ ap a5 aq,Zgj ag ai aj (Sr N ae af ad) a8 a5 aq=some r∧St w0 (Zg col) ap a4∧Zc (Za.int .u32) 79 1 ap a4 ak al ag∧[7,9].map f=[.int .u64 a5,.int .u64 aq]) ?_ ?_
   ·intro f a4 hJ;obtain ⟨ap,a5,aq,hm,aa,ac,hs⟩:=hJ;rw [Zgj.eq_1] at hm;refine .lL [7,9] hs<|go ?_;refine W5 (col:=ap) [u32.wrap (u64.wrap (aq - (u64.wrap (a8+ai))))] 2 ?_;intro bp bq br a9 bg;obtain ⟨bh,hm⟩:=Z3 hm;replace ac:=ac.gr a9;refine Wk ac (bg.srcN (NB.int (k:=.u32))) bh ?_;intro bs bt bu bv bi bj;refine go ?_;replace aa:=(aa.grow a9).kpp bi;exact ⟨rfl,_,_,_,_,_,hm,aa,bj,rfl⟩
   refine go ?_;refine Zm hm (fun hb hm=>go ?_) fun hb hm=>?_
   ·exact ⟨rfl,_,1,_,hm,aa,ac,rfl⟩
   refine Xr ?_;exact ⟨rfl,_,0,_,hm,aa,ac,rfl⟩
  obtain ⟨bw,bk,hm⟩:=bZ hm;refine Zi (V0 3 bk (ac.toSlF (Zj.int .u32))) ?_;rintro _ bx ⟨bm,bz,b0,rfl,ar,a6⟩;refine ⟨_,rfl,?_⟩;replace a6:=a6.thaw (Z2 .u32) ar ((Fz.refl (col:=ab)).froz 1) (by decide);replace ar:=ar.thawR (col:=ab);generalize Z7 ah.heap.size ab bm=b1 at *;refine go ?_;cases hm;replace aa:=aa.grow ar;exact ⟨rfl,_,_,_,rfl,aa.fin (cm [(3,c1)]),aa.fo a6⟩
def Zgd (aa:Int) (kk_L1:(List Int→Int→R1→Option R8)) (ab:List Int) (ac:List Int):Option R8:=
  kk_L1 ab (i64.wrap (aa - 1)) ac
def Zak (N:Nat) (ad:List Int) (ab:List Int):Nat→R1→Int→R1→Option R8
  | 0,_,_,_=>none
  | af+1,ag,aa,ac=>if (decide (0≤aa))=true then ((Zim ad aa).bind fun ah=>(Zgk N ag ah).bind fun ai=>(W6 N ai).bind fun ae=>(Zdk N ae ab).bind fun aj=>if (decide (0≤aj))=true then ((Zbw N ae ab).bind fun ak=>(Zl ac (i64.wrap (Int.tdiv aa 32))).bind fun al=>Z0 (0≤(Int.tmod aa 32)) ((some (ac.set (Int.toNat (i64.wrap (Int.tdiv aa 32))) (u32.wrap (al+(Xp .u32 1 (Int.tmod aa 32)))))).bind fun am=>Zgd aa (Zak N ad ab af) ak.1 am)) else (Zgd aa (Zak N ad ab af) ae ac)) else ((W6 N ac).bind fun an=>some (an,ag,0))
termination_by structural x=>x
def Zgc (N:Nat) (ab:List Int) (ad:List Int):Option R8:=
  (W6 N ad).bind fun ac=>if (decide ((ac.length:Int)=0))=true then (some (([]:List Int),([]:List Int),11)) else ((Zin N ab).bind fun aa=>Z0 ((Int.toNat (i64.wrap (Int.tdiv (i64.wrap (aa+31)) 32))) * 4≤281474976710656∧(Int.toNat (i64.wrap (Int.tdiv (i64.wrap (aa+31)) 32)))≤maxLen∧0≤(i64.wrap (Int.tdiv (i64.wrap (aa+31)) 32))) (Zak N ab ac N ([]:List Int) (i64.wrap (aa - 1)) (List.replicate (Int.toNat (i64.wrap (Int.tdiv (i64.wrap (aa+31)) 32))) (0:Int))))
theorem Zpt {N bd be:Nat} {a0 a1:Option Addr} {col:Ze} {w0:World} {ak a4:R1} {r:R8} (c1 c2:Nat) (hm:Zgc N ak a4=some r) (h0:Sl (Za.int .u32) col w0 a0 bd ak) (h1:Sl (Za.int .u32) col w0 a1 be a4):
    Calls prog 272 #[.slice a0 ak.length bd,.slice a1 a4.length be] w0 (fun e w'=>∃ (col':Ze) (ra1:Option Addr) (rc2:Nat) (ra4:Option Addr) (rc5:Nat),e= .returned (.tuple #[.slice ra1 r.1.length rc2,.slice ra4 r.2.1.length rc5,.int .i64 r.2.2])∧Zf col w0 col' w'∧Zc (Za.int .u32) 79 c1 col' w' ra1 rc2 r.1∧Zc (Za.int .u32) 79 c2 col' w' ra4 rc5 r.2.1):=by
 refine Zp8 4 5 6 (m:=61) (args:=[.slice a0 ak.length bd,.slice a1 a4.length be]) func272 rfl rfl rfl rfl rfl ?_;rw [Zgc.eq_1] at hm;have aa:=St.start col w0;refine go ?_;obtain ⟨a5,b3,hm⟩:=bZ hm;replace h1:=h1.keep (Zh.start col w0);refine Zi (V0 1 b3 (h1.ks aa)) ?_;rintro _ b4 ⟨bf,bt,bu,rfl,b5,ab⟩;refine ⟨_,rfl,go ?_⟩;replace h0:=h0.keep (Zh.start col w0);replace aa:=aa.grow b5;refine Zm hm (fun hb hm=>go ?_) fun hb hm=>go ?_
 ·cases hm;exact ⟨rfl,_,none,0,none,0,rfl,aa.fin (cm []),Zc.nil,Zc.nil⟩
 obtain ⟨bg,b6,hm⟩:=bZ hm;refine Zi (Zx3 b6 (h0.ks aa)) ?_;rintro _ bv ⟨rfl,a6⟩;refine ⟨_,rfl,?_⟩;replace a6:Zf bf b4 bf bv:=.of_below a6;refine go ?_;refine lV (.int .i64 (i64.wrap (Int.tdiv (i64.wrap (bg+31)) 32))) (Vq (i64.wrap (bg+31)) 32 rfl rfl (by decide)) ?_;obtain ⟨a7,hm⟩:=Z3 hm;refine Si (col:=bf) (w:=bv) (r:=(Za.int .u32)) (n:=(Int.toNat (i64.wrap (Int.tdiv (i64.wrap (bg+31)) 32)))) (x0:=0) 2 rfl underlying43 Tryz.t79 rfl rfl rfl rfl rfl (congrArg (Value.int _) (Int.toNat_of_nonneg a7.2.2).symm) (congrArg (Value.int _) (Int.toNat_of_nonneg a7.2.2).symm) a7.1 a7.2.1 (Q1 .u32 0) ?_;intro cp cq cr bw b7;refine go ?_;replace ab:=(ab.gr a6).gr bw;replace aa:=(aa.grow a6).grow bw;refine Zu [0,7,1000000] (fun n f ai=>∃ ae bh bi a8 ac av aw al aj,aj=n∧Zak N ak a5 aj a8 ac al=some r∧St w0 (Zg col) ae ai∧Zc (Za.int .u32) 79 3 ae ai bh bi a8∧Zc (Za.int .u32) 79 1 ae ai bt bu a5∧Zc (Za.int .u32) 79 2 ae ai av aw al∧[10,11,9].map f=[.slice bh a8.length bi,.int .i64 ac,.slice av al.length aw]) N ⟨_,none,0,_,_,_,_,_,_,rfl,hm,aa,Zc.nil,ab,b7,rfl⟩ ?_;clear hm;intro n f ai hI;obtain ⟨ae,bh,bi,a8,ac,av,aw,al,aj,hn,hm,aa,am,ab,ad,hs⟩:=hI;subst hn;refine .lL [10,11,9] hs ?_
 cases aj with
 | zero=>rw [Zak.eq_1] at hm;cases hm
 | succ aj=>
  rw [Zak.eq_2] at hm;refine go ?_;refine Zm hm (fun hb hm=>?_) fun hb hm=>go ?_
  ·refine Xr<|Zt ?_;refine Wp.cutK [0,11,7,1000000] (fun f ax=>∃ ay bj bk a9 bm bn ba,Zgd ac (Zak N ak a5 aj) a9 ba=some r∧St w0 (Zg col) ay ax∧Zc (Za.int .u32) 79 3 ay ax bj bk a9∧Zc (Za.int .u32) 79 1 ay ax bt bu a5∧Zc (Za.int .u32) 79 2 ay ax bm bn ba∧[10,9].map f=[.slice bj a9.length bk,.slice bm ba.length bn]) ?_ ?_
   ·intro f ax hJ;obtain ⟨ay,bj,bk,a9,bm,bn,ba,hm,aa,b8,ab,b9,hs⟩:=hJ;rw [Zgd.eq_1] at hm;refine .lL [10,9] hs<|go ?_;exact ⟨aj,by omega,rfl,⟨_,_,_,_,_,_,_,_,_,rfl,hm,aa,b8,ab,b9,rfl⟩⟩
   refine go ?_;obtain ⟨cs,ca,hm⟩:=bZ hm;refine Zi (Zx2 ca (h0.ks aa)) ?_;rintro _ bx ⟨rfl,an⟩;refine ⟨_,rfl,?_⟩;replace an:Zf ae ai ae bx:=.of_below an;obtain ⟨ct,cb,hm⟩:=bZ hm;replace am:=am.gr an;refine Zi (Zpw 4 cb (am.toSlF (Zj.int .u32))) ?_;rintro _ cc ⟨cd,cu,cv,rfl,ao,bo⟩;refine ⟨_,rfl,?_⟩;replace bo:=bo.thaw (Z2 .u32) ao ((Fz.refl (col:=ae)).froz 3) (by decide);replace ao:=ao.thawR (col:=ae);generalize Z7 bx.heap.size ae cd=bp at *;obtain ⟨cw,ce,hm⟩:=bZ hm;refine Zi (V0 5 ce (bo.toSlF (Zj.int .u32))) ?_;rintro _ cf ⟨cg,cx,cy,rfl,ap,af⟩;refine ⟨_,rfl,?_⟩;replace af:=af.thaw (Z2 .u32) ap ((Fz.refl (col:=bp)).froz 4) (by decide);replace ap:=ap.thawR (col:=bp);generalize Z7 cc.heap.size bp cg=az at *;refine go ?_;obtain ⟨cz,ch,hm⟩:=bZ hm;replace ab:=((ab.gr an).gr ao).gr ap;refine Zi (Zm9 ch ((af.toSlF (Zj.int .u32)).froz 1) ((ab.froz 5 (by decide)).toSlF (Zj.int .u32))) ?_;rintro _ bz ⟨rfl,aq⟩;refine ⟨_,rfl,?_⟩;replace aq:Zf az cf az bz:=.of_below aq;refine go ?_;replace ad:=(((ad.gr an).gr ao).gr ap).gr aq;replace aa:=(((aa.grow an).grow ao).grow ap).grow aq;replace ab:=ab.gr aq;replace af:=af.gr aq;refine Zm hm (fun hb hm=>go ?_) fun hb hm=>?_
   ·obtain ⟨bb,ci,hm⟩:=bZ hm;refine Zi (Zkg 6 ci ((af.toSlF (Zj.int .u32)).froz 1) ((ab.froz 5 (by decide)).toSlF (Zj.int .u32))) ?_;rintro _ c0 ⟨cj,b0,b1,rfl,ar,ag⟩;refine ⟨_,rfl,?_⟩;replace ag:=ag.thaw (Z2 .u32) ar (((Fz.refl (col:=az)).froz 5).froz 1) (by decide);replace ar:=ar.thawR (col:=az);generalize Z7 bz.heap.size az cj=a2 at *;refine lM (.tuple #[.slice b0 bb.1.length b1,.bool bb.2])<|lV (.slice b0 bb.1.length b1) (Xq rfl rfl)<|lV (.bool bb.2) (Xq rfl rfl)<|go ?_;refine W9 (col:=a2) [(0,1),(1,1),(2,1),(3,1),(4,1),(5,1),(6,1),(7,0),(8,1),(9,1),(10,1),(11,1),(12,1),(13,2)] (by kernel_rfl) (by kernel_rfl)<|xu rfl rfl (fun _=>Qz rfl) ?_;refine xu rfl rfl (fun _=>W7 rfl) ?_;refine xu (v:=(.int .i64 (i64.wrap (Int.tdiv ac 32)))) rfl rfl (fun _=>Vq ac 32 rfl rfl (by decide)) ?_;refine xu rfl rfl (fun _=>Qz rfl) ?_;refine xu rfl rfl (fun _=>W7 rfl) ?_;refine xu (v:=(.int .i64 (i64.wrap (Int.tdiv ac 32)))) rfl rfl (fun _=>Vq ac 32 rfl rfl (by decide)) ?_;obtain ⟨b2,ah,hm⟩:=bZ hm;replace ad:=ad.gr ar;refine xu rfl rfl (fun _=>Wt underlying43 sizeOf79 rfl rfl (Xy ah).1 (Xy ah).2.1 (ad.addr ah)) ?_;refine xW (fun _ hC=>(ad.gr (hC.bl a2)).atInt ah) ?_;refine xu rfl rfl (fun _=>W7 rfl) ?_;refine xu (v:=(.int .i64 (Int.tmod ac 32))) rfl rfl (fun _=>S3 ac 32 rfl rfl (by decide)) ?_;obtain ⟨ck,hm⟩:=Z3 hm;refine xu (v:=(.int .u32 (Xp .u32 1 (Int.tmod ac 32)))) rfl rfl (fun _=>Zem 1 (Int.tmod ac 32) rfl rfl ck) ?_;refine xu rfl rfl (fun _=>Za3 _ _ rfl rfl) ?_;refine xu rfl rfl (fun _=>Wt underlying43 sizeOf79 rfl rfl (Xy ah).1 (Xy ah).2.1 (ad.addr ah)) ?_;refine xe rfl rfl ?_;intro c3 hC0;have hC:=hC0.bl a2;obtain ⟨bq,bc,hm⟩:=bZ hm;have bc:bq=al.set (Int.toNat (i64.wrap (Int.tdiv ac 32))) (u32.wrap (b2+(Xp .u32 1 (Int.tmod ac 32)))):=(Option.some.inj bc).symm;replace ad:=ad.gr hC;refine Yu (x1:=u32.wrap (b2+(Xp .u32 1 (Int.tmod ac 32)))) ad ah ?_;intro c4 br cl au;rw [← bc] at au;refine .ld (d:=9) (v:=(.slice av bq.length aw)) (congrArg (fun n=>Value.slice av n aw) (show al.length=bq.length by rw [bc,nS])) ?_;refine Zo<|xk a2<|Wu ?_;replace ab:=((ab.gr ar).gr hC).kp br;replace aa:=((aa.grow ar).grow hC).kp br cl;replace ag:=(ag.gr hC).kp br;intro c5 hC;replace hC:=hC.bl a2;replace ab:=ab.gr hC;replace ab:=ab.recol 6 3 (by decide);replace au:=au.gr hC
    replace au:=au.recol 6 3 (by decide);replace ag:=ag.gr hC;replace ag:=ag.recolSelf 3 (by decide);replace aa:=aa.grow hC;replace aa:=aa.recol 6 3 (by decide) (by decide);exact ⟨rfl,_,_,_,_,_,_,_,hm,aa,ag,ab,au,rfl⟩
   refine Xr ?_;replace ab:=ab.recol 5 3 (by decide);replace ad:=ad.recol 5 3 (by decide);replace af:=af.recolSelf 3 (by decide);replace aa:=aa.recol 5 3 (by decide) (by decide);exact ⟨rfl,_,_,_,_,_,_,_,hm,aa,af,ab,ad,rfl⟩
  obtain ⟨c6,cn,hm⟩:=bZ hm;refine Zi (V0 7 cn (ad.toSlF (Zj.int .u32))) ?_;rintro _ c7 ⟨co,c8,c9,rfl,a3,bs⟩;refine ⟨_,rfl,?_⟩;replace bs:=bs.thaw (Z2 .u32) a3 ((Fz.refl (col:=ae)).froz 2) (by decide);replace a3:=a3.thawR (col:=ae);generalize Z7 ai.heap.size ae co=da at *;refine go ?_;cases hm;replace am:=am.gr a3;replace aa:=aa.grow a3;exact ⟨rfl,_,_,_,_,_,rfl,aa.fin (cm [(7,c1),(3,c2)]),aa.fo bs,aa.fo am⟩
def Ziq (aa:Bool):Option Bool:=
  some aa
def Zbx (aa:List Int):Option Bool:=
  if (decide ((aa.length:Int)=0))=true then (Ziq true) else ((Zl aa 0).bind fun ab=>Ziq (decide ((Int.tmod ab 2)=0)))
theorem Zkh {ag:Nat} {a0:Option Addr} {col:Ze} {w0:World} {ab:R1} {r:Bool} (hm:Zbx ab=some r) (h0:Sl (Za.int .u32) col w0 a0 ag ab):
    Calls prog 289 #[.slice a0 ab.length ag] w0 (fun e w'=>e= .returned ((.bool r))∧Below w0.heap.size w0 w'):=by
 refine Z1 2 (m:=13) func289 rfl rfl rfl rfl rfl ?_;rw [Zbx.eq_1] at hm;have aa:=St.start col w0;refine Zt<|Wa<|Zcw rfl<|Zo<|Zt ?_;replace h0:=h0.keep (Zh.start col w0);refine Wp.cutK [1000000] (fun f ah=>∃ ai ac,Ziq ac=some r∧St w0 (Zg col) ai ah∧[2].map f=[.bool ac]) ?_ ?_
 ·intro f ah hJ;obtain ⟨ai,ac,hm,aa,hs⟩:=hJ;rw [Ziq.eq_1] at hm;refine .lL [2] hs<|Wh ?_;cases hm;exact ⟨rfl,rfl,aa.below⟩
 refine go ?_;refine Xu hm (fun ad hm=>go ?_) fun ad hm=>go ?_
 ·refine lV (.bool true) (Xg (congrArg Value.bool ad) rfl)<|go ?_;exact ⟨rfl,_,_,hm,aa,rfl⟩
 obtain ⟨ae,af,hm⟩:=bZ hm;refine lI af ((h0.ks aa).addr af) ?_;refine go ?_;refine lW ((h0.ks aa).atInt af)<|go ?_;refine lV (.int .u32 (Int.tmod ae 2)) (S3 ae 2 rfl rfl (by decide))<|go ?_;refine lV (.bool (decide ((Int.tmod ae 2)=0))) (Xt (congrArg Value.bool ad) rfl)<|go ?_;exact ⟨rfl,_,_,hm,aa,rfl⟩
def Zdr (N:Nat) (ac:List Int):Nat→R1→Int→Int→Option R1
  | 0,_,_,_=>none
  | af+1,ab,ad,aa=>if (decide (0≤aa))=true then ((Zl ac aa).bind fun ae=>(Zl ab aa).bind fun ai=>(some (ab.set (Int.toNat aa) (u32.wrap (u64.wrap (Int.tdiv (u64.wrap ((u64.wrap (ad * 4294967296))+(u64.wrap ae))) 2))))).bind fun ag=>(Zdr N ac af) ag (Int.tmod (u64.wrap ((u64.wrap (ad * 4294967296))+(u64.wrap ae))) 2) (i64.wrap (aa - 1))) else ((W6 N ab).bind fun ah=>some ah)
termination_by structural x=>x
def Zby (N:Nat) (aa:List Int):Option R1:=
  Z0 (aa.length * 4≤281474976710656∧aa.length≤maxLen) (Zdr N aa N (List.replicate aa.length (0:Int)) 0 (i64.wrap ((aa.length:Int) - 1)))
theorem Zki {N au:Nat} {a0:Option Addr} {col:Ze} {w0:World} {ag r:R1} (c1:Nat) (hm:Zby N ag=some r) (h0:Sl (Za.int .u32) col w0 a0 au ag):
    Calls prog 290 #[.slice a0 ag.length au] w0 (fun e w'=>∃ (col':Ze) (ra1:Option Addr) (rc2:Nat),e= .returned ((.slice ra1 r.length rc2))∧Zf col w0 col' w'∧Zc (Za.int .u32) 79 c1 col' w' ra1 rc2 r):=by
 refine Z1 2 (m:=34) func290 rfl rfl rfl rfl rfl ?_;rw [Zby.eq_1] at hm;have aa:=St.start col w0;refine go ?_;obtain ⟨av,hm⟩:=Z3 hm;refine Si (col:=(Zg col)) (w:=w0) (r:=(Za.int .u32)) (n:=ag.length) (x0:=0) 1 rfl underlying43 Tryz.t79 rfl rfl rfl rfl rfl rfl rfl av.1 av.2 (Q1 .u32 0) ?_;intro a4 a5 a6 ax ay;refine go ?_;replace aa:=aa.grow ax;refine Zu [0,1000000] (fun n f aj=>∃ ac ah ai ad ab ak ae,ae=n∧Zdr N ag ae ad ab ak=some r∧St w0 (Zg col) ac aj∧Zc (Za.int .u32) 79 1 ac aj ah ai ad∧[3,4,5].map f=[.slice ah ad.length ai,.int .u64 ab,.int .i64 ak]) N ⟨_,_,_,_,0,_,_,rfl,hm,aa,ay,rfl⟩ ?_;clear hm;intro n f aj hI;obtain ⟨ac,ah,ai,ad,ab,ak,ae,hn,hm,aa,an,hs⟩:=hI;subst hn;refine .lL [3,4,5] hs ?_;replace h0:=h0.keep (Zh.start col w0)
 cases ae with
 | zero=>rw [Zdr.eq_1] at hm;cases hm
 | succ ae=>
  rw [Zdr.eq_2] at hm;refine go ?_;refine Zm hm (fun hb hm=>go ?_) fun hb hm=>go ?_
  ·obtain ⟨af,ao,hm⟩:=bZ hm;refine lI ao ((h0.ks aa).addr ao)<|lW ((h0.ks aa).atInt ao) ?_;refine go ?_;refine lV (.int .u64 (u64.wrap (Int.tdiv (u64.wrap ((u64.wrap (ab * 4294967296))+(u64.wrap af))) 2))) (Vq (u64.wrap ((u64.wrap (ab * 4294967296))+(u64.wrap af))) 2 rfl rfl (by decide))<|go ?_;obtain ⟨a7,ap,hm⟩:=bZ hm;refine lI ap (an.addr ap) ?_;obtain ⟨aq,al,hm⟩:=bZ hm;have al:aq=ad.set (Int.toNat ak) (u32.wrap (u64.wrap (Int.tdiv (u64.wrap ((u64.wrap (ab * 4294967296))+(u64.wrap af))) 2))):=(Option.some.inj al).symm;refine Yu (x1:=u32.wrap (u64.wrap (Int.tdiv (u64.wrap ((u64.wrap (ab * 4294967296))+(u64.wrap af))) 2))) an ap ?_;intro a8 az a1 aw;rw [← al] at aw;refine .ld (d:=3) (v:=(.slice ah aq.length ai)) (congrArg (fun n=>Value.slice ah n ai) (show ad.length=aq.length by rw [al,nS])) ?_;refine go ?_;refine lV (.int .u64 (Int.tmod (u64.wrap ((u64.wrap (ab * 4294967296))+(u64.wrap af))) 2)) (S3 (u64.wrap ((u64.wrap (ab * 4294967296))+(u64.wrap af))) 2 rfl rfl (by decide))<|go ?_;replace aa:=aa.kp az a1;exact ⟨ae,by omega,rfl,⟨_,_,_,_,_,_,_,rfl,hm,aa,aw,rfl⟩⟩
  obtain ⟨a9,a2,hm⟩:=bZ hm;refine Zi (V0 2 a2 (an.toSlF (Zj.int .u32))) ?_;rintro _ ba ⟨a3,bb,bc,rfl,am,ar⟩;refine ⟨_,rfl,?_⟩;replace ar:=ar.thaw (Z2 .u32) am ((Fz.refl (col:=ac)).froz 1) (by decide);replace am:=am.thawR (col:=ac);generalize Z7 aj.heap.size ac a3=bd at *;refine go ?_;cases hm;replace aa:=aa.grow am;exact ⟨rfl,_,_,_,rfl,aa.fin (cm [(2,c1)]),aa.fo ar⟩
def Zgf (N:Nat) (kk_L2:(List Int→R1→Option R1)) (aa:List Int) (ab:List Int):Option R1:=
  (Zbw N ab aa).bind fun ac=>kk_L2 aa ac.1
def Zip (N:Nat) (kk_L2:(List Int→R1→Option R1)) (ab:List Int) (aa:List Int) (kk_L4:(List Int→Option R1)) (ac:Bool):Option R1:=
  if ac=true then ((Zby N aa).bind fun ad=>kk_L4 ad) else ((Zdk N ab aa).bind fun ae=>if (decide (0<ae))=true then (Zgf N kk_L2 aa ab) else (Zgf N kk_L2 ab aa))
def Qr (N:Nat) (kk_L2:(List Int→R1→Option R1)) (aa:List Int):Nat→R1→Option R1
  | 0,_=>none
  | ac+1,ab=>if (decide (0<(ab.length:Int)))=true then ((Zbx ab).bind fun ad=>Zip N kk_L2 aa ab (Qr N kk_L2 aa ac) ad) else (Zip N kk_L2 aa ab (Qr N kk_L2 aa ac) false)
termination_by structural x=>x
def Zdm (N:Nat) (ab:List Int) (kk_L2:(List Int→R1→Option R1)):Nat→R1→Option R1
  | 0,_=>none
  | ac+1,aa=>(Zbx aa).bind fun ad=>if ad=true then ((Zby N aa).bind fun ae=>(Zdm N ab kk_L2 ac) ae) else (Qr N kk_L2 aa N ab)
termination_by structural x=>x
def Zdn (N:Nat) (aa:Int):Nat→R1→Int→Option R1
  | 0,_,_=>none
  | ad+1,ab,ac=>if (decide (ac<aa))=true then ((Zgk N ab 0).bind fun ae=>(Zdn N aa ad) ae (i64.wrap (ac+1))) else (some ab)
termination_by structural x=>x
def Vn (N:Nat) (aa:Int):Nat→R1→R1→Option R1
  | 0,_,_=>none
  | ad+1,ab,ac=>if (decide (0<(ac.length:Int)))=true then (Zdm N ac (Vn N aa ad) N ab) else (Zdn N aa N ab 0)
termination_by structural x=>x
def Zge (N:Nat) (aa:List Int) (ab:List Int) (ac:Int) (kk_L1:(List Int→R1→Int→Option R1)) (ad:Bool):Option R1:=
  if ad=true then ((Zby N aa).bind fun ae=>(Zby N ab).bind fun af=>kk_L1 ae af (i64.wrap (ac+1))) else (Vn N ac N aa ab)
def Zal (N:Nat):Nat→R1→R1→Int→Option R1
  | 0,_,_,_=>none
  | ac+1,aa,ab,ad=>(Zbx aa).bind fun ae=>if ae=true then ((Zbx ab).bind fun af=>Zge N aa ab ad (Zal N ac) af) else (Zge N aa ab ad (Zal N ac) false)
termination_by structural x=>x
def Zio (N:Nat) (ac:List Int) (ad:List Int):Option R1:=
  (W6 N ac).bind fun aa=>(W6 N ad).bind fun ab=>if (decide ((aa.length:Int)=0))=true then (some ab) else (if (decide ((ab.length:Int)=0))=true then (some aa) else (Zal N N aa ab 0))
theorem Zx4 {N cs ct:Nat} {a0 a1:Option Addr} {col:Ze} {w0:World} {cb cc r:R1} (c1:Nat) (hm:Zio N cb cc=some r) (h0:Sl (Za.int .u32) col w0 a0 cs cb) (h1:Sl (Za.int .u32) col w0 a1 ct cc):
    Calls prog 271 #[.slice a0 cb.length cs,.slice a1 cc.length ct] w0 (fun e w'=>∃ (col':Ze) (ra1:Option Addr) (rc2:Nat),e= .returned ((.slice ra1 r.length rc2))∧Zf col w0 col' w'∧Zc (Za.int .u32) 79 c1 col' w' ra1 rc2 r):=by
 refine Z1 4 (m:=69) func271 rfl rfl rfl rfl rfl ?_;rw [Zio.eq_1] at hm;have aa:=St.start col w0;refine go ?_;obtain ⟨dw,c3,hm⟩:=bZ hm;replace h0:=h0.keep (Zh.start col w0);refine Zi (V0 1 c3 (h0.ks aa)) ?_;rintro _ dx ⟨dy,dz,d0,rfl,c4,bs⟩;refine ⟨_,rfl,go ?_⟩;obtain ⟨d1,c5,hm⟩:=bZ hm;replace h1:=h1.keep (Zh.start col w0);replace aa:=aa.grow c4;refine Zi (V0 2 c5 (h1.ks aa)) ?_;rintro _ d2 ⟨d3,d4,d5,rfl,cu,cv⟩;refine ⟨_,rfl,go ?_⟩;replace bs:=bs.gr cu;replace aa:=aa.grow cu;refine Zm hm (fun hb hm=>go ?_) fun hb hm=>go ?_
 ·cases hm;exact ⟨rfl,_,_,_,rfl,aa.fin (cm [(2,c1)]),aa.fo cv⟩
 refine Zm hm (fun hb hm=>go ?_) fun hb hm=>go ?_
 ·cases hm;exact ⟨rfl,_,_,_,rfl,aa.fin (cm [(1,c1)]),aa.fo bs⟩
 refine Zu [1000000] (fun n f a6=>∃ am bt bu au bv bw av ae an,an=n∧Zal N an au av ae=some r∧St w0 (Zg col) am a6∧Zc (Za.int .u32) 79 1 am a6 bt bu au∧Zc (Za.int .u32) 79 2 am a6 bv bw av∧[5,6,7].map f=[.slice bt au.length bu,.slice bv av.length bw,.int .i64 ae]) N ⟨_,_,_,_,_,_,_,0,_,rfl,hm,aa,bs,cv,rfl⟩ ?_;clear hm;intro n f a6 hI;obtain ⟨am,bt,bu,au,bv,bw,av,ae,an,hn,hm,aa,ag,ad,hs⟩:=hI;subst hn;refine .lL [5,6,7] hs ?_
 cases an with
 | zero=>rw [Zal.eq_1] at hm;cases hm
 | succ an=>
  rw [Zal.eq_2] at hm;refine Zt<|Zt ?_;refine Wp.cutK [5,6,7,1000000] (fun f a7=>∃ ao cd,Zge N au av ae (Zal N an) cd=some r∧St w0 (Zg col) ao a7∧Zc (Za.int .u32) 79 1 ao a7 bt bu au∧Zc (Za.int .u32) 79 2 ao a7 bv bw av∧[26].map f=[.bool cd]) ?_ ?_
  ·intro f a7 hJ;obtain ⟨ao,cd,hm,aa,ag,ad,hs⟩:=hJ;rw [Zge.eq_1] at hm;refine .lL [26] hs ?_;refine Zm hm (fun hb hm=>go ?_) fun hb hm=>go ?_
   ·obtain ⟨d6,c6,hm⟩:=bZ hm;refine Zi (Zki 3 c6 (ag.toSlF (Zj.int .u32))) ?_;rintro _ c7 ⟨c8,d7,d8,rfl,a8,ai⟩;refine ⟨_,rfl,?_⟩;replace ai:=ai.thaw (Z2 .u32) a8 ((Fz.refl (col:=ao)).froz 1) (by decide);replace a8:=a8.thawR (col:=ao);generalize Z7 a7.heap.size ao c8=ce at *;refine go ?_;obtain ⟨d9,c9,hm⟩:=bZ hm;replace ad:=ad.gr a8;refine Zi (Zki 4 c9 (ad.toSlF (Zj.int .u32))) ?_;rintro _ ea ⟨da,eb,ec,rfl,a9,ap⟩;refine ⟨_,rfl,?_⟩;replace ap:=ap.thaw (Z2 .u32) a9 ((Fz.refl (col:=ce)).froz 2) (by decide);replace a9:=a9.thawR (col:=ce);generalize Z7 c7.heap.size ce da=ed at *;refine go ?_;replace ai:=ai.gr a9;replace ai:=ai.recolSelf 1 (by decide);replace ap:=ap.recol 3 1 (by decide);replace aa:=(aa.grow a8).grow a9;replace aa:=aa.recol 3 1 (by decide) (by decide);replace ai:=ai.recol 4 2 (by decide);replace ap:=ap.recolSelf 2 (by decide);replace aa:=aa.recol 4 2 (by decide) (by decide);exact ⟨an,by omega,rfl,⟨_,_,_,_,_,_,_,_,_,rfl,hm,aa,ai,ap,rfl⟩⟩
   refine Zu [7,1000000] (fun n f bx=>∃ bz cf cg b0 b1 b2 aw af,af=n∧Vn N ae af b0 aw=some r∧St w0 (Zg col) bz bx∧Zc (Za.int .u32) 79 1 bz bx cf cg b0∧Zc (Za.int .u32) 79 2 bz bx b1 b2 aw∧[5,6].map f=[.slice cf b0.length cg,.slice b1 aw.length b2]) N ⟨_,_,_,_,_,_,_,_,rfl,hm,aa,ag,ad,rfl⟩ ?_;clear hm;intro n f bx hI;obtain ⟨bz,cf,cg,b0,b1,b2,aw,af,hn,hm,aa,cw,ah,hs⟩:=hI;subst hn;refine .lL [5,6] hs ?_
   cases af with
   | zero=>rw [Vn.eq_1] at hm;cases hm
   | succ af=>
    rw [Vn.eq_2] at hm;refine go ?_;refine Zm hm (fun hb hm=>go ?_) fun hb hm=>go ?_
    ·refine Zu [6,7,1000000] (fun n f ba=>∃ aj bb bc ak ax,ax=n∧Zdm N aw (Vn N ae af) ax ak=some r∧St w0 (Zg col) aj ba∧Zc (Za.int .u32) 79 1 aj ba bb bc ak∧Zc (Za.int .u32) 79 2 aj ba b1 b2 aw∧[5].map f=[.slice bb ak.length bc]) N ⟨_,_,_,_,_,rfl,hm,aa,cw,ah,rfl⟩ ?_;clear hm;intro n f ba hI;obtain ⟨aj,bb,bc,ak,ax,hn,hm,aa,ab,ah,hs⟩:=hI;subst hn;refine .lL [5] hs ?_
     cases ax with
     | zero=>rw [Zdm.eq_1] at hm;cases hm
     | succ ax=>
      rw [Zdm.eq_2] at hm;refine go ?_;obtain ⟨ee,db,hm⟩:=bZ hm;refine Zi (Zkh db (ab.toSlF (Zj.int .u32))) ?_;rintro _ cx ⟨rfl,bd⟩;refine ⟨_,rfl,?_⟩;replace bd:Zf aj ba aj cx:=.of_below bd;refine Zo ?_;replace ab:=ab.gr bd;replace ah:=ah.gr bd;replace aa:=aa.grow bd;refine Zm hm (fun hb hm=>go ?_) fun hb hm=>go ?_
      ·obtain ⟨ef,dc,hm⟩:=bZ hm;refine Zi (Zki 5 dc (ab.toSlF (Zj.int .u32))) ?_;rintro _ eg ⟨dd,eh,ei,rfl,be,bf⟩;refine ⟨_,rfl,?_⟩;replace bf:=bf.thaw (Z2 .u32) be ((Fz.refl (col:=aj)).froz 1) (by decide);replace be:=be.thawR (col:=aj);generalize Z7 cx.heap.size aj dd=ej at *;refine go ?_;replace ah:=ah.gr be;replace ah:=ah.recol 5 1 (by decide);replace bf:=bf.recolSelf 1 (by decide);replace aa:=aa.grow be;replace aa:=aa.recol 5 1 (by decide) (by decide);exact ⟨ax,by omega,rfl,⟨_,_,_,_,_,rfl,hm,aa,bf,ah,rfl⟩⟩
      refine Zu [5,7,1000000] (fun n f bg=>∃ ay b3 b4 az aq,aq=n∧Qr N (Vn N ae af) ak aq az=some r∧St w0 (Zg col) ay bg∧Zc (Za.int .u32) 79 1 ay bg bb bc ak∧Zc (Za.int .u32) 79 2 ay bg b3 b4 az∧[6].map f=[.slice b3 az.length b4]) N ⟨_,_,_,_,_,rfl,hm,aa,ab,ah,rfl⟩ ?_;clear hm;intro n f bg hI;obtain ⟨ay,b3,b4,az,aq,hn,hm,aa,ab,ac,hs⟩:=hI;subst hn;refine .lL [6] hs ?_
      cases aq with
      | zero=>rw [Qr.eq_1] at hm;cases hm
      | succ aq=>
       rw [Qr.eq_2] at hm;refine Zt<|Zt ?_;refine Wp.cutK [5,6,7,1000000] (fun f a2=>∃ al ch,Zip N (Vn N ae af) ak az (Qr N (Vn N ae af) ak aq) ch=some r∧St w0 (Zg col) al a2∧Zc (Za.int .u32) 79 1 al a2 bb bc ak∧Zc (Za.int .u32) 79 2 al a2 b3 b4 az∧[46].map f=[.bool ch]) ?_ ?_
       ·intro f a2 hJ;obtain ⟨al,ch,hm,aa,ab,ac,hs⟩:=hJ;rw [Zip.eq_1] at hm;refine .lL [46] hs ?_;refine Zm hm (fun hb hm=>go ?_) fun hb hm=>?_
        ·obtain ⟨ek,de,hm⟩:=bZ hm;refine Zi (Zki 6 de (ac.toSlF (Zj.int .u32))) ?_;rintro _ el ⟨df,em,en,rfl,bh,bi⟩;refine ⟨_,rfl,?_⟩;replace bi:=bi.thaw (Z2 .u32) bh ((Fz.refl (col:=al)).froz 2) (by decide);replace bh:=bh.thawR (col:=al);generalize Z7 a2.heap.size al df=eo at *;refine go ?_;replace ab:=ab.gr bh;replace ab:=ab.recol 6 2 (by decide);replace bi:=bi.recolSelf 2 (by decide);replace aa:=aa.grow bh;replace aa:=aa.recol 6 2 (by decide) (by decide);exact ⟨aq,by omega,rfl,⟨_,_,_,_,_,rfl,hm,aa,ab,bi,rfl⟩⟩
        refine Zjy (Zhx ?_);refine Zt ?_;refine Wp.cutK [7,1000000] (fun f bj=>∃ ar ci cj b5 ck cl b6,Zgf N (Vn N ae af) b5 b6=some r∧St w0 (Zg col) ar bj∧Zc (Za.int .u32) 79 1 ar bj ci cj b5∧Zc (Za.int .u32) 79 2 ar bj ck cl b6∧[5,6].map f=[.slice ci b5.length cj,.slice ck b6.length cl]) ?_ ?_
        ·intro f bj hJ;obtain ⟨ar,ci,cj,b5,ck,cl,b6,hm,aa,a3,dg,hs⟩:=hJ;rw [Zgf.eq_1] at hm;refine .lL [5,6] hs<|go ?_;obtain ⟨b7,dh,hm⟩:=bZ hm;refine Zi (Zkg 7 dh ((dg.toSlF (Zj.int .u32)).froz 1) ((a3.froz 2 (by decide)).toSlF (Zj.int .u32))) ?_;rintro _ ep ⟨di,cy,cz,rfl,bk,bm⟩;refine ⟨_,rfl,?_⟩;replace bm:=bm.thaw (Z2 .u32) bk (((Fz.refl (col:=ar)).froz 2).froz 1) (by decide);replace bk:=bk.thawR (col:=ar);generalize Z7 bj.heap.size ar di=eq at *;refine lM (.tuple #[.slice cy b7.1.length cz,.bool b7.2])<|lV (.slice cy b7.1.length cz) (Xq rfl rfl)<|lV (.bool b7.2) (Xq rfl rfl)<|go ?_;replace a3:=a3.gr bk;replace a3:=a3.recol 7 2 (by decide);replace bm:=bm.recolSelf 2 (by decide);replace aa:=aa.grow bk;replace aa:=aa.recol 7 2 (by decide) (by decide);exact ⟨af,by omega,rfl,⟨_,_,_,_,_,_,_,_,rfl,hm,aa,a3,bm,rfl⟩⟩
        refine go ?_;obtain ⟨er,dj,hm⟩:=bZ hm;refine Zi (Zm9 dj ((ab.toSlF (Zj.int .u32)).froz 2) ((ac.froz 1 (by decide)).toSlF (Zj.int .u32))) ?_;rintro _ dl ⟨rfl,bn⟩;refine ⟨_,rfl,?_⟩;replace bn:Zf al a2 al dl:=.of_below bn;refine go ?_;replace ab:=ab.gr bn;replace ac:=ac.gr bn;replace aa:=aa.grow bn;refine Zm hm (fun hb hm=>go ?_) fun hb hm=>?_
        ·replace ac:=ac.recol 1 8 (by decide);replace ab:=ab.recolSelf 8 (by decide);replace aa:=aa.recol 1 8 (by decide) (by decide);replace ac:=ac.recolSelf 1 (by decide);replace ab:=ab.recol 2 1 (by decide);replace aa:=aa.recol 2 1 (by decide) (by decide);replace ac:=ac.recol 8 2 (by decide);replace ab:=ab.recolSelf 2 (by decide);replace aa:=aa.recol 8 2 (by decide) (by decide);exact ⟨rfl,_,_,_,_,_,_,_,hm,aa,ac,ab,rfl⟩
        refine Xr ?_;exact ⟨rfl,_,_,_,_,_,_,_,hm,aa,ab,ac,rfl⟩
       refine go ?_;refine Xu hm (fun cn hm=>go ?_) fun cn hm=>go ?_
       ·obtain ⟨dm,dn,hm⟩:=bZ hm;refine Zi (Zkh dn (ac.toSlF (Zj.int .u32))) ?_;rintro _ dp ⟨rfl,bo⟩;refine ⟨_,rfl,?_⟩;replace bo:Zf ay bg ay dp:=.of_below bo;refine lV (.bool dm) (Xg (congrArg Value.bool cn) rfl)<|Zo ?_;replace ab:=ab.gr bo;replace ac:=ac.gr bo;replace aa:=aa.grow bo;exact ⟨rfl,_,_,hm,aa,ab,ac,rfl⟩
       refine lV (.bool false) (Xt (congrArg Value.bool cn) rfl)<|Zo ?_;exact ⟨rfl,_,_,hm,aa,ab,ac,rfl⟩
    refine Zu [7,1000000] (fun n f b8=>∃ a4 co cp b9 cq a5,a5=n∧Zdn N ae a5 b9 cq=some r∧St w0 (Zg col) a4 b8∧Zc (Za.int .u32) 79 1 a4 b8 co cp b9∧[5,8].map f=[.slice co b9.length cp,.int .i64 cq]) N ⟨_,_,_,_,0,_,rfl,hm,aa,cw,rfl⟩ ?_;clear hm;intro n f b8 hI;obtain ⟨a4,co,cp,b9,cq,a5,hn,hm,aa,c0,hs⟩:=hI;subst hn;refine .lL [5,8] hs ?_
    cases a5 with
    | zero=>rw [Zdn.eq_1] at hm;cases hm
    | succ a5=>
     rw [Zdn.eq_2] at hm;refine go ?_;refine Zm hm (fun hb hm=>go ?_) fun hb hm=>go ?_
     ·obtain ⟨es,dq,hm⟩:=bZ hm;refine Zi (Zpw 9 dq (c0.toSlF (Zj.int .u32))) ?_;rintro _ et ⟨dr,eu,ew,rfl,ca,bp⟩;refine ⟨_,rfl,?_⟩;replace bp:=bp.thaw (Z2 .u32) ca ((Fz.refl (col:=a4)).froz 1) (by decide);replace ca:=ca.thawR (col:=a4);generalize Z7 b8.heap.size a4 dr=ey at *;refine go ?_;replace bp:=bp.recolSelf 1 (by decide);replace aa:=aa.grow ca;replace aa:=aa.recol 9 1 (by decide) (by decide);exact ⟨a5,by omega,rfl,⟨_,_,_,_,_,_,rfl,hm,aa,bp,rfl⟩⟩
     cases hm;exact ⟨rfl,_,_,_,rfl,aa.fin (cm [(1,c1)]),aa.fo c0⟩
  refine go ?_;obtain ⟨ez,ds,hm⟩:=bZ hm;refine Zi (Zkh ds (ag.toSlF (Zj.int .u32))) ?_;rintro _ c2 ⟨rfl,bq⟩;refine ⟨_,rfl,?_⟩;replace bq:Zf am a6 am c2:=.of_below bq;refine Y0 rfl ?_;replace ag:=ag.gr bq;replace ad:=ad.gr bq;replace aa:=aa.grow bq;refine Xu hm (fun cr hm=>go ?_) fun cr hm=>go ?_
  ·obtain ⟨dt,du,hm⟩:=bZ hm;refine Zi (Zkh du (ad.toSlF (Zj.int .u32))) ?_;rintro _ dv ⟨rfl,br⟩;refine ⟨_,rfl,?_⟩;replace br:Zf am c2 am dv:=.of_below br;refine lV (.bool dt) (Xg (congrArg Value.bool cr) rfl)<|Zo ?_;replace ag:=ag.gr br;replace ad:=ad.gr br;replace aa:=aa.grow br;exact ⟨rfl,_,_,hm,aa,ag,ad,rfl⟩
  refine lV (.bool false) (Xt (congrArg Value.bool cr) rfl)<|Zo ?_;exact ⟨rfl,_,_,hm,aa,ag,ad,rfl⟩
def Zdo (N:Nat) (af:List Int) (ab:List Int) (aa:Int) (kk_L1:(List Int→Int→Option R1)):Nat→Int→R1→Int→Option R1
  | 0,_,_,_=>none
  | aj+1,ac,ad,ae=>if (decide (ac<(ab.length:Int)))=true then ((Zl af aa).bind fun ag=>(Zl ab ac).bind fun ah=>(Zl ad (i64.wrap (aa+ac))).bind fun ai=>(some (ad.set (Int.toNat (i64.wrap (aa+ac))) (u32.wrap (Int.tmod (u64.wrap ((u64.wrap (ae+(u64.wrap ((u64.wrap ag) * (u64.wrap ah)))))+(u64.wrap ai))) 4294967296)))).bind fun ak=>(Zdo N af ab aa kk_L1 aj) (i64.wrap (ac+1)) ak (u64.wrap (Int.tdiv (u64.wrap ((u64.wrap (ae+(u64.wrap ((u64.wrap ag) * (u64.wrap ah)))))+(u64.wrap ai))) 4294967296))) else ((Zl ad (i64.wrap (aa+(ab.length:Int)))).bind fun am=>(some (ad.set (Int.toNat (i64.wrap (aa+(ab.length:Int)))) (u32.wrap ae))).bind fun al=>kk_L1 al (i64.wrap (aa+1)))
termination_by structural x=>x
def Zam (N:Nat) (aa:List Int) (ab:List Int):Nat→R1→Int→Option R1
  | 0,_,_=>none
  | ae+1,ac,ad=>if (decide (ad<(aa.length:Int)))=true then (Zdo N aa ab ad (Zam N aa ab ae) N 0 ac 0) else ((W6 N ac).bind fun af=>some af)
termination_by structural x=>x
def Sq (N:Nat) (ac:List Int) (ad:List Int):Option R1:=
  (W6 N ac).bind fun aa=>(W6 N ad).bind fun ab=>Z0 ((Int.toNat (i64.wrap ((aa.length:Int)+(ab.length:Int)))) * 4≤281474976710656∧(Int.toNat (i64.wrap ((aa.length:Int)+(ab.length:Int))))≤maxLen∧0≤(i64.wrap ((aa.length:Int)+(ab.length:Int)))) (Zam N aa ab N (List.replicate (Int.toNat (i64.wrap ((aa.length:Int)+(ab.length:Int)))) (0:Int)) 0)
theorem Zey {N bi bj:Nat} {a0 a1:Option Addr} {col:Ze} {w0:World} {a5 a6 r:R1} (c1:Nat) (hm:Sq N a5 a6=some r) (h0:Sl (Za.int .u32) col w0 a0 bi a5) (h1:Sl (Za.int .u32) col w0 a1 bj a6):
    Calls prog 104 #[.slice a0 a5.length bi,.slice a1 a6.length bj] w0 (fun e w'=>∃ (col':Ze) (ra1:Option Addr) (rc2:Nat),e= .returned ((.slice ra1 r.length rc2))∧Zf col w0 col' w'∧Zc (Za.int .u32) 79 c1 col' w' ra1 rc2 r):=by
 refine Z1 4 (m:=74) func104 rfl rfl rfl rfl rfl ?_;rw [Sq.eq_1] at hm;have aa:=St.start col w0;refine go ?_;obtain ⟨am,bt,hm⟩:=bZ hm;replace h0:=h0.keep (Zh.start col w0);refine Zi (V0 1 bt (h0.ks aa)) ?_;rintro _ b4 ⟨b5,bk,bm,rfl,bu,ab⟩;refine ⟨_,rfl,go ?_⟩;obtain ⟨ai,bv,hm⟩:=bZ hm;replace h1:=h1.keep (Zh.start col w0);replace aa:=aa.grow bu;refine Zi (V0 2 bv (h1.ks aa)) ?_;rintro _ bw ⟨bx,bn,bo,rfl,bp,ac⟩;refine ⟨_,rfl,go ?_⟩;obtain ⟨ax,hm⟩:=Z3 hm;refine Si (col:=bx) (w:=bw) (r:=(Za.int .u32)) (n:=(Int.toNat (i64.wrap ((am.length:Int)+(ai.length:Int))))) (x0:=0) 3 rfl underlying43 Tryz.t79 rfl rfl rfl rfl rfl (congrArg (Value.int _) (Int.toNat_of_nonneg ax.2.2).symm) (congrArg (Value.int _) (Int.toNat_of_nonneg ax.2.2).symm) ax.1 ax.2.1 (Q1 .u32 0) ?_;intro b6 b7 b8 a7 bz;refine go ?_;replace ab:=(ab.gr bp).gr a7;replace aa:=(aa.grow bp).grow a7;replace ac:=ac.gr a7;refine Zu [5,6,1000000] (fun n f an=>∃ af a8 a9 ay ao aj,aj=n∧Zam N am ai aj ay ao=some r∧St w0 (Zg col) af an∧Zc (Za.int .u32) 79 1 af an bk bm am∧Zc (Za.int .u32) 79 2 af an bn bo ai∧Zc (Za.int .u32) 79 3 af an a8 a9 ay∧[7,8].map f=[.slice a8 ay.length a9,.int .i64 ao]) N ⟨_,_,_,_,0,_,rfl,hm,aa,ab,ac,bz,rfl⟩ ?_;clear hm;intro n f an hI;obtain ⟨af,a8,a9,ay,ao,aj,hn,hm,aa,ab,ac,bq,hs⟩:=hI;subst hn;refine .lL [7,8] hs ?_
 cases aj with
 | zero=>rw [Zam.eq_1] at hm;cases hm
 | succ aj=>
  rw [Zam.eq_2] at hm;refine go ?_;refine Zm hm (fun hb hm=>go ?_) fun hb hm=>go ?_
  ·refine Zu [5,6,8,1000000] (fun n f aw=>∃ ae az ak al ag ad ap,ap=n∧Zdo N am ai ao (Zam N am ai aj) ap az ag ad=some r∧St w0 (Zg col) ae aw∧Zc (Za.int .u32) 79 1 ae aw bk bm am∧Zc (Za.int .u32) 79 2 ae aw bn bo ai∧Zc (Za.int .u32) 79 3 ae aw ak al ag∧[10,7,9].map f=[.int .i64 az,.slice ak ag.length al,.int .u64 ad]) N ⟨_,0,_,_,_,0,_,rfl,hm,aa,ab,ac,bq,rfl⟩ ?_;clear hm;intro n f aw hI;obtain ⟨ae,az,ak,al,ag,ad,ap,hn,hm,aa,ab,ac,ah,hs⟩:=hI;subst hn;refine .lL [10,7,9] hs ?_
   cases ap with
   | zero=>rw [Zdo.eq_1] at hm;cases hm
   | succ ap=>
    rw [Zdo.eq_2] at hm;refine go ?_;refine Zm hm (fun hb hm=>go ?_) fun hb hm=>go ?_
    ·refine Ys (col:=ae) (by kernel_rfl) (by kernel_rfl)<|go ?_;obtain ⟨aq,ba,hm⟩:=bZ hm;refine qI ba (ab.addr ba)<|qW (fun _ hC=>(ab.gr (hC.bl ae)).atInt ba) ?_;refine go ?_;obtain ⟨ar,bb,hm⟩:=bZ hm;refine qI bb (ac.addr bb)<|qW (fun _ hC=>(ac.gr (hC.bl ae)).atInt bb) ?_;refine go ?_;obtain ⟨au,av,hm⟩:=bZ hm;refine qI av (ah.addr av)<|qW (fun _ hC=>(ah.gr (hC.bl ae)).atInt av) ?_;refine go ?_;refine X9 ?_;intro b9 hC;replace hC:=hC.bl ae;refine go ?_;refine lV (.int .u64 (Int.tmod (u64.wrap ((u64.wrap (ad+(u64.wrap ((u64.wrap aq) * (u64.wrap ar)))))+(u64.wrap au))) 4294967296)) (S3 (u64.wrap ((u64.wrap (ad+(u64.wrap ((u64.wrap aq) * (u64.wrap ar)))))+(u64.wrap au))) 4294967296 rfl rfl (by decide))<|go ?_;replace ah:=ah.gr hC;refine lI av (ah.addr av) ?_;obtain ⟨bc,a2,hm⟩:=bZ hm;have a2:bc=ag.set (Int.toNat (i64.wrap (ao+az))) (u32.wrap (Int.tmod (u64.wrap ((u64.wrap (ad+(u64.wrap ((u64.wrap aq) * (u64.wrap ar)))))+(u64.wrap au))) 4294967296)):=(Option.some.inj a2).symm;refine Yu (x1:=u32.wrap (Int.tmod (u64.wrap ((u64.wrap (ad+(u64.wrap ((u64.wrap aq) * (u64.wrap ar)))))+(u64.wrap au))) 4294967296)) ah av ?_;intro ca bd b0 br;rw [← a2] at br;refine .ld (d:=7) (v:=(.slice ak bc.length al)) (congrArg (fun n=>Value.slice ak n al) (show ag.length=bc.length by rw [a2,nS])) ?_;refine go ?_;refine lV (.int .u64 (u64.wrap (Int.tdiv (u64.wrap ((u64.wrap (ad+(u64.wrap ((u64.wrap aq) * (u64.wrap ar)))))+(u64.wrap au))) 4294967296))) (Vq (u64.wrap ((u64.wrap (ad+(u64.wrap ((u64.wrap aq) * (u64.wrap ar)))))+(u64.wrap au))) 4294967296 rfl rfl (by decide))<|go ?_;replace ab:=(ab.gr hC).kp bd;replace ac:=(ac.gr hC).kp bd;replace aa:=(aa.grow hC).kp bd b0;exact ⟨ap,by omega,rfl,⟨_,_,_,_,_,_,_,rfl,hm,aa,ab,ac,br,rfl⟩⟩
    obtain ⟨cb,be,hm⟩:=bZ hm;refine lI be (ah.addr be) ?_;obtain ⟨bf,a3,hm⟩:=bZ hm;have a3:bf=ag.set (Int.toNat (i64.wrap (ao+(ai.length:Int)))) (u32.wrap ad):=(Option.some.inj a3).symm;refine Yu (x1:=u32.wrap ad) ah be ?_;intro cc bg b1 bs;rw [← a3] at bs;refine .ld (d:=7) (v:=(.slice ak bf.length al)) (congrArg (fun n=>Value.slice ak n al) (show ag.length=bf.length by rw [a3,nS])) ?_;refine go ?_;replace ab:=ab.kp bg;replace ac:=ac.kp bg;replace aa:=aa.kp bg b1;exact ⟨aj,by omega,rfl,⟨_,_,_,_,_,_,rfl,hm,aa,ab,ac,bs,rfl⟩⟩
  obtain ⟨cd,b2,hm⟩:=bZ hm;refine Zi (V0 4 b2 (bq.toSlF (Zj.int .u32))) ?_;rintro _ ce ⟨b3,cf,cg,rfl,a4,bh⟩;refine ⟨_,rfl,?_⟩;replace bh:=bh.thaw (Z2 .u32) a4 ((Fz.refl (col:=af)).froz 3) (by decide);replace a4:=a4.thawR (col:=af);generalize Z7 an.heap.size af b3=ch at *;refine go ?_;cases hm;replace aa:=aa.grow a4;exact ⟨rfl,_,_,_,rfl,aa.fin (cm [(4,c1)]),aa.fo bh⟩
def Zil (af:List Int) (ag:List Int) (ad:List Int) (aa:Int) (ae:Int) (kk_L1:(List Int→Int→Int→Option R1)):Option R1:=
  (Ss af ae).bind fun ab=>(Ss ag ae).bind fun ac=>Z0 ((ad.length+[u32.wrap (Int.tmod (u64.wrap ((u64.wrap (aa+ab))+ac)) 4294967296)].length) * 4≤140737488355328∧ad.length+[u32.wrap (Int.tmod (u64.wrap ((u64.wrap (aa+ab))+ac)) 4294967296)].length≤maxLen) (kk_L1 (ad++[u32.wrap (Int.tmod (u64.wrap ((u64.wrap (aa+ab))+ac)) 4294967296)]) (u64.wrap (Int.tdiv (u64.wrap ((u64.wrap (aa+ab))+ac)) 4294967296)) (i64.wrap (ae+1)))
def Zbv (N:Nat) (ab:List Int) (ac:List Int) (aa:List Int) (ad:Int) (ae:Int) (kk_L1:(List Int→Int→Int→Option R1)) (af:Bool):Option R1:=
  if af=true then (Zil ab ac aa ad ae kk_L1) else ((W6 N aa).bind fun ag=>some ag)
def Tw (N:Nat) (aa:List Int) (ab:List Int):Nat→R1→Int→Int→Option R1
  | 0,_,_,_=>none
  | ae+1,af,ad,ac=>if (decide (ac<(aa.length:Int)))=true then (Zbv N aa ab af ad ac (Tw N aa ab ae) true) else (if (decide (ac<(ab.length:Int)))=true then (Zbv N aa ab af ad ac (Tw N aa ab ae) true) else (Zbv N aa ab af ad ac (Tw N aa ab ae) (decide (0<ad))))
termination_by structural x=>x
def Zga (N:Nat) (aa:List Int) (ab:List Int):Option R1:=
  Tw N aa ab N ([]:List Int) 0 0
theorem Zps {N a3 a4:Nat} {a0 a1:Option Addr} {col:Ze} {w0:World} {ae ad r:R1} (c1:Nat) (hm:Zga N ae ad=some r) (h0:Sl (Za.int .u32) col w0 a0 a3 ae) (h1:Sl (Za.int .u32) col w0 a1 a4 ad):
    Calls prog 227 #[.slice a0 ae.length a3,.slice a1 ad.length a4] w0 (fun e w'=>∃ (col':Ze) (ra1:Option Addr) (rc2:Nat),e= .returned ((.slice ra1 r.length rc2))∧Zf col w0 col' w'∧Zc (Za.int .u32) 79 c1 col' w' ra1 rc2 r):=by
 refine Z1 4 (m:=43) func227 rfl rfl rfl rfl rfl ?_;rw [Zga.eq_1] at hm;have aa:=St.start col w0;refine go ?_;refine Zu [0,1,1000000] (fun n f av=>∃ aw ak al af ab ai ag,ag=n∧Tw N ae ad ag af ab ai=some r∧St w0 (Zg col) aw av∧Zc (Za.int .u32) 79 1 aw av ak al af∧[5,6,7].map f=[.slice ak af.length al,.int .u64 ab,.int .i64 ai]) N ⟨_,none,0,_,0,0,_,rfl,hm,aa,Zc.nil,rfl⟩ ?_;clear hm;intro n f av hI;obtain ⟨aw,ak,al,af,ab,ai,ag,hn,hm,aa,ac,hs⟩:=hI;subst hn;refine .lL [5,6,7] hs ?_;replace h0:=h0.keep (Zh.start col w0);replace h1:=h1.keep (Zh.start col w0)
 cases ag with
 | zero=>rw [Tw.eq_1] at hm;cases hm
 | succ ag=>
  rw [Tw.eq_2] at hm;refine Zt ?_;refine Wp.cutK [0,1,5,6,7,1000000] (fun f ao=>∃ ah,Zil ae ad af ab ai (Tw N ae ad ag)=some r∧St w0 (Zg col) ah ao∧Zc (Za.int .u32) 79 1 ah ao ak al af) ?_ ?_
  ·intro f ao hJ;obtain ⟨ah,hm,aa,ac⟩:=hJ;rw [Zil.eq_1] at hm;refine go ?_;obtain ⟨am,a7,hm⟩:=bZ hm;refine Zi (Zcs a7 (h0.ks aa)) ?_;rintro _ a5 ⟨rfl,ap⟩;refine ⟨_,rfl,?_⟩;replace ap:Zf ah ao ah a5:=.of_below ap;refine go ?_;obtain ⟨an,a8,hm⟩:=bZ hm;replace aa:=aa.grow ap;refine Zi (Zcs a8 (h1.ks aa)) ?_;rintro _ a9 ⟨rfl,aq⟩;refine ⟨_,rfl,?_⟩;replace aq:Zf ah a5 ah a9:=.of_below aq;refine go ?_;refine lV (.int .u64 (Int.tmod (u64.wrap ((u64.wrap (ab+am))+an)) 4294967296)) (S3 (u64.wrap ((u64.wrap (ab+am))+an)) 4294967296 rfl rfl (by decide))<|go ?_;refine W5 (col:=ah) [u32.wrap (Int.tmod (u64.wrap ((u64.wrap (ab+am))+an)) 4294967296)] 2 ?_;intro bg bh bi a6 ba;obtain ⟨bb,hm⟩:=Z3 hm;replace ac:=((ac.gr ap).gr aq).gr a6;refine Wk ac (ba.srcN (NB.int (k:=.u32))) bb ?_;intro bj bk bm bn bc bd;refine go ?_;refine lV (.int .u64 (u64.wrap (Int.tdiv (u64.wrap ((u64.wrap (ab+am))+an)) 4294967296))) (Vq (u64.wrap ((u64.wrap (ab+am))+an)) 4294967296 rfl rfl (by decide))<|go ?_;replace aa:=((aa.grow aq).grow a6).kpp bc;exact ⟨ag,by omega,rfl,⟨_,_,_,_,_,_,_,rfl,hm,aa,bd,rfl⟩⟩
  refine Zt ?_;refine Wp.cutK [0,1,5,6,7,1000000] (fun f ar=>∃ aj ax,Zbv N ae ad af ab ai (Tw N ae ad ag) ax=some r∧St w0 (Zg col) aj ar∧Zc (Za.int .u32) 79 1 aj ar ak al af∧[21].map f=[.bool ax]) ?_ ?_
  ·intro f ar hJ;obtain ⟨aj,ax,hm,aa,ac,hs⟩:=hJ;rw [Zbv.eq_1] at hm;refine .lL [21] hs ?_;refine Zm hm (fun hb hm=>?_) fun hb hm=>go ?_
   ·refine Xr ?_;exact ⟨rfl,_,hm,aa,ac⟩
   obtain ⟨bo,be,hm⟩:=bZ hm;refine Zi (V0 3 be (ac.toSlF (Zj.int .u32))) ?_;rintro _ bp ⟨bf,bq,br,rfl,au,ay⟩;refine ⟨_,rfl,?_⟩;replace ay:=ay.thaw (Z2 .u32) au ((Fz.refl (col:=aj)).froz 1) (by decide);replace au:=au.thawR (col:=aj);generalize Z7 ar.heap.size aj bf=bs at *;refine go ?_;cases hm;replace aa:=aa.grow au;exact ⟨rfl,_,_,_,rfl,aa.fin (cm [(3,c1)]),aa.fo ay⟩
  refine go ?_;refine Xu hm (fun az hm=>go ?_) fun az hm=>go ?_
  ·refine lV (.bool true) (Xg (congrArg Value.bool az) rfl)<|Y0 rfl<|lP 18 rfl rfl<|lP 18 rfl rfl<|lV (.bool true) (Xg rfl rfl)<|Zo ?_;exact ⟨rfl,_,_,hm,aa,ac,rfl⟩
  refine lV (.bool (decide (ai<(ad.length:Int)))) (Xt (congrArg Value.bool az) rfl)<|Y0 rfl ?_;refine Xu hm (fun a2 hm=>go ?_) fun a2 hm=>go ?_
  ·refine lV (.bool true) (Xg (congrArg Value.bool a2) rfl)<|Zo ?_;exact ⟨rfl,_,_,hm,aa,ac,rfl⟩
  refine lV (.bool (decide (0<ab))) (Xt (congrArg Value.bool a2) rfl)<|Zo ?_;exact ⟨rfl,_,_,hm,aa,ac,rfl⟩
def Zgh (N:Nat) (aa:Int):Option R1:=
  (W6 N [u32.wrap (Int.tmod aa 4294967296),u32.wrap (u64.wrap (Int.tdiv aa 4294967296))]).bind fun ab=>some ab
theorem Zpu {N:Nat} {col:Ze} {w0:World} {aa:Int} {r:R1} (c1:Nat) (hm:Zgh N aa=some r):
    Calls prog 229 #[.int .u64 aa] w0 (fun e w'=>∃ (col':Ze) (ra1:Option Addr) (rc2:Nat),e= .returned ((.slice ra1 r.length rc2))∧Zf col w0 col' w'∧Zc (Za.int .u32) 79 c1 col' w' ra1 rc2 r):=by
 refine Z1 2 (m:=11) func229 rfl rfl rfl rfl rfl ?_;rw [Zgh.eq_1] at hm;have ab:=St.start col w0;refine go ?_;refine lV (.int .u64 (Int.tmod aa 4294967296)) (S3 aa 4294967296 rfl rfl (by decide))<|go ?_;refine lV (.int .u64 (u64.wrap (Int.tdiv aa 4294967296))) (Vq aa 4294967296 rfl rfl (by decide))<|go ?_;refine W5 (col:=(Zg col)) [u32.wrap (Int.tmod aa 4294967296),u32.wrap (u64.wrap (Int.tdiv aa 4294967296))] 1 ?_;intro ak af ad ag ah;obtain ⟨al,ai,hm⟩:=bZ hm;refine Zi (V0 2 ai (ah.toSlF (Zj.int .u32))) ?_;rintro _ am ⟨aj,an,ao,rfl,ac,ae⟩;refine ⟨_,rfl,?_⟩;replace ae:=ae.thaw (Z2 .u32) ac ((Fz.refl (col:=ad)).froz 1) (by decide);replace ac:=ac.thawR (col:=ad);generalize Z7 af.heap.size ad aj=ap at *;refine go ?_;cases hm;replace ab:=(ab.grow ag).grow ac;exact ⟨rfl,_,_,_,rfl,ab.fin (cm [(2,c1)]),ab.fo ae⟩
theorem Zu7 (N:Nat) (a:List Int) (hb:a.length≤1099511627776):∀ (n j:Nat),j≤a.length→Zan N a n (j:Int)=U8 N n (a.take j)
 | 0,j,_=>rfl
 | n+1,j,hj=>by
  have hl:(a.take j).length=j:=by rw [nK];omega
  have ht:0<j→Zl (a.take j) ((j - 1:Nat):Int)=Zl a ((j - 1:Nat):Int):=fun h=>by rw [Q5,Q5,List.getElem?_take,if_pos (by omega)]
  rw [Zan.eq_2,U8.eq_2,hl]
  by_cases h0:0<j
  ·have e:(j:Int) - 1=((j - 1:Nat):Int):=by omega
   rw [if_pos (dT (by omega)),if_pos (dT (by omega)),Zs (by omega),e,ht h0,Zv (by omega),oB,oB,Zgg,Zai,hl,Zs (by omega),e,Int.toNat_natCast,Int.toNat_natCast]
   by_cases hx:a[j - 1]=0
   ·rw [if_pos (dT hx),if_pos (dT hx),Z6 (by omega),Zu7 N a hb n (j - 1) (by omega),List.take_take,Nat.min_eq_left (by omega)]
   ·rw [if_neg (dF hx),if_neg (dF hx),Z6 (by omega),Z6 (by rw [hl];simp only [nN,maxLen];omega),List.nil_append]
  ·have:j=0:=by omega
   subst this
   rw [if_neg (by decide),if_neg (by decide),Zgg,Zai,if_neg (by decide),if_neg (by decide),Z6 (by omega)]
   exact Z6 (by simp [maxLen])
theorem V6 {N:Nat} {a:List Int} (h:Zn a) (hn:a.length<N) (hb:a.length≤1099511627776):W6 N a=some (Zd (Zb a)):=by
 rw [W6,Zu7 N a hb N a.length (Nat.le_refl _),List.take_length]
 exact Zmm N N a h hn (by omega)
theorem Zu9 {N:Nat} {u:Int} (h:0≤u∧u<18446744073709551616) (hn:2<N):Zgh N u=some (Zd u.toNat):=by
 have e1:u32.wrap (Int.tmod u 4294967296)=u % 4294967296:=by rw [Int.tmod_eq_emod_of_nonneg h.1,Vi (by omega)]
 have e2:u32.wrap (u64.wrap (Int.tdiv u 4294967296))=u / 4294967296:=by rw [Int.tdiv_eq_ediv_of_nonneg h.1,Xb (by omega),Vi (by omega)]
 have hl:Zn [u % 4294967296,u / 4294967296]:=.cons (by omega) (.cons (by omega) .nil)
 have e:Zb [u % 4294967296,u / 4294967296]=u.toNat:=by rw [Yv,Yv,X7];omega
 rw [Zgh,e1,e2,V6 hl (by simpa using hn) (by simp),oB,e]
theorem Zc0 {a:List Int} (h:Zn a) (k:Nat):Ss a (k:Int)=some ((Xk a k:Nat):Int):=by
 rw [Ss]
 by_cases hk:k<a.length
 ·have:=h.get hk
  rw [if_pos (dT (by omega)),Zv hk,oB,Xb (by omega),Xk,List.getD_eq_getElem?_getD,List.getElem?_eq_getElem hk,Option.getD_some]
  congr 1;omega
 ·rw [if_neg (dF (by omega)),Xk,List.getD_eq_getElem?_getD,List.getElem?_eq_none (by omega)];rfl
theorem Zlr {a:List Int} (h:Zn a) (k:Nat):Zb (a.take k)<4294967296 ^ k:=by
 have h1:=T5 (h.take k)
 refine Nat.lt_of_lt_of_le h1 (Nat.pow_le_pow_right (by decide) ?_)
 rw [nK];omega
theorem Zof (N:Nat) (a b:List Int) (ha:Zn a) (hb:Zn b):∀ (n i:Nat),i<4611686018427387904→i<n→Zb (a.drop i)=Zb (b.drop i)→Zdl N a b n ((i:Int) - 1)=some (if Zb a<Zb b then -1 else if Zb b<Zb a then 1 else 0)
 | 0,i,_,h,_=>by omega
 | n+1,i,hi,hn,he=>by
  rw [Zdl.eq_2]
  by_cases h0:i=0
  ·subst h0
   rw [if_neg (by decide)]
   rw [List.drop_zero,List.drop_zero] at he
   rw [if_neg (by omega),if_neg (by omega)]
  ·have e:(i:Int) - 1=((i - 1:Nat):Int):=by omega
   have e1:i - 1+1=i:=by omega
   rw [if_pos (dT (by omega)),e,Zc0 ha,Zc0 hb,oB,oB]
   have va:=Uf a (i - 1)
   have vb:=Uf b (i - 1)
   rw [V5 a,e1] at va
   rw [V5 b,e1,← he] at vb
   have la:=Zlr ha (i - 1)
   have lb:=Zlr hb (i - 1)
   have key:∀ x y:Nat,x<y→4294967296 ^ (i - 1) * (x+4294967296 * Zb (a.drop i))+4294967296 ^ (i - 1)≤4294967296 ^ (i - 1) * (y+4294967296 * Zb (a.drop i)):=fun x y hxy=>by
    rw [← Nat.mul_succ];exact Nat.mul_le_mul_left _ (by omega)
   generalize 4294967296 ^ (i - 1)=Q at *
   by_cases hlt:Xk a (i - 1)<Xk b (i - 1)
   ·have:=key _ _ hlt
    rw [if_pos (dT (by omega)),if_pos (by omega)]
   ·rw [if_neg (dF (by omega))]
    by_cases hgt:Xk b (i - 1)<Xk a (i - 1)
    ·have:=key _ _ hgt
     rw [if_pos (dT (by omega)),if_neg (by omega),if_pos (by omega)]
    ·rw [if_neg (dF (by omega)),Zs (by omega)]
     exact Zof N a b ha hb n (i - 1) (by omega) (by omega) (by rw [V5 a,V5 b,e1,he];omega)
theorem Zog {N:Nat} {a b:List Int} (ha:Zn a) (hb:Zn b) (h1:a.length<N) (h2:b.length<N) (h3:a.length≤1099511627776) (h4:b.length≤1099511627776):
  Zdk N a b=some (if Zb a<Zb b then -1 else if Zb b<Zb a then 1 else 0):=by
 have dz:∀ (l:List Int) (k:Nat),l.length≤k→Zb (l.drop k)=0:=fun l k h=>by rw [List.drop_eq_nil_of_le h];rfl
 rw [Zdk]
 by_cases h:a.length<b.length
 ·rw [if_pos (dT (by omega)),Zgb,Zs (by omega)]
  exact Zof N a b ha hb N b.length (by omega) h2 (by rw [dz a _ (by omega),dz b _ (by omega)])
 ·rw [if_neg (dF (by omega)),Zgb,Zs (by omega)]
  exact Zof N a b ha hb N a.length (by omega) h1 (by rw [dz a _ (by omega),dz b _ (by omega)])
theorem Zoy {s:Int} (h:0≤s∧s<18446744073709551616):u32.wrap (Int.tmod s 4294967296)=((s.toNat % 4294967296:Nat):Int):=by
 rw [Int.tmod_eq_emod_of_nonneg h.1,Vi (by omega)];omega
theorem Zox {s:Int} (h:0≤s∧s<18446744073709551616):u64.wrap (Int.tdiv s 4294967296)=((s.toNat / 4294967296:Nat):Int):=by
 rw [Int.tdiv_eq_ediv_of_nonneg h.1,Xb (by omega)];omega
theorem Zn7 {S Q A B C:Nat} (h:A=B+4294967296 * C):S+Q * B+Q * 4294967296 * C=S+Q * A:=by
 subst h;grind
theorem Zue (N:Nat) (a b:List Int) (ha:Zn a) (hb:Zn b) (hN:a.length+b.length+2<N) (hs:a.length+b.length<1099511627000):∀ (n i:Nat) (out:List Int) (c:Nat),out.length=i→Zn out→c≤1→i≤a.length+b.length+2→(i≤a.length+b.length+1∨c=0)→a.length+b.length+3≤n+i→
  Tw N a b n out (c:Int) (i:Int)=some (Zd (Zb out+4294967296 ^ i * (c+Zb (a.drop i)+Zb (b.drop i))))
 | 0,i,out,c,_,_,_,h1,_,h2=>by omega
 | n+1,i,out,c,ho,hO,hc,h1,h2,h3=>by
  have go:(i<a.length∨i<b.length∨0<c)→Zil a b out (c:Int) (i:Int) (Tw N a b n)=some (Zd (Zb out+4294967296 ^ i * (c+Zb (a.drop i)+Zb (b.drop i)))):=fun hgo=>by
   have la:=Zcz ha i
   have lb:=Zcz hb i
   have es:u64.wrap (u64.wrap ((c:Int)+((Xk a i:Nat):Int))+((Xk b i:Nat):Int))=((c+Xk a i+Xk b i:Nat):Int):=by
    rw [Xb (x:=(c:Int)+_) (by omega),Xb (by omega)];omega
   rw [Zil,Zc0 ha,Zc0 hb,oB,oB,es,Zoy (by omega),Zox (by omega),Int.toNat_natCast]
   generalize hsum:c+Xk a i+Xk b i=s
   rw [Z6 (by simp only [List.length_singleton,maxLen];omega),Zs (by omega)]
   have ih:=Zue N a b ha hb hN hs n (i+1) (out++[((s % 4294967296:Nat):Int)]) (s / 4294967296) (by simp [ho]) (hO.app (.cons (by omega) .nil)) (by omega) (by omega) (by
    by_cases hi:i<a.length∨i<b.length
    ·omega
    ·right
     have za:Xk a i=0:=by rw [Xk,List.getD_eq_getElem?_getD,List.getElem?_eq_none (by omega)];rfl
     have zb:Xk b i=0:=by rw [Xk,List.getD_eq_getElem?_getD,List.getElem?_eq_none (by omega)];rfl
     omega) (by omega)
   rw [show ((i+1:Nat):Int)=(i:Int)+1 by omega] at ih
   rw [ih,T4,ho,Yv,X7,Int.toNat_natCast,V5 a i,V5 b i,Nat.pow_succ]
   congr 2
   rw [Nat.mul_zero,Nat.add_zero]
   refine Zn7 ?_
   omega
  rw [Tw.eq_2]
  by_cases hia:i<a.length
  ·rw [if_pos (dT (by omega)),Zbv,if_pos rfl];exact go (.inl hia)
  ·rw [if_neg (dF (by omega))]
   by_cases hib:i<b.length
   ·rw [if_pos (dT (by omega)),Zbv,if_pos rfl];exact go (.inr (.inl hib))
   ·rw [if_neg (dF (by omega)),Zbv]
    by_cases hcp:0<c
    ·rw [if_pos (dT (by omega))];exact go (.inr (.inr hcp))
    ·have:c=0:=by omega
     subst this
     rw [if_neg (by decide),V6 hO (by omega) (by omega),oB,List.drop_eq_nil_of_le (by omega),List.drop_eq_nil_of_le (by omega),X7]
     simp
theorem Zuf {N:Nat} {a b:List Int} (ha:Zn a) (hb:Zn b) (hN:a.length+b.length+3<N) (hs:a.length+b.length<1099511627000):Zga N a b=some (Zd (Zb a+Zb b)):=by
 have:=Zue N a b ha hb (by omega) hs N 0 [] 0 rfl .nil (by omega) (by omega) (by omega) (by omega)
 rw [List.drop_zero,List.drop_zero,X7,Nat.pow_zero] at this
 rw [Zga,show (0:Int)=((0:Nat):Int) from rfl,this]
 simp
theorem Zvk (N:Nat) (a b:List Int) (ha:Zn a) (hb:Zn b) (hN:a.length<N) (hs:a.length<1099511627776):∀ (n i:Nat) (out:List Int) (c:Nat),out.length=i→Zn out→c≤1→i≤a.length→a.length<n+i→c+Zb (b.drop i)≤Zb (a.drop i)→
  Sr N a b n out (c:Int) (i:Int)=some (Zd (Zb out+4294967296 ^ i * (Zb (a.drop i) - (c+Zb (b.drop i)))),true)
 | 0,i,out,c,_,_,_,h1,h2,_=>by omega
 | n+1,i,out,c,ho,hO,hc,h1,h2,h3=>by
  rw [Sr.eq_2]
  by_cases hi:i<a.length
  ·have la:=Zcz ha i
   have lb:=Zcz hb i
   rw [V5 a i,V5 b i] at h3
   have go:∀ (c':Nat) (x:Int),c'≤1→x=((Xk a i+4294967296 * c':Nat):Int)→Xk b i+c≤Xk a i+4294967296 * c'→Xk a i+4294967296 * c'<Xk b i+c+4294967296→Zgj out (c:Int) (i:Int) (Sr N a b n) ((Xk b i:Nat):Int) (c':Int) x=some (Zd (Zb out+4294967296 ^ i * (Zb (a.drop i) - (c+Zb (b.drop i)))),true):=fun c' x hc' hx h5 h6=>by
    have ev:u32.wrap (u64.wrap (x - u64.wrap (((Xk b i:Nat):Int)+(c:Int))))=((Xk a i+4294967296 * c' - (Xk b i+c):Nat):Int):=by
     rw [Xb (x:=((Xk b i:Nat):Int)+(c:Int)) (by omega),Xb (by omega),Vi (by omega)];omega
    rw [Zgj,ev,Z6 (by simp only [List.length_singleton,maxLen];omega),Zk8,Zs (by omega)]
    generalize hv:Xk a i+4294967296 * c' - (Xk b i+c)=v
    have ih:=Zvk N a b ha hb hN hs n (i+1) (out++[(v:Int)]) c' (by simp [ho]) (hO.app (.cons (by omega) .nil)) hc' (by omega) (by omega) (by omega)
    rw [show ((i+1:Nat):Int)=(i:Int)+1 by omega] at ih
    rw [ih,T4,ho,Yv,X7,Int.toNat_natCast,V5 a i,V5 b i,Nat.pow_succ,Nat.mul_zero,Nat.add_zero]
    congr 3
    refine Zn7 ?_
    omega
   rw [if_pos (dT (by omega)),Zc0 ha,Zc0 hb,oB,oB,Xb (x:=((Xk b i:Nat):Int)+(c:Int)) (by omega)]
   by_cases hlt:Xk a i<Xk b i+c
   ·rw [if_pos (dT (by omega))]
    exact go 1 _ (by omega) (by rw [Xb (by omega)];omega) (by omega) (by omega)
   ·rw [if_neg (dF (by omega))]
    exact go 0 _ (by omega) (by omega) (by omega) (by omega)
  ·rw [if_neg (dF (by omega)),V6 hO (by omega) (by omega),oB]
   rw [List.drop_eq_nil_of_le (show a.length≤i by omega),X7] at h3 ⊢
   rw [show 0 - (c+Zb (b.drop i))=0 by omega]
   simp
theorem Zjs {N:Nat} {a b:List Int} (ha:Zn a) (hb:Zn b) (h1:a.length<N) (h2:b.length<N) (h3:a.length<1099511627776) (h4:b.length<1099511627776):
  Zbw N a b=some (if Zb a<Zb b then ([],false) else (Zd (Zb a - Zb b),true)):=by
 rw [Zbw,Zog ha hb h1 h2 (by omega) (by omega),oB]
 by_cases h:Zb a<Zb b
 ·rw [if_pos h,if_pos (by decide),if_pos h]
 ·have:=Zvk N a b ha hb h1 h3 N 0 [] 0 rfl .nil (by omega) (by omega) (by omega) (by simpa using Nat.le_of_not_lt h)
  rw [if_neg h,if_neg (by split <;> decide),if_neg h,show (0:Int)=((0:Nat):Int) from rfl,this]
  simp [X7]
theorem Zu2 (N:Nat) (a b:List Int) (ha:Zn a) (hb:Zn b) (i:Nat) (hi:i<a.length) (kk:List Int→Int→Option R1):∀ (n j:Nat) (p:List Int) (c:Nat),j≤b.length→b.length<n+j→i+b.length<p.length→p.length<4611686018427387904→Zn p→c<4294967296→Zb (p.drop (i+b.length))=0→
  ∃ p',Zdo N a b (i:Int) kk n (j:Int) p (c:Int)=kk p' ((i:Int)+1)∧p'.length=p.length∧Zn p'∧Zb p'=Zb p+4294967296 ^ (i+j) * (c+Xk a i * Zb (b.drop j))∧Zb (p'.drop (i+b.length+1))=0
 | 0,j,p,c,h1,h2,_,_,_,_,_=>by omega
 | n+1,j,p,c,h1,h2,hp,hs,hL,hc,hz=>by
  rw [Zdo.eq_2]
  by_cases hj:j<b.length
  ·have hij:i+j<p.length:=by omega
   have gp:=hL.get hij
   have ga:=ha.get hi
   have gb:=hb.get hj
   have ea:Xk a i=(a[i]).toNat:=by rw [Xk,List.getD_eq_getElem?_getD,List.getElem?_eq_getElem hi,Option.getD_some]
   have hm:a[i] * b[j]≤4294967295 * 4294967295:=Int.mul_le_mul (by omega) (by omega) (by omega) (by omega)
   have hm0:0≤a[i] * b[j]:=Int.mul_nonneg ga.1 gb.1
   have em:(((a[i]).toNat * (b[j]).toNat:Nat):Int)=a[i] * b[j]:=by rw [Int.natCast_mul,Int.toNat_of_nonneg ga.1,Int.toNat_of_nonneg gb.1]
   have es:u64.wrap (u64.wrap ((c:Int)+u64.wrap (u64.wrap a[i] * u64.wrap b[j]))+u64.wrap p[i+j])=((c+((a[i]).toNat * (b[j]).toNat+(p[i+j]).toNat):Nat):Int):=by
    rw [Xb (x:=a[i]) (by omega),Xb (x:=b[j]) (by omega),Xb (x:=a[i] * b[j]) (by omega),Xb (x:=p[i+j]) (by omega),Xb (x:=(c:Int)+_) (by omega),Xb (by omega)]
    omega
   rw [if_pos (dT (by omega)),Zv hi,oB,Zv hj,oB,Zs (x:=(i:Int)+(j:Int)) (by omega),show (i:Int)+(j:Int)=((i+j:Nat):Int) by omega,Zv hij,oB,oB,Int.toNat_natCast,es]
   have hsb:c+((a[i]).toNat * (b[j]).toNat+(p[i+j]).toNat)<18446744073709551616:=by omega
   rw [Zoy (by omega),Zox (by omega),Int.toNat_natCast,Zs (x:=(j:Int)+1) (by omega),show (j:Int)+1=((j+1:Nat):Int) by omega]
   generalize hS:c+((a[i]).toNat * (b[j]).toNat+(p[i+j]).toNat)=S at *
   obtain ⟨p',q1,q2,q3,q4,q5⟩:=Zu2 N a b ha hb i hi kk n (j+1) (p.set (i+j) ((S % 4294967296:Nat):Int)) (S / 4294967296) (by omega) (by omega) (by rw [nS];exact hp) (by rw [nS];exact hs) (hL.set _ (by omega)) (by omega) (by rw [Sd _ (by omega)];exact hz)
   refine ⟨p',q1,by rw [q2,nS],q3,?_,q5⟩
   rw [q4,← Nat.add_assoc i j 1,Nat.pow_succ,Vo hj,ea]
   exact Zsu _ _ _ _ _ _ (p[i+j]).toNat (S % 4294967296) _ _ (by have:=Ue hij ((S % 4294967296:Nat):Int);rw [Int.toNat_natCast] at this;exact this) (by omega)
  ·have:j=b.length:=by omega
   subst this
   have hz':=drop_zero hL hp hz
   rw [if_neg (dF (by omega)),Zs (x:=(i:Int)+(b.length:Int)) (by omega),show (i:Int)+(b.length:Int)=((i+b.length:Nat):Int) by omega,Zv hp,oB,oB,Int.toNat_natCast,Vi (by omega),Zs (by omega)]
   refine ⟨_,rfl,by rw [nS],hL.set _ (by omega),?_,?_⟩
   ·have h1:=Ue hp (c:Int)
    rw [hz'.1,Int.toNat_natCast] at h1
    rw [List.drop_length,X7,Nat.mul_zero,Nat.add_zero]
    simpa using h1
   ·rw [Sd _ (by omega)];exact hz'.2
theorem Zu1 (N:Nat) (a b:List Int) (ha:Zn a) (hb:Zn b) (hN:a.length+b.length<N) (hs:a.length+b.length<1099511627776):∀ (n i:Nat) (p:List Int),i≤a.length→a.length<n+i→p.length=a.length+b.length→Zn p→Zb (p.drop (i+b.length))=0→
  Zam N a b n p (i:Int)=some (Zd (Zb p+4294967296 ^ i * (Zb (a.drop i) * Zb b)))
 | 0,i,p,h1,h2,_,_,_=>by omega
 | n+1,i,p,h1,h2,hp,hL,hz=>by
  rw [Zam.eq_2]
  by_cases hi:i<a.length
  ·obtain ⟨p',q1,q2,q3,q4,q5⟩:=Zu2 N a b ha hb i hi (Zam N a b n) N 0 p 0 (by omega) (by omega) (by omega) (by omega) hL (by omega) hz
   rw [show ((0:Nat):Int)=0 from rfl] at q1
   have ih:=Zu1 N a b ha hb hN hs n (i+1) p' (by omega) (by omega) (by omega) q3 (by rw [show i+1+b.length=i+b.length+1 by omega];exact q5)
   rw [show ((i+1:Nat):Int)=(i:Int)+1 by omega] at ih
   rw [if_pos (dT (by omega)),q1,ih,q4,V5 a i,Nat.pow_succ,List.drop_zero]
   congr 2
   simp only [Nat.add_zero,Nat.zero_add]
   grind
  ·rw [if_neg (dF (by omega)),V6 hL (by omega) (by omega),oB,List.drop_eq_nil_of_le (by omega),X7];simp
theorem Zhh {N:Nat} {a b:List Int} (ha:Zn a) (hb:Zn b) (h1:a.length+b.length<N) (h3:a.length+b.length<1099511627776):Sq N a b=some (Zd (Zb a * Zb b)):=by
 have la:=X4 ha
 have lb:=X4 hb
 rw [Sq,V6 ha (by omega) (by omega),oB,V6 hb (by omega) (by omega),oB,Zs (by omega),Z6 (by simp only [maxLen];omega)]
 have:=Zu1 N (Zd (Zb a)) (Zd (Zb b)) (Zw _) (Zw _) (by omega) (by omega) N 0 (List.replicate (Int.toNat (((Zd (Zb a)).length:Int)+((Zd (Zb b)).length:Int))) 0) (by omega) (by omega) (by rw [List.length_replicate];omega) (.zeros _) (by rw [List.drop_replicate];exact Uq _)
 rw [show ((0:Nat):Int)=0 from rfl] at this
 rw [this,Uq,List.drop_zero,Zy,Zy]
 simp
theorem Zug (N:Nat):∀ (n:Nat) (c:Int) (t:Nat),Z8 t<n→t<4294967296→0≤c∧c+(Z8 t:Int)≤4611686018427387904→Zdj N n c (t:Int)=some (c+(Z8 t:Int))
 | 0,c,t,h,_,_=>by omega
 | n+1,c,t,h,ht,hc=>by
  rw [Zdj.eq_2]
  have hb:Z8 t≤32:=Ve.2 (by omega)
  by_cases h0:0<t
  ·have e:u32.wrap (Int.tdiv (t:Int) 2)=((t / 2:Nat):Int):=by rw [Int.tdiv_eq_ediv_of_nonneg (by omega),Vi (by omega)];omega
   have hs:=Zht t 1
   rw [Nat.pow_one] at hs
   have h1:1≤Z8 t:=by rw [Z8,if_neg (by omega)];omega
   rw [if_pos (dT (by omega)),e,Zs (by omega),Zug N n (c+1) (t / 2) (by omega) (by omega) (by omega)]
   congr 1;omega
  ·have:t=0:=by omega
   subst this
   rw [if_neg (by decide),Zev];simp
theorem Z2f {N:Nat} {a:List Int} (h:Zn a) (hn:a.length+32<N) (hb:a.length≤1099511627776):Zin N a=some ((Z8 (Zb a):Nat):Int):=by
 have hl:=X4 h
 rw [Zin,V6 h (by omega) hb,oB]
 by_cases h0:(Zd (Zb a)).length=0
 ·have:Zb a=0:=Ze7.1 (List.eq_nil_of_length_eq_zero h0)
  rw [if_pos (dT (by omega)),this,Zev];rfl
 ·have hp:0<(Zd (Zb a)).length:=by omega
  have e:((Zd (Zb a)).length:Int) - 1=(((Zd (Zb a)).length - 1:Nat):Int):=by omega
  have hx:=(Zw (Zb a)).get (k:=(Zd (Zb a)).length - 1) (by omega)
  have hne:=Zkz hp
  have hs:=Ze5 hp
  have e2:(Zd (Zb a))[(Zd (Zb a)).length - 1]=(((Zd (Zb a))[(Zd (Zb a)).length - 1]).toNat:Int):=by omega
  have hb2:Z8 ((Zd (Zb a))[(Zd (Zb a)).length - 1]).toNat≤32:=Ve.2 (by omega)
  rw [if_neg (dF (by omega)),Zs (by omega),e,Zv (by omega),oB,e2,Zs (by omega),Zug N N _ _ (by omega) (by omega) (by omega)]
  have hb:=Zpf (a:=(Zd (Zb a)).take ((Zd (Zb a)).length - 1)) (x:=(Zd (Zb a))[(Zd (Zb a)).length - 1]) ((Zw _).take _) (by omega)
  rw [hs,Zy,nK,Nat.min_eq_left (by omega)] at hb
  rw [hb]
  congr 1
theorem Zw3 (T l R k s:Nat) (hT:T<4294967296 ^ k) (hs:s<32):(T+4294967296 ^ k * (l+4294967296 * R)) / 2 ^ (32 * k+s) % 2=l / 2 ^ s % 2:=by
 have e:(4294967296:Nat) ^ k=2 ^ (32 * k):=by rw [show (4294967296:Nat)=2 ^ 32 by decide,← Nat.pow_mul]
 have hp:0<4294967296 ^ k:=Nat.pow_pos (by decide)
 rw [Nat.pow_add,← e,← Nat.div_div_eq_div_mul,Nat.add_mul_div_left _ _ hp,Nat.div_eq_of_lt hT,Nat.zero_add]
 have pw:(4294967296:Nat)=2 ^ s * (2 * 2 ^ (31 - s)):=by
  rw [Nat.mul_left_comm,← Nat.pow_add,show s+(31 - s)=31 by omega]
 have e2:l+4294967296 * R=l+2 ^ s * (2 * (2 ^ (31 - s) * R)):=by
  conv=>lhs;rw [pw]
  rw [Nat.mul_assoc,Nat.mul_assoc]
 rw [e2,Nat.add_mul_div_left _ _ (Nat.two_pow_pos s),Nat.add_mul_mod_self_left]
theorem Z2e {a:List Int} (h:Zn a) {i:Nat} (hi:i<4611686018427387904):Zim a (i:Int)=some ((Zb a / 2 ^ i % 2:Nat):Int):=by
 have hl:=Zcz h (i / 32)
 have e1:i64.wrap (Int.tdiv (i:Int) 32)=((i / 32:Nat):Int):=by rw [Int.tdiv_eq_ediv_of_nonneg (by omega),Zs (by omega)];omega
 have e2:Int.tmod (i:Int) 32=((i % 32:Nat):Int):=by rw [Int.tmod_eq_emod_of_nonneg (by omega)];omega
 rw [Zim,e1,Zc0 h,oB,e2,Z6 (by omega),Zmi _ _ _ (by simp only [IntKind.bits];omega)]
 have hd:=Nat.div_le_self (Xk a (i / 32)) (2 ^ (i % 32))
 have e3:=Zw3 (Zb (a.take (i / 32))) (Xk a (i / 32)) (Zb (a.drop (i / 32+1))) (i / 32) (i % 32) (Zlr h _) (by omega)
 rw [← V5 a,← Uf,show 32 * (i / 32)+i % 32=i by omega] at e3
 rw [e3]
 generalize Xk a (i / 32) / 2 ^ (i % 32)=x at *
 rw [Vi (by omega),Int.tmod_eq_emod_of_nonneg (by omega)]
 congr 1
theorem Zum (N:Nat) (a:List Int) (ha:Zn a) (hs:a.length<1099511627776):∀ (n i:Nat) (out:List Int) (c:Nat),out.length=i→Zn out→c≤1→i≤a.length→a.length<n+i→
  ∃ o,Zdq N a n out (c:Int) (i:Int)=some o∧o.length≤a.length+1∧Zn o∧Zb o=Zb out+4294967296 ^ i * (c+2 * Zb (a.drop i))
 | 0,i,out,c,_,_,_,h1,h2=>by omega
 | n+1,i,out,c,ho,hO,hc,h1,h2=>by
  rw [Zdq.eq_2]
  by_cases hi:i<a.length
  ·have ga:=ha.get hi
   have es:u64.wrap ((c:Int)+u64.wrap (2 * u64.wrap a[i]))=((c+2 * (a[i]).toNat:Nat):Int):=by
    rw [Xb (x:=a[i]) (by omega),Xb (x:=2 * _) (by omega),Xb (by omega)];omega
   rw [if_pos (dT (by omega)),Zv hi,oB,es,Zoy (by omega),Zox (by omega),Int.toNat_natCast]
   generalize hS:c+2 * (a[i]).toNat=S
   rw [Z6 (by simp only [List.length_singleton,maxLen];omega),Zs (by omega)]
   obtain ⟨o,q1,q2,q3,q4⟩:=Zum N a ha hs n (i+1) (out++[((S % 4294967296:Nat):Int)]) (S / 4294967296) (by simp [ho]) (hO.app (.cons (by omega) .nil)) (by omega) (by omega) (by omega)
   rw [show ((i+1:Nat):Int)=(i:Int)+1 by omega] at q1
   refine ⟨o,q1,q2,q3,?_⟩
   rw [q4,T4,ho,Yv,X7,Int.toNat_natCast,Vo hi,Nat.pow_succ,Nat.mul_zero,Nat.add_zero]
   refine Zn7 ?_
   omega
  ·have hia:i=a.length:=by omega
   rw [if_neg (dF (by omega))]
   by_cases hcp:0<c
   ·rw [if_pos (dT (by omega)),Z6 (by simp only [List.length_singleton,maxLen];omega),Zgl,Vi (by omega)]
    refine ⟨_,rfl,by simp;omega,hO.app (.cons (by omega) .nil),?_⟩
    rw [T4,ho,Yv,X7,Int.toNat_natCast,List.drop_eq_nil_of_le (by omega),X7]
   ·have:c=0:=by omega
    subst this
    rw [if_neg (by decide),Zgl]
    refine ⟨_,rfl,by omega,hO,?_⟩
    rw [List.drop_eq_nil_of_le (by omega),X7];simp
theorem Zun {N:Nat} {a:List Int} {c:Nat} (ha:Zn a) (hc:c≤1) (hN:a.length<N) (hs:a.length<1099511627776):∃ o,Zgk N a (c:Int)=some o∧o.length≤a.length+1∧Zn o∧Zb o=2 * Zb a+c:=by
 obtain ⟨o,q1,q2,q3,q4⟩:=Zum N a ha hs N 0 [] c rfl .nil hc (by omega) (by omega)
 refine ⟨o,?_,q2,q3,?_⟩
 ·rw [Zgk,Xb (by omega)];exact q1
 ·rw [q4,X7,Nat.pow_zero,List.drop_zero];omega
theorem Z0i (Q e o2 r S v L:Nat) (h:r * 4294967296+e=2 * v+o2) (hS:S=Q * (o2+2 * (v+4294967296 * L))):S=Q * e+Q * 4294967296 * (r+2 * L):=by
 subst hS
 have:Q * (r * 4294967296+e)=Q * (2 * v+o2):=by rw [h]
 grind
theorem Zu0 (N:Nat) (a:List Int) (ha:Zn a) (hN:a.length<N) (hs:a.length<1099511627776):∀ (n j:Nat) (out:List Int) (r:Nat),out.length=a.length→Zn out→r≤1→j≤a.length→j<n→Zb (out.take j)=0→
  ∃ v,Zdr N a n out (r:Int) ((j:Int) - 1)=some (Zd v)∧∃ ρ,ρ≤1∧2 * v+ρ=Zb (a.take j)+4294967296 ^ j * (r+2 * Zb (out.drop j))
 | 0,j,out,r,_,_,_,_,h,_=>by omega
 | n+1,j,out,r,ho,hO,hr,hj,hn,hz=>by
  rw [Zdr.eq_2]
  by_cases h0:j=0
  ·subst h0
   rw [if_neg (by decide),V6 hO (by omega) (by omega),oB]
   refine ⟨_,rfl,r,hr,?_⟩
   rw [List.take_zero,X7,List.drop_zero,Nat.pow_zero];omega
  ·have e:(j:Int) - 1=((j - 1:Nat):Int):=by omega
   have e1:j - 1+1=j:=by omega
   have hk:j - 1<a.length:=by omega
   have g:=ha.get hk
   have es:u64.wrap (u64.wrap ((r:Int) * 4294967296)+u64.wrap a[j - 1])=((r * 4294967296+(a[j - 1]).toNat:Nat):Int):=by
    rw [Xb (x:=a[j - 1]) (by omega),Xb (x:=(r:Int) * 4294967296) (by omega),Xb (by omega)];omega
   rw [if_pos (dT (by omega)),e,Zv hk,oB,Zv (by omega),oB,oB,Int.toNat_natCast,es,Zs (by omega)]
   generalize hS:r * 4294967296+(a[j - 1]).toNat=S
   have e2:u32.wrap (u64.wrap (Int.tdiv (S:Int) 2))=((S / 2:Nat):Int):=by rw [Int.tdiv_eq_ediv_of_nonneg (by omega),Xb (by omega),Vi (by omega)];omega
   have e3:Int.tmod (S:Int) 2=((S % 2:Nat):Int):=by rw [Int.tmod_eq_emod_of_nonneg (by omega)];omega
   have zt:Zb (out.take (j - 1))=0:=by
    have:=Uf (out.take j) (j - 1)
    rw [List.take_take,Nat.min_eq_left (by omega),hz] at this
    omega
   rw [e2,e3]
   obtain ⟨v,q1,ρ,q2,q3⟩:=Zu0 N a ha hN hs n (j - 1) (out.set (j - 1) ((S / 2:Nat):Int)) (S % 2) (by rw [nS];exact ho) (hO.set _ (by omega)) (by omega) (by omega) (by omega) (by rw [Zci _ (Nat.le_refl _)];exact zt)
   refine ⟨v,q1,ρ,q2,?_⟩
   rw [q3]
   have t1:=Zn4 hk
   have t2:Zb ((out.set (j - 1) ((S / 2:Nat):Int)).drop (j - 1))=S / 2+4294967296 * Zb (out.drop (j - 1+1)):=by
    rw [Vo (by rw [nS];omega),List.getElem_set_self,Sd _ (by omega),Int.toNat_natCast]
   rw [e1] at t1 t2
   have hp:(4294967296:Nat) ^ j=4294967296 ^ (j - 1) * 4294967296:=by rw [← Nat.pow_succ,show (j - 1).succ=j by omega]
   rw [t1,t2,hp,Nat.add_assoc]
   congr 1
   exact Z0i _ _ (S % 2) _ _ (S / 2) _ (by omega) rfl
theorem Zme {N:Nat} {a:List Int} (ha:Zn a) (hN:a.length<N) (hs:a.length<1099511627776):Zby N a=some (Zd (Zb a / 2)):=by
 obtain ⟨v,q1,ρ,q2,q3⟩:=Zu0 N a ha hN hs N a.length (List.replicate a.length 0) 0 (by rw [List.length_replicate]) (.zeros _) (by omega) (Nat.le_refl _) hN (by rw [List.take_replicate];exact Uq _)
 rw [Zby,Z6 (by simp only [maxLen];omega),Zs (by omega)]
 rw [List.take_length,List.drop_replicate,Uq] at q3
 refine Eq.trans q1 ?_
 rw [show v=Zb a / 2 by omega]
theorem Z1l {a:List Int} (h:Zn a):Zb a % 2=Xk a 0 % 2:=by
 have:=V5 a 0
 rw [List.drop_zero] at this
 omega
theorem Zmd {a:List Int} (h:Zn a):Zbx a=some (decide (Zb a % 2=0)):=by
 rw [Zbx,Z1l h]
 by_cases h0:a.length=0
 ·have:a=[]:=List.eq_nil_of_length_eq_zero h0
  subst this
  rfl
 ·have g:=h.get (k:=0) (by omega)
  have ea:Xk a 0=(a[0]).toNat:=by rw [Xk,List.getD_eq_getElem?_getD,List.getElem?_eq_getElem (by omega),Option.getD_some]
  rw [if_neg (dF (by omega)),show (0:Int)=((0:Nat):Int) from rfl,Zv (by omega),oB,Ziq,Int.tmod_eq_emod_of_nonneg (by omega),ea]
  congr 1
  exact decide_eq_decide.2 (by omega)
theorem Z1x {q:List Int} (hq:Zn q) {i:Nat} (hi:i<32 * q.length) (hd:2 ^ (i+1) ∣ Zb q):
  ∃ x:Nat,Zl q ((i / 32:Nat):Int)=some (x:Int)∧u32.wrap ((x:Int)+Xp .u32 1 ((i % 32:Nat):Int))=((x+2 ^ (i % 32):Nat):Int)∧x+2 ^ (i % 32)<4294967296∧Zb (q.set (i / 32) ((x+2 ^ (i % 32):Nat):Int))=Zb q+2 ^ i:=by
 have hk:i / 32<q.length:=by omega
 have g:=hq.get hk
 have hs:i % 32<32:=Nat.mod_lt _ (by decide)
 have hp:=Nat.two_pow_pos (i % 32)
 have e32:(4294967296:Nat) ^ (i / 32)=2 ^ (32 * (i / 32)):=by rw [show (4294967296:Nat)=2 ^ 32 by decide,← Nat.pow_mul]
 have eb:(4294967296:Nat)=2 ^ (i % 32+1) * 2 ^ (31 - i % 32):=by rw [← Nat.pow_add,show i % 32+1+(31 - i % 32)=32 by omega]
 have pi:(2:Nat) ^ (i+1)=4294967296 ^ (i / 32) * 2 ^ (i % 32+1):=by rw [e32,← Nat.pow_add];congr 1;omega
 have pi0:(2:Nat) ^ i=4294967296 ^ (i / 32) * 2 ^ (i % 32):=by rw [e32,← Nat.pow_add];congr 1;omega
 have sp:=Uf q (i / 32)
 rw [Vo hk] at sp
 have tl:=Zlr hq (i / 32)
 have hQ:0<4294967296 ^ (i / 32):=Nat.pow_pos (by decide)
 rw [pi] at hd
 -- the limb's lower bits are none
 have hx:2 ^ (i % 32+1) ∣ (q[i / 32]).toNat:=by
  have d1:4294967296 ^ (i / 32) ∣ Zb q:=Nat.dvd_trans ⟨_,rfl⟩ hd
  have d2:4294967296 ^ (i / 32) ∣ Zb (q.take (i / 32)):=by
   rw [sp] at d1
   exact (Nat.dvd_add_left ⟨_,rfl⟩).1 d1
  have z:Zb (q.take (i / 32))=0:=Nat.eq_zero_of_dvd_of_lt d2 tl
  rw [z,Nat.zero_add] at sp
  rw [sp] at hd
  have d3:=Nat.dvd_of_mul_dvd_mul_left hQ hd
  have d4:2 ^ (i % 32+1) ∣ 4294967296 * Zb (q.drop (i / 32+1)):=by
   conv=>rhs;rw [eb]
   exact ⟨2 ^ (31 - i % 32) * Zb (q.drop (i / 32+1)),by rw [Nat.mul_assoc]⟩
  exact (Nat.dvd_add_left d4).1 d3
 obtain ⟨y,hy⟩:=hx
 have hlt:(q[i / 32]).toNat+2 ^ (i % 32)<4294967296:=by
  have h1:2 ^ (i % 32+1) * y<2 ^ (i % 32+1) * 2 ^ (31 - i % 32):=by rw [← hy,← eb];omega
  have h2:=Nat.lt_of_mul_lt_mul_left h1
  have h3:=Nat.mul_le_mul_left (2 ^ (i % 32+1)) (show y+1≤2 ^ (31 - i % 32) from h2)
  rw [← eb,Nat.mul_add,← hy,Nat.pow_succ] at h3
  omega
 refine ⟨(q[i / 32]).toNat,by rw [Zv hk];congr 1;omega,?_,hlt,?_⟩
 ·rw [show (1:Int)=((1:Nat):Int) from rfl,Zot hs (.inl rfl),Nat.one_mul,Vi (x:=((2 ^ (i % 32):Nat):Int)) (by omega),Vi (by omega)]
  omega
 ·have h1:=Ue hk (((q[i / 32]).toNat+2 ^ (i % 32):Nat):Int)
  rw [Int.toNat_natCast,Nat.mul_add,← pi0] at h1
  omega
theorem Zoi (N:Nat) (a y:List Int) (ha:Zn a) (hy:Zn y) (hy0:0<Zb y) (hly:y.length+8<N) (hs:y.length<549755813888) (hla:a.length<549755813888) (hyc:(Zd (Zb y)).length=y.length) (hNa:a.length+y.length+8<N):∀ (n j:Nat) (r q:List Int),j<n→j<4611686018427387904→j≤32 * q.length→q.length≤a.length→Zn q→r=Zd (Zb r)→Zb r<Zb y→2 ^ j ∣ Zb q→Zb a / 2 ^ j=Zb q / 2 ^ j * Zb y+Zb r→
  Zak N a y n r ((j:Int) - 1) q=some (Zd (Zb a / Zb y),Zd (Zb a % Zb y),0)
 | 0,j,r,q,h,_,_,_,_,_,_,_,_=>by omega
 | n+1,j,r,q,hjn,hj,hjq,hqa,hq,hr,hlt,hd,he=>by
  rw [Zak.eq_2]
  by_cases h0:j=0
  ·subst h0
   rw [Nat.pow_zero,Nat.div_one,Nat.div_one] at he
   rw [if_neg (by decide),V6 hq (by omega) (by omega),oB]
   have h1:Zb a / Zb y=Zb q:=by rw [he,Nat.mul_comm,Nat.mul_add_div hy0,Nat.div_eq_of_lt hlt,Nat.add_zero]
   have h2:Zb a % Zb y=Zb r:=by rw [he,Nat.mul_comm,Nat.mul_add_mod,Nat.mod_eq_of_lt hlt]
   rw [h1,h2,← hr]
  ·have e:(j:Int) - 1=((j - 1:Nat):Int):=by omega
   obtain ⟨i,rfl⟩:∃ i,j=i+1:=⟨j - 1,by omega⟩
   have ei:i+1 - 1=i:=by omega
   rw [e,ei]
   have hrl:r.length≤y.length:=by
    rw [hr,← hyc];exact Wy (Nat.le_of_lt hlt)
   have hlr:Zn r:=by rw [hr];exact Zw _
   have hb:=Nat.mod_lt (Zb a / 2 ^ i) (show 0<2 by decide)
   obtain ⟨d,d1,d2,d3,d4⟩:=Zun (N:=N) (a:=r) (c:=Zb a / 2 ^ i % 2) hlr (by omega) (by omega) (by omega)
   have h2:Zb a / 2 ^ i=2 * (Zb a / 2 ^ (i+1))+Zb a / 2 ^ i % 2:=by
    rw [Nat.pow_succ,← Nat.div_div_eq_div_mul];omega
   obtain ⟨qq,hqq⟩:=hd
   have hq1:Zb q / 2 ^ (i+1)=qq:=by rw [hqq,Nat.mul_div_cancel_left _ (Nat.two_pow_pos _)]
   have hq2:Zb q / 2 ^ i=2 * qq:=by rw [hqq,Nat.pow_succ,Nat.mul_assoc,Nat.mul_div_cancel_left _ (Nat.two_pow_pos _)]
   rw [hq1] at he
   rw [if_pos (dT (by omega)),Z2e ha (by omega),oB,d1,oB,V6 d3 (by omega) (by omega),oB,Zog (Zw _) hy (by have:=X4 d3;omega) (by omega) (by have:=X4 d3;omega) (by omega),oB,Zy,d4]
   rw [he] at h2
   have hkey:Zb a / 2 ^ i=2 * qq * Zb y+(2 * Zb r+Zb a / 2 ^ i % 2):=by
    have:2 * qq * Zb y=2 * (qq * Zb y):=Nat.mul_assoc _ _ _
    omega
   generalize hbit:Zb a / 2 ^ i % 2=b at *
   by_cases hge:Zb y≤2 * Zb r+b
   ·rw [if_pos (by rw [if_neg (by omega)];split <;> decide)]
    obtain ⟨x,x1,x2,x3,x4⟩:=Z1x hq (i:=i) (by omega) ⟨qq,hqq⟩
    have e1:i64.wrap (Int.tdiv (i:Int) 32)=((i / 32:Nat):Int):=by rw [Int.tdiv_eq_ediv_of_nonneg (by omega),Zs (by omega)];omega
    have e2:Int.tmod (i:Int) 32=((i % 32:Nat):Int):=by rw [Int.tmod_eq_emod_of_nonneg (by omega)];omega
    have ll:(Zd (2 * Zb r+b)).length≤y.length+1:=by rw [← d4];exact Nat.le_trans (X4 d3) (by omega)
    rw [Zjs (Zw _) hy (by omega) (by omega) (by omega) (by omega),oB,Zy,if_neg (by omega),e1,e2,x1,oB,Z6 (by omega),x2,oB,Int.toNat_natCast,Zgd,Zs (by omega)]
    have ih:=Zoi N a y ha hy hy0 hly hs hla hyc hNa n i (Zd (2 * Zb r+b - Zb y)) (q.set (i / 32) ((x+2 ^ (i % 32):Nat):Int)) (by omega) (by omega) (by rw [nS];omega) (by rw [nS];exact hqa) (hq.set _ ⟨Int.natCast_nonneg _,Int.ofNat_lt.2 x3⟩) (by rw [Zy]) (by rw [Zy];omega) (by
     rw [x4,hqq];exact Nat.dvd_add ⟨2 * qq,by rw [Nat.pow_succ,Nat.mul_assoc]⟩ (Nat.dvd_refl _)) (by
     have:Zb (q.set (i / 32) ((x+2 ^ (i % 32):Nat):Int)) / 2 ^ i=2 * qq+1:=by
      rw [x4,Nat.add_div_right _ (Nat.two_pow_pos _),hq2]
     rw [this,Zy,hkey,Nat.add_mul,Nat.one_mul];omega)
    exact ih
   ·rw [if_neg (by rw [if_pos (by omega)];decide),Zgd,Zs (by omega)]
    exact Zoi N a y ha hy hy0 hly hs hla hyc hNa n i (Zd (2 * Zb r+b)) q (by omega) (by omega) (by omega) hqa hq (by rw [Zy]) (by rw [Zy];omega) (by rw [hqq];exact ⟨2 * qq,by rw [Nat.pow_succ,Nat.mul_assoc]⟩) (by rw [hq2,Zy,hkey])
theorem Zul {N:Nat} {a b:List Int} (ha:Zn a) (hb:Zn b) (hN:32 * a.length+(Zd (Zb b)).length+48<N) (hbN:b.length<N) (hs:a.length+(Zd (Zb b)).length<274877906944) (hbs:b.length≤1099511627776):
  Zgc N a b=some (if Zb b=0 then ([],[],11) else (Zd (Zb a / Zb b),Zd (Zb a % Zb b),0)):=by
 have la:=X4 ha
 rw [Zgc,V6 hb (by omega) (by omega),oB]
 by_cases h0:Zb b=0
 ·rw [h0,Wg,if_pos (by decide),if_pos rfl]
 ·have hbp:=Sk h0
  have hbl:=(Zkc (Zb a)).2
  rw [if_neg (dF (by omega)),if_neg h0,Z2f ha (by omega) (by omega),oB]
  have e1:i64.wrap (Int.tdiv (i64.wrap (((Z8 (Zb a):Nat):Int)+31)) 32)=(((Z8 (Zb a)+31) / 32:Nat):Int):=by
   rw [Zs (x:=((Z8 (Zb a):Nat):Int)+31) (by omega),Int.tdiv_eq_ediv_of_nonneg (by omega),Zs (by omega)];omega
  rw [e1,Z6 (by simp only [maxLen,Int.toNat_natCast];omega),Int.toNat_natCast,Zs (by omega)]
  have:=Zoi N a (Zd (Zb b)) ha (Zw _) (by rw [Zy];omega) (by omega) (by omega) (by omega) (by rw [Zy]) (by omega) N (Z8 (Zb a)) [] (List.replicate ((Z8 (Zb a)+31) / 32) 0) (by omega) (by omega) (by rw [List.length_replicate];omega) (by rw [List.length_replicate];omega) (.zeros _) (by rw [X7,Wg]) (by rw [Zy,X7];omega) (by rw [Uq];exact ⟨0,rfl⟩) (by
   rw [Uq,X7,Nat.zero_div,Nat.zero_mul]
   exact Nat.div_eq_of_lt (Ve.1 (Nat.le_refl _)))
  rw [Zy] at this
  exact this
theorem Zzm {x:Nat} (h:x % 2=1):Nat.Coprime 2 x:=by
 rw [Nat.coprime_iff_gcd_eq_one,Nat.gcd_rec,h,Nat.gcd_one_left]
theorem Zri {x y k:Nat} (h:y % 2=1):Nat.gcd (2 ^ k * x) y=Nat.gcd x y:=by
 induction k with
 | zero=>rw [Nat.pow_zero,Nat.one_mul]
 | succ k ih=>rw [Nat.pow_succ,Nat.mul_comm (2 ^ k),Nat.mul_assoc,(Zzm h).gcd_mul_left_cancel,ih]
theorem Z0f {x y k:Nat} (h:x % 2=1):Nat.gcd x (2 ^ k * y)=Nat.gcd x y:=by
 rw [Nat.gcd_comm,Zri h,Nat.gcd_comm]
theorem Zkd {x:Nat} (h:x≠0):1≤Z8 x:=by rw [Z8,if_neg h];omega
theorem Zkb (x:Nat):Z8 (x / 2)=Z8 x - 1:=by
 have:=Zht x 1
 rwa [Nat.pow_one] at this
theorem Zhs {x y:Nat} (h:x≤y):Z8 x≤Z8 y:=Ve.2 (Nat.lt_of_le_of_lt h (Ve.1 (Nat.le_refl _)))
theorem Zhr {M x:Nat} (h:(Zd x).length≤M):Z8 x≤32 * M:=by have:=(Zkc x).2;omega
theorem Zrw {x xo k:Nat} (h:x=2 ^ k * xo):xo≤x:=by
 rw [h]
 have:=Nat.mul_le_mul_right xo (Nat.two_pow_pos k)
 omega
section
variable {N M:Nat} (hN:100 * M+64<N) (hM:M<17179869200)
include hN hM
theorem Zuy (t:Nat):∀ (n i:Nat) (x:List Int),i≤t→t - i<n→t≤32 * M→Zn x→x.length+(t - i)≤33 * M→
  ∃ g,Zdn N (t:Int) n x (i:Int)=some g∧Zn g∧Zb g=2 ^ (t - i) * Zb x∧g.length≤x.length+(t - i)
 | 0,i,x,_,h,_,_,_=>by omega
 | n+1,i,x,hi,hn,ht,hx,hl=>by
  rw [Zdn.eq_2]
  by_cases h0:i<t
  ·obtain ⟨d,d1,d2,d3,d4⟩:=Zun (N:=N) (a:=x) (c:=0) hx (by omega) (by omega) (by omega)
   rw [show ((0:Nat):Int)=0 from rfl] at d1
   obtain ⟨g,g1,g2,g3,g4⟩:=Zuy t n (i+1) d (by omega) (by omega) ht d3 (by omega)
   rw [show ((i+1:Nat):Int)=(i:Int)+1 by omega] at g1
   rw [if_pos (dT (by omega)),d1,oB,Zs (by omega)]
   refine ⟨g,g1,g2,?_,by omega⟩
   rw [g3,d4,Nat.add_zero (2 * Zb x),← Nat.mul_assoc,← Nat.pow_succ]
   congr 2;omega
  ·have:i=t:=by omega
   subst this
   rw [if_neg (dF (by omega))]
   exact ⟨x,rfl,hx,by simp,by omega⟩
theorem Zux (kk:List Int→List Int→Option R1) {x:Nat} (hx:(Zd x).length≤M):∀ (n y:Nat),y≠0→Z8 y<n→(Zd y).length≤M→
  ∃ yo k,y=2 ^ k * yo∧yo % 2=1∧Qr N kk (Zd x) n (Zd y)=kk (Zd (min x yo)) (Zd (max x yo - min x yo))
 | 0,y,_,h,_=>by omega
 | n+1,y,h0,hn,hy=>by
  have hp:=Sk h0
  rw [Qr.eq_2,if_pos (dT (by omega)),Zmd (Zw _),Zy,oB,Zip]
  by_cases he:y % 2=0
  ·rw [if_pos (dT he),Zme (Zw _) (by omega) (by omega),oB,Zy]
   have hb:=Zkb y
   have h1:=Zkd h0
   obtain ⟨yo,k,e1,e2,e3⟩:=Zux kk hx n (y / 2) (by omega) (by omega) (Nat.le_trans (Wy (Nat.div_le_self _ _)) hy)
   refine ⟨yo,k+1,?_,e2,e3⟩
   rw [Nat.pow_succ,Nat.mul_comm (2 ^ k),Nat.mul_assoc,← e1];omega
  ·rw [if_neg (dF he),Zog (Zw _) (Zw _) (by omega) (by omega) (by omega) (by omega),oB,Zy,Zy]
   refine ⟨y,0,by simp,by omega,?_⟩
   by_cases hxy:y<x
   ·rw [if_pos (by rw [if_neg (by omega),if_pos hxy];decide),Zgf,Zjs (Zw _) (Zw _) (by omega) (by omega) (by omega) (by omega),oB,Zy,Zy,if_neg (by omega),Nat.min_eq_right (by omega),Nat.max_eq_left (by omega)]
   ·rw [if_neg (by split <;> (try split) <;> simp_all <;> omega),Zgf,Zjs (Zw _) (Zw _) (by omega) (by omega) (by omega) (by omega),oB,Zy,Zy,if_neg (by omega),Nat.min_eq_left (by omega),Nat.max_eq_right (by omega)]
theorem Zuw (kk:List Int→List Int→Option R1) {y:Nat}:∀ (n x:Nat),x≠0→Z8 x<n→(Zd x).length≤M→
  ∃ xo k,x=2 ^ k * xo∧xo % 2=1∧Zdm N (Zd y) kk n (Zd x)=Qr N kk (Zd xo) N (Zd y)
 | 0,x,_,h,_=>by omega
 | n+1,x,h0,hn,hx=>by
  rw [Zdm.eq_2,Zmd (Zw _),Zy,oB]
  by_cases he:x % 2=0
  ·rw [if_pos (dT he),Zme (Zw _) (by omega) (by omega),oB,Zy]
   have hb:=Zkb x
   have h1:=Zkd h0
   obtain ⟨xo,k,e1,e2,e3⟩:=Zuw kk n (x / 2) (by omega) (by omega) (Nat.le_trans (Wy (Nat.div_le_self _ _)) hx)
   refine ⟨xo,k+1,?_,e2,e3⟩
   rw [Nat.pow_succ,Nat.mul_comm (2 ^ k),Nat.mul_assoc,← e1];omega
  ·rw [if_neg (dF he)]
   exact ⟨x,0,by simp,by omega,rfl⟩
theorem Zuz (t:Nat) {n x y:Nat} (hx:x≠0) (hy:y≠0) (h:x % 2=1∨y % 2=1) (lx:(Zd x).length≤M) (ly:(Zd y).length≤M):
  ∃ x' y',Vn N (t:Int) (n+1) (Zd x) (Zd y)=Vn N (t:Int) n (Zd x') (Zd y')∧x' % 2=1∧y' % 2=0∧Nat.gcd x' y'=Nat.gcd x y∧(Zd x').length≤M∧(Zd y').length≤M∧(Z8 x'+Z8 y'≤Z8 x+Z8 y)∧(y % 2=0→Z8 x'+Z8 y'+1≤Z8 x+Z8 y):=by
 have hp:=Sk hy
 have bx:=Zhr lx
 have by_:=Zhr ly
 obtain ⟨xo,k,x1,x2,x3⟩:=Zuw hN hM (Vn N (t:Int) n) (y:=y) N x hx (by omega) lx
 have lxo:=Zrw x1
 obtain ⟨yo,l,y1,y2,y3⟩:=Zux hN hM (Vn N (t:Int) n) (x:=xo) (Nat.le_trans (Wy lxo) lx) N y hy (by omega) ly
 have lyo:=Zrw y1
 rw [Vn.eq_2,if_pos (dT (by omega)),x3,y3]
 have mM:max xo yo≤max x y:=by omega
 have lM:(Zd (max x y)).length≤M:=by
  rcases Nat.le_total x y with h | h
  ·rw [Nat.max_eq_right h];exact ly
  ·rw [Nat.max_eq_left h];exact lx
 have bmm:Z8 (min xo yo)+Z8 (max xo yo - min xo yo)≤Z8 xo+Z8 yo:=by
  rcases Nat.le_total xo yo with h | h
  ·rw [Nat.min_eq_left h,Nat.max_eq_right h]
   have:=Zhs (Nat.sub_le yo xo);omega
  ·rw [Nat.min_eq_right h,Nat.max_eq_left h]
   have:=Zhs (Nat.sub_le xo yo);omega
 have b1:=Zhs lxo
 have b2:=Zhs lyo
 refine ⟨_,_,rfl,by omega,by omega,?_,Nat.le_trans (Wy (by omega)) lM,Nat.le_trans (Wy (by omega)) lM,by omega,fun hev=>?_⟩
 ·have g1:Nat.gcd (min xo yo) (max xo yo - min xo yo)=Nat.gcd xo yo:=by
   rcases Nat.le_total xo yo with h | h
   ·rw [Nat.min_eq_left h,Nat.max_eq_right h,Nat.gcd_sub_self_right h]
   ·rw [Nat.min_eq_right h,Nat.max_eq_left h,Nat.gcd_sub_self_right h,Nat.gcd_comm]
  rw [g1,x1,y1]
  rcases h with h | h
  ·have hk:k=0:=by
    rcases Nat.eq_zero_or_pos k with hk | hk
    ·exact hk
    ·obtain ⟨k',rfl⟩:∃ k',k=k'+1:=⟨k - 1,by omega⟩
     rw [x1,Nat.pow_succ,Nat.mul_comm (2 ^ k'),Nat.mul_assoc] at h;omega
   subst hk
   rw [Nat.pow_zero,Nat.one_mul,Z0f x2]
  ·have hl:l=0:=by
    rcases Nat.eq_zero_or_pos l with hk | hk
    ·exact hk
    ·obtain ⟨k',rfl⟩:∃ k',l=k'+1:=⟨l - 1,by omega⟩
     rw [y1,Nat.pow_succ,Nat.mul_comm (2 ^ k'),Nat.mul_assoc] at h;omega
   subst hl
   rw [Nat.pow_zero,Nat.one_mul,Zri y2]
 ·have:yo≤y / 2:=by
   rcases Nat.eq_zero_or_pos l with hl | hl
   ·subst hl;rw [Nat.pow_zero,Nat.one_mul] at y1;omega
   ·obtain ⟨k',rfl⟩:∃ k',l=k'+1:=⟨l - 1,by omega⟩
    rw [y1,Nat.pow_succ,Nat.mul_comm (2 ^ k'),Nat.mul_assoc,Nat.mul_div_cancel_left _ (by decide)]
    have:=Nat.mul_le_mul_right yo (Nat.two_pow_pos k')
    omega
  have h3:=Zhs this
  rw [Zkb] at h3
  have h4:=Zkd hy
  omega
theorem Zuv (t:Nat) (ht:t≤32 * M):∀ (n x y:Nat),x % 2=1→y % 2=0→Z8 x+Z8 y<n→(Zd x).length≤M→(Zd y).length≤M→
  ∃ g,Vn N (t:Int) n (Zd x) (Zd y)=some g∧Zn g∧Zb g=2 ^ t * Nat.gcd x y∧g.length≤33 * M
 | 0,x,y,_,_,h,_,_=>by omega
 | n+1,x,y,hx,hy,hn,lx,ly=>by
  by_cases h0:y=0
  ·subst h0
   rw [Vn.eq_2,Wg,if_neg (by decide)]
   obtain ⟨g,g1,g2,g3,g4⟩:=Zuy hN hM t N 0 (Zd x) (by omega) (by omega) ht (Zw _) (by omega)
   rw [Zy,Nat.sub_zero] at g3
   exact ⟨g,g1,g2,by rw [g3,Nat.gcd_zero_right],by omega⟩
  ·obtain ⟨x',y',e1,e2,e3,e4,e5,e6,_,e7⟩:=Zuz hN hM t (n:=n) (by omega) h0 (.inl hx) lx ly
   have:=e7 hy
   obtain ⟨g,g1,g2,g3,g4⟩:=Zuv t ht n x' y' e2 e3 (by omega) e5 e6
   exact ⟨g,by rw [e1,g1],g2,by rw [g3,e4],g4⟩
theorem Zuu:∀ (n x y t:Nat),x≠0→y≠0→Z8 x<n→t+Z8 x≤32 * M→(Zd x).length≤M→(Zd y).length≤M→
  ∃ g,Zal N n (Zd x) (Zd y) (t:Int)=some g∧Zn g∧Zb g=2 ^ t * Nat.gcd x y∧g.length≤33 * M
 | 0,x,y,t,_,_,h,_,_,_=>by omega
 | n+1,x,y,t,hx,hy,hn,ht,lx,ly=>by
  have bx:=Zhr lx
  have by_:=Zhr ly
  have last:(x % 2=1∨y % 2=1)→∃ g,Vn N (t:Int) N (Zd x) (Zd y)=some g∧Zn g∧Zb g=2 ^ t * Nat.gcd x y∧g.length≤33 * M:=fun h=>by
   obtain ⟨N',hN'⟩:∃ N',N=N'+1:=⟨N - 1,by omega⟩
   obtain ⟨x',y',e1,e2,e3,e4,e5,e6,e7,_⟩:=Zuz hN hM t (n:=N') hx hy h lx ly
   obtain ⟨g,g1,g2,g3,g4⟩:=Zuv hN hM t (by omega) N' x' y' e2 e3 (by omega) e5 e6
   refine ⟨g,?_,g2,by rw [g3,e4],g4⟩
   rw [← g1,← e1]
   congr 1
  rw [Zal.eq_2,Zmd (Zw _),Zy,oB]
  by_cases hxe:x % 2=0
  ·rw [if_pos (dT hxe),Zmd (Zw _),Zy,oB,Zge]
   by_cases hye:y % 2=0
   ·rw [if_pos (dT hye),Zme (Zw _) (by omega) (by omega),oB,Zme (Zw _) (by omega) (by omega),oB,Zy,Zy,Zs (by omega)]
    have hb:=Zkb x
    have h1:=Zkd hx
    obtain ⟨g,g1,g2,g3,g4⟩:=Zuu n (x / 2) (y / 2) (t+1) (by omega) (by omega) (by omega) (by omega) (Nat.le_trans (Wy (Nat.div_le_self _ _)) lx) (Nat.le_trans (Wy (Nat.div_le_self _ _)) ly)
    rw [show ((t+1:Nat):Int)=(t:Int)+1 by omega] at g1
    refine ⟨g,g1,g2,?_,g4⟩
    rw [g3,Nat.pow_succ,Nat.mul_assoc,← Nat.gcd_mul_left]
    congr 2 <;> omega
   ·rw [if_neg (dF hye)]
    exact last (.inr (by omega))
  ·rw [if_neg (dF hxe),Zge,if_neg (by decide)]
   exact last (.inl (by omega))
end
theorem Z2t {N M:Nat} {a b:List Int} (ha:Zn a) (hb:Zn b) (hla:a.length≤M) (hlb:b.length≤M) (hN:100 * M+64<N) (hM:M<17179869200):∃ g,Zio N a b=some g∧Zn g∧Zb g=Nat.gcd (Zb a) (Zb b)∧g.length≤33 * M:=by
 have la:=X4 ha
 have lb:=X4 hb
 rw [Zio,V6 ha (by omega) (by omega),oB,V6 hb (by omega) (by omega),oB]
 by_cases h1:Zb a=0
 ·rw [h1,Wg,if_pos (by decide),Nat.gcd_zero_left]
  exact ⟨_,rfl,Zw _,Zy _,by omega⟩
 ·have p1:=Sk h1
  rw [if_neg (dF (by omega))]
  by_cases h2:Zb b=0
  ·rw [h2,Wg,if_pos (by decide),Nat.gcd_zero_right]
   exact ⟨_,rfl,Zw _,Zy _,by omega⟩
  ·have p2:=Sk h2
   have bx:=Zhr (x:=Zb a) (by omega)
   rw [if_neg (dF (by omega))]
   obtain ⟨g,g1,g2,g3,g4⟩:=Zuu hN hM N (Zb a) (Zb b) 0 h1 h2 (by omega) (by omega) (by omega) (by omega)
   exact ⟨g,g1,g2,by rw [g3];simp,g4⟩
def Zlc:Option R1:=
  some [1]
theorem Zyg {col:Ze} {w0:World} {r:R1} (c1:Nat) (hm:Zlc=some r):
    Calls prog 270 #[] w0 (fun e w'=>∃ (col':Ze) (ra1:Option Addr) (rc2:Nat),e= .returned ((.slice ra1 r.length rc2))∧Zf col w0 col' w'∧Zc (Za.int .u32) 79 c1 col' w' ra1 rc2 r):=by
 refine Z1 0 (m:=2) func270 rfl rfl rfl rfl rfl ?_;rw [Zlc.eq_1] at hm;have aa:=St.start col w0;refine go ?_;refine W5 (col:=(Zg col)) [1] 1 ?_;intro ad ae af ab ac;refine go ?_;cases hm;replace aa:=aa.grow ab;exact ⟨rfl,_,_,1,rfl,aa.fin (cm [(1,c1)]),aa.fo ac⟩
def Su (N:Nat) (ab:R2):Option R1:=
  (W6 N ab.2).bind fun aa=>if (decide ((aa.length:Int)=0))=true then ((Zlc).bind fun ac=>some ac) else (some aa)
theorem Zct {N ad ae:Nat} {af ag:Option Addr} {col:Ze} {w0:World} {ab:R2} {r:R1} (c1:Nat) (hm:Su N ab=some r) (aq:Sl (Za.int .u32) col w0 af ad ab.1.2) (ac:Sl (Za.int .u32) col w0 ag ae ab.2):
    Calls prog 208 #[(.agg #[.bool ab.1.1,.slice af ab.1.2.length ad,.slice ag ab.2.length ae])] w0 (fun e w'=>∃ (col':Ze) (ra1:Option Addr) (rc2:Nat),e= .returned ((.slice ra1 r.length rc2))∧Zf col w0 col' w'∧Zc (Za.int .u32) 79 c1 col' w' ra1 rc2 r):=by
 refine Z1 2 (m:=12) func208 rfl rfl rfl rfl rfl ?_;rw [Su.eq_1] at hm;have aa:=St.start col w0;refine go ?_;refine Xe (col:=(Zg col)) 1 rfl ?_;intro ar au av ah ai;refine go ?_;refine Z9 ai ?_;obtain ⟨aw,aj,hm⟩:=bZ hm;replace ac:=ac.keep (Zh.start col w0);replace aa:=aa.grow ah;refine Zi (V0 2 aj (ac.ks aa)) ?_;rintro _ ax ⟨ak,ay,az,rfl,al,am⟩;refine ⟨_,rfl,go ?_⟩;replace aa:=aa.grow al;refine Zm hm (fun hb hm=>go ?_) fun hb hm=>go ?_
 ·obtain ⟨a0,an,hm⟩:=bZ hm;refine lc rfl rfl (Zhf call270) (Zyg (col:=ak) 3 an:) ?_;rintro _ a1 ⟨a2,a3,a4,rfl,ao,ap⟩;refine ⟨_,rfl,go ?_⟩;cases hm;replace aa:=aa.grow ao;exact ⟨rfl,_,_,_,rfl,aa.fin (cm [(3,c1)]),aa.fo ap⟩
 cases hm;exact ⟨rfl,_,_,_,rfl,aa.fin (cm [(2,c1)]),aa.fo am⟩
def Qs (aa:List Int):Option R3:=
  some (false,aa)
theorem Zkl {ac:Nat} {a0:Option Addr} {col:Ze} {w0:World} {ab:R1} {r:R3} (hm:Qs ab=some r) (h0:Sl (Za.int .u32) col w0 a0 ac ab):
    Calls prog 207 #[.slice a0 ab.length ac] w0 (fun e w'=>∃ (col':Ze) (ra1:Option Addr) (rc2:Nat),e= .returned ((.agg #[.bool r.1,.slice ra1 r.2.length rc2]))∧Zf col w0 col' w'∧Sl (Za.int .u32) col' w' ra1 rc2 r.2):=by
 refine Yt (m:=5) func207 rfl rfl rfl ?_;rw [Qs.eq_1] at hm;have aa:=St.start col w0;refine go ?_;refine Xs (col:=(Zg col)) #[.bool false,.slice none (([]:List Int).length) 0] 1 zeroValue45 ?_;intro ai aj ak ad ae;refine go ?_;refine lV (.agg #[.bool false,.slice a0 ab.length ac]) (Wl (l:=[_,_]) (qs:=[(0,1),(1,1)]) underlying45 zeroValue45 ⟨rfl,sizeOf4,rfl,sizeOf43,trivial⟩ rfl)<|Xa ae ?_;intro al af ag ah;refine go ?_;cases hm;replace h0:=h0.keep (Zh.start col w0);replace aa:=(aa.grow ad).kp af ag;exact ⟨rfl,_,ra ah.atN,_,_,_,rfl,aa.fin (cm []),aa.fs (h0.ks aa)⟩
def Zgn (aa:Bool) (ab:List Int):Option R3:=
  some (aa,ab)
def Tx (N:Nat) (ab:Bool) (ac:List Int):Option R3:=
  (W6 N ac).bind fun aa=>if ab=true then (Zgn (decide (0<(aa.length:Int))) aa) else (Zgn false aa)
theorem Za9 {N ao:Nat} {a1:Option Addr} {col:Ze} {w0:World} {ap:Bool} {ah:R1} {r:R3} (c1:Nat) (hm:Tx N ap ah=some r) (h1:Sl (Za.int .u32) col w0 a1 ao ah):
    Calls prog 226 #[.bool ap,.slice a1 ah.length ao] w0 (fun e w'=>∃ (col':Ze) (ra1:Option Addr) (rc2:Nat),e= .returned ((.agg #[.bool r.1,.slice ra1 r.2.length rc2]))∧Zf col w0 col' w'∧Zc (Za.int .u32) 79 c1 col' w' ra1 rc2 r.2):=by
 refine Yt (m:=16) func226 rfl rfl rfl ?_;rw [Tx.eq_1] at hm;have aa:=St.start col w0;refine go ?_;refine Xs (col:=(Zg col)) #[.bool false,.slice none (([]:List Int).length) 0] 1 zeroValue45 ?_;intro ax a4 a5 ay ac;refine go ?_;obtain ⟨ad,az,hm⟩:=bZ hm;replace h1:=h1.keep (Zh.start col w0);replace aa:=aa.grow ay;refine Zi (V0 2 az (h1.ks aa)) ?_;rintro _ a6 ⟨a7,aq,ar,rfl,au,ab⟩;refine ⟨_,rfl,?_⟩;refine Zkw rfl<|Zo<|Zt ?_;replace ac:=ac.gr au;replace aa:=aa.grow au;refine Wp.cutK [4,1000000] (fun f ae=>∃ af ai aj ak ag,Zgn ai ag=some r∧St w0 (Zg col) af ae∧Zc (Za.int .u32) 79 3 af ae aj ak ag∧Zk 45 1 af ae ax #[.bool ai,.slice aj ag.length ak]) ?_ ?_
 ·intro f ae hJ;obtain ⟨af,ai,aj,ak,ag,hm,aa,a0,ac⟩:=hJ;rw [Zgn.eq_1] at hm;refine Wh ?_;cases hm;exact ⟨rfl,_,ra ac.atN,_,_,_,rfl,aa.fin (cm [(3,c1)]),aa.fo a0⟩
 refine go ?_;refine Xu hm (fun al hm=>go ?_) fun al hm=>go ?_
 ·refine lV (.bool (decide (0<(ad.length:Int)))) (Xg (congrArg Value.bool al) rfl)<|Yi rfl<|lV (.agg #[.bool (decide (0<(ad.length:Int))),.slice aq ad.length ar]) (Wl (l:=[_,_]) (qs:=[(0,1),(1,1)]) underlying45 zeroValue45 ⟨rfl,sizeOf4,rfl,sizeOf43,trivial⟩ rfl)<|Xa ac ?_;intro a8 av a2 am;refine Zo ?_;replace ab:=ab.kp av;replace ab:=ab.recolSelf 3 (by decide);replace am:=am.recol 2 3 (by decide);replace aa:=aa.kp av a2;replace aa:=aa.recol 2 3 (by decide) (by decide);exact ⟨rfl,_,_,_,_,_,hm,aa,ab,am⟩
 refine lV (.bool false) (Xt (congrArg Value.bool al) rfl)<|Yi rfl<|lV (.agg #[.bool false,.slice aq ad.length ar]) (Wl (l:=[_,_]) (qs:=[(0,1),(1,1)]) underlying45 zeroValue45 ⟨rfl,sizeOf4,rfl,sizeOf43,trivial⟩ rfl)<|Xa ac ?_;intro a9 aw a3 an;refine Zo ?_;replace ab:=ab.kp aw;replace ab:=ab.recolSelf 3 (by decide);replace an:=an.recol 2 3 (by decide);replace aa:=aa.kp aw a3;replace aa:=aa.recol 2 3 (by decide) (by decide);exact ⟨rfl,_,_,_,_,_,hm,aa,ab,an⟩
def Zbz (N:Nat) (aa:R3) (ab:R3):Option R3:=
  (Sq N aa.2 ab.2).bind fun ad=>(Tx N (!decide (aa.1=ab.1)) ad).bind fun ac=>some (ac.1,ac.2)
theorem Zkj {N ar au:Nat} {av aw:Option Addr} {col:Ze} {w0:World} {ag ah r:R3} (c1:Nat) (hm:Zbz N ag ah=some r) (al:Sl (Za.int .u32) col w0 av ar ag.2) (am:Sl (Za.int .u32) col w0 aw au ah.2):
    Calls prog 206 #[(.agg #[.bool ag.1,.slice av ag.2.length ar]),(.agg #[.bool ah.1,.slice aw ah.2.length au])] w0 (fun e w'=>∃ (col':Ze) (ra1:Option Addr) (rc2:Nat),e= .returned ((.agg #[.bool r.1,.slice ra1 r.2.length rc2]))∧Zf col w0 col' w'∧Zc (Za.int .u32) 79 c1 col' w' ra1 rc2 r.2):=by
 refine Yt (m:=16) func206 rfl rfl rfl ?_;rw [Zbz.eq_1] at hm;have aa:=St.start col w0;refine go ?_;refine Xe (col:=(Zg col)) 1 rfl ?_;intro a7 a8 az a0 ai;refine Xe (col:=az) 2 rfl ?_;intro a9 ba a1 ax aj;refine Xs (col:=a1) #[.bool false,.slice none (([]:List Int).length) 0] 3 zeroValue45 ?_;intro bb bc ad an ab;refine go ?_;refine W9 (col:=ad) [(0,1),(1,0),(2,1),(3,0),(4,1),(5,1),(6,0),(7,1),(8,0),(9,3),(10,3),(11,2)] (by kernel_rfl) (by kernel_rfl)<|xF ⟨_,_,rfl⟩ ?_;replace ai:=(ai.gr ax).gr an;refine xW (fun _ hC=>((ai.atN).nth (q:=0) rfl).gr (hC.bl ad)) ?_;refine xF ⟨_,_,rfl⟩ ?_;replace aj:=aj.gr an;refine xW (fun _ hC=>((aj.atN).nth (q:=0) rfl).gr (hC.bl ad)) ?_;refine xu rfl rfl (fun _=>Zjp _ _ underlying4 rfl rfl) ?_;refine xF ⟨_,_,rfl⟩ ?_;refine xW (fun _ hC=>((ai.atN).nth (q:=1) rfl).gr (hC.bl ad)) ?_;refine xF ⟨_,_,rfl⟩ ?_;refine xW (fun _ hC=>((aj.atN).nth (q:=1) rfl).gr (hC.bl ad)) ?_;refine xe rfl rfl ?_;intro bd hC0;have hC:=hC0.bl ad;obtain ⟨be,a2,hm⟩:=bZ hm;replace al:=al.keep (Zh.start col w0);replace am:=am.keep (Zh.start col w0);replace aa:=(((aa.grow a0).grow ax).grow an).grow hC;refine Zi (Zey 4 a2 (al.ks aa) (am.ks aa)) ?_;rintro _ bf ⟨af,bg,bh,rfl,ao,ap⟩;refine ⟨_,rfl,?_⟩;refine Zo<|X1 af hC0 ao<|xe rfl rfl ?_;intro a3 hC0;replace ab:=(ab.gr hC).gr ao;have hC:=hC0.bl af;obtain ⟨bi,a4,hm⟩:=bZ hm;replace ap:=ap.gr hC;refine Zi (Za9 5 a4 (ap.toSlF (Zj.int .u32))) ?_;rintro _ bj ⟨a5,bk,bm,rfl,ae,ac⟩;refine ⟨_,rfl,?_⟩;replace ac:=ac.thaw (Z2 .u32) ae ((Fz.refl (col:=af)).froz 4) (by decide);replace ae:=ae.thawR (col:=af);generalize Z7 a3.heap.size af a5=ak at *;refine Zo<|X1 ak hC0 ae<|xe rfl rfl ?_;intro bn hC0;replace aa:=((aa.grow ao).grow hC).grow ae;replace ab:=(ab.gr hC).gr ae;have hC:=hC0.bl ak;replace ab:=ab.gr hC;refine Xa ab ?_;intro bo ay a6 aq;refine Zo<|xk ak<|Wu ?_;replace ac:=(ac.gr hC).kp ay;replace aa:=(aa.grow hC).kp ay a6;intro bp hC;replace hC:=hC.bl ak;refine Wh ?_;cases hm;replace ac:=ac.gr hC;replace aq:=aq.gr hC;replace aa:=aa.grow hC;exact ⟨rfl,_,ra aq.atN,_,_,_,rfl,aa.fin (cm [(5,c1)]),aa.fo ac⟩
def Zgm (N:Nat) (aa:R3) (ab:R3):Option R3:=
  if (decide (aa.1=ab.1))=true then ((Zga N aa.2 ab.2).bind fun ag=>(Tx N aa.1 ag).bind fun ac=>some (ac.1,ac.2)) else ((Zbw N aa.2 ab.2).bind fun ad=>if ad.2=true then ((Tx N aa.1 ad.1).bind fun ae=>some (ae.1,ae.2)) else ((Zbw N ab.2 aa.2).bind fun ah=>(Tx N ab.1 ah.1).bind fun af=>some (af.1,af.2)))
theorem Zpx {N a3 a4:Nat} {a5 a6:Option Addr} {col:Ze} {w0:World} {ao ap r:R3} (c1:Nat) (hm:Zgm N ao ap=some r) (ag:Sl (Za.int .u32) col w0 a5 a3 ao.2) (ah:Sl (Za.int .u32) col w0 a6 a4 ap.2):
    Calls prog 124 #[(.agg #[.bool ao.1,.slice a5 ao.2.length a3]),(.agg #[.bool ap.1,.slice a6 ap.2.length a4])] w0 (fun e w'=>∃ (col':Ze) (ra1:Option Addr) (rc2:Nat),e= .returned ((.agg #[.bool r.1,.slice ra1 r.2.length rc2]))∧Zf col w0 col' w'∧Zc (Za.int .u32) 79 c1 col' w' ra1 rc2 r.2):=by
 refine Yt (m:=45) func124 rfl rfl rfl ?_;rw [Zgm.eq_1] at hm;have aa:=St.start col w0;refine go ?_;refine Xe (col:=(Zg col)) 1 rfl ?_;intro b3 b4 bf bg ad;refine Xe (col:=bf) 2 rfl ?_;intro b5 b6 bh a7 ac;refine Xs (col:=bh) #[.bool false,.slice none (([]:List Int).length) 0] 3 zeroValue45 ?_;intro b7 b8 ai aw ab;refine go ?_;refine Xv ⟨_,_,rfl⟩ ?_;replace ad:=(ad.gr a7).gr aw;refine lW ((ad.atN).nth (q:=0) rfl)<|Xv ⟨_,_,rfl⟩ ?_;replace ac:=ac.gr aw;refine lW ((ac.atN).nth (q:=0) rfl)<|go ?_;replace ag:=ag.keep (Zh.start col w0);replace ah:=ah.keep (Zh.start col w0);replace aa:=((aa.grow bg).grow a7).grow aw;refine Zm hm (fun hb hm=>?_) fun hb hm=>go ?_
 ·refine Zt<|W9 (col:=ai) [(0,1),(1,0),(2,1),(3,0),(4,1),(5,0),(6,3),(7,3),(8,2)] (by kernel_rfl) (by kernel_rfl)<|xF ⟨_,_,rfl⟩ ?_;refine xW (fun _ hC=>((ad.atN).nth (q:=0) rfl).gr (hC.bl ai)) ?_;refine xF ⟨_,_,rfl⟩ ?_;refine xW (fun _ hC=>((ad.atN).nth (q:=1) rfl).gr (hC.bl ai)) ?_;refine xF ⟨_,_,rfl⟩ ?_;refine xW (fun _ hC=>((ac.atN).nth (q:=1) rfl).gr (hC.bl ai)) ?_;refine xe rfl rfl ?_;intro b9 hC0;have hC:=hC0.bl ai;obtain ⟨ca,bi,hm⟩:=bZ hm;replace aa:=aa.grow hC;refine Zi (Zps 4 bi (ag.ks aa) (ah.ks aa)) ?_;rintro _ cb ⟨aj,cc,cd,rfl,ax,ay⟩;refine ⟨_,rfl,?_⟩;refine Zo<|X1 aj hC0 ax<|xe rfl rfl ?_;intro bj hC0;replace ab:=(ab.gr hC).gr ax;have hC:=hC0.bl aj;obtain ⟨ce,bk,hm⟩:=bZ hm;replace ay:=ay.gr hC;refine Zi (Za9 5 bk (ay.toSlF (Zj.int .u32))) ?_;rintro _ cf ⟨bm,cg,ch,rfl,af,ae⟩;refine ⟨_,rfl,?_⟩;replace ae:=ae.thaw (Z2 .u32) af ((Fz.refl (col:=aj)).froz 4) (by decide);replace af:=af.thawR (col:=aj);generalize Z7 bj.heap.size aj bm=aq at *;refine Zo<|X1 aq hC0 af<|xe rfl rfl ?_;intro ci hC0;replace aa:=((aa.grow ax).grow hC).grow af;replace ab:=(ab.gr hC).gr af;have hC:=hC0.bl aq;replace ab:=ab.gr hC;refine Xa ab ?_;intro cj a8 bn az;refine Zo<|xk aq<|Wu ?_;replace ae:=(ae.gr hC).kp a8;replace aa:=(aa.grow hC).kp a8 bn;intro ck hC;replace hC:=hC.bl aq;refine Wh ?_;cases hm;replace ae:=ae.gr hC;replace az:=az.gr hC;replace aa:=aa.grow hC;exact ⟨rfl,_,ra az.atN,_,_,_,rfl,aa.fin (cm [(5,c1)]),aa.fo ae⟩
 refine Z9 ad<|Z9 ac ?_;obtain ⟨ar,bo,hm⟩:=bZ hm;refine Zi (Zkg 6 bo (ag.ks aa) (ah.ks aa)) ?_;rintro _ bp ⟨a0,a9,ba,rfl,au,bq⟩;refine ⟨_,rfl,?_⟩;refine lM (.tuple #[.slice a9 ar.1.length ba,.bool ar.2])<|lV (.slice a9 ar.1.length ba) (Xq rfl rfl)<|lV (.bool ar.2) (Xq rfl rfl)<|go ?_;replace ad:=ad.gr au;replace ac:=ac.gr au;replace ab:=ab.gr au;replace aa:=aa.grow au;refine Zm hm (fun hb hm=>go ?_) fun hb hm=>go ?_
 ·refine Z9 ad<|Yi rfl ?_;obtain ⟨cl,br,hm⟩:=bZ hm;refine Zi (Za9 7 br (bq.toSlF (Zj.int .u32))) ?_;rintro _ cn ⟨bs,co,cp,rfl,ak,al⟩;refine ⟨_,rfl,?_⟩;replace al:=al.thaw (Z2 .u32) ak ((Fz.refl (col:=a0)).froz 6) (by decide);replace ak:=ak.thawR (col:=a0);generalize Z7 bp.heap.size a0 bs=cq at *;replace ab:=ab.gr ak;refine Xa ab ?_;intro cr bb bt bu;refine go ?_;cases hm;replace aa:=(aa.grow ak).kp bb bt;replace al:=al.kp bb;exact ⟨rfl,_,ra bu.atN,_,_,_,rfl,aa.fin (cm [(7,c1)]),aa.fo al⟩
 refine Z9 ac<|Z9 ad ?_;obtain ⟨av,bv,hm⟩:=bZ hm;refine Zi (Zkg 8 bv (ah.ks aa) (ag.ks aa)) ?_;rintro _ bw ⟨a1,bc,bd,rfl,a2,bx⟩;refine ⟨_,rfl,?_⟩;refine lM (.tuple #[.slice bc av.1.length bd,.bool av.2])<|lV (.slice bc av.1.length bd) (Xq rfl rfl)<|lV (.bool av.2) (Xq rfl rfl)<|go ?_;refine Xv ⟨_,_,rfl⟩ ?_;replace ac:=ac.gr a2;refine lW ((ac.atN).nth (q:=0) rfl)<|Yi rfl ?_;obtain ⟨cs,bz,hm⟩:=bZ hm;refine Zi (Za9 9 bz (bx.toSlF (Zj.int .u32))) ?_;rintro _ ct ⟨b0,cu,cv,rfl,am,an⟩;refine ⟨_,rfl,?_⟩;replace an:=an.thaw (Z2 .u32) am ((Fz.refl (col:=a1)).froz 8) (by decide);replace am:=am.thawR (col:=a1);generalize Z7 bw.heap.size a1 b0=cw at *;replace ab:=(ab.gr a2).gr am;refine Xa ab ?_;intro cx be b1 b2;refine go ?_;cases hm;replace aa:=((aa.grow a2).grow am).kp be b1;replace an:=an.kp be;exact ⟨rfl,_,ra b2.atN,_,_,_,rfl,aa.fin (cm [(9,c1)]),aa.fo an⟩
def Zgo (N:Nat) (aa:R3):Option R3:=
  (Tx N aa.1 aa.2).bind fun ab=>some (ab.1,ab.2)
theorem Zpy {N ag:Nat} {ah:Option Addr} {col:Ze} {w0:World} {ab r:R3} (c1:Nat) (hm:Zgo N ab=some r) (ad:Sl (Za.int .u32) col w0 ah ag ab.2):
    Calls prog 268 #[(.agg #[.bool ab.1,.slice ah ab.2.length ag])] w0 (fun e w'=>∃ (col':Ze) (ra1:Option Addr) (rc2:Nat),e= .returned ((.agg #[.bool r.1,.slice ra1 r.2.length rc2]))∧Zf col w0 col' w'∧Zc (Za.int .u32) 79 c1 col' w' ra1 rc2 r.2):=by
 refine Yt (m:=8) func268 rfl rfl rfl ?_;rw [Zgo.eq_1] at hm;have aa:=St.start col w0;refine go ?_;refine Xe (col:=(Zg col)) 1 rfl ?_;intro aq ar al am ac;refine Xs (col:=al) #[.bool false,.slice none (([]:List Int).length) 0] 2 zeroValue45 ?_;intro au av aw ai ae;refine go ?_;refine Xv ⟨_,_,rfl⟩ ?_;replace ac:=ac.gr ai;refine lW ((ac.atN).nth (q:=0) rfl)<|Z9 ac ?_;obtain ⟨ax,an,hm⟩:=bZ hm;replace ad:=ad.keep (Zh.start col w0);replace aa:=(aa.grow am).grow ai;refine Zi (Za9 3 an (ad.ks aa)) ?_;rintro _ ay ⟨az,a0,a1,rfl,aj,af⟩;refine ⟨_,rfl,?_⟩;replace ae:=ae.gr aj;refine Xa ae ?_;intro a2 ak ao ap;refine go ?_;cases hm;replace aa:=(aa.grow aj).kp ak ao;replace af:=af.kp ak;exact ⟨rfl,_,ra ap.atN,_,_,_,rfl,aa.fin (cm [(3,c1)]),aa.fo af⟩
def Zdv (N:Nat) (aa:R3) (ab:List Int):Option R2:=
  (Zio N aa.2 ab).bind fun ac=>(Zgc N aa.2 ac).bind fun ae=>(Zgc N ab ac).bind fun af=>(Zgo N (aa.1,ae.1)).bind fun ad=>(W6 N af.1).bind fun ag=>some ((ad.1,ad.2),ag)
theorem Znc {N a2 a3:Nat} {a4 a1:Option Addr} {col:Ze} {w0:World} {ai:R3} {ap:R1} {r:R2} (c1 c2:Nat) (hm:Zdv N ai ap=some r) (an:Sl (Za.int .u32) col w0 a4 a2 ai.2) (h1:Sl (Za.int .u32) col w0 a1 a3 ap):
    Calls prog 213 #[(.agg #[.bool ai.1,.slice a4 ai.2.length a2]),.slice a1 ap.length a3] w0 (fun e w'=>∃ (col':Ze) (ra1:Option Addr) (rc2:Nat) (ra4:Option Addr) (rc5:Nat),e= .returned ((.agg #[.bool r.1.1,.slice ra1 r.1.2.length rc2,.slice ra4 r.2.length rc5]))∧Zf col w0 col' w'∧Zc (Za.int .u32) 79 c1 col' w' ra1 rc2 r.1.2∧Zc (Za.int .u32) 79 c2 col' w' ra4 rc5 r.2):=by
 refine Yt (m:=39) func213 rfl rfl rfl ?_;rw [Zdv.eq_1] at hm;have aa:=St.start col w0;refine go ?_;refine Xe (col:=(Zg col)) 1 rfl ?_;intro b1 b2 bd be ab;refine Xs (col:=bd) #[.bool false,.slice none (([]:List Int).length) 0,.slice none (([]:List Int).length) 0] 2 zeroValue47 ?_;intro b3 b4 b5 a5 aq;refine go ?_;refine Xv ⟨_,_,rfl⟩ ?_;replace ab:=ab.gr a5;refine lW ((ab.atN).nth (q:=1) rfl)<|Yi rfl ?_;obtain ⟨b6,bf,hm⟩:=bZ hm;replace an:=an.keep (Zh.start col w0);replace h1:=h1.keep (Zh.start col w0);replace aa:=(aa.grow be).grow a5;refine Zi (Zx4 3 bf (an.ks aa) (h1.ks aa)) ?_;rintro _ bg ⟨ar,b7,b8,rfl,au,ao⟩;refine ⟨_,rfl,go ?_⟩;refine Xv ⟨_,_,rfl⟩ ?_;replace ab:=ab.gr au;refine lW ((ab.atN).nth (q:=1) rfl)<|Yi rfl ?_;obtain ⟨ac,bh,hm⟩:=bZ hm;replace aa:=aa.grow au;refine Zi (Zpt 4 5 bh ((an.ks aa).froz 3) (ao.toSlF (Zj.int .u32))) ?_;rintro _ bi ⟨bj,av,aw,a6,a7,rfl,ad,aj,b9⟩;refine ⟨_,rfl,?_⟩;replace aj:=aj.thaw (Z2 .u32) ad ((Fz.refl (col:=ar)).froz 3) (by decide);replace ad:=ad.thawR (col:=ar);generalize Z7 bg.heap.size ar bj=ax at *;refine lM (.tuple #[.slice av ac.1.length aw,.slice a6 ac.2.1.length a7,.int .i64 ac.2.2])<|lV (.slice av ac.1.length aw) (Xq rfl rfl)<|lV (.slice a6 ac.2.1.length a7) (Xq rfl rfl)<|lV (.int .i64 ac.2.2) (Xq rfl rfl)<|go ?_;obtain ⟨af,bk,hm⟩:=bZ hm;replace ao:=ao.gr ad;replace aa:=aa.grow ad;refine Zi (Zpt 6 7 bk ((h1.ks aa).froz 3) (ao.toSlF (Zj.int .u32))) ?_;rintro _ bm ⟨bn,a8,a9,ba,bb,rfl,ae,ak,ca⟩;refine ⟨_,rfl,?_⟩;replace ak:=ak.thaw (Z2 .u32) ae ((Fz.refl (col:=ax)).froz 3) (by decide);replace ae:=ae.thawR (col:=ax);generalize Z7 bi.heap.size ax bn=ay at *;refine lM (.tuple #[.slice a8 af.1.length a9,.slice ba af.2.1.length bb,.int .i64 af.2.2])<|lV (.slice a8 af.1.length a9) (Xq rfl rfl)<|lV (.slice ba af.2.1.length bb) (Xq rfl rfl)<|lV (.int .i64 af.2.2) (Xq rfl rfl)<|go ?_;refine Xv ⟨_,_,rfl⟩ ?_;replace ab:=(ab.gr ad).gr ae
 refine lW ((ab.atN).nth (q:=0) rfl)<|Yi rfl<|lV (.agg #[.bool ai.1,.slice av ac.1.length aw]) (Wl (l:=[_,_]) (qs:=[(0,1),(1,1)]) underlying45 zeroValue45 ⟨rfl,sizeOf4,rfl,sizeOf43,trivial⟩ rfl) ?_;obtain ⟨bc,bo,hm⟩:=bZ hm;replace aj:=aj.gr ae;refine Zi (Zpy 8 bo (aj.toSlF (Zj.int .u32))) ?_;rintro _ bp ⟨bq,br,bs,rfl,ag,al⟩;refine ⟨_,rfl,?_⟩;replace al:=al.thaw (Z2 .u32) ag ((Fz.refl (col:=ay)).froz 4) (by decide);replace ag:=ag.thawR (col:=ay);generalize Z7 bm.heap.size ay bq=az at *;refine Yi rfl ?_;obtain ⟨bt,bu,hm⟩:=bZ hm;replace ak:=ak.gr ag;refine Zi (V0 9 bu (ak.toSlF (Zj.int .u32))) ?_;rintro _ cb ⟨bv,bw,bx,rfl,ah,am⟩;refine ⟨_,rfl,?_⟩;replace am:=am.thaw (Z2 .u32) ah ((Fz.refl (col:=az)).froz 6) (by decide);replace ah:=ah.thawR (col:=az);generalize Z7 bp.heap.size az bv=cc at *;refine lV (.agg #[.bool bc.1,.slice br bc.2.length bs,.slice bw bt.length bx]) (Wl (l:=[_,_]) (qs:=[(0,2),(2,1)]) underlying47 zeroValue47 ⟨rfl,sizeOf45,rfl,sizeOf43,trivial⟩ rfl) ?_;replace aq:=((((aq.gr au).gr ad).gr ae).gr ag).gr ah;refine Xa aq ?_;intro cd a0 bz b0;refine go ?_;cases hm;replace aa:=(((aa.grow ae).grow ag).grow ah).kp a0 bz;replace al:=(al.gr ah).kp a0;replace am:=am.kp a0;exact ⟨rfl,_,ra b0.atN,_,_,_,_,_,rfl,aa.fin (cm [(8,c1),(9,c2)]),aa.fo al,aa.fo am⟩
def Ziv (N:Nat) (aa:R2) (ab:R2):Option R2:=
  (Su N ((ab.1.1,ab.1.2),ab.2)).bind fun ai=>(Qs ai).bind fun ad=>(Zbz N (aa.1.1,aa.1.2) (ad.1,ad.2)).bind fun ae=>(Su N ((aa.1.1,aa.1.2),aa.2)).bind fun aj=>(Qs aj).bind fun af=>(Zbz N (ab.1.1,ab.1.2) (af.1,af.2)).bind fun ag=>(Zgm N (ae.1,ae.2) (ag.1,ag.2)).bind fun ah=>(Su N ((aa.1.1,aa.1.2),aa.2)).bind fun ak=>(Su N ((ab.1.1,ab.1.2),ab.2)).bind fun al=>(Sq N ak al).bind fun am=>(Zdv N (ah.1,ah.2) am).bind fun ac=>some ((ac.1.1,ac.1.2),ac.2)
theorem Zx9 {N b3 cd b4 ce:Nat} {b5 cf b6 cg:Option Addr} {col:Ze} {w0:World} {ao ap r:R2} (c1 c2:Nat) (hm:Ziv N ao ap=some r) (bj:Sl (Za.int .u32) col w0 b5 b3 ao.1.2) (b7:Sl (Za.int .u32) col w0 cf cd ao.2) (bk:Sl (Za.int .u32) col w0 b6 b4 ap.1.2) (b8:Sl (Za.int .u32) col w0 cg ce ap.2):
    Calls prog 156 #[(.agg #[.bool ao.1.1,.slice b5 ao.1.2.length b3,.slice cf ao.2.length cd]),(.agg #[.bool ap.1.1,.slice b6 ap.1.2.length b4,.slice cg ap.2.length ce])] w0 (fun e w'=>∃ (col':Ze) (ra1:Option Addr) (rc2:Nat) (ra4:Option Addr) (rc5:Nat),e= .returned ((.agg #[.bool r.1.1,.slice ra1 r.1.2.length rc2,.slice ra4 r.2.length rc5]))∧Zf col w0 col' w'∧Zc (Za.int .u32) 79 c1 col' w' ra1 rc2 r.1.2∧Zc (Za.int .u32) 79 c2 col' w' ra4 rc5 r.2):=by
 refine Yt (m:=28) func156 rfl rfl rfl ?_;rw [Ziv.eq_1] at hm;have aa:=St.start col w0;refine go ?_;refine Xe (col:=(Zg col)) 1 rfl ?_;intro cw dt cx cy ac;refine Xe (col:=cx) 2 rfl ?_;intro cz du c0 cr ad;refine Xs (col:=c0) #[.bool false,.slice none (([]:List Int).length) 0,.slice none (([]:List Int).length) 0] 3 zeroValue47 ?_;intro dv b9 bm ch ab;refine go ?_;have ca:=Zx.clip (fun _=>false) bm b9;refine Zo3 (col:=bm) [(0,1),(1,0),(2,0),(3,3),(4,3),(5,3),(6,4),(7,2)] (by kernel_rfl) (by kernel_rfl) ⟨fun h=>absurd h (by decide),fun h=>absurd h (by decide),fun h=>absurd h (by decide),fun h=>absurd h (by decide),fun h=>absurd h (by decide),fun h=>absurd h (by decide),fun _=>⟨_,_,_,rfl,Ze1 zeroValue45⟩,fun h=>absurd h (by decide),trivial⟩<|Zms (v:=(.pointer ((some (⟨cw,0,none⟩:Addr)).map (·.add 0)))) rfl rfl (fun _=>Us (sz:=2) (off:=0) underlying47 rfl sizeOf45 (by decide) rfl rfl ⟨_,_,rfl⟩) ?_;replace ac:=((ac.gr cr).gr ch).kpp ca;refine Zcn (v:=(.agg #[.bool ao.1.1,.slice b5 ao.1.2.length b3])) rfl rfl (fun _ hC=>Y1 isAgg45 sizeOf45 rfl rfl (((ac.atN).part 0 2 _ rfl).gr (hC.bl (Zp b9 bm)))) ?_;replace ad:=(ad.gr ch).kpp ca;refine Zcn (v:=(.agg #[.bool ap.1.1,.slice b6 ap.1.2.length b4,.slice cg ap.2.length ce])) rfl rfl (fun _ hC=>Y1 isAgg47 sizeOf47 rfl rfl (ad.atN.gr (hC.bl (Zp b9 bm)))) ?_;refine Ux rfl rfl ?_;intro dw hC0;have hC:=hC0.bl (Zp b9 bm);obtain ⟨dx,c3,hm⟩:=bZ hm;replace bk:=bk.keep (Zh.start col w0);replace b8:=b8.keep (Zh.start col w0);replace aa:=((((aa.grow cy).grow cr).grow ch).kpp ca).grow hC;refine Zi (Zct 4 c3 (bk.ks aa) (b8.ks aa)) ?_;rintro _ bb ⟨bn,dy,dz,rfl,ax,bo⟩;refine ⟨_,rfl,?_⟩;refine Zo ?_;refine ⟨fun w'=>Zf (Zp bb bn) bb (Zp bb bn) w',fun g=>(Zp bb bn) g=497,Zf.refl _ _,Uc,fun _=>⟨fun _ h=>Ul hC0 ax h,fun b hb=>ax.below.block b hb,fun g x1 x2=>Sg ax g x1 (by first | exact x2 | (simp only [Yc,x2];rfl) | (simp only [Yc,X0,x2];rfl))⟩,?_⟩;have bp:=Zx.clip (fun _=>false) bn bb;refine Ux rfl rfl ?_;intro d0 hC0;replace ab:=(((ab.kpp ca).gr hC).gr ax).kpp bp;replace ac:=((ac.gr hC).gr ax).kpp bp;replace ad:=((ad.gr hC).gr ax).kpp bp;have hC:=hC0.bl (Zp bb bn);replace bo:=(bo.kpp bp).gr hC;replace bo:=(bo).toSlF (Zj.int .u32);replace ac:=ac.gr hC;replace ac:=ac.froz 4 (by decide)
 replace ad:=ad.gr hC;replace ad:=ad.froz 4 (by decide);replace ab:=ab.gr hC;replace ab:=ab.froz 4 (by decide);replace aa:=((aa.grow ax).kpp bp).grow hC;replace aa:=aa.froz 4 (by decide) (by decide);obtain ⟨d1,c4,hm⟩:=bZ hm;refine Zi (Zkl c4 bo) ?_;rintro _ bc ⟨bq,d2,d3,rfl,ay,ci⟩;refine ⟨_,rfl,?_⟩;refine Zo ?_;refine ⟨fun w'=>Zf (Zp bc bq) bc (Zp bc bq) w',fun g=>(Zp bc bq) g=497,Zf.refl _ _,Uc,fun _=>⟨fun _ h=>Ul hC0 ay h,fun b hb=>ay.below.block b hb,fun g x1 x2=>Sg ay g x1 (by first | exact x2 | (simp only [Yc,x2];rfl) | (simp only [Yc,X0,x2];rfl))⟩,?_⟩;have br:=Zx.clip (fun _=>false) bq bc;refine Ux rfl rfl ?_;intro d4 hC0;have hC:=hC0.bl (Zp bc bq);obtain ⟨d5,c5,hm⟩:=bZ hm;replace bj:=bj.keep (Zh.start col w0);replace aa:=((aa.grow ay).kpp br).grow hC;replace ci:=(ci.kpp br).gr hC;refine Zi (Zkj 5 c5 (bj.ks aa) ci) ?_;rintro _ ag ⟨ah,d6,d7,rfl,az,ai⟩;refine ⟨_,rfl,?_⟩;refine Zo ?_;refine ⟨fun w'=>Zf (Zp ag ah) ag (Zp ag ah) w',fun g=>(Zp ag ah) g=497,Zf.refl _ _,Uc,fun _=>⟨fun _ h=>Ul hC0 az h,fun b hb=>az.below.block b hb,fun g x1 x2=>Sg az g x1 (by first | exact x2 | (simp only [Yc,x2];rfl) | (simp only [Yc,X0,x2];rfl))⟩,?_⟩;have bs:=Zx.clip (fun _=>false) ah ag;refine xaF rfl rfl (Ze1 zeroValue45) ?_;intro am c6;refine Ux rfl rfl ?_;intro c7 ⟨hC0,hZ0⟩;replace ac:=((((ac.gr ay).kpp br).gr hC).gr az).kpp bs;replace ad:=((((ad.gr ay).kpp br).gr hC).gr az).kpp bs;replace ab:=((((ab.gr ay).kpp br).gr hC).gr az).kpp bs;have hC:=hC0.bl (Zp ag ah);replace b7:=b7.keep (Zh.start col w0);obtain ⟨bt,cj⟩:=Zm2 (col:=(Zp ag ah)) 6 hZ0 c6;replace cj:Zk 45 6 (X2 am 6 (Zp ag ah)) c7 am #[.bool false,.slice none (([]:List Int).length) 0]:=cj;refine Xa cj ?_;intro an bu c8 al;refine Zo ?_;refine ⟨fun w'=>Zf (Zp an (X2 am 6 (Zp ag ah))) an (Zp an (X2 am 6 (Zp ag ah))) w',fun g=>(Zp an (X2 am 6 (Zp ag ah))) g=497,Zf.refl _ _,Uc,fun h=>absurd h (by decide),?_⟩;have bd:=Zx.clip (fun _=>false) (X2 am 6 (Zp ag ah)) an;refine Zo5 ?_;replace aa:=(((((aa.grow az).kpp bs).grow hC).kpp bt).kp bu c8).kpp bd;replace ai:=((((ai.kpp bs).gr hC).kpp bt).kp bu).kpp bd
 replace ac:=(((ac.gr hC).kpp bt).kp bu).kpp bd;replace ad:=(((ad.gr hC).kpp bt).kp bu).kpp bd;replace ab:=(((ab.gr hC).kpp bt).kp bu).kpp bd;intro a0 hC;replace hC:Zf (Zp an (X2 am 6 (Zp ag ah))) an (Zp an (X2 am 6 (Zp ag ah))) a0:=.of_below hC.below;refine Zt ?_;have be:=Zx.clip (fun _=>false) (Zp an (X2 am 6 (Zp ag ah))) a0;refine Zo3 (col:=(Zp an (X2 am 6 (Zp ag ah)))) [(0,1),(1,0),(2,0),(3,3),(4,3),(5,3),(6,4),(7,2)] (by kernel_rfl) (by kernel_rfl) ⟨fun h=>absurd h (by decide),fun h=>absurd h (by decide),fun h=>absurd h (by decide),fun h=>absurd h (by decide),fun h=>absurd h (by decide),fun h=>absurd h (by decide),fun _=>⟨_,_,_,rfl,Ze1 zeroValue45⟩,fun h=>absurd h (by decide),trivial⟩<|Zms (v:=(.pointer ((some (⟨cz,0,none⟩:Addr)).map (·.add 0)))) rfl rfl (fun _=>Us (sz:=2) (off:=0) underlying47 rfl sizeOf45 (by decide) rfl rfl ⟨_,_,rfl⟩) ?_;replace ad:=(ad.gr hC).kpp be;refine Zcn (v:=(.agg #[.bool ap.1.1,.slice b6 ap.1.2.length b4])) rfl rfl (fun _ hC=>Y1 isAgg45 sizeOf45 rfl rfl (((ad.atN).part 0 2 _ rfl).gr (hC.bl (Zp a0 (Zp an (X2 am 6 (Zp ag ah))))))) ?_;replace ac:=(ac.gr hC).kpp be;refine Zcn (v:=(.agg #[.bool ao.1.1,.slice b5 ao.1.2.length b3,.slice cf ao.2.length cd])) rfl rfl (fun _ hC=>Y1 isAgg47 sizeOf47 rfl rfl (ac.atN.gr (hC.bl (Zp a0 (Zp an (X2 am 6 (Zp ag ah))))))) ?_;refine Ux rfl rfl ?_;intro c9 hC0;replace al:=((al.kpp bd).gr hC).kpp be;replace ai:=(ai.gr hC).kpp be;replace ab:=(ab.gr hC).kpp be;replace aa:=(aa.grow hC).kpp be;have hC:Zf (Zp a0 (Zp an (X2 am 6 (Zp ag ah)))) a0 (Zp a0 (Zp an (X2 am 6 (Zp ag ah)))) c9:=.of_below hC0.below;obtain ⟨d8,da,hm⟩:=bZ hm;replace aa:=aa.grow hC;refine Zi (Zct 7 da (bj.ks aa) (b7.ks aa)) ?_;rintro _ bf ⟨bv,d9,ea,rfl,ar,bw⟩;refine ⟨_,rfl,?_⟩;refine Zo ?_;refine ⟨fun w'=>Zf (Zp bf bv) bf (Zp bf bv) w',fun g=>(Zp bf bv) g=497,Zf.refl _ _,Uc,fun _=>⟨fun _ h=>Ul hC0 ar h,fun b hb=>ar.below.block b hb,fun g x1 x2=>Sg ar g x1 (by first | exact x2 | (simp only [Yc,x2];rfl) | (simp only [Yc,X0,x2];rfl))⟩,?_⟩;have a1:=Zx.clip (fun _=>false) bv bf;refine Ux rfl rfl ?_;intro eb hC0;replace ai:=((ai.gr hC).gr ar).kpp a1;replace ac:=((ac.gr hC).gr ar).kpp a1
 replace ad:=((ad.gr hC).gr ar).kpp a1;replace ab:=((ab.gr hC).gr ar).kpp a1;replace al:=((al.gr hC).gr ar).kpp a1;have hC:=hC0.bl (Zp bf bv);replace ai:=ai.gr hC;replace ai:=ai.froz 7 (by decide);replace bw:=(bw.kpp a1).gr hC;replace bw:=(bw).toSlF (Zj.int .u32);replace ac:=ac.gr hC;replace ac:=ac.froz 7 (by decide);replace ad:=ad.gr hC;replace ad:=ad.froz 7 (by decide);replace ab:=ab.gr hC;replace ab:=ab.froz 7 (by decide);replace al:=al.gr hC;replace al:=al.froz 7 (by decide);replace aa:=((aa.grow ar).kpp a1).grow hC;replace aa:=aa.froz 7 (by decide) (by decide);obtain ⟨ec,db,hm⟩:=bZ hm;refine Zi (Zkl db bw) ?_;rintro _ bg ⟨bx,ed,ee,rfl,au,ck⟩;refine ⟨_,rfl,?_⟩;refine Zo ?_;refine ⟨fun w'=>Zf (Zp bg bx) bg (Zp bg bx) w',fun g=>(Zp bg bx) g=497,Zf.refl _ _,Uc,fun _=>⟨fun _ h=>Ul hC0 au h,fun b hb=>au.below.block b hb,fun g x1 x2=>Sg au g x1 (by first | exact x2 | (simp only [Yc,x2];rfl) | (simp only [Yc,X0,x2];rfl))⟩,?_⟩;have a2:=Zx.clip (fun _=>false) bx bg;refine Ux rfl rfl ?_;intro ef hC0;have hC:=hC0.bl (Zp bg bx);obtain ⟨eg,dc,hm⟩:=bZ hm;replace aa:=((aa.grow au).kpp a2).grow hC;replace ck:=(ck.kpp a2).gr hC;refine Zi (Zkj 8 dc (bk.ks aa) ck) ?_;rintro _ ae ⟨af,eh,ei,rfl,av,a3⟩;refine ⟨_,rfl,?_⟩;refine Zo ?_;refine ⟨fun w'=>Zf (Zp ae af) ae (Zp ae af) w',fun g=>(Zp ae af) g=497,Zf.refl _ _,Uc,fun _=>⟨fun _ h=>Ul hC0 av h,fun b hb=>av.below.block b hb,fun g x1 x2=>Sg av g x1 (by first | exact x2 | (simp only [Yc,x2];rfl) | (simp only [Yc,X0,x2];rfl))⟩,?_⟩;have a4:=Zx.clip (fun _=>false) af ae;refine xaF rfl rfl (Ze1 zeroValue45) ?_;intro aj dd;refine Ux rfl rfl ?_;intro de ⟨hC0,hZ0⟩;replace ai:=((((ai.gr au).kpp a2).gr hC).gr av).kpp a4;replace ac:=((((ac.gr au).kpp a2).gr hC).gr av).kpp a4;replace ad:=((((ad.gr au).kpp a2).gr hC).gr av).kpp a4;replace ab:=((((ab.gr au).kpp a2).gr hC).gr av).kpp a4;replace al:=((((al.gr au).kpp a2).gr hC).gr av).kpp a4;have hC:=hC0.bl (Zp ae af);obtain ⟨a5,cl⟩:=Zm2 (col:=(Zp ae af)) 9 hZ0 dd;replace cl:Zk 45 9 (X2 aj 9 (Zp ae af)) de aj #[.bool false,.slice none (([]:List Int).length) 0]:=cl;refine Xa cl ?_;intro ak a6 df cn;refine Zo ?_
 refine ⟨fun w'=>Zf (Zp ak (X2 aj 9 (Zp ae af))) ak (Zp ak (X2 aj 9 (Zp ae af))) w',fun g=>(Zp ak (X2 aj 9 (Zp ae af))) g=497,Zf.refl _ _,Uc,fun h=>absurd h (by decide),?_⟩;have aw:=Zx.clip (fun _=>false) (X2 aj 9 (Zp ae af)) ak;refine Zo5 ?_;replace aa:=(((((aa.grow av).kpp a4).grow hC).kpp a5).kp a6 df).kpp aw;replace a3:=((((a3.kpp a4).gr hC).kpp a5).kp a6).kpp aw;replace ai:=(((ai.gr hC).kpp a5).kp a6).kpp aw;replace ac:=(((ac.gr hC).kpp a5).kp a6).kpp aw;replace ad:=(((ad.gr hC).kpp a5).kp a6).kpp aw;replace ab:=(((ab.gr hC).kpp a5).kp a6).kpp aw;replace al:=(((al.gr hC).kpp a5).kp a6).kpp aw;intro cs hC;replace hC:Zf (Zp ak (X2 aj 9 (Zp ae af))) ak (Zp ak (X2 aj 9 (Zp ae af))) cs:=.of_below hC.below;refine Zt<|W9 (col:=(Zp ak (X2 aj 9 (Zp ae af)))) [(0,0),(1,0),(3,0),(5,0),(2,3),(4,3),(6,3),(7,3),(8,3),(9,2)] (by kernel_rfl) (by kernel_rfl) ?_;replace al:=al.gr hC;refine xv rfl rfl (fun _ hC=>Xd isAgg45 sizeOf45 (al.gr (hC.bl (Zp ak (X2 aj 9 (Zp ae af)))))) ?_;replace cn:=(cn.kpp aw).gr hC;refine xv rfl rfl (fun _ hC=>Xd isAgg45 sizeOf45 (cn.gr (hC.bl (Zp ak (X2 aj 9 (Zp ae af)))))) ?_;replace ac:=ac.gr hC;refine xv rfl rfl (fun _ hC=>Xd isAgg47 sizeOf47 (ac.gr (hC.bl (Zp ak (X2 aj 9 (Zp ae af)))))) ?_;replace ad:=ad.gr hC;refine xv rfl rfl (fun _ hC=>Xd isAgg47 sizeOf47 (ad.gr (hC.bl (Zp ak (X2 aj 9 (Zp ae af)))))) ?_;refine xe rfl rfl ?_;intro ct hC0;replace ai:=ai.gr hC;replace a3:=a3.gr hC;replace ab:=ab.gr hC;replace aa:=aa.grow hC;have hC:Zf (Zp ak (X2 aj 9 (Zp ae af))) cs (Zp ak (X2 aj 9 (Zp ae af))) ct:=.of_below hC0.below;obtain ⟨ej,dg,hm⟩:=bZ hm;replace ai:=ai.gr hC;replace a3:=a3.gr hC;refine Zi (Zpx 10 dg ((ai.toSlF (Zj.int .u32)).froz 8) ((a3.froz 5 (by decide)).toSlF (Zj.int .u32))) ?_;rintro _ ek ⟨dh,el,em,rfl,bh,aq⟩;refine ⟨_,rfl,?_⟩;replace aq:=aq.thaw (Z2 .u32) bh (((Fz.refl (col:=(Zp ak (X2 aj 9 (Zp ae af))))).froz 5).froz 8) (by decide);replace bh:=bh.thawR (col:=(Zp ak (X2 aj 9 (Zp ae af))));generalize Z7 ct.heap.size (Zp ak (X2 aj 9 (Zp ae af))) dh=cu at *;refine Zo<|X1 cu hC0 bh<|xe rfl rfl ?_;intro en hC0
 replace ab:=(ab.gr hC).gr bh;replace aa:=(aa.grow hC).grow bh;have hC:=hC0.bl cu;obtain ⟨eo,di,hm⟩:=bZ hm;replace aa:=aa.grow hC;refine Zi (Zct 11 di (bj.ks aa) (b7.ks aa)) ?_;rintro _ ep ⟨cv,eq,er,rfl,cb,bz⟩;refine ⟨_,rfl,?_⟩;refine Zo<|X1 cv hC0 cb<|xe rfl rfl ?_;intro es hC0;replace aq:=(aq.gr hC).gr cb;replace ab:=(ab.gr hC).gr cb;have hC:=hC0.bl cv;obtain ⟨et,dj,hm⟩:=bZ hm;replace aa:=(aa.grow cb).grow hC;refine Zi (Zct 12 dj (bk.ks aa) (b8.ks aa)) ?_;rintro _ eu ⟨b0,ew,ey,rfl,b1,co⟩;refine ⟨_,rfl,?_⟩;refine Zo<|X1 b0 hC0 b1<|xe rfl rfl ?_;intro dl hC0;replace aq:=(aq.gr hC).gr b1;replace bz:=(bz.gr hC).gr b1;replace ab:=(ab.gr hC).gr b1;have hC:=hC0.bl b0;obtain ⟨ez,dm,hm⟩:=bZ hm;replace bz:=bz.gr hC;replace co:=co.gr hC;refine Zi (Zey 13 dm ((bz.toSlF (Zj.int .u32)).froz 12) ((co.froz 11 (by decide)).toSlF (Zj.int .u32))) ?_;rintro _ e0 ⟨dn,e1,e2,rfl,a7,b2⟩;refine ⟨_,rfl,?_⟩;replace b2:=b2.thaw (Z2 .u32) a7 (((Fz.refl (col:=b0)).froz 11).froz 12) (by decide);replace a7:=a7.thawR (col:=b0);generalize Z7 dl.heap.size b0 dn=bi at *;refine Zo<|X1 bi hC0 a7<|xe rfl rfl ?_;intro dp hC0;replace aa:=((aa.grow b1).grow hC).grow a7;replace aq:=(aq.gr hC).gr a7;replace ab:=(ab.gr hC).gr a7;have hC:=hC0.bl bi;obtain ⟨e3,dq,hm⟩:=bZ hm;replace aq:=aq.gr hC;replace b2:=b2.gr hC;refine Zi (Znc 14 15 dq ((aq.toSlF (Zj.int .u32)).froz 13) ((b2.froz 10 (by decide)).toSlF (Zj.int .u32))) ?_;rintro _ e4 ⟨dr,e5,e6,e7,e8,rfl,a8,a9,ba⟩;refine ⟨_,rfl,?_⟩;replace a9:=a9.thaw (Z2 .u32) a8 (((Fz.refl (col:=bi)).froz 10).froz 13) (by decide);replace ba:=ba.thaw (Z2 .u32) a8 (((Fz.refl (col:=bi)).froz 10).froz 13) (by decide);replace a8:=a8.thawR (col:=bi);generalize Z7 dp.heap.size bi dr=cc at *;refine Zo<|X1 cc hC0 a8<|xe rfl rfl ?_;intro e9 hC0;replace ab:=(ab.gr hC).gr a8;replace aa:=(aa.grow hC).grow a8;have hC:=hC0.bl cc;replace ab:=ab.gr hC;refine Xa ab ?_
 intro fa cp ds cq;refine Zo<|xk cc<|Wu ?_;replace a9:=(a9.gr hC).kp cp;replace ba:=(ba.gr hC).kp cp;replace aa:=(aa.grow hC).kp cp ds;intro fb hC;replace hC:=hC.bl cc;refine Wh ?_;cases hm;replace a9:=a9.gr hC;replace ba:=ba.gr hC;replace cq:=cq.gr hC;replace aa:=aa.grow hC;exact ⟨rfl,_,ra cq.atN,_,_,_,_,_,rfl,aa.fin (cm [(14,c1),(15,c2)]),aa.fo a9,aa.fo ba⟩
def Zis (N:Nat) (aa:R3):Option R3:=
  (Tx N (!aa.1) aa.2).bind fun ab=>some (ab.1,ab.2)
theorem Zx6 {N ag:Nat} {ah:Option Addr} {col:Ze} {w0:World} {ab r:R3} (c1:Nat) (hm:Zis N ab=some r) (ad:Sl (Za.int .u32) col w0 ah ag ab.2):
    Calls prog 224 #[(.agg #[.bool ab.1,.slice ah ab.2.length ag])] w0 (fun e w'=>∃ (col':Ze) (ra1:Option Addr) (rc2:Nat),e= .returned ((.agg #[.bool r.1,.slice ra1 r.2.length rc2]))∧Zf col w0 col' w'∧Zc (Za.int .u32) 79 c1 col' w' ra1 rc2 r.2):=by
 refine Yt (m:=9) func224 rfl rfl rfl ?_;rw [Zis.eq_1] at hm;have aa:=St.start col w0;refine go ?_;refine Xe (col:=(Zg col)) 1 rfl ?_;intro aq ar al am ac;refine Xs (col:=al) #[.bool false,.slice none (([]:List Int).length) 0] 2 zeroValue45 ?_;intro au av aw ai ae;refine go ?_;refine Xv ⟨_,_,rfl⟩ ?_;replace ac:=ac.gr ai;refine lW ((ac.atN).nth (q:=0) rfl)<|go ?_;refine Z9 ac ?_;obtain ⟨ax,an,hm⟩:=bZ hm;replace ad:=ad.keep (Zh.start col w0);replace aa:=(aa.grow am).grow ai;refine Zi (Za9 3 an (ad.ks aa)) ?_;rintro _ ay ⟨az,a0,a1,rfl,aj,af⟩;refine ⟨_,rfl,?_⟩;replace ae:=ae.gr aj;refine Xa ae ?_;intro a2 ak ao ap;refine go ?_;cases hm;replace aa:=(aa.grow aj).kp ak ao;replace af:=af.kp ak;exact ⟨rfl,_,ra ap.atN,_,_,_,rfl,aa.fin (cm [(3,c1)]),aa.fo af⟩
def Ziu (N:Nat) (aa:R3) (ab:R3):Option R3:=
  (Zis N (ab.1,ab.2)).bind fun ac=>(Zgm N (aa.1,aa.2) (ac.1,ac.2)).bind fun ad=>some (ad.1,ad.2)
theorem Zx8 {N ar au:Nat} {av aw:Option Addr} {col:Ze} {w0:World} {af ag r:R3} (c1:Nat) (hm:Ziu N af ag=some r) (aj:Sl (Za.int .u32) col w0 av ar af.2) (ak:Sl (Za.int .u32) col w0 aw au ag.2):
    Calls prog 269 #[(.agg #[.bool af.1,.slice av af.2.length ar]),(.agg #[.bool ag.1,.slice aw ag.2.length au])] w0 (fun e w'=>∃ (col':Ze) (ra1:Option Addr) (rc2:Nat),e= .returned ((.agg #[.bool r.1,.slice ra1 r.2.length rc2]))∧Zf col w0 col' w'∧Zc (Za.int .u32) 79 c1 col' w' ra1 rc2 r.2):=by
 refine Yt (m:=9) func269 rfl rfl rfl ?_;rw [Ziu.eq_1] at hm;have aa:=St.start col w0;refine go ?_;refine Xe (col:=(Zg col)) 1 rfl ?_;intro a7 a8 az a0 al;refine Xe (col:=az) 2 rfl ?_;intro a9 ba a1 ax am;refine Xs (col:=a1) #[.bool false,.slice none (([]:List Int).length) 0] 3 zeroValue45 ?_;intro bb bc ah an ab;refine go ?_;refine W9 (col:=ah) [(0,0),(1,0),(2,3),(3,3),(4,2)] (by kernel_rfl) (by kernel_rfl) ?_;replace al:=(al.gr ax).gr an;refine xv rfl rfl (fun _ hC=>Xd isAgg45 sizeOf45 (al.gr (hC.bl ah))) ?_;replace am:=am.gr an;refine xv rfl rfl (fun _ hC=>Xd isAgg45 sizeOf45 (am.gr (hC.bl ah))) ?_;refine xe rfl rfl ?_;intro bd hC0;have hC:=hC0.bl ah;obtain ⟨be,a2,hm⟩:=bZ hm;replace ak:=ak.keep (Zh.start col w0);replace aa:=(((aa.grow a0).grow ax).grow an).grow hC;refine Zi (Zx6 4 a2 (ak.ks aa)) ?_;rintro _ bf ⟨ae,bg,bh,rfl,ao,ap⟩;refine ⟨_,rfl,?_⟩;refine Zo<|X1 ae hC0 ao<|xe rfl rfl ?_;intro a3 hC0;replace ab:=(ab.gr hC).gr ao;have hC:=hC0.bl ae;obtain ⟨bi,a4,hm⟩:=bZ hm;replace aj:=aj.keep (Zh.start col w0);replace aa:=(aa.grow ao).grow hC;replace ap:=ap.gr hC;refine Zi (Zpx 5 a4 ((aj.ks aa).froz 4) (ap.toSlF (Zj.int .u32))) ?_;rintro _ bj ⟨a5,bk,bm,rfl,ad,ac⟩;refine ⟨_,rfl,?_⟩;replace ac:=ac.thaw (Z2 .u32) ad ((Fz.refl (col:=ae)).froz 4) (by decide);replace ad:=ad.thawR (col:=ae);generalize Z7 a3.heap.size ae a5=ai at *;refine Zo<|X1 ai hC0 ad<|xe rfl rfl ?_;intro bn hC0;replace ab:=(ab.gr hC).gr ad;have hC:=hC0.bl ai;replace ab:=ab.gr hC;refine Xa ab ?_;intro bo ay a6 aq;refine Zo<|xk ai<|Wu ?_;replace aa:=((aa.grow ad).grow hC).kp ay a6;replace ac:=(ac.gr hC).kp ay;intro bp hC;replace hC:=hC.bl ai;refine Wh ?_;cases hm;replace ac:=ac.gr hC;replace aq:=aq.gr hC;replace aa:=aa.grow hC;exact ⟨rfl,_,ra aq.atN,_,_,_,rfl,aa.fin (cm [(5,c1)]),aa.fo ac⟩
def Zds (N:Nat) (aa:R3):Option Int:=
  (Zgo N (aa.1,aa.2)).bind fun ab=>if (decide ((ab.2.length:Int)=0))=true then (some 0) else (if ab.1=true then (some (-1)) else (some 1))
theorem Zna {N ad:Nat} {ae:Option Addr} {col:Ze} {w0:World} {ab:R3} {r:Int} (hm:Zds N ab=some r) (ac:Sl (Za.int .u32) col w0 ae ad ab.2):
    Calls prog 204 #[(.agg #[.bool ab.1,.slice ae ab.2.length ad])] w0 (fun e w'=>e= .returned ((.int .i64 r))∧Below w0.heap.size w0 w'):=by
 refine Z1 2 (m:=12) func204 rfl rfl rfl rfl rfl ?_;rw [Zds.eq_1] at hm;have aa:=St.start col w0;refine go ?_;refine Xe (col:=(Zg col)) 1 rfl ?_;intro ap aq ar ag ah;refine go ?_;refine lV _ (Xd isAgg45 sizeOf45 ah) ?_;obtain ⟨au,ai,hm⟩:=bZ hm;replace ac:=ac.keep (Zh.start col w0);replace aa:=aa.grow ag;refine Zi (Zpy 2 ai (ac.ks aa)) ?_;rintro _ av ⟨aj,aw,ax,rfl,ak,ay⟩;refine ⟨_,rfl,?_⟩;refine Xs (col:=aj) #[.bool false,.slice none (([]:List Int).length) 0] 3 zeroValue45 ?_;intro az a0 a1 al am;refine Xa am ?_;intro a2 an ao af;refine go ?_;refine Z9 af ?_;refine go ?_;replace aa:=((aa.grow ak).grow al).kp an ao;refine Zm hm (fun hb hm=>go ?_) fun hb hm=>go ?_
 ·cases hm;exact ⟨rfl,rfl,aa.below⟩
 refine Z9 af<|Zo ?_;refine Zm hm (fun hb hm=>go ?_) fun hb hm=>go ?_
 ·cases hm;exact ⟨rfl,rfl,aa.below⟩
 cases hm;exact ⟨rfl,rfl,aa.below⟩
def Zir (N:Nat) (aa:R3) (ab:R3):Option Int:=
  (Ziu N (aa.1,aa.2) (ab.1,ab.2)).bind fun ac=>(Zds N (ac.1,ac.2)).bind fun ad=>some ad
theorem Zx5 {N ah ai:Nat} {aj ak:Option Addr} {col:Ze} {w0:World} {ab ac:R3} {r:Int} (hm:Zir N ab ac=some r) (ad:Sl (Za.int .u32) col w0 aj ah ab.2) (ae:Sl (Za.int .u32) col w0 ak ai ac.2):
    Calls prog 205 #[(.agg #[.bool ab.1,.slice aj ab.2.length ah]),(.agg #[.bool ac.1,.slice ak ac.2.length ai])] w0 (fun e w'=>e= .returned ((.int .i64 r))∧Below w0.heap.size w0 w'):=by
 refine Z1 4 (m:=9) func205 rfl rfl rfl rfl rfl ?_;rw [Zir.eq_1] at hm;have aa:=St.start col w0;refine go ?_;refine Xe (col:=(Zg col)) 1 rfl ?_;intro ay az an ao af;refine Xe (col:=an) 2 rfl ?_;intro a0 a1 a2 al ap;refine go ?_;replace af:=af.gr al;refine lV _ (Xd isAgg45 sizeOf45 af)<|lV _ (Xd isAgg45 sizeOf45 ap) ?_;obtain ⟨a3,aq,hm⟩:=bZ hm;replace ad:=ad.keep (Zh.start col w0);replace ae:=ae.keep (Zh.start col w0);replace aa:=(aa.grow ao).grow al;refine Zi (Zx8 3 aq (ad.ks aa) (ae.ks aa)) ?_;rintro _ ar ⟨am,a4,a5,rfl,au,av⟩;refine ⟨_,rfl,?_⟩;obtain ⟨a6,aw,hm⟩:=bZ hm;refine Zi (Zna aw (av.toSlF (Zj.int .u32))) ?_;rintro _ ax ⟨rfl,ag⟩;refine ⟨_,rfl,?_⟩;replace ag:Zf am ar am ax:=.of_below ag;refine go ?_;cases hm;replace aa:=(aa.grow au).grow ag;exact ⟨rfl,rfl,aa.below⟩
def Zb0 (N:Nat) (aa:R2) (ab:R2):Option Int:=
  (Su N ((ab.1.1,ab.1.2),ab.2)).bind fun ag=>(Qs ag).bind fun ac=>(Zbz N (aa.1.1,aa.1.2) (ac.1,ac.2)).bind fun ad=>(Su N ((aa.1.1,aa.1.2),aa.2)).bind fun ah=>(Qs ah).bind fun ae=>(Zbz N (ab.1.1,ab.1.2) (ae.1,ae.2)).bind fun af=>(Zir N (ad.1,ad.2) (af.1,af.2)).bind fun ai=>some ai
theorem Znb {N am a0 an a1:Nat} {ao a2 ap a3:Option Addr} {col:Ze} {w0:World} {ac ad:R2} {r:Int} (hm:Zb0 N ac ad=some r) (ai:Sl (Za.int .u32) col w0 ao am ac.1.2) (aq:Sl (Za.int .u32) col w0 a2 a0 ac.2) (aj:Sl (Za.int .u32) col w0 ap an ad.1.2) (ar:Sl (Za.int .u32) col w0 a3 a1 ad.2):
    Calls prog 94 #[(.agg #[.bool ac.1.1,.slice ao ac.1.2.length am,.slice a2 ac.2.length a0]),(.agg #[.bool ad.1.1,.slice ap ad.1.2.length an,.slice a3 ad.2.length a1])] w0 (fun e w'=>e= .returned ((.int .i64 r))∧Below w0.heap.size w0 w'):=by
 refine Z1 4 (m:=18) func94 rfl rfl rfl rfl rfl ?_;rw [Zb0.eq_1] at hm;have aa:=St.start col w0;refine go ?_;refine Xe (col:=(Zg col)) 1 rfl ?_;intro bq br be bf ak;refine Xe (col:=be) 2 rfl ?_;intro bs bt ae a4 a5;refine go ?_;refine W9 (col:=ae) [(0,1),(1,0),(2,0),(6,1),(7,0),(8,0),(3,3),(4,3),(5,3),(9,3),(10,3),(11,3),(12,3),(13,1)] (by kernel_rfl) (by kernel_rfl)<|xF ⟨_,_,rfl⟩ ?_;replace ak:=ak.gr a4;refine xv (v:=(.agg #[.bool ac.1.1,.slice ao ac.1.2.length am])) rfl rfl (fun _ hC=>Y1 isAgg45 sizeOf45 rfl rfl (((ak.atN).part 0 2 _ rfl).gr (hC.bl ae))) ?_;refine xv rfl rfl (fun _ hC=>Xd isAgg47 sizeOf47 (a5.gr (hC.bl ae))) ?_;refine xF ⟨_,_,rfl⟩ ?_;refine xv (v:=(.agg #[.bool ad.1.1,.slice ap ad.1.2.length an])) rfl rfl (fun _ hC=>Y1 isAgg45 sizeOf45 rfl rfl (((a5.atN).part 0 2 _ rfl).gr (hC.bl ae))) ?_;refine xv rfl rfl (fun _ hC=>Xd isAgg47 sizeOf47 (ak.gr (hC.bl ae))) ?_;refine xe rfl rfl ?_;intro bu hC0;have hC:=hC0.bl ae;obtain ⟨bv,bg,hm⟩:=bZ hm;replace aj:=aj.keep (Zh.start col w0);replace ar:=ar.keep (Zh.start col w0);replace aa:=((aa.grow bf).grow a4).grow hC;refine Zi (Zct 3 bg (aj.ks aa) (ar.ks aa)) ?_;rintro _ bw ⟨a6,bx,bz,rfl,a7,ag⟩;refine ⟨_,rfl,?_⟩;refine Zo<|X1 a6 hC0 a7<|xe rfl rfl ?_;intro b0 hC0;have hC:=hC0.bl a6;replace ag:=ag.gr hC;replace ag:=(ag).toSlF (Zj.int .u32);replace aa:=(aa.grow a7).grow hC;replace aa:=aa.froz 3 (by decide) (by decide);obtain ⟨b1,bh,hm⟩:=bZ hm;refine Zi (Zkl bh ag) ?_;rintro _ b2 ⟨a8,b3,b4,rfl,a9,au⟩;refine ⟨_,rfl,?_⟩;refine Zo<|X1 a8 hC0 a9<|xe rfl rfl ?_;intro b5 hC0;have hC:=hC0.bl a8;obtain ⟨b6,bi,hm⟩:=bZ hm;replace ai:=ai.keep (Zh.start col w0);replace aa:=(aa.grow a9).grow hC;replace au:=au.gr hC;refine Zi (Zkj 4 bi (ai.ks aa) au) ?_;rintro _ b7 ⟨ba,b8,b9,rfl,bb,ab⟩;refine ⟨_,rfl,?_⟩;refine Zo<|X1 ba hC0 bb<|xe rfl rfl ?_;intro ca hC0;have hC:=hC0.bl ba;obtain ⟨cb,bj,hm⟩:=bZ hm;replace aq:=aq.keep (Zh.start col w0);replace aa:=(aa.grow bb).grow hC;refine Zi (Zct 5 bj (ai.ks aa) (aq.ks aa)) ?_;rintro _ cc ⟨bc,cd,ce,rfl,av,ah⟩;refine ⟨_,rfl,?_⟩
 refine Zo<|X1 bc hC0 av<|xe rfl rfl ?_;intro cf hC0;replace ab:=(ab.gr hC).gr av;have hC:=hC0.bl bc;replace ab:=ab.gr hC;replace ab:=ab.froz 5 (by decide);replace ah:=ah.gr hC;replace ah:=(ah).toSlF (Zj.int .u32);replace aa:=(aa.grow av).grow hC;replace aa:=aa.froz 5 (by decide) (by decide);obtain ⟨cg,bk,hm⟩:=bZ hm;refine Zi (Zkl bk ah) ?_;rintro _ ch ⟨bd,ci,cj,rfl,aw,ax⟩;refine ⟨_,rfl,?_⟩;refine Zo<|X1 bd hC0 aw<|xe rfl rfl ?_;intro ck hC0;have hC:=hC0.bl bd;obtain ⟨cl,bm,hm⟩:=bZ hm;replace aa:=(aa.grow aw).grow hC;replace ax:=ax.gr hC;refine Zi (Zkj 6 bm (aj.ks aa) ax) ?_;rintro _ cn ⟨af,co,cp,rfl,ay,az⟩;refine ⟨_,rfl,?_⟩;refine Zo<|X1 af hC0 ay<|xe rfl rfl ?_;intro bn hC0;replace ab:=((ab.gr aw).gr hC).gr ay;have hC:=hC0.bl af;obtain ⟨cq,bo,hm⟩:=bZ hm;replace ab:=ab.gr hC;replace az:=az.gr hC;refine Zi (Zx5 bo ((ab.toSlF (Zj.int .u32)).froz 6) ((az.froz 4 (by decide)).toSlF (Zj.int .u32))) ?_;rintro _ bp ⟨rfl,al⟩;refine ⟨_,rfl,?_⟩;replace al:Zf af bn af bp:=.of_below al;refine Zo<|X1 af hC0 al<|xu rfl rfl (fun _=>Zty rfl) ?_;refine Wu ?_;replace aa:=((aa.grow ay).grow hC).grow al;intro cr hC;replace hC:=hC.bl af;refine Wh ?_;cases hm;replace aa:=aa.grow hC;exact ⟨rfl,rfl,aa.below⟩
def Zgp (N:Nat) (aa:Int):Option R3:=
  if (decide (0≤aa))=true then ((Zgh N (u64.wrap aa)).bind fun ad=>(Tx N false ad).bind fun ab=>some (ab.1,ab.2)) else ((Zgh N (u64.wrap (i64.wrap (-(i64.wrap (aa+1)))))).bind fun ae=>(Zga N ae [1]).bind fun af=>(Tx N true af).bind fun ac=>some (ac.1,ac.2))
theorem Zpz {N:Nat} {col:Ze} {w0:World} {an:Int} {r:R3} (c1:Nat) (hm:Zgp N an=some r):
    Calls prog 125 #[.int .i64 an] w0 (fun e w'=>∃ (col':Ze) (ra1:Option Addr) (rc2:Nat),e= .returned ((.agg #[.bool r.1,.slice ra1 r.2.length rc2]))∧Zf col w0 col' w'∧Zc (Za.int .u32) 79 c1 col' w' ra1 rc2 r.2):=by
 refine Yt (m:=17) func125 rfl rfl rfl ?_;rw [Zgp.eq_1] at hm;have aa:=St.start col w0;refine go ?_;refine Xs (col:=(Zg col)) #[.bool false,.slice none (([]:List Int).length) 0] 1 zeroValue45 ?_;intro be bf ao av ab;refine go ?_;replace aa:=aa.grow av;refine Zm hm (fun hb hm=>go ?_) fun hb hm=>go ?_
 ·obtain ⟨bg,aw,hm⟩:=bZ hm;refine Zi (Zpu (col:=ao) 2 aw) ?_;rintro _ ax ⟨ah,bh,bi,rfl,ap,ay⟩;refine ⟨_,rfl,?_⟩;obtain ⟨bj,az,hm⟩:=bZ hm;refine Zi (Za9 3 az (ay.toSlF (Zj.int .u32))) ?_;rintro _ bk ⟨a0,bm,bn,rfl,ac,ad⟩;refine ⟨_,rfl,?_⟩;replace ad:=ad.thaw (Z2 .u32) ac ((Fz.refl (col:=ah)).froz 2) (by decide);replace ac:=ac.thawR (col:=ah);generalize Z7 ax.heap.size ah a0=bo at *;replace ab:=(ab.gr ap).gr ac;refine Xa ab ?_;intro bp aq a1 a2;refine go ?_;cases hm;replace aa:=((aa.grow ap).grow ac).kp aq a1;replace ad:=ad.kp aq;exact ⟨rfl,_,ra a2.atN,_,_,_,rfl,aa.fin (cm [(3,c1)]),aa.fo ad⟩
 obtain ⟨bq,a3,hm⟩:=bZ hm;refine Zi (Zpu (col:=ao) 4 a3) ?_;rintro _ br ⟨a4,bs,bt,rfl,ar,ai⟩;refine ⟨_,rfl,?_⟩;refine W5 (col:=a4) [1] 5 ?_;intro bu a5 aj ak a6;obtain ⟨bv,a7,hm⟩:=bZ hm;replace ai:=ai.gr ak;refine Zi (Zps 6 a7 ((ai.toSlF (Zj.int .u32)).froz 5) ((a6.froz 4 (by decide)).toSlF (Zj.int .u32))) ?_;rintro _ a8 ⟨a9,bw,bx,rfl,ae,al⟩;refine ⟨_,rfl,?_⟩;replace al:=al.thaw (Z2 .u32) ae (((Fz.refl (col:=aj)).froz 4).froz 5) (by decide);replace ae:=ae.thawR (col:=aj);generalize Z7 a5.heap.size aj a9=am at *;obtain ⟨bz,ba,hm⟩:=bZ hm;refine Zi (Za9 7 ba (al.toSlF (Zj.int .u32))) ?_;rintro _ b0 ⟨bb,b1,b2,rfl,af,ag⟩;refine ⟨_,rfl,?_⟩;replace ag:=ag.thaw (Z2 .u32) af ((Fz.refl (col:=am)).froz 6) (by decide);replace af:=af.thawR (col:=am);generalize Z7 a8.heap.size am bb=b3 at *;replace ab:=(((ab.gr ar).gr ak).gr ae).gr af;refine Xa ab ?_;intro b4 au bc bd;refine go ?_;cases hm;replace aa:=((((aa.grow ar).grow ak).grow ae).grow af).kp au bc;replace ag:=ag.kp au;exact ⟨rfl,_,ra bd.atN,_,_,_,rfl,aa.fin (cm [(7,c1)]),aa.fo ag⟩
def Zla (N:Nat) (ac:R3) (aa:R3):Option (R2×Int):=
  (Zds N (aa.1,aa.2)).bind fun ad=>if (decide (ad=0))=true then (some (((false,([]:List Int)),([]:List Int)),11)) else ((Zdv N (!decide (ac.1=aa.1),ac.2) aa.2).bind fun ab=>some (((ab.1.1,ab.1.2),ab.2),0))
theorem Zyb {N ai ap:Nat} {aj aq:Option Addr} {col:Ze} {w0:World} {ac af:R3} {r:(R2×Int)} (c1 c2:Nat) (hm:Zla N ac af=some r) (ak:Sl (Za.int .u32) col w0 aj ai ac.2) (ag:Sl (Za.int .u32) col w0 aq ap af.2):
    Calls prog 222 #[(.agg #[.bool ac.1,.slice aj ac.2.length ai]),(.agg #[.bool af.1,.slice aq af.2.length ap])] w0 (fun e w'=>∃ (col':Ze) (ra1:Option Addr) (rc2:Nat) (ra4:Option Addr) (rc5:Nat),e= .returned (.tuple #[(.agg #[.bool r.1.1.1,.slice ra1 r.1.1.2.length rc2,.slice ra4 r.1.2.length rc5]),.int .i64 r.2])∧Zf col w0 col' w'∧Zc (Za.int .u32) 79 c1 col' w' ra1 rc2 r.1.1.2∧Zc (Za.int .u32) 79 c2 col' w' ra4 rc5 r.1.2):=by
 refine Yt (m:=21) func222 rfl rfl rfl ?_;rw [Zla.eq_1] at hm;have aa:=St.start col w0;refine go ?_;refine Xe (col:=(Zg col)) 1 rfl ?_;intro a8 a9 aw ax ah;refine Xe (col:=aw) 2 rfl ?_;intro ba bb ay ar ab;refine Xs (col:=ay) #[.bool false,.slice none (([]:List Int).length) 0,.slice none (([]:List Int).length) 0] 3 zeroValue47 ?_;intro bc az au al ad;refine go ?_;replace ab:=ab.gr al;refine lV _ (Xd isAgg45 sizeOf45 ab) ?_;obtain ⟨bd,a0,hm⟩:=bZ hm;replace ag:=ag.keep (Zh.start col w0);replace aa:=((aa.grow ax).grow ar).grow al;refine Zi (Zna a0 (ag.ks aa)) ?_;rintro _ a1 ⟨rfl,ae⟩;refine ⟨_,rfl,?_⟩;replace ae:Zf au az au a1:=.of_below ae;refine go ?_;replace ak:=ak.keep (Zh.start col w0);replace ah:=((ah.gr ar).gr al).gr ae;replace ab:=ab.gr ae;replace ad:=ad.gr ae;replace aa:=aa.grow ae;refine Zm hm (fun hb hm=>go ?_) fun hb hm=>go ?_
 ·refine lV (.agg #[.bool false,.slice none (([]:List Int).length) 0,.slice none (([]:List Int).length) 0]) (Wl (l:=[_,_]) (qs:=[(0,2),(2,1)]) underlying47 zeroValue47 ⟨rfl,sizeOf45,rfl,sizeOf43,trivial⟩ rfl)<|Xa ad ?_;intro be a2 a3 a4;refine go ?_;cases hm;replace aa:=aa.kp a2 a3;exact ⟨rfl,_,Za4 a4.atN,_,none,0,none,0,rfl,aa.fin (cm []),Zc.nil,Zc.nil⟩
 refine Z9 ah<|Z9 ab ?_;refine go ?_;refine Z9 ah<|lV (.agg #[.bool (!decide (ac.1=af.1)),.slice aj ac.2.length ai]) (Wl (l:=[_,_]) (qs:=[(0,1),(1,1)]) underlying45 zeroValue45 ⟨rfl,sizeOf4,rfl,sizeOf43,trivial⟩ rfl)<|Z9 ab ?_;obtain ⟨bf,a5,hm⟩:=bZ hm;refine Zi (Znc 4 5 a5 (ak.ks aa) (ag.ks aa)) ?_;rintro _ bg ⟨bh,bi,bj,bk,bm,rfl,av,am,an⟩;refine ⟨_,rfl,?_⟩;replace ad:=ad.gr av;refine Xa ad ?_;intro bn ao a6 a7;refine go ?_;cases hm;replace aa:=(aa.grow av).kp ao a6;replace am:=am.kp ao;replace an:=an.kp ao;exact ⟨rfl,_,Za4 a7.atN,_,_,_,_,_,rfl,aa.fin (cm [(4,c1),(5,c2)]),aa.fo am,aa.fo an⟩
def Zlb (N:Nat) (ad:Int) (ae:Int):Option (R2×Int):=
  (Zgp N ad).bind fun ab=>(Zgp N ae).bind fun ac=>(Zla N (ab.1,ab.2) (ac.1,ac.2)).bind fun aa=>some (((aa.1.1.1,aa.1.1.2),aa.1.2),aa.2)
theorem Zyc {N:Nat} {col:Ze} {w0:World} {ak al:Int} {r:(R2×Int)} (c1 c2:Nat) (hm:Zlb N ak al=some r):
    Calls prog 209 #[.int .i64 ak,.int .i64 al] w0 (fun e w'=>∃ (col':Ze) (ra1:Option Addr) (rc2:Nat) (ra4:Option Addr) (rc5:Nat),e= .returned (.tuple #[(.agg #[.bool r.1.1.1,.slice ra1 r.1.1.2.length rc2,.slice ra4 r.1.2.length rc5]),.int .i64 r.2])∧Zf col w0 col' w'∧Zc (Za.int .u32) 79 c1 col' w' ra1 rc2 r.1.1.2∧Zc (Za.int .u32) 79 c2 col' w' ra4 rc5 r.1.2):=by
 refine Yt (m:=13) func209 rfl rfl rfl ?_;rw [Zlb.eq_1] at hm;have ab:=St.start col w0;refine go ?_;refine Xs (col:=(Zg col)) #[.bool false,.slice none (([]:List Int).length) 0,.slice none (([]:List Int).length) 0] 1 zeroValue47 ?_;intro a4 a5 an ao ag;refine go ?_;obtain ⟨a6,ap,hm⟩:=bZ hm;refine Zi (Zpz (col:=an) 2 ap) ?_;rintro _ a7 ⟨aq,a8,a9,rfl,am,ah⟩;refine ⟨_,rfl,?_⟩;refine Xn rfl ?_;obtain ⟨ba,ar,hm⟩:=bZ hm;refine Zi (Zpz (col:=aq) 3 ar) ?_;rintro _ au ⟨ae,bb,bc,rfl,ai,av⟩;refine ⟨_,rfl,?_⟩;obtain ⟨af,aw,hm⟩:=bZ hm;replace ah:=ah.gr ai;refine Zi (Zyb 4 5 aw ((ah.toSlF (Zj.int .u32)).froz 3) ((av.froz 2 (by decide)).toSlF (Zj.int .u32))) ?_;rintro _ bd ⟨ax,ay,az,a0,a1,rfl,aa,ac,ad⟩;refine ⟨_,rfl,?_⟩;replace ac:=ac.thaw (Z2 .u32) aa (((Fz.refl (col:=ae)).froz 2).froz 3) (by decide);replace ad:=ad.thaw (Z2 .u32) aa (((Fz.refl (col:=ae)).froz 2).froz 3) (by decide);replace aa:=aa.thawR (col:=ae);generalize Z7 au.heap.size ae ax=be at *;refine lV (.agg #[.bool af.1.1.1,.slice ay af.1.1.2.length az,.slice a0 af.1.2.length a1]) (Xq rfl rfl)<|lV (.int .i64 af.2) (Xq rfl rfl) ?_;replace ag:=((ag.gr am).gr ai).gr aa;refine Xa ag ?_;intro bf aj a2 a3;refine go ?_;cases hm;replace ab:=((((ab.grow ao).grow am).grow ai).grow aa).kp aj a2;replace ac:=ac.kp aj;replace ad:=ad.kp aj;exact ⟨rfl,_,Za4 a3.atN,_,_,_,_,_,rfl,ab.fin (cm [(4,c1),(5,c2)]),ab.fo ac,ab.fo ad⟩
def Zb2 (N:Nat) (ab:Int) (ac:Int):Option R2:=
  (Zlb N ab ac).bind fun aa=>some ((aa.1.1.1,aa.1.1.2),aa.1.2)
theorem Zp0 {N:Nat} {col:Ze} {w0:World} {ai aj:Int} {r:R2} (c1 c2:Nat) (hm:Zb2 N ai aj=some r):
    Calls prog 95 #[.int .i64 ai,.int .i64 aj] w0 (fun e w'=>∃ (col':Ze) (ra1:Option Addr) (rc2:Nat) (ra4:Option Addr) (rc5:Nat),e= .returned ((.agg #[.bool r.1.1,.slice ra1 r.1.2.length rc2,.slice ra4 r.2.length rc5]))∧Zf col w0 col' w'∧Zc (Za.int .u32) 79 c1 col' w' ra1 rc2 r.1.2∧Zc (Za.int .u32) 79 c2 col' w' ra4 rc5 r.2):=by
 refine Yt (m:=14) func95 rfl rfl rfl ?_;rw [Zb2.eq_1] at hm;have ab:=St.start col w0;refine go ?_;refine Xs (col:=(Zg col)) #[.bool false,.slice none (([]:List Int).length) 0,.slice none (([]:List Int).length) 0] 1 zeroValue47 ?_;intro a0 a1 ap aq ae;refine go ?_;obtain ⟨aa,ar,hm⟩:=bZ hm;refine Zi (Zyc (col:=ap) 2 3 ar) ?_;rintro _ a2 ⟨au,ak,al,am,an,rfl,ao,af,ag⟩;refine ⟨_,rfl,?_⟩;refine lM (.tuple #[(.agg #[.bool aa.1.1.1,.slice ak aa.1.1.2.length al,.slice am aa.1.2.length an]),.int .i64 aa.2])<|lV (.agg #[.bool aa.1.1.1,.slice ak aa.1.1.2.length al,.slice am aa.1.2.length an]) (Xq rfl rfl)<|lV (.int .i64 aa.2) (Xq rfl rfl)<|Xs (col:=au) #[.bool false,.slice none (([]:List Int).length) 0,.slice none (([]:List Int).length) 0] 4 zeroValue47 ?_;intro a3 a4 a5 ac av;refine Xa av ?_;intro a6 ad aw ax;refine go ?_;refine lV _ (Xd isAgg47 sizeOf47 ax) ?_;replace ae:=((ae.gr ao).gr ac).kp ad;refine Xa ae ?_;intro a7 ah ay az;refine go ?_;cases hm;replace ab:=((((ab.grow aq).grow ao).grow ac).kp ad aw).kp ah ay;replace af:=((af.gr ac).kp ad).kp ah;replace ag:=((ag.gr ac).kp ad).kp ah;exact ⟨rfl,_,ra az.atN,_,_,_,_,_,rfl,ab.fin (cm [(2,c1),(3,c2)]),ab.fo af,ab.fo ag⟩
def Zdu (N:Nat) (aa:R7):Nat→Bool→R1→R1→Int→Option R2
  | 0,_,_,_,_=>none
  | ah+1,ae,af,ag,ab=>if (decide (ab<(aa.length:Int)))=true then ((Zl aa ab).bind fun ac=>(Ziv N ((ae,af),ag) ((ac.1.1,ac.1.2),ac.2)).bind fun ad=>(Zdu N aa ah) ad.1.1 ad.1.2 ad.2 (i64.wrap (ab+1))) else (some ((ae,af),ag))
termination_by structural x=>x
def Ziz (N:Nat) (ab:R7):Option R2:=
  (Zb2 N 0 1).bind fun aa=>Zdu N ab N aa.1.1 aa.1.2 aa.2 0
theorem Zyf {N a9:Nat} {a0:Option Addr} {col:Ze} {w0:World} {am:R7} {r:R2} (c1 c2:Nat) (hm:Ziz N am=some r) (h0:Sl (Za.pair (Za.pair Za.bool (Za.slice (Za.int .u32))) (Za.slice (Za.int .u32))) col w0 a0 a9 am):
    Calls prog 154 #[.slice a0 am.length a9] w0 (fun e w'=>∃ (col':Ze) (ra1:Option Addr) (rc2:Nat) (ra4:Option Addr) (rc5:Nat),e= .returned ((.agg #[.bool r.1.1,.slice ra1 r.1.2.length rc2,.slice ra4 r.2.length rc5]))∧Zf col w0 col' w'∧Zc (Za.int .u32) 79 c1 col' w' ra1 rc2 r.1.2∧Zc (Za.int .u32) 79 c2 col' w' ra4 rc5 r.2):=by
 refine Yt (m:=19) func154 rfl rfl rfl ?_;rw [Ziz.eq_1] at hm;have aa:=St.start col w0;refine go ?_;refine Xs (col:=(Zg col)) #[.bool false,.slice none (([]:List Int).length) 0,.slice none (([]:List Int).length) 0] 1 zeroValue47 ?_;intro bb b1 bc bd ab;refine go ?_;obtain ⟨b2,be,hm⟩:=bZ hm;refine Zi (Zp0 (col:=bc) 2 3 be) ?_;rintro _ b3 ⟨bf,b4,b5,b6,b7,rfl,ba,aw,ax⟩;refine ⟨_,rfl,?_⟩;refine Xs (col:=bf) #[.bool false,.slice none (([]:List Int).length) 0,.slice none (([]:List Int).length) 0] 4 zeroValue47 ?_;intro bg b8 b9 an bh;refine Xa bh ?_;intro ca ao bi af;refine go ?_;replace aa:=(((aa.grow bd).grow ba).grow an).kp ao bi;replace ab:=((ab.gr ba).gr an).kp ao;replace aw:=(aw.gr an).kp ao;replace ax:=(ax.gr an).kp ao;refine Zu [0,2,3,1000000] (fun n f ai=>∃ ac ay az a1 ap a2 a3 aq a4 aj,aj=n∧Zdu N am aj ay ap aq a4=some r∧St w0 (Zg col) ac ai∧Zk 47 1 ac ai bb #[.bool false,.slice none (([]:List Int).length) 0,.slice none (([]:List Int).length) 0]∧Zc (Za.int .u32) 79 2 ac ai az a1 ap∧Zc (Za.int .u32) 79 3 ac ai a2 a3 aq∧Zk 47 4 ac ai bg #[.bool ay,.slice az ap.length a1,.slice a2 aq.length a3]∧[4].map f=[.int .i64 a4]) N ⟨_,_,_,_,_,_,_,_,0,_,rfl,hm,aa,ab,aw,ax,af,rfl⟩ ?_;clear hm;intro n f ai hI;obtain ⟨ac,ay,az,a1,ap,a2,a3,aq,a4,aj,hn,hm,aa,ab,ak,al,af,hs⟩:=hI;subst hn;refine .lL [4] hs ?_;replace h0:=h0.keep (Zh.start col w0)
 cases aj with
 | zero=>rw [Zdu.eq_1] at hm;cases hm
 | succ aj=>
  rw [Zdu.eq_2] at hm;refine go ?_;refine Zm hm (fun hb hm=>go ?_) fun hb hm=>go ?_
  ·refine W9 (col:=ac) [(0,0),(1,1),(2,1),(3,1),(4,0),(5,3),(6,2)] (by kernel_rfl) (by kernel_rfl)<|xv rfl rfl (fun _ hC=>Xd isAgg47 sizeOf47 (af.gr (hC.bl ac))) ?_;refine xu rfl rfl (fun _=>Qz rfl) ?_;refine xu rfl rfl (fun _=>W7 rfl) ?_;obtain ⟨a5,ar,hm⟩:=bZ hm;refine xu rfl rfl (fun _=>Wt underlying56 sizeOf47 rfl rfl (Xy ar).1 (Xy ar).2.1 ((h0.ks aa).addr ar)) ?_;obtain ⟨_,bj,bk⟩:=(h0.ks aa).atN ar;obtain ⟨_,_,rfl,bm,bn⟩:=W8 bj;obtain ⟨_,_,rfl,bo,bp⟩:=W8 bm;obtain ⟨rfl,_⟩:=bo;obtain ⟨⟨bq,br,rfl,a6⟩,_⟩:=bp;obtain ⟨⟨bs,bt,rfl,a7⟩,_⟩:=bn;refine xv (v:=(.agg #[.bool a5.1.1,.slice bq a5.1.2.length br,.slice bs a5.2.length bt])) rfl rfl (fun _ hC=>Y1 isAgg47 sizeOf47 rfl rfl (bk.gr (hC.bl ac))) ?_;refine xe rfl rfl ?_;intro bu hC0;have hC:=hC0.bl ac;obtain ⟨cb,bv,hm⟩:=bZ hm;replace ak:=ak.gr hC;replace al:=al.gr hC;replace a6:=a6.gr hC;replace a7:=a7.gr hC;refine Zi (Zx9 5 6 bv ((ak.toSlF (Zj.int .u32)).froz 3) ((al.froz 2 (by decide)).toSlF (Zj.int .u32)) ((a6.froz 2).froz 3) ((a7.froz 2).froz 3)) ?_;rintro _ cc ⟨bw,cd,ce,cf,cg,rfl,ag,ad,ae⟩;refine ⟨_,rfl,?_⟩;replace ad:=ad.thaw (Z2 .u32) ag (((Fz.refl (col:=ac)).froz 2).froz 3) (by decide);replace ae:=ae.thaw (Z2 .u32) ag (((Fz.refl (col:=ac)).froz 2).froz 3) (by decide);replace ag:=ag.thawR (col:=ac);generalize Z7 bu.heap.size ac bw=au at *;refine Zo<|X1 au hC0 ag<|xe rfl rfl ?_;intro ch hC0;replace ab:=(ab.gr hC).gr ag;replace af:=(af.gr hC).gr ag;replace aa:=(aa.grow hC).grow ag;have hC:=hC0.bl au;replace af:=af.gr hC;refine Xa af ?_;intro ci av bx ah;refine Zo<|xk au<|Wu ?_;replace ad:=(ad.gr hC).kp av;replace ae:=(ae.gr hC).kp av;replace ab:=(ab.gr hC).kp av;replace aa:=(aa.grow hC).kp av bx;intro cj hC;replace hC:=hC.bl au;refine go ?_;replace ad:=ad.gr hC;replace ad:=ad.recolSelf 2 (by decide);replace ae:=ae.gr hC;replace ae:=ae.recol 5 2 (by decide);replace ab:=ab.gr hC;replace ab:=ab.recol 5 2 (by decide);replace ah:=ah.gr hC;replace ah:=ah.recol 5 2 (by decide);replace aa:=aa.grow hC;replace aa:=aa.recol 5 2 (by decide) (by decide);replace ad:=ad.recol 6 3 (by decide);replace ae:=ae.recolSelf 3 (by decide);replace ab:=ab.recol 6 3 (by decide);replace ah:=ah.recol 6 3 (by decide)
   replace aa:=aa.recol 6 3 (by decide) (by decide);exact ⟨aj,by omega,rfl,⟨_,_,_,_,_,_,_,_,_,_,rfl,hm,aa,ab,ad,ae,ah,rfl⟩⟩
  refine lV _ (Xd isAgg47 sizeOf47 af)<|Xa ab ?_;intro ck a8 bz b0;refine go ?_;cases hm;replace ak:=ak.kp a8;replace al:=al.kp a8;replace aa:=aa.kp a8 bz;exact ⟨rfl,_,ra b0.atN,_,_,_,_,_,rfl,aa.fin (cm [(2,c1),(3,c2)]),aa.fo ak,aa.fo al⟩
def Zgq (N:Nat) (aa:R2):Option Int:=
  (Zds N (aa.1.1,aa.1.2)).bind fun ab=>some ab
theorem Zye {N ac ag:Nat} {ad ah:Option Addr} {col:Ze} {w0:World} {aa:R2} {r:Int} (hm:Zgq N aa=some r) (ae:Sl (Za.int .u32) col w0 ad ac aa.1.2) (ao:Sl (Za.int .u32) col w0 ah ag aa.2):
    Calls prog 93 #[(.agg #[.bool aa.1.1,.slice ad aa.1.2.length ac,.slice ah aa.2.length ag])] w0 (fun e w'=>e= .returned ((.int .i64 r))∧Below w0.heap.size w0 w'):=by
 refine Z1 2 (m:=6) func93 rfl rfl rfl rfl rfl ?_;rw [Zgq.eq_1] at hm;have ab:=St.start col w0;refine go ?_;refine Xe (col:=(Zg col)) 1 rfl ?_;intro ap aj ai ak al;refine go ?_;refine Xv ⟨_,_,rfl⟩ ?_;refine lV (.agg #[.bool aa.1.1,.slice ad aa.1.2.length ac]) (Y1 isAgg45 sizeOf45 rfl rfl ((al.atN).part 0 2 _ rfl)) ?_;obtain ⟨aq,am,hm⟩:=bZ hm;replace ae:=ae.keep (Zh.start col w0);replace ab:=ab.grow ak;refine Zi (Zna am (ae.ks ab)) ?_;rintro _ an ⟨rfl,af⟩;refine ⟨_,rfl,?_⟩;replace af:Zf ai aj ai an:=.of_below af;refine go ?_;cases hm;replace ab:=ab.grow af;exact ⟨rfl,rfl,ab.below⟩
theorem Zch {N k:Nat} {neg:Bool} {m:List Int} (hm:Zn m) (hk:m.length≤k) (hr:Z5 N k):Tx N neg m=some (Xf (Zr (neg,m))):=by
 obtain ⟨r1,r2⟩:=hr
 rw [Tx,V6 hm (by omega) (by omega),oB,Zjk]
 have e:decide (0<((Zd (Zb m)).length:Int))=decide (Zb m≠0):=by
  by_cases h:Zb m=0
  ·rw [h,Wg];decide
  ·have:=Sk h
   rw [decide_eq_true (by omega),decide_eq_true h]
 cases neg
 ·rw [if_neg (by decide),Zgn,Bool.false_and]
 ·rw [if_pos rfl,Zgn,e,Bool.true_and]
theorem Zu6 {N k:Nat} {a:ZV} (hm:Zn a.2) (hk:a.2.length≤k) (hr:Z5 N k):Zgo N a=some (Xf (Zr a)):=by
 rw [Zgo,Zch hm hk hr];rfl
theorem Zop {N k:Nat} {a:ZV} (hm:Zn a.2) (hk:a.2.length≤k) (hr:Z5 N k):Zds N a=some (Zr a).sign:=by
 rw [Zds,Zu6 hm hk hr,oB,Xf]
 generalize Zr a=z
 by_cases h:z=0
 ·subst h;rw [Int.natAbs_zero,Wg,if_pos (by decide)];rfl
 ·have:=Sk (n:=z.natAbs) (by omega)
  rw [if_neg (dF (by simp only;omega))]
  by_cases h2:z<0
  ·rw [if_pos (dT h2),Int.sign_eq_neg_one_of_neg h2]
  ·rw [if_neg (fun hc=>h2 (of_decide_eq_true hc)),Int.sign_eq_one_of_pos (by omega)]
theorem Zud {N k l:Nat} {a b:ZV} (ha:Zn a.2) (hb:Zn b.2) (hk:a.2.length≤k) (hl:b.2.length≤l) (hr:Z5 N (k+l+1)):Zgm N a b=some (Xf (Zr a+Zr b)):=by
 have hr':=hr
 obtain ⟨r1,r2⟩:=hr'
 have la:=X4 ha
 have lb:=X4 hb
 have lsum:(Zd (Zb a.2+Zb b.2)).length≤k+l+1:=Zky (by omega) (by omega)
 have ls1:(Zd (Zb a.2 - Zb b.2)).length≤k+l+1:=by have:=Wy (Nat.sub_le (Zb a.2) (Zb b.2));omega
 have ls2:(Zd (Zb b.2 - Zb a.2)).length≤k+l+1:=by have:=Wy (Nat.sub_le (Zb b.2) (Zb a.2));omega
 rw [Zgm]
 by_cases h:a.1=b.1
 ·rw [if_pos (dT h),Zuf ha hb (by omega) (by omega),oB,Zch (Zw _) lsum hr,oB,Zho.1 h]
 ·rw [if_neg (dF h),Zjs ha hb (by omega) (by omega) (by omega) (by omega),oB]
  by_cases hlt:Zb a.2<Zb b.2
  ·rw [if_pos hlt,if_neg (by decide),Zjs hb ha (by omega) (by omega) (by omega) (by omega),oB,if_neg (by omega),Zch (Zw _) ls2 hr,oB,(Zho.2 h).2 hlt]
  ·rw [if_neg hlt,if_pos rfl,Zch (Zw _) ls1 hr,oB,(Zho.2 h).1 (by omega)]
theorem Z2v {N k:Nat} {a:ZV} (hm:Zn a.2) (hk:a.2.length≤k) (hr:Z5 N k):Zis N a=some (Xf (-Zr a)):=by
 rw [Zis,Zch hm hk hr,oB,Z3u]
theorem Zr1 {a:ZV} (hm:Zn a.2):(Xf (Zr a)).2.length≤a.2.length:=by
 rw [Ze6,Zes];exact X4 hm
theorem Z0t {a:ZV} (hm:Zn a.2):(Xf (-Zr a)).2.length≤a.2.length:=by
 rw [Ze6,Int.natAbs_neg,Zes];exact X4 hm
theorem Z21 {N k l:Nat} {a b:ZV} (ha:Zn a.2) (hb:Zn b.2) (hk:a.2.length≤k) (hl:b.2.length≤l) (hr:Z5 N (k+l+1)):Ziu N a b=some (Xf (Zr a - Zr b)):=by
 rw [Ziu,Z2v (a:=(b.1,b.2)) hb hl (hr.mono (by omega)),oB,Zud (a:=(a.1,a.2)) (b:=Xf _) ha (Vy _) hk (Nat.le_trans (Z0t hb) hl) hr,oB,Vs,Int.sub_eq_add_neg]
theorem Zmf {N k l:Nat} {a b:ZV} (ha:Zn a.2) (hb:Zn b.2) (hk:a.2.length≤k) (hl:b.2.length≤l) (hr:Z5 N (k+l)):Zbz N a b=some (Xf (Zr a * Zr b)):=by
 have hr':=hr
 obtain ⟨r1,r2⟩:=hr'
 have la:=X4 ha
 have lb:=X4 hb
 have:=Wz (Zb a.2) (Zb b.2)
 rw [Zbz,Zhh ha hb (by omega) (by omega),oB,Zch (k:=k+l) (Zw _) (by omega) hr,oB,Zo6]
theorem Z3t (a b:Int):(a - b).sign=S5 a b:=by
 rw [← Zmu];unfold S5
 (repeat' split) <;> omega
theorem Z2g {N k l:Nat} {a b:ZV} (ha:Zn a.2) (hb:Zn b.2) (hk:a.2.length≤k) (hl:b.2.length≤l) (hr:Z5 N (k+l+1)):Zir N a b=some (S5 (Zr a) (Zr b)):=by
 have sl:(Xf (Zr a - Zr b)).2.length≤k+l+1:=Z3d (k:=k+l) (Nat.le_trans (Zr1 ha) (by omega)) (Nat.le_trans (Zr1 hb) (by omega))
 rw [Zir,Z21 (a:=(a.1,a.2)) (b:=(b.1,b.2)) ha hb hk hl hr,oB,Zop (a:=Xf _) (Vy _) sl hr,oB,Vs,Z3t]
theorem Zu8 {N:Nat} {z:Int} (h:-9223372036854775808≤z∧z≤9223372036854775807) (hr:Z5 N 4):Zgp N z=some (Xf z):=by
 have hr':=hr
 obtain ⟨r1,r2⟩:=hr'
 have l2:∀ n:Nat,n<18446744073709551616→(Zd n).length≤2:=fun n hn=>Wd.2 (by simpa using hn)
 have l1:Zn [1]:=.cons (by decide) .nil
 rw [Zgp]
 by_cases hz:0≤z
 ·rw [if_pos (dT hz),Xb (by omega),Zu9 (by omega) (by omega),oB,Zch (Zw _) (l2 _ (by omega)) (hr.mono (by omega)),oB]
  have e2:Zr (false,Zd z.toNat)=z:=by simp only [Zr,Zy];simp;omega
  rw [e2]
 ·have hl3:=l2 (-z - 1).toNat (by omega)
  have e:u64.wrap (i64.wrap (-i64.wrap (z+1)))= -z - 1:=by rw [Zs (x:=z+1) (by omega),Zs (by omega),Xb (by omega)];omega
  rw [if_neg (dF hz),e,Zu9 (by omega) (by omega),oB,Zuf (Zw _) l1 (by simp only [List.length_singleton];omega) (by simp only [List.length_singleton];omega),oB,Zy,Yv,X7,Zch (k:=4) (Zw _) (by
   have:=l2 ((-z - 1).toNat+((1:Int).toNat+4294967296 * 0)) (by omega)
   omega) hr,oB]
  have e2:Zr (true,Zd ((-z - 1).toNat+((1:Int).toNat+4294967296 * 0)))=z:=by simp only [Zr,Zy,if_true];omega
  rw [e2]
theorem Zjq {N k:Nat} {a:QV} (ha:RV k a) (hr:Z5 N k):Su N a=some (Zd (X6 a.2)):=by
 obtain ⟨r1,r2⟩:=hr
 have:=ha.ld
 rw [Su,V6 ha.d (by omega) (by omega),oB,X6]
 by_cases h:Zb a.2=0
 ·rw [h,Wg,if_pos (by decide),if_pos rfl,Zlc,oB,V1]
 ·have:=Sk h
  rw [if_neg (dF (by omega)),if_neg h]
theorem Zol {N k l:Nat} {num:ZV} {den:List Int} (hn:Zn num.2) (hd:Zn den) (h0:Zb den≠0) (hk:num.2.length≤k) (hl:den.length≤l) (hr:Z5 N (k+l)):
  Zdv N num den=some (Xc (mkRat (Zr num) (Zb den))):=by
 have hr':=hr
 obtain ⟨r1,r2⟩:=hr'
 have l1:=X4 hn
 have l2:=X4 hd
 have hg:Nat.gcd (Zb num.2) (Zb den)≠0:=fun h=>h0 (Nat.gcd_eq_zero_iff.1 h).2
 have lg:(Zd (Nat.gcd (Zb num.2) (Zb den))).length≤den.length:=Nat.le_trans (Wy (Nat.gcd_le_right _ (by omega))) l2
 have lq:=Wy (Nat.div_le_self (Zb num.2) (Nat.gcd (Zb num.2) (Zb den)))
 have ld:=Wy (Nat.div_le_self (Zb den) (Nat.gcd (Zb num.2) (Zb den)))
 obtain ⟨g,g1,g2,g3,g4⟩:=Z2t (N:=N) (M:=k+l) hn hd (by omega) (by omega) (by omega) (by omega)
 rw [Zdv,g1,oB,Zul hn g2 (by rw [g3];omega) (by omega) (by rw [g3];omega) (by omega),oB,Zul hd g2 (by rw [g3];omega) (by omega) (by rw [g3];omega) (by omega),oB,g3,if_neg hg,if_neg hg,
  Zu6 (k:=k) (a:=(num.1,Zd (Zb num.2 / Nat.gcd (Zb num.2) (Zb den)))) (Zw _) (by simp only;omega) (hr.mono (by omega)),oB,V6 (Zw _) (by omega) (by omega),oB,Zs2 (neg:=num.1) h0,Zjk,Zy,Zy]
theorem Z2r {N k:Nat} {a:QV} (ha:RV k a) (hr:Z5 N k):Zgq N a=some (Zcg (Xl a)):=by
 rw [Zgq,Zop (a:=(a.1.1,a.1.2)) ha.m ha.lm hr,oB,Ztx]
theorem Zco (n:Nat):Zr (false,Zd n)=n:=by simp [Zr,Zy]
theorem Zok {N k l:Nat} {a b:QV} (ha:RV k a) (hb:RV l b) (hr:Z5 N (2 * (k+l+3))):Zb0 N a b=some (T8 (Xl a) (Xl b)):=by
 have da:=Tn ha
 have db:=Tn hb
 have o1:=Zbd (n:=X6 b.2) ha.m ha.lm db
 have o2:=Zbd (n:=X6 a.2) hb.m hb.lm da
 rw [Zb0,Zjq hb (hr.mono (by omega)),oB,Qs,oB,Zmf (a:=(a.1.1,a.1.2)) (b:=(false,Zd (X6 b.2))) (k:=k) (l:=l+1) ha.m (Zw _) ha.lm db (hr.mono (by omega)),oB,Zjq ha (hr.mono (by omega)),oB,Qs,oB,Zmf (a:=(b.1.1,b.1.2)) (b:=(false,Zd (X6 a.2))) (k:=l) (l:=k+1) hb.m (Zw _) hb.lm da (hr.mono (by omega)),oB,Zco,Zco,
  Z2g (a:=Xf _) (b:=Xf _) (Vy _) (Vy _) o1 o2 (hr.mono (by omega)),oB,Vs,Vs,Xl,Xl,Zn8 (Sf _) (Sf _)]
theorem Z2l {N k l:Nat} {a b:QV} (ha:RV k a) (hb:RV l b) (hr:Z5 N (k+l+2)):Sq N (Zd (X6 a.2)) (Zd (X6 b.2))=some (Zd (X6 a.2 * X6 b.2)):=by
 have da:=Tn ha
 have db:=Tn hb
 obtain ⟨r1,r2⟩:=hr
 rw [Zhh (Zw _) (Zw _) (by omega) (by omega),Zy,Zy]
theorem Z2p {N k l:Nat} {a b:QV} (ha:RV k a) (hb:RV l b) (hr:Z5 N (2 * (k+l+3))):Ziv N a b=some (Xc (Xl a+Xl b)):=by
 have da:=Tn ha
 have db:=Tn hb
 have o1:=Zbd (n:=X6 b.2) ha.m ha.lm db
 have o2:=Zbd (n:=X6 a.2) hb.m hb.lm da
 obtain ⟨_,m2,m3⟩:=Znm ha hb (hr.mono (by omega))
 have m1:=Z2l ha hb (hr.mono (by omega))
 have sl:=Zow (k:=k+l+1) (by omega) (Nat.le_trans o2 (by omega))
 rw [Ziv,Zjq hb (hr.mono (by omega)),oB,Qs,oB,Zmf (a:=(a.1.1,a.1.2)) (b:=(false,Zd (X6 b.2))) (k:=k) (l:=l+1) ha.m (Zw _) ha.lm db (hr.mono (by omega)),oB,Zjq ha (hr.mono (by omega)),oB,Qs,oB,Zmf (a:=(b.1.1,b.1.2)) (b:=(false,Zd (X6 a.2))) (k:=l) (l:=k+1) hb.m (Zw _) hb.lm da (hr.mono (by omega)),oB,Zco,Zco,
  Zud (a:=Xf _) (b:=Xf _) (Vy _) (Vy _) o1 o2 (hr.mono (by omega)),oB,Vs,Vs,oB,oB,m1,oB,
  Zol (num:=Xf _) (Vy _) (Zw _) (by rw [Zy];exact m3) sl m2 (hr.mono (by omega)),oB,Vs,Zy,Xl,Xl,Rat.mkRat_add_mkRat _ _ (Sf _) (Sf _)]
theorem Zvj {N:Nat} {a b:Int} (h:-9223372036854775808≤a∧a≤9223372036854775807) (g:0<b∧b≤9223372036854775807) (hr:Z5 N 8):Zb2 N a b=some (Xc ((a:Rat) / (b:Rat))):=by
 have l2:∀ z:Int,-9223372036854775808≤z∧z≤9223372036854775807→(Xf z).2.length≤2:=fun z hz=>Wd.2 (by simp;omega)
 have la:=l2 a h
 have lb:=l2 b (by omega)
 have hb0:Zb (Xf b).2≠0:=by rw [Ze6,Zy];omega
 have e:=Zsk (Zr (Xf a)) 1 (Xf b) 1 (Xf a).1 (Xf a).2 rfl hb0
 rw [Zb2,Zlb,Zu8 h (hr.mono (by omega)),oB,Zu8 (by omega) (hr.mono (by omega)),oB,Zla,Zop (a:=Xf b) (Vy _) lb (hr.mono (by omega)),oB,Vs,Int.sign_eq_one_of_pos g.1,if_neg (by decide),Zol (num:=(!decide ((Xf a).1=(Xf b).1),(Xf a).2)) (Vy _) (Vy _) hb0 la lb (hr.mono (by omega)),oB,oB,oB]
 rw [Rat.mkRat_eq_div,Rat.mkRat_eq_div,Vs,Vs] at e
 have e1:(a:Rat) / ((1:Nat):Rat) / ((b:Rat) / ((1:Nat):Rat))=(a:Rat) / (b:Rat):=by
  have h1:((1:Nat):Rat)=1:=rfl
  have h2:(1:Rat)⁻¹=1:=Rat.inv_eq_of_mul_eq_one (by grind)
  simp only [h1,Rat.div_def,h2,Rat.mul_one]
 rw [e1,Nat.one_mul,Nat.mul_one] at e
 rw [e]
 have e2:Zr (!decide ((Xf a).1=(Xf b).1),Zd (Zb (Xf a).2))=Zr (!decide ((Xf a).1=(Xf b).1),(Xf a).2):=by simp only [Zr,Zy]
 rw [e2]
theorem div_one (a:Rat):a / 1=a:=by
 have h2:(1:Rat)⁻¹=1:=Rat.inv_eq_of_mul_eq_one (by grind)
 rw [Rat.div_def,h2,Rat.mul_one]
theorem Z29 {N:Nat} (hr:Z5 N 8):Zb2 N 0 1=some (Xc 0):=by
 rw [Zvj (by omega) (by omega) hr]
 congr 2
 exact div_one _
theorem Z28 {N:Nat} (hr:Z5 N 8):Zb2 N 1 1=some (Xc 1):=by
 rw [Zvj (by omega) (by omega) hr]
 congr 2
 exact div_one _
theorem Zut {N:Nat} (l:List QV) (hl:∀ a ∈ l,W3 a) (hb:l.length<4611686018427387904):∀ (n i:Nat) (q:Rat),i≤l.length→l.length<n+i→Z5 N (4 * (qs q+X5 (l.drop i)+3))→Zdu N l n (Xc q).1.1 (Xc q).1.2 (Xc q).2 (i:Int)=some (Xc (q+W1 (l.drop i)))
 | 0,i,q,h1,h2,_=>by omega
 | n+1,i,q,h1,h2,hr=>by
  rw [Zdu.eq_2]
  by_cases hi:i<l.length
  ·have hd:=List.drop_eq_getElem_cons hi
   have ha:=hl _ (List.getElem_mem hi)
   have hs:=Ztw ha
   rw [hd,X5] at hr
   have h3:=Ztv q (Xl l[i])
   rw [if_pos (dT (by omega)),Zv hi,oB,Z2p (k:=qs q) (l:=max (l[i]).1.2.length (l[i]).2.length) (Zoq q) (Zeo ha.1 ha.2) (hr.mono (by omega)),oB,Zs (by omega)]
   have ih:=Zut l hl hb n (i+1) (q+Xl l[i]) (by omega) (by omega) (hr.mono (by omega))
   have e:Xl ((((Xc q).1.1,(Xc q).1.2),(Xc q).2):QV)=q:=Qx q
   have e2:Xl (((l[i].1.1,l[i].1.2),l[i].2):QV)=Xl l[i]:=rfl
   rw [show ((i+1:Nat):Int)=(i:Int)+1 by omega] at ih
   rw [e,e2,ih,hd,W1,W1,List.map_cons,List.sum_cons,Rat.add_assoc]
  ·rw [if_neg (dF (by omega)),List.drop_eq_nil_of_le (by omega),W1,List.map_nil,List.sum_nil,Rat.add_zero]
theorem Z2s {N:Nat} {l:List QV} (hl:∀ a ∈ l,W3 a) (hb:l.length<4611686018427387904) (hn:l.length<N) (hr:Z5 N (4 * (X5 l+4))):Ziz N l=some (Xc (W1 l)):=by
 rw [Ziz,Z29 (hr.mono (by omega)),oB]
 have:=Zut (N:=N) l hl hb N 0 0 (by omega) (by omega) (hr.mono (by rw [Zob,List.drop_zero];omega))
 rw [List.drop_zero,Rat.zero_add] at this
 exact this
def Zbl (N:Nat) (ab:Int):Nat→R1→Int→Option R1
  | 0,_,_=>none
  | ad+1,ac,aa=>if (decide (aa≤ab))=true then ((So N (u64.wrap aa)).bind fun ae=>(Sn N ac ae).bind fun af=>(Zbl N ab ad) af (i64.wrap (aa+1))) else (some ac)
termination_by structural x=>x
def Zc6 (N:Nat) (aa:Int):Option R1:=
  (So N 1).bind fun ab=>Zbl N aa N ab 2
theorem Zm5 {N:Nat} {col:Ze} {w0:World} {ah:Int} {r:R1} (c1:Nat) (hm:Zc6 N ah=some r):
    Calls prog 112 #[.int .i64 ah] w0 (fun e w'=>∃ (col':Ze) (ra1:Option Addr) (rc2:Nat),e= .returned ((.slice ra1 r.length rc2))∧Zf col w0 col' w'∧Zc (Za.int .u32) 79 c1 col' w' ra1 rc2 r):=by
 refine Z1 2 (m:=17) func112 rfl rfl rfl rfl rfl ?_;rw [Zc6.eq_1] at hm;have aa:=St.start col w0;refine go ?_;obtain ⟨ay,ao,hm⟩:=bZ hm;refine Zi (Zcr (col:=(Zg col)) 1 ao) ?_;rintro _ az ⟨a0,a1,a2,rfl,ap,aq⟩;refine ⟨_,rfl,go ?_⟩;replace aa:=aa.grow ap;refine Zu [0,1000000] (fun n f ai=>∃ ad aj ak ae al ab,ab=n∧Zbl N ah ab ae al=some r∧St w0 (Zg col) ad ai∧Zc (Za.int .u32) 79 1 ad ai aj ak ae∧[3,4].map f=[.slice aj ae.length ak,.int .i64 al]) N ⟨_,_,_,_,2,_,rfl,hm,aa,aq,rfl⟩ ?_;clear hm;intro n f ai hI;obtain ⟨ad,aj,ak,ae,al,ab,hn,hm,aa,af,hs⟩:=hI;subst hn;refine .lL [3,4] hs ?_
 cases ab with
 | zero=>rw [Zbl.eq_1] at hm;cases hm
 | succ ab=>
  rw [Zbl.eq_2] at hm;refine go ?_;refine Zm hm (fun hb hm=>go ?_) fun hb hm=>go ?_
  ·obtain ⟨a3,ar,hm⟩:=bZ hm;refine Zi (Zcr (col:=ad) 2 ar) ?_;rintro _ au ⟨am,a4,a5,rfl,an,av⟩;refine ⟨_,rfl,?_⟩;obtain ⟨a6,aw,hm⟩:=bZ hm;replace af:=af.gr an;refine Zi (Zex 3 aw ((af.toSlF (Zj.int .u32)).froz 2) ((av.froz 1 (by decide)).toSlF (Zj.int .u32))) ?_;rintro _ a7 ⟨ax,a8,a9,rfl,ag,ac⟩;refine ⟨_,rfl,?_⟩;replace ac:=ac.thaw (Z2 .u32) ag (((Fz.refl (col:=am)).froz 1).froz 2) (by decide);replace ag:=ag.thawR (col:=am);generalize Z7 au.heap.size am ax=ba at *;refine go ?_;replace ac:=ac.recolSelf 1 (by decide);replace aa:=(aa.grow an).grow ag;replace aa:=aa.recol 3 1 (by decide) (by decide);exact ⟨ab,by omega,rfl,⟨_,_,_,_,_,_,rfl,hm,aa,ac,rfl⟩⟩
  cases hm;exact ⟨rfl,_,_,_,rfl,aa.fin (cm [(1,c1)]),aa.fo af⟩
def Zb9 (N:Nat) (ab:Int):Nat→R1→Int→Option R1
  | 0,_,_=>none
  | ad+1,ac,aa=>if (decide (aa≤ab))=true then ((Sq N ac [u32.wrap aa]).bind fun ae=>(Zb9 N ab ad) ae (i64.wrap (aa+1))) else (some ac)
termination_by structural x=>x
def Zec (N:Nat) (aa:Int):Option R1:=
  Zb9 N aa N [1] 2
theorem Zne {N:Nat} {col:Ze} {w0:World} {ai:Int} {r:R1} (c1:Nat) (hm:Zec N ai=some r):
    Calls prog 105 #[.int .i64 ai] w0 (fun e w'=>∃ (col':Ze) (ra1:Option Addr) (rc2:Nat),e= .returned ((.slice ra1 r.length rc2))∧Zf col w0 col' w'∧Zc (Za.int .u32) 79 c1 col' w' ra1 rc2 r):=by
 refine Z1 2 (m:=17) func105 rfl rfl rfl rfl rfl ?_;rw [Zec.eq_1] at hm;have aa:=St.start col w0;refine go ?_;refine W5 (col:=(Zg col)) [1] 1 ?_;intro aw ax ay ao ap;refine go ?_;replace aa:=aa.grow ao;refine Zu [0,1000000] (fun n f aj=>∃ ad ak al ae af ab,ab=n∧Zb9 N ai ab ae af=some r∧St w0 (Zg col) ad aj∧Zc (Za.int .u32) 79 1 ad aj ak al ae∧[3,4].map f=[.slice ak ae.length al,.int .i64 af]) N ⟨_,_,1,_,2,_,rfl,hm,aa,ap,rfl⟩ ?_;clear hm;intro n f aj hI;obtain ⟨ad,ak,al,ae,af,ab,hn,hm,aa,ag,hs⟩:=hI;subst hn;refine .lL [3,4] hs ?_
 cases ab with
 | zero=>rw [Zb9.eq_1] at hm;cases hm
 | succ ab=>
  rw [Zb9.eq_2] at hm;refine go ?_;refine Zm hm (fun hb hm=>go ?_) fun hb hm=>go ?_
  ·refine W5 (col:=ad) [u32.wrap af] 2 ?_;intro az aq am an ar;obtain ⟨a0,au,hm⟩:=bZ hm;replace ag:=ag.gr an;refine Zi (Zey 3 au ((ag.toSlF (Zj.int .u32)).froz 2) ((ar.froz 1 (by decide)).toSlF (Zj.int .u32))) ?_;rintro _ a1 ⟨av,a2,a3,rfl,ah,ac⟩;refine ⟨_,rfl,?_⟩;replace ac:=ac.thaw (Z2 .u32) ah (((Fz.refl (col:=am)).froz 1).froz 2) (by decide);replace ah:=ah.thawR (col:=am);generalize Z7 aq.heap.size am av=a4 at *;refine go ?_;replace ac:=ac.recolSelf 1 (by decide);replace aa:=(aa.grow an).grow ah;replace aa:=aa.recol 3 1 (by decide) (by decide);exact ⟨ab,by omega,rfl,⟨_,_,_,_,_,_,rfl,hm,aa,ac,rfl⟩⟩
  cases hm;exact ⟨rfl,_,_,_,rfl,aa.fin (cm [(1,c1)]),aa.fo ag⟩
def Xj:Nat→Nat
 | 0=>1
 | n+1=>(n+1) * Xj n
theorem Zkt:∀ n,Xj n≠0
 | 0=>by decide
 | n+1=>Nat.mul_ne_zero (by omega) (Zkt n)
theorem Zv1 {n:Nat} (h:n<4294967296):(Zd n).length≤1:=Wd.2 (by simp;omega)
theorem Um:∀ n,n<4294967296→(Zd (Xj n)).length≤n+1
 | 0,_=>by rw [Xj,V1];simp
 | n+1,h=>by
  have h1:=Um n (by omega)
  have h2:=Wz (n+1) (Xj n)
  have h3:=Zv1 h
  rw [Xj];omega
theorem Zqx {i:Nat} (h:1≤i):Xj (i - 1) * i=Xj (i+1 - 1):=by
 obtain ⟨j,rfl⟩:∃ j,i=j+1:=⟨i - 1,by omega⟩
 show Xj j * (j+1)=(j+1) * Xj j
 exact Nat.mul_comm _ _
theorem Zr4 {N k:Nat} (hk:k≤1048576) (hN:4194304<N):∀ (f i:Nat),2≤i→i≤k+1→k+1<f+i→Zbl N (k:Int) f (Zd (Xj (i - 1))) (i:Int)=some (Zd (Xj k))
 | 0,i,h1,h2,h3=>by omega
 | f+1,i,h1,h2,h3=>by
  rw [Zbl.eq_2]
  by_cases hi:i≤k
  ·have e:u64.wrap (i:Int)=(i:Int):=by rw [IntKind.wrap_u64];omega
   have h4:=Um (i - 1) (by omega)
   have h5:=Zv1 (n:=i) (by omega)
   rw [if_pos (dT (by omega)),e,Zei (by omega) (by omega),oB,Int.toNat_natCast,Zji (Zw _) (Zw _) (by omega) (by omega),oB,Zy,Zy,wS (by omega),Zqx (by omega)]
   exact Zr4 hk hN f (i+1) (by omega) (by omega) (by omega)
  ·have hi:i=k+1:=by omega
   subst hi
   rw [if_neg (dF (by omega))];rfl
theorem Znv {N k:Nat} (hk:k≤1048576) (hN:4194304<N):Zc6 N (k:Int)=some (Zd (Xj k)):=by
 rw [Zc6,Zei (by decide) (by omega),oB]
 by_cases h:1≤k
 ·exact Zr4 hk hN N 2 (by omega) (by omega) (by omega)
 ·have:k=0:=by omega
  subst this
  obtain ⟨M,rfl⟩:∃ M,N=M+1:=⟨N - 1,by omega⟩
  rw [Zbl.eq_2,if_neg (by decide)];rfl
theorem Zus {N k:Nat} (hk:k≤1048576) (hN:4194304<N):∀ (f i:Nat),2≤i→i≤k+1→k+1<f+i→Zb9 N (k:Int) f (Zd (Xj (i - 1))) (i:Int)=some (Zd (Xj k))
 | 0,i,h1,h2,h3=>by omega
 | f+1,i,h1,h2,h3=>by
  rw [Zb9.eq_2]
  by_cases hi:i≤k
  ·have e:u32.wrap (i:Int)=(i:Int):=by rw [IntKind.wrap_u32];omega
   have h4:=Um (i - 1) (by omega)
   have h5:Zn [(i:Int)]:=Zn.cons (by omega) Zn.nil
   have h6:Zb [(i:Int)]=i:=by simp [Zb]
   rw [if_pos (dT (by omega)),e,Zhh (Zw _) h5 (by simp only [List.length_singleton];omega) (by simp only [List.length_singleton];omega),oB,Zy,h6,wS (by omega),Zqx (by omega)]
   exact Zus hk hN f (i+1) (by omega) (by omega) (by omega)
  ·have hi:i=k+1:=by omega
   subst hi
   rw [if_neg (dF (by omega))];rfl
theorem Zoj {N k:Nat} (hk:k≤1048576) (hN:4194304<N):Zec N (k:Int)=some (Zd (Xj k)):=by
 have e1:Zd (Xj (2 - 1))=[1]:=V1
 rw [Zec,← e1]
 by_cases h:1≤k
 ·exact Zus hk hN N 2 (by omega) (by omega) (by omega)
 ·have:k=0:=by omega
  subst this
  obtain ⟨M,rfl⟩:∃ M,N=M+1:=⟨N - 1,by omega⟩
  rw [Zb9.eq_2,if_neg (by decide)];rfl

end Go.Proofs.YtbmjpjhbankpoaaGreat
