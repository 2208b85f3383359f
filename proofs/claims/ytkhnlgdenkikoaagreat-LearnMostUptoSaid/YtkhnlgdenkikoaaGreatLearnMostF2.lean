/-
  What functions of the program compute, as plain Lean functions (m_..), and proofs that they compute it (c_..). Printed by a program of the author; no conditions.
-/
import Derived.Test.YtkhnlgdenkikoaaGreatLearnMostBFloat
import Derived.Test.YtkhnlgdenkikoaaGreatProg
import Derived.Test.YtkhnlgdenkikoaaGreatLearnMostBBrief
import Derived.Test.YtkhnlgdenkikoaaGreatLearnMostF1
set_option linter.unusedVariables false
set_option maxRecDepth 100000
set_option maxHeartbeats 2000000
namespace Go.Proofs.YtkhnlgdenkikoaaGreat
open Go Go.RowKit
open Go.IntKind (i8 i16 i32 i64 u8 u16 u32 u64)
open Go.Proofs.Tryz

def S5 (N:Nat) (aa:R4) (ab:R4):Option Int:=
  (Ta N ((ab.1.1,ab.1.2),ab.2)).bind fun ae=>(Zbx N (aa.1.1,aa.1.2) ae).bind fun ac=>(Ta N ((aa.1.1,aa.1.2),aa.2)).bind fun af=>(Zbx N (ab.1.1,ab.1.2) af).bind fun ad=>(Zje N (ac.1,ac.2) (ad.1,ad.2)).bind fun ag=>some ag
theorem Zeu {N ap a0 aq a1:Nat} {ar a2 au a3:Option Addr} {col:Ze} {w0:World} {ac ad:R4} {r:Int} (hm:S5 N ac ad=some r) (al:Sl (Za.int .u32) col w0 ar ap ac.1.2) (av:Sl (Za.int .u32) col w0 a2 a0 ac.2) (am:Sl (Za.int .u32) col w0 au aq ad.1.2) (aw:Sl (Za.int .u32) col w0 a3 a1 ad.2):
    Calls prog 15 #[(.agg #[.bool ac.1.1,.slice ar ac.1.2.length ap,.slice a2 ac.2.length a0]),(.agg #[.bool ad.1.1,.slice au ad.1.2.length aq,.slice a3 ad.2.length a1])] w0 (fun e w'=>e= .returned ((.int .i64 r))∧Below w0.heap.size w0 w'):=by
 refine Xf 4 (m:=16) func15 rfl rfl rfl rfl rfl ?_;rw [S5.eq_1] at hm;have aa:=St.start col w0;refine go ?_;refine Xl (col:=(Zj col)) 1 rfl ?_;intro bm bn a8 a9 an;refine Xl (col:=a8) 2 rfl ?_;intro bo bp ae a4 a5;refine go ?_;refine Wh (col:=ae) [(0,1),(1,0),(2,0),(5,1),(6,0),(7,0),(3,3),(4,3),(8,3),(9,3),(10,3),(11,1)] (by kernel_rfl) (by kernel_rfl)<|xF ⟨_,_,rfl⟩ ?_;replace an:=an.gr a4;refine xv (v:=(.agg #[.bool ac.1.1,.slice ar ac.1.2.length ap])) rfl rfl (fun _ hC=>Wj isAgg37 sizeOf37 rfl rfl (((an.atN).part 0 2 _ rfl).gr (hC.bl ae))) ?_;refine xv rfl rfl (fun _ hC=>Z2 isAgg39 sizeOf39 (a5.gr (hC.bl ae))) ?_;refine xF ⟨_,_,rfl⟩ ?_;refine xv (v:=(.agg #[.bool ad.1.1,.slice au ad.1.2.length aq])) rfl rfl (fun _ hC=>Wj isAgg37 sizeOf37 rfl rfl (((a5.atN).part 0 2 _ rfl).gr (hC.bl ae))) ?_;refine xv rfl rfl (fun _ hC=>Z2 isAgg39 sizeOf39 (an.gr (hC.bl ae))) ?_;refine xe rfl rfl ?_;intro bq hC0;have hC:=hC0.bl ae;obtain ⟨br,ba,hm⟩:=bZ hm;replace am:=am.keep (Zi.start col w0);replace aw:=aw.keep (Zi.start col w0);replace aa:=((aa.grow a9).grow a4).grow hC;refine Zk (Qo 3 ba (am.ks aa) (aw.ks aa)) ?_;rintro _ bs ⟨ah,bt,bu,rfl,a6,ax⟩;refine ⟨_,rfl,?_⟩;refine Zl<|Xo ah hC0 a6<|xe rfl rfl ?_;intro bb hC0;have hC:=hC0.bl ah;obtain ⟨bv,bc,hm⟩:=bZ hm;replace al:=al.keep (Zi.start col w0);replace aa:=(aa.grow a6).grow hC;replace ax:=ax.gr hC;refine Zk (Zkm 4 bc ((al.ks aa).froz 3) (ax.toSlF (Zd.int .u32))) ?_;rintro _ bw ⟨bd,bx,bz,rfl,ai,ab⟩;refine ⟨_,rfl,?_⟩;replace av:=av.keep (Zi.start col w0);replace ab:=ab.thaw (Z1 .u32) ai ((Fz.refl (col:=ah)).froz 3) (by decide);replace ai:=ai.thawR (col:=ah);generalize Xe bb.heap.size ah bd=a7 at *;refine Zl<|Xo a7 hC0 ai<|xe rfl rfl ?_;intro b0 hC0;have hC:=hC0.bl a7;obtain ⟨b1,be,hm⟩:=bZ hm;replace aa:=(aa.grow ai).grow hC;refine Zk (Qo 5 be (al.ks aa) (av.ks aa)) ?_;rintro _ b2 ⟨aj,b3,b4,rfl,ay,az⟩;refine ⟨_,rfl,?_⟩;refine Zl<|Xo aj hC0 ay<|xe rfl rfl ?_;intro bf hC0;replace ab:=(ab.gr hC).gr ay;have hC:=hC0.bl aj;obtain ⟨b5,bg,hm⟩:=bZ hm;replace aa:=(aa.grow ay).grow hC;replace az:=az.gr hC
 refine Zk (Zkm 6 bg ((am.ks aa).froz 5) (az.toSlF (Zd.int .u32))) ?_;rintro _ b6 ⟨bh,b7,b8,rfl,af,ak⟩;refine ⟨_,rfl,?_⟩;replace ak:=ak.thaw (Z1 .u32) af ((Fz.refl (col:=aj)).froz 5) (by decide);replace af:=af.thawR (col:=aj);generalize Xe bf.heap.size aj bh=ag at *;refine Zl<|Xo ag hC0 af<|xe rfl rfl ?_;intro bi hC0;replace ab:=(ab.gr hC).gr af;have hC:=hC0.bl ag;obtain ⟨b9,bj,hm⟩:=bZ hm;replace ab:=ab.gr hC;replace ak:=ak.gr hC;refine Zk (Z13 bj ((ab.toSlF (Zd.int .u32)).froz 6) ((ak.froz 4 (by decide)).toSlF (Zd.int .u32))) ?_;rintro _ bk ⟨rfl,ao⟩;refine ⟨_,rfl,?_⟩;replace ao:Zh ag bi ag bk:=.of_below ao;refine Zl<|Xo ag hC0 ao<|xu rfl rfl (fun _=>Zqj rfl) ?_;refine Y2 ?_;replace aa:=((aa.grow af).grow hC).grow ao;intro ca hC;replace hC:=hC.bl ag;refine Vc ?_;cases hm;replace aa:=aa.grow hC;exact ⟨rfl,rfl,aa.below⟩
def Zbv (N:Nat):List R4→Bool→R5→R5→Option R4
  | [],aa,ab,ac=>some ((aa,ab),ac)
  | ad :: af,aa,ab,ac=>(S4 N ((aa,ab),ac) ((ad.1.1,ad.1.2),ad.2)).bind fun ae=>(Zbv N af) ae.1.1 ae.1.2 ae.2
termination_by structural x=>x
def Zda (N:Nat) (aa:R7):Option R4:=
  (S7 N 1).bind fun ab=>Zbv N aa false ([]:List Int) ab
theorem Znw {N ba:Nat} {a0:Option Addr} {col:Ze} {w0:World} {af:R7} {r:R4} (c1 c2:Nat) (hm:Zda N af=some r) (h0:Sl (Za.pair (Za.pair Za.bool (Za.slice (Za.int .u32))) (Za.slice (Za.int .u32))) col w0 a0 ba af):
    Calls prog 80 #[.slice a0 af.length ba] w0 (fun e w'=>∃ (col':Ze) (ra1:Option Addr) (rc2:Nat) (ra4:Option Addr) (rc5:Nat),e= .returned ((.agg #[.bool r.1.1,.slice ra1 r.1.2.length rc2,.slice ra4 r.2.length rc5]))∧Zh col w0 col' w'∧Zb (Za.int .u32) 95 c1 col' w' ra1 rc2 r.1.2∧Zb (Za.int .u32) 95 c2 col' w' ra4 rc5 r.2):=by
 refine Y5 (m:=19) func80 rfl rfl rfl ?_;rw [Zda.eq_1] at hm;have aa:=St.start col w0;refine go ?_;refine Xg (col:=(Zj col)) #[.bool false,.slice none (([]:List Int).length) 0,.slice none (([]:List Int).length) 0] 1 zeroValue39 ?_;intro bc cb bd be ab;refine go ?_;obtain ⟨bf,bg,hm⟩:=bZ hm;refine Zk (Zcx (col:=bd) 2 bg) ?_;rintro _ cc ⟨bh,bi,bj,rfl,bb,aw⟩;refine ⟨_,rfl,?_⟩;refine lV (.agg #[.bool false,.slice none (([]:List Int).length) 0,.slice bi bf.length bj]) (Wc (l:=[_,_]) (qs:=[(0,2),(2,1)]) underlying39 zeroValue39 ⟨rfl,sizeOf37,rfl,sizeOf35,trivial⟩ rfl)<|Xg (col:=bh) #[.bool false,.slice none (([]:List Int).length) 0,.slice none (([]:List Int).length) 0] 3 zeroValue39 ?_;intro bk cd ce ax bm;refine Zz bm ?_;intro cf ay bn ac;refine go ?_;replace aa:=(((aa.grow be).grow bb).grow ax).kp ay bn;replace ab:=((ab.gr bb).gr ax).kp ay;replace aw:=(aw.gr ax).kp ay;refine Zu [2,3,8,9,1000000] (fun n f ak=>∃ ag an az a1 a2 aq a3 a4 ar ao,n=ao.length∧af.drop an=ao∧Zbv N ao az aq ar=some r∧St w0 (Zj col) ag ak∧Zf 39 1 ag ak bc #[.bool false,.slice none (([]:List Int).length) 0,.slice none (([]:List Int).length) 0]∧Zb (Za.int .u32) 95 4 ag ak a1 a2 aq∧Zb (Za.int .u32) 95 2 ag ak a3 a4 ar∧Zf 39 3 ag ak bk #[.bool az,.slice a1 aq.length a2,.slice a3 ar.length a4]∧[10].map f=[.int .i64 an]) af.length ⟨_,0,_,none,0,_,_,_,_,_,rfl,rfl,hm,aa,ab,Zb.nil,aw,ac,rfl⟩ ?_;clear hm;intro n f ak hI;obtain ⟨ag,an,az,a1,a2,aq,a3,a4,ar,ao,hn,hl,hm,aa,ab,al,am,ac,hs⟩:=hI;subst hn;refine .lL [10] hs ?_;replace h0:=h0.keep (Zi.start col w0)
 cases ao with
 | nil=>
  have hk:¬ ((an:Int)<(af.length:Int)):=by have:=List.drop_eq_nil_iff.1 hl;omega
  have hkb:=decide_eq_false hk;rw [Zbv.eq_1] at hm;refine go ?_;refine Xs (congrArg Value.bool hkb)<|go ?_;refine lV _ (Z2 isAgg39 sizeOf39 ac)<|Zz ab ?_;intro cg a5 bo bp;refine go ?_;cases hm;replace al:=al.kp a5;replace am:=am.kp a5;replace aa:=aa.kp a5 bo;exact ⟨rfl,_,ra bp.atN,_,_,_,_,_,rfl,aa.fin (cm [(4,c1),(2,c2)]),aa.fo al,aa.fo am⟩
 | cons a6 bq=>
  obtain ⟨a7,br,bs⟩:=X3 hl;have hk:(an:Int)<(af.length:Int):=by omega
  have hkb:=decide_eq_true hk;rw [Zbv.eq_2] at hm;refine go ?_;refine Xt (congrArg Value.bool hkb)<|go ?_;refine lI a7 ((h0.ks aa).addr a7) ?_;obtain ⟨_,bt,bu⟩:=(h0.ks aa).atN a7;obtain ⟨_,_,rfl,bv,bw⟩:=V4 bt;obtain ⟨_,_,rfl,bx,bz⟩:=V4 bv;obtain ⟨rfl,_⟩:=bx;obtain ⟨⟨b0,b1,rfl,a8⟩,_⟩:=bz;obtain ⟨⟨b2,b3,rfl,a9⟩,_⟩:=bw;refine lV (.agg #[.bool a6.1.1,.slice b0 a6.1.2.length b1,.slice b2 a6.2.length b3]) (Wj isAgg39 sizeOf39 rfl rfl bu)<|Xg (col:=ag) #[.bool false,.slice none (([]:List Int).length) 0,.slice none (([]:List Int).length) 0] 5 zeroValue39 ?_;intro ch ci au ah b4;refine Zz b4 ?_;intro b5 ai b6 b7;refine go ?_;replace ac:=(ac.gr ah).kp ai;refine lV _ (Z2 isAgg39 sizeOf39 ac)<|lV _ (Z2 isAgg39 sizeOf39 b7) ?_;obtain ⟨cj,b8,hm⟩:=bZ hm;replace al:=(al.gr ah).kp ai;replace am:=(am.gr ah).kp ai;replace a8:=(a8.gr ah).kp ai;replace a9:=(a9.gr ah).kp ai;refine Zk (Zhi 6 7 b8 ((al.toSlF (Zd.int .u32)).froz 2) ((am.froz 4 (by decide)).toSlF (Zd.int .u32)) ((a8.froz 4).froz 2) ((a9.froz 4).froz 2)) ?_;rintro _ ck ⟨b9,cl,cn,co,cp,rfl,aj,ad,ae⟩;refine ⟨_,rfl,?_⟩;replace ad:=ad.thaw (Z1 .u32) aj (((Fz.refl (col:=au)).froz 4).froz 2) (by decide);replace ae:=ae.thaw (Z1 .u32) aj (((Fz.refl (col:=au)).froz 4).froz 2) (by decide);replace aj:=aj.thawR (col:=au);generalize Xe b5.heap.size au b9=cq at *;replace ac:=ac.gr aj;refine Zz ac ?_;intro cr av ca ap;refine go ?_;replace ad:=ad.kp av;replace ad:=ad.recolSelf 4 (by decide);replace ae:=ae.kp av;replace ae:=ae.recol 6 4 (by decide);replace ab:=(((ab.gr ah).kp ai).gr aj).kp av;replace ab:=ab.recol 6 4 (by decide);replace ap:=ap.recol 6 4 (by decide);replace aa:=(((aa.grow ah).kp ai b6).grow aj).kp av ca;replace aa:=aa.recol 6 4 (by decide) (by decide);replace ad:=ad.recol 7 2 (by decide);replace ae:=ae.recolSelf 2 (by decide);replace ab:=ab.recol 7 2 (by decide);replace ap:=ap.recol 7 2 (by decide);replace aa:=aa.recol 7 2 (by decide) (by decide);exact ⟨bq.length,by simp,rfl,⟨_,_,_,_,_,_,_,_,_,_,rfl,br,hm,aa,ab,ad,ae,ap,(X5 (congrArg (Value.int .i64) (X2 (Nat.lt_of_lt_of_le bs (h0.ks aa).1.1))) rfl)⟩⟩
def Zgq (N:Nat) (aa:Int):Option R8:=
  if (decide (aa<0))=true then ((S7 N (u64.wrap (-(u64.wrap aa)))).bind fun ad=>(Qd N true ad).bind fun ab=>some (ab.1,ab.2)) else ((S7 N (u64.wrap aa)).bind fun ae=>(Qd N false ae).bind fun ac=>some (ac.1,ac.2))
theorem Zse {N:Nat} {col:Ze} {w0:World} {ai:Int} {r:R8} (c1:Nat) (hm:Zgq N ai=some r):
    Calls prog 72 #[.int .i64 ai] w0 (fun e w'=>∃ (col':Ze) (ra1:Option Addr) (rc2:Nat),e= .returned ((.agg #[.bool r.1,.slice ra1 r.2.length rc2]))∧Zh col w0 col' w'∧Zb (Za.int .u32) 95 c1 col' w' ra1 rc2 r.2):=by
 refine Y5 (m:=14) func72 rfl rfl rfl ?_;rw [Zgq.eq_1] at hm;have aa:=St.start col w0;refine go ?_;refine Xg (col:=(Zj col)) #[.bool false,.slice none (([]:List Int).length) 0] 1 zeroValue37 ?_;intro a5 a6 aj ao ab;refine go ?_;replace aa:=aa.grow ao;refine Zo hm (fun hb hm=>go ?_) fun hb hm=>go ?_
 ·obtain ⟨a7,ap,hm⟩:=bZ hm;refine Zk (Zcx (col:=aj) 2 ap) ?_;rintro _ aq ⟨ag,a8,a9,rfl,ak,ar⟩;refine ⟨_,rfl,?_⟩;obtain ⟨ba,au,hm⟩:=bZ hm;refine Zk (Zcz 3 au (ar.toSlF (Zd.int .u32))) ?_;rintro _ bb ⟨av,bc,bd,rfl,ac,ad⟩;refine ⟨_,rfl,?_⟩;replace ad:=ad.thaw (Z1 .u32) ac ((Fz.refl (col:=ag)).froz 2) (by decide);replace ac:=ac.thawR (col:=ag);generalize Xe aq.heap.size ag av=be at *;replace ab:=(ab.gr ak).gr ac;refine Zz ab ?_;intro bf al aw ax;refine go ?_;cases hm;replace aa:=((aa.grow ak).grow ac).kp al aw;replace ad:=ad.kp al;exact ⟨rfl,_,ra ax.atN,_,_,_,rfl,aa.fin (cm [(3,c1)]),aa.fo ad⟩
 obtain ⟨bg,ay,hm⟩:=bZ hm;refine Zk (Zcx (col:=aj) 4 ay) ?_;rintro _ az ⟨ah,bh,bi,rfl,am,a0⟩;refine ⟨_,rfl,?_⟩;obtain ⟨bj,a1,hm⟩:=bZ hm;refine Zk (Zcz 5 a1 (a0.toSlF (Zd.int .u32))) ?_;rintro _ bk ⟨a2,bm,bn,rfl,ae,af⟩;refine ⟨_,rfl,?_⟩;replace af:=af.thaw (Z1 .u32) ae ((Fz.refl (col:=ah)).froz 4) (by decide);replace ae:=ae.thawR (col:=ah);generalize Xe az.heap.size ah a2=bo at *;replace ab:=(ab.gr am).gr ae;refine Zz ab ?_;intro bp an a3 a4;refine go ?_;cases hm;replace aa:=((aa.grow am).grow ae).kp an a3;replace af:=af.kp an;exact ⟨rfl,_,ra a4.atN,_,_,_,rfl,aa.fin (cm [(5,c1)]),aa.fo af⟩
def Zfe (N:Nat) (ac:R8) (aa:R8):Option (R4×Int):=
  (Zci N (aa.1,aa.2)).bind fun ad=>if (decide (ad=0))=true then (some (((false,([]:List Int)),([]:List Int)),11)) else ((Zbw N (!decide (ac.1=aa.1)) ac.2 aa.2).bind fun ab=>some (((ab.1.1,ab.1.2),ab.2),0))
theorem Zrx {N an ao:Nat} {ap aq:Option Addr} {col:Ze} {w0:World} {ae af:R8} {r:(R4×Int)} (c1 c2:Nat) (hm:Zfe N ae af=some r) (ai:Sl (Za.int .u32) col w0 ap an ae.2) (ag:Sl (Za.int .u32) col w0 aq ao af.2):
    Calls prog 71 #[(.agg #[.bool ae.1,.slice ap ae.2.length an]),(.agg #[.bool af.1,.slice aq af.2.length ao])] w0 (fun e w'=>∃ (col':Ze) (ra1:Option Addr) (rc2:Nat) (ra4:Option Addr) (rc5:Nat),e= .returned (.tuple #[(.agg #[.bool r.1.1.1,.slice ra1 r.1.1.2.length rc2,.slice ra4 r.1.2.length rc5]),.int .i64 r.2])∧Zh col w0 col' w'∧Zb (Za.int .u32) 95 c1 col' w' ra1 rc2 r.1.1.2∧Zb (Za.int .u32) 95 c2 col' w' ra4 rc5 r.1.2):=by
 refine Y5 (m:=20) func71 rfl rfl rfl ?_;rw [Zfe.eq_1] at hm;have aa:=St.start col w0;refine go ?_;refine Xl (col:=(Zj col)) 1 rfl ?_;intro a8 a9 aw ax ah;refine Xl (col:=aw) 2 rfl ?_;intro ba bb ay ar ab;refine Xg (col:=ay) #[.bool false,.slice none (([]:List Int).length) 0,.slice none (([]:List Int).length) 0] 3 zeroValue39 ?_;intro bc az au aj ac;refine go ?_;replace ab:=ab.gr aj;refine lV _ (Z2 isAgg37 sizeOf37 ab) ?_;obtain ⟨bd,a0,hm⟩:=bZ hm;replace ag:=ag.keep (Zi.start col w0);replace aa:=((aa.grow ax).grow ar).grow aj;refine Zk (Zko a0 (ag.ks aa)) ?_;rintro _ a1 ⟨rfl,ad⟩;refine ⟨_,rfl,?_⟩;replace ad:Zh au az au a1:=.of_below ad;refine go ?_;replace ai:=ai.keep (Zi.start col w0);replace ah:=((ah.gr ar).gr aj).gr ad;replace ab:=ab.gr ad;replace ac:=ac.gr ad;replace aa:=aa.grow ad;refine Zo hm (fun hb hm=>go ?_) fun hb hm=>go ?_
 ·refine lV (.agg #[.bool false,.slice none (([]:List Int).length) 0,.slice none (([]:List Int).length) 0]) (Wc (l:=[_,_]) (qs:=[(0,2),(2,1)]) underlying39 zeroValue39 ⟨rfl,sizeOf37,rfl,sizeOf35,trivial⟩ rfl)<|Zz ac ?_;intro be a2 a3 a4;refine go ?_;cases hm;replace aa:=aa.kp a2 a3;exact ⟨rfl,_,Vw a4.atN,_,none,0,none,0,rfl,aa.fin (cm []),Zb.nil,Zb.nil⟩
 refine Xd ah<|Xd ab ?_;refine go ?_;refine Xd ah<|Xd ab ?_;obtain ⟨bf,a5,hm⟩:=bZ hm;refine Zk (Zkl 4 5 a5 (ai.ks aa) (ag.ks aa)) ?_;rintro _ bg ⟨bh,bi,bj,bk,bm,rfl,av,ak,al⟩;refine ⟨_,rfl,?_⟩;replace ac:=ac.gr av;refine Zz ac ?_;intro bn am a6 a7;refine go ?_;cases hm;replace aa:=(aa.grow av).kp am a6;replace ak:=ak.kp am;replace al:=al.kp am;exact ⟨rfl,_,Vw a7.atN,_,_,_,_,_,rfl,aa.fin (cm [(4,c1),(5,c2)]),aa.fo ak,aa.fo al⟩
def Zar (N:Nat) (ad:Int) (ae:Int):Option (R4×Int):=
  (Zgq N ad).bind fun ab=>(Zgq N ae).bind fun ac=>(Zfe N (ab.1,ab.2) (ac.1,ac.2)).bind fun aa=>some (((aa.1.1.1,aa.1.1.2),aa.1.2),aa.2)
theorem Zkk {N:Nat} {col:Ze} {w0:World} {ak al:Int} {r:(R4×Int)} (c1 c2:Nat) (hm:Zar N ak al=some r):
    Calls prog 14 #[.int .i64 ak,.int .i64 al] w0 (fun e w'=>∃ (col':Ze) (ra1:Option Addr) (rc2:Nat) (ra4:Option Addr) (rc5:Nat),e= .returned (.tuple #[(.agg #[.bool r.1.1.1,.slice ra1 r.1.1.2.length rc2,.slice ra4 r.1.2.length rc5]),.int .i64 r.2])∧Zh col w0 col' w'∧Zb (Za.int .u32) 95 c1 col' w' ra1 rc2 r.1.1.2∧Zb (Za.int .u32) 95 c2 col' w' ra4 rc5 r.1.2):=by
 refine Y5 (m:=13) func14 rfl rfl rfl ?_;rw [Zar.eq_1] at hm;have ab:=St.start col w0;refine go ?_;refine Xg (col:=(Zj col)) #[.bool false,.slice none (([]:List Int).length) 0,.slice none (([]:List Int).length) 0] 1 zeroValue39 ?_;intro a4 a5 an ao ag;refine go ?_;obtain ⟨a6,ap,hm⟩:=bZ hm;refine Zk (Zse (col:=an) 2 ap) ?_;rintro _ a7 ⟨aq,a8,a9,rfl,am,ah⟩;refine ⟨_,rfl,?_⟩;refine Xp rfl ?_;obtain ⟨ba,ar,hm⟩:=bZ hm;refine Zk (Zse (col:=aq) 3 ar) ?_;rintro _ au ⟨ae,bb,bc,rfl,ai,av⟩;refine ⟨_,rfl,?_⟩;obtain ⟨af,aw,hm⟩:=bZ hm;replace ah:=ah.gr ai;refine Zk (Zrx 4 5 aw ((ah.toSlF (Zd.int .u32)).froz 3) ((av.froz 2 (by decide)).toSlF (Zd.int .u32))) ?_;rintro _ bd ⟨ax,ay,az,a0,a1,rfl,aa,ac,ad⟩;refine ⟨_,rfl,?_⟩;replace ac:=ac.thaw (Z1 .u32) aa (((Fz.refl (col:=ae)).froz 2).froz 3) (by decide);replace ad:=ad.thaw (Z1 .u32) aa (((Fz.refl (col:=ae)).froz 2).froz 3) (by decide);replace aa:=aa.thawR (col:=ae);generalize Xe au.heap.size ae ax=be at *;refine lV (.agg #[.bool af.1.1.1,.slice ay af.1.1.2.length az,.slice a0 af.1.2.length a1]) (Xk rfl rfl)<|lV (.int .i64 af.2) (Xk rfl rfl) ?_;replace ag:=((ag.gr am).gr ai).gr aa;refine Zz ag ?_;intro bf aj a2 a3;refine go ?_;cases hm;replace ab:=((((ab.grow ao).grow am).grow ai).grow aa).kp aj a2;replace ac:=ac.kp aj;replace ad:=ad.kp aj;exact ⟨rfl,_,Vw a3.atN,_,_,_,_,_,rfl,ab.fin (cm [(4,c1),(5,c2)]),ab.fo ac,ab.fo ad⟩
def Sb (N:Nat) (aa:R4):Option Int:=
  (Zci N (aa.1.1,aa.1.2)).bind fun ab=>some ab
theorem Zhj {N ac ag:Nat} {ad ah:Option Addr} {col:Ze} {w0:World} {aa:R4} {r:Int} (hm:Sb N aa=some r) (ae:Sl (Za.int .u32) col w0 ad ac aa.1.2) (ao:Sl (Za.int .u32) col w0 ah ag aa.2):
    Calls prog 12 #[(.agg #[.bool aa.1.1,.slice ad aa.1.2.length ac,.slice ah aa.2.length ag])] w0 (fun e w'=>e= .returned ((.int .i64 r))∧Below w0.heap.size w0 w'):=by
 refine Xf 2 (m:=6) func12 rfl rfl rfl rfl rfl ?_;rw [Sb.eq_1] at hm;have ab:=St.start col w0;refine go ?_;refine Xl (col:=(Zj col)) 1 rfl ?_;intro ap aj ai ak al;refine go ?_;refine Ya ⟨_,_,rfl⟩ ?_;refine lV (.agg #[.bool aa.1.1,.slice ad aa.1.2.length ac]) (Wj isAgg37 sizeOf37 rfl rfl ((al.atN).part 0 2 _ rfl)) ?_;obtain ⟨aq,am,hm⟩:=bZ hm;replace ae:=ae.keep (Zi.start col w0);replace ab:=ab.grow ak;refine Zk (Zko am (ae.ks ab)) ?_;rintro _ an ⟨rfl,af⟩;refine ⟨_,rfl,?_⟩;replace af:Zh ai aj ai an:=.of_below af;refine go ?_;cases hm;replace ab:=ab.grow af;exact ⟨rfl,rfl,ab.below⟩
def Zc9 (N:Nat) (ab:R4) (aa:R4):Option (R4×Int):=
  (Sb N ((aa.1.1,aa.1.2),aa.2)).bind fun ad=>if (decide (ad=0))=true then (some (((false,([]:List Int)),([]:List Int)),11)) else ((Ta N ((aa.1.1,aa.1.2),aa.2)).bind fun ae=>(To N ab.1.2 ae).bind fun af=>(Ta N ((ab.1.1,ab.1.2),ab.2)).bind fun ag=>(To N ag aa.1.2).bind fun ah=>(Zbw N (!decide (ab.1.1=aa.1.1)) af ah).bind fun ac=>some (((ac.1.1,ac.1.2),ac.2),0))
theorem Zrw {N a6 a7 a8 a9:Nat} {ba bb bc bd:Option Addr} {col:Ze} {w0:World} {aj ak:R4} {r:(R4×Int)} (c1 c2:Nat) (hm:Zc9 N aj ak=some r) (av:Sl (Za.int .u32) col w0 ba a6 aj.1.2) (az:Sl (Za.int .u32) col w0 bb a7 aj.2) (ao:Sl (Za.int .u32) col w0 bc a8 ak.1.2) (aw:Sl (Za.int .u32) col w0 bd a9 ak.2):
    Calls prog 112 #[(.agg #[.bool aj.1.1,.slice ba aj.1.2.length a6,.slice bb aj.2.length a7]),(.agg #[.bool ak.1.1,.slice bc ak.1.2.length a8,.slice bd ak.2.length a9])] w0 (fun e w'=>∃ (col':Ze) (ra1:Option Addr) (rc2:Nat) (ra4:Option Addr) (rc5:Nat),e= .returned (.tuple #[(.agg #[.bool r.1.1.1,.slice ra1 r.1.1.2.length rc2,.slice ra4 r.1.2.length rc5]),.int .i64 r.2])∧Zh col w0 col' w'∧Zb (Za.int .u32) 95 c1 col' w' ra1 rc2 r.1.1.2∧Zb (Za.int .u32) 95 c2 col' w' ra4 rc5 r.1.2):=by
 refine Y5 (m:=30) func112 rfl rfl rfl ?_;rw [Zc9.eq_1] at hm;have aa:=St.start col w0;refine go ?_;refine Xl (col:=(Zj col)) 1 rfl ?_;intro b3 b4 bg bh ap;refine Xl (col:=bg) 2 rfl ?_;intro b5 b6 bi be ae;refine Xg (col:=bi) #[.bool false,.slice none (([]:List Int).length) 0,.slice none (([]:List Int).length) 0] 3 zeroValue39 ?_;intro b7 bj ac a0 ab;refine go ?_;replace ae:=ae.gr a0;refine lV _ (Z2 isAgg39 sizeOf39 ae) ?_;obtain ⟨b8,bk,hm⟩:=bZ hm;replace ao:=ao.keep (Zi.start col w0);replace aw:=aw.keep (Zi.start col w0);replace aa:=((aa.grow bh).grow be).grow a0;refine Zk (Zhj bk (ao.ks aa) (aw.ks aa)) ?_;rintro _ bm ⟨rfl,al⟩;refine ⟨_,rfl,?_⟩;replace al:Zh ac bj ac bm:=.of_below al;refine go ?_;replace av:=av.keep (Zi.start col w0);replace az:=az.keep (Zi.start col w0);replace ap:=((ap.gr be).gr a0).gr al;replace ae:=ae.gr al;replace ab:=ab.gr al;replace aa:=aa.grow al;refine Zo hm (fun hb hm=>go ?_) fun hb hm=>go ?_
 ·refine lV (.agg #[.bool false,.slice none (([]:List Int).length) 0,.slice none (([]:List Int).length) 0]) (Wc (l:=[_,_]) (qs:=[(0,2),(2,1)]) underlying39 zeroValue39 ⟨rfl,sizeOf37,rfl,sizeOf35,trivial⟩ rfl)<|Zz ab ?_;intro b9 bn bo bp;refine go ?_;cases hm;replace aa:=aa.kp bn bo;exact ⟨rfl,_,Vw bp.atN,_,none,0,none,0,rfl,aa.fin (cm []),Zb.nil,Zb.nil⟩
 refine Wh (col:=ac) [(0,1),(1,1),(2,0),(3,1),(4,1),(5,0),(6,1),(7,1),(8,1),(9,0),(10,0),(13,0),(15,1),(16,1),(17,0),(11,3),(12,3),(14,3),(18,3),(19,3),(20,2),(21,1)] (by kernel_rfl) (by kernel_rfl)<|xF ⟨_,_,rfl⟩ ?_;refine xF (Zad ⟨_,_,rfl⟩) ?_;refine xW (fun _ hC=>((((ap.atN).part 0 2 _ rfl)).nth (q:=0) rfl).gr (hC.bl ac)) ?_;refine xF ⟨_,_,rfl⟩ ?_;refine xF (Zad ⟨_,_,rfl⟩) ?_;refine xW (fun _ hC=>((((ae.atN).part 0 2 _ rfl)).nth (q:=0) rfl).gr (hC.bl ac)) ?_;refine xu rfl rfl (fun _=>Zgy _ _ underlying4 rfl rfl) ?_;refine xF ⟨_,_,rfl⟩ ?_;refine xF (Zad ⟨_,_,rfl⟩) ?_;refine xW (fun _ hC=>((((ap.atN).part 0 2 _ rfl)).nth (q:=1) rfl).gr (hC.bl ac)) ?_;refine xv rfl rfl (fun _ hC=>Z2 isAgg39 sizeOf39 (ae.gr (hC.bl ac))) ?_;refine xv rfl rfl (fun _ hC=>Z2 isAgg39 sizeOf39 (ap.gr (hC.bl ac))) ?_;refine xF ⟨_,_,rfl⟩ ?_;refine xF (Zad ⟨_,_,rfl⟩) ?_;refine xW (fun _ hC=>((((ae.atN).part 0 2 _ rfl)).nth (q:=1) rfl).gr (hC.bl ac)) ?_;refine xe rfl rfl ?_;intro ca hC0;have hC:=hC0.bl ac;obtain ⟨cb,bq,hm⟩:=bZ hm;replace aa:=aa.grow hC;refine Zk (Qo 4 bq (ao.ks aa) (aw.ks aa)) ?_;rintro _ cc ⟨aq,cd,ce,rfl,a1,a2⟩;refine ⟨_,rfl,?_⟩;refine Zl<|Xo aq hC0 a1<|xe rfl rfl ?_;intro br hC0;replace ab:=(ab.gr hC).gr a1;have hC:=hC0.bl aq;obtain ⟨cf,bs,hm⟩:=bZ hm;replace aa:=(aa.grow a1).grow hC;replace a2:=a2.gr hC;refine Zk (Zbf 5 bs ((av.ks aa).froz 4) (a2.toSlF (Zd.int .u32))) ?_;rintro _ cg ⟨bt,ch,ci,rfl,am,ad⟩;refine ⟨_,rfl,?_⟩;replace ad:=ad.thaw (Z1 .u32) am ((Fz.refl (col:=aq)).froz 4) (by decide);replace am:=am.thawR (col:=aq);generalize Xe br.heap.size aq bt=bf at *;refine Zl<|Xo bf hC0 am<|xe rfl rfl ?_;intro cj hC0;replace ab:=(ab.gr hC).gr am;have hC:=hC0.bl bf;obtain ⟨ck,bu,hm⟩:=bZ hm;replace aa:=(aa.grow am).grow hC;refine Zk (Qo 6 bu (av.ks aa) (az.ks aa)) ?_;rintro _ cl ⟨ar,cn,co,rfl,ax,a3⟩;refine ⟨_,rfl,?_⟩;refine Zl<|Xo ar hC0 ax<|xe rfl rfl ?_;intro bv hC0;replace ad:=(ad.gr hC).gr ax;replace ab:=(ab.gr hC).gr ax;have hC:=hC0.bl ar;obtain ⟨cp,bw,hm⟩:=bZ hm;replace aa:=(aa.grow ax).grow hC;replace a3:=a3.gr hC;refine Zk (Zbf 7 bw (a3.toSlF (Zd.int .u32)) ((ao.ks aa).froz 6)) ?_
 rintro _ cq ⟨bx,cr,cs,rfl,af,au⟩;refine ⟨_,rfl,?_⟩;replace au:=au.thaw (Z1 .u32) af ((Fz.refl (col:=ar)).froz 6) (by decide);replace af:=af.thawR (col:=ar);generalize Xe bv.heap.size ar bx=an at *;refine Zl<|Xo an hC0 af<|xe rfl rfl ?_;intro bz hC0;replace ad:=(ad.gr hC).gr af;replace ab:=(ab.gr hC).gr af;have hC:=hC0.bl an;obtain ⟨ct,b0,hm⟩:=bZ hm;replace ad:=ad.gr hC;replace au:=au.gr hC;refine Zk (Zkl 8 9 b0 ((ad.toSlF (Zd.int .u32)).froz 7) ((au.froz 5 (by decide)).toSlF (Zd.int .u32))) ?_;rintro _ cu ⟨b1,cv,cw,cx,cy,rfl,ag,ah,ai⟩;refine ⟨_,rfl,?_⟩;replace ah:=ah.thaw (Z1 .u32) ag (((Fz.refl (col:=an)).froz 5).froz 7) (by decide);replace ai:=ai.thaw (Z1 .u32) ag (((Fz.refl (col:=an)).froz 5).froz 7) (by decide);replace ag:=ag.thawR (col:=an);generalize Xe bz.heap.size an b1=ay at *;refine Zl<|Xo ay hC0 ag<|xe rfl rfl ?_;intro cz hC0;replace aa:=((aa.grow af).grow hC).grow ag;replace ab:=(ab.gr hC).gr ag;have hC:=hC0.bl ay;replace ab:=ab.gr hC;refine Zz ab ?_;intro c0 a4 b2 a5;refine Zl<|xk ay<|xu rfl rfl (fun _=>Zqj rfl) ?_;refine Y2 ?_;replace ah:=(ah.gr hC).kp a4;replace ai:=(ai.gr hC).kp a4;replace aa:=(aa.grow hC).kp a4 b2;intro c3 hC;replace hC:=hC.bl ay;refine Vc ?_;cases hm;replace ah:=ah.gr hC;replace ai:=ai.gr hC;replace a5:=a5.gr hC;replace aa:=aa.grow hC;exact ⟨rfl,_,Vw a5.atN,_,_,_,_,_,rfl,aa.fin (cm [(8,c1),(9,c2)]),aa.fo ah,aa.fo ai⟩
theorem Zen {N k:Nat} {neg:Bool} {m:List Int} (hm:Zn m) (hk:m.length≤k) (hr:Xh N k):Qd N neg m=some (Ye (Zy (neg,m))):=by
 obtain ⟨r1,r2⟩:=hr
 rw [Qd,Zp2 hm (by omega) (by omega),oB,Zjk]
 have e:decide (0<((Zg (Zc m)).length:Int))=decide (Zc m≠0):=by
  by_cases h:Zc m=0
  ·rw [h,W0];decide
  ·have:=S1 h
   rw [decide_eq_true (by omega),decide_eq_true h]
 cases neg
 ·rw [if_neg (by decide),Zgr,Bool.false_and]
 ·rw [if_pos rfl,Zgr,e,Bool.true_and]
theorem Z6v {N k:Nat} {a:ZV} (hm:Zn a.2) (hk:a.2.length≤k) (hr:Xh N k):Zjg N a=some (Ye (Zy a)):=by
 rw [Zjg,Zen hm hk hr];rfl
theorem Znk {N k:Nat} {a:ZV} (hm:Zn a.2) (hk:a.2.length≤k) (hr:Xh N k):Zci N a=some (Zy a).sign:=by
 obtain ⟨r1,r2⟩:=hr
 rw [Zci,Zz5 hm (by omega) (by omega),oB,Zy]
 by_cases h:Zc a.2=0
 ·rw [h,Zer,if_pos (by decide)];simp
 ·have h1:Xb (Zc a.2)≠0:=by rw [Xb,if_neg h];omega
  rw [if_neg (dF (by omega))]
  by_cases h2:a.1=true
  ·rw [if_pos h2,if_pos h2,Int.sign_eq_neg_one_of_neg (by omega)]
  ·rw [if_neg h2,if_neg h2,Int.sign_eq_one_of_pos (by omega)]
theorem Zrf {a b:ZV}:(a.1=b.1→Zy (a.1,Zg (Zc a.2+Zc b.2))=Zy a+Zy b)∧(a.1≠b.1→(Zc b.2≤Zc a.2→Zy (a.1,Zg (Zc a.2 - Zc b.2))=Zy a+Zy b)∧(Zc a.2<Zc b.2→Zy (b.1,Zg (Zc b.2 - Zc a.2))=Zy a+Zy b)):=by
 obtain ⟨s,x⟩:=a
 obtain ⟨t,y⟩:=b
 simp only [Zy,Z8]
 cases s <;> cases t <;> simp <;> (try constructor) <;> intros <;> omega
theorem Z6p {N k l:Nat} {a b:ZV} (ha:Zn a.2) (hb:Zn b.2) (hk:a.2.length≤k) (hl:b.2.length≤l) (hr:Xh N (k+l+1)):Zjd N a b=some (Ye (Zy a+Zy b)):=by
 have hr':=hr
 obtain ⟨r1,r2⟩:=hr'
 have la:=Yx ha
 have lb:=Yx hb
 have lsum:(Zg (Zc a.2+Zc b.2)).length≤k+l+1:=Zor (by omega) (by omega)
 have ls1:(Zg (Zc a.2 - Zc b.2)).length≤k+l+1:=by have:=Vu (Nat.sub_le (Zc a.2) (Zc b.2));omega
 have ls2:(Zg (Zc b.2 - Zc a.2)).length≤k+l+1:=by have:=Vu (Nat.sub_le (Zc b.2) (Zc a.2));omega
 rw [Zjd]
 by_cases h:a.1=b.1
 ·rw [if_pos (dT h),Zzz ha hb (by omega) (by omega) (by omega) (by omega),oB,Zen (Xa _) lsum hr,oB,Zrf.1 h]
 ·rw [if_neg (dF h),Zyl ha hb (by omega) (by omega) (by omega) (by omega),oB]
  by_cases hlt:Zc a.2<Zc b.2
  ·rw [if_pos hlt,if_neg (by decide),Zyl hb ha (by omega) (by omega) (by omega) (by omega),oB,if_neg (by omega),Zen (Xa _) ls2 hr,oB,(Zrf.2 h).2 hlt]
  ·rw [if_neg hlt,if_pos rfl,Zen (Xa _) ls1 hr,oB,(Zrf.2 h).1 (by omega)]
theorem Zzw (a b:ZV):Zy (!decide (a.1=b.1),Zg (Zc a.2 * Zc b.2))=Zy a * Zy b:=by
 obtain ⟨s,x⟩:=a
 obtain ⟨t,y⟩:=b
 simp only [Zy,Z8]
 cases s <;> cases t <;> simp [Int.natCast_mul,Int.neg_mul,Int.mul_neg]
theorem Z6u {N k l:Nat} {a b:ZV} (ha:Zn a.2) (hb:Zn b.2) (hk:a.2.length≤k) (hl:b.2.length≤l) (hr:Xh N (k+l)):Zjf N a b=some (Ye (Zy a * Zy b)):=by
 have hr':=hr
 obtain ⟨r1,r2⟩:=hr'
 have la:=Yx ha
 have lb:=Yx hb
 have:=S0 (Zc a.2) (Zc b.2)
 rw [Zjf,Zji ha hb (by omega) (by omega),oB,Zen (k:=k+l) (Xa _) (by omega) hr,oB,Zzw]
theorem Z6z (a b:ZV):(if (Zy a).sign<(Zy b).sign then -1 else if (Zy b).sign<(Zy a).sign then 1 else (Zy a).sign * (if Zc a.2<Zc b.2 then -1 else if Zc b.2<Zc a.2 then 1 else 0))=Zcu (Zy a) (Zy b):=by
 obtain ⟨s,x⟩:=a
 obtain ⟨t,y⟩:=b
 have key:∀ z:Int,z.sign=if z<0 then -1 else if 0<z then 1 else 0:=fun z=>(Zrg z).symm
 rw [key,key]
 unfold Zcu
 simp only [Zy]
 generalize Zc x=X
 generalize Zc y=Y
 cases s <;> cases t <;> simp only [if_true,Bool.false_eq_true,if_false] <;> (repeat' split) <;> omega
theorem Z6r {N k l:Nat} {a b:ZV} (ha:Zn a.2) (hb:Zn b.2) (hk:a.2.length≤k) (hl:b.2.length≤l) (hr:Xh N (k+l)):Zje N a b=some (Zcu (Zy a) (Zy b)):=by
 have hr':=hr
 obtain ⟨r1,r2⟩:=hr'
 have sa:-1≤(Zy a).sign∧(Zy a).sign≤1:=by rw [← Zrg];unfold Zcu;(repeat' split) <;> omega
 rw [Zje,Znk ha hk (hr.mono (by omega)),oB,Znk hb hl (hr.mono (by omega)),oB,← Z6z a b]
 by_cases h1:(Zy a).sign<(Zy b).sign
 ·rw [if_pos (dT h1),if_pos h1]
 ·rw [if_neg (dF h1),if_neg h1]
  by_cases h2:(Zy b).sign<(Zy a).sign
  ·rw [if_pos (dT h2),if_pos h2]
  ·rw [if_neg (dF h2),if_neg h2,Zob ha hb (by omega) (by omega) (by omega) (by omega),oB]
   congr 1
   refine Z0 ?_
   have:(Zy a).sign= -1∨(Zy a).sign=0∨(Zy a).sign=1:=by omega
   rcases this with h | h | h <;> rw [h] <;> (repeat' split) <;> decide
theorem Zzq {N:Nat} {z:Int} (h:-9223372036854775808≤z∧z≤9223372036854775807) (hr:Xh N 2):Zgq N z=some (Ye z):=by
 have hr':=hr
 obtain ⟨r1,r2⟩:=hr'
 have l2:∀ n:Nat,n<18446744073709551616→(Zg n).length≤2:=fun n hn=>Wq.2 (by simpa using hn)
 rw [Zgq]
 by_cases hz:z<0
 ·have e:u64.wrap (-u64.wrap z)= -z:=by rw [IntKind.wrap_u64,IntKind.wrap_u64];omega
  rw [if_pos (dT hz),e,Zjl (by omega) (by omega),oB,Zen (Xa _) (l2 _ (by omega)) hr,oB]
  have e2:Zy (true,Zg (-z).toNat)=z:=by simp only [Zy,Z8,if_true];omega
  rw [e2]
 ·rw [if_neg (dF hz),Xj (by omega),Zjl (by omega) (by omega),oB,Zen (Xa _) (l2 _ (by omega)) hr,oB]
  have e2:Zy (false,Zg z.toNat)=z:=by simp only [Zy,Z8];simp;omega
  rw [e2]
theorem Zcs {N k:Nat} {a:QV} (ha:RV k a) (hr:Xh N k):Ta N a=some (Zg (Wa a.2)):=by
 obtain ⟨r1,r2⟩:=hr
 have:=ha.ld
 rw [Ta,Zp2 ha.d (by omega) (by omega),oB,Wa]
 by_cases h:Zc a.2=0
 ·rw [h,W0,if_neg (by decide),if_pos rfl,Zjl (by decide) (by omega)];rfl
 ·have:=S1 h
  rw [if_pos (dT (by omega)),if_neg h]
theorem Zbp {k:Nat} {a:QV} (ha:RV k a):(Zg (Wa a.2)).length≤k+1:=by
 have h1:=Yx ha.d
 have h2:=ha.ld
 rw [Wa]
 split
 ·rw [Zam];simp
 ·omega
theorem Zmu {N k l n:Nat} {a:ZV} (ha:Zn a.2) (hk:a.2.length≤k) (hl:(Zg n).length≤l) (hr:Xh N (k+l)):Zbx N a (Zg n)=some (Ye (Zy a * n)):=by
 rw [Zbx,Z6u (a:=(a.1,a.2)) (b:=(false,Zg n)) ha (Xa _) hk hl hr,oB]
 have e:Zy (false,Zg n)=n:=by simp [Zy,Z8]
 rw [e]
theorem Zk5 {N k l:Nat} {neg:Bool} {num den:List Int} (hn:Zn num) (hd:Zn den) (h0:Zc den≠0) (hk:num.length≤k) (hl:den.length≤l) (hr:Xh N (k+l)):
  Zbw N neg num den=some (Zw (mkRat (Zy (neg,num)) (Zc den))):=by
 have hr':=hr
 obtain ⟨r1,r2⟩:=hr'
 have l1:=Yx hn
 have l2:=Yx hd
 have hg:Nat.gcd (Zc num) (Zc den)≠0:=fun h=>h0 (Nat.gcd_eq_zero_iff.1 h).2
 have lg:(Zg (Nat.gcd (Zc num) (Zc den))).length≤den.length:=Nat.le_trans (Vu (Nat.gcd_le_right _ (by omega))) l2
 have lq:=Vu (Nat.div_le_self (Zc num) (Nat.gcd (Zc num) (Zc den)))
 rw [Zbw,Z3k hn hd (by omega) (by omega),oB,Zkr hn (Xa _) (by omega) (by omega),oB,Zkr hd (Xa _) (by omega) (by omega),oB,Z8,if_neg hg,if_neg hg,
  Z6v (k:=k) (a:=(neg,Zg (Zc num / Nat.gcd (Zc num) (Zc den)))) (Xa _) (by simp only;omega) (hr.mono (by omega)),oB,Zvu h0,Zjk,Z8]
theorem Zky {N k:Nat} {a:QV} (ha:RV k a) (hr:Xh N k):Sb N a=some (Zaa (Zv a)):=by
 rw [Sb,Znk (a:=(a.1.1,a.1.2)) ha.m ha.lm hr,oB,Z5e]
theorem Zos (z:Int):(Ye z).2=Zg z.natAbs:=rfl
theorem Zk3 {k l n:Nat} {a:ZV} (ha:Zn a.2) (hk:a.2.length≤k) (hl:(Zg n).length≤l):(Ye (Zy a * n)).2.length≤k+l:=by
 rw [Zos,Int.natAbs_mul,Int.natAbs_natCast,Zg8]
 have h1:=S0 (Zc a.2) n
 have h2:=Yx ha
 omega
theorem Zog {N k l:Nat} {a b:QV} (ha:RV k a) (hb:RV l b) (hr:Xh N (2 * (k+l+2))):S5 N a b=some (Ux (Zv a) (Zv b)):=by
 have da:=Zbp ha
 have db:=Zbp hb
 have o1:=Zk3 (n:=Wa b.2) ha.m ha.lm db
 have o2:=Zk3 (n:=Wa a.2) hb.m hb.lm da
 rw [S5,Zcs hb (hr.mono (by omega)),oB,Zmu (k:=k) (l:=l+1) ha.m ha.lm db (hr.mono (by omega)),oB,Zcs ha (hr.mono (by omega)),oB,Zmu (k:=l) (l:=k+1) hb.m hb.lm da (hr.mono (by omega)),oB,
  Z6r (a:=Ye _) (b:=Ye _) (Qs _) (Qs _) o1 o2 (hr.mono (by omega)),oB,Qj,Qj,Zv,Zv,Zww (Zaj _) (Zaj _)]
theorem Zsv {N k l:Nat} {a b:QV} (ha:RV k a) (hb:RV l b) (hr:Xh N (k+l+2)):To N (Zg (Wa a.2)) (Zg (Wa b.2))=some (Zg (Wa a.2 * Wa b.2))∧(Zg (Wa a.2 * Wa b.2)).length≤k+l+2∧Wa a.2 * Wa b.2≠0:=by
 have da:=Zbp ha
 have db:=Zbp hb
 have hr':=hr
 obtain ⟨r1,r2⟩:=hr'
 have:=S0 (Wa a.2) (Wa b.2)
 refine ⟨by rw [Zji (Xa _) (Xa _) (by omega) (by omega),Z8,Z8],by omega,Nat.mul_ne_zero (Zaj _) (Zaj _)⟩
theorem Z6j {x y:Int} {k:Nat} (hx:(Ye x).2.length≤k) (hy:(Ye y).2.length≤k):(Ye (x+y)).2.length≤k+1:=by
 rw [Zos] at *
 exact Nat.le_trans (Vu (Int.natAbs_add_le _ _)) (Zor hx hy)
theorem Z4w (z:Int):((Ye z).1,(Ye z).2)=Ye z:=rfl
theorem Zof {N k l:Nat} {a b:QV} (ha:RV k a) (hb:RV l b) (hr:Xh N (2 * (k+l+3))):S4 N a b=some (Zw (Zv a+Zv b)):=by
 have da:=Zbp ha
 have db:=Zbp hb
 have o1:=Zk3 (n:=Wa b.2) ha.m ha.lm db
 have o2:=Zk3 (n:=Wa a.2) hb.m hb.lm da
 obtain ⟨m1,m2,m3⟩:=Zsv ha hb (hr.mono (by omega))
 have sl:=Z6j (k:=k+l+1) (by omega) (Nat.le_trans o2 (by omega))
 rw [S4,Zcs hb (hr.mono (by omega)),oB,Zmu (k:=k) (l:=l+1) ha.m ha.lm db (hr.mono (by omega)),oB,Zcs ha (hr.mono (by omega)),oB,Zmu (k:=l) (l:=k+1) hb.m hb.lm da (hr.mono (by omega)),oB,
  Z6p (a:=Ye _) (b:=Ye _) (Qs _) (Qs _) o1 o2 (hr.mono (by omega)),oB,Qj,Qj,oB,oB,m1,oB,
  Zk5 (Qs _) (Xa _) (by rw [Z8];exact m3) sl m2 (hr.mono (by omega)),oB,Z4w,Qj,Z8,Zv,Zv,Rat.mkRat_add_mkRat _ _ (Zaj _) (Zaj _)]
theorem Ztt {N k l:Nat} {a b:QV} (ha:RV k a) (hb:RV l b) (hr:Xh N (2 * (k+l+3))):Q2 N a b=some (Zw (Zv a * Zv b)):=by
 have hr':=hr
 obtain ⟨r1,r2⟩:=hr'
 have h1:=ha.lm
 have h2:=hb.lm
 have la:=Yx ha.m
 have lb:=Yx hb.m
 have lm:=S0 (Zc a.1.2) (Zc b.1.2)
 obtain ⟨m1,m2,m3⟩:=Zsv ha hb (hr.mono (by omega))
 rw [Q2,Zji ha.m hb.m (by omega) (by omega),oB,Zcs ha (hr.mono (by omega)),oB,Zcs hb (hr.mono (by omega)),oB,m1,oB,
  Zk5 (k:=k+l) (Xa _) (Xa _) (by rw [Z8];exact m3) (by omega) m2 (hr.mono (by omega)),oB,Zzw,Z8,Zv,Zv,Rat.mkRat_mul_mkRat]
theorem Zpv (n₁:Int) (d₁:Nat) (b:ZV) (d₂:Nat) (s:Bool) (x:List Int) (h:n₁=Zy (s,x)) (hb:Zc b.2≠0):mkRat n₁ d₁ / mkRat (Zy b) d₂=mkRat (Zy (!decide (s=b.1),Zg (Zc x * d₂))) (d₁ * Zc b.2):=by
 have e1:mkRat (Zy b) d₂=(Zy b:Rat) / (d₂:Rat):=Rat.mkRat_eq_div _ _
 have hz:(Zy b:Rat)=(if b.1=true then -1 else 1) * (Zc b.2:Rat):=by
  rw [Zy];split
  ·rw [Rat.intCast_neg,Rat.neg_mul,Rat.one_mul];rfl
  ·rw [Rat.one_mul];rfl
 have hn:(Zy (!decide (s=b.1),Zg (Zc x * d₂)):Rat)=(if b.1=true then -1 else 1) * (n₁:Rat) * (d₂:Rat):=by
  subst h
  have:Zy (!decide (s=b.1),Zg (Zc x * d₂))=(if b.1=true then -1 else 1) * Zy (s,x) * (d₂:Int):=by
   obtain ⟨t,y⟩:=b
   simp only [Zy,Z8]
   cases s <;> cases t <;> simp [Int.natCast_mul,Int.neg_mul]
  rw [this,Rat.intCast_mul,Rat.intCast_mul]
  congr 2
  split <;> rfl
 have hbr:(Zc b.2:Rat)≠0:=fun h=>hb (Rat.natCast_eq_zero_iff.1 h)
 rw [Rat.mkRat_eq_div,e1,Rat.mkRat_eq_div,hn,hz,Rat.natCast_mul]
 have hs:(if b.1=true then (-1:Rat) else 1) * (if b.1=true then (-1:Rat) else 1)=1:=by split <;> grind
 generalize (if b.1=true then (-1:Rat) else 1)=sg at *
 generalize (n₁:Rat)=p
 generalize (d₁:Rat)=q
 generalize (d₂:Rat)=r
 generalize (Zc b.2:Rat)=m at *
 have hsg:sg≠0:=fun h=>by rw [h] at hs;grind
 have hinv:sg⁻¹=sg:=Rat.inv_eq_of_mul_eq_one hs
 simp only [Rat.div_def,Rat.inv_mul_rev,Rat.inv_inv,hinv]
 grind
theorem Z3a {N k l:Nat} {a b:QV} (ha:RV k a) (hb:RV l b) (hr:Xh N (2 * (k+l+3))):Zc9 N a b=some (if Zv b=0 then (((false,[]),[]),11) else (Zw (Zv a / Zv b),0)):=by
 have hr':=hr
 obtain ⟨r1,r2⟩:=hr'
 have h1:=ha.lm
 have h2:=hb.lm
 have la:=Yx ha.m
 have lb:=Yx hb.m
 have da:=Zbp ha
 have db:=Zbp hb
 rw [Zc9,Zky hb (hr.mono (by omega)),oB]
 by_cases h0:Zv b=0
 ·rw [if_pos h0,h0,if_pos (by decide)]
 ·have hb0:Zc b.1.2≠0:=fun h=>h0 ((Z5g b).2 h)
  have lm1:=S0 (Zc a.1.2) (Wa b.2)
  have lm2:=S0 (Wa a.2) (Zc b.1.2)
  have e:=Zpv (Zy a.1) (Wa a.2) b.1 (Wa b.2) a.1.1 a.1.2 rfl hb0
  rw [if_neg (dF (fun h=>h0 (Zqi.1 h))),if_neg h0,Zcs hb (hr.mono (by omega)),oB,Zji ha.m (Xa _) (by omega) (by omega),oB,Zcs ha (hr.mono (by omega)),oB,Zji (Xa _) hb.m (by omega) (by omega),oB,Z8,Z8,
   Zk5 (k:=k+l+1) (l:=k+l+1) (Xa _) (Xa _) (by rw [Z8];exact Nat.mul_ne_zero (Zaj _) hb0) (by omega) (by omega) (hr.mono (by omega)),oB,Z8,← e]
  rfl
theorem Z3h {N k l:Nat} {a b:ZV} (ha:Zn a.2) (hb:Zn b.2) (hk:a.2.length≤k) (hl:b.2.length≤l) (hr:Xh N (k+l)):Zfe N a b=some (if Zy b=0 then (((false,[]),[]),11) else (Zw ((Zy a:Rat) / (Zy b:Rat)),0)):=by
 rw [Zfe,Znk (a:=(b.1,b.2)) hb hl (hr.mono (by omega)),oB]
 by_cases h0:Zy b=0
 ·rw [if_pos h0,h0,if_pos (by decide)]
 ·have hb0:Zc b.2≠0:=fun h=>h0 (by have:=Zg8 b;omega)
  have e:=Zpv (Zy a) 1 b 1 a.1 a.2 rfl hb0
  have hs:¬ (Zy b).sign=0:=fun h=>h0 (Int.sign_eq_zero_iff_zero.1 h)
  rw [if_neg (dF hs),if_neg h0,Zk5 ha hb hb0 hk hl hr,oB]
  rw [Rat.mkRat_eq_div,Rat.mkRat_eq_div] at e
  have e1:(Zy a:Rat) / ((1:Nat):Rat) / ((Zy b:Rat) / ((1:Nat):Rat))=(Zy a:Rat) / (Zy b:Rat):=by
   have h1:((1:Nat):Rat)=1:=rfl
   have h2:(1:Rat)⁻¹=1:=Rat.inv_eq_of_mul_eq_one (by grind)
   simp only [h1,Rat.div_def,h2,Rat.mul_one]
  rw [e1,Nat.one_mul,Nat.mul_one] at e
  rw [e]
  have e2:Zy (!decide (a.1=b.1),Zg (Zc a.2))=Zy (!decide (a.1=b.1),a.2):=by simp only [Zy,Z8]
  rw [e2]
theorem Zkw {N:Nat} {a b:Int} (h:-9223372036854775808≤a∧a≤9223372036854775807) (g:-9223372036854775808≤b∧b≤9223372036854775807) (hr:Xh N 4):Zar N a b=some (if b=0 then (((false,[]),[]),11) else (Zw ((a:Rat) / (b:Rat)),0)):=by
 have l2:∀ z:Int,-9223372036854775808≤z∧z≤9223372036854775807→(Ye z).2.length≤2:=fun z hz=>Wq.2 (by simp;omega)
 rw [Zar,Zzq h (hr.mono (by omega)),oB,Zzq g (hr.mono (by omega)),oB,Z3h (a:=Ye a) (b:=Ye b) (Qs _) (Qs _) (l2 _ h) (l2 _ g) hr,oB,Qj,Qj]
def Yu (l:List QV):Rat:=(l.map Zv).sum
def Xn:List QV→Nat
 | []=>0
 | a :: l=>max a.1.2.length a.2.length+2+Xn l
theorem Zg2 {a:QV} (hm:Zn a.1.2) (hd:Zn a.2):RV (max a.1.2.length a.2.length) a:=⟨hm,hd,Nat.le_max_left _ _,Nat.le_max_right _ _⟩
def Vk (a:QV):Prop:=Zn a.1.2∧Zn a.2
theorem Zw1 {a:QV} (h:Vk a):qs (Zv a)≤max a.1.2.length a.2.length+1:=by
 have:=Zej (Zg2 h.1 h.2)
 omega
theorem Ztw {N:Nat}:∀ (l:List QV) (q:Rat),(∀ a ∈ l,Vk a)→Xh N (4 * (qs q+Xn l+3))→Zbv N l (Zw q).1.1 (Zw q).1.2 (Zw q).2=some (Zw (q+Yu l))∧qs (q+Yu l)≤qs q+Xn l
 | [],q,_,_=>by
  rw [Zbv.eq_1,Yu]
  simp only [List.map_nil,List.sum_nil,Rat.add_zero,Xn]
  exact ⟨trivial,by omega⟩
 | a :: l,q,hl,hr=>by
  have ha:=hl a List.mem_cons_self
  have hs:=Zw1 ha
  rw [Xn] at hr ⊢
  rw [Zbv.eq_2,Zof (k:=qs q) (l:=max a.1.2.length a.2.length) (Zm8 q) (Zg2 ha.1 ha.2) (hr.mono (by omega)),oB]
  have e:Zv ((((Zw q).1.1,(Zw q).1.2),(Zw q).2):QV)=q:=V3 q
  have e2:Zv (((a.1.1,a.1.2),a.2):QV)=Zv a:=rfl
  have h1:=Zw0 q (Zv a)
  obtain ⟨h2,h3⟩:=Ztw l (q+Zv a) (fun x hx=>hl x (List.mem_cons_of_mem _ hx)) (hr.mono (by omega))
  rw [e,e2,h2]
  have e3:q+Zv a+Yu l=q+Yu (a :: l):=by rw [Yu,Yu,List.map_cons,List.sum_cons,Rat.add_assoc]
  rw [e3] at h3 ⊢
  exact ⟨rfl,by omega⟩
theorem Ztx {N:Nat} {l:List QV} (hl:∀ a ∈ l,Vk a) (hr:Xh N (4 * (Xn l+4))):Zda N l=some (Zw (Yu l))∧qs (Yu l)≤Xn l+1:=by
 have hr':=hr
 obtain ⟨r1,r2⟩:=hr'
 obtain ⟨h1,h2⟩:=Ztw (N:=N) l 0 hl (hr.mono (by rw [Zm0];omega))
 rw [Rat.zero_add] at h1 h2
 rw [Zm0] at h2
 have e:Zw 0=((false,[]),[1]):=by
  rw [Zw,Ye]
  simp only [Rat.zero_num,Rat.zero_den,Int.natAbs_zero,W0,Zam]
  rfl
 rw [e] at h1
 refine ⟨?_,by omega⟩
 rw [Zda,Zjl (by decide) (by omega),oB,← h1]
 rw [show (1:Int).toNat=1 from rfl,Zam]
def Zbr (kk_L2:(Option Int)):List Int→(List Rf)→Option Int
  | [],aa=>kk_L2
  | ab :: ac,aa=>if (decide (0<((Wi aa ab).getD 0)))=true then (some 40) else ((some (Sh aa ab 1)).bind fun ad=>(Zbr kk_L2 ac) ad)
termination_by structural x=>x
def Qv:List R5→Option Int
  | []=>some 0
  | aa :: ab=>Zbr (Qv ab) aa ([]:List Rf)
termination_by structural x=>x
def Ze6 (kk_L4:(Option Int)) (aa:Bool):Option Int:=
  if aa=true then (some 3) else kk_L4
def Qw (aa:R9) (kk_L1:(Option Int)):List Int→Option Int
  | []=>kk_L1
  | ab :: ac=>if (decide (ab<0))=true then (Ze6 (Qw aa kk_L1 ac) true) else (Ze6 (Qw aa kk_L1 ac) (decide ((aa.length:Int)≤ab)))
termination_by structural x=>x
def Qu (aa:R9):List R5→Option Int
  | []=>Qv aa
  | ab :: ac=>Qw aa (Qu aa ac) ab
termination_by structural x=>x
def Ze5 (aa:R9):Option Int:=
  Qu aa aa
theorem Z0a {a6:Nat} {a0:Option Addr} {col:Ze} {w0:World} {ab:R9} {r:Int} (hm:Ze5 ab=some r) (h0:Sl (Za.slice (Za.int .i64)) col w0 a0 a6 ab):
    Calls prog 155 #[.slice a0 ab.length a6] w0 (fun e w'=>e= .returned ((.int .i64 r))∧Below w0.heap.size w0 w'):=by
 refine Xf 2 (m:=57) func155 rfl rfl rfl rfl rfl ?_;rw [Ze5.eq_1] at hm;have aa:=St.start col w0;refine go ?_;refine Zu [0,12,13,1000000] (fun n f a7=>∃ a8 ag ah,n=ah.length∧ab.drop ag=ah∧Qu ab ah=some r∧St w0 (Zj col) a8 a7∧[14].map f=[.int .i64 ag]) ab.length ⟨_,0,_,rfl,rfl,hm,aa,rfl⟩ ?_;clear hm;intro n f a7 hI;obtain ⟨a8,ag,ah,hn,hl,hm,aa,hs⟩:=hI;subst hn;refine .lL [14] hs ?_;replace h0:=h0.keep (Zi.start col w0)
 cases ah with
 | nil=>
  have hk:¬ ((ag:Int)<(ab.length:Int)):=by have:=List.drop_eq_nil_iff.1 hl;omega
  have hkb:=decide_eq_false hk;rw [Qu.eq_1] at hm;refine go ?_;refine Xs (congrArg Value.bool hkb)<|go ?_;refine Zu [34,35,1000000] (fun n f a9=>∃ au ai aj,n=aj.length∧ab.drop ai=aj∧Qv aj=some r∧St w0 (Zj col) au a9∧[36].map f=[.int .i64 ai]) ab.length ⟨_,0,_,rfl,rfl,hm,aa,rfl⟩ ?_;clear hm;intro n f a9 hI;obtain ⟨au,ai,aj,hn,hl,hm,aa,hs⟩:=hI;subst hn;refine .lL [36] hs ?_
  cases aj with
  | nil=>
   have hk:¬ ((ai:Int)<(ab.length:Int)):=by have:=List.drop_eq_nil_iff.1 hl;omega
   have hkb:=decide_eq_false hk;rw [Qv.eq_1] at hm;refine go ?_;refine Xs (congrArg Value.bool hkb)<|go ?_;cases hm;exact ⟨rfl,rfl,aa.below⟩
  | cons ak ba=>
   obtain ⟨ac,bi,bj⟩:=X3 hl;have hk:(ai:Int)<(ab.length:Int):=by omega
   have hkb:=decide_eq_true hk;rw [Qv.eq_2] at hm;refine go ?_;refine Xt (congrArg Value.bool hkb)<|go ?_;refine lI ac ((h0.ks aa).addr ac) ?_;obtain ⟨_,bk,bm⟩:=(h0.ks aa).atN ac;obtain ⟨⟨bn,bo,rfl,ad⟩,_⟩:=bk;refine lW bm.one<|go ?_;refine Z3w (col:=au) (fk:=(Value.int .i64)) (fv:=(Value.int .i64)) 1 rfl underlying191 rfl ?_;intro b3 b4 b5 bb bp;refine go ?_;replace ad:=ad.gr bb;replace aa:=aa.grow bb;refine Zu [34,35,36,43,44,1000000] (fun n f aq=>∃ ar al av am an,n=an.length∧ak.drop al=an∧Zbr (Qv ba) an am=some r∧St w0 (Zj col) ar aq∧Sl (Za.int .i64) ar aq bn bo ak∧Ve (Value.int .i64) (Value.int .i64) 1 ar aq av am∧[45,9].map f=[.int .i64 al,.map (some av)]) ak.length ⟨_,0,_,_,_,rfl,rfl,hm,aa,ad,bp,rfl⟩ ?_;clear hm;intro n f aq hI;obtain ⟨ar,al,av,am,an,hn,hl,hm,aa,ad,bc,hs⟩:=hI;subst hn;refine .lL [45,9] hs ?_
   cases an with
   | nil=>
    have hk:¬ ((al:Int)<(ak.length:Int)):=by have:=List.drop_eq_nil_iff.1 hl;omega
    have hkb:=decide_eq_false hk;rw [Zbr.eq_1] at hm;refine go ?_;refine Xs (congrArg Value.bool hkb)<|go ?_;exact ⟨ba.length,by simp,rfl,⟨_,_,_,rfl,bi,hm,aa,(X5 (congrArg (Value.int .i64) (X2 (Nat.lt_of_lt_of_le bj (h0.ks aa).1.1))) rfl)⟩⟩
   | cons aw bq=>
    obtain ⟨ac,br,bs⟩:=X3 hl;have hk:(al:Int)<(ak.length:Int):=by omega
    have hkb:=decide_eq_true hk;rw [Zbr.eq_2] at hm;refine go ?_;refine Xt (congrArg Value.bool hkb)<|go ?_;refine lI ac (ad.addr ac)<|lW (ad.atInt ac) ?_;refine go ?_;refine lV (.int .i64 ((Wi am aw).getD 0)) (Zxb Ty.int bc underlying191 underlying3 zeroValue3 rfl rfl)<|go ?_;refine Zo hm (fun hb hm=>go ?_) fun hb hm=>go ?_
    ·cases hm;exact ⟨rfl,rfl,aa.below⟩
    obtain ⟨bt,ax,hm⟩:=bZ hm;have ax:bt=Sh am aw 1:=(Option.some.inj ax).symm;refine Zud (k:=aw) (v:=1) Ty.int bc underlying191 underlying3 rfl rfl rfl ?_;intro b6 bd bu be;rw [← ax] at be;refine go ?_;replace ad:=ad.kp bd;replace aa:=aa.kp bd bu;exact ⟨bq.length,by simp,rfl,⟨_,_,_,_,_,rfl,br,hm,aa,ad,be,(X5 (congrArg (Value.int .i64) (X2 (Nat.lt_of_lt_of_le bs ad.1.1))) rfl)⟩⟩
 | cons af ay=>
  obtain ⟨ac,bv,bw⟩:=X3 hl;have hk:(ag:Int)<(ab.length:Int):=by omega
  have hkb:=decide_eq_true hk;rw [Qu.eq_2] at hm;refine go ?_;refine Xt (congrArg Value.bool hkb)<|go ?_;refine lI ac ((h0.ks aa).addr ac) ?_;obtain ⟨_,bx,bz⟩:=(h0.ks aa).atN ac;obtain ⟨⟨bf,bg,rfl,ae⟩,_⟩:=bx;refine lW bz.one<|go ?_;refine Zu [0,12,13,14,18,19,1000000] (fun n f az=>∃ a1 ao ap,n=ap.length∧af.drop ao=ap∧Qw ab (Qu ab ay) ap=some r∧St w0 (Zj col) a1 az∧Sl (Za.int .i64) a1 az bf bg af∧[20].map f=[.int .i64 ao]) af.length ⟨_,0,_,rfl,rfl,hm,aa,ae,rfl⟩ ?_;clear hm;intro n f az hI;obtain ⟨a1,ao,ap,hn,hl,hm,aa,ae,hs⟩:=hI;subst hn;refine .lL [20] hs ?_
  cases ap with
  | nil=>
   have hk:¬ ((ao:Int)<(af.length:Int)):=by have:=List.drop_eq_nil_iff.1 hl;omega
   have hkb:=decide_eq_false hk;rw [Qw.eq_1] at hm;refine go ?_;refine Xs (congrArg Value.bool hkb)<|go ?_;exact ⟨ay.length,by simp,rfl,⟨_,_,_,rfl,bv,hm,aa,(X5 (congrArg (Value.int .i64) (X2 (Nat.lt_of_lt_of_le bw (h0.ks aa).1.1))) rfl)⟩⟩
  | cons b0 bh=>
   obtain ⟨ac,b1,b2⟩:=X3 hl;have hk:(ao:Int)<(af.length:Int):=by omega
   have hkb:=decide_eq_true hk;rw [Qw.eq_2] at hm;refine go ?_;refine Xt (congrArg Value.bool hkb)<|go ?_;refine lI ac (ae.addr ac)<|lW (ae.atInt ac)<|Yv rfl<|Zl<|Zs ?_;refine Wp.cutK [0,12,13,14,18,19,20,1000000] (fun f a2=>∃ a3 a4,Ze6 (Qw ab (Qu ab ay) bh) a4=some r∧St w0 (Zj col) a3 a2∧Sl (Za.int .i64) a3 a2 bf bg af∧[31].map f=[.bool a4]) ?_ ?_
   ·intro f a2 hJ;obtain ⟨a3,a4,hm,aa,ae,hs⟩:=hJ;rw [Ze6.eq_1] at hm;refine .lL [31] hs ?_;refine Zo hm (fun hb hm=>go ?_) fun hb hm=>go ?_
    ·cases hm;exact ⟨rfl,rfl,aa.below⟩
    exact ⟨bh.length,by simp,rfl,⟨_,_,_,rfl,b1,hm,aa,ae,(X5 (congrArg (Value.int .i64) (X2 (Nat.lt_of_lt_of_le b2 ae.1.1))) rfl)⟩⟩
   refine go ?_;refine Yc hm (fun a5 hm=>go ?_) fun a5 hm=>go ?_
   ·refine lV (.bool true) (Xr (congrArg Value.bool a5) rfl)<|Zl ?_;exact ⟨rfl,_,_,hm,aa,ae,rfl⟩
   refine lV (.bool (decide ((ab.length:Int)≤b0))) (Xq (congrArg Value.bool a5) rfl)<|Zl ?_;exact ⟨rfl,_,_,hm,aa,ae,rfl⟩
theorem Z23:Wd prog 3 1 8:=⟨Tryz.t3,_,rfl,rfl,rfl,rfl,rfl⟩
def Zbq (aa:Nat) (kk_L1:(Nat→R9→Option R9)):List Int→R9→Option R9
  | [],ab=>kk_L1 (aa+1) ab
  | ad :: ae,ab=>(Zm ab ad).bind fun ac=>Zt ((ac.length+[(aa:Int)].length) * 8≤140737488355328∧ac.length+[(aa:Int)].length≤maxLen) ((Zbq aa kk_L1 ae) (ab.set (Int.toNat ad) (ac++[(aa:Int)])))
termination_by structural x=>x
def Qt:List R5→Nat→R9→Option R9
  | [],ab,aa=>some aa
  | ac :: ad,ab,aa=>Zbq ab (Qt ad) ac aa
termination_by structural x=>x
def Ze4 (aa:R9):Option R9:=
  Zt (aa.length * 24≤281474976710656∧aa.length≤maxLen) (Qt aa 0 (List.replicate aa.length (([]:List Int):List Int)))
theorem Zz9 {a7:Nat} {a0:Option Addr} {col:Ze} {w0:World} {ae r:R9} (c1:Nat) (hm:Ze4 ae=some r) (h0:Sl (Za.slice (Za.int .i64)) col w0 a0 a7 ae):
    Calls prog 157 #[.slice a0 ae.length a7] w0 (fun e w'=>∃ (col':Ze) (ra1:Option Addr) (rc2:Nat),e= .returned ((.slice ra1 r.length rc2))∧Zh col w0 col' w'∧Zb (Za.row 3 (Za.int .i64)) 33 c1 col' w' ra1 rc2 r):=by
 refine Xf 2 (m:=37) func157 rfl rfl rfl rfl rfl ?_;rw [Ze4.eq_1] at hm;have aa:=St.start col w0;refine go ?_;obtain ⟨a8,hm⟩:=Z3 hm;refine Sz (col:=(Zj col)) (w:=w0) (r:=(Za.row 3 (Za.int .i64))) (n:=ae.length) (x0:=([]:List Int)) 1 rfl underlying24 Tryz.t33 rfl rfl rfl rfl rfl rfl rfl a8.1 a8.2 Zqt ?_;intro b4 b5 b6 bg bh;refine go ?_;replace aa:=aa.grow bg;refine Zu [11,12,1000000] (fun n f aw=>∃ ax ab ay az ap aj,n=aj.length∧ae.drop ab=aj∧Qt aj ab ap=some r∧St w0 (Zj col) ax aw∧Zb (Za.row 3 (Za.int .i64)) 33 1 ax aw ay az ap∧[13,3].map f=[.int .i64 ab,.slice ay ap.length az]) ae.length ⟨_,0,_,_,_,_,rfl,rfl,hm,aa,bh,rfl⟩ ?_;clear hm;intro n f aw hI;obtain ⟨ax,ab,ay,az,ap,aj,hn,hl,hm,aa,a9,hs⟩:=hI;subst hn;refine .lL [13,3] hs ?_;replace h0:=h0.keep (Zi.start col w0)
 cases aj with
 | nil=>
  have hk:¬ ((ab:Int)<(ae.length:Int)):=by have:=List.drop_eq_nil_iff.1 hl;omega
  have hkb:=decide_eq_false hk;rw [Qt.eq_1] at hm;refine go ?_;refine Xs (congrArg Value.bool hkb)<|go ?_;cases hm;exact ⟨rfl,_,_,_,rfl,aa.fin (cm [(1,c1)]),aa.fo a9⟩
 | cons ak ba=>
  obtain ⟨af,bi,bj⟩:=X3 hl;have hk:(ab:Int)<(ae.length:Int):=by omega
  have hkb:=decide_eq_true hk;rw [Qt.eq_2] at hm;refine go ?_;refine Xt (congrArg Value.bool hkb)<|go ?_;refine lI af ((h0.ks aa).addr af) ?_;obtain ⟨_,bk,bm⟩:=(h0.ks aa).atN af;obtain ⟨⟨bn,bo,rfl,ac⟩,_⟩:=bk;refine lW bm.one<|go ?_;refine Zu [11,12,13,18,19,4,1000000] (fun n f al=>∃ aq am ag ah ad an,n=an.length∧ak.drop am=an∧Zbq ab (Qt ba) an ad=some r∧St w0 (Zj col) aq al∧Sl (Za.int .i64) aq al bn bo ak∧Zb (Za.row 3 (Za.int .i64)) 33 1 aq al ag ah ad∧[20,3].map f=[.int .i64 am,.slice ag ad.length ah]) ak.length ⟨_,0,_,_,_,_,rfl,rfl,hm,aa,ac,a9,rfl⟩ ?_;clear hm;intro n f al hI;obtain ⟨aq,am,ag,ah,ad,an,hn,hl,hm,aa,ac,a1,hs⟩:=hI;subst hn;refine .lL [20,3] hs ?_
  cases an with
  | nil=>
   have hk:¬ ((am:Int)<(ak.length:Int)):=by have:=List.drop_eq_nil_iff.1 hl;omega
   have hkb:=decide_eq_false hk;rw [Zbq.eq_1] at hm;refine go ?_;refine Xs (congrArg Value.bool hkb)<|go ?_;exact ⟨ba.length,by simp,rfl,⟨_,_,_,_,_,_,rfl,bi,hm,aa,a1,(X5 (congrArg (Value.int .i64) (X2 (Nat.lt_of_lt_of_le bj (h0.ks aa).1.1))) rfl)⟩⟩
  | cons ar bp=>
   obtain ⟨af,bq,br⟩:=X3 hl;have hk:(am:Int)<(ak.length:Int):=by omega
   have hkb:=decide_eq_true hk;rw [Zbq.eq_2] at hm;refine go ?_;refine Xt (congrArg Value.bool hkb)<|go ?_;refine lI af (ac.addr af)<|lW (ac.atInt af) ?_;refine go ?_;obtain ⟨ao,au,hm⟩:=bZ hm;refine lI au (a1.addr au) ?_;obtain ⟨_,bb,bc,ai,bs⟩:=a1.open_ 2 (by decide) au;obtain ⟨bt,bu,rfl,a2⟩:=bs.row;replace ai:Yf (Za.row 3 (Za.int .i64)) 33 1 bb al ag ah ad (Int.toNat ar) [.slice bt ao.length bu]:=ai;refine lW ai.atN.one<|Xp rfl<|Vg (col:=bb) [(ab:Int)] 3 ?_;intro b7 bv bw av bx;obtain ⟨bd,hm⟩:=Z3 hm;replace a2:=a2.gr av;refine Sy (col:=bw) (w:=bv) (r:=(Za.int .i64)) (c:=2) (c2:=2) (a2.ex) (bx.srcN (NB.int (k:=.i64))) rfl underlying33 Z23 rfl rfl rfl bd.1 bd.2 (by decide) ?_;intro be bf b8 bz a3 a4;replace ai:=(ai.gr av).kpp a3;refine lI au (ai.addr)<|Z3x (v:=(.slice be ((ao++[(ab:Int)]).length) bf)) ai rfl sizeOf33 rfl (by intro u hu;simp only [Value.cells,List.mem_cons,List.not_mem_nil,or_false] at hu;subst hu;rfl) rfl rfl (by decide) ?_;intro b0 a5 b1 a6;replace a6:Yf (Za.row 3 (Za.int .i64)) 33 1 bz b0 ag ah ad (Int.toNat ar) [.slice be ((ao++[(ab:Int)]).length) bf]:=a6;replace a4:=a4.kp a5;have b2:=a4.new;have b3:=a6.close b2.has (by decide) (by decide);replace ac:=(((ac.kpp bc).gr av).kpp a3).kp a5;replace ac:=ac.recol 2 1 (by decide);replace aa:=(((aa.kpp bc).grow av).kpp a3).kp a5 b1;replace aa:=aa.recol 2 1 (by decide) (by decide);refine .ld (d:=3) (v:=(.slice ag ((ad.set (Int.toNat ar) (ao++[(ab:Int)])).length) ah)) (congrArg (fun n=>Value.slice ag n ah) (show ad.length=(ad.set (Int.toNat ar) (ao++[(ab:Int)])).length by simp only [nS])) ?_;refine go ?_;exact ⟨bp.length,by simp,rfl,⟨_,_,_,_,_,_,rfl,bq,hm,aa,ac,b3,(X5 (congrArg (Value.int .i64) (X2 (Nat.lt_of_lt_of_le br ac.1.1))) rfl)⟩⟩
def Zbs (aa:Int) (kk_L2:(Int→Int→Option Ra)) (ab:Int):Option Ra:=
  kk_L2 (i64.wrap (aa+1)) ab
def Ze7 (aa:Int) (ab:Int) (kk_L2:(Int→Int→Option Ra)) (ac:Int) (ad:Bool):Option Ra:=
  if ad=true then (Zbs aa kk_L2 ac) else (Zbs aa kk_L2 ab)
def Sa (N:Nat) (ad:List Int) (ag:Int) (aa:List Int) (ac:Int) (kk_L1:(List Int→Int→Option Ra)):Nat→Int→Int→Option Ra
  | 0,_,_=>none
  | ah+1,ae,ab=>if (decide (ae<2))=true then ((Zm [i64.wrap ((i64.wrap (2 * ac))+1),i64.wrap ((i64.wrap (2 * ac))+2)] ae).bind fun af=>if (decide (af<(i64.wrap ((ad.length:Int) - 1))))=true then ((Zm aa af).bind fun aj=>(Zm aa ab).bind fun ak=>Ze7 ae ab (Sa N ad ag aa ac kk_L1 ah) af (decide (aj<ak))) else (Ze7 ae ab (Sa N ad ag aa ac kk_L1 ah) af false)) else (if (decide (ab=ac))=true then (some (ag,aa.take (Int.toNat (i64.wrap ((ad.length:Int) - 1))))) else ((Zm aa ab).bind fun al=>(Zm aa ac).bind fun am=>(some (aa.set (Int.toNat ac) al)).bind fun ai=>(Zm ai ab).bind fun ao=>(some (ai.set (Int.toNat ab) am)).bind fun an=>kk_L1 an ab))
termination_by structural x=>x
def T9 (N:Nat) (aa:List Int) (ab:Int):Nat→R5→Int→Option Ra
  | 0,_,_=>none
  | ad+1,ae,ac=>Sa N aa ab ae ac (T9 N aa ab ad) N 0 ac
termination_by structural x=>x
def Zhs (N:Nat) (aa:List Int):Option Ra:=
  (Zm aa 0).bind fun ac=>(Zm aa (i64.wrap ((aa.length:Int) - 1))).bind fun ad=>(some (aa.set (Int.toNat 0) ad)).bind fun ab=>Zt ((0:Int)≤(i64.wrap ((aa.length:Int) - 1))∧(i64.wrap ((aa.length:Int) - 1))≤(ab.length:Int)) (T9 N aa ac N ab 0)
theorem Z0b {N g0 al:Nat} {am:Option Addr} {col:Ze} {w0:World} {aa:R5} {r:Ra} (qc0 ai:Nat) (hm:Zhs N aa=some r) (hd:V9 [qc0,ai]=true) (ap:Zb (Za.int .i64) 3 ai col w0 am al aa) (hb0:Zf 192 qc0 col w0 g0 #[.slice am aa.length al]):
    Calls prog 194 #[.pointer (some ⟨g0,0,none⟩)] w0 (fun e w'=>∃ (col':Ze) (oa1:Option Addr) (oc2:Nat),e= .returned ((.int .i64 r.1))∧Zq (pS [qc0,ai]) col w0 col' w'∧Zb (Za.int .i64) 3 ai col' w' oa1 oc2 r.2∧Zf 192 qc0 col' w' g0 #[.slice oa1 r.2.length oc2]):=by
 refine Xf 2 (m:=76) func194 rfl rfl rfl rfl rfl ?_;rw [Zhs.eq_1] at hm;have ac:=St.startL (l:=[qc0,ai]) rfl col w0;replace hb0:=hb0.startL (U6 hd 0 rfl) (U5 hd 0 rfl);replace ap:=ap.startL (U6 hd 1 rfl) (U5 hd 1 rfl);refine go ?_;refine lV (.pointer (some ⟨g0,0,none⟩)) (Qh rfl)<|lW hb0.at1<|go ?_;obtain ⟨au,av,hm⟩:=bZ hm;refine lI av (ap.addr av)<|lW (ap.atInt av) ?_;refine go ?_;obtain ⟨bm,be,hm⟩:=bZ hm;refine lI be (ap.addr be)<|lW (ap.atInt be)<|lI av (ap.addr av) ?_;obtain ⟨an,ay,hm⟩:=bZ hm;have ay:an=aa.set (Int.toNat 0) bm:=(Option.some.inj ay).symm;refine Y6 (x1:=bm) ap av ?_;intro bu bn bv az;rw [← ay] at az;refine .ld (d:=3) (v:=(.slice am an.length al)) (congrArg (fun n=>Value.slice am n al) (show aa.length=an.length by rw [ay,nS])) ?_;replace hb0:=hb0.kp bn;replace hb0:Zf 192 440 (Xc [qc0,ai] col) bu g0 #[.slice am an.length al]:=by rw [← (show aa.length=an.length by rw [ay,nS])];exact hb0
 refine go ?_;obtain ⟨bf,hm⟩:=Z3 hm;refine lv (v:=.slice am (Int.toNat (i64.wrap ((aa.length:Int) - 1))) al) rfl rfl (Zju underlying192 sizeOf3 rfl rfl bf.1 (by have:=az.lecap;have:=bf.2;omega))<|.ld (d:=28) (v:=(.slice am ((an.take (Int.toNat (i64.wrap ((aa.length:Int) - 1)))).length) al)) (congrArg (fun n=>Value.slice am n al) (List.length_take_of_le (show (Int.toNat (i64.wrap ((aa.length:Int) - 1)))≤an.length by have:=bf.2;omega)).symm) ?_;refine lV (.pointer (some ⟨g0,0,none⟩)) (Qh rfl)<|Tl (v:=(.slice am ((an.take (Int.toNat (i64.wrap ((aa.length:Int) - 1)))).length) al)) hb0 sizeOf192 rfl rfl (by intro u hu;simp only [Value.cells,List.mem_cons,List.not_mem_nil,or_false] at hu;subst hu;rfl) rfl rfl ?_;intro bw bo bx ab;replace ab:Zf 192 440 (Xc [qc0,ai] col) bw g0 #[(.slice am ((an.take (Int.toNat (i64.wrap ((aa.length:Int) - 1)))).length) al)]:=ab;refine go ?_;replace ac:=(ac.kp bn bv).kp bo bx;replace az:=az.kp bo;refine Zu [4,5,1000000] (fun n f a4=>∃ a5 af ag ah ak ao,ao=n∧T9 N aa au ao ah ak=some r∧St w0 (Xc [qc0,ai] col) a5 a4∧Zb (Za.int .i64) 3 441 a5 a4 af ag ah∧Zf 192 440 a5 a4 g0 #[(.slice af ((ah.take (Int.toNat (i64.wrap ((aa.length:Int) - 1)))).length) ag)]∧[3,6].map f=[.slice af ah.length ag,.int .i64 ak]) N ⟨_,_,_,_,0,_,rfl,hm,ac,az,ab,rfl⟩ ?_;clear hm;intro n f a4 hI;obtain ⟨a5,af,ag,ah,ak,ao,hn,hm,ac,ad,ab,hs⟩:=hI;subst hn;refine .lL [3,6] hs ?_
 cases ao with
 | zero=>rw [T9.eq_1] at hm;cases hm
 | succ ao=>
  rw [T9.eq_2] at hm;refine go ?_;refine lV (.agg #[(.int .i64 (i64.wrap ((i64.wrap (2 * ak))+1))),(.int .i64 (i64.wrap ((i64.wrap (2 * ak))+2)))]) (Z5j underlying206 sizeOf3 zeroValue206 rfl)<|go ?_;refine Zu [3,37,4,5,6,1000000] (fun n f a6=>∃ ae a0 a1 aq,aq=n∧Sa N aa au ah ak (T9 N aa au ao) aq a0 a1=some r∧St w0 (Xc [qc0,ai] col) ae a6∧Zb (Za.int .i64) 3 441 ae a6 af ag ah∧Zf 192 440 ae a6 g0 #[(.slice af ((ah.take (Int.toNat (i64.wrap ((aa.length:Int) - 1)))).length) ag)]∧[38,7].map f=[.int .i64 a0,.int .i64 a1]) N ⟨_,0,_,_,rfl,hm,ac,ad,ab,rfl⟩ ?_;clear hm;intro n f a6 hI;obtain ⟨ae,a0,a1,aq,hn,hm,ac,ad,ab,hs⟩:=hI;subst hn;refine .lL [38,7] hs ?_
  cases aq with
  | zero=>rw [Sa.eq_1] at hm;cases hm
  | succ aq=>
   rw [Sa.eq_2] at hm;refine go ?_;refine Zo hm (fun hb hm=>?_) fun hb hm=>go ?_
   ·refine X0<|Zs ?_;refine Wp.cutK [3,37,38,4,5,6,1000000] (fun f a7=>∃ a8 bg,Zbs a0 (Sa N aa au ah ak (T9 N aa au ao) aq) bg=some r∧St w0 (Xc [qc0,ai] col) a8 a7∧Zb (Za.int .i64) 3 441 a8 a7 af ag ah∧Zf 192 440 a8 a7 g0 #[(.slice af ((ah.take (Int.toNat (i64.wrap ((aa.length:Int) - 1)))).length) ag)]∧[7].map f=[.int .i64 bg]) ?_ ?_
    ·intro f a7 hJ;obtain ⟨a8,bg,hm,ac,ad,ab,hs⟩:=hJ;rw [Zbs.eq_1] at hm;refine .lL [7] hs<|go ?_;exact ⟨aq,by omega,rfl,⟨_,_,_,_,rfl,hm,ac,ad,ab,rfl⟩⟩
    refine go ?_;obtain ⟨bp,bz,hm⟩:=bZ hm;refine lV (.int .i64 bp) (Z5o (l:=[i64.wrap ((i64.wrap (2 * ak))+1),i64.wrap ((i64.wrap (2 * ak))+2)]) (k:=.i64) underlying206 sizeOf3 isAgg3 rfl rfl rfl bz)<|Yv rfl<|Zl<|Zs ?_;refine Wp.cutK [3,37,38,4,5,6,7,9,1000000] (fun f a9=>∃ ba bh,Ze7 a0 a1 (Sa N aa au ah ak (T9 N aa au ao) aq) bp bh=some r∧St w0 (Xc [qc0,ai] col) ba a9∧Zb (Za.int .i64) 3 441 ba a9 af ag ah∧Zf 192 440 ba a9 g0 #[(.slice af ((ah.take (Int.toNat (i64.wrap ((aa.length:Int) - 1)))).length) ag)]∧[54].map f=[.bool bh]) ?_ ?_
    ·intro f a9 hJ;obtain ⟨ba,bh,hm,ac,ad,ab,hs⟩:=hJ;rw [Ze7.eq_1] at hm;refine .lL [54] hs ?_;refine Zo hm (fun hb hm=>go ?_) fun hb hm=>?_
     ·exact ⟨rfl,_,_,hm,ac,ad,ab,rfl⟩
     refine X0 ?_;exact ⟨rfl,_,_,hm,ac,ad,ab,rfl⟩
    refine Vj (col:=ae) (by kernel_rfl) (by kernel_rfl)<|go ?_;refine Yc hm (fun bi hm=>go ?_) fun bi hm=>go ?_
    ·obtain ⟨b0,bj,hm⟩:=bZ hm;refine qI bj (ad.addr bj) ?_;refine go ?_;refine qW (fun _ hC=>(ad.gr (hC.bl ae)).atInt bj) ?_;refine go ?_;obtain ⟨b1,bk,hm⟩:=bZ hm;refine qI bk (ad.addr bk) ?_;refine go ?_;refine qW (fun _ hC=>(ad.gr (hC.bl ae)).atInt bk) ?_;refine go ?_;refine qv (v:=(.bool (decide (b0<b1)))) rfl (fun _ hC=>Xr (congrArg Value.bool bi) rfl) ?_;refine Ws ?_;intro b6 hC;replace hC:=hC.bl ae;replace ad:=ad.gr hC;replace ab:=ab.gr hC;replace ac:=ac.grow hC;exact ⟨rfl,_,_,hm,ac,ad,ab,rfl⟩
    refine qv (v:=(.bool false)) rfl (fun _ hC=>Xq (congrArg Value.bool bi) rfl) ?_;refine Ws ?_;intro b7 hC;replace hC:=hC.bl ae;replace ad:=ad.gr hC;replace ab:=ab.gr hC;replace ac:=ac.grow hC;exact ⟨rfl,_,_,hm,ac,ad,ab,rfl⟩
   refine Zo hm (fun hb hm=>go ?_) fun hb hm=>go ?_
   ·cases hm;exact ⟨rfl,Tk w0.heap.size [qc0,ai] col ae (fun n=>bif Nat.beq n 441 then ai else bif Nat.beq n 440 then qc0 else 0),af,ag,rfl,ac.finL rfl (fun n=>bif Nat.beq n 441 then ai else bif Nat.beq n 440 then qc0 else 0),ac.finOwnL (g:=(fun n=>bif Nat.beq n 441 then ai else bif Nat.beq n 440 then qc0 else 0)) rfl (ad.take (Int.toNat (i64.wrap ((aa.length:Int) - 1)))) (by decide) (by decide) rfl,ac.finBoxL (g:=(fun n=>bif Nat.beq n 441 then ai else bif Nat.beq n 440 then qc0 else 0)) ab (by decide) (by decide) rfl⟩
   refine Wh (col:=ae) [(0,1),(1,1),(2,1),(3,1),(4,1),(5,1),(6,1),(7,0),(8,1),(9,1),(10,1),(11,0),(12,1),(13,2),(14,1),(15,2)] (by kernel_rfl) (by kernel_rfl)<|xu rfl rfl (fun _=>Uj rfl) ?_;refine xu rfl rfl (fun _=>Yh rfl) ?_;refine xu rfl rfl (fun _=>Uj rfl) ?_;refine xu rfl rfl (fun _=>Yh rfl) ?_;refine xu rfl rfl (fun _=>Uj rfl) ?_;refine xu rfl rfl (fun _=>Yh rfl) ?_;obtain ⟨bq,bb,hm⟩:=bZ hm;refine xu rfl rfl (fun _=>Ym underlying192 sizeOf3 rfl rfl (Z4 bb).1 (Z4 bb).2.1 (ad.addr bb)) ?_;refine xW (fun _ hC=>(ad.gr (hC.bl ae)).atInt bb) ?_;refine xu rfl rfl (fun _=>Uj rfl) ?_;refine xu rfl rfl (fun _=>Yh rfl) ?_;obtain ⟨br,ar,hm⟩:=bZ hm;refine xu rfl rfl (fun _=>Ym underlying192 sizeOf3 rfl rfl (Z4 ar).1 (Z4 ar).2.1 (ad.addr ar)) ?_;refine xW (fun _ hC=>(ad.gr (hC.bl ae)).atInt ar) ?_;refine xu rfl rfl (fun _=>Ym underlying192 sizeOf3 rfl rfl (Z4 ar).1 (Z4 ar).2.1 (ad.addr ar)) ?_;refine xe rfl rfl ?_;intro b8 hC0;have hC:=hC0.bl ae;obtain ⟨aj,aw,hm⟩:=bZ hm;have aw:aj=ah.set (Int.toNat ak) bq:=(Option.some.inj aw).symm;replace ad:=ad.gr hC;refine Y6 (x1:=bq) ad ar ?_;intro b2 bs b3 a2;rw [← aw] at a2;refine .ld (d:=3) (v:=(.slice af aj.length ag)) (congrArg (fun n=>Value.slice af n ag) (show ah.length=aj.length by rw [aw,nS])) ?_;refine .ld (d:=63) (v:=(.slice af aj.length ag)) (congrArg (fun n=>Value.slice af n ag) (show ah.length=aj.length by rw [aw,nS])) ?_;replace ab:=(ab.gr hC).kp bs;replace ab:Zf 192 440 ae b2 g0 #[(.slice af ((aj.take (Int.toNat (i64.wrap ((aa.length:Int) - 1)))).length) ag)]:=by rw [← (show (ah.take (Int.toNat (i64.wrap ((aa.length:Int) - 1)))).length=(aj.take (Int.toNat (i64.wrap ((aa.length:Int) - 1)))).length by rw [nK,nK,(show ah.length=aj.length by rw [aw,nS])])];exact ab
   refine Zl<|xk ae ?_;obtain ⟨b9,bc,hm⟩:=bZ hm;refine xu rfl rfl (fun _=>Ym underlying192 sizeOf3 rfl rfl (Z4 bc).1 (Z4 bc).2.1 (a2.addr bc)) ?_;refine xe rfl rfl ?_;intro ca hC0;replace ac:=(ac.grow hC).kp bs b3;have hC:=hC0.bl ae;obtain ⟨ax,a3,hm⟩:=bZ hm;have a3:ax=aj.set (Int.toNat a1) br:=(Option.some.inj a3).symm;replace a2:=a2.gr hC;refine Y6 (x1:=br) a2 bc ?_;intro b4 bt b5 bd;rw [← a3] at bd;refine .ld (d:=3) (v:=(.slice af ax.length ag)) (congrArg (fun n=>Value.slice af n ag) (show aj.length=ax.length by rw [a3,nS])) ?_;replace ab:=(ab.gr hC).kp bt;replace ab:Zf 192 440 ae b4 g0 #[(.slice af ((ax.take (Int.toNat (i64.wrap ((aa.length:Int) - 1)))).length) ag)]:=by rw [← (show (aj.take (Int.toNat (i64.wrap ((aa.length:Int) - 1)))).length=(ax.take (Int.toNat (i64.wrap ((aa.length:Int) - 1)))).length by rw [nK,nK,(show aj.length=ax.length by rw [a3,nS])])];exact ab
   refine Zl<|xk ae<|Y2 ?_;replace ac:=(ac.grow hC).kp bt b5;intro cb hC;replace hC:=hC.bl ae;refine go ?_;replace bd:=bd.gr hC;replace ab:=ab.gr hC;replace ac:=ac.grow hC;exact ⟨ao,by omega,rfl,⟨_,_,_,_,_,_,rfl,hm,ac,bd,ab,rfl⟩⟩
theorem Z24:Wd prog 3 1 8:=⟨Tryz.t3,_,rfl,rfl,rfl,rfl,rfl⟩
def Ze9 (ab:List Int) (aa:Int) (kk_L1:(List Int→Int→Option R5)) (ad:Bool):Option R5:=
  if ad=true then ((Zm ab (i64.wrap (Int.tdiv (i64.wrap (aa - 1)) 2))).bind fun ae=>(Zm ab aa).bind fun af=>(some (ab.set (Int.toNat aa) ae)).bind fun ac=>(Zm ac (i64.wrap (Int.tdiv (i64.wrap (aa - 1)) 2))).bind fun ah=>(some (ac.set (Int.toNat (i64.wrap (Int.tdiv (i64.wrap (aa - 1)) 2))) af)).bind fun ag=>kk_L1 ag (i64.wrap (Int.tdiv (i64.wrap (aa - 1)) 2))) else (some ab)
def Zao (N:Nat):Nat→R5→Int→Option R5
  | 0,_,_=>none
  | ac+1,ab,aa=>if (decide (0<aa))=true then ((Zm ab aa).bind fun ad=>(Zm ab (i64.wrap (Int.tdiv (i64.wrap (aa - 1)) 2))).bind fun ae=>Ze9 ab aa (Zao N ac) (decide (ad<ae))) else (Ze9 ab aa (Zao N ac) false)
termination_by structural x=>x
def Ze8 (N:Nat) (aa:List Int) (ab:Int):Option R5:=
  Zt ((aa.length+[ab].length) * 8≤140737488355328∧aa.length+[ab].length≤maxLen) (Zao N N (aa++[ab]) (i64.wrap (((aa++[ab]).length:Int) - 1)))
theorem Zrt {N g0 a7:Nat} {a8:Option Addr} {col:Ze} {w0:World} {ao:R5} {an:Int} {r:R5} (qc0 af:Nat) (hm:Ze8 N ao an=some r) (hd:V9 [qc0,af]=true) (ap:Zb (Za.int .i64) 3 af col w0 a8 a7 ao) (hb0:Zf 192 qc0 col w0 g0 #[.slice a8 ao.length a7]):
    Calls prog 193 #[.pointer (some ⟨g0,0,none⟩),.int .i64 an] w0 (fun e w'=>∃ (col':Ze) (oa1:Option Addr) (oc2:Nat),e= .returned (.tuple #[])∧Zq (pS [qc0,af]) col w0 col' w'∧Zb (Za.int .i64) 3 af col' w' oa1 oc2 r∧Zf 192 qc0 col' w' g0 #[.slice oa1 r.length oc2]):=by
 refine Zbh (m:=66) (args:=[.pointer (some ⟨g0,0,none⟩),.int .i64 an]) func193 rfl rfl rfl rfl ?_;rw [Ze8.eq_1] at hm;have ab:=St.startL (l:=[qc0,af]) rfl col w0;replace hb0:=hb0.startL (U6 hd 0 rfl) (U5 hd 0 rfl);replace ap:=ap.startL (U6 hd 1 rfl) (U5 hd 1 rfl);refine go ?_;refine lV (.pointer (some ⟨g0,0,none⟩)) (Qh rfl)<|lW hb0.at1<|Xp rfl<|Vg (col:=(Xc [qc0,af] col)) [an] 1 ?_;intro bw bi bj a0 bk;obtain ⟨a9,hm⟩:=Z3 hm;replace ap:=ap.gr a0;refine Sy (col:=bj) (w:=bi) (r:=(Za.int .i64)) (c:=441) (c2:=441) (ap.ex) (bk.srcN (NB.int (k:=.i64))) rfl underlying192 Z24 rfl rfl rfl a9.1 a9.2 (by decide) ?_;intro ba bb bx bm bc a1;refine lV (.pointer (some ⟨g0,0,none⟩)) (Qh rfl) ?_;replace hb0:=(hb0.gr a0).kpp bc;refine Tl (v:=(.slice ba ((ao++[an]).length) bb)) hb0 sizeOf192 rfl rfl (by intro u hu;simp only [Value.cells,List.mem_cons,List.not_mem_nil,or_false] at hu;subst hu;rfl) rfl rfl ?_;intro bn bd bo aa;replace aa:Zf 192 440 bm bn g0 #[.slice ba ((ao++[an]).length) bb]:=aa;replace a1:=a1.kp bd;have bp:=a1.new;refine go ?_;refine lV (.pointer (some ⟨g0,0,none⟩)) (Qh rfl)<|lW aa.at1<|go ?_;replace ab:=((ab.grow a0).kpp bc).kp bd bo;refine Zu [0,1000000] (fun n f au=>∃ ag ah ai aj ae al,al=n∧Zao N al aj ae=some r∧St w0 (Xc [qc0,af] col) ag au∧Zb (Za.int .i64) 3 441 ag au ah ai aj∧Zf 192 440 ag au g0 #[.slice ah aj.length ai]∧[4].map f=[.int .i64 ae]) N ⟨_,_,_,_,_,_,rfl,hm,ab,bp,aa,rfl⟩ ?_;clear hm;intro n f au hI;obtain ⟨ag,ah,ai,aj,ae,al,hn,hm,ab,ac,aa,hs⟩:=hI;subst hn;refine .lL [4] hs ?_
 cases al with
 | zero=>rw [Zao.eq_1] at hm;cases hm
 | succ al=>
  rw [Zao.eq_2] at hm;refine Zs<|Zs ?_;refine Wp.cutK [0,4,1000000] (fun f av=>∃ ad a2,Ze9 aj ae (Zao N al) a2=some r∧St w0 (Xc [qc0,af] col) ad av∧Zb (Za.int .i64) 3 441 ad av ah ai aj∧Zf 192 440 ad av g0 #[.slice ah aj.length ai]∧[36].map f=[.bool a2]) ?_ ?_
  ·intro f av hJ;obtain ⟨ad,a2,hm,ab,ac,aa,hs⟩:=hJ;rw [Ze9.eq_1] at hm;refine .lL [36] hs ?_;refine Zo hm (fun hb hm=>go ?_) fun hb hm=>go ?_
   ·refine Wh (col:=ad) [(0,1),(1,1),(2,0),(3,1),(4,1),(5,1),(6,0),(7,1),(8,1),(9,1),(10,1),(11,1),(12,0),(13,1),(14,1),(15,1),(16,1),(17,0),(18,1),(19,1),(20,0),(21,1),(22,1),(23,0),(24,1),(25,2),(26,1),(27,2)] (by kernel_rfl) (by kernel_rfl)<|xu rfl rfl (fun _=>Zm2 rfl) ?_;refine xu (v:=(.pointer (some ⟨g0,0,none⟩))) rfl rfl (fun _=>Qh rfl) ?_;refine xW (fun _ hC=>aa.at1.gr (hC.bl ad)) ?_;refine xu rfl rfl (fun _=>Yh rfl) ?_;refine xu rfl rfl (fun _=>Zm2 rfl) ?_;refine xu (v:=(.pointer (some ⟨g0,0,none⟩))) rfl rfl (fun _=>Qh rfl) ?_;refine xW (fun _ hC=>aa.at1.gr (hC.bl ad)) ?_;refine xu rfl rfl (fun _=>Yh rfl) ?_;refine xu rfl rfl (fun _=>Zm3 _ _ rfl rfl) ?_;refine xu (v:=(.int .i64 (i64.wrap (Int.tdiv (i64.wrap (ae - 1)) 2)))) rfl rfl (fun _=>Sp (i64.wrap (ae - 1)) 2 rfl rfl (by decide)) ?_;refine xu rfl rfl (fun _=>Zm2 rfl) ?_;refine xu (v:=(.pointer (some ⟨g0,0,none⟩))) rfl rfl (fun _=>Qh rfl) ?_;refine xW (fun _ hC=>aa.at1.gr (hC.bl ad)) ?_;refine xu rfl rfl (fun _=>Yh rfl) ?_;refine xu rfl rfl (fun _=>Zm3 _ _ rfl rfl) ?_;refine xu (v:=(.int .i64 (i64.wrap (Int.tdiv (i64.wrap (ae - 1)) 2)))) rfl rfl (fun _=>Sp (i64.wrap (ae - 1)) 2 rfl rfl (by decide)) ?_;obtain ⟨be,aw,hm⟩:=bZ hm;refine xu rfl rfl (fun _=>Ym underlying192 sizeOf3 rfl rfl (Z4 aw).1 (Z4 aw).2.1 (ac.addr aw)) ?_;refine xW (fun _ hC=>(ac.gr (hC.bl ad)).atInt aw) ?_;refine xu rfl rfl (fun _=>Zm2 rfl) ?_;refine xu (v:=(.pointer (some ⟨g0,0,none⟩))) rfl rfl (fun _=>Qh rfl) ?_;refine xW (fun _ hC=>aa.at1.gr (hC.bl ad)) ?_;refine xu rfl rfl (fun _=>Yh rfl) ?_;obtain ⟨bf,ak,hm⟩:=bZ hm;refine xu rfl rfl (fun _=>Ym underlying192 sizeOf3 rfl rfl (Z4 ak).1 (Z4 ak).2.1 (ac.addr ak)) ?_;refine xW (fun _ hC=>(ac.gr (hC.bl ad)).atInt ak) ?_;refine xu rfl rfl (fun _=>Ym underlying192 sizeOf3 rfl rfl (Z4 ak).1 (Z4 ak).2.1 (ac.addr ak)) ?_;refine xe rfl rfl ?_;intro bz hC0;have hC:=hC0.bl ad;obtain ⟨am,aq,hm⟩:=bZ hm;have aq:am=aj.set (Int.toNat ae) be:=(Option.some.inj aq).symm;replace ac:=ac.gr hC;refine Y6 (x1:=be) ac ak ?_;intro bq bg br ar;rw [← aq] at ar;refine .ld (d:=46) (v:=(.slice ah am.length ai)) (congrArg (fun n=>Value.slice ah n ai) (show aj.length=am.length by rw [aq,nS])) ?_;replace aa:=(aa.gr hC).kp bg;replace aa:Zf 192 440 ad bq g0 #[.slice ah am.length ai]:=by rw [← (show aj.length=am.length by rw [aq,nS])];exact aa
    refine Zl<|xk ad ?_;obtain ⟨b0,ax,hm⟩:=bZ hm;refine xu rfl rfl (fun _=>Ym underlying192 sizeOf3 rfl rfl (Z4 ax).1 (Z4 ax).2.1 (ar.addr ax)) ?_;refine xe rfl rfl ?_;intro b1 hC0;replace ab:=(ab.grow hC).kp bg br;have hC:=hC0.bl ad;obtain ⟨a3,ay,hm⟩:=bZ hm;have ay:a3=am.set (Int.toNat (i64.wrap (Int.tdiv (i64.wrap (ae - 1)) 2))) bf:=(Option.some.inj ay).symm;replace ar:=ar.gr hC;refine Y6 (x1:=bf) ar ax ?_;intro bs bh bt az;rw [← ay] at az;replace aa:=(aa.gr hC).kp bh;replace aa:Zf 192 440 ad bs g0 #[.slice ah a3.length ai]:=by rw [← (show am.length=a3.length by rw [ay,nS])];exact aa
    refine Zl<|xk ad<|Y2 ?_;replace ab:=(ab.grow hC).kp bh bt;intro b2 hC;replace hC:=hC.bl ad;refine go ?_;refine lV (.int .i64 (i64.wrap (Int.tdiv (i64.wrap (ae - 1)) 2))) (Sp (i64.wrap (ae - 1)) 2 rfl rfl (by decide))<|go ?_;replace az:=az.gr hC;replace aa:=aa.gr hC;replace ab:=ab.grow hC;exact ⟨al,by omega,rfl,⟨_,_,_,_,_,_,rfl,hm,ab,az,aa,rfl⟩⟩
   cases hm;exact ⟨rfl,Tk w0.heap.size [qc0,af] col ad (fun n=>bif Nat.beq n 441 then af else bif Nat.beq n 440 then qc0 else 0),ah,ai,rfl,ab.finL rfl (fun n=>bif Nat.beq n 441 then af else bif Nat.beq n 440 then qc0 else 0),ab.finOwnL (g:=(fun n=>bif Nat.beq n 441 then af else bif Nat.beq n 440 then qc0 else 0)) rfl ac (by decide) (by decide) rfl,ab.finBoxL (g:=(fun n=>bif Nat.beq n 441 then af else bif Nat.beq n 440 then qc0 else 0)) aa (by decide) (by decide) rfl⟩
  refine Vj (col:=ag) (by kernel_rfl) (by kernel_rfl)<|go ?_;refine Yc hm (fun a4 hm=>go ?_) fun a4 hm=>go ?_
  ·refine qv (v:=(.pointer (some ⟨g0,0,none⟩))) rfl (fun _ hC=>Qh rfl) ?_;refine go ?_;refine qW (fun _ hC=>aa.at1.gr (hC.bl ag)) ?_;refine go ?_;obtain ⟨bu,a5,hm⟩:=bZ hm;refine qI a5 (ac.addr a5) ?_;refine go ?_;refine qW (fun _ hC=>(ac.gr (hC.bl ag)).atInt a5) ?_;refine go ?_;refine qv (v:=(.pointer (some ⟨g0,0,none⟩))) rfl (fun _ hC=>Qh rfl) ?_;refine go ?_;refine qW (fun _ hC=>aa.at1.gr (hC.bl ag)) ?_;refine go ?_;refine qv (v:=(.int .i64 (i64.wrap (Int.tdiv (i64.wrap (ae - 1)) 2)))) rfl (fun _ hC=>Sp (i64.wrap (ae - 1)) 2 rfl rfl (by decide)) ?_;refine go ?_;obtain ⟨bv,a6,hm⟩:=bZ hm;refine qI a6 (ac.addr a6) ?_;refine go ?_;refine qW (fun _ hC=>(ac.gr (hC.bl ag)).atInt a6) ?_;refine go ?_;refine qv (v:=(.bool (decide (bu<bv)))) rfl (fun _ hC=>Xr (congrArg Value.bool a4) rfl) ?_;refine Ws ?_;intro b3 hC;replace hC:=hC.bl ag;replace ac:=ac.gr hC;replace aa:=aa.gr hC;replace ab:=ab.grow hC;exact ⟨rfl,_,_,hm,ab,ac,aa,rfl⟩
  refine qv (v:=(.bool false)) rfl (fun _ hC=>Xq (congrArg Value.bool a4) rfl) ?_;refine Ws ?_;intro b4 hC;replace hC:=hC.bl ag;replace ac:=ac.gr hC;replace aa:=aa.gr hC;replace ab:=ab.grow hC;exact ⟨rfl,_,_,hm,ab,ac,aa,rfl⟩
def Zfb (kk_L3:(List Int→R5→Option R5)) (aa:List Int) (ab:List Int):Option R5:=
  kk_L3 aa ab
def Qy (N:Nat) (ad:List Int) (kk_L2:(List Int→R5→R5→Option R5)) (ae:Ra):List Int→R5→R5→Option R5
  | [],aa,ab=>kk_L2 aa ab (ad++[ae.1])
  | ac :: ag,aa,ab=>(Zm aa ac).bind fun ah=>(some (aa.set (Int.toNat ac) (i64.wrap (ah - 1)))).bind fun af=>(Zm af ac).bind fun ai=>if (decide (ai=0))=true then ((Ze8 N ab ac).bind fun aj=>Zfb (Qy N ad kk_L2 ae ag) af aj) else (Zfb (Qy N ad kk_L2 ae ag) af ab)
termination_by structural x=>x
def Up (N:Nat) (ac:R9):Nat→R5→R5→R5→Option R5
  | 0,_,_,_=>none
  | ae+1,af,ad,ab=>if (decide (0<(ad.length:Int)))=true then ((Zhs N ad).bind fun aa=>Zt ((ab.length+[aa.1].length) * 8≤140737488355328∧ab.length+[aa.1].length≤maxLen) ((Zm ac aa.1).bind fun ag=>Qy N ab (Up N ac ae) aa ag af aa.2)) else (some ab)
termination_by structural x=>x
def Zfc (aa:Nat) (kk_L1:(Nat→R5→R5→Option R5)) (ab:List Int) (ac:List Int):Option R5:=
  kk_L1 (aa+1) ab ac
def Qx (N:Nat) (ad:R9):List R5→Nat→R5→R5→Option R5
  | [],aa,ab,ac=>Up N ad N ab ac ([]:List Int)
  | ae :: af,aa,ab,ac=>(Zm ab (aa:Int)).bind fun ai=>(some (ab.set (Int.toNat (aa:Int)) (ae.length:Int))).bind fun ag=>if (decide ((ae.length:Int)=0))=true then ((Ze8 N ac (aa:Int)).bind fun ah=>Zfc aa (Qx N ad af) ag ah) else (Zfc aa (Qx N ad af) ag ac)
termination_by structural x=>x
def Zfa (N:Nat) (aa:R9) (ab:R9):Option R5:=
  Zt (aa.length * 8≤281474976710656∧aa.length≤maxLen) (Qx N ab aa 0 (List.replicate aa.length (0:Int)) ([]:List Int))
theorem Z0c {N cs ct:Nat} {a0 a1:Option Addr} {col:Ze} {w0:World} {af ag:R9} {r:R5} (c1:Nat) (hm:Zfa N af ag=some r) (h0:Sl (Za.slice (Za.int .i64)) col w0 a0 cs af) (h1:Sl (Za.slice (Za.int .i64)) col w0 a1 ct ag):
    Calls prog 156 #[.slice a0 af.length cs,.slice a1 ag.length ct] w0 (fun e w'=>∃ (col':Ze) (ra1:Option Addr) (rc2:Nat),e= .returned ((.slice ra1 r.length rc2))∧Zh col w0 col' w'∧Zb (Za.int .i64) 3 c1 col' w' ra1 rc2 r):=by
 refine Xf 4 (m:=66) func156 rfl rfl rfl rfl rfl ?_;rw [Zfa.eq_1] at hm;have aa:=St.start col w0;refine go ?_;obtain ⟨cu,hm⟩:=Z3 hm;refine Sz (col:=(Zj col)) (w:=w0) (r:=(Za.int .i64)) (n:=af.length) (x0:=0) 1 rfl underlying33 Tryz.t3 rfl rfl rfl rfl rfl rfl rfl cu.1 cu.2 (Zco .i64 0) ?_;intro d2 d3 c6 c7 bx;refine go ?_;refine Qq (col:=c6) (v:=(.slice none (([]:List Int).length) 0)) 2 rfl zeroValue192 ?_;intro aq c8 c9 cv ab;replace ab:Zf 192 2 c9 c8 aq #[.slice none (([]:List Int).length) 0]:=ab;refine go ?_;replace aa:=(aa.grow c7).grow cv;replace bx:=bx.gr cv;refine Zu [1,16,17,6,1000000] (fun n f az=>∃ a2 ah a3 a4 ar bz b0 bj a5,n=a5.length∧af.drop ah=a5∧Qx N ag a5 ah ar bj=some r∧St w0 (Zj col) a2 az∧Zb (Za.int .i64) 3 1 a2 az a3 a4 ar∧Zb (Za.int .i64) 3 3 a2 az bz b0 bj∧Zf 192 2 a2 az aq #[.slice bz bj.length b0]∧[18,5].map f=[.int .i64 ah,.slice a3 ar.length a4]) af.length ⟨_,0,_,_,_,none,0,_,_,rfl,rfl,hm,aa,bx,Zb.nil,ab,rfl⟩ ?_;clear hm;intro n f az hI;obtain ⟨a2,ah,a3,a4,ar,bz,b0,bj,a5,hn,hl,hm,aa,b1,a6,ab,hs⟩:=hI;subst hn;refine .lL [18,5] hs ?_;replace h0:=h0.keep (Zi.start col w0);replace h1:=h1.keep (Zi.start col w0)
 cases a5 with
 | nil=>
  have hk:¬ ((ah:Int)<(af.length:Int)):=by have:=List.drop_eq_nil_iff.1 hl;omega
  have hkb:=decide_eq_false hk;rw [Qx.eq_1] at hm;refine go ?_;refine Xs (congrArg Value.bool hkb)<|go ?_;refine Zu [1,6,1000000] (fun n f au=>∃ av b2 b3 bk b4 b5 bm b6 b7 ai aj,aj=n∧Up N ag aj bk bm ai=some r∧St w0 (Zj col) av au∧Zb (Za.int .i64) 3 1 av au b2 b3 bk∧Zb (Za.int .i64) 3 3 av au b4 b5 bm∧Zf 192 2 av au aq #[.slice b4 bm.length b5]∧Zb (Za.int .i64) 3 4 av au b6 b7 ai∧[5,9].map f=[.slice b2 bk.length b3,.slice b6 ai.length b7]) N ⟨_,_,_,_,_,_,_,none,0,_,_,rfl,hm,aa,b1,a6,ab,Zb.nil,rfl⟩ ?_;clear hm;intro n f au hI;obtain ⟨av,b2,b3,bk,b4,b5,bm,b6,b7,ai,aj,hn,hm,aa,b8,da,ab,bn,hs⟩:=hI;subst hn;refine .lL [5,9] hs ?_
  cases aj with
  | zero=>rw [Up.eq_1] at hm;cases hm
  | succ aj=>
   rw [Up.eq_2] at hm;refine go ?_;refine lW ab.at1<|go ?_;refine Zo hm (fun hb hm=>go ?_) fun hb hm=>go ?_
   ·obtain ⟨a7,db,hm⟩:=bZ hm;refine Zk (Z0b 2 3 db rfl da ab) ?_;rintro _ d4 ⟨dc,d5,d6,rfl,b9,ca,ad⟩;refine ⟨_,rfl,go ?_⟩;refine Vg (col:=dc) [a7.1] 5 ?_;intro d7 d8 d9 a8 dd;obtain ⟨de,hm⟩:=Z3 hm;replace bn:=(bn.kpp b9).gr a8;refine W7 bn (dd.srcN (NB.int (k:=.i64))) de ?_;intro cw cx ea eb bo ae;refine go ?_;obtain ⟨aw,cb,hm⟩:=bZ hm;replace aa:=((aa.kpp b9).grow a8).kpp bo;refine lI cb ((h1.ks aa).addr cb) ?_;obtain ⟨_,df,dg⟩:=(h1.ks aa).atN cb;obtain ⟨⟨cy,cz,rfl,ac⟩,_⟩:=df;refine lW dg.one<|go ?_;replace b8:=((b8.kpp b9).gr a8).kpp bo;replace ca:=(ca.gr a8).kpp bo;replace ad:=(ad.gr a8).kpp bo;refine Zu [1,45,46,6,9,1000000] (fun n f ak=>∃ al a9 ba bb ax cc cd bp bc,n=bc.length∧aw.drop a9=bc∧Qy N ai (Up N ag aj) a7 bc ax bp=some r∧St w0 (Zj col) al ak∧Sl (Za.int .i64) al ak cy cz aw∧Zb (Za.int .i64) 3 1 al ak ba bb ax∧Zb (Za.int .i64) 3 3 al ak cc cd bp∧Zf 192 2 al ak aq #[.slice cc bp.length cd]∧Zb (Za.int .i64) 3 4 al ak cw cx (ai++[a7.1])∧[47,5].map f=[.int .i64 a9,.slice ba ax.length bb]) aw.length ⟨_,0,_,_,_,_,_,_,_,rfl,rfl,hm,aa,ac,b8,ca,ad,ae,rfl⟩ ?_;clear hm;intro n f ak hI;obtain ⟨al,a9,ba,bb,ax,cc,cd,bp,bc,hn,hl,hm,aa,ac,bd,be,ad,ae,hs⟩:=hI;subst hn;refine .lL [47,5] hs ?_
    cases bc with
    | nil=>
     have hk:¬ ((a9:Int)<(aw.length:Int)):=by have:=List.drop_eq_nil_iff.1 hl;omega
     have hkb:=decide_eq_false hk;rw [Qy.eq_1] at hm;refine go ?_;refine Xs (congrArg Value.bool hkb)<|go ?_;exact ⟨aj,by omega,rfl,⟨_,_,_,_,_,_,_,_,_,_,_,rfl,hm,aa,bd,be,ad,ae,rfl⟩⟩
    | cons dh c0=>
     obtain ⟨am,di,dj⟩:=X3 hl;have hk:(a9:Int)<(aw.length:Int):=by omega
     have hkb:=decide_eq_true hk;rw [Qy.eq_2] at hm;refine go ?_;refine Xt (congrArg Value.bool hkb)<|X0<|Zs ?_;refine Wp.cutK [1,45,46,47,6,9,1000000] (fun f an=>∃ ao ce cf bq cg ch br,Zfb (Qy N ai (Up N ag aj) a7 c0) bq br=some r∧St w0 (Zj col) ao an∧Sl (Za.int .i64) ao an cy cz aw∧Zb (Za.int .i64) 3 1 ao an ce cf bq∧Zb (Za.int .i64) 3 3 ao an cg ch br∧Zf 192 2 ao an aq #[.slice cg br.length ch]∧Zb (Za.int .i64) 3 4 ao an cw cx (ai++[a7.1])∧[5].map f=[.slice ce bq.length cf]) ?_ ?_
     ·intro f an hJ;obtain ⟨ao,ce,cf,bq,cg,ch,br,hm,aa,ac,dl,dm,ad,ae,hs⟩:=hJ;rw [Zfb.eq_1] at hm;refine .lL [5] hs<|go ?_;exact ⟨c0.length,by simp,rfl,⟨_,_,_,_,_,_,_,_,_,rfl,di,hm,aa,ac,dl,dm,ad,ae,(X5 (congrArg (Value.int .i64) (X2 (Nat.lt_of_lt_of_le dj ac.1.1))) rfl)⟩⟩
     refine go ?_;refine lI am (ac.addr am)<|lW (ac.atInt am) ?_;refine go ?_;obtain ⟨c2,ay,hm⟩:=bZ hm;refine lI ay (bd.addr ay)<|lW (bd.atInt ay) ?_;refine go ?_;refine lI ay (bd.addr ay) ?_;obtain ⟨ci,bs,hm⟩:=bZ hm;have bs:ci=ax.set (Int.toNat dh) (i64.wrap (c2 - 1)):=(Option.some.inj bs).symm;refine Y6 (x1:=i64.wrap (c2 - 1)) bd ay ?_;intro ec bf dn ap;rw [← bs] at ap;refine .ld (d:=5) (v:=(.slice ba ci.length bb)) (congrArg (fun n=>Value.slice ba n bb) (show ax.length=ci.length by rw [bs,nS])) ?_;refine go ?_;obtain ⟨ed,cj,hm⟩:=bZ hm;refine lI cj (ap.addr cj)<|lW (ap.atInt cj) ?_;refine go ?_;replace ac:=ac.kp bf;replace be:=be.kp bf;replace ae:=ae.kp bf;replace ad:=ad.kp bf;replace aa:=aa.kp bf dn;refine Zo hm (fun hb hm=>go ?_) fun hb hm=>?_
     ·obtain ⟨ee,dp,hm⟩:=bZ hm;refine Zk (Zrt 2 3 dp rfl be ad) ?_;rintro _ ef ⟨eg,eh,ei,rfl,bt,dq,dr⟩;refine ⟨_,rfl,?_⟩;refine Zl ?_;replace ac:=ac.kpp bt;replace ap:=ap.kpp bt;replace ae:=ae.kpp bt;replace aa:=aa.kpp bt;exact ⟨rfl,_,_,_,_,_,_,_,hm,aa,ac,ap,dq,dr,ae,rfl⟩
     refine X0 ?_;exact ⟨rfl,_,_,_,_,_,_,_,hm,aa,ac,ap,be,ad,ae,rfl⟩
   cases hm;exact ⟨rfl,_,_,_,rfl,aa.fin (cm [(4,c1)]),aa.fo bn⟩
 | cons c3 c4=>
  obtain ⟨am,ds,dt⟩:=X3 hl;have hk:(ah:Int)<(af.length:Int):=by omega
  have hkb:=decide_eq_true hk;rw [Qx.eq_2] at hm;refine go ?_;refine Xt (congrArg Value.bool hkb)<|X0<|Zs ?_;refine Wp.cutK [1,16,17,18,6,1000000] (fun f bg=>∃ bh ck cl bu cn co bv,Zfc ah (Qx N ag c4) bu bv=some r∧St w0 (Zj col) bh bg∧Zb (Za.int .i64) 3 1 bh bg ck cl bu∧Zb (Za.int .i64) 3 3 bh bg cn co bv∧Zf 192 2 bh bg aq #[.slice cn bv.length co]∧[5].map f=[.slice ck bu.length cl]) ?_ ?_
  ·intro f bg hJ;obtain ⟨bh,ck,cl,bu,cn,co,bv,hm,aa,du,dv,ab,hs⟩:=hJ;rw [Zfc.eq_1] at hm;refine .lL [5] hs<|go ?_;exact ⟨c4.length,by simp,rfl,⟨_,_,_,_,_,_,_,_,_,rfl,ds,hm,aa,du,dv,ab,(X5 (congrArg (Value.int .i64) (X2 (Nat.lt_of_lt_of_le dt (h0.ks aa).1.1))) rfl)⟩⟩
  refine go ?_;refine lI am ((h0.ks aa).addr am) ?_;obtain ⟨_,dw,dx⟩:=(h0.ks aa).atN am;obtain ⟨⟨ej,ek,rfl,el⟩,_⟩:=dw;refine lW dx.one<|go ?_;obtain ⟨em,cp,hm⟩:=bZ hm;refine lI cp (b1.addr cp) ?_;obtain ⟨cq,bw,hm⟩:=bZ hm;have bw:cq=ar.set (Int.toNat (ah:Int)) (c3.length:Int):=(Option.some.inj bw).symm;refine Y6 (x1:=(c3.length:Int)) b1 cp ?_;intro en cr dy bi;rw [← bw] at bi;refine .ld (d:=5) (v:=(.slice a3 cq.length a4)) (congrArg (fun n=>Value.slice a3 n a4) (show ar.length=cq.length by rw [bw,nS])) ?_;refine go ?_;replace a6:=a6.kp cr;replace ab:=ab.kp cr;replace aa:=aa.kp cr dy;refine Zo hm (fun hb hm=>go ?_) fun hb hm=>?_
  ·obtain ⟨eo,dz,hm⟩:=bZ hm;refine Zk (Zrt 2 3 dz rfl a6 ab) ?_;rintro _ ep ⟨eq,er,es,rfl,c5,d0,d1⟩;refine ⟨_,rfl,?_⟩;refine Zl ?_;replace bi:=bi.kpp c5;replace aa:=aa.kpp c5;exact ⟨rfl,_,_,_,_,_,_,_,hm,aa,bi,d0,d1,rfl⟩
  refine X0 ?_;exact ⟨rfl,_,_,_,_,_,_,_,hm,aa,bi,a6,ab,rfl⟩
def Zan (N:Nat) (aa:R9):Option Rh:=
  (Ze5 aa).bind fun ab=>if (!decide (ab=0))=true then (some (([]:List Int),ab)) else ((Ze4 aa).bind fun ad=>(Zfa N aa ad).bind fun ac=>if (decide ((ac.length:Int)<(aa.length:Int)))=true then (some (([]:List Int),42)) else (some (ac,0)))
theorem Zz8 {N ad:Nat} {a0:Option Addr} {col:Ze} {w0:World} {ab:R9} {r:Rh} (c1:Nat) (hm:Zan N ab=some r) (h0:Sl (Za.slice (Za.int .i64)) col w0 a0 ad ab):
    Calls prog 79 #[.slice a0 ab.length ad] w0 (fun e w'=>∃ (col':Ze) (ra1:Option Addr) (rc2:Nat),e= .returned (.tuple #[.slice ra1 r.1.length rc2,.int .i64 r.2])∧Zh col w0 col' w'∧Zb (Za.int .i64) 3 c1 col' w' ra1 rc2 r.1):=by
 refine Zhn 2 3 (m:=21) (args:=[.slice a0 ab.length ad]) func79 rfl rfl rfl rfl rfl ?_;rw [Zan.eq_1] at hm;have aa:=St.start col w0;refine go ?_;obtain ⟨ap,ah,hm⟩:=bZ hm;replace h0:=h0.keep (Zi.start col w0);refine Zk (Z0a ah (h0.ks aa)) ?_;rintro _ ai ⟨rfl,ae⟩;refine ⟨_,rfl,?_⟩;replace ae:Zh (Zj col) w0 (Zj col) ai:=.of_below ae;refine go ?_;replace aa:=aa.grow ae;refine Zo hm (fun hb hm=>go ?_) fun hb hm=>go ?_
 ·cases hm;exact ⟨rfl,_,none,0,rfl,aa.fin (cm []),Zb.nil⟩
 obtain ⟨aq,aj,hm⟩:=bZ hm;refine Zk (Zz9 1 aj (h0.ks aa)) ?_;rintro _ ak ⟨af,ar,au,rfl,al,am⟩;refine ⟨_,rfl,?_⟩;obtain ⟨av,an,hm⟩:=bZ hm;replace aa:=aa.grow al;refine Zk (Z0c 2 an ((h0.ks aa).froz 1) (am.toSlF (Zd.row (Zd.int .i64)))) ?_;rintro _ aw ⟨ao,ax,ay,rfl,ac,ag⟩;refine ⟨_,rfl,?_⟩;replace ag:=ag.thaw (Z1 .i64) ac ((Fz.refl (col:=af)).froz 1) (by decide);replace ac:=ac.thawR (col:=af);generalize Xe ak.heap.size af ao=az at *;refine go ?_;replace aa:=aa.grow ac;refine Zo hm (fun hb hm=>go ?_) fun hb hm=>go ?_
 ·cases hm;exact ⟨rfl,_,none,0,rfl,aa.fin (cm []),Zb.nil⟩
 cases hm;exact ⟨rfl,_,_,_,rfl,aa.fin (cm [(2,c1)]),aa.fo ag⟩
def S3 (N:Nat) (aa:R9):Option Int:=
  (Zan N aa).bind fun ab=>some ab.2
theorem Zz7 {N ad:Nat} {a0:Option Addr} {col:Ze} {w0:World} {ac:R9} {r:Int} (hm:S3 N ac=some r) (h0:Sl (Za.slice (Za.int .i64)) col w0 a0 ad ac):
    Calls prog 86 #[.slice a0 ac.length ad] w0 (fun e w'=>e= .returned ((.int .i64 r))∧Below w0.heap.size w0 w'):=by
 refine Xf 2 (m:=11) func86 rfl rfl rfl rfl rfl ?_;rw [S3.eq_1] at hm;have aa:=St.start col w0;refine go ?_;obtain ⟨ab,ag,hm⟩:=bZ hm;replace h0:=h0.keep (Zi.start col w0);refine Zk (Zz8 1 ag (h0.ks aa)) ?_;rintro _ ai ⟨aj,ae,af,rfl,ah,ak⟩;refine ⟨_,rfl,?_⟩;refine lM (.tuple #[.slice ae ab.1.length af,.int .i64 ab.2])<|lV (.slice ae ab.1.length af) (Xk rfl rfl)<|lV (.int .i64 ab.2) (Xk rfl rfl)<|go ?_;cases hm;replace aa:=aa.grow ah;exact ⟨rfl,rfl,aa.below⟩
def Zl2 (aa:Int) (kk_L2:(Int→Option Bool)) (ab:Bool):Option Bool:=
  if ab=true then (some false) else (kk_L2 (i64.wrap (aa+1)))
def Ziw (N:Nat) (aa:R9) (ab:Int) (kk_L1:(Int→Option Bool)):Nat→Int→Option Bool
  | 0,_=>none
  | ad+1,ac=>(Zm aa ab).bind fun ae=>if (decide (ac<(ae.length:Int)))=true then ((Zm ae ac).bind fun af=>if (decide (af<0))=true then (Zl2 ac (Ziw N aa ab kk_L1 ad) true) else (Zl2 ac (Ziw N aa ab kk_L1 ad) (decide ((aa.length:Int)≤af)))) else (kk_L1 (i64.wrap (ab+1)))
termination_by structural x=>x
def Ziv (N:Nat) (aa:R9):Nat→Int→Option Bool
  | 0,_=>none
  | ac+1,ab=>if (decide (ab<(aa.length:Int)))=true then (Ziw N aa ab (Ziv N aa ac) N 0) else (some true)
termination_by structural x=>x
def Zl1 (N:Nat) (aa:R9):Option Bool:=
  Ziv N aa N 0
def Zl0 (N:Nat) (aa:List Int) (ac:Int):Nat→Int→Option Bool
  | 0,_=>none
  | ad+1,ab=>if (decide (ab<(aa.length:Int)))=true then ((Zm aa ab).bind fun ae=>if (decide (ae=ac))=true then (some true) else ((Zl0 N aa ac ad) (i64.wrap (ab+1)))) else (some false)
termination_by structural x=>x
def Zit (N:Nat) (aa:List Int) (ab:Int):Option Bool:=
  Zl0 N aa ab N 0
def Zl6 (N:Nat) (ad:R9) (ac:Int) (kk_L1:(Int→Option Bool)):Nat→Int→Option Bool
  | 0,_=>none
  | ae+1,aa=>(Zm ad ac).bind fun ab=>if (decide (aa<(ab.length:Int)))=true then (Zt ((0:Int)≤aa∧aa≤(ab.length:Int)) ((Zm ab aa).bind fun af=>(Zit N (ab.take (Int.toNat aa)) af).bind fun ag=>if ag=true then (some true) else ((Zl6 N ad ac kk_L1 ae) (i64.wrap (aa+1))))) else (kk_L1 (i64.wrap (ac+1)))
termination_by structural x=>x
def Ziy (N:Nat) (aa:R9):Nat→Int→Option Bool
  | 0,_=>none
  | ac+1,ab=>if (decide (ab<(aa.length:Int)))=true then (Zl6 N aa ab (Ziy N aa ac) N 0) else (some false)
termination_by structural x=>x
def Zl5 (N:Nat) (aa:R9):Option Bool:=
  Ziy N aa N 0
def Zl3 (aa:Int) (kk_L2:(Int→Int→Option R5)) (ab:Int):Option R5:=
  kk_L2 ab (i64.wrap (aa+1))
def Zl4 (aa:Int) (kk_L3:(Bool→Int→Option R5)) (ab:Bool):Option R5:=
  kk_L3 ab (i64.wrap (aa+1))
def Zix (N:Nat) (ac:R9) (ad:List Int) (ae:Int) (aa:Int) (kk_L2:(Int→Int→Option R5)):Nat→Bool→Int→Option R5
  | 0,_,_=>none
  | af+1,ag,ab=>(Zm ac aa).bind fun ah=>if (decide (ab<(ah.length:Int)))=true then (if ag=true then ((Zm ah ab).bind fun ai=>(Zit N ad ai).bind fun aj=>Zl4 ab (Zix N ac ad ae aa kk_L2 af) aj) else (Zl4 ab (Zix N ac ad ae aa kk_L2 af) false)) else (if ag=true then (Zl3 aa kk_L2 aa) else (Zl3 aa kk_L2 ae))
termination_by structural x=>x
def Zgl (N:Nat) (ad:R9) (aa:List Int) (kk_L1:(List Int→Option R5)) (ab:Int) (ac:Int) (kk_L2:(Int→Int→Option R5)) (ae:Bool):Option R5:=
  if ae=true then ((Zit N aa ac).bind fun af=>Zix N ad aa ab ac kk_L2 N (!af) 0) else (if (decide (ab<0))=true then (some aa) else (Zt ((aa.length+[ab].length) * 8≤140737488355328∧aa.length+[ab].length≤maxLen) (kk_L1 (aa++[ab]))))
def Zd3 (N:Nat) (aa:R9) (ab:List Int) (kk_L1:(List Int→Option R5)):Nat→Int→Int→Option R5
  | 0,_,_=>none
  | ae+1,ac,ad=>if (decide (ad<(aa.length:Int)))=true then (Zgl N aa ab kk_L1 ac ad (Zd3 N aa ab kk_L1 ae) (decide (ac<0))) else (Zgl N aa ab kk_L1 ac ad (Zd3 N aa ab kk_L1 ae) false)
termination_by structural x=>x
def Zd2 (N:Nat) (aa:R9):Nat→R5→Option R5
  | 0,_=>none
  | ab+1,ac=>Zd3 N aa ac (Zd2 N aa ab) N (-1) 0
termination_by structural x=>x
def Za4 (N:Nat) (aa:R9):Option R5:=
  Zd2 N aa N ([]:List Int)
def Zgk (N:Nat) (aa:R9):Option Int:=
  (Zl1 N aa).bind fun ab=>if (!ab)=true then (some 3) else ((Zl5 N aa).bind fun ac=>if ac=true then (some 40) else ((Za4 N aa).bind fun ad=>if (decide ((ad.length:Int)<(aa.length:Int)))=true then (some 42) else (some 0)))
def Ziu (N:Nat) (ab:List Int) (ac:List Int):Nat→Int→Option Bool
  | 0,_=>none
  | ad+1,aa=>if (decide (aa<(ab.length:Int)))=true then ((Zm ab aa).bind fun ae=>(Zm ac aa).bind fun af=>if (!decide (ae=af))=true then (some false) else ((Ziu N ab ac ad) (i64.wrap (aa+1)))) else (some true)
termination_by structural x=>x
def Zpd (N:Nat) (aa:List Int) (ab:List Int):Option Bool:=
  if (!decide ((aa.length:Int)=(ab.length:Int)))=true then (some false) else (Ziu N aa ab N 0)
theorem Z1g {N ai aj:Nat} {a0 a1:Option Addr} {col:Ze} {w0:World} {ad ae:R5} {r:Bool} (hm:Zpd N ad ae=some r) (h0:Sl (Za.int .i64) col w0 a0 ai ad) (h1:Sl (Za.int .i64) col w0 a1 aj ae):
    Calls prog 165 #[.slice a0 ad.length ai,.slice a1 ae.length aj] w0 (fun e w'=>e= .returned ((.bool r))∧Below w0.heap.size w0 w'):=by
 refine Xf 4 (m:=26) func165 rfl rfl rfl rfl rfl ?_;rw [Zpd.eq_1] at hm;have aa:=St.start col w0;refine go ?_;replace h0:=h0.keep (Zi.start col w0);replace h1:=h1.keep (Zi.start col w0);refine Zo hm (fun hb hm=>go ?_) fun hb hm=>go ?_
 ·cases hm;exact ⟨rfl,rfl,aa.below⟩
 refine Zu [0,1,1000000] (fun n f ak=>∃ ab af ac,ac=n∧Ziu N ad ae ac af=some r∧St w0 (Zj col) ab ak∧[5].map f=[.int .i64 af]) N ⟨_,0,_,rfl,hm,aa,rfl⟩ ?_;clear hm;intro n f ak hI;obtain ⟨ab,af,ac,hn,hm,aa,hs⟩:=hI;subst hn;refine .lL [5] hs ?_
 cases ac with
 | zero=>rw [Ziu.eq_1] at hm;cases hm
 | succ ac=>
  rw [Ziu.eq_2] at hm;refine go ?_;refine Zo hm (fun hb hm=>go ?_) fun hb hm=>go ?_
  ·refine Vj (col:=ab) (by kernel_rfl) (by kernel_rfl)<|go ?_;obtain ⟨al,ag,hm⟩:=bZ hm;refine qI ag ((h0.ks aa).addr ag)<|qW (fun _ hC=>((h0.ks aa).gr (hC.bl ab)).atInt ag) ?_;refine go ?_;obtain ⟨am,ah,hm⟩:=bZ hm;refine qI ah ((h1.ks aa).addr ah)<|qW (fun _ hC=>((h1.ks aa).gr (hC.bl ab)).atInt ah) ?_;refine go ?_;refine Ws ?_;intro an hC;replace hC:=hC.bl ab;replace aa:=aa.grow hC;refine Zo hm (fun hb hm=>go ?_) fun hb hm=>go ?_
   ·cases hm;exact ⟨rfl,rfl,aa.below⟩
   exact ⟨ac,by omega,rfl,⟨_,_,_,rfl,hm,aa,rfl⟩⟩
  cases hm;exact ⟨rfl,rfl,aa.below⟩
theorem Zri (N:Nat) (l:List Int) (x:Int) (hl:l.length≤1048576):∀ (n k:Nat),l.length<n+k→k≤l.length→Zl0 N l x n (k:Int)=some (decide (x ∈ l.drop k))
 | 0,k,h,hk=>by omega
 | n+1,k,h,hk=>by
  rw [Zl0.eq_2]
  by_cases hlt:k<l.length
  ·rw [if_pos (by simpa using hlt),Z5 hlt,oB,wS (by omega),Zri N l x hl n (k+1) (by omega) (by omega),List.drop_eq_getElem_cons hlt]
   by_cases he:l[k]=x
   ·rw [if_pos (by simpa using he),decide_eq_true (by rw [he];exact List.mem_cons_self)]
   ·rw [if_neg (by simpa using he)]
    exact congrArg some (decide_eq_decide.2 ⟨fun h=>List.mem_cons_of_mem _ h,fun h=>(List.mem_cons.1 h).resolve_left (Ne.symm he)⟩)
  ·rw [if_neg (by simpa using hlt),List.drop_eq_nil_of_le (by omega)];simp
theorem Znp {N:Nat} {l:List Int} {x:Int} (hl:l.length≤1048576) (hN:1048576<N):Zit N l x=some (decide (x ∈ l)):=by
 rw [Zit];simpa using Zri N l x hl N 0 (by omega) (by omega)
def Ua (m:Int) (P:List R5):Bool:=P.all fun l=>l.all fun p=>decide (0≤p∧p<m)
theorem Zt6 (N:Nat) (P:List R5) (i:Nat) (hi:i<P.length) (hP:P.length≤1048576) (hl:P[i].length≤1048576) (kk:Int→Option Bool):∀ (n k:Nat),P[i].length<n+k→k≤P[i].length→
  Ziw N P (i:Int) kk n (k:Int)=if (P[i].drop k).all (fun p=>decide (0≤p∧p<(P.length:Int))) then kk ((i+1:Nat):Int) else some false
 | 0,k,h,hk=>by omega
 | n+1,k,h,hk=>by
  rw [Ziw.eq_2,Z5 hi,oB]
  by_cases hlt:k<P[i].length
  ·rw [if_pos (by simpa using hlt),Z5 hlt,oB,Zl2,Zl2,wS (by omega),Zt6 N P i hi hP hl kk n (k+1) (by omega) (by omega),List.drop_eq_getElem_cons hlt]
   by_cases h1:P[i][k]<0
   ·rw [if_pos (by simpa using h1),if_pos rfl,if_neg (fun h=>by rw [List.all_cons,Bool.and_eq_true,decide_eq_true_eq] at h;omega)]
   ·rw [if_neg (by simpa using h1)]
    by_cases h2:(P.length:Int)≤P[i][k]
    ·rw [if_pos (by simpa using h2),if_neg (fun h=>by rw [List.all_cons,Bool.and_eq_true,decide_eq_true_eq] at h;omega)]
    ·rw [if_neg (by simpa using h2)]
     simp only [List.all_cons,Bool.and_eq_true]
     have h3:decide (0≤P[i][k]∧P[i][k]<(P.length:Int))=true:=by simp;omega
     simp only [h3,true_and]
  ·rw [if_neg (by simpa using hlt),List.drop_eq_nil_of_le (by omega),wS (by omega)];simp
theorem Zt5 (N:Nat) (P:List R5) (hP:P.length≤1048576) (hl:∀ l ∈ P,l.length≤1048576) (hN:1048576<N):∀ (n i:Nat),P.length<n+i→i≤P.length→
  Ziv N P n (i:Int)=some (Ua P.length (P.drop i))
 | 0,i,h,hi=>by omega
 | n+1,i,h,hi=>by
  rw [Ziv.eq_2]
  by_cases hlt:i<P.length
  ·have h0:=Zt6 N P i hlt hP (hl _ (List.getElem_mem hlt)) (Ziv N P n) N 0 (by have:=hl _ (List.getElem_mem hlt);omega) (by omega)
   rw [if_pos (by simpa using hlt)]
   rw [show (0:Int)=((0:Nat):Int) from rfl,h0,Zt5 N P hP hl hN n (i+1) (by omega) (by omega),List.drop_eq_getElem_cons hlt]
   simp only [Ua,List.all_cons,List.drop_zero]
   by_cases h1:(P[i].all fun p=>decide (0≤p∧p<(P.length:Int)))=true
   ·rw [if_pos h1,h1,Bool.true_and]
   ·rw [if_neg h1,Bool.eq_false_iff.2 h1,Bool.false_and]
  ·rw [if_neg (by simpa using hlt),List.drop_eq_nil_of_le (by omega)];rfl
theorem Z3r {N:Nat} {P:List R5} (hP:P.length≤1048576) (hl:∀ l ∈ P,l.length≤1048576) (hN:1048576<N):Zl1 N P=some (Ua P.length P):=by
 rw [Zl1];simpa using Zt5 N P hP hl hN N 0 (by omega) (by omega)
def Uz (P:List R5):Bool:=P.any fun l=>!decide l.Nodup
theorem Zvo (l:List Int) (k:Nat) (hk:k<l.length):(l.take (k+1)).Nodup↔(l.take k).Nodup∧l[k] ∉ l.take k:=by
 rw [List.take_succ_eq_append_getElem hk,List.nodup_append]
 simp only [List.nodup_cons,List.not_mem_nil,not_false_eq_true,List.nodup_nil,and_self,List.mem_singleton,true_and]
 constructor
 ·rintro ⟨h1,h2⟩;exact ⟨h1,fun h=>h2 _ h _ rfl rfl⟩
 ·rintro ⟨h1,h2⟩;exact ⟨h1,fun a ha b hb e=>h2 (by rw [← hb,← e];exact ha)⟩
theorem Zzf (N:Nat) (P:List R5) (i:Nat) (hi:i<P.length) (hP:P.length≤1048576) (hl:P[i].length≤1048576) (hN:1048576<N) (kk:Int→Option Bool):∀ (n k:Nat),P[i].length<n+k→k≤P[i].length→(P[i].take k).Nodup→
  Zl6 N P (i:Int) kk n (k:Int)=if P[i].Nodup then kk ((i+1:Nat):Int) else some true
 | 0,k,h,hk,_=>by omega
 | n+1,k,h,hk,hnd=>by
  rw [Zl6.eq_2,Z5 hi,oB]
  by_cases hlt:k<P[i].length
  ·rw [if_pos (by simpa using hlt),Z9 (by omega),Z5 hlt,oB,Znp (by simp;omega) hN,oB,Int.toNat_natCast]
   by_cases h1:P[i][k] ∈ P[i].take k
   ·rw [if_pos (by simpa using h1),if_neg]
    intro h2
    exact ((Zvo _ k hlt).1 (h2.sublist (List.take_sublist _ _))).2 h1
   ·rw [if_neg (by simpa using h1),wS (by omega)]
    exact Zzf N P i hi hP hl hN kk n (k+1) (by omega) (by omega) ((Zvo _ k hlt).2 ⟨hnd,h1⟩)
  ·rw [if_neg (by simpa using hlt),wS (by omega)]
   rw [List.take_of_length_le (by omega)] at hnd
   rw [if_pos hnd]
theorem Zze (N:Nat) (P:List R5) (hP:P.length≤1048576) (hl:∀ l ∈ P,l.length≤1048576) (hN:1048576<N):∀ (n i:Nat),P.length<n+i→i≤P.length→
  Ziy N P n (i:Int)=some (Uz (P.drop i))
 | 0,i,h,hi=>by omega
 | n+1,i,h,hi=>by
  rw [Ziy.eq_2]
  by_cases hlt:i<P.length
  ·have h0:=Zzf N P i hlt hP (hl _ (List.getElem_mem hlt)) hN (Ziy N P n) N 0 (by have:=hl _ (List.getElem_mem hlt);omega) (by omega) (by simp)
   rw [if_pos (by simpa using hlt)]
   rw [show (0:Int)=((0:Nat):Int) from rfl,h0,Zze N P hP hl hN n (i+1) (by omega) (by omega),List.drop_eq_getElem_cons hlt]
   simp only [Uz,List.any_cons]
   by_cases h1:P[i].Nodup
   ·rw [if_pos h1];simp [h1]
   ·rw [if_neg h1];simp [h1]
  ·rw [if_neg (by simpa using hlt),List.drop_eq_nil_of_le (by omega)];rfl
theorem Z6n {N:Nat} {P:List R5} (hP:P.length≤1048576) (hl:∀ l ∈ P,l.length≤1048576) (hN:1048576<N):Zl5 N P=some (Uz P):=by
 rw [Zl5];simpa using Zze N P hP hl hN N 0 (by omega) (by omega)
def Uy (P:List R5):Nat:=(P.map List.length).sum
theorem Zj1 (l:List Int) (P:List R5):Uy (l :: P)=l.length+Uy P:=by simp [Uy]
theorem Znd {l:List Int}:∀ {P:List R5},l ∈ P→l.length≤Uy P
 | x :: P,h=>by
  rw [Zj1]
  rcases List.mem_cons.1 h with rfl | h
  ·omega
  ·have:=Znd h;omega
def Zoe:Nat→List R5→List Rf
 | _,[]=>[]
 | k,l :: P=>l.map (fun p=>(p,(k:Int)))++Zoe (k+1) P
theorem Z2r:∀ (k:Nat) (P:List R5),(Zoe k P).length=Uy P
 | _,[]=>rfl
 | k,l :: P=>by rw [Zoe,nA,List.length_map,Z2r,Zj1]
def Td (P:List R5) (l:List Int) (i:Nat):Bool:=!decide ((i:Int) ∈ l)&&(P.getD i []).all fun p=>decide (p ∈ l)
def Vh (P:List R5) (l:List Int) (i:Nat):Option Nat:=(List.range' i (P.length - i)).find? (Td P l)
theorem Z4n (P:List R5) (l:List Int) (i:Nat) (h:P.length≤i):Vh P l i=none:=by
 rw [Vh,Nat.sub_eq_zero_of_le h];rfl
theorem Z4p (P:List R5) (l:List Int) (i:Nat) (h:i<P.length):Vh P l i=if Td P l i then some i else Vh P l (i+1):=by
 rw [Vh,Vh,show P.length - i=(P.length - (i+1))+1 by omega,List.range'_succ,List.find?_cons]
 cases Td P l i <;> simp
section
variable (N:Nat) (P:List R5) (l:List Int)
theorem Zp6 (hP:P.length≤1048576) (hl:l.length≤1048576) (hN:1048576<N) (next:Int) (i:Nat) (hi:i<P.length) (hli:P[i].length≤1048576) (kk:Int→Int→Option R5):∀ (n:Nat) (b:Bool) (k:Nat),P[i].length<n+k→k≤P[i].length→
  Zix N P l next (i:Int) kk n b (k:Int)=kk (if (b&&(P[i].drop k).all fun p=>decide (p ∈ l))=true then (i:Int) else next) ((i+1:Nat):Int)
 | 0,b,k,h,hk=>by omega
 | n+1,b,k,h,hk=>by
  rw [Zix.eq_2,Z5 hi,oB]
  by_cases hlt:k<P[i].length
  ·rw [if_pos (by simpa using hlt),Z5 hlt,oB,Znp hl hN,oB,Zl4,Zl4,wS (by omega),Zp6 hP hl hN next i hi hli kk n _ (k+1) (by omega) (by omega),Zp6 hP hl hN next i hi hli kk n _ (k+1) (by omega) (by omega),List.drop_eq_getElem_cons hlt,List.all_cons]
   cases b
   ·rw [if_neg (by decide),Bool.false_and,Bool.false_and]
   ·rw [if_pos rfl,Bool.true_and]
  ·rw [if_neg (by simpa using hlt),List.drop_eq_nil_of_le (by omega),Zl3,Zl3,wS (by omega),List.all_nil,Bool.and_true]
   cases b
   ·rw [if_neg (by decide),if_neg (by decide)]
   ·rw [if_pos rfl,if_pos rfl]
def Zwu (kk:List Int→Option R5):Option Nat→Option R5
 | none=>some l
 | some i=>kk (l++[(i:Int)])
theorem Zv6 (hl:l.length<1048576) (kk:List Int→Option R5) (i:Nat) (i':Int) (kk2:Int→Int→Option R5):Zgl N P l kk (i:Int) i' kk2 false=kk (l++[(i:Int)]):=by
 rw [Zgl,if_neg (by decide),if_neg (by rw [decide_eq_true_eq];omega),Z9 (by simp only [nC,nN,maxLen];omega)]
theorem Zv5 (hP:P.length≤1048576) (hls:∀ x ∈ P,x.length≤1048576) (hl:l.length<1048576) (hN:1048576<N) (kk:List Int→Option R5):∀ (n i:Nat),P.length<n+i→i≤P.length→
  Zd3 N P l kk n (-1) (i:Int)=Zwu l kk (Vh P l i)
 | 0,i,h,hi=>by omega
 | n+1,i,h,hi=>by
  rw [Zd3.eq_2]
  by_cases hlt:i<P.length
  ·have h3:=Zp6 N P l hP (by omega) hN (-1) i hlt (hls _ (List.getElem_mem hlt)) (Zd3 N P l kk n) N (!decide ((i:Int) ∈ l)) 0 (by have:=hls _ (List.getElem_mem hlt);omega) (by omega)
   rw [if_pos (by simpa using hlt),Zgl,if_pos (by decide),Znp (by omega) hN,oB]
   rw [show (0:Int)=((0:Nat):Int) from rfl,h3,Z4p P l i hlt,List.drop_zero]
   have hb:(!decide ((i:Int) ∈ l)&&P[i].all fun p=>decide (p ∈ l))=Td P l i:=by
    rw [Td,List.getD_eq_getElem?_getD,List.getElem?_eq_getElem hlt];rfl
   rw [hb]
   by_cases hr:Td P l i=true
   ·rw [if_pos hr,if_pos hr]
    match n,h with
    | 0,h=>omega
    | n+1,h=>
     rw [Zd3.eq_2]
     by_cases h2:i+1<P.length
     ·rw [if_pos (dT (by omega)),show decide ((i:Int)<0)=false from decide_eq_false (by omega)]
      exact Zv6 N P l hl kk i _ _
     ·rw [if_neg (by rw [decide_eq_true_eq];omega)]
      exact Zv6 N P l hl kk i _ _
   ·rw [if_neg hr,if_neg hr]
    exact Zv5 hP hls hl hN kk n (i+1) (by omega) (by omega)
  ·rw [if_neg (by simpa using hlt),Z4n P l i (by omega),Zgl,if_neg (by decide),if_pos (by decide)];rfl
end
theorem Zv7 {N:Nat} {P:List R5} {l:List Int} (hP:P.length≤1048576) (hls:∀ x ∈ P,x.length≤1048576) (hl:l.length<1048576) (hN:1048576<N) (n:Nat):
  Zd2 N P (n+1) l=Zwu l (Zd2 N P n) (Vh P l 0):=by
 rw [Zd2.eq_2]
 exact Zv5 N P l hP hls hl hN _ N 0 (by omega) (by omega)
theorem Zvm {P:List R5} {l:List Int} {i j:Nat} (h:Vh P l i=some j):i≤j∧j<P.length∧Td P l j=true∧∀ k,i≤k→k<j→Td P l k=false:=by
 rw [Vh,List.find?_range'_eq_some] at h
 obtain ⟨h1,h2,h3⟩:=h
 rw [List.mem_range'] at h2
 obtain ⟨q,h4,h5⟩:=h2
 refine ⟨by omega,by omega,h1,fun k hk1 hk2=>?_⟩
 have:=h3 k hk1 hk2
 simpa using this
theorem Z4o {P:List R5} {l:List Int} {i:Nat} (h:Vh P l i=none):∀ k,i≤k→k<P.length→Td P l k=false:=by
 rw [Vh,List.find?_eq_none] at h
 intro k hk1 hk2
 have:=h k (by rw [List.mem_range'];exact ⟨k - i,by omega,by omega⟩)
 simpa using this
theorem Z5z {P:List R5} {l:List Int} {i:Nat} (hi:i<P.length):Td P l i=true↔(i:Int) ∉ l∧∀ p ∈ P[i],p ∈ l:=by
 rw [Td,List.getD_eq_getElem?_getD,List.getElem?_eq_getElem hi]
 simp
def Ti (P:List R5) (l:List Int):Prop:=l.Nodup∧(∀ x ∈ l,0≤x∧x<(P.length:Int))∧∀ (i:Nat) (hi:i<P.length),(i:Int) ∈ l→∀ p ∈ P[i],p ∈ l
theorem Ti.len {P:List R5} {l:List Int} (h:Ti P l):l.length≤P.length:=by
 have h1:=Zjj (r:=(List.range P.length).map fun i:Nat=>(i:Int)) h.1 fun x hx=>by
  have:=h.2.1 x hx
  exact List.mem_map.2 ⟨x.toNat,List.mem_range.2 (by omega),by omega⟩
 simpa using h1
theorem Ti.step {P:List R5} {l:List Int} {j:Nat} (h:Ti P l) (hn:Vh P l 0=some j):Ti P (l++[(j:Int)])∧l.length<P.length:=by
 obtain ⟨_,h2,h3,_⟩:=Zvm hn
 obtain ⟨h4,h5⟩:=(Z5z h2).1 h3
 have h6:Ti P (l++[(j:Int)]):=by
  refine ⟨?_,?_,?_⟩
  ·rw [List.nodup_append]
   refine ⟨h.1,by simp,fun a ha b hb e=>?_⟩
   rw [List.mem_singleton] at hb;subst hb;subst e;exact h4 ha
  ·intro x hx
   rcases List.mem_append.1 hx with hx | hx
   ·exact h.2.1 x hx
   ·rw [List.mem_singleton] at hx;omega
  ·intro i hi hm p hp
   rcases List.mem_append.1 hm with hm | hm
   ·exact List.mem_append_left _ (h.2.2 i hi hm p hp)
   ·rw [List.mem_singleton] at hm
    have:i=j:=by omega
    subst this
    exact List.mem_append_left _ (h5 p hp)
 exact ⟨h6,by have:=h6.len;rw [nA,nC,nN] at this;omega⟩
theorem Zv8 {N:Nat} {P:List R5} (hP:P.length<1048576) (hls:∀ x ∈ P,x.length≤1048576) (hN:1048576<N):∀ (n:Nat) (l:List Int),Ti P l→P.length<n+l.length→
  ∃ r,Zd2 N P n l=some r∧Ti P r∧Vh P r 0=none
 | 0,l,h,hn=>by have:=h.len;omega
 | n+1,l,h,hn=>by
  have hl:=h.len
  rw [Zv7 (by omega) hls (by omega) hN]
  cases hnx:Vh P l 0 with
  | none=>exact ⟨l,rfl,h,hnx⟩
  | some j=>
   obtain ⟨h1,h2⟩:=h.step hnx
   exact Zv8 hP hls hN n _ h1 (by simp;omega)
theorem Z40 {N:Nat} {P:List R5} (hP:P.length<1048576) (hls:∀ x ∈ P,x.length≤1048576) (hN:1048576<N):∃ r,Za4 N P=some r∧Ti P r∧Vh P r 0=none:=by
 rw [Za4]
 exact Zv8 hP hls hN N [] ⟨.nil,by simp,by simp⟩ (by simp;omega)
def gD (h:List Int) (j:Nat):Int:=h.getD j 0
theorem Sx {h:List Int} {j:Nat} (hj:j<h.length):gD h j=h[j]:=by rw [gD,List.getD_eq_getElem?_getD,List.getElem?_eq_getElem hj];rfl
theorem Qn {h:List Int} {j:Nat} (hj:j<h.length):Zm h (j:Int)=some (gD h j):=by rw [Z5 hj,Sx hj]
def Tf (h:List Int) (i p:Nat):List Int:=(h.set i (gD h p)).set p (gD h i)
theorem Zjz (h:List Int) (i p:Nat):(Tf h i p).length=h.length:=by simp [Tf]
theorem Zyz {h:List Int} {i p:Nat} (hi:i<h.length) (hp:p<h.length):(Tf h i p).Perm h:=by
 rw [Tf,Sx hi,Sx hp];exact List.set_set_perm hi hp
theorem Zkz (h:List Int) (i j:Nat) (x:Int) (hi:i<h.length):gD (h.set i x) j=if j=i then x else gD h j:=by
 rw [gD,gD,List.getD_eq_getElem?_getD,List.getD_eq_getElem?_getD,List.getElem?_set]
 by_cases h1:i=j
 ·subst h1;rw [if_pos rfl,if_pos hi,if_pos rfl];rfl
 ·rw [if_neg h1,if_neg (Ne.symm h1)]
theorem Zbn {h:List Int} {i p:Nat} (hi:i<h.length) (hp:p<h.length) (j:Nat):gD (Tf h i p) j=if j=p then gD h i else if j=i then gD h p else gD h j:=by
 rw [Tf,Zkz _ _ _ _ (by simpa using hp),Zkz _ _ _ _ hi]
def Tx (h:List Int) (n:Nat):Prop:=∀ j,0<j→j<n→gD h ((j - 1) / 2)≤gD h j
theorem Tx.min {h:List Int} {n:Nat} (hh:Tx h n):∀ j,j<n→gD h 0≤gD h j:=by
 intro j
 induction j using Nat.strongRecOn with
 | ind j ih=>
  intro hj
  by_cases h0:j=0
  ·subst h0;exact Int.le_refl _
  ·exact Int.le_trans (ih ((j - 1) / 2) (by omega) (by omega)) (hh j (by omega) hj)
/-! ### push -/
def Zkc (h:List Int) (i:Nat):Prop:=(∀ j,0<j→j<h.length→j≠i→gD h ((j - 1) / 2)≤gD h j)∧∀ j,0<j→j<h.length→(j - 1) / 2=i→0<i→gD h ((i - 1) / 2)≤gD h j
theorem Zkc.step {h:List Int} {i:Nat} (hu:Zkc h i) (hi:i<h.length) (h0:0<i) (hlt:gD h i<gD h ((i - 1) / 2)):Zkc (Tf h i ((i - 1) / 2)) ((i - 1) / 2):=by
 have hp:(i - 1) / 2<h.length:=by omega
 refine ⟨fun j hj0 hj hjp=>?_,fun j hj0 hj hjp hp0=>?_⟩
 ·rw [Zjz] at hj
  rw [Zbn hi hp,Zbn hi hp,if_neg hjp]
  by_cases hji:j=i
  ·subst hji;rw [if_pos rfl,if_pos rfl];omega
  ·rw [if_neg hji]
   have h1:=hu.1 j hj0 hj hji
   by_cases hq:(j - 1) / 2=(i - 1) / 2
   ·rw [if_pos hq];rw [hq] at h1;omega
   ·rw [if_neg hq]
    by_cases hq2:(j - 1) / 2=i
    ·rw [if_pos hq2];exact hu.2 j hj0 hj hq2 h0
    ·rw [if_neg hq2];exact h1
 ·rw [Zjz] at hj
  rw [Zbn hi hp,Zbn hi hp,if_neg (by omega),if_neg (by omega),if_neg (by omega)]
  have h1:=hu.1 ((i - 1) / 2) hp0 hp (by omega)
  by_cases hji:j=i
  ·rw [if_pos hji];exact h1
  ·rw [if_neg hji]
   have h2:=hu.1 j hj0 hj hji
   rw [hjp] at h2;omega
theorem Zwd {i:Nat} (h0:0<i) (h1:i≤9000000):i64.wrap (Int.tdiv (i64.wrap ((i:Int) - 1)) 2)=(((i - 1) / 2:Nat):Int):=by
 rw [Z0 (x:=(i:Int) - 1) (by omega),Int.tdiv_eq_ediv_of_nonneg (by omega),Z0 (by omega)];omega
theorem Zws (N:Nat):∀ (n:Nat) (h:List Int) (i:Nat),i<n→i<h.length→h.length≤9000000→Zkc h i→
  ∃ h',Zao N n h (i:Int)=some h'∧h'.Perm h∧Tx h' h'.length
 | 0,h,i,hn,_,_,_=>by omega
 | n+1,h,i,hn,hi,hl,hu=>by
  rw [Zao.eq_2]
  by_cases h0:0<i
  ·have hp:(i - 1) / 2<h.length:=by omega
   rw [if_pos (dT (by omega)),Qn hi,oB,Zwd h0 (by omega),Qn hp,oB,Ze9,Zwd h0 (by omega)]
   by_cases hlt:gD h i<gD h ((i - 1) / 2)
   ·obtain ⟨h',h1,h2,h3⟩:=Zws N n (Tf h i ((i - 1) / 2)) ((i - 1) / 2) (by omega) (by rw [Zjz];exact hp) (by rw [Zjz];exact hl) (hu.step hi h0 hlt)
    refine ⟨h',?_,h2.trans (Zyz hi hp),h3⟩
    rw [if_pos (dT hlt),Qn hp,oB,Qn hi,oB,oB,Int.toNat_natCast,Int.toNat_natCast,Z5 (by simpa using hp),oB,oB]
    exact h1
   ·refine ⟨h,by rw [if_neg (by simpa using hlt)],.refl _,fun j hj0 hj=>?_⟩
    by_cases hji:j=i
    ·subst hji;omega
    ·exact hu.1 j hj0 hj hji
  ·have:i=0:=by omega
   subst this
   rw [if_neg (by decide),Ze9,if_neg (by decide)]
   exact ⟨h,rfl,.refl _,fun j hj0 hj=>hu.1 j hj0 hj (by omega)⟩
theorem Ztz {h:List Int} {x:Int} {j:Nat} (hj:j<h.length):gD (h++[x]) j=gD h j:=by
 rw [Sx hj,Sx (by simp;omega),List.getElem_append_left hj]
theorem Zwt {N:Nat} {h:List Int} (x:Int) (hl:h.length<2000000) (hh:Tx h h.length) (hN:2000000<N):∃ h',Ze8 N h x=some h'∧h'.Perm (x :: h)∧Tx h' h'.length:=by
 rw [Ze8,Z9 (by simp only [nC,nN,maxLen];omega)]
 have hle:(h++[x]).length=h.length+1:=by simp
 rw [Z0 (by omega),show (((h++[x]).length:Int) - 1)=((h.length:Nat):Int) by omega]
 obtain ⟨h',h1,h2,h3⟩:=Zws N N (h++[x]) h.length (by omega) (by omega) (by omega) ⟨fun j hj0 hj hji=>by rw [Ztz (by omega),Ztz (by omega)];exact hh j hj0 (by omega),fun j hj0 hj hji h0=>by omega⟩
 exact ⟨h',h1,h2.trans (List.perm_append_singleton x h),h3⟩
/-! ### pop -/
def Zg9 (l:List Int) (n i:Nat):Prop:=(∀ j,0<j→j<n→(j - 1) / 2≠i→gD l ((j - 1) / 2)≤gD l j)∧∀ j,0<j→j<n→(j - 1) / 2=i→0<i→gD l ((i - 1) / 2)≤gD l j
theorem Zg9.step {l:List Int} {n i q:Nat} (hu:Zg9 l n i) (hn:n≤l.length) (hi:i<n) (hq:q<n) (hqi:(q - 1) / 2=i) (hq0:0<q) (hlt:gD l q<gD l i) (hle:∀ j,0<j→j<n→(j - 1) / 2=i→gD l q≤gD l j):Zg9 (Tf l i q) n q:=by
 have hi':i<l.length:=by omega
 have hq':q<l.length:=by omega
 refine ⟨fun j hj0 hj hjp=>?_,fun j hj0 hj hjp _=>?_⟩
 ·rw [Zbn hi' hq',Zbn hi' hq',if_neg hjp]
  by_cases h1:(j - 1) / 2=i
  ·rw [if_pos h1]
   by_cases h2:j=q
   ·rw [if_pos h2];omega
   ·rw [if_neg h2,if_neg (by omega)];exact hle j hj0 hj h1
  ·rw [if_neg h1,if_neg (show j≠q by omega)]
   by_cases h2:j=i
   ·subst h2
    rw [if_pos rfl];exact hu.2 q hq0 hq hqi hj0
   ·rw [if_neg h2];exact hu.1 j hj0 hj h1
 ·rw [Zbn hi' hq',Zbn hi' hq',hqi,if_neg (by omega),if_pos rfl,if_neg (by omega),if_neg (by omega)]
  have:=hu.1 j hj0 hj (by omega)
  rwa [hjp] at this
theorem Z6k {l:List Int} {n i q:Nat} (hn:n≤l.length) (hi:i<n) (hq:q<n):(Tf l i q).take n=Tf (l.take n) i q:=by
 have h1:∀ j,j<n→gD (l.take n) j=gD l j:=fun j hj=>by rw [Sx (by simp;omega),Sx (by omega),List.getElem_take]
 rw [Tf,Tf,List.take_set,List.take_set,h1 i hi,h1 q hq]
theorem Zwg (N:Nat) (p0:List Int) (x0:Int) (n:Nat) (hp0:p0.length=n+1) (hn:n≤2000000) (hN:2000000<N):∀ (m:Nat) (l:List Int) (i:Nat),n<m+i→(i<n∨n=0∧i=0)→l.length=n+1→Zg9 l n i→
  ∃ t,T9 N p0 x0 m l (i:Int)=some (x0,t)∧t.Perm (l.take n)∧Tx t n
 | 0,l,i,hm,hi,hl,hu=>by omega
 | m+1,l,i,hm,hi,hl,hu=>by
  rw [T9.eq_2]
  obtain ⟨N,rfl⟩:∃ N',N=N'+1+1+1:=⟨N - 3,by omega⟩
  have w1:i64.wrap ((p0.length:Int) - 1)=(n:Int):=by rw [Z0 (by omega)];omega
  have wa:i64.wrap (i64.wrap (2 * (i:Int))+1)=((2 * i+1:Nat):Int):=by rw [Z0 (x:=2 * (i:Int)) (by omega),Z0 (by omega)];omega
  have wb:i64.wrap (i64.wrap (2 * (i:Int))+2)=((2 * i+2:Nat):Int):=by rw [Z0 (x:=2 * (i:Int)) (by omega),Z0 (by omega)];omega
  -- one child after the other
  have stepv:∀ (v:Nat) (k least:Nat),v<2→k=2 * i+1+v→(least<n∨n=0)→least<l.length→∀ f kk,Sa (N+1+1+1) p0 x0 l (i:Int) kk (f+1) (v:Int) (least:Int)=
    Sa (N+1+1+1) p0 x0 l (i:Int) kk f ((v+1:Nat):Int) ((if k<n∧gD l k<gD l least then k else least:Nat):Int):=by
   intro v k least hv hk hle hll f kk
   rw [Sa.eq_2,if_pos (dT (by omega)),wa,wb,w1]
   have hat:Zm [((2 * i+1:Nat):Int),((2 * i+2:Nat):Int)] (v:Int)=some (k:Int):=by
    rw [Zhe]
    match v,hv with
    | 0,_=>simp [hk]
    | 1,_=>simp [hk];omega
   rw [hat,oB]
   by_cases h1:k<n
   ·rw [if_pos (dT (by omega)),Qn (by omega),oB,Qn hll,oB,Ze7,Zbs,Zbs,wS (by omega)]
    by_cases h2:gD l k<gD l least
    ·rw [if_pos (dT h2),if_pos ⟨h1,h2⟩]
    ·rw [if_neg (by simpa using h2),if_neg (fun h=>h2 h.2)]
   ·rw [if_neg (by rw [decide_eq_true_eq];omega),Ze7,Zbs,Zbs,if_neg (by decide),wS (by omega),if_neg (fun h=>h1 h.1)]
  have hil:i<l.length:=by omega
  have e1:=stepv 0 (2 * i+1) i (by omega) (by omega) (by omega) hil (N+1+1) (T9 (N+1+1+1) p0 x0 m)
  generalize hq1:(if 2 * i+1<n∧gD l (2 * i+1)<gD l i then 2 * i+1 else i)=q1 at e1
  have hq1':(q1=i∧(2 * i+1<n→gD l i≤gD l (2 * i+1)))∨(q1=2 * i+1∧q1<n∧gD l q1<gD l i):=by
   by_cases hc:2 * i+1<n∧gD l (2 * i+1)<gD l i
   ·rw [if_pos hc] at hq1;subst hq1;exact .inr ⟨rfl,hc.1,hc.2⟩
   ·rw [if_neg hc] at hq1;subst hq1;exact .inl ⟨rfl,fun h=>by omega⟩
  have e2:=stepv 1 (2 * i+2) q1 (by omega) (by omega) (by omega) (by omega) (N+1) (T9 (N+1+1+1) p0 x0 m)
  generalize hq2:(if 2 * i+2<n∧gD l (2 * i+2)<gD l q1 then 2 * i+2 else q1)=q2 at e2
  have hq2':(q2=i∧(2 * i+1<n→gD l i≤gD l (2 * i+1))∧(2 * i+2<n→gD l i≤gD l (2 * i+2)))∨((q2=2 * i+1∨q2=2 * i+2)∧q2<n∧gD l q2<gD l i∧(2 * i+1<n→gD l q2≤gD l (2 * i+1))∧(2 * i+2<n→gD l q2≤gD l (2 * i+2))):=by
   by_cases hc:2 * i+2<n∧gD l (2 * i+2)<gD l q1
   ·rw [if_pos hc] at hq2;subst hq2
    rcases hq1' with ⟨rfl,h3⟩ | ⟨rfl,h3,h4⟩
    ·exact .inr ⟨.inr rfl,hc.1,hc.2,fun h=>by have:=h3 h;omega,fun _=>Int.le_refl _⟩
    ·exact .inr ⟨.inr rfl,hc.1,by omega,fun _=>by omega,fun _=>Int.le_refl _⟩
   ·rw [if_neg hc] at hq2;subst hq2
    rcases hq1' with ⟨rfl,h3⟩ | ⟨rfl,h3,h4⟩
    ·exact .inl ⟨rfl,h3,fun h=>by omega⟩
    ·exact .inr ⟨.inl rfl,h3,h4,fun _=>Int.le_refl _,fun h=>by omega⟩
  rw [show (0:Int)=((0:Nat):Int) from rfl,e1]
  rw [show ((0+1:Nat):Int)=((1:Nat):Int) from rfl,e2,Sa.eq_2,if_neg (by decide),w1,Int.toNat_natCast]
  rcases hq2' with ⟨rfl,h3,h4⟩ | ⟨h2,h3,h4,h5,h6⟩
  ·rw [if_pos (by simp)]
   refine ⟨_,rfl,.refl _,fun j hj0 hj=>?_⟩
   have ht:∀ k,k<n→gD (l.take n) k=gD l k:=fun k hk=>by rw [Sx (by simp;omega),Sx (by omega),List.getElem_take]
   rw [ht _ (by omega),ht _ hj]
   by_cases hq:(j - 1) / 2=q2
   ·rw [hq]
    rcases (show j=2 * q2+1∨j=2 * q2+2 by omega) with rfl | rfl
    ·exact h3 hj
    ·exact h4 hj
   ·exact hu.1 j hj0 hj hq
  ·have hq2l:q2<l.length:=by omega
   have hin:i<n:=by omega
   have hd:=hu.step (by omega) hin h3 (by omega) (by omega) h4 (fun j hj0 hj hji=>by
    rcases (show j=2 * i+1∨j=2 * i+2 by omega) with rfl | rfl
    ·exact h5 hj
    ·exact h6 hj)
   obtain ⟨t,k1,k2,k3⟩:=Zwg (N+1+1+1) p0 x0 n hp0 hn hN m (Tf l i q2) q2 (by omega) (.inl h3) (by rw [Zjz];exact hl) hd
   refine ⟨t,?_,k2.trans ?_,k3⟩
   ·rw [if_neg (by simp;omega),Qn hq2l,oB,Qn hil,oB,oB,Int.toNat_natCast,Int.toNat_natCast,Z5 (by simpa using hq2l),oB,oB]
    exact k1
   ·rw [Z6k (by omega) hin h3];exact Zyz (by simp;omega) (by simp;omega)
theorem Z47 {N:Nat} {h:List Int} (hl:h.length≤2000000) (h0:0<h.length) (hh:Tx h h.length) (hN:2000000<N):∃ x t,Zhs N h=some (x,t)∧h.Perm (x :: t)∧(∀ y ∈ h,x≤y)∧Tx t t.length:=by
 rw [Zhs]
 obtain ⟨n,hn⟩:∃ n,h.length=n+1:=⟨h.length - 1,by omega⟩
 have w1:i64.wrap ((h.length:Int) - 1)=(n:Int):=by rw [Z0 (by omega)];omega
 rw [w1,show (0:Int)=((0:Nat):Int) from rfl,Qn h0,oB,Qn (by omega),oB,oB,Z9 (by simp;omega),Int.toNat_natCast]
 have hd:Zg9 (h.set 0 (gD h n)) n 0:=by
  refine ⟨fun j hj0 hj hji=>?_,fun j _ _ _ h=>by omega⟩
  rw [Zkz _ _ _ _ h0,Zkz _ _ _ _ h0,if_neg (by omega),if_neg (by omega)]
  exact hh j hj0 (by omega)
 obtain ⟨t,h1,h2,h3⟩:=Zwg N h (gD h 0) n hn (by omega) hN N (h.set 0 (gD h n)) 0 (by omega) (by omega) (by simpa using hn) hd
 have hpm:h.Perm (gD h 0 :: (h.set 0 (gD h n)).take n):=by
  match h,hn with
  | x :: r,hn=>
   have hr:r.length=n:=by simpa using hn
   match n,hr with
   | 0,hr=>rw [List.length_eq_zero_iff.1 hr];exact .refl _
   | n+1,hr=>
    have e:gD (x :: r) (n+1)=gD r n:=rfl
    rw [e,List.set_cons_zero,List.take_succ_cons]
    refine List.Perm.cons x ?_
    have:r=r.take n++[gD r n]:=by
     have:=List.take_succ_eq_append_getElem (show n<r.length by omega)
     rw [List.take_of_length_le (by omega)] at this
     rw [Sx (by omega)];exact this
    conv=>lhs;rw [this]
    exact List.perm_append_singleton _ _
 have hp2:h.Perm (gD h 0 :: t):=hpm.trans (List.Perm.cons _ h2.symm)
 refine ⟨gD h 0,t,h1,hp2,fun y hy=>?_,?_⟩
 ·obtain ⟨j,hj,rfl⟩:=List.getElem_of_mem hy
  rw [← Sx hj];exact hh.min j hj
 ·have:=hp2.length_eq
  rw [nC,hn] at this
  rw [show t.length=n by omega];exact h3
theorem Xx {α:Type} {l:List α} {d:α} {j:Nat} (hj:j<l.length):l.getD j d=l[j]:=by rw [List.getD_eq_getElem?_getD,List.getElem?_eq_getElem hj];rfl
theorem Vs {α:Type} {l:List α} (d:α) {j:Nat} (hj:j<l.length):Zm l (j:Int)=some (l.getD j d):=by rw [Z5 hj,Xx hj]
theorem T8 {α:Type} (l:List α) (d:α) (i j:Nat) (x:α) (hi:i<l.length):(l.set i x).getD j d=if j=i then x else l.getD j d:=by
 rw [List.getD_eq_getElem?_getD,List.getD_eq_getElem?_getD,List.getElem?_set]
 by_cases h1:i=j
 ·subst h1;rw [if_pos rfl,if_pos hi,if_pos rfl];rfl
 ·rw [if_neg h1,if_neg (Ne.symm h1)]
def Vz:Nat→List R5→Int→List Int
 | _,[],_=>[]
 | k,l :: P,p=>List.replicate (l.count p) (k:Int)++Vz (k+1) P p
def Zj6 (n:Nat) (l:List Int):Prop:=∀ x ∈ l,0≤x∧x<(n:Int)
theorem Zsk (k:Nat) (kk:Nat→List R5→Option R9):∀ (l:List Int) (out:List R5),Zj6 out.length l→(∀ p:Nat,(out.getD p []).length+l.length≤1048576)→
  ∃ out',Zbq k kk l out=kk (k+1) out'∧out'.length=out.length∧∀ p:Nat,p<out.length→out'.getD p []=out.getD p []++List.replicate (l.count (p:Int)) (k:Int)
 | [],out,h,hb=>⟨out,by rw [Zbq.eq_1],rfl,fun p hp=>by simp⟩
 | x :: l,out,h,hb=>by
  obtain ⟨h0,h1⟩:=h x List.mem_cons_self
  obtain ⟨q,rfl⟩:=Int.eq_ofNat_of_zero_le h0
  have hq:q<out.length:=by omega
  have hbq:=hb q
  simp only [nC] at hbq hb
  rw [Zbq.eq_2,Vs [] hq,oB,Z9 (by simp only [nC,nN,maxLen];omega),Int.toNat_natCast]
  obtain ⟨out',h2,h3,h4⟩:=Zsk k kk l (out.set q (out.getD q []++[(k:Int)])) (by rw [nS];exact fun y hy=>h y (List.mem_cons_of_mem _ hy)) (fun p=>by
   rw [T8 _ _ _ _ _ hq]
   have:=hb p
   split
   ·simp only [nA,nC,nN];omega
   ·omega)
  refine ⟨out',h2,by rw [h3,nS],fun p hp=>?_⟩
  rw [h4 p (by rw [nS];exact hp),T8 _ _ _ _ _ hq,List.count_cons]
  by_cases hpq:p=q
  ·subst hpq
   rw [if_pos rfl,if_pos (by simp),List.append_assoc,show l.count (p:Int)+1=1+l.count (p:Int) by omega,show [(k:Int)]=List.replicate 1 (k:Int) from rfl,List.replicate_append_replicate]
  ·rw [if_neg hpq,if_neg (by simp;omega),Nat.add_zero]
theorem Zt9 (p:Int):∀ (k:Nat) (P:List R5),(Vz k P p).length≤Uy P
 | _,[]=>by simp [Vz]
 | k,l :: P=>by
  rw [Vz,nA,List.length_replicate,Zj1]
  have:=Zt9 p (k+1) P
  have:=List.count_le_length (a:=p) (l:=l)
  omega
theorem Zsj (n:Nat):∀ (P:List R5) (k:Nat) (out:List R5),out.length=n→(∀ l ∈ P,Zj6 n l)→(∀ p:Nat,(out.getD p []).length+Uy P≤1048576)→
  ∃ out',Qt P k out=some out'∧out'.length=n∧∀ p:Nat,p<n→out'.getD p []=out.getD p []++Vz k P p
 | [],k,out,hn,_,_=>⟨out,by rw [Qt.eq_1],hn,fun p hp=>by simp [Vz]⟩
 | l :: P,k,out,hn,h,hb=>by
  simp only [Zj1] at hb
  rw [Qt.eq_2]
  obtain ⟨out1,h1,h2,h3⟩:=Zsk k (Qt P) l out (by rw [hn];exact h l List.mem_cons_self) (fun p=>by have:=hb p;omega)
  obtain ⟨out',h4,h5,h6⟩:=Zsj n P (k+1) out1 (by omega) (fun x hx=>h x (List.mem_cons_of_mem _ hx)) (fun p=>by
   have:=hb p
   by_cases hp:p<out.length
   ·rw [h3 p hp,nA,List.length_replicate]
    have:=List.count_le_length (a:=(p:Int)) (l:=l)
    omega
   ·rw [List.getD_eq_getElem?_getD,List.getElem?_eq_none (by omega)];simp;omega)
  refine ⟨out',by rw [h1,h4],h5,fun p hp=>?_⟩
  rw [h6 p hp,h3 p (by omega),List.append_assoc,Vz]
theorem Z2b {P:List R5} (hP:P.length≤1048576) (ht:Uy P≤1048576) (h:∀ l ∈ P,Zj6 P.length l):∃ D,Ze4 P=some D∧D.length=P.length∧∀ p:Nat,p<P.length→D.getD p []=Vz 0 P p:=by
 rw [Ze4,Z9 (by simp only [maxLen];omega)]
 have hr:∀ p:Nat,(List.replicate P.length ([]:List Int)).getD p []=[]:=fun p=>by
  rw [List.getD_eq_getElem?_getD,List.getElem?_replicate];split <;> rfl
 obtain ⟨D,h1,h2,h3⟩:=Zsj P.length P 0 (List.replicate P.length []) (by simp) h (fun p=>by rw [hr];simpa using ht)
 exact ⟨D,h1,h2,fun p hp=>by rw [h3 p hp,hr];rfl⟩
theorem Zom (p:Int):∀ (k:Nat) (P:List R5) (c:Nat),(Vz k P p).count (c:Int)=if k≤c then (P.getD (c - k) []).count p else 0
 | k,[],c=>by simp [Vz]
 | k,l :: P,c=>by
  rw [Vz,List.count_append,Zom p (k+1) P c,List.count_replicate]
  by_cases h1:k=c
  ·subst h1
   rw [if_pos (by simp),if_neg (by omega),if_pos (Nat.le_refl _),Nat.sub_self];rfl
  ·rw [if_neg (by simp;omega)]
   by_cases h2:k≤c
   ·rw [if_pos (by omega),if_pos h2,show c - k=(c - (k+1))+1 by omega];simp
   ·rw [if_neg (by omega),if_neg h2]
theorem Zua (p:Int):∀ (k:Nat) (P:List R5) (x:Int),x ∈ Vz k P p→∃ c:Nat,x=(c:Int)∧k≤c∧c<k+P.length
 | k,[],x,h=>by simp [Vz] at h
 | k,l :: P,x,h=>by
  rw [Vz] at h
  rcases List.mem_append.1 h with h | h
  ·exact ⟨k,(List.mem_replicate.1 h).2,Nat.le_refl _,by simp⟩
  ·obtain ⟨c,h1,h2,h3⟩:=Zua p (k+1) P x h
   exact ⟨c,h1,by omega,by rw [nC];omega⟩
def Tj (P:List R5) (out:List Int) (c:Nat):Nat:=(P.getD c []).countP fun q=>!decide (q ∈ out)
theorem Zsr (out:List Int) (p:Int) (hp:p ∉ out):∀ l:List Int,(l.countP fun q=>!decide (q ∈ out))=(l.countP fun q=>!decide (q ∈ out++[p]))+l.count p
 | []=>rfl
 | x :: l=>by
  rw [List.countP_cons,List.countP_cons,List.count_cons,Zsr out p hp l]
  by_cases h1:x=p
  ·subst h1
   have h2:(!decide (x ∈ out))=true:=by simp [hp]
   have h3:(!decide (x ∈ out++[x]))=false:=by simp
   rw [h2,h3];simp;omega
  ·have h3:(x ∈ out++[p])↔x ∈ out:=by simp [h1]
   rw [show (!decide (x ∈ out++[p]))=(!decide (x ∈ out)) from congrArg _ (decide_eq_decide.2 h3),if_neg (show ¬ ((x==p)=true) by simpa using h1)];omega
theorem Zsq {P:List R5} {out:List Int} {p:Int} (hp:p ∉ out) (c:Nat):Tj P out c=Tj P (out++[p]) c+(P.getD c []).count p:=Zsr out p hp _
theorem Zxo (P:List R5) (out:List Int) (c:Nat):Td P out c=true↔(c:Int) ∉ out∧Tj P out c=0:=by
 rw [Td,Tj,List.countP_eq_zero]
 simp
structure Zj8 (P:List R5) (out left ready:List Int):Prop where
 ok:Ti P out
 len:left.length=P.length
 cnt:∀ c:Nat,c<P.length→left.getD c 0=(Tj P out c:Int)
 heap:Tx ready ready.length
 nd:ready.Nodup
 mem:∀ y:Int,y ∈ ready↔∃ c:Nat,c<P.length∧y=(c:Int)∧(c:Int) ∉ out∧left.getD c 0=0
theorem Zq5 (N:Nat) (P:List R5) (hP:P.length≤1048576) (ht:Uy P≤1048576) (hN:2000000<N) (out:List Int) (p:Nat) (r2:List Int) (kk:List Int→List Int→List Int→Option R5):
  ∀ (rest left ready:List Int),rest.length≤9000000000000000000→left.length=P.length→(∀ c:Nat,c<P.length→left.getD c 0=((Tj P (out++[(p:Int)]) c+rest.count (c:Int):Nat):Int))→
   Tx ready ready.length→ready.Nodup→(∀ y:Int,y ∈ ready↔∃ c:Nat,c<P.length∧y=(c:Int)∧(c:Int) ∉ out++[(p:Int)]∧left.getD c 0=0)→
   (∀ x ∈ rest,∃ c:Nat,c<P.length∧x=(c:Int)∧x ∉ out++[(p:Int)])→
   ∃ left' ready',Qy N out kk ((p:Int),r2) rest left ready=kk left' ready' (out++[(p:Int)])∧left'.length=P.length∧(∀ c:Nat,c<P.length→left'.getD c 0=(Tj P (out++[(p:Int)]) c:Int))∧
    Tx ready' ready'.length∧ready'.Nodup∧∀ y:Int,y ∈ ready'↔∃ c:Nat,c<P.length∧y=(c:Int)∧(c:Int) ∉ out++[(p:Int)]∧left'.getD c 0=0
 | [],left,ready,_,h1,h2,h3,h4,h5,_=>⟨left,ready,by rw [Qy.eq_1],h1,fun c hc=>by rw [h2 c hc];simp,h3,h4,h5⟩
 | x :: rest,left,ready,hrest,h1,h2,h3,h4,h5,h6=>by
  obtain ⟨c0,hc0,rfl,hx⟩:=h6 x List.mem_cons_self
  have hc0l:c0<left.length:=by omega
  have hcx:=h2 c0 hc0
  rw [List.count_cons,if_pos (by simp)] at hcx
  have hle:Tj P (out++[(p:Int)]) c0≤1048576:=by
   have h7:=List.countP_le_length (p:=fun q=>!decide (q ∈ out++[(p:Int)])) (l:=P.getD c0 [])
   rw [Xx hc0] at h7
   have h8:=Znd (P:=P) (List.getElem_mem hc0)
   rw [Tj,Xx hc0];omega
  have hrl:ready.length≤P.length:=by
   have h7:=Zjj (r:=(List.range P.length).map fun i:Nat=>(i:Int)) h4 fun y hy=>by
    obtain ⟨c,h8,h9,_⟩:=(h5 y).1 hy
    exact List.mem_map.2 ⟨c,List.mem_range.2 h8,h9.symm⟩
   simpa using h7
  have hv:i64.wrap (left.getD c0 0 - 1)=((Tj P (out++[(p:Int)]) c0+rest.count (c0:Int):Nat):Int):=by
   have h9:=List.count_le_length (a:=(c0:Int)) (l:=rest)
   rw [hcx,Z0]
   ·omega
   ·simp only [nC] at hrest
    omega
  have hl1:∀ c:Nat,c<P.length→(left.set c0 (i64.wrap (left.getD c0 0 - 1))).getD c 0=((Tj P (out++[(p:Int)]) c+rest.count (c:Int):Nat):Int):=fun c hc=>by
   rw [T8 _ _ _ _ _ hc0l]
   by_cases hcc:c=c0
   ·subst hcc;rw [if_pos rfl,hv]
   ·rw [if_neg hcc,h2 c hc,List.count_cons,if_neg (by simp;omega),Nat.add_zero]
  have hne:left.getD c0 0≠0:=by rw [hcx];omega
  have hnr:(c0:Int) ∉ ready:=fun h=>by
   obtain ⟨c,h8,h9,_,h10⟩:=(h5 _).1 h
   have:c=c0:=by omega
   subst this;exact hne h10
  have h6':∀ x ∈ rest,∃ c:Nat,c<P.length∧x=(c:Int)∧x ∉ out++[(p:Int)]:=fun x hx=>h6 x (List.mem_cons_of_mem _ hx)
  have hr':rest.length≤9000000000000000000:=by simp only [nC] at hrest;omega
  rw [Qy.eq_2,Vs 0 hc0l,oB,oB,Int.toNat_natCast,Vs 0 (by rw [nS];exact hc0l),oB,Zfb,T8 _ _ _ _ _ hc0l,if_pos rfl]
  by_cases hz:i64.wrap (left.getD c0 0 - 1)=0
  ·obtain ⟨ready1,k1,k2,k3⟩:=Zwt (N:=N) (c0:Int) (by omega:ready.length<2000000) h3 hN
   rw [if_pos (by simpa using hz),k1,oB,Zfb]
   refine Zq5 N P hP ht hN out p r2 kk rest _ ready1 hr' (by rw [nS];exact h1) hl1 k3 (k2.nodup_iff.2 (List.nodup_cons.2 ⟨hnr,h4⟩)) (fun y=>?_) h6'
   rw [k2.mem_iff,List.mem_cons]
   constructor
   ·rintro (rfl | hy)
    ·exact ⟨c0,hc0,rfl,hx,by rw [T8 _ _ _ _ _ hc0l,if_pos rfl,hz]⟩
    ·obtain ⟨c,h8,h9,h10,h11⟩:=(h5 y).1 hy
     refine ⟨c,h8,h9,h10,?_⟩
     rw [T8 _ _ _ _ _ hc0l]
     split
     ·exact hz
     ·exact h11
   ·rintro ⟨c,h8,h9,h10,h11⟩
    by_cases hcc:c=c0
    ·subst hcc;exact .inl h9
    ·rw [T8 _ _ _ _ _ hc0l,if_neg hcc] at h11
     exact .inr ((h5 y).2 ⟨c,h8,h9,h10,h11⟩)
  ·rw [if_neg (by simpa using hz)]
   refine Zq5 N P hP ht hN out p r2 kk rest _ ready hr' (by rw [nS];exact h1) hl1 h3 h4 (fun y=>?_) h6'
   rw [h5 y]
   constructor
   ·rintro ⟨c,h8,h9,h10,h11⟩
    refine ⟨c,h8,h9,h10,?_⟩
    rw [T8 _ _ _ _ _ hc0l,if_neg (fun h=>hne (by rw [← h];exact h11))];exact h11
   ·rintro ⟨c,h8,h9,h10,h11⟩
    refine ⟨c,h8,h9,h10,?_⟩
    rw [T8 _ _ _ _ _ hc0l] at h11
    split at h11
    ·exact absurd h11 hz
    ·exact h11
theorem Z6g {N:Nat} {P D:List R5} (hP:P.length≤1048576) (ht:Uy P≤1048576) (hN:2000000<N) (hD:D.length=P.length) (hDk:∀ p:Nat,p<P.length→D.getD p []=Vz 0 P p) {out left ready:List Int} (hi:Zj8 P out left ready) (n:Nat):
  (Vh P out 0=none→Up N D (n+1) left ready out=some out)∧
  ∀ p,Vh P out 0=some p→∃ left' ready',Zj8 P (out++[(p:Int)]) left' ready'∧Up N D (n+1) left ready out=Up N D n left' ready' (out++[(p:Int)]):=by
 have hrl:ready.length≤P.length:=by
  have h7:=Zjj (r:=(List.range P.length).map fun i:Nat=>(i:Int)) hi.nd fun y hy=>by
   obtain ⟨c,h8,h9,_⟩:=(hi.mem y).1 hy
   exact List.mem_map.2 ⟨c,List.mem_range.2 h8,h9.symm⟩
  simpa using h7
 have hrd:∀ c:Nat,c<P.length→(Td P out c=true↔(c:Int) ∈ ready):=fun c hc=>by
  rw [Zxo,hi.mem]
  constructor
  ·rintro ⟨h1,h2⟩;exact ⟨c,hc,rfl,h1,by rw [hi.cnt c hc,h2];rfl⟩
  ·rintro ⟨c',h1,h2,h3,h4⟩
   have:c'=c:=by omega
   subst this
   rw [hi.cnt c' h1] at h4
   exact ⟨h3,by omega⟩
 refine ⟨fun hn=>?_,fun p hn=>?_⟩
 ·have h0:ready=[]:=by
   cases hr:ready with
   | nil=>rfl
   | cons y l=>
    obtain ⟨c,h1,h2,_⟩:=(hi.mem y).1 (by rw [hr];exact List.mem_cons_self)
    have h3:=Z4o hn c (Nat.zero_le _) h1
    have h4:=(hrd c h1).2 (by rw [← h2,hr];exact List.mem_cons_self)
    rw [h3] at h4;cases h4
  rw [Up.eq_2,h0,if_neg (by decide)]
 ·obtain ⟨_,hp,hr,hmin⟩:=Zvm hn
  have hpr:=(hrd p hp).1 hr
  have hpos:0<ready.length:=List.length_pos_of_mem hpr
  obtain ⟨x,t,k1,k2,k3,k4⟩:=Z47 (N:=N) (by omega:ready.length≤2000000) hpos hi.heap hN
  have hxr:x ∈ ready:=k2.mem_iff.2 List.mem_cons_self
  have hxp:x=(p:Int):=by
   obtain ⟨c,h1,h2,_⟩:=(hi.mem x).1 hxr
   have h3:=k3 _ hpr
   have h4:¬ c<p:=fun hlt=>by
    have h5:=hmin c (Nat.zero_le _) hlt
    have h6:=(hrd c h1).2 (by rw [← h2];exact hxr)
    rw [h5] at h6;cases h6
   omega
  subst hxp
  have hnd:((p:Int) :: t).Nodup:=k2.nodup_iff.1 hi.nd
  obtain ⟨hp1,hp2⟩:=(Zxo P out p).1 hr
  obtain ⟨hok,hlt⟩:=hi.ok.step hn
  have hol:=hi.ok.len
  have hself:(P.getD p []).count (p:Int)=0:=by have:=Zsq (P:=P) hp1 p;omega
  rw [Up.eq_2,if_pos (dT (by omega)),k1,oB,Z9 (by simp only [nC,nN,maxLen];omega),Vs [] (by rw [hD];exact hp),oB,hDk p hp]
  have hkl:=Zt9 (p:Int) 0 P
  obtain ⟨left',ready',h1,h2,h3,h4,h5,h6⟩:=Zq5 N P hP ht hN out p t (Up N D n) (Vz 0 P p) left t (by omega) hi.len (fun c hc=>by
    rw [hi.cnt c hc,Zsq hp1 c,Zom (p:Int) 0 P c,if_pos (Nat.zero_le _),Nat.sub_zero]) k4 (List.nodup_cons.1 hnd).2 (fun y=>by
    have h7:y ∈ t↔y ∈ ready∧y≠(p:Int):=by
     rw [k2.mem_iff,List.mem_cons]
     exact ⟨fun h=>⟨.inr h,fun e=>(List.nodup_cons.1 hnd).1 (by rw [← e];exact h)⟩,fun h=>h.1.resolve_left h.2⟩
    rw [h7,hi.mem]
    constructor
    ·rintro ⟨⟨c,h8,h9,h10,h11⟩,h12⟩
     exact ⟨c,h8,h9,by rw [List.mem_append,List.mem_singleton];exact fun h=>h.elim h10 fun h=>h12 (by rw [h9,h]),h11⟩
    ·rintro ⟨c,h8,h9,h10,h11⟩
     rw [List.mem_append,List.mem_singleton] at h10
     exact ⟨⟨c,h8,h9,fun h=>h10 (.inl h),h11⟩,fun h=>h10 (.inr (by rw [← h9,h]))⟩) (fun x hx=>by
    obtain ⟨c,h7,_,h8⟩:=Zua (p:Int) 0 P x hx
    have h8:c<P.length:=by omega
    have h9:=Zom (p:Int) 0 P c
    rw [if_pos (Nat.zero_le _),Nat.sub_zero] at h9
    have h10:0<(P.getD c []).count (p:Int):=by rw [← h9,← h7];exact List.count_pos_iff.2 hx
    refine ⟨c,h8,h7,fun h=>?_⟩
    rcases List.mem_append.1 h with h | h
    ·rw [h7] at h
     have h11:=hi.ok.2.2 c h8 h (p:Int) (by rw [Xx h8] at h10;exact List.count_pos_iff.1 h10)
     exact hp1 h11
    ·rw [List.mem_singleton] at h
     have:c=p:=by omega
     subst this
     omega)
  exact ⟨left',ready',⟨hok,h2,h3,h4,h5,h6⟩,h1⟩
theorem Zyk {N:Nat} {P D:List R5} (hP:P.length<1048576) (hls:∀ x ∈ P,x.length≤1048576) (ht:Uy P≤1048576) (hN:2000000<N) (hD:D.length=P.length) (hDk:∀ p:Nat,p<P.length→D.getD p []=Vz 0 P p):∀ (n:Nat) (out left ready:List Int),Zj8 P out left ready→P.length<n+out.length→
  Up N D n left ready out=Zd2 N P n out
 | 0,out,left,ready,hi,hn=>by have:=hi.ok.len;omega
 | n+1,out,left,ready,hi,hn=>by
  have hl:=hi.ok.len
  obtain ⟨h1,h2⟩:=Z6g (N:=N) (by omega) ht hN hD hDk hi n
  rw [Zv7 (by omega) hls (by omega) (by omega)]
  cases hnx:Vh P out 0 with
  | none=>rw [h1 hnx];rfl
  | some p=>
   obtain ⟨left',ready',h3,h4⟩:=h2 p hnx
   rw [h4]
   exact Zyk hP hls ht hN hD hDk n _ _ _ h3 (by simp;omega)
theorem Zq4 {N:Nat} (P D:List R5) (hP:P.length<1048576) (hN:2000000<N) (hl:∀ l ∈ P,l.length≤1048576):∀ (Q:List R5) (k:Nat) (left ready:List Int),P.drop k=Q→k≤P.length→left.length=P.length→
  (∀ c:Nat,c<k→left.getD c 0=((P.getD c []).length:Int))→Tx ready ready.length→ready.Nodup→(∀ y:Int,y ∈ ready↔∃ c:Nat,c<k∧y=(c:Int)∧(P.getD c []).length=0)→
  ∃ left' ready',Qx N D Q k left ready=Up N D N left' ready' []∧Zj8 P [] left' ready'
 | [],k,left,ready,hQ,hk,h1,h2,h3,h4,h5=>by
  have hkP:k=P.length:=by have:=congrArg List.length hQ;simp at this;omega
  subst hkP
  have hc0:∀ c,Tj P [] c=(P.getD c []).length:=fun c=>by
   rw [Tj,List.countP_eq_length.2 (fun a _=>by simp)]
  refine ⟨left,ready,by rw [Qx.eq_1],⟨⟨.nil,by simp,by simp⟩,h1,fun c hc=>by rw [h2 c hc,hc0],h3,h4,fun y=>?_⟩⟩
  rw [h5]
  constructor
  ·rintro ⟨c,h6,h7,h8⟩;exact ⟨c,h6,h7,by simp,by rw [h2 c h6,h8];rfl⟩
  ·rintro ⟨c,h6,h7,_,h8⟩;exact ⟨c,h6,h7,by rw [h2 c h6] at h8;omega⟩
 | x :: Q,k,left,ready,hQ,hk,h1,h2,h3,h4,h5=>by
  have hkl:k<P.length:=by
   rcases Nat.lt_or_ge k P.length with h | h
   ·exact h
   ·rw [List.drop_eq_nil_of_le h] at hQ;cases hQ
  rw [List.drop_eq_getElem_cons hkl] at hQ
  obtain ⟨hx,hQ⟩:=List.cons.inj hQ
  have hxd:P.getD k []=x:=by rw [Xx hkl,hx]
  have hkl':k<left.length:=by omega
  have hrl:ready.length≤k:=by
   have h7:=Zjj (r:=(List.range k).map fun i:Nat=>(i:Int)) h4 fun y hy=>by
    obtain ⟨c,h8,h9,_⟩:=(h5 y).1 hy
    exact List.mem_map.2 ⟨c,List.mem_range.2 h8,h9.symm⟩
   simpa using h7
  have hl1:∀ c:Nat,c<k+1→(left.set k (x.length:Int)).getD c 0=((P.getD c []).length:Int):=fun c hc=>by
   rw [T8 _ _ _ _ _ hkl']
   by_cases hck:c=k
   ·subst hck;rw [if_pos rfl,hxd]
   ·rw [if_neg hck,h2 c (by omega)]
  have hnr:(k:Int) ∉ ready:=fun h=>by obtain ⟨c,h6,h7,_⟩:=(h5 _).1 h;omega
  rw [Qx.eq_2,Vs 0 hkl',oB,oB,Int.toNat_natCast]
  by_cases h0:x.length=0
  ·obtain ⟨ready1,k1,k2,k3⟩:=Zwt (N:=N) (k:Int) (by omega:ready.length<2000000) h3 hN
   rw [if_pos (dT (by omega)),k1,oB,Zfc]
   refine Zq4 P D hP hN hl Q (k+1) _ ready1 hQ (by omega) (by rw [nS];exact h1) hl1 k3 (k2.nodup_iff.2 (List.nodup_cons.2 ⟨hnr,h4⟩)) (fun y=>?_)
   rw [k2.mem_iff,List.mem_cons,h5]
   constructor
   ·rintro (rfl | ⟨c,h6,h7,h8⟩)
    ·exact ⟨k,by omega,rfl,by rw [hxd];exact h0⟩
    ·exact ⟨c,by omega,h7,h8⟩
   ·rintro ⟨c,h6,h7,h8⟩
    by_cases hck:c=k
    ·subst hck;exact .inl h7
    ·exact .inr ⟨c,by omega,h7,h8⟩
  ·rw [if_neg (by rw [decide_eq_true_eq];omega),Zfc]
   refine Zq4 P D hP hN hl Q (k+1) _ ready hQ (by omega) (by rw [nS];exact h1) hl1 h3 h4 (fun y=>?_)
   rw [h5]
   constructor
   ·rintro ⟨c,h6,h7,h8⟩;exact ⟨c,by omega,h7,h8⟩
   ·rintro ⟨c,h6,h7,h8⟩
    by_cases hck:c=k
    ·subst hck;rw [hxd] at h8;exact absurd h8 h0
    ·exact ⟨c,by omega,h7,h8⟩
theorem Z6f {N:Nat} {P D:List R5} (hP:P.length<1048576) (hls:∀ x ∈ P,x.length≤1048576) (ht:Uy P≤1048576) (hN:2000000<N) (hD:D.length=P.length) (hDk:∀ p:Nat,p<P.length→D.getD p []=Vz 0 P p):Zfa N P D=Za4 N P:=by
 rw [Zfa,Z9 (by simp only [maxLen];omega),Za4]
 obtain ⟨left,ready,h1,h2⟩:=Zq4 (N:=N) P D hP hN hls P 0 (List.replicate P.length 0) [] rfl (Nat.zero_le _) (by simp) (fun c hc=>by omega) (fun j _ hj=>by simp at hj) .nil (fun y=>by simp)
 rw [h1]
 exact Zyk hP hls ht hN hD hDk N [] _ _ h2 (by simp;omega)
theorem Ztk (kk:Option Int):∀ (l:List Int) (seen:List Rf) (S:List Int),S.Nodup→(∀ k,Wi seen k=if k ∈ S then some 1 else none)→Zbr kk l seen=if (S++l).Nodup then kk else some 40
 | [],seen,S,h1,h2=>by rw [Zbr.eq_1,List.append_nil,if_pos h1]
 | x :: l,seen,S,h1,h2=>by
  rw [Zbr.eq_2,h2 x]
  by_cases hx:x ∈ S
  ·rw [if_pos hx,if_pos (by decide),if_neg]
   intro h
   exact (List.nodup_append.1 h).2.2 x hx x List.mem_cons_self rfl
  ·rw [if_neg hx,if_neg (by decide),oB,Ztk kk l _ (S++[x]) (by
    rw [List.nodup_append]
    refine ⟨h1,by simp,fun a ha b hb e=>?_⟩
    rw [List.mem_singleton] at hb;subst hb;subst e;exact hx ha) (fun k=>by
    rw [Zu7,h2 k]
    by_cases hk:k=x
    ·subst hk;rw [if_pos rfl,if_pos (by simp)]
    ·rw [if_neg hk]
     by_cases hs:k ∈ S
     ·rw [if_pos hs,if_pos (by simp [hs])]
     ·rw [if_neg hs,if_neg (by simp [hs,hk])])]
   rw [List.append_assoc];rfl
theorem Ztj:∀ P:List R5,Qv P=if Uz P then some 40 else some 0
 | []=>by rw [Qv.eq_1];rfl
 | l :: P=>by
  rw [Qv.eq_2,Ztk _ l [] [] .nil (fun k=>by simp [Wi]),Ztj P,List.nil_append]
  by_cases h:l.Nodup
  ·rw [if_pos h]
   have:Uz (l :: P)=Uz P:=by rw [Uz,Uz,List.any_cons,decide_eq_true h];rfl
   rw [this]
  ·rw [if_neg h]
   have:Uz (l :: P)=true:=by rw [Uz,List.any_cons,decide_eq_false h];rfl
   rw [this];rfl
theorem Ztl (P:List R5) (kk:Option Int):∀ l:List Int,Qw P kk l=if (l.all fun p=>decide (0≤p∧p<(P.length:Int)))=true then kk else some 3
 | []=>by rw [Qw.eq_1];rfl
 | x :: l=>by
  rw [Qw.eq_2,Ztl P kk l,Ze6,Ze6,List.all_cons]
  by_cases h1:x<0
  ·rw [if_pos (by simpa using h1),if_pos rfl,decide_eq_false (by omega),Bool.false_and,if_neg (by decide)]
  ·rw [if_neg (by simpa using h1)]
   by_cases h2:(P.length:Int)≤x
   ·rw [if_pos (by simpa using h2),decide_eq_false (by omega),Bool.false_and,if_neg (by decide)]
   ·rw [if_neg (by simpa using h2),decide_eq_true (by omega),Bool.true_and]
theorem Zti (P:List R5):∀ Q:List R5,Qu P Q=if Ua P.length Q=true then Qv P else some 3
 | []=>by rw [Qu.eq_1];rfl
 | l :: Q=>by
  rw [Qu.eq_2,Ztl,Zti P Q]
  by_cases h:(l.all fun p=>decide (0≤p∧p<(P.length:Int)))=true
  ·rw [if_pos h]
   have:Ua P.length (l :: Q)=Ua P.length Q:=by rw [Ua,Ua,List.all_cons,h,Bool.true_and]
   rw [this]
  ·rw [if_neg h]
   have:Ua P.length (l :: Q)=false:=by rw [Ua,List.all_cons,Bool.eq_false_iff.2 h,Bool.false_and]
   rw [this,if_neg (by decide)]
theorem Z3g (P:List R5):Ze5 P=if Ua P.length P=true then (if Uz P=true then some 40 else some 0) else some 3:=by
 rw [Ze5,Zti,Ztj]
structure Zka (P:List R5):Prop where
 n:P.length≤1048575
 t:Uy P≤1048576
theorem Zka.ls {P:List R5} (h:Zka P):∀ x ∈ P,x.length≤1048576:=fun x hx=>Nat.le_trans (Znd hx) h.t
theorem Zt4 {P:List R5} {n:Nat} (h:Ua n P=true):∀ l ∈ P,Zj6 n l:=by
 intro l hl x hx
 rw [Ua,List.all_eq_true] at h
 have:=List.all_eq_true.1 (h l hl) x hx
 simpa using this
inductive Zj9 (N:Nat) (P:List R5):Prop
 | err (e:Int) (D:Zan N P=some ([],e)) (R:Zgk N P=some e) (ne:e=3∨e=40):Zj9 N P
 | cyc (I:Ua P.length P=true) (T:Uz P=false) (l:List Int) (o:Za4 N P=some l) (ok:Ti P l) (mx:Vh P l 0=none) (lt:l.length<P.length) (D:Zan N P=some ([],42)) (R:Zgk N P=some 42):Zj9 N P
 | ord (I:Ua P.length P=true) (T:Uz P=false) (l:List Int) (o:Za4 N P=some l) (ok:Ti P l) (mx:Vh P l 0=none) (eq:l.length=P.length) (D:Zan N P=some (l,0)) (R:Zgk N P=some 0):Zj9 N P
theorem Zyc {N:Nat} {P:List R5} (h:Zka P) (hN:2000000<N):Zj9 N P:=by
 have hn:=h.n
 have ht:=h.t
 have hls:=h.ls
 have hls':∀ x ∈ P,x.length≤1048576:=fun x hx=>by have:=hls x hx;omega
 have hD:Zan N P=(Ze5 P).bind fun r_1=>if (!decide (r_1=0))=true then (some (([]:List Int),r_1)) else ((Ze4 P).bind fun r_5=>(Zfa N P r_5).bind fun r_13=>if (decide ((r_13.length:Int)<(P.length:Int)))=true then (some (([]:List Int),42)) else (some (r_13,0))):=by rw [Zan]
 have hR:Zgk N P=(Zl1 N P).bind fun r_1=>if (!r_1)=true then (some 3) else ((Zl5 N P).bind fun r_5=>if r_5=true then (some 40) else ((Za4 N P).bind fun r_9=>if (decide ((r_9.length:Int)<(P.length:Int)))=true then (some 42) else (some 0))):=by rw [Zgk]
 rw [Z3g] at hD
 rw [Z3r (by omega) hls' (by omega),oB] at hR
 by_cases hI:Ua P.length P=true
 ·rw [hI,if_neg (by decide),Z6n (by omega) hls' (by omega),oB] at hR
  rw [if_pos hI] at hD
  by_cases hT:Uz P=true
  ·rw [if_pos hT] at hD hR
   exact .err 40 (by rw [hD];rfl) hR (.inr rfl)
  ·rw [if_neg hT] at hD hR
   obtain ⟨l,h1,h2,h3⟩:=Z40 (N:=N) (P:=P) (by omega) hls' (by omega)
   obtain ⟨D,h4,h5,h6⟩:=Z2b (P:=P) (by omega) (by omega) (Zt4 hI)
   rw [h1,oB] at hR
   rw [oB,if_neg (by decide),h4,oB,Z6f (by omega) hls' (by omega) hN h5 h6,h1,oB] at hD
   have hT:=Bool.eq_false_iff.2 hT
   have hle:=h2.len
   by_cases hlt:l.length<P.length
   ·rw [if_pos (dT (by omega))] at hR hD
    exact .cyc hI hT l h1 h2 h3 hlt hD hR
   ·rw [if_neg (by rw [decide_eq_true_eq];omega)] at hR hD
    exact .ord hI hT l h1 h2 h3 (by omega) hD hR
 ·rw [Bool.eq_false_iff.2 hI,if_pos (by decide)] at hR
  rw [if_neg hI] at hD
  exact .err 3 (by rw [hD];rfl) hR (.inl rfl)
def Zgd (ab:List Int) (aa:Int) (kk_L1:(Int→Option R5)) (ac:Bool):Option R5:=
  if ac=true then (kk_L1 (i64.wrap (aa - 1))) else (Zt ((0:Int)≤aa∧aa≤(ab.length:Int)) (Zt ((([]:List Int).length+(ab.take (Int.toNat aa)).length) * 4≤140737488355328∧([]:List Int).length+(ab.take (Int.toNat aa)).length≤maxLen) (some (([]:List Int)++(ab.take (Int.toNat aa))))))
def Za3 (N:Nat) (aa:List Int):Nat→Int→Option R5
  | 0,_=>none
  | ac+1,ab=>if (decide (0<ab))=true then ((Zm aa (i64.wrap (ab - 1))).bind fun ad=>Zgd aa ab (Za3 N aa ac) (decide (ad=0))) else (Zgd aa ab (Za3 N aa ac) false)
termination_by structural x=>x
def Vn (N:Nat) (aa:List Int):Option R5:=
  Za3 N aa N (aa.length:Int)
theorem Zcy {N ae:Nat} {a0:Option Addr} {col:Ze} {w0:World} {ab r:R5} (c1:Nat) (hm:Vn N ab=some r) (h0:Sl (Za.int .u32) col w0 a0 ae ab):
    Calls prog 175 #[.slice a0 ab.length ae] w0 (fun e w'=>∃ (col':Ze) (ra1:Option Addr) (rc2:Nat),e= .returned ((.slice ra1 r.length rc2))∧Zh col w0 col' w'∧Zb (Za.int .u32) 95 c1 col' w' ra1 rc2 r):=by
 refine Xf 2 (m:=24) func175 rfl rfl rfl rfl rfl ?_;rw [Vn.eq_1] at hm;have aa:=St.start col w0;refine go ?_;refine Zu [0,1000000] (fun n f aj=>∃ ak ac ad,ad=n∧Za3 N ab ad ac=some r∧St w0 (Zj col) ak aj∧[3].map f=[.int .i64 ac]) N ⟨_,_,_,rfl,hm,aa,rfl⟩ ?_;clear hm;intro n f aj hI;obtain ⟨ak,ac,ad,hn,hm,aa,hs⟩:=hI;subst hn;refine .lL [3] hs ?_;replace h0:=h0.keep (Zi.start col w0)
 cases ad with
 | zero=>rw [Za3.eq_1] at hm;cases hm
 | succ ad=>
  rw [Za3.eq_2] at hm;refine Zs<|Zs ?_;refine Wp.cutK [0,3,1000000] (fun f al=>∃ am af,Zgd ab ac (Za3 N ab ad) af=some r∧St w0 (Zj col) am al∧[16].map f=[.bool af]) ?_ ?_
  ·intro f al hJ;obtain ⟨am,af,hm,aa,hs⟩:=hJ;rw [Zgd.eq_1] at hm;refine .lL [16] hs ?_;refine Zo hm (fun hb hm=>go ?_) fun hb hm=>go ?_
   ·exact ⟨ad,by omega,rfl,⟨_,_,_,rfl,hm,aa,rfl⟩⟩
   obtain ⟨ag,hm⟩:=Z3 hm;refine lv (v:=.slice a0 (Int.toNat ac) ae) rfl rfl (Zju underlying35 sizeOf95 rfl rfl ag.1 (by have:=(h0.ks aa).1.2;have:=ag.2;omega))<|.ld (d:=22) (v:=(.slice a0 ((ab.take (Int.toNat ac)).length) ae)) (congrArg (fun n=>Value.slice a0 n ae) (List.length_take_of_le (show (Int.toNat ac)≤ab.length by have:=ag.2;omega)).symm) ?_;obtain ⟨an,hm⟩:=Z3 hm;refine W7 (c:=1) Zb.nil ((h0.ks aa).take (Int.toNat ac)).srcC an ?_;intro ar au av aw ao ap;refine go ?_;cases hm;replace aa:=aa.kpp ao;exact ⟨rfl,_,_,_,rfl,aa.fin (cm [(1,c1)]),aa.fo ap⟩
  refine go ?_;refine Yc hm (fun ah hm=>go ?_) fun ah hm=>go ?_
  ·obtain ⟨aq,ai,hm⟩:=bZ hm;refine lI ai ((h0.ks aa).addr ai) ?_;refine go ?_;refine lW ((h0.ks aa).atInt ai)<|go ?_;refine lV (.bool (decide (aq=0))) (Xr (congrArg Value.bool ah) rfl)<|Zl ?_;exact ⟨rfl,_,_,hm,aa,rfl⟩
  refine lV (.bool false) (Xq (congrArg Value.bool ah) rfl)<|Zl ?_;exact ⟨rfl,_,_,hm,aa,rfl⟩
def Zli (N:Nat):Nat→Int→Int→Option Int
  | 0,_,_=>none
  | ac+1,aa,ab=>if (decide (0<ab))=true then ((Zli N ac) (i64.wrap (aa+1)) (u32.wrap (Int.tdiv ab 2))) else (some aa)
termination_by structural x=>x
def Zo1 (N:Nat) (ab:List Int):Option Int:=
  (Vn N ab).bind fun aa=>if (decide ((aa.length:Int)=0))=true then (some 0) else ((Zm aa (i64.wrap ((aa.length:Int) - 1))).bind fun ac=>Zli N N (i64.wrap (32 * (i64.wrap ((aa.length:Int) - 1)))) ac)
def Qa (aa:List Int) (ab:Int):Option Int:=
  if (decide (ab<(aa.length:Int)))=true then ((Zm aa ab).bind fun ac=>some (u64.wrap ac)) else (some 0)
theorem Zev {ad:Nat} {a0:Option Addr} {col:Ze} {w0:World} {ab:R5} {ae r:Int} (hm:Qa ab ae=some r) (h0:Sl (Za.int .u32) col w0 a0 ad ab):
    Calls prog 213 #[.slice a0 ab.length ad,.int .i64 ae] w0 (fun e w'=>e= .returned ((.int .u64 r))∧Below w0.heap.size w0 w'):=by
 refine Xf 4 (m:=14) func213 rfl rfl rfl rfl rfl ?_;rw [Qa.eq_1] at hm;have aa:=St.start col w0;refine go ?_;replace h0:=h0.keep (Zi.start col w0);refine Zo hm (fun hb hm=>go ?_) fun hb hm=>go ?_
 ·obtain ⟨af,ac,hm⟩:=bZ hm;refine lI ac ((h0.ks aa).addr ac)<|lW ((h0.ks aa).atInt ac) ?_;refine go ?_;cases hm;exact ⟨rfl,rfl,aa.below⟩
 cases hm;exact ⟨rfl,rfl,aa.below⟩
def Zo0 (ab:List Int) (aa:Int):Option Int:=
  (Qa ab (i64.wrap (Int.tdiv aa 32))).bind fun ac=>Zt (0≤(Int.tmod aa 32)) (some (Int.tmod (u32.wrap (Yw .u64 ac (Int.tmod aa 32))) 2))
def Zls (aa:List Int):Option R5:=
  some aa
def Zlt (N:Nat) (ad:List Int):Nat→R5→Int→Int→Option R5
  | 0,_,_,_=>none
  | af+1,ab,aa,ae=>if (decide (ae<(ad.length:Int)))=true then ((Zm ad ae).bind fun ac=>Zt ((ab.length+[u32.wrap (Int.tmod (u64.wrap (aa+(u64.wrap (2 * (u64.wrap ac))))) 4294967296)].length) * 4≤140737488355328∧ab.length+[u32.wrap (Int.tmod (u64.wrap (aa+(u64.wrap (2 * (u64.wrap ac))))) 4294967296)].length≤maxLen) ((Zlt N ad af) (ab++[u32.wrap (Int.tmod (u64.wrap (aa+(u64.wrap (2 * (u64.wrap ac))))) 4294967296)]) (u64.wrap (Int.tdiv (u64.wrap (aa+(u64.wrap (2 * (u64.wrap ac))))) 4294967296)) (i64.wrap (ae+1)))) else (if (decide (0<aa))=true then (Zt ((ab.length+[u32.wrap aa].length) * 4≤140737488355328∧ab.length+[u32.wrap aa].length≤maxLen) (Zls (ab++[u32.wrap aa]))) else (Zls ab))
termination_by structural x=>x
def Zlr (N:Nat) (aa:List Int) (ab:Int):Option R5:=
  Zlt N aa N ([]:List Int) (u64.wrap ab) 0
def Zd1 (N:Nat) (ab:List Int) (ac:List Int):Nat→Int→Option Int
  | 0,_=>none
  | af+1,aa=>if (decide (0≤aa))=true then ((Qa ab aa).bind fun ad=>(Qa ac aa).bind fun ae=>if (decide (ad<ae))=true then (some (-1)) else (if (decide (ae<ad))=true then (some 1) else ((Zd1 N ab ac af) (i64.wrap (aa - 1))))) else (some 0)
termination_by structural x=>x
def Zga (N:Nat) (aa:List Int) (ab:List Int) (ac:Int):Option Int:=
  Zd1 N aa ab N (i64.wrap (ac - 1))
def Zd0 (N:Nat) (aa:List Int) (ab:List Int):Option Int:=
  if (decide ((aa.length:Int)<(ab.length:Int)))=true then (Zga N aa ab (ab.length:Int)) else (Zga N aa ab (aa.length:Int))
theorem Z06 {N ak al:Nat} {a0 a1:Option Addr} {col:Ze} {w0:World} {ad ae:R5} {r:Int} (hm:Zd0 N ad ae=some r) (h0:Sl (Za.int .u32) col w0 a0 ak ad) (h1:Sl (Za.int .u32) col w0 a1 al ae):
    Calls prog 209 #[.slice a0 ad.length ak,.slice a1 ae.length al] w0 (fun e w'=>e= .returned ((.int .i64 r))∧Below w0.heap.size w0 w'):=by
 refine Xf 4 (m:=35) func209 rfl rfl rfl rfl rfl ?_;rw [Zd0.eq_1] at hm;have aa:=St.start col w0;refine Zs<|Wl<|Yv rfl<|Zl<|Zs<|Wl<|Yk rfl<|lV _ (Qg underlying35 rfl)<|Yv rfl<|Zl<|Zs ?_;replace h0:=h0.keep (Zi.start col w0);replace h1:=h1.keep (Zi.start col w0);refine Wp.cutK [0,1,1000000] (fun f am=>∃ an af,Zga N ad ae af=some r∧St w0 (Zj col) an am∧[5].map f=[.int .i64 af]) ?_ ?_
 ·intro f am hJ;obtain ⟨an,af,hm,aa,hs⟩:=hJ;rw [Zga.eq_1] at hm;refine .lL [5] hs<|go ?_;refine Zu [0,1,1000000] (fun n f ag=>∃ ab ah ac,ac=n∧Zd1 N ad ae ac ah=some r∧St w0 (Zj col) ab ag∧[6].map f=[.int .i64 ah]) N ⟨_,_,_,rfl,hm,aa,rfl⟩ ?_;clear hm;intro n f ag hI;obtain ⟨ab,ah,ac,hn,hm,aa,hs⟩:=hI;subst hn;refine .lL [6] hs ?_
  cases ac with
  | zero=>rw [Zd1.eq_1] at hm;cases hm
  | succ ac=>
   rw [Zd1.eq_2] at hm;refine go ?_;refine Zo hm (fun hb hm=>go ?_) fun hb hm=>go ?_
   ·obtain ⟨au,ap,hm⟩:=bZ hm;refine Zk (Zev ap (h0.ks aa)) ?_;rintro _ ao ⟨rfl,ai⟩;refine ⟨_,rfl,?_⟩;replace ai:Zh ab ag ab ao:=.of_below ai;refine go ?_;obtain ⟨av,aq,hm⟩:=bZ hm;replace aa:=aa.grow ai;refine Zk (Zev aq (h1.ks aa)) ?_;rintro _ ar ⟨rfl,aj⟩;refine ⟨_,rfl,?_⟩;replace aj:Zh ab ao ab ar:=.of_below aj;refine go ?_;replace aa:=aa.grow aj;refine Zo hm (fun hb hm=>go ?_) fun hb hm=>go ?_
    ·cases hm;exact ⟨rfl,rfl,aa.below⟩
    refine Zo hm (fun hb hm=>go ?_) fun hb hm=>go ?_
    ·cases hm;exact ⟨rfl,rfl,aa.below⟩
    exact ⟨ac,by omega,rfl,⟨_,_,_,rfl,hm,aa,rfl⟩⟩
   cases hm;exact ⟨rfl,rfl,aa.below⟩
 refine go ?_;refine Zo hm (fun hb hm=>go ?_) fun hb hm=>?_
 ·exact ⟨rfl,_,_,hm,aa,rfl⟩
 refine X0 ?_;exact ⟨rfl,_,_,hm,aa,rfl⟩
def Zlq (aa:Int) (kk_L1:(List Int→Int→Int→Option Rg)) (ab:List Int) (ac:Int):Option Rg:=
  kk_L1 ab ac (i64.wrap (aa+1))
def Zge (aa:List Int) (ab:Int) (ae:Int) (kk_L1:(List Int→Int→Int→Option Rg)) (ac:Int) (af:Int) (ad:Int):Option Rg:=
  Zt ((aa.length+[u32.wrap (u64.wrap (ad - (u64.wrap (ac+ab))))].length) * 4≤140737488355328∧aa.length+[u32.wrap (u64.wrap (ad - (u64.wrap (ac+ab))))].length≤maxLen) (Zlq ae kk_L1 (aa++[u32.wrap (u64.wrap (ad - (u64.wrap (ac+ab))))]) af)
def S9 (N:Nat) (ab:List Int) (ac:List Int):Nat→R5→Int→Int→Option Rg
  | 0,_,_,_=>none
  | ah+1,ad,ae,aa=>if (decide (aa<(ab.length:Int)))=true then ((Qa ab aa).bind fun af=>(Qa ac aa).bind fun ag=>if (decide (af<(u64.wrap (ag+ae))))=true then (Zge ad ae aa (S9 N ab ac ah) ag 1 (u64.wrap (af+4294967296))) else (Zge ad ae aa (S9 N ab ac ah) ag 0 af)) else ((Vn N ad).bind fun ai=>some (ai,true))
termination_by structural x=>x
def Zcf (N:Nat) (aa:List Int) (ab:List Int):Option Rg:=
  (Zd0 N aa ab).bind fun ac=>if (decide (ac<0))=true then (some (([]:List Int),false)) else (S9 N aa ab N ([]:List Int) 0 0)
theorem Zr6 {N au av:Nat} {a0 a1:Option Addr} {col:Ze} {w0:World} {ae af:R5} {r:Rg} (c1:Nat) (hm:Zcf N ae af=some r) (h0:Sl (Za.int .u32) col w0 a0 au ae) (h1:Sl (Za.int .u32) col w0 a1 av af):
    Calls prog 181 #[.slice a0 ae.length au,.slice a1 af.length av] w0 (fun e w'=>∃ (col':Ze) (ra1:Option Addr) (rc2:Nat),e= .returned (.tuple #[.slice ra1 r.1.length rc2,.bool r.2])∧Zh col w0 col' w'∧Zb (Za.int .u32) 95 c1 col' w' ra1 rc2 r.1):=by
 refine Zhn 4 5 (m:=43) (args:=[.slice a0 ae.length au,.slice a1 af.length av]) func181 rfl rfl rfl rfl rfl ?_;rw [Zcf.eq_1] at hm;have aa:=St.start col w0;refine go ?_;obtain ⟨bn,ba,hm⟩:=bZ hm;replace h0:=h0.keep (Zi.start col w0);replace h1:=h1.keep (Zi.start col w0);refine Zk (Z06 ba (h0.ks aa) (h1.ks aa)) ?_;rintro _ bb ⟨rfl,aw⟩;refine ⟨_,rfl,?_⟩;replace aw:Zh (Zj col) w0 (Zj col) bb:=.of_below aw;refine go ?_;replace aa:=aa.grow aw;refine Zo hm (fun hb hm=>go ?_) fun hb hm=>go ?_
 ·cases hm;exact ⟨rfl,_,none,0,rfl,aa.fin (cm []),Zb.nil⟩
 refine Zu [0,1,1000000] (fun n f ah=>∃ ab ak al ag ai aj ad,ad=n∧S9 N ae af ad ag ai aj=some r∧St w0 (Zj col) ab ah∧Zb (Za.int .u32) 95 1 ab ah ak al ag∧[6,7,8].map f=[.slice ak ag.length al,.int .u64 ai,.int .i64 aj]) N ⟨_,none,0,_,0,0,_,rfl,hm,aa,Zb.nil,rfl⟩ ?_;clear hm;intro n f ah hI;obtain ⟨ab,ak,al,ag,ai,aj,ad,hn,hm,aa,ac,hs⟩:=hI;subst hn;refine .lL [6,7,8] hs ?_
 cases ad with
 | zero=>rw [S9.eq_1] at hm;cases hm
 | succ ad=>
  rw [S9.eq_2] at hm;refine go ?_;refine Zo hm (fun hb hm=>?_) fun hb hm=>go ?_
  ·refine X0<|Zs ?_;refine Wp.cutK [0,1,8,1000000] (fun f ax=>∃ ay az a2 am a3,Zlq aj (S9 N ae af ad) am a3=some r∧St w0 (Zj col) ay ax∧Zb (Za.int .u32) 95 1 ay ax az a2 am∧[6,7].map f=[.slice az am.length a2,.int .u64 a3]) ?_ ?_
   ·intro f ax hJ;obtain ⟨ay,az,a2,am,a3,hm,aa,bc,hs⟩:=hJ;rw [Zlq.eq_1] at hm;refine .lL [6,7] hs<|go ?_;exact ⟨ad,by omega,rfl,⟨_,_,_,_,_,_,_,rfl,hm,aa,bc,rfl⟩⟩
   refine go ?_;obtain ⟨bo,bd,hm⟩:=bZ hm;refine Zk (Zev bd (h0.ks aa)) ?_;rintro _ a7 ⟨rfl,an⟩;refine ⟨_,rfl,?_⟩;replace an:Zh ab ah ab a7:=.of_below an;refine go ?_;obtain ⟨a8,be,hm⟩:=bZ hm;replace aa:=aa.grow an;refine Zk (Zev be (h1.ks aa)) ?_;rintro _ bf ⟨rfl,ao⟩;refine ⟨_,rfl,?_⟩;replace ao:Zh ab a7 ab bf:=.of_below ao;refine Xp rfl<|lV _ (Sn _ _ rfl rfl)<|Yv rfl<|Zl<|Zs<|Wl<|Yv rfl<|Zl<|Zs ?_;replace ac:=(ac.gr an).gr ao;replace aa:=aa.grow ao;refine Wp.cutK [0,1,10,6,8,1000000] (fun f a4=>∃ ap a5 aq,Zge ag ai aj (S9 N ae af ad) a8 a5 aq=some r∧St w0 (Zj col) ap a4∧Zb (Za.int .u32) 95 1 ap a4 ak al ag∧[7,9].map f=[.int .u64 a5,.int .u64 aq]) ?_ ?_
   ·intro f a4 hJ;obtain ⟨ap,a5,aq,hm,aa,ac,hs⟩:=hJ;rw [Zge.eq_1] at hm;refine .lL [7,9] hs<|go ?_;refine Vg (col:=ap) [u32.wrap (u64.wrap (aq - (u64.wrap (a8+ai))))] 2 ?_;intro bp bq br a9 bg;obtain ⟨bh,hm⟩:=Z3 hm;replace ac:=ac.gr a9;refine W7 ac (bg.srcN (NB.int (k:=.u32))) bh ?_;intro bs bt bu bv bi bj;refine go ?_;replace aa:=(aa.grow a9).kpp bi;exact ⟨rfl,_,_,_,_,_,hm,aa,bj,rfl⟩
   refine go ?_;refine Zo hm (fun hb hm=>go ?_) fun hb hm=>?_
   ·exact ⟨rfl,_,1,_,hm,aa,ac,rfl⟩
   refine X0 ?_;exact ⟨rfl,_,0,_,hm,aa,ac,rfl⟩
  obtain ⟨bw,bk,hm⟩:=bZ hm;refine Zk (Zcy 3 bk (ac.toSlF (Zd.int .u32))) ?_;rintro _ bx ⟨bm,bz,b0,rfl,ar,a6⟩;refine ⟨_,rfl,?_⟩;replace a6:=a6.thaw (Z1 .u32) ar ((Fz.refl (col:=ab)).froz 1) (by decide);replace ar:=ar.thawR (col:=ab);generalize Xe ah.heap.size ab bm=b1 at *;refine go ?_;cases hm;replace aa:=aa.grow ar;exact ⟨rfl,_,_,_,rfl,aa.fin (cm [(3,c1)]),aa.fo a6⟩
def Zlk (aa:Int) (kk_L1:(List Int→Int→R5→Option Rc)) (ab:List Int) (ac:List Int):Option Rc:=
  kk_L1 ab (i64.wrap (aa - 1)) ac
def Zip (N:Nat) (ad:List Int) (ab:List Int):Nat→R5→Int→R5→Option Rc
  | 0,_,_,_=>none
  | af+1,ag,aa,ac=>if (decide (0≤aa))=true then ((Zo0 ad aa).bind fun ah=>(Zlr N ag ah).bind fun ai=>(Vn N ai).bind fun ae=>(Zd0 N ae ab).bind fun aj=>if (decide (0≤aj))=true then ((Zcf N ae ab).bind fun ak=>(Zm ac (i64.wrap (Int.tdiv aa 32))).bind fun al=>Zt (0≤(Int.tmod aa 32)) ((some (ac.set (Int.toNat (i64.wrap (Int.tdiv aa 32))) (u32.wrap (al+(X8 .u32 1 (Int.tmod aa 32)))))).bind fun am=>Zlk aa (Zip N ad ab af) ak.1 am)) else (Zlk aa (Zip N ad ab af) ae ac)) else ((Vn N ac).bind fun an=>some (an,ag,0))
termination_by structural x=>x
def Zlj (N:Nat) (ab:List Int) (ad:List Int):Option Rc:=
  (Vn N ad).bind fun ac=>if (decide ((ac.length:Int)=0))=true then (some (([]:List Int),([]:List Int),11)) else ((Zo1 N ab).bind fun aa=>Zt ((Int.toNat (i64.wrap (Int.tdiv (i64.wrap (aa+31)) 32))) * 4≤281474976710656∧(Int.toNat (i64.wrap (Int.tdiv (i64.wrap (aa+31)) 32)))≤maxLen∧0≤(i64.wrap (Int.tdiv (i64.wrap (aa+31)) 32))) (Zip N ab ac N ([]:List Int) (i64.wrap (aa - 1)) (List.replicate (Int.toNat (i64.wrap (Int.tdiv (i64.wrap (aa+31)) 32))) (0:Int))))
def Zo5 (aa:Bool):Option Bool:=
  some aa
def Zgf (aa:List Int):Option Bool:=
  if (decide ((aa.length:Int)=0))=true then (Zo5 true) else ((Zm aa 0).bind fun ab=>Zo5 (decide ((Int.tmod ab 2)=0)))
def Zlu (N:Nat) (ac:List Int):Nat→R5→Int→Int→Option R5
  | 0,_,_,_=>none
  | af+1,ab,ad,aa=>if (decide (0≤aa))=true then ((Zm ac aa).bind fun ae=>(Zm ab aa).bind fun ai=>(some (ab.set (Int.toNat aa) (u32.wrap (u64.wrap (Int.tdiv (u64.wrap ((u64.wrap (ad * 4294967296))+(u64.wrap ae))) 2))))).bind fun ag=>(Zlu N ac af) ag (Int.tmod (u64.wrap ((u64.wrap (ad * 4294967296))+(u64.wrap ae))) 2) (i64.wrap (aa - 1))) else ((Vn N ab).bind fun ah=>some ah)
termination_by structural x=>x
def Zgg (N:Nat) (aa:List Int):Option R5:=
  Zt (aa.length * 4≤281474976710656∧aa.length≤maxLen) (Zlu N aa N (List.replicate aa.length (0:Int)) 0 (i64.wrap ((aa.length:Int) - 1)))
def Zlm (N:Nat) (kk_L2:(List Int→R5→Option R5)) (aa:List Int) (ab:List Int):Option R5:=
  (Zcf N ab aa).bind fun ac=>kk_L2 aa ac.1
def Zo3 (N:Nat) (kk_L2:(List Int→R5→Option R5)) (ab:List Int) (aa:List Int) (kk_L4:(List Int→Option R5)) (ac:Bool):Option R5:=
  if ac=true then ((Zgg N aa).bind fun ad=>kk_L4 ad) else ((Zd0 N ab aa).bind fun ae=>if (decide (0<ae))=true then (Zlm N kk_L2 aa ab) else (Zlm N kk_L2 ab aa))
def Zgb (N:Nat) (kk_L2:(List Int→R5→Option R5)) (aa:List Int):Nat→R5→Option R5
  | 0,_=>none
  | ac+1,ab=>if (decide (0<(ab.length:Int)))=true then ((Zgf ab).bind fun ad=>Zo3 N kk_L2 aa ab (Zgb N kk_L2 aa ac) ad) else (Zo3 N kk_L2 aa ab (Zgb N kk_L2 aa ac) false)
termination_by structural x=>x
def Zln (N:Nat) (ab:List Int) (kk_L2:(List Int→R5→Option R5)):Nat→R5→Option R5
  | 0,_=>none
  | ac+1,aa=>(Zgf aa).bind fun ad=>if ad=true then ((Zgg N aa).bind fun ae=>(Zln N ab kk_L2 ac) ae) else (Zgb N kk_L2 aa N ab)
termination_by structural x=>x
def Zlo (N:Nat) (aa:Int):Nat→R5→Int→Option R5
  | 0,_,_=>none
  | ad+1,ab,ac=>if (decide (ac<aa))=true then ((Zlr N ab 0).bind fun ae=>(Zlo N aa ad) ae (i64.wrap (ac+1))) else (some ab)
termination_by structural x=>x
def Q7 (N:Nat) (aa:Int):Nat→R5→R5→Option R5
  | 0,_,_=>none
  | ad+1,ab,ac=>if (decide (0<(ac.length:Int)))=true then (Zln N ac (Q7 N aa ad) N ab) else (Zlo N aa N ab 0)
termination_by structural x=>x
def Zll (N:Nat) (aa:List Int) (ab:List Int) (ac:Int) (kk_L1:(List Int→R5→Int→Option R5)) (ad:Bool):Option R5:=
  if ad=true then ((Zgg N aa).bind fun ae=>(Zgg N ab).bind fun af=>kk_L1 ae af (i64.wrap (ac+1))) else (Q7 N ac N aa ab)
def Ziq (N:Nat):Nat→R5→R5→Int→Option R5
  | 0,_,_,_=>none
  | ac+1,aa,ab,ad=>(Zgf aa).bind fun ae=>if ae=true then ((Zgf ab).bind fun af=>Zll N aa ab ad (Ziq N ac) af) else (Zll N aa ab ad (Ziq N ac) false)
termination_by structural x=>x
def Zo2 (N:Nat) (ac:List Int) (ad:List Int):Option R5:=
  (Vn N ac).bind fun aa=>(Vn N ad).bind fun ab=>if (decide ((aa.length:Int)=0))=true then (some ab) else (if (decide ((ab.length:Int)=0))=true then (some aa) else (Ziq N N aa ab 0))
def Zir (N:Nat) (af:List Int) (ab:List Int) (aa:Int) (kk_L1:(List Int→Int→Option R5)):Nat→Int→R5→Int→Option R5
  | 0,_,_,_=>none
  | aj+1,ac,ad,ae=>if (decide (ac<(ab.length:Int)))=true then ((Zm af aa).bind fun ag=>(Zm ab ac).bind fun ah=>(Zm ad (i64.wrap (aa+ac))).bind fun ai=>(some (ad.set (Int.toNat (i64.wrap (aa+ac))) (u32.wrap (Int.tmod (u64.wrap ((u64.wrap (ae+(u64.wrap ((u64.wrap ag) * (u64.wrap ah)))))+(u64.wrap ai))) 4294967296)))).bind fun ak=>(Zir N af ab aa kk_L1 aj) (i64.wrap (ac+1)) ak (u64.wrap (Int.tdiv (u64.wrap ((u64.wrap (ae+(u64.wrap ((u64.wrap ag) * (u64.wrap ah)))))+(u64.wrap ai))) 4294967296))) else ((Zm ad (i64.wrap (aa+(ab.length:Int)))).bind fun am=>(some (ad.set (Int.toNat (i64.wrap (aa+(ab.length:Int)))) (u32.wrap ae))).bind fun al=>kk_L1 al (i64.wrap (aa+1)))
termination_by structural x=>x
def Zgc (N:Nat) (aa:List Int) (ab:List Int):Nat→R5→Int→Option R5
  | 0,_,_=>none
  | ae+1,ac,ad=>if (decide (ad<(aa.length:Int)))=true then (Zir N aa ab ad (Zgc N aa ab ae) N 0 ac 0) else ((Vn N ac).bind fun af=>some af)
termination_by structural x=>x
def Zo4 (N:Nat) (ac:List Int) (ad:List Int):Option R5:=
  (Vn N ac).bind fun aa=>(Vn N ad).bind fun ab=>Zt ((Int.toNat (i64.wrap ((aa.length:Int)+(ab.length:Int)))) * 4≤281474976710656∧(Int.toNat (i64.wrap ((aa.length:Int)+(ab.length:Int))))≤maxLen∧0≤(i64.wrap ((aa.length:Int)+(ab.length:Int)))) (Zgc N aa ab N (List.replicate (Int.toNat (i64.wrap ((aa.length:Int)+(ab.length:Int)))) (0:Int)) 0)
theorem Z07 {N bi bj:Nat} {a0 a1:Option Addr} {col:Ze} {w0:World} {a5 a6 r:R5} (c1:Nat) (hm:Zo4 N a5 a6=some r) (h0:Sl (Za.int .u32) col w0 a0 bi a5) (h1:Sl (Za.int .u32) col w0 a1 bj a6):
    Calls prog 127 #[.slice a0 a5.length bi,.slice a1 a6.length bj] w0 (fun e w'=>∃ (col':Ze) (ra1:Option Addr) (rc2:Nat),e= .returned ((.slice ra1 r.length rc2))∧Zh col w0 col' w'∧Zb (Za.int .u32) 95 c1 col' w' ra1 rc2 r):=by
 refine Xf 4 (m:=74) func127 rfl rfl rfl rfl rfl ?_;rw [Zo4.eq_1] at hm;have aa:=St.start col w0;refine go ?_;obtain ⟨am,bt,hm⟩:=bZ hm;replace h0:=h0.keep (Zi.start col w0);refine Zk (Zcy 1 bt (h0.ks aa)) ?_;rintro _ b4 ⟨b5,bk,bm,rfl,bu,ab⟩;refine ⟨_,rfl,go ?_⟩;obtain ⟨ai,bv,hm⟩:=bZ hm;replace h1:=h1.keep (Zi.start col w0);replace aa:=aa.grow bu;refine Zk (Zcy 2 bv (h1.ks aa)) ?_;rintro _ bw ⟨bx,bn,bo,rfl,bp,ac⟩;refine ⟨_,rfl,go ?_⟩;obtain ⟨ax,hm⟩:=Z3 hm;refine Sz (col:=bx) (w:=bw) (r:=(Za.int .u32)) (n:=(Int.toNat (i64.wrap ((am.length:Int)+(ai.length:Int))))) (x0:=0) 3 rfl underlying35 Tryz.t95 rfl rfl rfl rfl rfl (congrArg (Value.int _) (Int.toNat_of_nonneg ax.2.2).symm) (congrArg (Value.int _) (Int.toNat_of_nonneg ax.2.2).symm) ax.1 ax.2.1 (Zco .u32 0) ?_;intro b6 b7 b8 a7 bz;refine go ?_;replace ab:=(ab.gr bp).gr a7;replace aa:=(aa.grow bp).grow a7;replace ac:=ac.gr a7;refine Zu [5,6,1000000] (fun n f an=>∃ af a8 a9 ay ao aj,aj=n∧Zgc N am ai aj ay ao=some r∧St w0 (Zj col) af an∧Zb (Za.int .u32) 95 1 af an bk bm am∧Zb (Za.int .u32) 95 2 af an bn bo ai∧Zb (Za.int .u32) 95 3 af an a8 a9 ay∧[7,8].map f=[.slice a8 ay.length a9,.int .i64 ao]) N ⟨_,_,_,_,0,_,rfl,hm,aa,ab,ac,bz,rfl⟩ ?_;clear hm;intro n f an hI;obtain ⟨af,a8,a9,ay,ao,aj,hn,hm,aa,ab,ac,bq,hs⟩:=hI;subst hn;refine .lL [7,8] hs ?_
 cases aj with
 | zero=>rw [Zgc.eq_1] at hm;cases hm
 | succ aj=>
  rw [Zgc.eq_2] at hm;refine go ?_;refine Zo hm (fun hb hm=>go ?_) fun hb hm=>go ?_
  ·refine Zu [5,6,8,1000000] (fun n f aw=>∃ ae az ak al ag ad ap,ap=n∧Zir N am ai ao (Zgc N am ai aj) ap az ag ad=some r∧St w0 (Zj col) ae aw∧Zb (Za.int .u32) 95 1 ae aw bk bm am∧Zb (Za.int .u32) 95 2 ae aw bn bo ai∧Zb (Za.int .u32) 95 3 ae aw ak al ag∧[10,7,9].map f=[.int .i64 az,.slice ak ag.length al,.int .u64 ad]) N ⟨_,0,_,_,_,0,_,rfl,hm,aa,ab,ac,bq,rfl⟩ ?_;clear hm;intro n f aw hI;obtain ⟨ae,az,ak,al,ag,ad,ap,hn,hm,aa,ab,ac,ah,hs⟩:=hI;subst hn;refine .lL [10,7,9] hs ?_
   cases ap with
   | zero=>rw [Zir.eq_1] at hm;cases hm
   | succ ap=>
    rw [Zir.eq_2] at hm;refine go ?_;refine Zo hm (fun hb hm=>go ?_) fun hb hm=>go ?_
    ·refine Vj (col:=ae) (by kernel_rfl) (by kernel_rfl)<|go ?_;obtain ⟨aq,ba,hm⟩:=bZ hm;refine qI ba (ab.addr ba)<|qW (fun _ hC=>(ab.gr (hC.bl ae)).atInt ba) ?_;refine go ?_;obtain ⟨ar,bb,hm⟩:=bZ hm;refine qI bb (ac.addr bb)<|qW (fun _ hC=>(ac.gr (hC.bl ae)).atInt bb) ?_;refine go ?_;obtain ⟨au,av,hm⟩:=bZ hm;refine qI av (ah.addr av)<|qW (fun _ hC=>(ah.gr (hC.bl ae)).atInt av) ?_;refine go ?_;refine Ws ?_;intro b9 hC;replace hC:=hC.bl ae;refine go ?_;refine lV (.int .u64 (Int.tmod (u64.wrap ((u64.wrap (ad+(u64.wrap ((u64.wrap aq) * (u64.wrap ar)))))+(u64.wrap au))) 4294967296)) (Zcn (u64.wrap ((u64.wrap (ad+(u64.wrap ((u64.wrap aq) * (u64.wrap ar)))))+(u64.wrap au))) 4294967296 rfl rfl (by decide))<|go ?_;replace ah:=ah.gr hC;refine lI av (ah.addr av) ?_;obtain ⟨bc,a2,hm⟩:=bZ hm;have a2:bc=ag.set (Int.toNat (i64.wrap (ao+az))) (u32.wrap (Int.tmod (u64.wrap ((u64.wrap (ad+(u64.wrap ((u64.wrap aq) * (u64.wrap ar)))))+(u64.wrap au))) 4294967296)):=(Option.some.inj a2).symm;refine Y6 (x1:=u32.wrap (Int.tmod (u64.wrap ((u64.wrap (ad+(u64.wrap ((u64.wrap aq) * (u64.wrap ar)))))+(u64.wrap au))) 4294967296)) ah av ?_;intro ca bd b0 br;rw [← a2] at br;refine .ld (d:=7) (v:=(.slice ak bc.length al)) (congrArg (fun n=>Value.slice ak n al) (show ag.length=bc.length by rw [a2,nS])) ?_;refine go ?_;refine lV (.int .u64 (u64.wrap (Int.tdiv (u64.wrap ((u64.wrap (ad+(u64.wrap ((u64.wrap aq) * (u64.wrap ar)))))+(u64.wrap au))) 4294967296))) (Sp (u64.wrap ((u64.wrap (ad+(u64.wrap ((u64.wrap aq) * (u64.wrap ar)))))+(u64.wrap au))) 4294967296 rfl rfl (by decide))<|go ?_;replace ab:=(ab.gr hC).kp bd;replace ac:=(ac.gr hC).kp bd;replace aa:=(aa.grow hC).kp bd b0;exact ⟨ap,by omega,rfl,⟨_,_,_,_,_,_,_,rfl,hm,aa,ab,ac,br,rfl⟩⟩
    obtain ⟨cb,be,hm⟩:=bZ hm;refine lI be (ah.addr be) ?_;obtain ⟨bf,a3,hm⟩:=bZ hm;have a3:bf=ag.set (Int.toNat (i64.wrap (ao+(ai.length:Int)))) (u32.wrap ad):=(Option.some.inj a3).symm;refine Y6 (x1:=u32.wrap ad) ah be ?_;intro cc bg b1 bs;rw [← a3] at bs;refine .ld (d:=7) (v:=(.slice ak bf.length al)) (congrArg (fun n=>Value.slice ak n al) (show ag.length=bf.length by rw [a3,nS])) ?_;refine go ?_;replace ab:=ab.kp bg;replace ac:=ac.kp bg;replace aa:=aa.kp bg b1;exact ⟨aj,by omega,rfl,⟨_,_,_,_,_,_,rfl,hm,aa,ab,ac,bs,rfl⟩⟩
  obtain ⟨cd,b2,hm⟩:=bZ hm;refine Zk (Zcy 4 b2 (bq.toSlF (Zd.int .u32))) ?_;rintro _ ce ⟨b3,cf,cg,rfl,a4,bh⟩;refine ⟨_,rfl,?_⟩;replace bh:=bh.thaw (Z1 .u32) a4 ((Fz.refl (col:=af)).froz 3) (by decide);replace a4:=a4.thawR (col:=af);generalize Xe an.heap.size af b3=ch at *;refine go ?_;cases hm;replace aa:=aa.grow a4;exact ⟨rfl,_,_,_,rfl,aa.fin (cm [(4,c1)]),aa.fo bh⟩
def Zio (af:List Int) (ag:List Int) (ad:List Int) (aa:Int) (ae:Int) (kk_L1:(List Int→Int→Int→Option R5)):Option R5:=
  (Qa af ae).bind fun ab=>(Qa ag ae).bind fun ac=>Zt ((ad.length+[u32.wrap (Int.tmod (u64.wrap ((u64.wrap (aa+ab))+ac)) 4294967296)].length) * 4≤140737488355328∧ad.length+[u32.wrap (Int.tmod (u64.wrap ((u64.wrap (aa+ab))+ac)) 4294967296)].length≤maxLen) (kk_L1 (ad++[u32.wrap (Int.tmod (u64.wrap ((u64.wrap (aa+ab))+ac)) 4294967296)]) (u64.wrap (Int.tdiv (u64.wrap ((u64.wrap (aa+ab))+ac)) 4294967296)) (i64.wrap (ae+1)))
def Zce (N:Nat) (ab:List Int) (ac:List Int) (aa:List Int) (ad:Int) (ae:Int) (kk_L1:(List Int→Int→Int→Option R5)) (af:Bool):Option R5:=
  if af=true then (Zio ab ac aa ad ae kk_L1) else ((Vn N aa).bind fun ag=>some ag)
def Sf (N:Nat) (aa:List Int) (ab:List Int):Nat→R5→Int→Int→Option R5
  | 0,_,_,_=>none
  | ae+1,af,ad,ac=>if (decide (ac<(aa.length:Int)))=true then (Zce N aa ab af ad ac (Sf N aa ab ae) true) else (if (decide (ac<(ab.length:Int)))=true then (Zce N aa ab af ad ac (Sf N aa ab ae) true) else (Zce N aa ab af ad ac (Sf N aa ab ae) (decide (0<ad))))
termination_by structural x=>x
def Zf9 (N:Nat) (aa:List Int) (ab:List Int):Option R5:=
  Sf N aa ab N ([]:List Int) 0 0
theorem Z05 {N a3 a4:Nat} {a0 a1:Option Addr} {col:Ze} {w0:World} {ae ad r:R5} (c1:Nat) (hm:Zf9 N ae ad=some r) (h0:Sl (Za.int .u32) col w0 a0 a3 ae) (h1:Sl (Za.int .u32) col w0 a1 a4 ad):
    Calls prog 180 #[.slice a0 ae.length a3,.slice a1 ad.length a4] w0 (fun e w'=>∃ (col':Ze) (ra1:Option Addr) (rc2:Nat),e= .returned ((.slice ra1 r.length rc2))∧Zh col w0 col' w'∧Zb (Za.int .u32) 95 c1 col' w' ra1 rc2 r):=by
 refine Xf 4 (m:=43) func180 rfl rfl rfl rfl rfl ?_;rw [Zf9.eq_1] at hm;have aa:=St.start col w0;refine go ?_;refine Zu [0,1,1000000] (fun n f av=>∃ aw ak al af ab ai ag,ag=n∧Sf N ae ad ag af ab ai=some r∧St w0 (Zj col) aw av∧Zb (Za.int .u32) 95 1 aw av ak al af∧[5,6,7].map f=[.slice ak af.length al,.int .u64 ab,.int .i64 ai]) N ⟨_,none,0,_,0,0,_,rfl,hm,aa,Zb.nil,rfl⟩ ?_;clear hm;intro n f av hI;obtain ⟨aw,ak,al,af,ab,ai,ag,hn,hm,aa,ac,hs⟩:=hI;subst hn;refine .lL [5,6,7] hs ?_;replace h0:=h0.keep (Zi.start col w0);replace h1:=h1.keep (Zi.start col w0)
 cases ag with
 | zero=>rw [Sf.eq_1] at hm;cases hm
 | succ ag=>
  rw [Sf.eq_2] at hm;refine Zs ?_;refine Wp.cutK [0,1,5,6,7,1000000] (fun f ao=>∃ ah,Zio ae ad af ab ai (Sf N ae ad ag)=some r∧St w0 (Zj col) ah ao∧Zb (Za.int .u32) 95 1 ah ao ak al af) ?_ ?_
  ·intro f ao hJ;obtain ⟨ah,hm,aa,ac⟩:=hJ;rw [Zio.eq_1] at hm;refine go ?_;obtain ⟨am,a7,hm⟩:=bZ hm;refine Zk (Zev a7 (h0.ks aa)) ?_;rintro _ a5 ⟨rfl,ap⟩;refine ⟨_,rfl,?_⟩;replace ap:Zh ah ao ah a5:=.of_below ap;refine go ?_;obtain ⟨an,a8,hm⟩:=bZ hm;replace aa:=aa.grow ap;refine Zk (Zev a8 (h1.ks aa)) ?_;rintro _ a9 ⟨rfl,aq⟩;refine ⟨_,rfl,?_⟩;replace aq:Zh ah a5 ah a9:=.of_below aq;refine go ?_;refine lV (.int .u64 (Int.tmod (u64.wrap ((u64.wrap (ab+am))+an)) 4294967296)) (Zcn (u64.wrap ((u64.wrap (ab+am))+an)) 4294967296 rfl rfl (by decide))<|go ?_;refine Vg (col:=ah) [u32.wrap (Int.tmod (u64.wrap ((u64.wrap (ab+am))+an)) 4294967296)] 2 ?_;intro bg bh bi a6 ba;obtain ⟨bb,hm⟩:=Z3 hm;replace ac:=((ac.gr ap).gr aq).gr a6;refine W7 ac (ba.srcN (NB.int (k:=.u32))) bb ?_;intro bj bk bm bn bc bd;refine go ?_;refine lV (.int .u64 (u64.wrap (Int.tdiv (u64.wrap ((u64.wrap (ab+am))+an)) 4294967296))) (Sp (u64.wrap ((u64.wrap (ab+am))+an)) 4294967296 rfl rfl (by decide))<|go ?_;replace aa:=((aa.grow aq).grow a6).kpp bc;exact ⟨ag,by omega,rfl,⟨_,_,_,_,_,_,_,rfl,hm,aa,bd,rfl⟩⟩
  refine Zs ?_;refine Wp.cutK [0,1,5,6,7,1000000] (fun f ar=>∃ aj ax,Zce N ae ad af ab ai (Sf N ae ad ag) ax=some r∧St w0 (Zj col) aj ar∧Zb (Za.int .u32) 95 1 aj ar ak al af∧[21].map f=[.bool ax]) ?_ ?_
  ·intro f ar hJ;obtain ⟨aj,ax,hm,aa,ac,hs⟩:=hJ;rw [Zce.eq_1] at hm;refine .lL [21] hs ?_;refine Zo hm (fun hb hm=>?_) fun hb hm=>go ?_
   ·refine X0 ?_;exact ⟨rfl,_,hm,aa,ac⟩
   obtain ⟨bo,be,hm⟩:=bZ hm;refine Zk (Zcy 3 be (ac.toSlF (Zd.int .u32))) ?_;rintro _ bp ⟨bf,bq,br,rfl,au,ay⟩;refine ⟨_,rfl,?_⟩;replace ay:=ay.thaw (Z1 .u32) au ((Fz.refl (col:=aj)).froz 1) (by decide);replace au:=au.thawR (col:=aj);generalize Xe ar.heap.size aj bf=bs at *;refine go ?_;cases hm;replace aa:=aa.grow au;exact ⟨rfl,_,_,_,rfl,aa.fin (cm [(3,c1)]),aa.fo ay⟩
  refine go ?_;refine Yc hm (fun az hm=>go ?_) fun az hm=>go ?_
  ·refine lV (.bool true) (Xr (congrArg Value.bool az) rfl)<|W2 rfl<|lP 18 rfl rfl<|lP 18 rfl rfl<|lV (.bool true) (Xr rfl rfl)<|Zl ?_;exact ⟨rfl,_,_,hm,aa,ac,rfl⟩
  refine lV (.bool (decide (ai<(ad.length:Int)))) (Xq (congrArg Value.bool az) rfl)<|W2 rfl ?_;refine Yc hm (fun a2 hm=>go ?_) fun a2 hm=>go ?_
  ·refine lV (.bool true) (Xr (congrArg Value.bool a2) rfl)<|Zl ?_;exact ⟨rfl,_,_,hm,aa,ac,rfl⟩
  refine lV (.bool (decide (0<ab))) (Xq (congrArg Value.bool a2) rfl)<|Zl ?_;exact ⟨rfl,_,_,hm,aa,ac,rfl⟩
def Zlp (N:Nat) (aa:Int):Option R5:=
  (Vn N [u32.wrap (Int.tmod aa 4294967296),u32.wrap (u64.wrap (Int.tdiv aa 4294967296))]).bind fun ab=>some ab
theorem Zx1 (N:Nat) (a:List Int) (hb:a.length≤35184372088000):∀ (n j:Nat),j≤a.length→Za3 N a n (j:Int)=Tr N n (a.take j)
 | 0,j,_=>rfl
 | n+1,j,hj=>by
  have hl:(a.take j).length=j:=by rw [nK];omega
  have ht:0<j→Zm (a.take j) ((j - 1:Nat):Int)=Zm a ((j - 1:Nat):Int):=fun h=>by rw [Zhe,Zhe,List.getElem?_take,if_pos (by omega)]
  rw [Za3.eq_2,Tr.eq_2,hl]
  by_cases h0:0<j
  ·have e:(j:Int) - 1=((j - 1:Nat):Int):=by omega
   rw [if_pos (dT (by omega)),if_pos (dT (by omega)),Z0 (by omega),e,ht h0,Z5 (by omega),oB,oB,Zgd,Za1,hl,Z0 (by omega),e,Int.toNat_natCast,Int.toNat_natCast]
   by_cases hx:a[j - 1]=0
   ·rw [if_pos (dT hx),if_pos (dT hx),Z9 (by omega),Zx1 N a hb n (j - 1) (by omega),List.take_take,Nat.min_eq_left (by omega)]
   ·rw [if_neg (dF hx),if_neg (dF hx),Z9 (by omega),Z9 (by rw [hl];simp only [nN,maxLen];omega),List.nil_append]
  ·have:j=0:=by omega
   subst this
   rw [if_neg (by decide),if_neg (by decide),Zgd,Za1,if_neg (by decide),if_neg (by decide),Z9 (by omega)]
   exact Z9 (by simp [maxLen])
theorem Sr {N:Nat} {a:List Int} (h:Zn a) (hn:a.length<N) (hb:a.length≤35184372088000):Vn N a=some (Zg (Zc a)):=by
 rw [Vn,Zx1 N a hb N a.length (Nat.le_refl _),List.take_length]
 exact Zne N N a h hn (by omega)
theorem Zx3 {N:Nat} {u:Int} (h:0≤u∧u<18446744073709551616) (hn:2<N):Zlp N u=some (Zg u.toNat):=by
 have e1:u32.wrap (Int.tmod u 4294967296)=u % 4294967296:=by rw [Int.tmod_eq_emod_of_nonneg h.1,V5 (by omega)]
 have e2:u32.wrap (u64.wrap (Int.tdiv u 4294967296))=u / 4294967296:=by rw [Int.tdiv_eq_ediv_of_nonneg h.1,Xj (by omega),V5 (by omega)]
 have hl:Zn [u % 4294967296,u / 4294967296]:=.cons (by omega) (.cons (by omega) .nil)
 have e:Zc [u % 4294967296,u / 4294967296]=u.toNat:=by rw [Y7,Y7,Yt];omega
 rw [Zlp,e1,e2,Sr hl (by simpa using hn) (by simp),oB,e]
theorem Zc3 {a:List Int} (h:Zn a) (k:Nat):Qa a (k:Int)=some ((Xy a k:Nat):Int):=by
 rw [Qa]
 by_cases hk:k<a.length
 ·have:=h.get hk
  rw [if_pos (dT (by omega)),Z5 hk,oB,Xj (by omega),Xy,List.getD_eq_getElem?_getD,List.getElem?_eq_getElem hk,Option.getD_some]
  congr 1;omega
 ·rw [if_neg (dF (by omega)),Xy,List.getD_eq_getElem?_getD,List.getElem?_eq_none (by omega)];rfl
theorem Zmo {a:List Int} (h:Zn a) (k:Nat):Zc (a.take k)<4294967296 ^ k:=by
 have h1:=Sj (h.take k)
 refine Nat.lt_of_lt_of_le h1 (Nat.pow_le_pow_right (by decide) ?_)
 rw [nK];omega
theorem Zqq (N:Nat) (a b:List Int) (ha:Zn a) (hb:Zn b):∀ (n i:Nat),i<4611686018427387904→i<n→Zc (a.drop i)=Zc (b.drop i)→Zd1 N a b n ((i:Int) - 1)=some (if Zc a<Zc b then -1 else if Zc b<Zc a then 1 else 0)
 | 0,i,_,h,_=>by omega
 | n+1,i,hi,hn,he=>by
  rw [Zd1.eq_2]
  by_cases h0:i=0
  ·subst h0
   rw [if_neg (by decide)]
   rw [List.drop_zero,List.drop_zero] at he
   rw [if_neg (by omega),if_neg (by omega)]
  ·have e:(i:Int) - 1=((i - 1:Nat):Int):=by omega
   have e1:i - 1+1=i:=by omega
   rw [if_pos (dT (by omega)),e,Zc3 ha,Zc3 hb,oB,oB]
   have va:=Uv a (i - 1)
   have vb:=Uv b (i - 1)
   rw [Uu a,e1] at va
   rw [Uu b,e1,← he] at vb
   have la:=Zmo ha (i - 1)
   have lb:=Zmo hb (i - 1)
   have key:∀ x y:Nat,x<y→4294967296 ^ (i - 1) * (x+4294967296 * Zc (a.drop i))+4294967296 ^ (i - 1)≤4294967296 ^ (i - 1) * (y+4294967296 * Zc (a.drop i)):=fun x y hxy=>by
    rw [← Nat.mul_succ];exact Nat.mul_le_mul_left _ (by omega)
   generalize 4294967296 ^ (i - 1)=Q at *
   by_cases hlt:Xy a (i - 1)<Xy b (i - 1)
   ·have:=key _ _ hlt
    rw [if_pos (dT (by omega)),if_pos (by omega)]
   ·rw [if_neg (dF (by omega))]
    by_cases hgt:Xy b (i - 1)<Xy a (i - 1)
    ·have:=key _ _ hgt
     rw [if_pos (dT (by omega)),if_neg (by omega),if_pos (by omega)]
    ·rw [if_neg (dF (by omega)),Z0 (by omega)]
     exact Zqq N a b ha hb n (i - 1) (by omega) (by omega) (by rw [Uu a,Uu b,e1,he];omega)
theorem Zqr {N:Nat} {a b:List Int} (ha:Zn a) (hb:Zn b) (h1:a.length<N) (h2:b.length<N) (h3:a.length≤35184372088000) (h4:b.length≤35184372088000):
  Zd0 N a b=some (if Zc a<Zc b then -1 else if Zc b<Zc a then 1 else 0):=by
 have dz:∀ (l:List Int) (k:Nat),l.length≤k→Zc (l.drop k)=0:=fun l k h=>by rw [List.drop_eq_nil_of_le h];rfl
 rw [Zd0]
 by_cases h:a.length<b.length
 ·rw [if_pos (dT (by omega)),Zga,Z0 (by omega)]
  exact Zqq N a b ha hb N b.length (by omega) h2 (by rw [dz a _ (by omega),dz b _ (by omega)])
 ·rw [if_neg (dF (by omega)),Zga,Z0 (by omega)]
  exact Zqq N a b ha hb N a.length (by omega) h1 (by rw [dz a _ (by omega),dz b _ (by omega)])
theorem Zy6 {s:Int} (h:0≤s∧s<18446744073709551616):u32.wrap (Int.tmod s 4294967296)=((s.toNat % 4294967296:Nat):Int):=by
 rw [Int.tmod_eq_emod_of_nonneg h.1,V5 (by omega)];omega
theorem Zy5 {s:Int} (h:0≤s∧s<18446744073709551616):u64.wrap (Int.tdiv s 4294967296)=((s.toNat / 4294967296:Nat):Int):=by
 rw [Int.tdiv_eq_ediv_of_nonneg h.1,Xj (by omega)];omega
theorem Zp9 {S Q A B C:Nat} (h:A=B+4294967296 * C):S+Q * B+Q * 4294967296 * C=S+Q * A:=by
 subst h;grind
theorem Zxi (N:Nat) (a b:List Int) (ha:Zn a) (hb:Zn b) (hN:a.length+b.length+2<N) (hs:a.length+b.length<35184372087000):∀ (n i:Nat) (out:List Int) (c:Nat),out.length=i→Zn out→c≤1→i≤a.length+b.length+2→(i≤a.length+b.length+1∨c=0)→a.length+b.length+3≤n+i→
  Sf N a b n out (c:Int) (i:Int)=some (Zg (Zc out+4294967296 ^ i * (c+Zc (a.drop i)+Zc (b.drop i))))
 | 0,i,out,c,_,_,_,h1,_,h2=>by omega
 | n+1,i,out,c,ho,hO,hc,h1,h2,h3=>by
  have go:(i<a.length∨i<b.length∨0<c)→Zio a b out (c:Int) (i:Int) (Sf N a b n)=some (Zg (Zc out+4294967296 ^ i * (c+Zc (a.drop i)+Zc (b.drop i)))):=fun hgo=>by
   have la:=Zc2 ha i
   have lb:=Zc2 hb i
   have es:u64.wrap (u64.wrap ((c:Int)+((Xy a i:Nat):Int))+((Xy b i:Nat):Int))=((c+Xy a i+Xy b i:Nat):Int):=by
    rw [Xj (x:=(c:Int)+_) (by omega),Xj (by omega)];omega
   rw [Zio,Zc3 ha,Zc3 hb,oB,oB,es,Zy6 (by omega),Zy5 (by omega),Int.toNat_natCast]
   generalize hsum:c+Xy a i+Xy b i=s
   rw [Z9 (by simp only [List.length_singleton,maxLen];omega),Z0 (by omega)]
   have ih:=Zxi N a b ha hb hN hs n (i+1) (out++[((s % 4294967296:Nat):Int)]) (s / 4294967296) (by simp [ho]) (hO.app (.cons (by omega) .nil)) (by omega) (by omega) (by
    by_cases hi:i<a.length∨i<b.length
    ·omega
    ·right
     have za:Xy a i=0:=by rw [Xy,List.getD_eq_getElem?_getD,List.getElem?_eq_none (by omega)];rfl
     have zb:Xy b i=0:=by rw [Xy,List.getD_eq_getElem?_getD,List.getElem?_eq_none (by omega)];rfl
     omega) (by omega)
   rw [show ((i+1:Nat):Int)=(i:Int)+1 by omega] at ih
   rw [ih,Si,ho,Y7,Yt,Int.toNat_natCast,Uu a i,Uu b i,Nat.pow_succ]
   congr 2
   rw [Nat.mul_zero,Nat.add_zero]
   refine Zp9 ?_
   omega
  rw [Sf.eq_2]
  by_cases hia:i<a.length
  ·rw [if_pos (dT (by omega)),Zce,if_pos rfl];exact go (.inl hia)
  ·rw [if_neg (dF (by omega))]
   by_cases hib:i<b.length
   ·rw [if_pos (dT (by omega)),Zce,if_pos rfl];exact go (.inr (.inl hib))
   ·rw [if_neg (dF (by omega)),Zce]
    by_cases hcp:0<c
    ·rw [if_pos (dT (by omega))];exact go (.inr (.inr hcp))
    ·have:c=0:=by omega
     subst this
     rw [if_neg (by decide),Sr hO (by omega) (by omega),oB,List.drop_eq_nil_of_le (by omega),List.drop_eq_nil_of_le (by omega),Yt]
     simp
theorem Z5u {N:Nat} {a b:List Int} (ha:Zn a) (hb:Zn b) (hN:a.length+b.length+3<N) (hs:a.length+b.length<35184372087000):Zf9 N a b=some (Zg (Zc a+Zc b)):=by
 have:=Zxi N a b ha hb (by omega) hs N 0 [] 0 rfl .nil (by omega) (by omega) (by omega) (by omega)
 rw [List.drop_zero,List.drop_zero,Yt,Nat.pow_zero] at this
 rw [Zf9,show (0:Int)=((0:Nat):Int) from rfl,this]
 simp
theorem Zya (N:Nat) (a b:List Int) (ha:Zn a) (hb:Zn b) (hN:a.length<N) (hs:a.length<35184372088000):∀ (n i:Nat) (out:List Int) (c:Nat),out.length=i→Zn out→c≤1→i≤a.length→a.length<n+i→c+Zc (b.drop i)≤Zc (a.drop i)→
  S9 N a b n out (c:Int) (i:Int)=some (Zg (Zc out+4294967296 ^ i * (Zc (a.drop i) - (c+Zc (b.drop i)))),true)
 | 0,i,out,c,_,_,_,h1,h2,_=>by omega
 | n+1,i,out,c,ho,hO,hc,h1,h2,h3=>by
  rw [S9.eq_2]
  by_cases hi:i<a.length
  ·have la:=Zc2 ha i
   have lb:=Zc2 hb i
   rw [Uu a i,Uu b i] at h3
   have go:∀ (c':Nat) (x:Int),c'≤1→x=((Xy a i+4294967296 * c':Nat):Int)→Xy b i+c≤Xy a i+4294967296 * c'→Xy a i+4294967296 * c'<Xy b i+c+4294967296→Zge out (c:Int) (i:Int) (S9 N a b n) ((Xy b i:Nat):Int) (c':Int) x=some (Zg (Zc out+4294967296 ^ i * (Zc (a.drop i) - (c+Zc (b.drop i)))),true):=fun c' x hc' hx h5 h6=>by
    have ev:u32.wrap (u64.wrap (x - u64.wrap (((Xy b i:Nat):Int)+(c:Int))))=((Xy a i+4294967296 * c' - (Xy b i+c):Nat):Int):=by
     rw [Xj (x:=((Xy b i:Nat):Int)+(c:Int)) (by omega),Xj (by omega),V5 (by omega)];omega
    rw [Zge,ev,Z9 (by simp only [List.length_singleton,maxLen];omega),Zlq,Z0 (by omega)]
    generalize hv:Xy a i+4294967296 * c' - (Xy b i+c)=v
    have ih:=Zya N a b ha hb hN hs n (i+1) (out++[(v:Int)]) c' (by simp [ho]) (hO.app (.cons (by omega) .nil)) hc' (by omega) (by omega) (by omega)
    rw [show ((i+1:Nat):Int)=(i:Int)+1 by omega] at ih
    rw [ih,Si,ho,Y7,Yt,Int.toNat_natCast,Uu a i,Uu b i,Nat.pow_succ,Nat.mul_zero,Nat.add_zero]
    congr 3
    refine Zp9 ?_
    omega
   rw [if_pos (dT (by omega)),Zc3 ha,Zc3 hb,oB,oB,Xj (x:=((Xy b i:Nat):Int)+(c:Int)) (by omega)]
   by_cases hlt:Xy a i<Xy b i+c
   ·rw [if_pos (dT (by omega))]
    exact go 1 _ (by omega) (by rw [Xj (by omega)];omega) (by omega) (by omega)
   ·rw [if_neg (dF (by omega))]
    exact go 0 _ (by omega) (by omega) (by omega) (by omega)
  ·rw [if_neg (dF (by omega)),Sr hO (by omega) (by omega),oB]
   rw [List.drop_eq_nil_of_le (show a.length≤i by omega),Yt] at h3 ⊢
   rw [show 0 - (c+Zc (b.drop i))=0 by omega]
   simp
theorem Zq0 {N:Nat} {a b:List Int} (ha:Zn a) (hb:Zn b) (h1:a.length<N) (h2:b.length<N) (h3:a.length<35184372088000) (h4:b.length<35184372088000):
  Zcf N a b=some (if Zc a<Zc b then ([],false) else (Zg (Zc a - Zc b),true)):=by
 rw [Zcf,Zqr ha hb h1 h2 (by omega) (by omega),oB]
 by_cases h:Zc a<Zc b
 ·rw [if_pos h,if_pos (by decide),if_pos h]
 ·have:=Zya N a b ha hb h1 h3 N 0 [] 0 rfl .nil (by omega) (by omega) (by omega) (by simpa using Nat.le_of_not_lt h)
  rw [if_neg h,if_neg (by split <;> decide),if_neg h,show (0:Int)=((0:Nat):Int) from rfl,this]
  simp [Yt]
theorem Zxj (N:Nat):∀ (n:Nat) (c:Int) (t:Nat),Xb t<n→t<4294967296→0≤c∧c+(Xb t:Int)≤4611686018427387904→Zli N n c (t:Int)=some (c+(Xb t:Int))
 | 0,c,t,h,_,_=>by omega
 | n+1,c,t,h,ht,hc=>by
  rw [Zli.eq_2]
  have hb:Xb t≤32:=Vt.2 (by omega)
  by_cases h0:0<t
  ·have e:u32.wrap (Int.tdiv (t:Int) 2)=((t / 2:Nat):Int):=by rw [Int.tdiv_eq_ediv_of_nonneg (by omega),V5 (by omega)];omega
   have hs:=Zhh t 1
   rw [Nat.pow_one] at hs
   have h1:1≤Xb t:=by rw [Xb,if_neg (by omega)];omega
   rw [if_pos (dT (by omega)),e,Z0 (by omega),Zxj N n (c+1) (t / 2) (by omega) (by omega) (by omega)]
   congr 1;omega
  ·have:t=0:=by omega
   subst this
   rw [if_neg (by decide),Zer];simp
theorem Z5w {N:Nat} {a:List Int} (h:Zn a) (hn:a.length+32<N) (hb:a.length≤35184372088000):Zo1 N a=some ((Xb (Zc a):Nat):Int):=by
 have hl:=Yx h
 rw [Zo1,Sr h (by omega) hb,oB]
 by_cases h0:(Zg (Zc a)).length=0
 ·have:Zc a=0:=Ze3.1 (List.eq_nil_of_length_eq_zero h0)
  rw [if_pos (dT (by omega)),this,Zer];rfl
 ·have hp:0<(Zg (Zc a)).length:=by omega
  have e:((Zg (Zc a)).length:Int) - 1=(((Zg (Zc a)).length - 1:Nat):Int):=by omega
  have hx:=(Xa (Zc a)).get (k:=(Zg (Zc a)).length - 1) (by omega)
  have hne:=Zk4 hp
  have hs:=Ze2 hp
  have e2:(Zg (Zc a))[(Zg (Zc a)).length - 1]=(((Zg (Zc a))[(Zg (Zc a)).length - 1]).toNat:Int):=by omega
  have hb2:Xb ((Zg (Zc a))[(Zg (Zc a)).length - 1]).toNat≤32:=Vt.2 (by omega)
  rw [if_neg (dF (by omega)),Z0 (by omega),e,Z5 (by omega),oB,e2,Z0 (by omega),Zxj N N _ _ (by omega) (by omega) (by omega)]
  have hb:=Zrq (a:=(Zg (Zc a)).take ((Zg (Zc a)).length - 1)) (x:=(Zg (Zc a))[(Zg (Zc a)).length - 1]) ((Xa _).take _) (by omega)
  rw [hs,Z8,nK,Nat.min_eq_left (by omega)] at hb
  rw [hb]
  congr 1
theorem Zz4 (T l R k s:Nat) (hT:T<4294967296 ^ k) (hs:s<32):(T+4294967296 ^ k * (l+4294967296 * R)) / 2 ^ (32 * k+s) % 2=l / 2 ^ s % 2:=by
 have e:(4294967296:Nat) ^ k=2 ^ (32 * k):=by rw [show (4294967296:Nat)=2 ^ 32 by decide,← Nat.pow_mul]
 have hp:0<4294967296 ^ k:=Nat.pow_pos (by decide)
 rw [Nat.pow_add,← e,← Nat.div_div_eq_div_mul,Nat.add_mul_div_left _ _ hp,Nat.div_eq_of_lt hT,Nat.zero_add]
 have pw:(4294967296:Nat)=2 ^ s * (2 * 2 ^ (31 - s)):=by
  rw [Nat.mul_left_comm,← Nat.pow_add,show s+(31 - s)=31 by omega]
 have e2:l+4294967296 * R=l+2 ^ s * (2 * (2 ^ (31 - s) * R)):=by
  conv=>lhs;rw [pw]
  rw [Nat.mul_assoc,Nat.mul_assoc]
 rw [e2,Nat.add_mul_div_left _ _ (Nat.two_pow_pos s),Nat.add_mul_mod_self_left]
theorem Z5v {a:List Int} (h:Zn a) {i:Nat} (hi:i<4611686018427387904):Zo0 a (i:Int)=some ((Zc a / 2 ^ i % 2:Nat):Int):=by
 have hl:=Zc2 h (i / 32)
 have e1:i64.wrap (Int.tdiv (i:Int) 32)=((i / 32:Nat):Int):=by rw [Int.tdiv_eq_ediv_of_nonneg (by omega),Z0 (by omega)];omega
 have e2:Int.tmod (i:Int) 32=((i % 32:Nat):Int):=by rw [Int.tmod_eq_emod_of_nonneg (by omega)];omega
 rw [Zo0,e1,Zc3 h,oB,e2,Z9 (by omega),Zm9 _ _ _ (by simp only [IntKind.bits];omega)]
 have hd:=Nat.div_le_self (Xy a (i / 32)) (2 ^ (i % 32))
 have e3:=Zz4 (Zc (a.take (i / 32))) (Xy a (i / 32)) (Zc (a.drop (i / 32+1))) (i / 32) (i % 32) (Zmo h _) (by omega)
 rw [← Uu a,← Uv,show 32 * (i / 32)+i % 32=i by omega] at e3
 rw [e3]
 generalize Xy a (i / 32) / 2 ^ (i % 32)=x at *
 rw [V5 (by omega),Int.tmod_eq_emod_of_nonneg (by omega)]
 congr 1
theorem Zxm (N:Nat) (a:List Int) (ha:Zn a) (hs:a.length<35184372088000):∀ (n i:Nat) (out:List Int) (c:Nat),out.length=i→Zn out→c≤1→i≤a.length→a.length<n+i→
  ∃ o,Zlt N a n out (c:Int) (i:Int)=some o∧o.length≤a.length+1∧Zn o∧Zc o=Zc out+4294967296 ^ i * (c+2 * Zc (a.drop i))
 | 0,i,out,c,_,_,_,h1,h2=>by omega
 | n+1,i,out,c,ho,hO,hc,h1,h2=>by
  rw [Zlt.eq_2]
  by_cases hi:i<a.length
  ·have ga:=ha.get hi
   have es:u64.wrap ((c:Int)+u64.wrap (2 * u64.wrap a[i]))=((c+2 * (a[i]).toNat:Nat):Int):=by
    rw [Xj (x:=a[i]) (by omega),Xj (x:=2 * _) (by omega),Xj (by omega)];omega
   rw [if_pos (dT (by omega)),Z5 hi,oB,es,Zy6 (by omega),Zy5 (by omega),Int.toNat_natCast]
   generalize hS:c+2 * (a[i]).toNat=S
   rw [Z9 (by simp only [List.length_singleton,maxLen];omega),Z0 (by omega)]
   obtain ⟨o,q1,q2,q3,q4⟩:=Zxm N a ha hs n (i+1) (out++[((S % 4294967296:Nat):Int)]) (S / 4294967296) (by simp [ho]) (hO.app (.cons (by omega) .nil)) (by omega) (by omega) (by omega)
   rw [show ((i+1:Nat):Int)=(i:Int)+1 by omega] at q1
   refine ⟨o,q1,q2,q3,?_⟩
   rw [q4,Si,ho,Y7,Yt,Int.toNat_natCast,Ub hi,Nat.pow_succ,Nat.mul_zero,Nat.add_zero]
   refine Zp9 ?_
   omega
  ·have hia:i=a.length:=by omega
   rw [if_neg (dF (by omega))]
   by_cases hcp:0<c
   ·rw [if_pos (dT (by omega)),Z9 (by simp only [List.length_singleton,maxLen];omega),Zls,V5 (by omega)]
    refine ⟨_,rfl,by simp;omega,hO.app (.cons (by omega) .nil),?_⟩
    rw [Si,ho,Y7,Yt,Int.toNat_natCast,List.drop_eq_nil_of_le (by omega),Yt]
   ·have:c=0:=by omega
    subst this
    rw [if_neg (by decide),Zls]
    refine ⟨_,rfl,by omega,hO,?_⟩
    rw [List.drop_eq_nil_of_le (by omega),Yt];simp
theorem Zxn {N:Nat} {a:List Int} {c:Nat} (ha:Zn a) (hc:c≤1) (hN:a.length<N) (hs:a.length<35184372088000):∃ o,Zlr N a (c:Int)=some o∧o.length≤a.length+1∧Zn o∧Zc o=2 * Zc a+c:=by
 obtain ⟨o,q1,q2,q3,q4⟩:=Zxm N a ha hs N 0 [] c rfl .nil hc (by omega) (by omega)
 refine ⟨o,?_,q2,q3,?_⟩
 ·rw [Zlr,Xj (by omega)];exact q1
 ·rw [q4,Yt,Nat.pow_zero,List.drop_zero];omega
theorem Z3o (Q e o2 r S v L:Nat) (h:r * 4294967296+e=2 * v+o2) (hS:S=Q * (o2+2 * (v+4294967296 * L))):S=Q * e+Q * 4294967296 * (r+2 * L):=by
 subst hS
 have:Q * (r * 4294967296+e)=Q * (2 * v+o2):=by rw [h]
 grind
theorem Zxy (N:Nat) (a:List Int) (ha:Zn a) (hN:a.length<N) (hs:a.length<35184372088000):∀ (n j:Nat) (out:List Int) (r:Nat),out.length=a.length→Zn out→r≤1→j≤a.length→j<n→Zc (out.take j)=0→
  ∃ v,Zlu N a n out (r:Int) ((j:Int) - 1)=some (Zg v)∧∃ ρ,ρ≤1∧2 * v+ρ=Zc (a.take j)+4294967296 ^ j * (r+2 * Zc (out.drop j))
 | 0,j,out,r,_,_,_,_,h,_=>by omega
 | n+1,j,out,r,ho,hO,hr,hj,hn,hz=>by
  rw [Zlu.eq_2]
  by_cases h0:j=0
  ·subst h0
   rw [if_neg (by decide),Sr hO (by omega) (by omega),oB]
   refine ⟨_,rfl,r,hr,?_⟩
   rw [List.take_zero,Yt,List.drop_zero,Nat.pow_zero];omega
  ·have e:(j:Int) - 1=((j - 1:Nat):Int):=by omega
   have e1:j - 1+1=j:=by omega
   have hk:j - 1<a.length:=by omega
   have g:=ha.get hk
   have es:u64.wrap (u64.wrap ((r:Int) * 4294967296)+u64.wrap a[j - 1])=((r * 4294967296+(a[j - 1]).toNat:Nat):Int):=by
    rw [Xj (x:=a[j - 1]) (by omega),Xj (x:=(r:Int) * 4294967296) (by omega),Xj (by omega)];omega
   rw [if_pos (dT (by omega)),e,Z5 hk,oB,Z5 (by omega),oB,oB,Int.toNat_natCast,es,Z0 (by omega)]
   generalize hS:r * 4294967296+(a[j - 1]).toNat=S
   have e2:u32.wrap (u64.wrap (Int.tdiv (S:Int) 2))=((S / 2:Nat):Int):=by rw [Int.tdiv_eq_ediv_of_nonneg (by omega),Xj (by omega),V5 (by omega)];omega
   have e3:Int.tmod (S:Int) 2=((S % 2:Nat):Int):=by rw [Int.tmod_eq_emod_of_nonneg (by omega)];omega
   have zt:Zc (out.take (j - 1))=0:=by
    have:=Uv (out.take j) (j - 1)
    rw [List.take_take,Nat.min_eq_left (by omega),hz] at this
    omega
   rw [e2,e3]
   obtain ⟨v,q1,ρ,q2,q3⟩:=Zxy N a ha hN hs n (j - 1) (out.set (j - 1) ((S / 2:Nat):Int)) (S % 2) (by rw [nS];exact ho) (hO.set _ (by omega)) (by omega) (by omega) (by omega) (by rw [Zcr _ (Nat.le_refl _)];exact zt)
   refine ⟨v,q1,ρ,q2,?_⟩
   rw [q3]
   have t1:=Zp4 hk
   have t2:Zc ((out.set (j - 1) ((S / 2:Nat):Int)).drop (j - 1))=S / 2+4294967296 * Zc (out.drop (j - 1+1)):=by
    rw [Ub (by rw [nS];omega),List.getElem_set_self,Zai _ (by omega),Int.toNat_natCast]
   rw [e1] at t1 t2
   have hp:(4294967296:Nat) ^ j=4294967296 ^ (j - 1) * 4294967296:=by rw [← Nat.pow_succ,show (j - 1).succ=j by omega]
   rw [t1,t2,hp,Nat.add_assoc]
   congr 1
   exact Z3o _ _ (S % 2) _ _ (S / 2) _ (by omega) rfl
theorem Zm6 {N:Nat} {a:List Int} (ha:Zn a) (hN:a.length<N) (hs:a.length<35184372088000):Zgg N a=some (Zg (Zc a / 2)):=by
 obtain ⟨v,q1,ρ,q2,q3⟩:=Zxy N a ha hN hs N a.length (List.replicate a.length 0) 0 (by rw [List.length_replicate]) (.zeros _) (by omega) (Nat.le_refl _) hN (by rw [List.take_replicate];exact Sk _)
 rw [Zgg,Z9 (by simp only [maxLen];omega),Z0 (by omega)]
 rw [List.take_length,List.drop_replicate,Sk] at q3
 refine Eq.trans q1 ?_
 rw [show v=Zc a / 2 by omega]
theorem Z4s {a:List Int} (h:Zn a):Zc a % 2=Xy a 0 % 2:=by
 have:=Uu a 0
 rw [List.drop_zero] at this
 omega
theorem Zm5 {a:List Int} (h:Zn a):Zgf a=some (decide (Zc a % 2=0)):=by
 rw [Zgf,Z4s h]
 by_cases h0:a.length=0
 ·have:a=[]:=List.eq_nil_of_length_eq_zero h0
  subst this
  rfl
 ·have g:=h.get (k:=0) (by omega)
  have ea:Xy a 0=(a[0]).toNat:=by rw [Xy,List.getD_eq_getElem?_getD,List.getElem?_eq_getElem (by omega),Option.getD_some]
  rw [if_neg (dF (by omega)),show (0:Int)=((0:Nat):Int) from rfl,Z5 (by omega),oB,Zo5,Int.tmod_eq_emod_of_nonneg (by omega),ea]
  congr 1
  exact decide_eq_decide.2 (by omega)
theorem Z49 {q:List Int} (hq:Zn q) {i:Nat} (hi:i<32 * q.length) (hd:2 ^ (i+1) ∣ Zc q):
  ∃ x:Nat,Zm q ((i / 32:Nat):Int)=some (x:Int)∧u32.wrap ((x:Int)+X8 .u32 1 ((i % 32:Nat):Int))=((x+2 ^ (i % 32):Nat):Int)∧x+2 ^ (i % 32)<4294967296∧Zc (q.set (i / 32) ((x+2 ^ (i % 32):Nat):Int))=Zc q+2 ^ i:=by
 have hk:i / 32<q.length:=by omega
 have g:=hq.get hk
 have hs:i % 32<32:=Nat.mod_lt _ (by decide)
 have hp:=Nat.two_pow_pos (i % 32)
 have e32:(4294967296:Nat) ^ (i / 32)=2 ^ (32 * (i / 32)):=by rw [show (4294967296:Nat)=2 ^ 32 by decide,← Nat.pow_mul]
 have eb:(4294967296:Nat)=2 ^ (i % 32+1) * 2 ^ (31 - i % 32):=by rw [← Nat.pow_add,show i % 32+1+(31 - i % 32)=32 by omega]
 have pi:(2:Nat) ^ (i+1)=4294967296 ^ (i / 32) * 2 ^ (i % 32+1):=by rw [e32,← Nat.pow_add];congr 1;omega
 have pi0:(2:Nat) ^ i=4294967296 ^ (i / 32) * 2 ^ (i % 32):=by rw [e32,← Nat.pow_add];congr 1;omega
 have sp:=Uv q (i / 32)
 rw [Ub hk] at sp
 have tl:=Zmo hq (i / 32)
 have hQ:0<4294967296 ^ (i / 32):=Nat.pow_pos (by decide)
 rw [pi] at hd
 -- the limb's lower bits are none
 have hx:2 ^ (i % 32+1) ∣ (q[i / 32]).toNat:=by
  have d1:4294967296 ^ (i / 32) ∣ Zc q:=Nat.dvd_trans ⟨_,rfl⟩ hd
  have d2:4294967296 ^ (i / 32) ∣ Zc (q.take (i / 32)):=by
   rw [sp] at d1
   exact (Nat.dvd_add_left ⟨_,rfl⟩).1 d1
  have z:Zc (q.take (i / 32))=0:=Nat.eq_zero_of_dvd_of_lt d2 tl
  rw [z,Nat.zero_add] at sp
  rw [sp] at hd
  have d3:=Nat.dvd_of_mul_dvd_mul_left hQ hd
  have d4:2 ^ (i % 32+1) ∣ 4294967296 * Zc (q.drop (i / 32+1)):=by
   conv=>rhs;rw [eb]
   exact ⟨2 ^ (31 - i % 32) * Zc (q.drop (i / 32+1)),by rw [Nat.mul_assoc]⟩
  exact (Nat.dvd_add_left d4).1 d3
 obtain ⟨y,hy⟩:=hx
 have hlt:(q[i / 32]).toNat+2 ^ (i % 32)<4294967296:=by
  have h1:2 ^ (i % 32+1) * y<2 ^ (i % 32+1) * 2 ^ (31 - i % 32):=by rw [← hy,← eb];omega
  have h2:=Nat.lt_of_mul_lt_mul_left h1
  have h3:=Nat.mul_le_mul_left (2 ^ (i % 32+1)) (show y+1≤2 ^ (31 - i % 32) from h2)
  rw [← eb,Nat.mul_add,← hy,Nat.pow_succ] at h3
  omega
 refine ⟨(q[i / 32]).toNat,by rw [Z5 hk];congr 1;omega,?_,hlt,?_⟩
 ·rw [show (1:Int)=((1:Nat):Int) from rfl,Zq2 hs (.inl rfl),Nat.one_mul,V5 (x:=((2 ^ (i % 32):Nat):Int)) (by omega),V5 (by omega)]
  omega
 ·have h1:=Ts hk (((q[i / 32]).toNat+2 ^ (i % 32):Nat):Int)
  rw [Int.toNat_natCast,Nat.mul_add,← pi0] at h1
  omega
theorem Zqu (N:Nat) (a y:List Int) (ha:Zn a) (hy:Zn y) (hy0:0<Zc y) (hly:y.length+8<N) (hs:y.length<35184372000000) (hla:a.length<35184372000000) (hyc:(Zg (Zc y)).length=y.length) (hNa:a.length+y.length+8<N):∀ (n j:Nat) (r q:List Int),j<n→j<4611686018427387904→j≤32 * q.length→q.length≤a.length→Zn q→r=Zg (Zc r)→Zc r<Zc y→2 ^ j ∣ Zc q→Zc a / 2 ^ j=Zc q / 2 ^ j * Zc y+Zc r→
  Zip N a y n r ((j:Int) - 1) q=some (Zg (Zc a / Zc y),Zg (Zc a % Zc y),0)
 | 0,j,r,q,h,_,_,_,_,_,_,_,_=>by omega
 | n+1,j,r,q,hjn,hj,hjq,hqa,hq,hr,hlt,hd,he=>by
  rw [Zip.eq_2]
  by_cases h0:j=0
  ·subst h0
   rw [Nat.pow_zero,Nat.div_one,Nat.div_one] at he
   rw [if_neg (by decide),Sr hq (by omega) (by omega),oB]
   have h1:Zc a / Zc y=Zc q:=by rw [he,Nat.mul_comm,Nat.mul_add_div hy0,Nat.div_eq_of_lt hlt,Nat.add_zero]
   have h2:Zc a % Zc y=Zc r:=by rw [he,Nat.mul_comm,Nat.mul_add_mod,Nat.mod_eq_of_lt hlt]
   rw [h1,h2,← hr]
  ·have e:(j:Int) - 1=((j - 1:Nat):Int):=by omega
   obtain ⟨i,rfl⟩:∃ i,j=i+1:=⟨j - 1,by omega⟩
   have ei:i+1 - 1=i:=by omega
   rw [e,ei]
   have hrl:r.length≤y.length:=by
    rw [hr,← hyc];exact Vu (Nat.le_of_lt hlt)
   have hlr:Zn r:=by rw [hr];exact Xa _
   have hb:=Nat.mod_lt (Zc a / 2 ^ i) (show 0<2 by decide)
   obtain ⟨d,d1,d2,d3,d4⟩:=Zxn (N:=N) (a:=r) (c:=Zc a / 2 ^ i % 2) hlr (by omega) (by omega) (by omega)
   have h2:Zc a / 2 ^ i=2 * (Zc a / 2 ^ (i+1))+Zc a / 2 ^ i % 2:=by
    rw [Nat.pow_succ,← Nat.div_div_eq_div_mul];omega
   obtain ⟨qq,hqq⟩:=hd
   have hq1:Zc q / 2 ^ (i+1)=qq:=by rw [hqq,Nat.mul_div_cancel_left _ (Nat.two_pow_pos _)]
   have hq2:Zc q / 2 ^ i=2 * qq:=by rw [hqq,Nat.pow_succ,Nat.mul_assoc,Nat.mul_div_cancel_left _ (Nat.two_pow_pos _)]
   rw [hq1] at he
   rw [if_pos (dT (by omega)),Z5v ha (by omega),oB,d1,oB,Sr d3 (by omega) (by omega),oB,Zqr (Xa _) hy (by have:=Yx d3;omega) (by omega) (by have:=Yx d3;omega) (by omega),oB,Z8,d4]
   rw [he] at h2
   have hkey:Zc a / 2 ^ i=2 * qq * Zc y+(2 * Zc r+Zc a / 2 ^ i % 2):=by
    have:2 * qq * Zc y=2 * (qq * Zc y):=Nat.mul_assoc _ _ _
    omega
   generalize hbit:Zc a / 2 ^ i % 2=b at *
   by_cases hge:Zc y≤2 * Zc r+b
   ·rw [if_pos (by rw [if_neg (by omega)];split <;> decide)]
    obtain ⟨x,x1,x2,x3,x4⟩:=Z49 hq (i:=i) (by omega) ⟨qq,hqq⟩
    have e1:i64.wrap (Int.tdiv (i:Int) 32)=((i / 32:Nat):Int):=by rw [Int.tdiv_eq_ediv_of_nonneg (by omega),Z0 (by omega)];omega
    have e2:Int.tmod (i:Int) 32=((i % 32:Nat):Int):=by rw [Int.tmod_eq_emod_of_nonneg (by omega)];omega
    have ll:(Zg (2 * Zc r+b)).length≤y.length+1:=by rw [← d4];exact Nat.le_trans (Yx d3) (by omega)
    rw [Zq0 (Xa _) hy (by omega) (by omega) (by omega) (by omega),oB,Z8,if_neg (by omega),e1,e2,x1,oB,Z9 (by omega),x2,oB,Int.toNat_natCast,Zlk,Z0 (by omega)]
    have ih:=Zqu N a y ha hy hy0 hly hs hla hyc hNa n i (Zg (2 * Zc r+b - Zc y)) (q.set (i / 32) ((x+2 ^ (i % 32):Nat):Int)) (by omega) (by omega) (by rw [nS];omega) (by rw [nS];exact hqa) (hq.set _ ⟨Int.natCast_nonneg _,Int.ofNat_lt.2 x3⟩) (by rw [Z8]) (by rw [Z8];omega) (by
     rw [x4,hqq];exact Nat.dvd_add ⟨2 * qq,by rw [Nat.pow_succ,Nat.mul_assoc]⟩ (Nat.dvd_refl _)) (by
     have:Zc (q.set (i / 32) ((x+2 ^ (i % 32):Nat):Int)) / 2 ^ i=2 * qq+1:=by
      rw [x4,Nat.add_div_right _ (Nat.two_pow_pos _),hq2]
     rw [this,Z8,hkey,Nat.add_mul,Nat.one_mul];omega)
    exact ih
   ·rw [if_neg (by rw [if_pos (by omega)];decide),Zlk,Z0 (by omega)]
    exact Zqu N a y ha hy hy0 hly hs hla hyc hNa n i (Zg (2 * Zc r+b)) q (by omega) (by omega) (by omega) hqa hq (by rw [Z8]) (by rw [Z8];omega) (by rw [hqq];exact ⟨2 * qq,by rw [Nat.pow_succ,Nat.mul_assoc]⟩) (by rw [hq2,Z8,hkey])
theorem Zxl {N:Nat} {a b:List Int} (ha:Zn a) (hb:Zn b) (hN:32 * a.length+(Zg (Zc b)).length+48<N) (hbN:b.length<N) (hs:a.length+(Zg (Zc b)).length<35184370000000) (hbs:b.length≤35184372000000):
  Zlj N a b=some (if Zc b=0 then ([],[],11) else (Zg (Zc a / Zc b),Zg (Zc a % Zc b),0)):=by
 have la:=Yx ha
 rw [Zlj,Sr hb (by omega) (by omega),oB]
 by_cases h0:Zc b=0
 ·rw [h0,W0,if_pos (by decide),if_pos rfl]
 ·have hbp:=S1 h0
  have hbl:=(Zkg (Zc a)).2
  rw [if_neg (dF (by omega)),if_neg h0,Z5w ha (by omega) (by omega),oB]
  have e1:i64.wrap (Int.tdiv (i64.wrap (((Xb (Zc a):Nat):Int)+31)) 32)=(((Xb (Zc a)+31) / 32:Nat):Int):=by
   rw [Z0 (x:=((Xb (Zc a):Nat):Int)+31) (by omega),Int.tdiv_eq_ediv_of_nonneg (by omega),Z0 (by omega)];omega
  rw [e1,Z9 (by simp only [maxLen,Int.toNat_natCast];omega),Int.toNat_natCast,Z0 (by omega)]
  have:=Zqu N a (Zg (Zc b)) ha (Xa _) (by rw [Z8];omega) (by omega) (by omega) (by omega) (by rw [Z8]) (by omega) N (Xb (Zc a)) [] (List.replicate ((Xb (Zc a)+31) / 32) 0) (by omega) (by omega) (by rw [List.length_replicate];omega) (by rw [List.length_replicate];omega) (.zeros _) (by rw [Yt,W0]) (by rw [Z8,Yt];omega) (by rw [Sk];exact ⟨0,rfl⟩) (by
   rw [Sk,Yt,Nat.zero_div,Nat.zero_mul]
   exact Nat.div_eq_of_lt (Vt.1 (Nat.le_refl _)))
  rw [Z8] at this
  exact this
theorem Z2k {x:Nat} (h:x % 2=1):Nat.Coprime 2 x:=by
 rw [Nat.coprime_iff_gcd_eq_one,Nat.gcd_rec,h,Nat.gcd_one_left]
theorem Zt0 {x y k:Nat} (h:y % 2=1):Nat.gcd (2 ^ k * x) y=Nat.gcd x y:=by
 induction k with
 | zero=>rw [Nat.pow_zero,Nat.one_mul]
 | succ k ih=>rw [Nat.pow_succ,Nat.mul_comm (2 ^ k),Nat.mul_assoc,(Z2k h).gcd_mul_left_cancel,ih]
theorem Z3m {x y k:Nat} (h:x % 2=1):Nat.gcd x (2 ^ k * y)=Nat.gcd x y:=by
 rw [Nat.gcd_comm,Zt0 h,Nat.gcd_comm]
theorem Zkh {x:Nat} (h:x≠0):1≤Xb x:=by rw [Xb,if_neg h];omega
theorem Zkf (x:Nat):Xb (x / 2)=Xb x - 1:=by
 have:=Zhh x 1
 rwa [Nat.pow_one] at this
theorem Zhg {x y:Nat} (h:x≤y):Xb x≤Xb y:=Vt.2 (Nat.lt_of_le_of_lt h (Vt.1 (Nat.le_refl _)))
theorem Zhf {M x:Nat} (h:(Zg x).length≤M):Xb x≤32 * M:=by have:=(Zkg x).2;omega
theorem Zui {x xo k:Nat} (h:x=2 ^ k * xo):xo≤x:=by
 rw [h]
 have:=Nat.mul_le_mul_right xo (Nat.two_pow_pos k)
 omega
section
variable {N M:Nat} (hN:100 * M+64<N) (hM:M<1066000000100)
include hN hM
theorem Zxw (t:Nat):∀ (n i:Nat) (x:List Int),i≤t→t - i<n→t≤32 * M→Zn x→x.length+(t - i)≤33 * M→
  ∃ g,Zlo N (t:Int) n x (i:Int)=some g∧Zn g∧Zc g=2 ^ (t - i) * Zc x∧g.length≤x.length+(t - i)
 | 0,i,x,_,h,_,_,_=>by omega
 | n+1,i,x,hi,hn,ht,hx,hl=>by
  rw [Zlo.eq_2]
  by_cases h0:i<t
  ·obtain ⟨d,d1,d2,d3,d4⟩:=Zxn (N:=N) (a:=x) (c:=0) hx (by omega) (by omega) (by omega)
   rw [show ((0:Nat):Int)=0 from rfl] at d1
   obtain ⟨g,g1,g2,g3,g4⟩:=Zxw t n (i+1) d (by omega) (by omega) ht d3 (by omega)
   rw [show ((i+1:Nat):Int)=(i:Int)+1 by omega] at g1
   rw [if_pos (dT (by omega)),d1,oB,Z0 (by omega)]
   refine ⟨g,g1,g2,?_,by omega⟩
   rw [g3,d4,Nat.add_zero (2 * Zc x),← Nat.mul_assoc,← Nat.pow_succ]
   congr 2;omega
  ·have:i=t:=by omega
   subst this
   rw [if_neg (dF (by omega))]
   exact ⟨x,rfl,hx,by simp,by omega⟩
theorem Zxv (kk:List Int→List Int→Option R5) {x:Nat} (hx:(Zg x).length≤M):∀ (n y:Nat),y≠0→Xb y<n→(Zg y).length≤M→
  ∃ yo k,y=2 ^ k * yo∧yo % 2=1∧Zgb N kk (Zg x) n (Zg y)=kk (Zg (min x yo)) (Zg (max x yo - min x yo))
 | 0,y,_,h,_=>by omega
 | n+1,y,h0,hn,hy=>by
  have hp:=S1 h0
  rw [Zgb.eq_2,if_pos (dT (by omega)),Zm5 (Xa _),Z8,oB,Zo3]
  by_cases he:y % 2=0
  ·rw [if_pos (dT he),Zm6 (Xa _) (by omega) (by omega),oB,Z8]
   have hb:=Zkf y
   have h1:=Zkh h0
   obtain ⟨yo,k,e1,e2,e3⟩:=Zxv kk hx n (y / 2) (by omega) (by omega) (Nat.le_trans (Vu (Nat.div_le_self _ _)) hy)
   refine ⟨yo,k+1,?_,e2,e3⟩
   rw [Nat.pow_succ,Nat.mul_comm (2 ^ k),Nat.mul_assoc,← e1];omega
  ·rw [if_neg (dF he),Zqr (Xa _) (Xa _) (by omega) (by omega) (by omega) (by omega),oB,Z8,Z8]
   refine ⟨y,0,by simp,by omega,?_⟩
   by_cases hxy:y<x
   ·rw [if_pos (by rw [if_neg (by omega),if_pos hxy];decide),Zlm,Zq0 (Xa _) (Xa _) (by omega) (by omega) (by omega) (by omega),oB,Z8,Z8,if_neg (by omega),Nat.min_eq_right (by omega),Nat.max_eq_left (by omega)]
   ·rw [if_neg (by split <;> (try split) <;> simp_all <;> omega),Zlm,Zq0 (Xa _) (Xa _) (by omega) (by omega) (by omega) (by omega),oB,Z8,Z8,if_neg (by omega),Nat.min_eq_left (by omega),Nat.max_eq_right (by omega)]
theorem Zxu (kk:List Int→List Int→Option R5) {y:Nat}:∀ (n x:Nat),x≠0→Xb x<n→(Zg x).length≤M→
  ∃ xo k,x=2 ^ k * xo∧xo % 2=1∧Zln N (Zg y) kk n (Zg x)=Zgb N kk (Zg xo) N (Zg y)
 | 0,x,_,h,_=>by omega
 | n+1,x,h0,hn,hx=>by
  rw [Zln.eq_2,Zm5 (Xa _),Z8,oB]
  by_cases he:x % 2=0
  ·rw [if_pos (dT he),Zm6 (Xa _) (by omega) (by omega),oB,Z8]
   have hb:=Zkf x
   have h1:=Zkh h0
   obtain ⟨xo,k,e1,e2,e3⟩:=Zxu kk n (x / 2) (by omega) (by omega) (Nat.le_trans (Vu (Nat.div_le_self _ _)) hx)
   refine ⟨xo,k+1,?_,e2,e3⟩
   rw [Nat.pow_succ,Nat.mul_comm (2 ^ k),Nat.mul_assoc,← e1];omega
  ·rw [if_neg (dF he)]
   exact ⟨x,0,by simp,by omega,rfl⟩
theorem Zxx (t:Nat) {n x y:Nat} (hx:x≠0) (hy:y≠0) (h:x % 2=1∨y % 2=1) (lx:(Zg x).length≤M) (ly:(Zg y).length≤M):
  ∃ x' y',Q7 N (t:Int) (n+1) (Zg x) (Zg y)=Q7 N (t:Int) n (Zg x') (Zg y')∧x' % 2=1∧y' % 2=0∧Nat.gcd x' y'=Nat.gcd x y∧(Zg x').length≤M∧(Zg y').length≤M∧(Xb x'+Xb y'≤Xb x+Xb y)∧(y % 2=0→Xb x'+Xb y'+1≤Xb x+Xb y):=by
 have hp:=S1 hy
 have bx:=Zhf lx
 have by_:=Zhf ly
 obtain ⟨xo,k,x1,x2,x3⟩:=Zxu hN hM (Q7 N (t:Int) n) (y:=y) N x hx (by omega) lx
 have lxo:=Zui x1
 obtain ⟨yo,l,y1,y2,y3⟩:=Zxv hN hM (Q7 N (t:Int) n) (x:=xo) (Nat.le_trans (Vu lxo) lx) N y hy (by omega) ly
 have lyo:=Zui y1
 rw [Q7.eq_2,if_pos (dT (by omega)),x3,y3]
 have mM:max xo yo≤max x y:=by omega
 have lM:(Zg (max x y)).length≤M:=by
  rcases Nat.le_total x y with h | h
  ·rw [Nat.max_eq_right h];exact ly
  ·rw [Nat.max_eq_left h];exact lx
 have bmm:Xb (min xo yo)+Xb (max xo yo - min xo yo)≤Xb xo+Xb yo:=by
  rcases Nat.le_total xo yo with h | h
  ·rw [Nat.min_eq_left h,Nat.max_eq_right h]
   have:=Zhg (Nat.sub_le yo xo);omega
  ·rw [Nat.min_eq_right h,Nat.max_eq_left h]
   have:=Zhg (Nat.sub_le xo yo);omega
 have b1:=Zhg lxo
 have b2:=Zhg lyo
 refine ⟨_,_,rfl,by omega,by omega,?_,Nat.le_trans (Vu (by omega)) lM,Nat.le_trans (Vu (by omega)) lM,by omega,fun hev=>?_⟩
 ·have g1:Nat.gcd (min xo yo) (max xo yo - min xo yo)=Nat.gcd xo yo:=by
   rcases Nat.le_total xo yo with h | h
   ·rw [Nat.min_eq_left h,Nat.max_eq_right h,Nat.gcd_sub_self_right h]
   ·rw [Nat.min_eq_right h,Nat.max_eq_left h,Nat.gcd_sub_self_right h,Nat.gcd_comm]
  rw [g1,x1,y1]
  rcases h with h | h
  ·have hk:k=0:=by
    rcases Nat.eq_zero_or_pos k with hk | hk
    ·exact hk
    ·obtain ⟨k',rfl⟩:∃ k',k=k'+1:=⟨k - 1,by omega⟩
     rw [x1,Nat.pow_succ,Nat.mul_comm (2 ^ k'),Nat.mul_assoc] at h;omega
   subst hk
   rw [Nat.pow_zero,Nat.one_mul,Z3m x2]
  ·have hl:l=0:=by
    rcases Nat.eq_zero_or_pos l with hk | hk
    ·exact hk
    ·obtain ⟨k',rfl⟩:∃ k',l=k'+1:=⟨l - 1,by omega⟩
     rw [y1,Nat.pow_succ,Nat.mul_comm (2 ^ k'),Nat.mul_assoc] at h;omega
   subst hl
   rw [Nat.pow_zero,Nat.one_mul,Zt0 y2]
 ·have:yo≤y / 2:=by
   rcases Nat.eq_zero_or_pos l with hl | hl
   ·subst hl;rw [Nat.pow_zero,Nat.one_mul] at y1;omega
   ·obtain ⟨k',rfl⟩:∃ k',l=k'+1:=⟨l - 1,by omega⟩
    rw [y1,Nat.pow_succ,Nat.mul_comm (2 ^ k'),Nat.mul_assoc,Nat.mul_div_cancel_left _ (by decide)]
    have:=Nat.mul_le_mul_right yo (Nat.two_pow_pos k')
    omega
  have h3:=Zhg this
  rw [Zkf] at h3
  have h4:=Zkh hy
  omega
theorem Zxt (t:Nat) (ht:t≤32 * M):∀ (n x y:Nat),x % 2=1→y % 2=0→Xb x+Xb y<n→(Zg x).length≤M→(Zg y).length≤M→
  ∃ g,Q7 N (t:Int) n (Zg x) (Zg y)=some g∧Zn g∧Zc g=2 ^ t * Nat.gcd x y∧g.length≤33 * M
 | 0,x,y,_,_,h,_,_=>by omega
 | n+1,x,y,hx,hy,hn,lx,ly=>by
  by_cases h0:y=0
  ·subst h0
   rw [Q7.eq_2,W0,if_neg (by decide)]
   obtain ⟨g,g1,g2,g3,g4⟩:=Zxw hN hM t N 0 (Zg x) (by omega) (by omega) ht (Xa _) (by omega)
   rw [Z8,Nat.sub_zero] at g3
   exact ⟨g,g1,g2,by rw [g3,Nat.gcd_zero_right],by omega⟩
  ·obtain ⟨x',y',e1,e2,e3,e4,e5,e6,_,e7⟩:=Zxx hN hM t (n:=n) (by omega) h0 (.inl hx) lx ly
   have:=e7 hy
   obtain ⟨g,g1,g2,g3,g4⟩:=Zxt t ht n x' y' e2 e3 (by omega) e5 e6
   exact ⟨g,by rw [e1,g1],g2,by rw [g3,e4],g4⟩
theorem Zxs:∀ (n x y t:Nat),x≠0→y≠0→Xb x<n→t+Xb x≤32 * M→(Zg x).length≤M→(Zg y).length≤M→
  ∃ g,Ziq N n (Zg x) (Zg y) (t:Int)=some g∧Zn g∧Zc g=2 ^ t * Nat.gcd x y∧g.length≤33 * M
 | 0,x,y,t,_,_,h,_,_,_=>by omega
 | n+1,x,y,t,hx,hy,hn,ht,lx,ly=>by
  have bx:=Zhf lx
  have by_:=Zhf ly
  have last:(x % 2=1∨y % 2=1)→∃ g,Q7 N (t:Int) N (Zg x) (Zg y)=some g∧Zn g∧Zc g=2 ^ t * Nat.gcd x y∧g.length≤33 * M:=fun h=>by
   obtain ⟨N',hN'⟩:∃ N',N=N'+1:=⟨N - 1,by omega⟩
   obtain ⟨x',y',e1,e2,e3,e4,e5,e6,e7,_⟩:=Zxx hN hM t (n:=N') hx hy h lx ly
   obtain ⟨g,g1,g2,g3,g4⟩:=Zxt hN hM t (by omega) N' x' y' e2 e3 (by omega) e5 e6
   refine ⟨g,?_,g2,by rw [g3,e4],g4⟩
   rw [← g1,← e1]
   congr 1
  rw [Ziq.eq_2,Zm5 (Xa _),Z8,oB]
  by_cases hxe:x % 2=0
  ·rw [if_pos (dT hxe),Zm5 (Xa _),Z8,oB,Zll]
   by_cases hye:y % 2=0
   ·rw [if_pos (dT hye),Zm6 (Xa _) (by omega) (by omega),oB,Zm6 (Xa _) (by omega) (by omega),oB,Z8,Z8,Z0 (by omega)]
    have hb:=Zkf x
    have h1:=Zkh hx
    obtain ⟨g,g1,g2,g3,g4⟩:=Zxs n (x / 2) (y / 2) (t+1) (by omega) (by omega) (by omega) (by omega) (Nat.le_trans (Vu (Nat.div_le_self _ _)) lx) (Nat.le_trans (Vu (Nat.div_le_self _ _)) ly)
    rw [show ((t+1:Nat):Int)=(t:Int)+1 by omega] at g1
    refine ⟨g,g1,g2,?_,g4⟩
    rw [g3,Nat.pow_succ,Nat.mul_assoc,← Nat.gcd_mul_left]
    congr 2 <;> omega
   ·rw [if_neg (dF hye)]
    exact last (.inr (by omega))
  ·rw [if_neg (dF hxe),Zll,if_neg (by decide)]
   exact last (.inl (by omega))
end
theorem Z53 {N M:Nat} {a b:List Int} (ha:Zn a) (hb:Zn b) (hla:a.length≤M) (hlb:b.length≤M) (hN:100 * M+64<N) (hM:M<1066000000100):∃ g,Zo2 N a b=some g∧Zn g∧Zc g=Nat.gcd (Zc a) (Zc b)∧g.length≤33 * M:=by
 have la:=Yx ha
 have lb:=Yx hb
 rw [Zo2,Sr ha (by omega) (by omega),oB,Sr hb (by omega) (by omega),oB]
 by_cases h1:Zc a=0
 ·rw [h1,W0,if_pos (by decide),Nat.gcd_zero_left]
  exact ⟨_,rfl,Xa _,Z8 _,by omega⟩
 ·have p1:=S1 h1
  rw [if_neg (dF (by omega))]
  by_cases h2:Zc b=0
  ·rw [h2,W0,if_pos (by decide),Nat.gcd_zero_right]
   exact ⟨_,rfl,Xa _,Z8 _,by omega⟩
  ·have p2:=S1 h2
   have bx:=Zhf (x:=Zc a) (by omega)
   rw [if_neg (dF (by omega))]
   obtain ⟨g,g1,g2,g3,g4⟩:=Zxs hN hM N (Zc a) (Zc b) 0 h1 h2 (by omega) (by omega) (by omega) (by omega)
   exact ⟨g,g1,g2,by rw [g3];simp,g4⟩
def Zpc:Option R5:=
  some [1]
theorem Z1f {col:Ze} {w0:World} {r:R5} (c1:Nat) (hm:Zpc=some r):
    Calls prog 176 #[] w0 (fun e w'=>∃ (col':Ze) (ra1:Option Addr) (rc2:Nat),e= .returned ((.slice ra1 r.length rc2))∧Zh col w0 col' w'∧Zb (Za.int .u32) 95 c1 col' w' ra1 rc2 r):=by
 refine Xf 0 (m:=2) func176 rfl rfl rfl rfl rfl ?_;rw [Zpc.eq_1] at hm;have aa:=St.start col w0;refine go ?_;refine Vg (col:=(Zj col)) [1] 1 ?_;intro ad ae af ab ac;refine go ?_;cases hm;replace aa:=aa.grow ab;exact ⟨rfl,_,_,1,rfl,aa.fin (cm [(1,c1)]),aa.fo ac⟩
def Zlx (N:Nat) (ab:R4):Option R5:=
  (Vn N ab.2).bind fun aa=>if (decide ((aa.length:Int)=0))=true then ((Zpc).bind fun ac=>some ac) else (some aa)
theorem Zr8 {N ad ae:Nat} {af ag:Option Addr} {col:Ze} {w0:World} {ab:R4} {r:R5} (c1:Nat) (hm:Zlx N ab=some r) (aq:Sl (Za.int .u32) col w0 af ad ab.1.2) (ac:Sl (Za.int .u32) col w0 ag ae ab.2):
    Calls prog 124 #[(.agg #[.bool ab.1.1,.slice af ab.1.2.length ad,.slice ag ab.2.length ae])] w0 (fun e w'=>∃ (col':Ze) (ra1:Option Addr) (rc2:Nat),e= .returned ((.slice ra1 r.length rc2))∧Zh col w0 col' w'∧Zb (Za.int .u32) 95 c1 col' w' ra1 rc2 r):=by
 refine Xf 2 (m:=12) func124 rfl rfl rfl rfl rfl ?_;rw [Zlx.eq_1] at hm;have aa:=St.start col w0;refine go ?_;refine Xl (col:=(Zj col)) 1 rfl ?_;intro ar au av ah ai;refine go ?_;refine Xd ai ?_;obtain ⟨aw,aj,hm⟩:=bZ hm;replace ac:=ac.keep (Zi.start col w0);replace aa:=aa.grow ah;refine Zk (Zcy 2 aj (ac.ks aa)) ?_;rintro _ ax ⟨ak,ay,az,rfl,al,am⟩;refine ⟨_,rfl,go ?_⟩;replace aa:=aa.grow al;refine Zo hm (fun hb hm=>go ?_) fun hb hm=>go ?_
 ·obtain ⟨a0,an,hm⟩:=bZ hm;refine lc rfl rfl (Zgu call176) (Z1f (col:=ak) 3 an:) ?_;rintro _ a1 ⟨a2,a3,a4,rfl,ao,ap⟩;refine ⟨_,rfl,go ?_⟩;cases hm;replace aa:=aa.grow ao;exact ⟨rfl,_,_,_,rfl,aa.fin (cm [(3,c1)]),aa.fo ap⟩
 cases hm;exact ⟨rfl,_,_,_,rfl,aa.fin (cm [(2,c1)]),aa.fo am⟩
def Zly (aa:List Int):Option R8:=
  some (false,aa)
theorem Zr9 {ac:Nat} {a0:Option Addr} {col:Ze} {w0:World} {ab:R5} {r:R8} (hm:Zly ab=some r) (h0:Sl (Za.int .u32) col w0 a0 ac ab):
    Calls prog 123 #[.slice a0 ab.length ac] w0 (fun e w'=>∃ (col':Ze) (ra1:Option Addr) (rc2:Nat),e= .returned ((.agg #[.bool r.1,.slice ra1 r.2.length rc2]))∧Zh col w0 col' w'∧Sl (Za.int .u32) col' w' ra1 rc2 r.2):=by
 refine Y5 (m:=5) func123 rfl rfl rfl ?_;rw [Zly.eq_1] at hm;have aa:=St.start col w0;refine go ?_;refine Xg (col:=(Zj col)) #[.bool false,.slice none (([]:List Int).length) 0] 1 zeroValue37 ?_;intro ai aj ak ad ae;refine go ?_;refine lV (.agg #[.bool false,.slice a0 ab.length ac]) (Wc (l:=[_,_]) (qs:=[(0,1),(1,1)]) underlying37 zeroValue37 ⟨rfl,sizeOf4,rfl,sizeOf35,trivial⟩ rfl)<|Zz ae ?_;intro al af ag ah;refine go ?_;cases hm;replace h0:=h0.keep (Zi.start col w0);replace aa:=(aa.grow ad).kp af ag;exact ⟨rfl,_,ra ah.atN,_,_,_,rfl,aa.fin (cm []),aa.fs (h0.ks aa)⟩
def Zgh (aa:Bool) (ab:List Int):Option R8:=
  some (aa,ab)
def Sg (N:Nat) (ab:Bool) (ac:List Int):Option R8:=
  (Vn N ac).bind fun aa=>if ab=true then (Zgh (decide (0<(aa.length:Int))) aa) else (Zgh false aa)
theorem Zew {N ao:Nat} {a1:Option Addr} {col:Ze} {w0:World} {ap:Bool} {ah:R5} {r:R8} (c1:Nat) (hm:Sg N ap ah=some r) (h1:Sl (Za.int .u32) col w0 a1 ao ah):
    Calls prog 174 #[.bool ap,.slice a1 ah.length ao] w0 (fun e w'=>∃ (col':Ze) (ra1:Option Addr) (rc2:Nat),e= .returned ((.agg #[.bool r.1,.slice ra1 r.2.length rc2]))∧Zh col w0 col' w'∧Zb (Za.int .u32) 95 c1 col' w' ra1 rc2 r.2):=by
 refine Y5 (m:=16) func174 rfl rfl rfl ?_;rw [Sg.eq_1] at hm;have aa:=St.start col w0;refine go ?_;refine Xg (col:=(Zj col)) #[.bool false,.slice none (([]:List Int).length) 0] 1 zeroValue37 ?_;intro ax a4 a5 ay ac;refine go ?_;obtain ⟨ad,az,hm⟩:=bZ hm;replace h1:=h1.keep (Zi.start col w0);replace aa:=aa.grow ay;refine Zk (Zcy 2 az (h1.ks aa)) ?_;rintro _ a6 ⟨a7,aq,ar,rfl,au,ab⟩;refine ⟨_,rfl,?_⟩;refine Zk2 rfl<|Zl<|Zs ?_;replace ac:=ac.gr au;replace aa:=aa.grow au;refine Wp.cutK [4,1000000] (fun f ae=>∃ af ai aj ak ag,Zgh ai ag=some r∧St w0 (Zj col) af ae∧Zb (Za.int .u32) 95 3 af ae aj ak ag∧Zf 37 1 af ae ax #[.bool ai,.slice aj ag.length ak]) ?_ ?_
 ·intro f ae hJ;obtain ⟨af,ai,aj,ak,ag,hm,aa,a0,ac⟩:=hJ;rw [Zgh.eq_1] at hm;refine Vc ?_;cases hm;exact ⟨rfl,_,ra ac.atN,_,_,_,rfl,aa.fin (cm [(3,c1)]),aa.fo a0⟩
 refine go ?_;refine Yc hm (fun al hm=>go ?_) fun al hm=>go ?_
 ·refine lV (.bool (decide (0<(ad.length:Int)))) (Xr (congrArg Value.bool al) rfl)<|Yk rfl<|lV (.agg #[.bool (decide (0<(ad.length:Int))),.slice aq ad.length ar]) (Wc (l:=[_,_]) (qs:=[(0,1),(1,1)]) underlying37 zeroValue37 ⟨rfl,sizeOf4,rfl,sizeOf35,trivial⟩ rfl)<|Zz ac ?_;intro a8 av a2 am;refine Zl ?_;replace ab:=ab.kp av;replace ab:=ab.recolSelf 3 (by decide);replace am:=am.recol 2 3 (by decide);replace aa:=aa.kp av a2;replace aa:=aa.recol 2 3 (by decide) (by decide);exact ⟨rfl,_,_,_,_,_,hm,aa,ab,am⟩
 refine lV (.bool false) (Xq (congrArg Value.bool al) rfl)<|Yk rfl<|lV (.agg #[.bool false,.slice aq ad.length ar]) (Wc (l:=[_,_]) (qs:=[(0,1),(1,1)]) underlying37 zeroValue37 ⟨rfl,sizeOf4,rfl,sizeOf35,trivial⟩ rfl)<|Zz ac ?_;intro a9 aw a3 an;refine Zl ?_;replace ab:=ab.kp aw;replace ab:=ab.recolSelf 3 (by decide);replace an:=an.recol 2 3 (by decide);replace aa:=aa.kp aw a3;replace aa:=aa.recol 2 3 (by decide) (by decide);exact ⟨rfl,_,_,_,_,_,hm,aa,ab,an⟩
def Zlv (N:Nat) (aa:R8) (ab:R8):Option R8:=
  (Zo4 N aa.2 ab.2).bind fun ad=>(Sg N (!decide (aa.1=ab.1)) ad).bind fun ac=>some (ac.1,ac.2)
theorem Zr7 {N ar au:Nat} {av aw:Option Addr} {col:Ze} {w0:World} {ag ah r:R8} (c1:Nat) (hm:Zlv N ag ah=some r) (al:Sl (Za.int .u32) col w0 av ar ag.2) (am:Sl (Za.int .u32) col w0 aw au ah.2):
    Calls prog 122 #[(.agg #[.bool ag.1,.slice av ag.2.length ar]),(.agg #[.bool ah.1,.slice aw ah.2.length au])] w0 (fun e w'=>∃ (col':Ze) (ra1:Option Addr) (rc2:Nat),e= .returned ((.agg #[.bool r.1,.slice ra1 r.2.length rc2]))∧Zh col w0 col' w'∧Zb (Za.int .u32) 95 c1 col' w' ra1 rc2 r.2):=by
 refine Y5 (m:=16) func122 rfl rfl rfl ?_;rw [Zlv.eq_1] at hm;have aa:=St.start col w0;refine go ?_;refine Xl (col:=(Zj col)) 1 rfl ?_;intro a7 a8 az a0 ai;refine Xl (col:=az) 2 rfl ?_;intro a9 ba a1 ax aj;refine Xg (col:=a1) #[.bool false,.slice none (([]:List Int).length) 0] 3 zeroValue37 ?_;intro bb bc ad an ab;refine go ?_;refine Wh (col:=ad) [(0,1),(1,0),(2,1),(3,0),(4,1),(5,1),(6,0),(7,1),(8,0),(9,3),(10,3),(11,2)] (by kernel_rfl) (by kernel_rfl)<|xF ⟨_,_,rfl⟩ ?_;replace ai:=(ai.gr ax).gr an;refine xW (fun _ hC=>((ai.atN).nth (q:=0) rfl).gr (hC.bl ad)) ?_;refine xF ⟨_,_,rfl⟩ ?_;replace aj:=aj.gr an;refine xW (fun _ hC=>((aj.atN).nth (q:=0) rfl).gr (hC.bl ad)) ?_;refine xu rfl rfl (fun _=>Zgy _ _ underlying4 rfl rfl) ?_;refine xF ⟨_,_,rfl⟩ ?_;refine xW (fun _ hC=>((ai.atN).nth (q:=1) rfl).gr (hC.bl ad)) ?_;refine xF ⟨_,_,rfl⟩ ?_;refine xW (fun _ hC=>((aj.atN).nth (q:=1) rfl).gr (hC.bl ad)) ?_;refine xe rfl rfl ?_;intro bd hC0;have hC:=hC0.bl ad;obtain ⟨be,a2,hm⟩:=bZ hm;replace al:=al.keep (Zi.start col w0);replace am:=am.keep (Zi.start col w0);replace aa:=(((aa.grow a0).grow ax).grow an).grow hC;refine Zk (Z07 4 a2 (al.ks aa) (am.ks aa)) ?_;rintro _ bf ⟨af,bg,bh,rfl,ao,ap⟩;refine ⟨_,rfl,?_⟩;refine Zl<|Xo af hC0 ao<|xe rfl rfl ?_;intro a3 hC0;replace ab:=(ab.gr hC).gr ao;have hC:=hC0.bl af;obtain ⟨bi,a4,hm⟩:=bZ hm;replace ap:=ap.gr hC;refine Zk (Zew 5 a4 (ap.toSlF (Zd.int .u32))) ?_;rintro _ bj ⟨a5,bk,bm,rfl,ae,ac⟩;refine ⟨_,rfl,?_⟩;replace ac:=ac.thaw (Z1 .u32) ae ((Fz.refl (col:=af)).froz 4) (by decide);replace ae:=ae.thawR (col:=af);generalize Xe a3.heap.size af a5=ak at *;refine Zl<|Xo ak hC0 ae<|xe rfl rfl ?_;intro bn hC0;replace aa:=((aa.grow ao).grow hC).grow ae;replace ab:=(ab.gr hC).gr ae;have hC:=hC0.bl ak;replace ab:=ab.gr hC;refine Zz ab ?_;intro bo ay a6 aq;refine Zl<|xk ak<|Y2 ?_;replace ac:=(ac.gr hC).kp ay;replace aa:=(aa.grow hC).kp ay a6;intro bp hC;replace hC:=hC.bl ak;refine Vc ?_;cases hm;replace ac:=ac.gr hC;replace aq:=aq.gr hC;replace aa:=aa.grow hC;exact ⟨rfl,_,ra aq.atN,_,_,_,rfl,aa.fin (cm [(5,c1)]),aa.fo ac⟩

end Go.Proofs.YtkhnlgdenkikoaaGreat
