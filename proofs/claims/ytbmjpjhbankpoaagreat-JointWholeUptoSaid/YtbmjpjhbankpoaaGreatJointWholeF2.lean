/-
  What functions of the program compute, as plain Lean functions (m_..), and proofs that they compute it (c_..). Printed by a program of the author; no conditions.
-/
import Derived.Test.YtbmjpjhbankpoaaGreatJointWholeBFloat
import Derived.Test.YtbmjpjhbankpoaaGreatProg
import Derived.Test.YtbmjpjhbankpoaaGreatJointWholeBBrief
import Derived.Test.YtbmjpjhbankpoaaGreatJointWholeF1
set_option linter.unusedVariables false
set_option maxRecDepth 100000
set_option maxHeartbeats 2000000
namespace Go.Proofs.YtbmjpjhbankpoaaGreat
open Go Go.RowKit
open Go.IntKind (i8 i16 i32 i64 u8 u16 u32 u64)
open Go.Proofs.Tryz

def S7 (N:Nat) (aa:R1) (ab:R1):Option Int:=
  (Ub N ((ab.1.1,ab.1.2),ab.2)).bind fun ae=>(Zaz N (aa.1.1,aa.1.2) ae).bind fun ac=>(Ub N ((aa.1.1,aa.1.2),aa.2)).bind fun af=>(Zaz N (ab.1.1,ab.1.2) af).bind fun ad=>(Zhc N (ac.1,ac.2) (ad.1,ad.2)).bind fun ag=>some ag
theorem Zic {N ap a0 aq a1:Nat} {ar a2 au a3:Option Addr} {col:Zd} {w0:World} {ac ad:R1} {r:Int} (hm:S7 N ac ad=some r) (al:Sl (Za.int .u32) col w0 ar ap ac.1.2) (av:Sl (Za.int .u32) col w0 a2 a0 ac.2) (am:Sl (Za.int .u32) col w0 au aq ad.1.2) (aw:Sl (Za.int .u32) col w0 a3 a1 ad.2):
    Calls Tryz.prog 71 #[(.agg #[.bool ac.1.1,.slice ar ac.1.2.length ap,.slice a2 ac.2.length a0]),(.agg #[.bool ad.1.1,.slice au ad.1.2.length aq,.slice a3 ad.2.length a1])] w0 (fun e w'=>e= .returned ((.int .i64 r))∧Below w0.heap.size w0 w'):=by
 refine Xc 4 (m:=16) func71 rfl rfl rfl rfl rfl ?_;rw [S7.eq_1] at hm;have aa:=St.start col w0;refine go ?_;refine X6 (col:=(Zi col)) 1 rfl ?_;intro bm bn a8 a9 an;refine X6 (col:=a8) 2 rfl ?_;intro bo bp ae a4 a5;refine go ?_;refine Wi (col:=ae) [(0,1),(1,0),(2,0),(5,1),(6,0),(7,0),(3,3),(4,3),(8,3),(9,3),(10,3),(11,1)] (by kernel_rfl) (by kernel_rfl)<|xF ⟨_,_,rfl⟩ ?_;replace an:=an.gr a4;refine xv (v:=(.agg #[.bool ac.1.1,.slice ar ac.1.2.length ap])) rfl rfl (fun _ hC=>Wv isAgg45 sizeOf45 rfl rfl (((an.atN).part 0 2 _ rfl).gr (hC.bl ae))) ?_;refine xv rfl rfl (fun _ hC=>Xi isAgg47 sizeOf47 (a5.gr (hC.bl ae))) ?_;refine xF ⟨_,_,rfl⟩ ?_;refine xv (v:=(.agg #[.bool ad.1.1,.slice au ad.1.2.length aq])) rfl rfl (fun _ hC=>Wv isAgg45 sizeOf45 rfl rfl (((a5.atN).part 0 2 _ rfl).gr (hC.bl ae))) ?_;refine xv rfl rfl (fun _ hC=>Xi isAgg47 sizeOf47 (an.gr (hC.bl ae))) ?_;refine xe rfl rfl ?_;intro bq hC0;have hC:=hC0.bl ae;obtain ⟨br,ba,hm⟩:=bZ hm;replace am:=am.keep (Zk.start col w0);replace aw:=aw.keep (Zk.start col w0);replace aa:=((aa.grow a9).grow a4).grow hC;refine Zg (T4 3 ba (am.ks aa) (aw.ks aa)) ?_;rintro _ bs ⟨ah,bt,bu,rfl,a6,ax⟩;refine ⟨_,rfl,?_⟩;refine Zl<|X3 ah hC0 a6<|xe rfl rfl ?_;intro bb hC0;have hC:=hC0.bl ah;obtain ⟨bv,bc,hm⟩:=bZ hm;replace al:=al.keep (Zk.start col w0);replace aa:=(aa.grow a6).grow hC;replace ax:=ax.gr hC;refine Zg (Zie 4 bc ((al.ks aa).froz 3) (ax.toSlF (Zj.int .u32))) ?_;rintro _ bw ⟨bd,bx,bz,rfl,ai,ab⟩;refine ⟨_,rfl,?_⟩;replace av:=av.keep (Zk.start col w0);replace ab:=ab.thaw (Zx .u32) ai ((Fz.refl (col:=ah)).froz 3) (by decide);replace ai:=ai.thawR (col:=ah);generalize Z6 bb.heap.size ah bd=a7 at *;refine Zl<|X3 a7 hC0 ai<|xe rfl rfl ?_;intro b0 hC0;have hC:=hC0.bl a7;obtain ⟨b1,be,hm⟩:=bZ hm;replace aa:=(aa.grow ai).grow hC;refine Zg (T4 5 be (al.ks aa) (av.ks aa)) ?_;rintro _ b2 ⟨aj,b3,b4,rfl,ay,az⟩;refine ⟨_,rfl,?_⟩;refine Zl<|X3 aj hC0 ay<|xe rfl rfl ?_;intro bf hC0;replace ab:=(ab.gr hC).gr ay;have hC:=hC0.bl aj;obtain ⟨b5,bg,hm⟩:=bZ hm;replace aa:=(aa.grow ay).grow hC;replace az:=az.gr hC
 refine Zg (Zie 6 bg ((am.ks aa).froz 5) (az.toSlF (Zj.int .u32))) ?_;rintro _ b6 ⟨bh,b7,b8,rfl,af,ak⟩;refine ⟨_,rfl,?_⟩;replace ak:=ak.thaw (Zx .u32) af ((Fz.refl (col:=aj)).froz 5) (by decide);replace af:=af.thawR (col:=aj);generalize Z6 bf.heap.size aj bh=ag at *;refine Zl<|X3 ag hC0 af<|xe rfl rfl ?_;intro bi hC0;replace ab:=(ab.gr hC).gr af;have hC:=hC0.bl ag;obtain ⟨b9,bj,hm⟩:=bZ hm;replace ab:=ab.gr hC;replace ak:=ak.gr hC;refine Zg (Zwr bj ((ab.toSlF (Zj.int .u32)).froz 6) ((ak.froz 4 (by decide)).toSlF (Zj.int .u32))) ?_;rintro _ bk ⟨rfl,ao⟩;refine ⟨_,rfl,?_⟩;replace ao:Zf ag bi ag bk:=.of_below ao;refine Zl<|X3 ag hC0 ao<|xu rfl rfl (fun _=>Zsh rfl) ?_;refine Y5 ?_;replace aa:=((aa.grow af).grow hC).grow ao;intro ca hC;replace hC:=hC.bl ag;refine W0 ?_;cases hm;replace aa:=aa.grow hC;exact ⟨rfl,rfl,aa.below⟩
def Zay (N:Nat):List R1→Bool→R2→R2→Option R1
  | [],aa,ab,ac=>some ((aa,ab),ac)
  | ad :: af,aa,ab,ac=>(Sa N ((aa,ab),ac) ((ad.1.1,ad.1.2),ad.2)).bind fun ae=>(Zay N af) ae.1.1 ae.1.2 ae.2
termination_by structural x=>x
def S8 (N:Nat) (aa:R7):Option R1:=
  (Qc N 1).bind fun ab=>Zay N aa false ([]:List Int) ab
theorem Zid {N ba:Nat} {a0:Option Addr} {col:Zd} {w0:World} {af:R7} {r:R1} (c1 c2:Nat) (hm:S8 N af=some r) (h0:Sl (Za.pair (Za.pair Za.bool (Za.slice (Za.int .u32))) (Za.slice (Za.int .u32))) col w0 a0 ba af):
    Calls Tryz.prog 69 #[.slice a0 af.length ba] w0 (fun e w'=>∃ (col':Zd) (ra1:Option Addr) (rc2:Nat) (ra4:Option Addr) (rc5:Nat),e= .returned ((.agg #[.bool r.1.1,.slice ra1 r.1.2.length rc2,.slice ra4 r.2.length rc5]))∧Zf col w0 col' w'∧Zc (Za.int .u32) 79 c1 col' w' ra1 rc2 r.1.2∧Zc (Za.int .u32) 79 c2 col' w' ra4 rc5 r.2):=by
 refine Wa (m:=19) func69 rfl rfl rfl ?_;rw [S8.eq_1] at hm;have aa:=St.start col w0;refine go ?_;refine Xo (col:=(Zi col)) #[.bool false,.slice none (([]:List Int).length) 0,.slice none (([]:List Int).length) 0] 1 zeroValue47 ?_;intro bc cb bd be ab;refine go ?_;obtain ⟨bf,bg,hm⟩:=bZ hm;refine Zg (Zdh (col:=bd) 2 bg) ?_;rintro _ cc ⟨bh,bi,bj,rfl,bb,aw⟩;refine ⟨_,rfl,?_⟩;refine lV (.agg #[.bool false,.slice none (([]:List Int).length) 0,.slice bi bf.length bj]) (Wb (l:=[_,_]) (qs:=[(0,2),(2,1)]) underlying47 zeroValue47 ⟨rfl,sizeOf45,rfl,sizeOf43,trivial⟩ rfl)<|Xo (col:=bh) #[.bool false,.slice none (([]:List Int).length) 0,.slice none (([]:List Int).length) 0] 3 zeroValue47 ?_;intro bk cd ce ax bm;refine Z4 bm ?_;intro cf ay bn ac;refine go ?_;replace aa:=(((aa.grow be).grow bb).grow ax).kp ay bn;replace ab:=((ab.gr bb).gr ax).kp ay;replace aw:=(aw.gr ax).kp ay;refine Z2 [2,3,8,9,1000000] (fun n f ak=>∃ ag an az a1 a2 aq a3 a4 ar ao,n=ao.length∧af.drop an=ao∧Zay N ao az aq ar=some r∧St w0 (Zi col) ag ak∧Zh 47 1 ag ak bc #[.bool false,.slice none (([]:List Int).length) 0,.slice none (([]:List Int).length) 0]∧Zc (Za.int .u32) 79 4 ag ak a1 a2 aq∧Zc (Za.int .u32) 79 2 ag ak a3 a4 ar∧Zh 47 3 ag ak bk #[.bool az,.slice a1 aq.length a2,.slice a3 ar.length a4]∧[10].map f=[.int .i64 an]) af.length ⟨_,0,_,none,0,_,_,_,_,_,rfl,rfl,hm,aa,ab,Zc.nil,aw,ac,rfl⟩ ?_;clear hm;intro n f ak hI;obtain ⟨ag,an,az,a1,a2,aq,a3,a4,ar,ao,hn,hl,hm,aa,ab,al,am,ac,hs⟩:=hI;subst hn;refine .lL [10] hs ?_;replace h0:=h0.keep (Zk.start col w0)
 cases ao with
 | nil=>
  have hk:¬ ((an:Int)<(af.length:Int)):=by have:=List.drop_eq_nil_iff.1 hl;omega
  have hkb:=decide_eq_false hk;rw [Zay.eq_1] at hm;refine go ?_;refine Xv (congrArg Value.bool hkb)<|go ?_;refine lV _ (Xi isAgg47 sizeOf47 ac)<|Z4 ab ?_;intro cg a5 bo bp;refine go ?_;cases hm;replace al:=al.kp a5;replace am:=am.kp a5;replace aa:=aa.kp a5 bo;exact ⟨rfl,_,ra bp.atN,_,_,_,_,_,rfl,aa.fin (cm [(4,c1),(2,c2)]),aa.fo al,aa.fo am⟩
 | cons a6 bq=>
  obtain ⟨a7,br,bs⟩:=Yc hl;have hk:(an:Int)<(af.length:Int):=by omega
  have hkb:=decide_eq_true hk;rw [Zay.eq_2] at hm;refine go ?_;refine Xz (congrArg Value.bool hkb)<|go ?_;refine lI a7 ((h0.ks aa).addr a7) ?_;obtain ⟨_,bt,bu⟩:=(h0.ks aa).atN a7;obtain ⟨_,_,rfl,bv,bw⟩:=Vw bt;obtain ⟨_,_,rfl,bx,bz⟩:=Vw bv;obtain ⟨rfl,_⟩:=bx;obtain ⟨⟨b0,b1,rfl,a8⟩,_⟩:=bz;obtain ⟨⟨b2,b3,rfl,a9⟩,_⟩:=bw;refine lV (.agg #[.bool a6.1.1,.slice b0 a6.1.2.length b1,.slice b2 a6.2.length b3]) (Wv isAgg47 sizeOf47 rfl rfl bu)<|Xo (col:=ag) #[.bool false,.slice none (([]:List Int).length) 0,.slice none (([]:List Int).length) 0] 5 zeroValue47 ?_;intro ch ci au ah b4;refine Z4 b4 ?_;intro b5 ai b6 b7;refine go ?_;replace ac:=(ac.gr ah).kp ai;refine lV _ (Xi isAgg47 sizeOf47 ac)<|lV _ (Xi isAgg47 sizeOf47 b7) ?_;obtain ⟨cj,b8,hm⟩:=bZ hm;replace al:=(al.gr ah).kp ai;replace am:=(am.gr ah).kp ai;replace a8:=(a8.gr ah).kp ai;replace a9:=(a9.gr ah).kp ai;refine Zg (Zfp 6 7 b8 ((al.toSlF (Zj.int .u32)).froz 2) ((am.froz 4 (by decide)).toSlF (Zj.int .u32)) ((a8.froz 4).froz 2) ((a9.froz 4).froz 2)) ?_;rintro _ ck ⟨b9,cl,cn,co,cp,rfl,aj,ad,ae⟩;refine ⟨_,rfl,?_⟩;replace ad:=ad.thaw (Zx .u32) aj (((Fz.refl (col:=au)).froz 4).froz 2) (by decide);replace ae:=ae.thaw (Zx .u32) aj (((Fz.refl (col:=au)).froz 4).froz 2) (by decide);replace aj:=aj.thawR (col:=au);generalize Z6 b5.heap.size au b9=cq at *;replace ac:=ac.gr aj;refine Z4 ac ?_;intro cr av ca ap;refine go ?_;replace ad:=ad.kp av;replace ad:=ad.recolSelf 4 (by decide);replace ae:=ae.kp av;replace ae:=ae.recol 6 4 (by decide);replace ab:=(((ab.gr ah).kp ai).gr aj).kp av;replace ab:=ab.recol 6 4 (by decide);replace ap:=ap.recol 6 4 (by decide);replace aa:=(((aa.grow ah).kp ai b6).grow aj).kp av ca;replace aa:=aa.recol 6 4 (by decide) (by decide);replace ad:=ad.recol 7 2 (by decide);replace ae:=ae.recolSelf 2 (by decide);replace ab:=ab.recol 7 2 (by decide);replace ap:=ap.recol 7 2 (by decide);replace aa:=aa.recol 7 2 (by decide) (by decide);exact ⟨bq.length,by simp,rfl,⟨_,_,_,_,_,_,_,_,_,_,rfl,br,hm,aa,ab,ad,ae,ap,(Yg (congrArg (Value.int .i64) (Yf (Nat.lt_of_lt_of_le bs (h0.ks aa).1.1))) rfl)⟩⟩
def Ze5 (N:Nat) (aa:Int):Option R3:=
  if (decide (aa<0))=true then ((Qc N (u64.wrap (-(u64.wrap aa)))).bind fun ad=>(Si N true ad).bind fun ab=>some (ab.1,ab.2)) else ((Qc N (u64.wrap aa)).bind fun ae=>(Si N false ae).bind fun ac=>some (ac.1,ac.2))
theorem Zob {N:Nat} {col:Zd} {w0:World} {ai:Int} {r:R3} (c1:Nat) (hm:Ze5 N ai=some r):
    Calls Tryz.prog 262 #[.int .i64 ai] w0 (fun e w'=>∃ (col':Zd) (ra1:Option Addr) (rc2:Nat),e= .returned ((.agg #[.bool r.1,.slice ra1 r.2.length rc2]))∧Zf col w0 col' w'∧Zc (Za.int .u32) 79 c1 col' w' ra1 rc2 r.2):=by
 refine Wa (m:=14) func262 rfl rfl rfl ?_;rw [Ze5.eq_1] at hm;have aa:=St.start col w0;refine go ?_;refine Xo (col:=(Zi col)) #[.bool false,.slice none (([]:List Int).length) 0] 1 zeroValue45 ?_;intro a5 a6 aj ao ab;refine go ?_;replace aa:=aa.grow ao;refine Zo hm (fun hb hm=>go ?_) fun hb hm=>go ?_
 ·obtain ⟨a7,ap,hm⟩:=bZ hm;refine Zg (Zdh (col:=aj) 2 ap) ?_;rintro _ aq ⟨ag,a8,a9,rfl,ak,ar⟩;refine ⟨_,rfl,?_⟩;obtain ⟨ba,au,hm⟩:=bZ hm;refine Zg (Zby 3 au (ar.toSlF (Zj.int .u32))) ?_;rintro _ bb ⟨av,bc,bd,rfl,ac,ad⟩;refine ⟨_,rfl,?_⟩;replace ad:=ad.thaw (Zx .u32) ac ((Fz.refl (col:=ag)).froz 2) (by decide);replace ac:=ac.thawR (col:=ag);generalize Z6 aq.heap.size ag av=be at *;replace ab:=(ab.gr ak).gr ac;refine Z4 ab ?_;intro bf al aw ax;refine go ?_;cases hm;replace aa:=((aa.grow ak).grow ac).kp al aw;replace ad:=ad.kp al;exact ⟨rfl,_,ra ax.atN,_,_,_,rfl,aa.fin (cm [(3,c1)]),aa.fo ad⟩
 obtain ⟨bg,ay,hm⟩:=bZ hm;refine Zg (Zdh (col:=aj) 4 ay) ?_;rintro _ az ⟨ah,bh,bi,rfl,am,a0⟩;refine ⟨_,rfl,?_⟩;obtain ⟨bj,a1,hm⟩:=bZ hm;refine Zg (Zby 5 a1 (a0.toSlF (Zj.int .u32))) ?_;rintro _ bk ⟨a2,bm,bn,rfl,ae,af⟩;refine ⟨_,rfl,?_⟩;replace af:=af.thaw (Zx .u32) ae ((Fz.refl (col:=ah)).froz 4) (by decide);replace ae:=ae.thawR (col:=ah);generalize Z6 az.heap.size ah a2=bo at *;replace ab:=(ab.gr am).gr ae;refine Z4 ab ?_;intro bp an a3 a4;refine go ?_;cases hm;replace aa:=((aa.grow am).grow ae).kp an a3;replace af:=af.kp an;exact ⟨rfl,_,ra a4.atN,_,_,_,rfl,aa.fin (cm [(5,c1)]),aa.fo af⟩
def Zfy (N:Nat) (ac:R3) (aa:R3):Option (R1×Int):=
  (Zah N (aa.1,aa.2)).bind fun ad=>if (decide (ad=0))=true then (some (((false,([]:List Int)),([]:List Int)),11)) else ((Qw N (!decide (ac.1=aa.1)) ac.2 aa.2).bind fun ab=>some (((ab.1.1,ab.1.2),ab.2),0))
theorem Zvb {N an ao:Nat} {ap aq:Option Addr} {col:Zd} {w0:World} {ae af:R3} {r:(R1×Int)} (c1 c2:Nat) (hm:Zfy N ae af=some r) (ai:Sl (Za.int .u32) col w0 ap an ae.2) (ag:Sl (Za.int .u32) col w0 aq ao af.2):
    Calls Tryz.prog 114 #[(.agg #[.bool ae.1,.slice ap ae.2.length an]),(.agg #[.bool af.1,.slice aq af.2.length ao])] w0 (fun e w'=>∃ (col':Zd) (ra1:Option Addr) (rc2:Nat) (ra4:Option Addr) (rc5:Nat),e= .returned (.tuple #[(.agg #[.bool r.1.1.1,.slice ra1 r.1.1.2.length rc2,.slice ra4 r.1.2.length rc5]),.int .i64 r.2])∧Zf col w0 col' w'∧Zc (Za.int .u32) 79 c1 col' w' ra1 rc2 r.1.1.2∧Zc (Za.int .u32) 79 c2 col' w' ra4 rc5 r.1.2):=by
 refine Wa (m:=20) func114 rfl rfl rfl ?_;rw [Zfy.eq_1] at hm;have aa:=St.start col w0;refine go ?_;refine X6 (col:=(Zi col)) 1 rfl ?_;intro a8 a9 aw ax ah;refine X6 (col:=aw) 2 rfl ?_;intro ba bb ay ar ab;refine Xo (col:=ay) #[.bool false,.slice none (([]:List Int).length) 0,.slice none (([]:List Int).length) 0] 3 zeroValue47 ?_;intro bc az au aj ac;refine go ?_;replace ab:=ab.gr aj;refine lV _ (Xi isAgg45 sizeOf45 ab) ?_;obtain ⟨bd,a0,hm⟩:=bZ hm;replace ag:=ag.keep (Zk.start col w0);replace aa:=((aa.grow ax).grow ar).grow aj;refine Zg (Zfr a0 (ag.ks aa)) ?_;rintro _ a1 ⟨rfl,ad⟩;refine ⟨_,rfl,?_⟩;replace ad:Zf au az au a1:=.of_below ad;refine go ?_;replace ai:=ai.keep (Zk.start col w0);replace ah:=((ah.gr ar).gr aj).gr ad;replace ab:=ab.gr ad;replace ac:=ac.gr ad;replace aa:=aa.grow ad;refine Zo hm (fun hb hm=>go ?_) fun hb hm=>go ?_
 ·refine lV (.agg #[.bool false,.slice none (([]:List Int).length) 0,.slice none (([]:List Int).length) 0]) (Wb (l:=[_,_]) (qs:=[(0,2),(2,1)]) underlying47 zeroValue47 ⟨rfl,sizeOf45,rfl,sizeOf43,trivial⟩ rfl)<|Z4 ac ?_;intro be a2 a3 a4;refine go ?_;cases hm;replace aa:=aa.kp a2 a3;exact ⟨rfl,_,Vv a4.atN,_,none,0,none,0,rfl,aa.fin (cm []),Zc.nil,Zc.nil⟩
 refine Xu ah<|Xu ab ?_;refine go ?_;refine Xu ah<|Xu ab ?_;obtain ⟨bf,a5,hm⟩:=bZ hm;refine Zg (Zfq 4 5 a5 (ai.ks aa) (ag.ks aa)) ?_;rintro _ bg ⟨bh,bi,bj,bk,bm,rfl,av,ak,al⟩;refine ⟨_,rfl,?_⟩;replace ac:=ac.gr av;refine Z4 ac ?_;intro bn am a6 a7;refine go ?_;cases hm;replace aa:=(aa.grow av).kp am a6;replace ak:=ak.kp am;replace al:=al.kp am;exact ⟨rfl,_,Vv a7.atN,_,_,_,_,_,rfl,aa.fin (cm [(4,c1),(5,c2)]),aa.fo ak,aa.fo al⟩
def Zdz (N:Nat) (ad:Int) (ae:Int):Option (R1×Int):=
  (Ze5 N ad).bind fun ab=>(Ze5 N ae).bind fun ac=>(Zfy N (ab.1,ab.2) (ac.1,ac.2)).bind fun aa=>some (((aa.1.1.1,aa.1.1.2),aa.1.2),aa.2)
theorem Znv {N:Nat} {col:Zd} {w0:World} {ak al:Int} {r:(R1×Int)} (c1 c2:Nat) (hm:Zdz N ak al=some r):
    Calls Tryz.prog 190 #[.int .i64 ak,.int .i64 al] w0 (fun e w'=>∃ (col':Zd) (ra1:Option Addr) (rc2:Nat) (ra4:Option Addr) (rc5:Nat),e= .returned (.tuple #[(.agg #[.bool r.1.1.1,.slice ra1 r.1.1.2.length rc2,.slice ra4 r.1.2.length rc5]),.int .i64 r.2])∧Zf col w0 col' w'∧Zc (Za.int .u32) 79 c1 col' w' ra1 rc2 r.1.1.2∧Zc (Za.int .u32) 79 c2 col' w' ra4 rc5 r.1.2):=by
 refine Wa (m:=13) func190 rfl rfl rfl ?_;rw [Zdz.eq_1] at hm;have ab:=St.start col w0;refine go ?_;refine Xo (col:=(Zi col)) #[.bool false,.slice none (([]:List Int).length) 0,.slice none (([]:List Int).length) 0] 1 zeroValue47 ?_;intro a4 a5 an ao ag;refine go ?_;obtain ⟨a6,ap,hm⟩:=bZ hm;refine Zg (Zob (col:=an) 2 ap) ?_;rintro _ a7 ⟨aq,a8,a9,rfl,am,ah⟩;refine ⟨_,rfl,?_⟩;refine X9 rfl ?_;obtain ⟨ba,ar,hm⟩:=bZ hm;refine Zg (Zob (col:=aq) 3 ar) ?_;rintro _ au ⟨ae,bb,bc,rfl,ai,av⟩;refine ⟨_,rfl,?_⟩;obtain ⟨af,aw,hm⟩:=bZ hm;replace ah:=ah.gr ai;refine Zg (Zvb 4 5 aw ((ah.toSlF (Zj.int .u32)).froz 3) ((av.froz 2 (by decide)).toSlF (Zj.int .u32))) ?_;rintro _ bd ⟨ax,ay,az,a0,a1,rfl,aa,ac,ad⟩;refine ⟨_,rfl,?_⟩;replace ac:=ac.thaw (Zx .u32) aa (((Fz.refl (col:=ae)).froz 2).froz 3) (by decide);replace ad:=ad.thaw (Zx .u32) aa (((Fz.refl (col:=ae)).froz 2).froz 3) (by decide);replace aa:=aa.thawR (col:=ae);generalize Z6 au.heap.size ae ax=be at *;refine lV (.agg #[.bool af.1.1.1,.slice ay af.1.1.2.length az,.slice a0 af.1.2.length a1]) (Xh rfl rfl)<|lV (.int .i64 af.2) (Xh rfl rfl) ?_;replace ag:=((ag.gr am).gr ai).gr aa;refine Z4 ag ?_;intro bf aj a2 a3;refine go ?_;cases hm;replace ab:=((((ab.grow ao).grow am).grow ai).grow aa).kp aj a2;replace ac:=ac.kp aj;replace ad:=ad.kp aj;exact ⟨rfl,_,Vv a3.atN,_,_,_,_,_,rfl,ab.fin (cm [(4,c1),(5,c2)]),ab.fo ac,ab.fo ad⟩
def Qv (N:Nat) (aa:R1):Option Int:=
  (Zah N (aa.1.1,aa.1.2)).bind fun ab=>some ab
theorem Zks {N ac ag:Nat} {ad ah:Option Addr} {col:Zd} {w0:World} {aa:R1} {r:Int} (hm:Qv N aa=some r) (ae:Sl (Za.int .u32) col w0 ad ac aa.1.2) (ao:Sl (Za.int .u32) col w0 ah ag aa.2):
    Calls Tryz.prog 72 #[(.agg #[.bool aa.1.1,.slice ad aa.1.2.length ac,.slice ah aa.2.length ag])] w0 (fun e w'=>e= .returned ((.int .i64 r))∧Below w0.heap.size w0 w'):=by
 refine Xc 2 (m:=6) func72 rfl rfl rfl rfl rfl ?_;rw [Qv.eq_1] at hm;have ab:=St.start col w0;refine go ?_;refine X6 (col:=(Zi col)) 1 rfl ?_;intro ap aj ai ak al;refine go ?_;refine Wg ⟨_,_,rfl⟩ ?_;refine lV (.agg #[.bool aa.1.1,.slice ad aa.1.2.length ac]) (Wv isAgg45 sizeOf45 rfl rfl ((al.atN).part 0 2 _ rfl)) ?_;obtain ⟨aq,am,hm⟩:=bZ hm;replace ae:=ae.keep (Zk.start col w0);replace ab:=ab.grow ak;refine Zg (Zfr am (ae.ks ab)) ?_;rintro _ an ⟨rfl,af⟩;refine ⟨_,rfl,?_⟩;replace af:Zf ai aj ai an:=.of_below af;refine go ?_;cases hm;replace ab:=ab.grow af;exact ⟨rfl,rfl,ab.below⟩
def Zlu (N:Nat) (ab:R1) (aa:R1):Option (R1×Int):=
  (Qv N ((aa.1.1,aa.1.2),aa.2)).bind fun ad=>if (decide (ad=0))=true then (some (((false,([]:List Int)),([]:List Int)),11)) else ((Ub N ((aa.1.1,aa.1.2),aa.2)).bind fun ae=>(Sc N ab.1.2 ae).bind fun af=>(Ub N ((ab.1.1,ab.1.2),ab.2)).bind fun ag=>(Sc N ag aa.1.2).bind fun ah=>(Qw N (!decide (ab.1.1=aa.1.1)) af ah).bind fun ac=>some (((ac.1.1,ac.1.2),ac.2),0))
theorem Zu9 {N a6 a7 a8 a9:Nat} {ba bb bc bd:Option Addr} {col:Zd} {w0:World} {aj ak:R1} {r:(R1×Int)} (c1 c2:Nat) (hm:Zlu N aj ak=some r) (av:Sl (Za.int .u32) col w0 ba a6 aj.1.2) (az:Sl (Za.int .u32) col w0 bb a7 aj.2) (ao:Sl (Za.int .u32) col w0 bc a8 ak.1.2) (aw:Sl (Za.int .u32) col w0 bd a9 ak.2):
    Calls Tryz.prog 146 #[(.agg #[.bool aj.1.1,.slice ba aj.1.2.length a6,.slice bb aj.2.length a7]),(.agg #[.bool ak.1.1,.slice bc ak.1.2.length a8,.slice bd ak.2.length a9])] w0 (fun e w'=>∃ (col':Zd) (ra1:Option Addr) (rc2:Nat) (ra4:Option Addr) (rc5:Nat),e= .returned (.tuple #[(.agg #[.bool r.1.1.1,.slice ra1 r.1.1.2.length rc2,.slice ra4 r.1.2.length rc5]),.int .i64 r.2])∧Zf col w0 col' w'∧Zc (Za.int .u32) 79 c1 col' w' ra1 rc2 r.1.1.2∧Zc (Za.int .u32) 79 c2 col' w' ra4 rc5 r.1.2):=by
 refine Wa (m:=30) func146 rfl rfl rfl ?_;rw [Zlu.eq_1] at hm;have aa:=St.start col w0;refine go ?_;refine X6 (col:=(Zi col)) 1 rfl ?_;intro b3 b4 bg bh ap;refine X6 (col:=bg) 2 rfl ?_;intro b5 b6 bi be ae;refine Xo (col:=bi) #[.bool false,.slice none (([]:List Int).length) 0,.slice none (([]:List Int).length) 0] 3 zeroValue47 ?_;intro b7 bj ac a0 ab;refine go ?_;replace ae:=ae.gr a0;refine lV _ (Xi isAgg47 sizeOf47 ae) ?_;obtain ⟨b8,bk,hm⟩:=bZ hm;replace ao:=ao.keep (Zk.start col w0);replace aw:=aw.keep (Zk.start col w0);replace aa:=((aa.grow bh).grow be).grow a0;refine Zg (Zks bk (ao.ks aa) (aw.ks aa)) ?_;rintro _ bm ⟨rfl,al⟩;refine ⟨_,rfl,?_⟩;replace al:Zf ac bj ac bm:=.of_below al;refine go ?_;replace av:=av.keep (Zk.start col w0);replace az:=az.keep (Zk.start col w0);replace ap:=((ap.gr be).gr a0).gr al;replace ae:=ae.gr al;replace ab:=ab.gr al;replace aa:=aa.grow al;refine Zo hm (fun hb hm=>go ?_) fun hb hm=>go ?_
 ·refine lV (.agg #[.bool false,.slice none (([]:List Int).length) 0,.slice none (([]:List Int).length) 0]) (Wb (l:=[_,_]) (qs:=[(0,2),(2,1)]) underlying47 zeroValue47 ⟨rfl,sizeOf45,rfl,sizeOf43,trivial⟩ rfl)<|Z4 ab ?_;intro b9 bn bo bp;refine go ?_;cases hm;replace aa:=aa.kp bn bo;exact ⟨rfl,_,Vv bp.atN,_,none,0,none,0,rfl,aa.fin (cm []),Zc.nil,Zc.nil⟩
 refine Wi (col:=ac) [(0,1),(1,1),(2,0),(3,1),(4,1),(5,0),(6,1),(7,1),(8,1),(9,0),(10,0),(13,0),(15,1),(16,1),(17,0),(11,3),(12,3),(14,3),(18,3),(19,3),(20,2),(21,1)] (by kernel_rfl) (by kernel_rfl)<|xF ⟨_,_,rfl⟩ ?_;refine xF (Ut ⟨_,_,rfl⟩) ?_;refine xW (fun _ hC=>((((ap.atN).part 0 2 _ rfl)).nth (q:=0) rfl).gr (hC.bl ac)) ?_;refine xF ⟨_,_,rfl⟩ ?_;refine xF (Ut ⟨_,_,rfl⟩) ?_;refine xW (fun _ hC=>((((ae.atN).part 0 2 _ rfl)).nth (q:=0) rfl).gr (hC.bl ac)) ?_;refine xu rfl rfl (fun _=>Zhn _ _ underlying4 rfl rfl) ?_;refine xF ⟨_,_,rfl⟩ ?_;refine xF (Ut ⟨_,_,rfl⟩) ?_;refine xW (fun _ hC=>((((ap.atN).part 0 2 _ rfl)).nth (q:=1) rfl).gr (hC.bl ac)) ?_;refine xv rfl rfl (fun _ hC=>Xi isAgg47 sizeOf47 (ae.gr (hC.bl ac))) ?_;refine xv rfl rfl (fun _ hC=>Xi isAgg47 sizeOf47 (ap.gr (hC.bl ac))) ?_;refine xF ⟨_,_,rfl⟩ ?_;refine xF (Ut ⟨_,_,rfl⟩) ?_;refine xW (fun _ hC=>((((ae.atN).part 0 2 _ rfl)).nth (q:=1) rfl).gr (hC.bl ac)) ?_;refine xe rfl rfl ?_;intro ca hC0;have hC:=hC0.bl ac;obtain ⟨cb,bq,hm⟩:=bZ hm;replace aa:=aa.grow hC;refine Zg (T4 4 bq (ao.ks aa) (aw.ks aa)) ?_;rintro _ cc ⟨aq,cd,ce,rfl,a1,a2⟩;refine ⟨_,rfl,?_⟩;refine Zl<|X3 aq hC0 a1<|xe rfl rfl ?_;intro br hC0;replace ab:=(ab.gr hC).gr a1;have hC:=hC0.bl aq;obtain ⟨cf,bs,hm⟩:=bZ hm;replace aa:=(aa.grow a1).grow hC;replace a2:=a2.gr hC;refine Zg (Zdg 5 bs ((av.ks aa).froz 4) (a2.toSlF (Zj.int .u32))) ?_;rintro _ cg ⟨bt,ch,ci,rfl,am,ad⟩;refine ⟨_,rfl,?_⟩;replace ad:=ad.thaw (Zx .u32) am ((Fz.refl (col:=aq)).froz 4) (by decide);replace am:=am.thawR (col:=aq);generalize Z6 br.heap.size aq bt=bf at *;refine Zl<|X3 bf hC0 am<|xe rfl rfl ?_;intro cj hC0;replace ab:=(ab.gr hC).gr am;have hC:=hC0.bl bf;obtain ⟨ck,bu,hm⟩:=bZ hm;replace aa:=(aa.grow am).grow hC;refine Zg (T4 6 bu (av.ks aa) (az.ks aa)) ?_;rintro _ cl ⟨ar,cn,co,rfl,ax,a3⟩;refine ⟨_,rfl,?_⟩;refine Zl<|X3 ar hC0 ax<|xe rfl rfl ?_;intro bv hC0;replace ad:=(ad.gr hC).gr ax;replace ab:=(ab.gr hC).gr ax;have hC:=hC0.bl ar;obtain ⟨cp,bw,hm⟩:=bZ hm;replace aa:=(aa.grow ax).grow hC;replace a3:=a3.gr hC;refine Zg (Zdg 7 bw (a3.toSlF (Zj.int .u32)) ((ao.ks aa).froz 6)) ?_
 rintro _ cq ⟨bx,cr,cs,rfl,af,au⟩;refine ⟨_,rfl,?_⟩;replace au:=au.thaw (Zx .u32) af ((Fz.refl (col:=ar)).froz 6) (by decide);replace af:=af.thawR (col:=ar);generalize Z6 bv.heap.size ar bx=an at *;refine Zl<|X3 an hC0 af<|xe rfl rfl ?_;intro bz hC0;replace ad:=(ad.gr hC).gr af;replace ab:=(ab.gr hC).gr af;have hC:=hC0.bl an;obtain ⟨ct,b0,hm⟩:=bZ hm;replace ad:=ad.gr hC;replace au:=au.gr hC;refine Zg (Zfq 8 9 b0 ((ad.toSlF (Zj.int .u32)).froz 7) ((au.froz 5 (by decide)).toSlF (Zj.int .u32))) ?_;rintro _ cu ⟨b1,cv,cw,cx,cy,rfl,ag,ah,ai⟩;refine ⟨_,rfl,?_⟩;replace ah:=ah.thaw (Zx .u32) ag (((Fz.refl (col:=an)).froz 5).froz 7) (by decide);replace ai:=ai.thaw (Zx .u32) ag (((Fz.refl (col:=an)).froz 5).froz 7) (by decide);replace ag:=ag.thawR (col:=an);generalize Z6 bz.heap.size an b1=ay at *;refine Zl<|X3 ay hC0 ag<|xe rfl rfl ?_;intro cz hC0;replace aa:=((aa.grow af).grow hC).grow ag;replace ab:=(ab.gr hC).gr ag;have hC:=hC0.bl ay;replace ab:=ab.gr hC;refine Z4 ab ?_;intro c0 a4 b2 a5;refine Zl<|xk ay<|xu rfl rfl (fun _=>Zsh rfl) ?_;refine Y5 ?_;replace ah:=(ah.gr hC).kp a4;replace ai:=(ai.gr hC).kp a4;replace aa:=(aa.grow hC).kp a4 b2;intro c3 hC;replace hC:=hC.bl ay;refine W0 ?_;cases hm;replace ah:=ah.gr hC;replace ai:=ai.gr hC;replace a5:=a5.gr hC;replace aa:=aa.grow hC;exact ⟨rfl,_,Vv a5.atN,_,_,_,_,_,rfl,aa.fin (cm [(8,c1),(9,c2)]),aa.fo ah,aa.fo ai⟩
theorem Zc7 {N k:Nat} {neg:Bool} {m:List Int} (hm:Zm m) (hk:m.length≤k) (hr:Xm N k):Si N neg m=some (X2 (Zs (neg,m))):=by
 obtain ⟨r1,r2⟩:=hr
 rw [Si,Zmi hm (by omega) (by omega),Option.bind_some,Zhg]
 have e:decide (0<((Ze (Zb m)).length:Int))=decide (Zb m≠0):=by
  by_cases h:Zb m=0
  ·rw [h,Wl];decide
  ·have:=Tk h
   rw [decide_eq_true (by omega),decide_eq_true h]
 cases neg
 ·rw [if_neg (by decide),Ze6,Bool.false_and]
 ·rw [if_pos rfl,Ze6,e,Bool.true_and]
theorem Z1m {N k:Nat} {a:ZV} (hm:Zm a.2) (hk:a.2.length≤k) (hr:Xm N k):Zhe N a=some (X2 (Zs a)):=by
 rw [Zhe,Zc7 hm hk hr];rfl
theorem Zki {N k:Nat} {a:ZV} (hm:Zm a.2) (hk:a.2.length≤k) (hr:Xm N k):Zah N a=some (Zs a).sign:=by
 obtain ⟨r1,r2⟩:=hr
 rw [Zah,Zu1 hm (by omega) (by omega),Option.bind_some,Zs]
 by_cases h:Zb a.2=0
 ·rw [h,Zdc,if_pos (by decide)];simp
 ·have h1:Z3 (Zb a.2)≠0:=by rw [Z3,if_neg h];omega
  rw [if_neg (by rw [decide_eq_false (by omega)];decide)]
  by_cases h2:a.1=true
  ·rw [if_pos h2,if_pos h2,Int.sign_eq_neg_one_of_neg (by omega)]
  ·rw [if_neg h2,if_neg h2,Int.sign_eq_one_of_pos (by omega)]
theorem Zni {a b:ZV}:(a.1=b.1→Zs (a.1,Ze (Zb a.2+Zb b.2))=Zs a+Zs b)∧(a.1≠b.1→(Zb b.2≤Zb a.2→Zs (a.1,Ze (Zb a.2 - Zb b.2))=Zs a+Zs b)∧(Zb a.2<Zb b.2→Zs (b.1,Ze (Zb b.2 - Zb a.2))=Zs a+Zs b)):=by
 obtain ⟨s,x⟩:=a
 obtain ⟨t,y⟩:=b
 simp only [Zs,Z1]
 cases s <;> cases t <;> simp <;> (try constructor) <;> intros <;> omega
theorem Z1j {N k l:Nat} {a b:ZV} (ha:Zm a.2) (hb:Zm b.2) (hk:a.2.length≤k) (hl:b.2.length≤l) (hr:Xm N (k+l+1)):Zhb N a b=some (X2 (Zs a+Zs b)):=by
 have hr':=hr
 obtain ⟨r1,r2⟩:=hr'
 have la:=Ym ha
 have lb:=Ym hb
 have lsum:(Ze (Zb a.2+Zb b.2)).length≤k+l+1:=Zlq (by omega) (by omega)
 have ls1:(Ze (Zb a.2 - Zb b.2)).length≤k+l+1:=by have:=W4 (Nat.sub_le (Zb a.2) (Zb b.2));omega
 have ls2:(Ze (Zb b.2 - Zb a.2)).length≤k+l+1:=by have:=W4 (Nat.sub_le (Zb b.2) (Zb a.2));omega
 rw [Zhb]
 by_cases h:a.1=b.1
 ·rw [if_pos (decide_eq_true h),Zuv ha hb (by omega) (by omega) (by omega) (by omega),Option.bind_some,Zc7 (Z5 _) lsum hr,Option.bind_some,Zni.1 h]
 ·rw [if_neg (by rw [decide_eq_false h];decide),Ztw ha hb (by omega) (by omega) (by omega) (by omega),Option.bind_some]
  by_cases hlt:Zb a.2<Zb b.2
  ·rw [if_pos hlt,if_neg (by decide),Ztw hb ha (by omega) (by omega) (by omega) (by omega),Option.bind_some,if_neg (by omega),Zc7 (Z5 _) ls2 hr,Option.bind_some,(Zni.2 h).2 hlt]
  ·rw [if_neg hlt,if_pos rfl,Zc7 (Z5 _) ls1 hr,Option.bind_some,(Zni.2 h).1 (by omega)]
theorem Zus (a b:ZV):Zs (!decide (a.1=b.1),Ze (Zb a.2 * Zb b.2))=Zs a * Zs b:=by
 obtain ⟨s,x⟩:=a
 obtain ⟨t,y⟩:=b
 simp only [Zs,Z1]
 cases s <;> cases t <;> simp [Int.natCast_mul,Int.neg_mul,Int.mul_neg]
theorem Z1l {N k l:Nat} {a b:ZV} (ha:Zm a.2) (hb:Zm b.2) (hk:a.2.length≤k) (hl:b.2.length≤l) (hr:Xm N (k+l)):Zhd N a b=some (X2 (Zs a * Zs b)):=by
 have hr':=hr
 obtain ⟨r1,r2⟩:=hr'
 have la:=Ym ha
 have lb:=Ym hb
 have:=Tj (Zb a.2) (Zb b.2)
 rw [Zhd,Zmf ha hb (by omega) (by omega),Option.bind_some,Zc7 (k:=k+l) (Z5 _) (by omega) hr,Option.bind_some,Zus]
theorem Z1p (a b:ZV):(if (Zs a).sign<(Zs b).sign then -1 else if (Zs b).sign<(Zs a).sign then 1 else (Zs a).sign * (if Zb a.2<Zb b.2 then -1 else if Zb b.2<Zb a.2 then 1 else 0))=Zbv (Zs a) (Zs b):=by
 obtain ⟨s,x⟩:=a
 obtain ⟨t,y⟩:=b
 have key:∀ z:Int,z.sign=if z<0 then -1 else if 0<z then 1 else 0:=fun z=>(Znj z).symm
 rw [key,key]
 unfold Zbv
 simp only [Zs]
 generalize Zb x=X
 generalize Zb y=Y
 cases s <;> cases t <;> simp only [if_true,Bool.false_eq_true,if_false] <;> (repeat' split) <;> omega
theorem Z1k {N k l:Nat} {a b:ZV} (ha:Zm a.2) (hb:Zm b.2) (hk:a.2.length≤k) (hl:b.2.length≤l) (hr:Xm N (k+l)):Zhc N a b=some (Zbv (Zs a) (Zs b)):=by
 have hr':=hr
 obtain ⟨r1,r2⟩:=hr'
 have sa:-1≤(Zs a).sign∧(Zs a).sign≤1:=by rw [← Znj];unfold Zbv;(repeat' split) <;> omega
 rw [Zhc,Zki ha hk (hr.mono (by omega)),Option.bind_some,Zki hb hl (hr.mono (by omega)),Option.bind_some,← Z1p a b]
 by_cases h1:(Zs a).sign<(Zs b).sign
 ·rw [if_pos (decide_eq_true h1),if_pos h1]
 ·rw [if_neg (by rw [decide_eq_false h1];decide),if_neg h1]
  by_cases h2:(Zs b).sign<(Zs a).sign
  ·rw [if_pos (decide_eq_true h2),if_pos h2]
  ·rw [if_neg (by rw [decide_eq_false h2];decide),if_neg h2,Zla ha hb (by omega) (by omega) (by omega) (by omega),Option.bind_some]
   congr 1
   refine Zy ?_
   have:(Zs a).sign= -1∨(Zs a).sign=0∨(Zs a).sign=1:=by omega
   rcases this with h | h | h <;> rw [h] <;> (repeat' split) <;> decide
theorem Zun {N:Nat} {z:Int} (h:-9223372036854775808≤z∧z≤9223372036854775807) (hr:Xm N 2):Ze5 N z=some (X2 z):=by
 have hr':=hr
 obtain ⟨r1,r2⟩:=hr'
 have l2:∀ n:Nat,n<18446744073709551616→(Ze n).length≤2:=fun n hn=>Wh.2 (by simpa using hn)
 rw [Ze5]
 by_cases hz:z<0
 ·have e:u64.wrap (-u64.wrap z)= -z:=by rw [IntKind.wrap_u64,IntKind.wrap_u64];omega
  rw [if_pos (decide_eq_true hz),e,Zhh (by omega) (by omega),Option.bind_some,Zc7 (Z5 _) (l2 _ (by omega)) hr,Option.bind_some]
  have e2:Zs (true,Ze (-z).toNat)=z:=by simp only [Zs,Z1,if_true];omega
  rw [e2]
 ·rw [if_neg (by rw [decide_eq_false hz];decide),Xe (by omega),Zhh (by omega) (by omega),Option.bind_some,Zc7 (Z5 _) (l2 _ (by omega)) hr,Option.bind_some]
  have e2:Zs (false,Ze z.toNat)=z:=by simp only [Zs,Z1];simp;omega
  rw [e2]
theorem Zfe {N k:Nat} {a:QV} (ha:RV k a) (hr:Xm N k):Ub N a=some (Ze (Yr a.2)):=by
 obtain ⟨r1,r2⟩:=hr
 have:=ha.ld
 rw [Ub,Zmi ha.d (by omega) (by omega),Option.bind_some,Yr]
 by_cases h:Zb a.2=0
 ·rw [h,Wl,if_neg (by decide),if_pos rfl,Zhh (by decide) (by omega)];rfl
 ·have:=Tk h
  rw [if_pos (decide_eq_true (by omega)),if_neg h]
theorem Zb1 {k:Nat} {a:QV} (ha:RV k a):(Ze (Yr a.2)).length≤k+1:=by
 have h1:=Ym ha.d
 have h2:=ha.ld
 rw [Yr]
 split
 ·rw [Sz];simp
 ·omega
theorem Zj2 {N k l n:Nat} {a:ZV} (ha:Zm a.2) (hk:a.2.length≤k) (hl:(Ze n).length≤l) (hr:Xm N (k+l)):Zaz N a (Ze n)=some (X2 (Zs a * n)):=by
 rw [Zaz,Z1l (a:=(a.1,a.2)) (b:=(false,Ze n)) ha (Z5 _) hk hl hr,Option.bind_some]
 have e:Zs (false,Ze n)=n:=by simp [Zs,Z1]
 rw [e]
theorem Zlt {N k l:Nat} {neg:Bool} {num den:List Int} (hn:Zm num) (hd:Zm den) (h0:Zb den≠0) (hk:num.length≤k) (hl:den.length≤l) (hr:Xm N (k+l)):
  Qw N neg num den=some (Z9 (mkRat (Zs (neg,num)) (Zb den))):=by
 have hr':=hr
 obtain ⟨r1,r2⟩:=hr'
 have l1:=Ym hn
 have l2:=Ym hd
 have hg:Nat.gcd (Zb num) (Zb den)≠0:=fun h=>h0 (Nat.gcd_eq_zero_iff.1 h).2
 have lg:(Ze (Nat.gcd (Zb num) (Zb den))).length≤den.length:=Nat.le_trans (W4 (Nat.gcd_le_right _ (by omega))) l2
 have lq:=W4 (Nat.div_le_self (Zb num) (Nat.gcd (Zb num) (Zb den)))
 rw [Qw,Zx6 hn hd (by omega) (by omega),Option.bind_some,Zin hn (Z5 _) (by omega) (by omega),Option.bind_some,Zin hd (Z5 _) (by omega) (by omega),Option.bind_some,Z1,if_neg hg,if_neg hg,
  Z1m (k:=k) (a:=(neg,Ze (Zb num / Nat.gcd (Zb num) (Zb den)))) (Z5 _) (by simp only;omega) (hr.mono (by omega)),Option.bind_some,Zre h0,Zhg,Z1]
theorem Zpn {N k:Nat} {a:QV} (ha:RV k a) (hr:Xm N k):Qv N a=some (Zbo (Xa a)):=by
 rw [Qv,Zki (a:=(a.1.1,a.1.2)) ha.m ha.lm hr,Option.bind_some,Zz5]
theorem Zlr (z:Int):(X2 z).2=Ze z.natAbs:=rfl
theorem Ziv {k l n:Nat} {a:ZV} (ha:Zm a.2) (hk:a.2.length≤k) (hl:(Ze n).length≤l):(X2 (Zs a * n)).2.length≤k+l:=by
 rw [Zlr,Int.natAbs_mul,Int.natAbs_natCast,Zhx]
 have h1:=Tj (Zb a.2) n
 have h2:=Ym ha
 omega
theorem Ziq {N k l:Nat} {a b:QV} (ha:RV k a) (hb:RV l b) (hr:Xm N (2 * (k+l+2))):S7 N a b=some (U6 (Xa a) (Xa b)):=by
 have da:=Zb1 ha
 have db:=Zb1 hb
 have o1:=Ziv (n:=Yr b.2) ha.m ha.lm db
 have o2:=Ziv (n:=Yr a.2) hb.m hb.lm da
 rw [S7,Zfe hb (hr.mono (by omega)),Option.bind_some,Zj2 (k:=k) (l:=l+1) ha.m ha.lm db (hr.mono (by omega)),Option.bind_some,Zfe ha (hr.mono (by omega)),Option.bind_some,Zj2 (k:=l) (l:=k+1) hb.m hb.lm da (hr.mono (by omega)),Option.bind_some,
  Z1k (a:=X2 _) (b:=X2 _) (Sy _) (Sy _) o1 o2 (hr.mono (by omega)),Option.bind_some,So,So,Xa,Xa,Zr8 (T6 _) (T6 _)]
theorem Zoy {N k l:Nat} {a b:QV} (ha:RV k a) (hb:RV l b) (hr:Xm N (k+l+2)):Sc N (Ze (Yr a.2)) (Ze (Yr b.2))=some (Ze (Yr a.2 * Yr b.2))∧(Ze (Yr a.2 * Yr b.2)).length≤k+l+2∧Yr a.2 * Yr b.2≠0:=by
 have da:=Zb1 ha
 have db:=Zb1 hb
 have hr':=hr
 obtain ⟨r1,r2⟩:=hr'
 have:=Tj (Yr a.2) (Yr b.2)
 refine ⟨by rw [Zmf (Z5 _) (Z5 _) (by omega) (by omega),Z1,Z1],by omega,Nat.mul_ne_zero (T6 _) (T6 _)⟩
theorem Z1c {x y:Int} {k:Nat} (hx:(X2 x).2.length≤k) (hy:(X2 y).2.length≤k):(X2 (x+y)).2.length≤k+1:=by
 rw [Zlr] at *
 exact Nat.le_trans (W4 (Int.natAbs_add_le _ _)) (Zlq hx hy)
theorem Zzl (z:Int):((X2 z).1,(X2 z).2)=X2 z:=rfl
theorem Zlh {N k l:Nat} {a b:QV} (ha:RV k a) (hb:RV l b) (hr:Xm N (2 * (k+l+3))):Sa N a b=some (Z9 (Xa a+Xa b)):=by
 have da:=Zb1 ha
 have db:=Zb1 hb
 have o1:=Ziv (n:=Yr b.2) ha.m ha.lm db
 have o2:=Ziv (n:=Yr a.2) hb.m hb.lm da
 obtain ⟨m1,m2,m3⟩:=Zoy ha hb (hr.mono (by omega))
 have sl:=Z1c (k:=k+l+1) (by omega) (Nat.le_trans o2 (by omega))
 rw [Sa,Zfe hb (hr.mono (by omega)),Option.bind_some,Zj2 (k:=k) (l:=l+1) ha.m ha.lm db (hr.mono (by omega)),Option.bind_some,Zfe ha (hr.mono (by omega)),Option.bind_some,Zj2 (k:=l) (l:=k+1) hb.m hb.lm da (hr.mono (by omega)),Option.bind_some,
  Z1j (a:=X2 _) (b:=X2 _) (Sy _) (Sy _) o1 o2 (hr.mono (by omega)),Option.bind_some,So,So,Option.bind_some,Option.bind_some,m1,Option.bind_some,
  Zlt (Sy _) (Z5 _) (by rw [Z1];exact m3) sl m2 (hr.mono (by omega)),Option.bind_some,Zzl,So,Z1,Xa,Xa,Rat.mkRat_add_mkRat _ _ (T6 _) (T6 _)]
theorem Zx1 {N k l:Nat} {a b:QV} (ha:RV k a) (hb:RV l b) (hr:Xm N (2 * (k+l+3))):Zdy N a b=some (Z9 (Xa a * Xa b)):=by
 have hr':=hr
 obtain ⟨r1,r2⟩:=hr'
 have h1:=ha.lm
 have h2:=hb.lm
 have la:=Ym ha.m
 have lb:=Ym hb.m
 have lm:=Tj (Zb a.1.2) (Zb b.1.2)
 obtain ⟨m1,m2,m3⟩:=Zoy ha hb (hr.mono (by omega))
 rw [Zdy,Zmf ha.m hb.m (by omega) (by omega),Option.bind_some,Zfe ha (hr.mono (by omega)),Option.bind_some,Zfe hb (hr.mono (by omega)),Option.bind_some,m1,Option.bind_some,
  Zlt (k:=k+l) (Z5 _) (Z5 _) (by rw [Z1];exact m3) (by omega) m2 (hr.mono (by omega)),Option.bind_some,Zus,Z1,Xa,Xa,Rat.mkRat_mul_mkRat]
theorem Zq0 (n₁:Int) (d₁:Nat) (b:ZV) (d₂:Nat) (s:Bool) (x:List Int) (h:n₁=Zs (s,x)) (hb:Zb b.2≠0):mkRat n₁ d₁ / mkRat (Zs b) d₂=mkRat (Zs (!decide (s=b.1),Ze (Zb x * d₂))) (d₁ * Zb b.2):=by
 have e1:mkRat (Zs b) d₂=(Zs b:Rat) / (d₂:Rat):=Rat.mkRat_eq_div _ _
 have hz:(Zs b:Rat)=(if b.1=true then -1 else 1) * (Zb b.2:Rat):=by
  rw [Zs];split
  ·rw [Rat.intCast_neg,Rat.neg_mul,Rat.one_mul];rfl
  ·rw [Rat.one_mul];rfl
 have hn:(Zs (!decide (s=b.1),Ze (Zb x * d₂)):Rat)=(if b.1=true then -1 else 1) * (n₁:Rat) * (d₂:Rat):=by
  subst h
  have:Zs (!decide (s=b.1),Ze (Zb x * d₂))=(if b.1=true then -1 else 1) * Zs (s,x) * (d₂:Int):=by
   obtain ⟨t,y⟩:=b
   simp only [Zs,Z1]
   cases s <;> cases t <;> simp [Int.natCast_mul,Int.neg_mul]
  rw [this,Rat.intCast_mul,Rat.intCast_mul]
  congr 2
  split <;> rfl
 have hbr:(Zb b.2:Rat)≠0:=fun h=>hb (Rat.natCast_eq_zero_iff.1 h)
 rw [Rat.mkRat_eq_div,e1,Rat.mkRat_eq_div,hn,hz,Rat.natCast_mul]
 have hs:(if b.1=true then (-1:Rat) else 1) * (if b.1=true then (-1:Rat) else 1)=1:=by split <;> grind
 generalize (if b.1=true then (-1:Rat) else 1)=sg at *
 generalize (n₁:Rat)=p
 generalize (d₁:Rat)=q
 generalize (d₂:Rat)=r
 generalize (Zb b.2:Rat)=m at *
 have hsg:sg≠0:=fun h=>by rw [h] at hs;grind
 have hinv:sg⁻¹=sg:=Rat.inv_eq_of_mul_eq_one hs
 simp only [Rat.div_def,Rat.inv_mul_rev,Rat.inv_inv,hinv]
 grind
theorem Zx2 {N k l:Nat} {a b:ZV} (ha:Zm a.2) (hb:Zm b.2) (hk:a.2.length≤k) (hl:b.2.length≤l) (hr:Xm N (k+l)):Zfy N a b=some (if Zs b=0 then (((false,[]),[]),11) else (Z9 ((Zs a:Rat) / (Zs b:Rat)),0)):=by
 rw [Zfy,Zki (a:=(b.1,b.2)) hb hl (hr.mono (by omega)),Option.bind_some]
 by_cases h0:Zs b=0
 ·rw [if_pos h0,h0,if_pos (by decide)]
 ·have hb0:Zb b.2≠0:=fun h=>h0 (by have:=Zhx b;omega)
  have e:=Zq0 (Zs a) 1 b 1 a.1 a.2 rfl hb0
  have hs:¬ (Zs b).sign=0:=fun h=>h0 (Int.sign_eq_zero_iff_zero.1 h)
  rw [if_neg (by rw [decide_eq_false hs];decide),if_neg h0,Zlt ha hb hb0 hk hl hr,Option.bind_some]
  rw [Rat.mkRat_eq_div,Rat.mkRat_eq_div] at e
  have e1:(Zs a:Rat) / ((1:Nat):Rat) / ((Zs b:Rat) / ((1:Nat):Rat))=(Zs a:Rat) / (Zs b:Rat):=by
   have h1:((1:Nat):Rat)=1:=rfl
   have h2:(1:Rat)⁻¹=1:=Rat.inv_eq_of_mul_eq_one (by grind)
   simp only [h1,Rat.div_def,h2,Rat.mul_one]
  rw [e1,Nat.one_mul,Nat.mul_one] at e
  rw [e]
  have e2:Zs (!decide (a.1=b.1),Ze (Zb a.2))=Zs (!decide (a.1=b.1),a.2):=by simp only [Zs,Z1]
  rw [e2]
theorem Zpk {N:Nat} {a b:Int} (h:-9223372036854775808≤a∧a≤9223372036854775807) (g:-9223372036854775808≤b∧b≤9223372036854775807) (hr:Xm N 4):Zdz N a b=some (if b=0 then (((false,[]),[]),11) else (Z9 ((a:Rat) / (b:Rat)),0)):=by
 have l2:∀ z:Int,-9223372036854775808≤z∧z≤9223372036854775807→(X2 z).2.length≤2:=fun z hz=>Wh.2 (by simp;omega)
 rw [Zdz,Zun h (hr.mono (by omega)),Option.bind_some,Zun g (hr.mono (by omega)),Option.bind_some,Zx2 (a:=X2 a) (b:=X2 b) (Sy _) (Sy _) (l2 _ h) (l2 _ g) hr,Option.bind_some,So,So]
def Y1 (l:List QV):Rat:=(l.map Xa).sum
def Xx:List QV→Nat
 | []=>0
 | a :: l=>max a.1.2.length a.2.length+2+Xx l
theorem Zfd {a:QV} (hm:Zm a.1.2) (hd:Zm a.2):RV (max a.1.2.length a.2.length) a:=⟨hm,hd,Nat.le_max_left _ _,Nat.le_max_right _ _⟩
def W5 (a:QV):Prop:=Zm a.1.2∧Zm a.2
theorem Zsc {a:QV} (h:W5 a):qs (Xa a)≤max a.1.2.length a.2.length+1:=by
 have:=Zsd (Zfd h.1 h.2)
 omega
theorem Zpo {N:Nat}:∀ (l:List QV) (q:Rat),(∀ a ∈ l,W5 a)→Xm N (4 * (qs q+Xx l+3))→Zay N l (Z9 q).1.1 (Z9 q).1.2 (Z9 q).2=some (Z9 (q+Y1 l))∧qs (q+Y1 l)≤qs q+Xx l
 | [],q,_,_=>by
  rw [Zay.eq_1,Y1]
  simp only [List.map_nil,List.sum_nil,Rat.add_zero,Xx]
  exact ⟨trivial,by omega⟩
 | a :: l,q,hl,hr=>by
  have ha:=hl a List.mem_cons_self
  have hs:=Zsc ha
  rw [Xx] at hr ⊢
  rw [Zay.eq_2,Zlh (k:=qs q) (l:=max a.1.2.length a.2.length) (Ztk q) (Zfd ha.1 ha.2) (hr.mono (by omega)),Option.bind_some]
  have e:Xa ((((Z9 q).1.1,(Z9 q).1.2),(Z9 q).2):QV)=q:=Sk q
  have e2:Xa (((a.1.1,a.1.2),a.2):QV)=Xa a:=rfl
  have h1:=Zz2 q (Xa a)
  obtain ⟨h2,h3⟩:=Zpo l (q+Xa a) (fun x hx=>hl x (List.mem_cons_of_mem _ hx)) (hr.mono (by omega))
  rw [e,e2,h2]
  have e3:q+Xa a+Y1 l=q+Y1 (a :: l):=by rw [Y1,Y1,List.map_cons,List.sum_cons,Rat.add_assoc]
  rw [e3] at h3 ⊢
  exact ⟨rfl,by omega⟩
theorem Zpp {N:Nat} {l:List QV} (hl:∀ a ∈ l,W5 a) (hr:Xm N (4 * (Xx l+4))):S8 N l=some (Z9 (Y1 l))∧qs (Y1 l)≤Xx l+1:=by
 have hr':=hr
 obtain ⟨r1,r2⟩:=hr'
 obtain ⟨h1,h2⟩:=Zpo (N:=N) l 0 hl (hr.mono (by rw [Zse];omega))
 rw [Rat.zero_add] at h1 h2
 rw [Zse] at h2
 have e:Z9 0=((false,[]),[1]):=by
  rw [Z9,X2]
  simp only [Rat.zero_num,Rat.zero_den,Int.natAbs_zero,Wl,Sz]
  rfl
 rw [e] at h1
 refine ⟨?_,by omega⟩
 rw [S8,Zhh (by decide) (by omega),Option.bind_some,← h1]
 rw [show (1:Int).toNat=1 from rfl,Sz]
def Bd (D M:Nat) (q:Rat):Prop:=∃ z:Int,q=mkRat z D∧z.natAbs≤M * D
theorem Bd.qs {D M:Nat} {q:Rat} (h:Bd D M q) (hD:D≠0) (hM:1≤M):qs q≤(Ze (M * D)).length:=by
 obtain ⟨z,rfl,hz⟩:=h
 have h1:D≤M * D:=Nat.le_mul_of_pos_left D hM
 exact Zj4 (W4 hz) (W4 h1) (Tk (by omega))
theorem Bd.up {D M K:Nat} {q:Rat} (h:Bd D M q) (hK:M≤K):Bd D K q:=by
 obtain ⟨z,e,hz⟩:=h
 exact ⟨z,e,Nat.le_trans hz (Nat.mul_le_mul_right D hK)⟩
theorem Bd.lift {D M:Nat} (E:Nat) {q:Rat} (h:Bd D M q) (hD:D≠0) (hE:E≠0):Bd (D * E) M q:=by
 obtain ⟨z,rfl,hz⟩:=h
 refine ⟨z * E,?_,?_⟩
 ·rw [Zq1 hD (Nat.mul_ne_zero hD hE),Int.natCast_mul,Int.mul_assoc,Int.mul_comm (E:Int)]
 ·rw [Int.natAbs_mul,Int.natAbs_natCast,← Nat.mul_assoc]
  exact Nat.mul_le_mul_right E hz
theorem Zy7 (a b:Int) {D:Nat} (hD:D≠0):mkRat a D+mkRat b D=mkRat (a+b) D:=by
 rw [Rat.mkRat_add_mkRat _ _ hD hD,← Int.add_mul,Zq1 (Nat.mul_ne_zero hD hD) hD,Int.natCast_mul,Int.mul_assoc]
theorem Bd.add {D M K:Nat} {a b:Rat} (ha:Bd D M a) (hb:Bd D K b) (hD:D≠0):Bd D (M+K) (a+b):=by
 obtain ⟨x,rfl,hx⟩:=ha
 obtain ⟨y,rfl,hy⟩:=hb
 refine ⟨x+y,Zy7 x y hD,Nat.le_trans (Int.natAbs_add_le _ _) ?_⟩
 rw [Nat.add_mul];omega
theorem Bd.mul {D E M K:Nat} {a b:Rat} (ha:Bd D M a) (hb:Bd E K b):Bd (D * E) (M * K) (a * b):=by
 obtain ⟨x,rfl,hx⟩:=ha
 obtain ⟨y,rfl,hy⟩:=hb
 refine ⟨x * y,Rat.mkRat_mul_mkRat _ _ _ _,?_⟩
 rw [Int.natAbs_mul,Nat.mul_mul_mul_comm M K D E]
 exact Nat.mul_le_mul hx hy
theorem Bd.zero (D M:Nat):Bd D M 0:=⟨0,by rw [Rat.zero_mkRat],by simp⟩
theorem Bd.one:Bd 1 1 1:=⟨1,rfl,by simp⟩
def Uy:List QV→Nat
 | []=>1
 | x :: t=>Yr x.2 * Uy t
theorem Zio:∀ t:List QV,Uy t≠0
 | []=>by simp [Uy]
 | x :: t=>Nat.mul_ne_zero (T6 x.2) (Zio t)
theorem Zo8:∀ (t:List QV),(∀ x ∈ t,W5 x)→(Ze (Uy t)).length≤Xx t+1
 | [],_=>by rw [Uy,Sz];simp
 | x :: t,h=>by
  have hx:=h x List.mem_cons_self
  have h1:=Zb1 (Zfd hx.1 hx.2)
  have h2:=Zo8 t fun y hy=>h y (List.mem_cons_of_mem _ hy)
  have h3:=Tj (Yr x.2) (Uy t)
  rw [Uy,Xx];omega
theorem Zuz {x:QV} (h:0≤Xa x) (g:Xa x≤1):Bd (Yr x.2) 1 (Xa x):=by
 refine ⟨Zs x.1,rfl,?_⟩
 have hd:=T6 x.2
 have h1:¬ Zs x.1<0:=fun hn=>by
  have:Xa x<0:=by
   rw [Xa,show (0:Rat)=mkRat 0 1 from rfl,Zjw hd (by decide)];omega
  exact absurd h (Rat.not_le.2 this)
 have h2:¬ (Yr x.2:Int)<Zs x.1:=fun hn=>by
  have:1<Xa x:=by
   rw [Xa,show (1:Rat)=mkRat 1 1 from rfl,Zjw (by decide) hd];omega
  exact absurd g (Rat.not_le.2 this)
 omega
def Vj (long:Rat):List QV→Rat→List (Rat×Rat)
 | [],_=>[]
 | x :: t,at_=>(at_,at_+long * Xa x) :: Vj long t (at_+long * Xa x)
theorem Zrv (long:Rat):∀ (t:List QV) (a:Rat),(Vj long t a).length=t.length
 | [],_=>rfl
 | x :: t,a=>by rw [Vj,List.length_cons,Zrv long t,List.length_cons]
def Zaw (kk_L2:(Option Int)):List Int→Ra→Option Int
  | [],aa=>kk_L2
  | ab :: ac,aa=>if (decide (0<((Y7 aa ab).getD 0)))=true then (some 40) else ((some (Tr aa ab 1)).bind fun ad=>(Zaw kk_L2 ac) ad)
termination_by structural x=>x
def S3:List R2→Option Int
  | []=>some 0
  | aa :: ab=>Zaw (S3 ab) aa ([]:List R6)
termination_by structural x=>x
def Zdr (kk_L4:(Option Int)) (aa:Bool):Option Int:=
  if aa=true then (some 3) else kk_L4
def S4 (aa:R9) (kk_L1:(Option Int)):List Int→Option Int
  | []=>kk_L1
  | ab :: ac=>if (decide (ab<0))=true then (Zdr (S4 aa kk_L1 ac) true) else (Zdr (S4 aa kk_L1 ac) (decide ((aa.length:Int)≤ab)))
termination_by structural x=>x
def S1 (aa:R9):List R2→Option Int
  | []=>S3 aa
  | ab :: ac=>S4 aa (S1 aa ac) ab
termination_by structural x=>x
def Zdq (aa:R9):Option Int:=
  S1 aa aa
theorem Zu6 {a6:Nat} {a0:Option Addr} {col:Zd} {w0:World} {ab:R9} {r:Int} (hm:Zdq ab=some r) (h0:Sl (Za.slice (Za.int .i64)) col w0 a0 a6 ab):
    Calls Tryz.prog 201 #[.slice a0 ab.length a6] w0 (fun e w'=>e= .returned ((.int .i64 r))∧Below w0.heap.size w0 w'):=by
 refine Xc 2 (m:=57) func201 rfl rfl rfl rfl rfl ?_;rw [Zdq.eq_1] at hm;have aa:=St.start col w0;refine go ?_;refine Z2 [0,12,13,1000000] (fun n f a7=>∃ a8 ag ah,n=ah.length∧ab.drop ag=ah∧S1 ab ah=some r∧St w0 (Zi col) a8 a7∧[14].map f=[.int .i64 ag]) ab.length ⟨_,0,_,rfl,rfl,hm,aa,rfl⟩ ?_;clear hm;intro n f a7 hI;obtain ⟨a8,ag,ah,hn,hl,hm,aa,hs⟩:=hI;subst hn;refine .lL [14] hs ?_;replace h0:=h0.keep (Zk.start col w0)
 cases ah with
 | nil=>
  have hk:¬ ((ag:Int)<(ab.length:Int)):=by have:=List.drop_eq_nil_iff.1 hl;omega
  have hkb:=decide_eq_false hk;rw [S1.eq_1] at hm;refine go ?_;refine Xv (congrArg Value.bool hkb)<|go ?_;refine Z2 [34,35,1000000] (fun n f a9=>∃ au ai aj,n=aj.length∧ab.drop ai=aj∧S3 aj=some r∧St w0 (Zi col) au a9∧[36].map f=[.int .i64 ai]) ab.length ⟨_,0,_,rfl,rfl,hm,aa,rfl⟩ ?_;clear hm;intro n f a9 hI;obtain ⟨au,ai,aj,hn,hl,hm,aa,hs⟩:=hI;subst hn;refine .lL [36] hs ?_
  cases aj with
  | nil=>
   have hk:¬ ((ai:Int)<(ab.length:Int)):=by have:=List.drop_eq_nil_iff.1 hl;omega
   have hkb:=decide_eq_false hk;rw [S3.eq_1] at hm;refine go ?_;refine Xv (congrArg Value.bool hkb)<|go ?_;cases hm;exact ⟨rfl,rfl,aa.below⟩
  | cons ak ba=>
   obtain ⟨ac,bi,bj⟩:=Yc hl;have hk:(ai:Int)<(ab.length:Int):=by omega
   have hkb:=decide_eq_true hk;rw [S3.eq_2] at hm;refine go ?_;refine Xz (congrArg Value.bool hkb)<|go ?_;refine lI ac ((h0.ks aa).addr ac) ?_;obtain ⟨_,bk,bm⟩:=(h0.ks aa).atN ac;obtain ⟨⟨bn,bo,rfl,ad⟩,_⟩:=bk;refine lW bm.one<|go ?_;refine Zyo (col:=au) (fk:=(Value.int .i64)) (fv:=(Value.int .i64)) 1 rfl underlying243 rfl ?_;intro b3 b4 b5 bb bp;refine go ?_;replace ad:=ad.gr bb;replace aa:=aa.grow bb;refine Z2 [34,35,36,43,44,1000000] (fun n f aq=>∃ ar al av am an,n=an.length∧ak.drop al=an∧Zaw (S3 ba) an am=some r∧St w0 (Zi col) ar aq∧Sl (Za.int .i64) ar aq bn bo ak∧W1 (Value.int .i64) (Value.int .i64) 1 ar aq av am∧[45,9].map f=[.int .i64 al,.map (some av)]) ak.length ⟨_,0,_,_,_,rfl,rfl,hm,aa,ad,bp,rfl⟩ ?_;clear hm;intro n f aq hI;obtain ⟨ar,al,av,am,an,hn,hl,hm,aa,ad,bc,hs⟩:=hI;subst hn;refine .lL [45,9] hs ?_
   cases an with
   | nil=>
    have hk:¬ ((al:Int)<(ak.length:Int)):=by have:=List.drop_eq_nil_iff.1 hl;omega
    have hkb:=decide_eq_false hk;rw [Zaw.eq_1] at hm;refine go ?_;refine Xv (congrArg Value.bool hkb)<|go ?_;exact ⟨ba.length,by simp,rfl,⟨_,_,_,rfl,bi,hm,aa,(Yg (congrArg (Value.int .i64) (Yf (Nat.lt_of_lt_of_le bj (h0.ks aa).1.1))) rfl)⟩⟩
   | cons aw bq=>
    obtain ⟨ac,br,bs⟩:=Yc hl;have hk:(al:Int)<(ak.length:Int):=by omega
    have hkb:=decide_eq_true hk;rw [Zaw.eq_2] at hm;refine go ?_;refine Xz (congrArg Value.bool hkb)<|go ?_;refine lI ac (ad.addr ac)<|lW (ad.atInt ac) ?_;refine go ?_;refine lV (.int .i64 ((Y7 am aw).getD 0)) (Zso Ta.int bc underlying243 underlying3 zeroValue3 rfl rfl)<|go ?_;refine Zo hm (fun hb hm=>go ?_) fun hb hm=>go ?_
    ·cases hm;exact ⟨rfl,rfl,aa.below⟩
    obtain ⟨bt,ax,hm⟩:=bZ hm;have ax:bt=Tr am aw 1:=(Option.some.inj ax).symm;refine Zp7 (k:=aw) (v:=1) Ta.int bc underlying243 underlying3 rfl rfl rfl ?_;intro b6 bd bu be;rw [← ax] at be;refine go ?_;replace ad:=ad.kp bd;replace aa:=aa.kp bd bu;exact ⟨bq.length,by simp,rfl,⟨_,_,_,_,_,rfl,br,hm,aa,ad,be,(Yg (congrArg (Value.int .i64) (Yf (Nat.lt_of_lt_of_le bs ad.1.1))) rfl)⟩⟩
 | cons af ay=>
  obtain ⟨ac,bv,bw⟩:=Yc hl;have hk:(ag:Int)<(ab.length:Int):=by omega
  have hkb:=decide_eq_true hk;rw [S1.eq_2] at hm;refine go ?_;refine Xz (congrArg Value.bool hkb)<|go ?_;refine lI ac ((h0.ks aa).addr ac) ?_;obtain ⟨_,bx,bz⟩:=(h0.ks aa).atN ac;obtain ⟨⟨bf,bg,rfl,ae⟩,_⟩:=bx;refine lW bz.one<|go ?_;refine Z2 [0,12,13,14,18,19,1000000] (fun n f az=>∃ a1 ao ap,n=ap.length∧af.drop ao=ap∧S4 ab (S1 ab ay) ap=some r∧St w0 (Zi col) a1 az∧Sl (Za.int .i64) a1 az bf bg af∧[20].map f=[.int .i64 ao]) af.length ⟨_,0,_,rfl,rfl,hm,aa,ae,rfl⟩ ?_;clear hm;intro n f az hI;obtain ⟨a1,ao,ap,hn,hl,hm,aa,ae,hs⟩:=hI;subst hn;refine .lL [20] hs ?_
  cases ap with
  | nil=>
   have hk:¬ ((ao:Int)<(af.length:Int)):=by have:=List.drop_eq_nil_iff.1 hl;omega
   have hkb:=decide_eq_false hk;rw [S4.eq_1] at hm;refine go ?_;refine Xv (congrArg Value.bool hkb)<|go ?_;exact ⟨ay.length,by simp,rfl,⟨_,_,_,rfl,bv,hm,aa,(Yg (congrArg (Value.int .i64) (Yf (Nat.lt_of_lt_of_le bw (h0.ks aa).1.1))) rfl)⟩⟩
  | cons b0 bh=>
   obtain ⟨ac,b1,b2⟩:=Yc hl;have hk:(ao:Int)<(af.length:Int):=by omega
   have hkb:=decide_eq_true hk;rw [S4.eq_2] at hm;refine go ?_;refine Xz (congrArg Value.bool hkb)<|go ?_;refine lI ac (ae.addr ac)<|lW (ae.atInt ac)<|Yk rfl<|Zl<|Zu ?_;refine Wp.cutK [0,12,13,14,18,19,20,1000000] (fun f a2=>∃ a3 a4,Zdr (S4 ab (S1 ab ay) bh) a4=some r∧St w0 (Zi col) a3 a2∧Sl (Za.int .i64) a3 a2 bf bg af∧[31].map f=[.bool a4]) ?_ ?_
   ·intro f a2 hJ;obtain ⟨a3,a4,hm,aa,ae,hs⟩:=hJ;rw [Zdr.eq_1] at hm;refine .lL [31] hs ?_;refine Zo hm (fun hb hm=>go ?_) fun hb hm=>go ?_
    ·cases hm;exact ⟨rfl,rfl,aa.below⟩
    exact ⟨bh.length,by simp,rfl,⟨_,_,_,rfl,b1,hm,aa,ae,(Yg (congrArg (Value.int .i64) (Yf (Nat.lt_of_lt_of_le b2 ae.1.1))) rfl)⟩⟩
   refine go ?_;refine X5 hm (fun a5 hm=>go ?_) fun a5 hm=>go ?_
   ·refine lV (.bool true) (Xq (congrArg Value.bool a5) rfl)<|Zl ?_;exact ⟨rfl,_,_,hm,aa,ae,rfl⟩
   refine lV (.bool (decide ((ab.length:Int)≤b0))) (Xk (congrArg Value.bool a5) rfl)<|Zl ?_;exact ⟨rfl,_,_,hm,aa,ae,rfl⟩
theorem Zxj:Yw Tryz.prog 3 1 8:=⟨Tryz.t3,_,rfl,rfl,rfl,rfl,rfl⟩
def Zav (aa:Nat) (kk_L1:(Nat→R9→Option R9)):List Int→R9→Option R9
  | [],ab=>kk_L1 (aa+1) ab
  | ad :: ae,ab=>(Zn ab ad).bind fun ac=>Zw ((ac.length+[(aa:Int)].length) * 8≤140737488355328∧ac.length+[(aa:Int)].length≤maxLen) ((Zav aa kk_L1 ae) (ab.set (Int.toNat ad) (ac++[(aa:Int)])))
termination_by structural x=>x
def S0:List R2→Nat→R9→Option R9
  | [],ab,aa=>some aa
  | ac :: ad,ab,aa=>Zav ab (S0 ad) ac aa
termination_by structural x=>x
def Zdp (aa:R9):Option R9:=
  Zw (aa.length * 24≤281474976710656∧aa.length≤maxLen) (S0 aa 0 (List.replicate aa.length (([]:List Int):List Int)))
theorem Zu5 {a7:Nat} {a0:Option Addr} {col:Zd} {w0:World} {ae r:R9} (c1:Nat) (hm:Zdp ae=some r) (h0:Sl (Za.slice (Za.int .i64)) col w0 a0 a7 ae):
    Calls Tryz.prog 203 #[.slice a0 ae.length a7] w0 (fun e w'=>∃ (col':Zd) (ra1:Option Addr) (rc2:Nat),e= .returned ((.slice ra1 r.length rc2))∧Zf col w0 col' w'∧Zc (Za.row 3 (Za.int .i64)) 40 c1 col' w' ra1 rc2 r):=by
 refine Xc 2 (m:=37) func203 rfl rfl rfl rfl rfl ?_;rw [Zdp.eq_1] at hm;have aa:=St.start col w0;refine go ?_;obtain ⟨a8,hm⟩:=Z0 hm;refine Sx (col:=(Zi col)) (w:=w0) (r:=(Za.row 3 (Za.int .i64))) (n:=ae.length) (x0:=([]:List Int)) 1 rfl underlying24 Tryz.t40 rfl rfl rfl rfl rfl rfl rfl a8.1 a8.2 Z0x ?_;intro b4 b5 b6 bg bh;refine go ?_;replace aa:=aa.grow bg;refine Z2 [11,12,1000000] (fun n f aw=>∃ ax ab ay az ap aj,n=aj.length∧ae.drop ab=aj∧S0 aj ab ap=some r∧St w0 (Zi col) ax aw∧Zc (Za.row 3 (Za.int .i64)) 40 1 ax aw ay az ap∧[13,3].map f=[.int .i64 ab,.slice ay ap.length az]) ae.length ⟨_,0,_,_,_,_,rfl,rfl,hm,aa,bh,rfl⟩ ?_;clear hm;intro n f aw hI;obtain ⟨ax,ab,ay,az,ap,aj,hn,hl,hm,aa,a9,hs⟩:=hI;subst hn;refine .lL [13,3] hs ?_;replace h0:=h0.keep (Zk.start col w0)
 cases aj with
 | nil=>
  have hk:¬ ((ab:Int)<(ae.length:Int)):=by have:=List.drop_eq_nil_iff.1 hl;omega
  have hkb:=decide_eq_false hk;rw [S0.eq_1] at hm;refine go ?_;refine Xv (congrArg Value.bool hkb)<|go ?_;cases hm;exact ⟨rfl,_,_,_,rfl,aa.fin (cm [(1,c1)]),aa.fo a9⟩
 | cons ak ba=>
  obtain ⟨af,bi,bj⟩:=Yc hl;have hk:(ab:Int)<(ae.length:Int):=by omega
  have hkb:=decide_eq_true hk;rw [S0.eq_2] at hm;refine go ?_;refine Xz (congrArg Value.bool hkb)<|go ?_;refine lI af ((h0.ks aa).addr af) ?_;obtain ⟨_,bk,bm⟩:=(h0.ks aa).atN af;obtain ⟨⟨bn,bo,rfl,ac⟩,_⟩:=bk;refine lW bm.one<|go ?_;refine Z2 [11,12,13,18,19,4,1000000] (fun n f al=>∃ aq am ag ah ad an,n=an.length∧ak.drop am=an∧Zav ab (S0 ba) an ad=some r∧St w0 (Zi col) aq al∧Sl (Za.int .i64) aq al bn bo ak∧Zc (Za.row 3 (Za.int .i64)) 40 1 aq al ag ah ad∧[20,3].map f=[.int .i64 am,.slice ag ad.length ah]) ak.length ⟨_,0,_,_,_,_,rfl,rfl,hm,aa,ac,a9,rfl⟩ ?_;clear hm;intro n f al hI;obtain ⟨aq,am,ag,ah,ad,an,hn,hl,hm,aa,ac,a1,hs⟩:=hI;subst hn;refine .lL [20,3] hs ?_
  cases an with
  | nil=>
   have hk:¬ ((am:Int)<(ak.length:Int)):=by have:=List.drop_eq_nil_iff.1 hl;omega
   have hkb:=decide_eq_false hk;rw [Zav.eq_1] at hm;refine go ?_;refine Xv (congrArg Value.bool hkb)<|go ?_;exact ⟨ba.length,by simp,rfl,⟨_,_,_,_,_,_,rfl,bi,hm,aa,a1,(Yg (congrArg (Value.int .i64) (Yf (Nat.lt_of_lt_of_le bj (h0.ks aa).1.1))) rfl)⟩⟩
  | cons ar bp=>
   obtain ⟨af,bq,br⟩:=Yc hl;have hk:(am:Int)<(ak.length:Int):=by omega
   have hkb:=decide_eq_true hk;rw [Zav.eq_2] at hm;refine go ?_;refine Xz (congrArg Value.bool hkb)<|go ?_;refine lI af (ac.addr af)<|lW (ac.atInt af) ?_;refine go ?_;obtain ⟨ao,au,hm⟩:=bZ hm;refine lI au (a1.addr au) ?_;obtain ⟨_,bb,bc,ai,bs⟩:=a1.open_ 2 (by decide) au;obtain ⟨bt,bu,rfl,a2⟩:=bs.row;replace ai:Wc (Za.row 3 (Za.int .i64)) 40 1 bb al ag ah ad (Int.toNat ar) [.slice bt ao.length bu]:=ai;refine lW ai.atN.one<|X9 rfl<|Vd (col:=bb) [(ab:Int)] 3 ?_;intro b7 bv bw av bx;obtain ⟨bd,hm⟩:=Z0 hm;replace a2:=a2.gr av;refine Zau (col:=bw) (w:=bv) (r:=(Za.int .i64)) (c:=2) (c2:=2) (a2.ex) (bx.srcN (NB.int (k:=.i64))) rfl underlying40 Zxj rfl rfl rfl bd.1 bd.2 (by decide) ?_;intro be bf b8 bz a3 a4;replace ai:=(ai.gr av).kpp a3;refine lI au (ai.addr)<|Zyp (v:=(.slice be ((ao++[(ab:Int)]).length) bf)) ai rfl sizeOf40 rfl (by intro u hu;simp only [Value.cells,List.mem_cons,List.not_mem_nil,or_false] at hu;subst hu;rfl) rfl rfl (by decide) ?_;intro b0 a5 b1 a6;replace a6:Wc (Za.row 3 (Za.int .i64)) 40 1 bz b0 ag ah ad (Int.toNat ar) [.slice be ((ao++[(ab:Int)]).length) bf]:=a6;replace a4:=a4.kp a5;have b2:=a4.new;have b3:=a6.close b2.has (by decide) (by decide);replace ac:=(((ac.kpp bc).gr av).kpp a3).kp a5;replace ac:=ac.recol 2 1 (by decide);replace aa:=(((aa.kpp bc).grow av).kpp a3).kp a5 b1;replace aa:=aa.recol 2 1 (by decide) (by decide);refine .ld (d:=3) (v:=(.slice ag ((ad.set (Int.toNat ar) (ao++[(ab:Int)])).length) ah)) (congrArg (fun n=>Value.slice ag n ah) (show ad.length=(ad.set (Int.toNat ar) (ao++[(ab:Int)])).length by simp only [List.length_set])) ?_;refine go ?_;exact ⟨bp.length,by simp,rfl,⟨_,_,_,_,_,_,rfl,bq,hm,aa,ac,b3,(Yg (congrArg (Value.int .i64) (Yf (Nat.lt_of_lt_of_le br ac.1.1))) rfl)⟩⟩
def Zax (aa:Int) (kk_L2:(Int→Int→Option R5)) (ab:Int):Option R5:=
  kk_L2 (i64.wrap (aa+1)) ab
def Zds (aa:Int) (ab:Int) (kk_L2:(Int→Int→Option R5)) (ac:Int) (ad:Bool):Option R5:=
  if ad=true then (Zax aa kk_L2 ac) else (Zax aa kk_L2 ab)
def Tm (N:Nat) (ad:List Int) (ag:Int) (aa:List Int) (ac:Int) (kk_L1:(List Int→Int→Option R5)):Nat→Int→Int→Option R5
  | 0,_,_=>none
  | ah+1,ae,ab=>if (decide (ae<2))=true then ((Zn [i64.wrap ((i64.wrap (2 * ac))+1),i64.wrap ((i64.wrap (2 * ac))+2)] ae).bind fun af=>if (decide (af<(i64.wrap ((ad.length:Int) - 1))))=true then ((Zn aa af).bind fun aj=>(Zn aa ab).bind fun ak=>Zds ae ab (Tm N ad ag aa ac kk_L1 ah) af (decide (aj<ak))) else (Zds ae ab (Tm N ad ag aa ac kk_L1 ah) af false)) else (if (decide (ab=ac))=true then (some (ag,aa.take (Int.toNat (i64.wrap ((ad.length:Int) - 1))))) else ((Zn aa ab).bind fun al=>(Zn aa ac).bind fun am=>(some (aa.set (Int.toNat ac) al)).bind fun ai=>(Zn ai ab).bind fun ao=>(some (ai.set (Int.toNat ab) am)).bind fun an=>kk_L1 an ab))
termination_by structural x=>x
def Tl (N:Nat) (aa:List Int) (ab:Int):Nat→R2→Int→Option R5
  | 0,_,_=>none
  | ad+1,ae,ac=>Tm N aa ab ae ac (Tl N aa ab ad) N 0 ac
termination_by structural x=>x
def Zfx (N:Nat) (aa:List Int):Option R5:=
  (Zn aa 0).bind fun ac=>(Zn aa (i64.wrap ((aa.length:Int) - 1))).bind fun ad=>(some (aa.set (Int.toNat 0) ad)).bind fun ab=>Zw ((0:Int)≤(i64.wrap ((aa.length:Int) - 1))∧(i64.wrap ((aa.length:Int) - 1))≤(ab.length:Int)) (Tl N aa ac N ab 0)
theorem Zu7 {N g0 al:Nat} {am:Option Addr} {col:Zd} {w0:World} {aa:R2} {r:R5} (qc0 ai:Nat) (hm:Zfx N aa=some r) (hd:Uz [qc0,ai]=true) (ap:Zc (Za.int .i64) 3 ai col w0 am al aa) (hb0:Zh 244 qc0 col w0 g0 #[.slice am aa.length al]):
    Calls Tryz.prog 267 #[.pointer (some ⟨g0,0,none⟩)] w0 (fun e w'=>∃ (col':Zd) (oa1:Option Addr) (oc2:Nat),e= .returned ((.int .i64 r.1))∧Zt (pS [qc0,ai]) col w0 col' w'∧Zc (Za.int .i64) 3 ai col' w' oa1 oc2 r.2∧Zh 244 qc0 col' w' g0 #[.slice oa1 r.2.length oc2]):=by
 refine Xc 2 (m:=76) func267 rfl rfl rfl rfl rfl ?_;rw [Zfx.eq_1] at hm;have ac:=St.startL (l:=[qc0,ai]) rfl col w0;replace hb0:=hb0.startL (Qq hd 0 rfl) (Qp hd 0 rfl);replace ap:=ap.startL (Qq hd 1 rfl) (Qp hd 1 rfl);refine go ?_;refine lV (.pointer (some ⟨g0,0,none⟩)) (Sm rfl)<|lW hb0.at1<|go ?_;obtain ⟨au,av,hm⟩:=bZ hm;refine lI av (ap.addr av)<|lW (ap.atInt av) ?_;refine go ?_;obtain ⟨bm,be,hm⟩:=bZ hm;refine lI be (ap.addr be)<|lW (ap.atInt be)<|lI av (ap.addr av) ?_;obtain ⟨an,ay,hm⟩:=bZ hm;have ay:an=aa.set (Int.toNat 0) bm:=(Option.some.inj ay).symm;refine Y2 (x1:=bm) ap av ?_;intro bu bn bv az;rw [← ay] at az;refine .ld (d:=3) (v:=(.slice am an.length al)) (congrArg (fun n=>Value.slice am n al) (show aa.length=an.length by rw [ay,List.length_set])) ?_;replace hb0:=hb0.kp bn;replace hb0:Zh 244 440 (Xl [qc0,ai] col) bu g0 #[.slice am an.length al]:=by rw [← (show aa.length=an.length by rw [ay,List.length_set])];exact hb0
 refine go ?_;obtain ⟨bf,hm⟩:=Z0 hm;refine lv (v:=.slice am (Int.toNat (i64.wrap ((aa.length:Int) - 1))) al) rfl rfl (Zhp underlying244 sizeOf3 rfl rfl bf.1 (by have:=az.lecap;have:=bf.2;omega))<|.ld (d:=28) (v:=(.slice am ((an.take (Int.toNat (i64.wrap ((aa.length:Int) - 1)))).length) al)) (congrArg (fun n=>Value.slice am n al) (List.length_take_of_le (show (Int.toNat (i64.wrap ((aa.length:Int) - 1)))≤an.length by have:=bf.2;omega)).symm) ?_;refine lV (.pointer (some ⟨g0,0,none⟩)) (Sm rfl)<|Wy (v:=(.slice am ((an.take (Int.toNat (i64.wrap ((aa.length:Int) - 1)))).length) al)) hb0 sizeOf244 rfl rfl (by intro u hu;simp only [Value.cells,List.mem_cons,List.not_mem_nil,or_false] at hu;subst hu;rfl) rfl rfl ?_;intro bw bo bx ab;replace ab:Zh 244 440 (Xl [qc0,ai] col) bw g0 #[(.slice am ((an.take (Int.toNat (i64.wrap ((aa.length:Int) - 1)))).length) al)]:=ab;refine go ?_;replace ac:=(ac.kp bn bv).kp bo bx;replace az:=az.kp bo;refine Z2 [4,5,1000000] (fun n f a4=>∃ a5 af ag ah ak ao,ao=n∧Tl N aa au ao ah ak=some r∧St w0 (Xl [qc0,ai] col) a5 a4∧Zc (Za.int .i64) 3 441 a5 a4 af ag ah∧Zh 244 440 a5 a4 g0 #[(.slice af ((ah.take (Int.toNat (i64.wrap ((aa.length:Int) - 1)))).length) ag)]∧[3,6].map f=[.slice af ah.length ag,.int .i64 ak]) N ⟨_,_,_,_,0,_,rfl,hm,ac,az,ab,rfl⟩ ?_;clear hm;intro n f a4 hI;obtain ⟨a5,af,ag,ah,ak,ao,hn,hm,ac,ad,ab,hs⟩:=hI;subst hn;refine .lL [3,6] hs ?_
 cases ao with
 | zero=>rw [Tl.eq_1] at hm;cases hm
 | succ ao=>
  rw [Tl.eq_2] at hm;refine go ?_;refine lV (.agg #[(.int .i64 (i64.wrap ((i64.wrap (2 * ak))+1))),(.int .i64 (i64.wrap ((i64.wrap (2 * ak))+2)))]) (Zz9 underlying261 sizeOf3 zeroValue261 rfl)<|go ?_;refine Z2 [3,37,4,5,6,1000000] (fun n f a6=>∃ ae a0 a1 aq,aq=n∧Tm N aa au ah ak (Tl N aa au ao) aq a0 a1=some r∧St w0 (Xl [qc0,ai] col) ae a6∧Zc (Za.int .i64) 3 441 ae a6 af ag ah∧Zh 244 440 ae a6 g0 #[(.slice af ((ah.take (Int.toNat (i64.wrap ((aa.length:Int) - 1)))).length) ag)]∧[38,7].map f=[.int .i64 a0,.int .i64 a1]) N ⟨_,0,_,_,rfl,hm,ac,ad,ab,rfl⟩ ?_;clear hm;intro n f a6 hI;obtain ⟨ae,a0,a1,aq,hn,hm,ac,ad,ab,hs⟩:=hI;subst hn;refine .lL [38,7] hs ?_
  cases aq with
  | zero=>rw [Tm.eq_1] at hm;cases hm
  | succ aq=>
   rw [Tm.eq_2] at hm;refine go ?_;refine Zo hm (fun hb hm=>?_) fun hb hm=>go ?_
   ·refine X7<|Zu ?_;refine Wp.cutK [3,37,38,4,5,6,1000000] (fun f a7=>∃ a8 bg,Zax a0 (Tm N aa au ah ak (Tl N aa au ao) aq) bg=some r∧St w0 (Xl [qc0,ai] col) a8 a7∧Zc (Za.int .i64) 3 441 a8 a7 af ag ah∧Zh 244 440 a8 a7 g0 #[(.slice af ((ah.take (Int.toNat (i64.wrap ((aa.length:Int) - 1)))).length) ag)]∧[7].map f=[.int .i64 bg]) ?_ ?_
    ·intro f a7 hJ;obtain ⟨a8,bg,hm,ac,ad,ab,hs⟩:=hJ;rw [Zax.eq_1] at hm;refine .lL [7] hs<|go ?_;exact ⟨aq,by omega,rfl,⟨_,_,_,_,rfl,hm,ac,ad,ab,rfl⟩⟩
    refine go ?_;obtain ⟨bp,bz,hm⟩:=bZ hm;refine lV (.int .i64 bp) (Z0g (l:=[i64.wrap ((i64.wrap (2 * ak))+1),i64.wrap ((i64.wrap (2 * ak))+2)]) (k:=.i64) underlying261 sizeOf3 isAgg3 rfl rfl rfl bz)<|Yk rfl<|Zl<|Zu ?_;refine Wp.cutK [3,37,38,4,5,6,7,9,1000000] (fun f a9=>∃ ba bh,Zds a0 a1 (Tm N aa au ah ak (Tl N aa au ao) aq) bp bh=some r∧St w0 (Xl [qc0,ai] col) ba a9∧Zc (Za.int .i64) 3 441 ba a9 af ag ah∧Zh 244 440 ba a9 g0 #[(.slice af ((ah.take (Int.toNat (i64.wrap ((aa.length:Int) - 1)))).length) ag)]∧[54].map f=[.bool bh]) ?_ ?_
    ·intro f a9 hJ;obtain ⟨ba,bh,hm,ac,ad,ab,hs⟩:=hJ;rw [Zds.eq_1] at hm;refine .lL [54] hs ?_;refine Zo hm (fun hb hm=>go ?_) fun hb hm=>?_
     ·exact ⟨rfl,_,_,hm,ac,ad,ab,rfl⟩
     refine X7 ?_;exact ⟨rfl,_,_,hm,ac,ad,ab,rfl⟩
    refine Uk (col:=ae) (by kernel_rfl) (by kernel_rfl)<|go ?_;refine X5 hm (fun bi hm=>go ?_) fun bi hm=>go ?_
    ·obtain ⟨b0,bj,hm⟩:=bZ hm;refine qI bj (ad.addr bj) ?_;refine go ?_;refine qW (fun _ hC=>(ad.gr (hC.bl ae)).atInt bj) ?_;refine go ?_;obtain ⟨b1,bk,hm⟩:=bZ hm;refine qI bk (ad.addr bk) ?_;refine go ?_;refine qW (fun _ hC=>(ad.gr (hC.bl ae)).atInt bk) ?_;refine go ?_;refine qv (v:=(.bool (decide (b0<b1)))) rfl (fun _ hC=>Xq (congrArg Value.bool bi) rfl) ?_;refine Wt ?_;intro b6 hC;replace hC:=hC.bl ae;replace ad:=ad.gr hC;replace ab:=ab.gr hC;replace ac:=ac.grow hC;exact ⟨rfl,_,_,hm,ac,ad,ab,rfl⟩
    refine qv (v:=(.bool false)) rfl (fun _ hC=>Xk (congrArg Value.bool bi) rfl) ?_;refine Wt ?_;intro b7 hC;replace hC:=hC.bl ae;replace ad:=ad.gr hC;replace ab:=ab.gr hC;replace ac:=ac.grow hC;exact ⟨rfl,_,_,hm,ac,ad,ab,rfl⟩
   refine Zo hm (fun hb hm=>go ?_) fun hb hm=>go ?_
   ·cases hm;exact ⟨rfl,T5 w0.heap.size [qc0,ai] col ae (fun n=>bif Nat.beq n 441 then ai else bif Nat.beq n 440 then qc0 else 0),af,ag,rfl,ac.finL rfl (fun n=>bif Nat.beq n 441 then ai else bif Nat.beq n 440 then qc0 else 0),ac.finOwnL (g:=(fun n=>bif Nat.beq n 441 then ai else bif Nat.beq n 440 then qc0 else 0)) rfl (ad.take (Int.toNat (i64.wrap ((aa.length:Int) - 1)))) (by decide) (by decide) rfl,ac.finBoxL (g:=(fun n=>bif Nat.beq n 441 then ai else bif Nat.beq n 440 then qc0 else 0)) ab (by decide) (by decide) rfl⟩
   refine Wi (col:=ae) [(0,1),(1,1),(2,1),(3,1),(4,1),(5,1),(6,1),(7,0),(8,1),(9,1),(10,1),(11,0),(12,1),(13,2),(14,1),(15,2)] (by kernel_rfl) (by kernel_rfl)<|xu rfl rfl (fun _=>Ve rfl) ?_;refine xu rfl rfl (fun _=>Y4 rfl) ?_;refine xu rfl rfl (fun _=>Ve rfl) ?_;refine xu rfl rfl (fun _=>Y4 rfl) ?_;refine xu rfl rfl (fun _=>Ve rfl) ?_;refine xu rfl rfl (fun _=>Y4 rfl) ?_;obtain ⟨bq,bb,hm⟩:=bZ hm;refine xu rfl rfl (fun _=>Y3 underlying244 sizeOf3 rfl rfl (Xg bb).1 (Xg bb).2.1 (ad.addr bb)) ?_;refine xW (fun _ hC=>(ad.gr (hC.bl ae)).atInt bb) ?_;refine xu rfl rfl (fun _=>Ve rfl) ?_;refine xu rfl rfl (fun _=>Y4 rfl) ?_;obtain ⟨br,ar,hm⟩:=bZ hm;refine xu rfl rfl (fun _=>Y3 underlying244 sizeOf3 rfl rfl (Xg ar).1 (Xg ar).2.1 (ad.addr ar)) ?_;refine xW (fun _ hC=>(ad.gr (hC.bl ae)).atInt ar) ?_;refine xu rfl rfl (fun _=>Y3 underlying244 sizeOf3 rfl rfl (Xg ar).1 (Xg ar).2.1 (ad.addr ar)) ?_;refine xe rfl rfl ?_;intro b8 hC0;have hC:=hC0.bl ae;obtain ⟨aj,aw,hm⟩:=bZ hm;have aw:aj=ah.set (Int.toNat ak) bq:=(Option.some.inj aw).symm;replace ad:=ad.gr hC;refine Y2 (x1:=bq) ad ar ?_;intro b2 bs b3 a2;rw [← aw] at a2;refine .ld (d:=3) (v:=(.slice af aj.length ag)) (congrArg (fun n=>Value.slice af n ag) (show ah.length=aj.length by rw [aw,List.length_set])) ?_;refine .ld (d:=63) (v:=(.slice af aj.length ag)) (congrArg (fun n=>Value.slice af n ag) (show ah.length=aj.length by rw [aw,List.length_set])) ?_;replace ab:=(ab.gr hC).kp bs;replace ab:Zh 244 440 ae b2 g0 #[(.slice af ((aj.take (Int.toNat (i64.wrap ((aa.length:Int) - 1)))).length) ag)]:=by rw [← (show (ah.take (Int.toNat (i64.wrap ((aa.length:Int) - 1)))).length=(aj.take (Int.toNat (i64.wrap ((aa.length:Int) - 1)))).length by rw [List.length_take,List.length_take,(show ah.length=aj.length by rw [aw,List.length_set])])];exact ab
   refine Zl<|xk ae ?_;obtain ⟨b9,bc,hm⟩:=bZ hm;refine xu rfl rfl (fun _=>Y3 underlying244 sizeOf3 rfl rfl (Xg bc).1 (Xg bc).2.1 (a2.addr bc)) ?_;refine xe rfl rfl ?_;intro ca hC0;replace ac:=(ac.grow hC).kp bs b3;have hC:=hC0.bl ae;obtain ⟨ax,a3,hm⟩:=bZ hm;have a3:ax=aj.set (Int.toNat a1) br:=(Option.some.inj a3).symm;replace a2:=a2.gr hC;refine Y2 (x1:=br) a2 bc ?_;intro b4 bt b5 bd;rw [← a3] at bd;refine .ld (d:=3) (v:=(.slice af ax.length ag)) (congrArg (fun n=>Value.slice af n ag) (show aj.length=ax.length by rw [a3,List.length_set])) ?_;replace ab:=(ab.gr hC).kp bt;replace ab:Zh 244 440 ae b4 g0 #[(.slice af ((ax.take (Int.toNat (i64.wrap ((aa.length:Int) - 1)))).length) ag)]:=by rw [← (show (aj.take (Int.toNat (i64.wrap ((aa.length:Int) - 1)))).length=(ax.take (Int.toNat (i64.wrap ((aa.length:Int) - 1)))).length by rw [List.length_take,List.length_take,(show aj.length=ax.length by rw [a3,List.length_set])])];exact ab
   refine Zl<|xk ae<|Y5 ?_;replace ac:=(ac.grow hC).kp bt b5;intro cb hC;replace hC:=hC.bl ae;refine go ?_;replace bd:=bd.gr hC;replace ab:=ab.gr hC;replace ac:=ac.grow hC;exact ⟨ao,by omega,rfl,⟨_,_,_,_,_,_,rfl,hm,ac,bd,ab,rfl⟩⟩
theorem Zxk:Yw Tryz.prog 3 1 8:=⟨Tryz.t3,_,rfl,rfl,rfl,rfl,rfl⟩
def Zdu (ab:List Int) (aa:Int) (kk_L1:(List Int→Int→Option R2)) (ad:Bool):Option R2:=
  if ad=true then ((Zn ab (i64.wrap (Int.tdiv (i64.wrap (aa - 1)) 2))).bind fun ae=>(Zn ab aa).bind fun af=>(some (ab.set (Int.toNat aa) ae)).bind fun ac=>(Zn ac (i64.wrap (Int.tdiv (i64.wrap (aa - 1)) 2))).bind fun ah=>(some (ac.set (Int.toNat (i64.wrap (Int.tdiv (i64.wrap (aa - 1)) 2))) af)).bind fun ag=>kk_L1 ag (i64.wrap (Int.tdiv (i64.wrap (aa - 1)) 2))) else (some ab)
def Qu (N:Nat):Nat→R2→Int→Option R2
  | 0,_,_=>none
  | ac+1,ab,aa=>if (decide (0<aa))=true then ((Zn ab aa).bind fun ad=>(Zn ab (i64.wrap (Int.tdiv (i64.wrap (aa - 1)) 2))).bind fun ae=>Zdu ab aa (Qu N ac) (decide (ad<ae))) else (Zdu ab aa (Qu N ac) false)
termination_by structural x=>x
def Zdt (N:Nat) (aa:List Int) (ab:Int):Option R2:=
  Zw ((aa.length+[ab].length) * 8≤140737488355328∧aa.length+[ab].length≤maxLen) (Qu N N (aa++[ab]) (i64.wrap (((aa++[ab]).length:Int) - 1)))
theorem Znu {N g0 a7:Nat} {a8:Option Addr} {col:Zd} {w0:World} {ao:R2} {an:Int} {r:R2} (qc0 af:Nat) (hm:Zdt N ao an=some r) (hd:Uz [qc0,af]=true) (ap:Zc (Za.int .i64) 3 af col w0 a8 a7 ao) (hb0:Zh 244 qc0 col w0 g0 #[.slice a8 ao.length a7]):
    Calls Tryz.prog 266 #[.pointer (some ⟨g0,0,none⟩),.int .i64 an] w0 (fun e w'=>∃ (col':Zd) (oa1:Option Addr) (oc2:Nat),e= .returned (.tuple #[])∧Zt (pS [qc0,af]) col w0 col' w'∧Zc (Za.int .i64) 3 af col' w' oa1 oc2 r∧Zh 244 qc0 col' w' g0 #[.slice oa1 r.length oc2]):=by
 refine Zbz (m:=66) (args:=[.pointer (some ⟨g0,0,none⟩),.int .i64 an]) func266 rfl rfl rfl rfl ?_;rw [Zdt.eq_1] at hm;have ab:=St.startL (l:=[qc0,af]) rfl col w0;replace hb0:=hb0.startL (Qq hd 0 rfl) (Qp hd 0 rfl);replace ap:=ap.startL (Qq hd 1 rfl) (Qp hd 1 rfl);refine go ?_;refine lV (.pointer (some ⟨g0,0,none⟩)) (Sm rfl)<|lW hb0.at1<|X9 rfl<|Vd (col:=(Xl [qc0,af] col)) [an] 1 ?_;intro bw bi bj a0 bk;obtain ⟨a9,hm⟩:=Z0 hm;replace ap:=ap.gr a0;refine Zau (col:=bj) (w:=bi) (r:=(Za.int .i64)) (c:=441) (c2:=441) (ap.ex) (bk.srcN (NB.int (k:=.i64))) rfl underlying244 Zxk rfl rfl rfl a9.1 a9.2 (by decide) ?_;intro ba bb bx bm bc a1;refine lV (.pointer (some ⟨g0,0,none⟩)) (Sm rfl) ?_;replace hb0:=(hb0.gr a0).kpp bc;refine Wy (v:=(.slice ba ((ao++[an]).length) bb)) hb0 sizeOf244 rfl rfl (by intro u hu;simp only [Value.cells,List.mem_cons,List.not_mem_nil,or_false] at hu;subst hu;rfl) rfl rfl ?_;intro bn bd bo aa;replace aa:Zh 244 440 bm bn g0 #[.slice ba ((ao++[an]).length) bb]:=aa;replace a1:=a1.kp bd;have bp:=a1.new;refine go ?_;refine lV (.pointer (some ⟨g0,0,none⟩)) (Sm rfl)<|lW aa.at1<|go ?_;replace ab:=((ab.grow a0).kpp bc).kp bd bo;refine Z2 [0,1000000] (fun n f au=>∃ ag ah ai aj ae al,al=n∧Qu N al aj ae=some r∧St w0 (Xl [qc0,af] col) ag au∧Zc (Za.int .i64) 3 441 ag au ah ai aj∧Zh 244 440 ag au g0 #[.slice ah aj.length ai]∧[4].map f=[.int .i64 ae]) N ⟨_,_,_,_,_,_,rfl,hm,ab,bp,aa,rfl⟩ ?_;clear hm;intro n f au hI;obtain ⟨ag,ah,ai,aj,ae,al,hn,hm,ab,ac,aa,hs⟩:=hI;subst hn;refine .lL [4] hs ?_
 cases al with
 | zero=>rw [Qu.eq_1] at hm;cases hm
 | succ al=>
  rw [Qu.eq_2] at hm;refine Zu<|Zu ?_;refine Wp.cutK [0,4,1000000] (fun f av=>∃ ad a2,Zdu aj ae (Qu N al) a2=some r∧St w0 (Xl [qc0,af] col) ad av∧Zc (Za.int .i64) 3 441 ad av ah ai aj∧Zh 244 440 ad av g0 #[.slice ah aj.length ai]∧[36].map f=[.bool a2]) ?_ ?_
  ·intro f av hJ;obtain ⟨ad,a2,hm,ab,ac,aa,hs⟩:=hJ;rw [Zdu.eq_1] at hm;refine .lL [36] hs ?_;refine Zo hm (fun hb hm=>go ?_) fun hb hm=>go ?_
   ·refine Wi (col:=ad) [(0,1),(1,1),(2,0),(3,1),(4,1),(5,1),(6,0),(7,1),(8,1),(9,1),(10,1),(11,1),(12,0),(13,1),(14,1),(15,1),(16,1),(17,0),(18,1),(19,1),(20,0),(21,1),(22,1),(23,0),(24,1),(25,2),(26,1),(27,2)] (by kernel_rfl) (by kernel_rfl)<|xu rfl rfl (fun _=>Zj8 rfl) ?_;refine xu (v:=(.pointer (some ⟨g0,0,none⟩))) rfl rfl (fun _=>Sm rfl) ?_;refine xW (fun _ hC=>aa.at1.gr (hC.bl ad)) ?_;refine xu rfl rfl (fun _=>Y4 rfl) ?_;refine xu rfl rfl (fun _=>Zj8 rfl) ?_;refine xu (v:=(.pointer (some ⟨g0,0,none⟩))) rfl rfl (fun _=>Sm rfl) ?_;refine xW (fun _ hC=>aa.at1.gr (hC.bl ad)) ?_;refine xu rfl rfl (fun _=>Y4 rfl) ?_;refine xu rfl rfl (fun _=>Zj9 _ _ rfl rfl) ?_;refine xu (v:=(.int .i64 (i64.wrap (Int.tdiv (i64.wrap (ae - 1)) 2)))) rfl rfl (fun _=>Vl (i64.wrap (ae - 1)) 2 rfl rfl (by decide)) ?_;refine xu rfl rfl (fun _=>Zj8 rfl) ?_;refine xu (v:=(.pointer (some ⟨g0,0,none⟩))) rfl rfl (fun _=>Sm rfl) ?_;refine xW (fun _ hC=>aa.at1.gr (hC.bl ad)) ?_;refine xu rfl rfl (fun _=>Y4 rfl) ?_;refine xu rfl rfl (fun _=>Zj9 _ _ rfl rfl) ?_;refine xu (v:=(.int .i64 (i64.wrap (Int.tdiv (i64.wrap (ae - 1)) 2)))) rfl rfl (fun _=>Vl (i64.wrap (ae - 1)) 2 rfl rfl (by decide)) ?_;obtain ⟨be,aw,hm⟩:=bZ hm;refine xu rfl rfl (fun _=>Y3 underlying244 sizeOf3 rfl rfl (Xg aw).1 (Xg aw).2.1 (ac.addr aw)) ?_;refine xW (fun _ hC=>(ac.gr (hC.bl ad)).atInt aw) ?_;refine xu rfl rfl (fun _=>Zj8 rfl) ?_;refine xu (v:=(.pointer (some ⟨g0,0,none⟩))) rfl rfl (fun _=>Sm rfl) ?_;refine xW (fun _ hC=>aa.at1.gr (hC.bl ad)) ?_;refine xu rfl rfl (fun _=>Y4 rfl) ?_;obtain ⟨bf,ak,hm⟩:=bZ hm;refine xu rfl rfl (fun _=>Y3 underlying244 sizeOf3 rfl rfl (Xg ak).1 (Xg ak).2.1 (ac.addr ak)) ?_;refine xW (fun _ hC=>(ac.gr (hC.bl ad)).atInt ak) ?_;refine xu rfl rfl (fun _=>Y3 underlying244 sizeOf3 rfl rfl (Xg ak).1 (Xg ak).2.1 (ac.addr ak)) ?_;refine xe rfl rfl ?_;intro bz hC0;have hC:=hC0.bl ad;obtain ⟨am,aq,hm⟩:=bZ hm;have aq:am=aj.set (Int.toNat ae) be:=(Option.some.inj aq).symm;replace ac:=ac.gr hC;refine Y2 (x1:=be) ac ak ?_;intro bq bg br ar;rw [← aq] at ar;refine .ld (d:=46) (v:=(.slice ah am.length ai)) (congrArg (fun n=>Value.slice ah n ai) (show aj.length=am.length by rw [aq,List.length_set])) ?_;replace aa:=(aa.gr hC).kp bg;replace aa:Zh 244 440 ad bq g0 #[.slice ah am.length ai]:=by rw [← (show aj.length=am.length by rw [aq,List.length_set])];exact aa
    refine Zl<|xk ad ?_;obtain ⟨b0,ax,hm⟩:=bZ hm;refine xu rfl rfl (fun _=>Y3 underlying244 sizeOf3 rfl rfl (Xg ax).1 (Xg ax).2.1 (ar.addr ax)) ?_;refine xe rfl rfl ?_;intro b1 hC0;replace ab:=(ab.grow hC).kp bg br;have hC:=hC0.bl ad;obtain ⟨a3,ay,hm⟩:=bZ hm;have ay:a3=am.set (Int.toNat (i64.wrap (Int.tdiv (i64.wrap (ae - 1)) 2))) bf:=(Option.some.inj ay).symm;replace ar:=ar.gr hC;refine Y2 (x1:=bf) ar ax ?_;intro bs bh bt az;rw [← ay] at az;replace aa:=(aa.gr hC).kp bh;replace aa:Zh 244 440 ad bs g0 #[.slice ah a3.length ai]:=by rw [← (show am.length=a3.length by rw [ay,List.length_set])];exact aa
    refine Zl<|xk ad<|Y5 ?_;replace ab:=(ab.grow hC).kp bh bt;intro b2 hC;replace hC:=hC.bl ad;refine go ?_;refine lV (.int .i64 (i64.wrap (Int.tdiv (i64.wrap (ae - 1)) 2))) (Vl (i64.wrap (ae - 1)) 2 rfl rfl (by decide))<|go ?_;replace az:=az.gr hC;replace aa:=aa.gr hC;replace ab:=ab.grow hC;exact ⟨al,by omega,rfl,⟨_,_,_,_,_,_,rfl,hm,ab,az,aa,rfl⟩⟩
   cases hm;exact ⟨rfl,T5 w0.heap.size [qc0,af] col ad (fun n=>bif Nat.beq n 441 then af else bif Nat.beq n 440 then qc0 else 0),ah,ai,rfl,ab.finL rfl (fun n=>bif Nat.beq n 441 then af else bif Nat.beq n 440 then qc0 else 0),ab.finOwnL (g:=(fun n=>bif Nat.beq n 441 then af else bif Nat.beq n 440 then qc0 else 0)) rfl ac (by decide) (by decide) rfl,ab.finBoxL (g:=(fun n=>bif Nat.beq n 441 then af else bif Nat.beq n 440 then qc0 else 0)) aa (by decide) (by decide) rfl⟩
  refine Uk (col:=ag) (by kernel_rfl) (by kernel_rfl)<|go ?_;refine X5 hm (fun a4 hm=>go ?_) fun a4 hm=>go ?_
  ·refine qv (v:=(.pointer (some ⟨g0,0,none⟩))) rfl (fun _ hC=>Sm rfl) ?_;refine go ?_;refine qW (fun _ hC=>aa.at1.gr (hC.bl ag)) ?_;refine go ?_;obtain ⟨bu,a5,hm⟩:=bZ hm;refine qI a5 (ac.addr a5) ?_;refine go ?_;refine qW (fun _ hC=>(ac.gr (hC.bl ag)).atInt a5) ?_;refine go ?_;refine qv (v:=(.pointer (some ⟨g0,0,none⟩))) rfl (fun _ hC=>Sm rfl) ?_;refine go ?_;refine qW (fun _ hC=>aa.at1.gr (hC.bl ag)) ?_;refine go ?_;refine qv (v:=(.int .i64 (i64.wrap (Int.tdiv (i64.wrap (ae - 1)) 2)))) rfl (fun _ hC=>Vl (i64.wrap (ae - 1)) 2 rfl rfl (by decide)) ?_;refine go ?_;obtain ⟨bv,a6,hm⟩:=bZ hm;refine qI a6 (ac.addr a6) ?_;refine go ?_;refine qW (fun _ hC=>(ac.gr (hC.bl ag)).atInt a6) ?_;refine go ?_;refine qv (v:=(.bool (decide (bu<bv)))) rfl (fun _ hC=>Xq (congrArg Value.bool a4) rfl) ?_;refine Wt ?_;intro b3 hC;replace hC:=hC.bl ag;replace ac:=ac.gr hC;replace aa:=aa.gr hC;replace ab:=ab.grow hC;exact ⟨rfl,_,_,hm,ab,ac,aa,rfl⟩
  refine qv (v:=(.bool false)) rfl (fun _ hC=>Xk (congrArg Value.bool a4) rfl) ?_;refine Wt ?_;intro b4 hC;replace hC:=hC.bl ag;replace ac:=ac.gr hC;replace aa:=aa.gr hC;replace ab:=ab.grow hC;exact ⟨rfl,_,_,hm,ab,ac,aa,rfl⟩
def Zdw (kk_L3:(List Int→R2→Option R2)) (aa:List Int) (ab:List Int):Option R2:=
  kk_L3 aa ab
def S6 (N:Nat) (ad:List Int) (kk_L2:(List Int→R2→R2→Option R2)) (ae:R5):List Int→R2→R2→Option R2
  | [],aa,ab=>kk_L2 aa ab (ad++[ae.1])
  | ac :: ag,aa,ab=>(Zn aa ac).bind fun ah=>(some (aa.set (Int.toNat ac) (i64.wrap (ah - 1)))).bind fun af=>(Zn af ac).bind fun ai=>if (decide (ai=0))=true then ((Zdt N ab ac).bind fun aj=>Zdw (S6 N ad kk_L2 ae ag) af aj) else (Zdw (S6 N ad kk_L2 ae ag) af ab)
termination_by structural x=>x
def Ua (N:Nat) (ac:R9):Nat→R2→R2→R2→Option R2
  | 0,_,_,_=>none
  | ae+1,af,ad,ab=>if (decide (0<(ad.length:Int)))=true then ((Zfx N ad).bind fun aa=>Zw ((ab.length+[aa.1].length) * 8≤140737488355328∧ab.length+[aa.1].length≤maxLen) ((Zn ac aa.1).bind fun ag=>S6 N ab (Ua N ac ae) aa ag af aa.2)) else (some ab)
termination_by structural x=>x
def Zdx (aa:Nat) (kk_L1:(Nat→R2→R2→Option R2)) (ab:List Int) (ac:List Int):Option R2:=
  kk_L1 (aa+1) ab ac
def S5 (N:Nat) (ad:R9):List R2→Nat→R2→R2→Option R2
  | [],aa,ab,ac=>Ua N ad N ab ac ([]:List Int)
  | ae :: af,aa,ab,ac=>(Zn ab (aa:Int)).bind fun ai=>(some (ab.set (Int.toNat (aa:Int)) (ae.length:Int))).bind fun ag=>if (decide ((ae.length:Int)=0))=true then ((Zdt N ac (aa:Int)).bind fun ah=>Zdx aa (S5 N ad af) ag ah) else (Zdx aa (S5 N ad af) ag ac)
termination_by structural x=>x
def Zdv (N:Nat) (aa:R9) (ab:R9):Option R2:=
  Zw (aa.length * 8≤281474976710656∧aa.length≤maxLen) (S5 N ab aa 0 (List.replicate aa.length (0:Int)) ([]:List Int))
theorem Zu8 {N cs ct:Nat} {a0 a1:Option Addr} {col:Zd} {w0:World} {af ag:R9} {r:R2} (c1:Nat) (hm:Zdv N af ag=some r) (h0:Sl (Za.slice (Za.int .i64)) col w0 a0 cs af) (h1:Sl (Za.slice (Za.int .i64)) col w0 a1 ct ag):
    Calls Tryz.prog 202 #[.slice a0 af.length cs,.slice a1 ag.length ct] w0 (fun e w'=>∃ (col':Zd) (ra1:Option Addr) (rc2:Nat),e= .returned ((.slice ra1 r.length rc2))∧Zf col w0 col' w'∧Zc (Za.int .i64) 3 c1 col' w' ra1 rc2 r):=by
 refine Xc 4 (m:=66) func202 rfl rfl rfl rfl rfl ?_;rw [Zdv.eq_1] at hm;have aa:=St.start col w0;refine go ?_;obtain ⟨cu,hm⟩:=Z0 hm;refine Sx (col:=(Zi col)) (w:=w0) (r:=(Za.int .i64)) (n:=af.length) (x0:=0) 1 rfl underlying40 Tryz.t3 rfl rfl rfl rfl rfl rfl rfl cu.1 cu.2 (V5 .i64 0) ?_;intro d1 d2 c6 c7 bx;refine go ?_;refine Su (col:=c6) (v:=(.slice none (([]:List Int).length) 0)) 2 rfl zeroValue244 ?_;intro aq c8 c9 cv ab;replace ab:Zh 244 2 c9 c8 aq #[.slice none (([]:List Int).length) 0]:=ab;refine go ?_;replace aa:=(aa.grow c7).grow cv;replace bx:=bx.gr cv;refine Z2 [1,16,17,6,1000000] (fun n f az=>∃ a2 ah a3 a4 ar bz b0 bj a5,n=a5.length∧af.drop ah=a5∧S5 N ag a5 ah ar bj=some r∧St w0 (Zi col) a2 az∧Zc (Za.int .i64) 3 1 a2 az a3 a4 ar∧Zc (Za.int .i64) 3 3 a2 az bz b0 bj∧Zh 244 2 a2 az aq #[.slice bz bj.length b0]∧[18,5].map f=[.int .i64 ah,.slice a3 ar.length a4]) af.length ⟨_,0,_,_,_,none,0,_,_,rfl,rfl,hm,aa,bx,Zc.nil,ab,rfl⟩ ?_;clear hm;intro n f az hI;obtain ⟨a2,ah,a3,a4,ar,bz,b0,bj,a5,hn,hl,hm,aa,b1,a6,ab,hs⟩:=hI;subst hn;refine .lL [18,5] hs ?_;replace h0:=h0.keep (Zk.start col w0);replace h1:=h1.keep (Zk.start col w0)
 cases a5 with
 | nil=>
  have hk:¬ ((ah:Int)<(af.length:Int)):=by have:=List.drop_eq_nil_iff.1 hl;omega
  have hkb:=decide_eq_false hk;rw [S5.eq_1] at hm;refine go ?_;refine Xv (congrArg Value.bool hkb)<|go ?_;refine Z2 [1,6,1000000] (fun n f au=>∃ av b2 b3 bk b4 b5 bm b6 b7 ai aj,aj=n∧Ua N ag aj bk bm ai=some r∧St w0 (Zi col) av au∧Zc (Za.int .i64) 3 1 av au b2 b3 bk∧Zc (Za.int .i64) 3 3 av au b4 b5 bm∧Zh 244 2 av au aq #[.slice b4 bm.length b5]∧Zc (Za.int .i64) 3 4 av au b6 b7 ai∧[5,9].map f=[.slice b2 bk.length b3,.slice b6 ai.length b7]) N ⟨_,_,_,_,_,_,_,none,0,_,_,rfl,hm,aa,b1,a6,ab,Zc.nil,rfl⟩ ?_;clear hm;intro n f au hI;obtain ⟨av,b2,b3,bk,b4,b5,bm,b6,b7,ai,aj,hn,hm,aa,b8,da,ab,bn,hs⟩:=hI;subst hn;refine .lL [5,9] hs ?_
  cases aj with
  | zero=>rw [Ua.eq_1] at hm;cases hm
  | succ aj=>
   rw [Ua.eq_2] at hm;refine go ?_;refine lW ab.at1<|go ?_;refine Zo hm (fun hb hm=>go ?_) fun hb hm=>go ?_
   ·obtain ⟨a7,db,hm⟩:=bZ hm;refine Zg (Zu7 2 3 db rfl da ab) ?_;rintro _ d3 ⟨dc,d4,d5,rfl,b9,ca,ad⟩;refine ⟨_,rfl,go ?_⟩;refine Vd (col:=dc) [a7.1] 5 ?_;intro d6 d7 d8 a8 dd;obtain ⟨de,hm⟩:=Z0 hm;replace bn:=(bn.kpp b9).gr a8;refine V2 bn (dd.srcN (NB.int (k:=.i64))) de ?_;intro cw cx d9 ea bo ae;refine go ?_;obtain ⟨aw,cb,hm⟩:=bZ hm;replace aa:=((aa.kpp b9).grow a8).kpp bo;refine lI cb ((h1.ks aa).addr cb) ?_;obtain ⟨_,df,dg⟩:=(h1.ks aa).atN cb;obtain ⟨⟨cy,cz,rfl,ac⟩,_⟩:=df;refine lW dg.one<|go ?_;replace b8:=((b8.kpp b9).gr a8).kpp bo;replace ca:=(ca.gr a8).kpp bo;replace ad:=(ad.gr a8).kpp bo;refine Z2 [1,45,46,6,9,1000000] (fun n f ak=>∃ al a9 ba bb ax cc cd bp bc,n=bc.length∧aw.drop a9=bc∧S6 N ai (Ua N ag aj) a7 bc ax bp=some r∧St w0 (Zi col) al ak∧Sl (Za.int .i64) al ak cy cz aw∧Zc (Za.int .i64) 3 1 al ak ba bb ax∧Zc (Za.int .i64) 3 3 al ak cc cd bp∧Zh 244 2 al ak aq #[.slice cc bp.length cd]∧Zc (Za.int .i64) 3 4 al ak cw cx (ai++[a7.1])∧[47,5].map f=[.int .i64 a9,.slice ba ax.length bb]) aw.length ⟨_,0,_,_,_,_,_,_,_,rfl,rfl,hm,aa,ac,b8,ca,ad,ae,rfl⟩ ?_;clear hm;intro n f ak hI;obtain ⟨al,a9,ba,bb,ax,cc,cd,bp,bc,hn,hl,hm,aa,ac,bd,be,ad,ae,hs⟩:=hI;subst hn;refine .lL [47,5] hs ?_
    cases bc with
    | nil=>
     have hk:¬ ((a9:Int)<(aw.length:Int)):=by have:=List.drop_eq_nil_iff.1 hl;omega
     have hkb:=decide_eq_false hk;rw [S6.eq_1] at hm;refine go ?_;refine Xv (congrArg Value.bool hkb)<|go ?_;exact ⟨aj,by omega,rfl,⟨_,_,_,_,_,_,_,_,_,_,_,rfl,hm,aa,bd,be,ad,ae,rfl⟩⟩
    | cons dh c0=>
     obtain ⟨am,di,dj⟩:=Yc hl;have hk:(a9:Int)<(aw.length:Int):=by omega
     have hkb:=decide_eq_true hk;rw [S6.eq_2] at hm;refine go ?_;refine Xz (congrArg Value.bool hkb)<|X7<|Zu ?_;refine Wp.cutK [1,45,46,47,6,9,1000000] (fun f an=>∃ ao ce cf bq cg ch br,Zdw (S6 N ai (Ua N ag aj) a7 c0) bq br=some r∧St w0 (Zi col) ao an∧Sl (Za.int .i64) ao an cy cz aw∧Zc (Za.int .i64) 3 1 ao an ce cf bq∧Zc (Za.int .i64) 3 3 ao an cg ch br∧Zh 244 2 ao an aq #[.slice cg br.length ch]∧Zc (Za.int .i64) 3 4 ao an cw cx (ai++[a7.1])∧[5].map f=[.slice ce bq.length cf]) ?_ ?_
     ·intro f an hJ;obtain ⟨ao,ce,cf,bq,cg,ch,br,hm,aa,ac,dk,dl,ad,ae,hs⟩:=hJ;rw [Zdw.eq_1] at hm;refine .lL [5] hs<|go ?_;exact ⟨c0.length,by simp,rfl,⟨_,_,_,_,_,_,_,_,_,rfl,di,hm,aa,ac,dk,dl,ad,ae,(Yg (congrArg (Value.int .i64) (Yf (Nat.lt_of_lt_of_le dj ac.1.1))) rfl)⟩⟩
     refine go ?_;refine lI am (ac.addr am)<|lW (ac.atInt am) ?_;refine go ?_;obtain ⟨c2,ay,hm⟩:=bZ hm;refine lI ay (bd.addr ay)<|lW (bd.atInt ay) ?_;refine go ?_;refine lI ay (bd.addr ay) ?_;obtain ⟨ci,bs,hm⟩:=bZ hm;have bs:ci=ax.set (Int.toNat dh) (i64.wrap (c2 - 1)):=(Option.some.inj bs).symm;refine Y2 (x1:=i64.wrap (c2 - 1)) bd ay ?_;intro eb bf dm ap;rw [← bs] at ap;refine .ld (d:=5) (v:=(.slice ba ci.length bb)) (congrArg (fun n=>Value.slice ba n bb) (show ax.length=ci.length by rw [bs,List.length_set])) ?_;refine go ?_;obtain ⟨ec,cj,hm⟩:=bZ hm;refine lI cj (ap.addr cj)<|lW (ap.atInt cj) ?_;refine go ?_;replace ac:=ac.kp bf;replace be:=be.kp bf;replace ae:=ae.kp bf;replace ad:=ad.kp bf;replace aa:=aa.kp bf dm;refine Zo hm (fun hb hm=>go ?_) fun hb hm=>?_
     ·obtain ⟨ed,dn,hm⟩:=bZ hm;refine Zg (Znu 2 3 dn rfl be ad) ?_;rintro _ ee ⟨ef,eg,eh,rfl,bt,dp,dq⟩;refine ⟨_,rfl,?_⟩;refine Zl ?_;replace ac:=ac.kpp bt;replace ap:=ap.kpp bt;replace ae:=ae.kpp bt;replace aa:=aa.kpp bt;exact ⟨rfl,_,_,_,_,_,_,_,hm,aa,ac,ap,dp,dq,ae,rfl⟩
     refine X7 ?_;exact ⟨rfl,_,_,_,_,_,_,_,hm,aa,ac,ap,be,ad,ae,rfl⟩
   cases hm;exact ⟨rfl,_,_,_,rfl,aa.fin (cm [(4,c1)]),aa.fo bn⟩
 | cons c3 c4=>
  obtain ⟨am,dr,ds⟩:=Yc hl;have hk:(ah:Int)<(af.length:Int):=by omega
  have hkb:=decide_eq_true hk;rw [S5.eq_2] at hm;refine go ?_;refine Xz (congrArg Value.bool hkb)<|X7<|Zu ?_;refine Wp.cutK [1,16,17,18,6,1000000] (fun f bg=>∃ bh ck cl bu cn co bv,Zdx ah (S5 N ag c4) bu bv=some r∧St w0 (Zi col) bh bg∧Zc (Za.int .i64) 3 1 bh bg ck cl bu∧Zc (Za.int .i64) 3 3 bh bg cn co bv∧Zh 244 2 bh bg aq #[.slice cn bv.length co]∧[5].map f=[.slice ck bu.length cl]) ?_ ?_
  ·intro f bg hJ;obtain ⟨bh,ck,cl,bu,cn,co,bv,hm,aa,dt,du,ab,hs⟩:=hJ;rw [Zdx.eq_1] at hm;refine .lL [5] hs<|go ?_;exact ⟨c4.length,by simp,rfl,⟨_,_,_,_,_,_,_,_,_,rfl,dr,hm,aa,dt,du,ab,(Yg (congrArg (Value.int .i64) (Yf (Nat.lt_of_lt_of_le ds (h0.ks aa).1.1))) rfl)⟩⟩
  refine go ?_;refine lI am ((h0.ks aa).addr am) ?_;obtain ⟨_,dv,dw⟩:=(h0.ks aa).atN am;obtain ⟨⟨ei,ej,rfl,ek⟩,_⟩:=dv;refine lW dw.one<|go ?_;obtain ⟨el,cp,hm⟩:=bZ hm;refine lI cp (b1.addr cp) ?_;obtain ⟨cq,bw,hm⟩:=bZ hm;have bw:cq=ar.set (Int.toNat (ah:Int)) (c3.length:Int):=(Option.some.inj bw).symm;refine Y2 (x1:=(c3.length:Int)) b1 cp ?_;intro em cr dx bi;rw [← bw] at bi;refine .ld (d:=5) (v:=(.slice a3 cq.length a4)) (congrArg (fun n=>Value.slice a3 n a4) (show ar.length=cq.length by rw [bw,List.length_set])) ?_;refine go ?_;replace a6:=a6.kp cr;replace ab:=ab.kp cr;replace aa:=aa.kp cr dx;refine Zo hm (fun hb hm=>go ?_) fun hb hm=>?_
  ·obtain ⟨en,dy,hm⟩:=bZ hm;refine Zg (Znu 2 3 dy rfl a6 ab) ?_;rintro _ eo ⟨ep,eq,er,rfl,c5,dz,d0⟩;refine ⟨_,rfl,?_⟩;refine Zl ?_;replace bi:=bi.kpp c5;replace aa:=aa.kpp c5;exact ⟨rfl,_,_,_,_,_,_,_,hm,aa,bi,dz,d0,rfl⟩
  refine X7 ?_;exact ⟨rfl,_,_,_,_,_,_,_,hm,aa,bi,a6,ab,rfl⟩
def Qt (N:Nat) (aa:R9):Option Rc:=
  (Zdq aa).bind fun ab=>if (!decide (ab=0))=true then (some (([]:List Int),ab)) else ((Zdp aa).bind fun ad=>(Zdv N aa ad).bind fun ac=>if (decide ((ac.length:Int)<(aa.length:Int)))=true then (some (([]:List Int),42)) else (some (ac,0)))
theorem Zu4 {N ad:Nat} {a0:Option Addr} {col:Zd} {w0:World} {ab:R9} {r:Rc} (c1:Nat) (hm:Qt N ab=some r) (h0:Sl (Za.slice (Za.int .i64)) col w0 a0 ad ab):
    Calls Tryz.prog 89 #[.slice a0 ab.length ad] w0 (fun e w'=>∃ (col':Zd) (ra1:Option Addr) (rc2:Nat),e= .returned (.tuple #[.slice ra1 r.1.length rc2,.int .i64 r.2])∧Zf col w0 col' w'∧Zc (Za.int .i64) 3 c1 col' w' ra1 rc2 r.1):=by
 refine Zdj 2 3 (m:=21) (args:=[.slice a0 ab.length ad]) func89 rfl rfl rfl rfl rfl ?_;rw [Qt.eq_1] at hm;have aa:=St.start col w0;refine go ?_;obtain ⟨ap,ah,hm⟩:=bZ hm;replace h0:=h0.keep (Zk.start col w0);refine Zg (Zu6 ah (h0.ks aa)) ?_;rintro _ ai ⟨rfl,ae⟩;refine ⟨_,rfl,?_⟩;replace ae:Zf (Zi col) w0 (Zi col) ai:=.of_below ae;refine go ?_;replace aa:=aa.grow ae;refine Zo hm (fun hb hm=>go ?_) fun hb hm=>go ?_
 ·cases hm;exact ⟨rfl,_,none,0,rfl,aa.fin (cm []),Zc.nil⟩
 obtain ⟨aq,aj,hm⟩:=bZ hm;refine Zg (Zu5 1 aj (h0.ks aa)) ?_;rintro _ ak ⟨af,ar,au,rfl,al,am⟩;refine ⟨_,rfl,?_⟩;obtain ⟨av,an,hm⟩:=bZ hm;replace aa:=aa.grow al;refine Zg (Zu8 2 an ((h0.ks aa).froz 1) (am.toSlF (Zj.row (Zj.int .i64)))) ?_;rintro _ aw ⟨ao,ax,ay,rfl,ac,ag⟩;refine ⟨_,rfl,?_⟩;replace ag:=ag.thaw (Zx .i64) ac ((Fz.refl (col:=af)).froz 1) (by decide);replace ac:=ac.thawR (col:=af);generalize Z6 ak.heap.size af ao=az at *;refine go ?_;replace aa:=aa.grow ac;refine Zo hm (fun hb hm=>go ?_) fun hb hm=>go ?_
 ·cases hm;exact ⟨rfl,_,none,0,rfl,aa.fin (cm []),Zc.nil⟩
 cases hm;exact ⟨rfl,_,_,_,rfl,aa.fin (cm [(2,c1)]),aa.fo ag⟩
def T9 (N:Nat) (aa:R9):Option Int:=
  (Qt N aa).bind fun ab=>some ab.2
theorem Zu3 {N ad:Nat} {a0:Option Addr} {col:Zd} {w0:World} {ac:R9} {r:Int} (hm:T9 N ac=some r) (h0:Sl (Za.slice (Za.int .i64)) col w0 a0 ad ac):
    Calls Tryz.prog 175 #[.slice a0 ac.length ad] w0 (fun e w'=>e= .returned ((.int .i64 r))∧Below w0.heap.size w0 w'):=by
 refine Xc 2 (m:=11) func175 rfl rfl rfl rfl rfl ?_;rw [T9.eq_1] at hm;have aa:=St.start col w0;refine go ?_;obtain ⟨ab,ag,hm⟩:=bZ hm;replace h0:=h0.keep (Zk.start col w0);refine Zg (Zu4 1 ag (h0.ks aa)) ?_;rintro _ ai ⟨aj,ae,af,rfl,ah,ak⟩;refine ⟨_,rfl,?_⟩;refine lM (.tuple #[.slice ae ab.1.length af,.int .i64 ab.2])<|lV (.slice ae ab.1.length af) (Xh rfl rfl)<|lV (.int .i64 ab.2) (Xh rfl rfl)<|go ?_;cases hm;replace aa:=aa.grow ah;exact ⟨rfl,rfl,aa.below⟩
def Zje (aa:Int) (kk_L2:(Int→Option Bool)) (ab:Bool):Option Bool:=
  if ab=true then (some false) else (kk_L2 (i64.wrap (aa+1)))
def Zg0 (N:Nat) (aa:R9) (ab:Int) (kk_L1:(Int→Option Bool)):Nat→Int→Option Bool
  | 0,_=>none
  | ad+1,ac=>(Zn aa ab).bind fun ae=>if (decide (ac<(ae.length:Int)))=true then ((Zn ae ac).bind fun af=>if (decide (af<0))=true then (Zje ac (Zg0 N aa ab kk_L1 ad) true) else (Zje ac (Zg0 N aa ab kk_L1 ad) (decide ((aa.length:Int)≤af)))) else (kk_L1 (i64.wrap (ab+1)))
termination_by structural x=>x
def Zgz (N:Nat) (aa:R9):Nat→Int→Option Bool
  | 0,_=>none
  | ac+1,ab=>if (decide (ab<(aa.length:Int)))=true then (Zg0 N aa ab (Zgz N aa ac) N 0) else (some true)
termination_by structural x=>x
def Zjd (N:Nat) (aa:R9):Option Bool:=
  Zgz N aa N 0
def Zjc (N:Nat) (aa:List Int) (ac:Int):Nat→Int→Option Bool
  | 0,_=>none
  | ad+1,ab=>if (decide (ab<(aa.length:Int)))=true then ((Zn aa ab).bind fun ae=>if (decide (ae=ac))=true then (some true) else ((Zjc N aa ac ad) (i64.wrap (ab+1)))) else (some false)
termination_by structural x=>x
def Zgy (N:Nat) (aa:List Int) (ab:Int):Option Bool:=
  Zjc N aa ab N 0
def Zji (N:Nat) (ad:R9) (ac:Int) (kk_L1:(Int→Option Bool)):Nat→Int→Option Bool
  | 0,_=>none
  | ae+1,aa=>(Zn ad ac).bind fun ab=>if (decide (aa<(ab.length:Int)))=true then (Zw ((0:Int)≤aa∧aa≤(ab.length:Int)) ((Zn ab aa).bind fun af=>(Zgy N (ab.take (Int.toNat aa)) af).bind fun ag=>if ag=true then (some true) else ((Zji N ad ac kk_L1 ae) (i64.wrap (aa+1))))) else (kk_L1 (i64.wrap (ac+1)))
termination_by structural x=>x
def Zg2 (N:Nat) (aa:R9):Nat→Int→Option Bool
  | 0,_=>none
  | ac+1,ab=>if (decide (ab<(aa.length:Int)))=true then (Zji N aa ab (Zg2 N aa ac) N 0) else (some false)
termination_by structural x=>x
def Zjh (N:Nat) (aa:R9):Option Bool:=
  Zg2 N aa N 0
def Zjf (aa:Int) (kk_L2:(Int→Int→Option R2)) (ab:Int):Option R2:=
  kk_L2 ab (i64.wrap (aa+1))
def Zjg (aa:Int) (kk_L3:(Bool→Int→Option R2)) (ab:Bool):Option R2:=
  kk_L3 ab (i64.wrap (aa+1))
def Zg1 (N:Nat) (ac:R9) (ad:List Int) (ae:Int) (aa:Int) (kk_L2:(Int→Int→Option R2)):Nat→Bool→Int→Option R2
  | 0,_,_=>none
  | af+1,ag,ab=>(Zn ac aa).bind fun ah=>if (decide (ab<(ah.length:Int)))=true then (if ag=true then ((Zn ah ab).bind fun ai=>(Zgy N ad ai).bind fun aj=>Zjg ab (Zg1 N ac ad ae aa kk_L2 af) aj) else (Zjg ab (Zg1 N ac ad ae aa kk_L2 af) false)) else (if ag=true then (Zjf aa kk_L2 aa) else (Zjf aa kk_L2 ae))
termination_by structural x=>x
def Ze3 (N:Nat) (ad:R9) (aa:List Int) (kk_L1:(List Int→Option R2)) (ab:Int) (ac:Int) (kk_L2:(Int→Int→Option R2)) (ae:Bool):Option R2:=
  if ae=true then ((Zgy N aa ac).bind fun af=>Zg1 N ad aa ab ac kk_L2 N (!af) 0) else (if (decide (ab<0))=true then (some aa) else (Zw ((aa.length+[ab].length) * 8≤140737488355328∧aa.length+[ab].length≤maxLen) (kk_L1 (aa++[ab]))))
def Zcv (N:Nat) (aa:R9) (ab:List Int) (kk_L1:(List Int→Option R2)):Nat→Int→Int→Option R2
  | 0,_,_=>none
  | ae+1,ac,ad=>if (decide (ad<(aa.length:Int)))=true then (Ze3 N aa ab kk_L1 ac ad (Zcv N aa ab kk_L1 ae) (decide (ac<0))) else (Ze3 N aa ab kk_L1 ac ad (Zcv N aa ab kk_L1 ae) false)
termination_by structural x=>x
def Zae (N:Nat) (aa:R9):Nat→R2→Option R2
  | 0,_=>none
  | ab+1,ac=>Zcv N aa ac (Zae N aa ab) N (-1) 0
termination_by structural x=>x
def Sg (N:Nat) (aa:R9):Option R2:=
  Zae N aa N ([]:List Int)
def Ze2 (N:Nat) (aa:R9):Option Int:=
  (Zjd N aa).bind fun ab=>if (!ab)=true then (some 3) else ((Zjh N aa).bind fun ac=>if ac=true then (some 40) else ((Sg N aa).bind fun ad=>if (decide ((ad.length:Int)<(aa.length:Int)))=true then (some 42) else (some 0)))
theorem Znl (N:Nat) (l:List Int) (x:Int) (hl:l.length≤1048576):∀ (n k:Nat),l.length<n+k→k≤l.length→Zjc N l x n (k:Int)=some (decide (x ∈ l.drop k))
 | 0,k,h,hk=>by omega
 | n+1,k,h,hk=>by
  rw [Zjc.eq_2]
  by_cases hlt:k<l.length
  ·rw [if_pos (by simpa using hlt),Xb hlt,Option.bind_some,wS (by omega),Znl N l x hl n (k+1) (by omega) (by omega),List.drop_eq_getElem_cons hlt]
   by_cases he:l[k]=x
   ·rw [if_pos (by simpa using he),decide_eq_true (by rw [he];exact List.mem_cons_self)]
   ·rw [if_neg (by simpa using he)]
    exact congrArg some (decide_eq_decide.2 ⟨fun h=>List.mem_cons_of_mem _ h,fun h=>(List.mem_cons.1 h).resolve_left (Ne.symm he)⟩)
  ·rw [if_neg (by simpa using hlt),List.drop_eq_nil_of_le (by omega)];simp
theorem Zkl {N:Nat} {l:List Int} {x:Int} (hl:l.length≤1048576) (hN:1048576<N):Zgy N l x=some (decide (x ∈ l)):=by
 rw [Zgy];simpa using Znl N l x hl N 0 (by omega) (by omega)
def Vq (m:Int) (P:List R2):Bool:=P.all fun l=>l.all fun p=>decide (0≤p∧p<m)
theorem Zpy (N:Nat) (P:List R2) (i:Nat) (hi:i<P.length) (hP:P.length≤1048576) (hl:P[i].length≤1048576) (kk:Int→Option Bool):∀ (n k:Nat),P[i].length<n+k→k≤P[i].length→
  Zg0 N P (i:Int) kk n (k:Int)=if (P[i].drop k).all (fun p=>decide (0≤p∧p<(P.length:Int))) then kk ((i+1:Nat):Int) else some false
 | 0,k,h,hk=>by omega
 | n+1,k,h,hk=>by
  rw [Zg0.eq_2,Xb hi,Option.bind_some]
  by_cases hlt:k<P[i].length
  ·rw [if_pos (by simpa using hlt),Xb hlt,Option.bind_some,Zje,Zje,wS (by omega),Zpy N P i hi hP hl kk n (k+1) (by omega) (by omega),List.drop_eq_getElem_cons hlt]
   by_cases h1:P[i][k]<0
   ·rw [if_pos (by simpa using h1),if_pos rfl,if_neg (fun h=>by rw [List.all_cons,Bool.and_eq_true,decide_eq_true_eq] at h;omega)]
   ·rw [if_neg (by simpa using h1)]
    by_cases h2:(P.length:Int)≤P[i][k]
    ·rw [if_pos (by simpa using h2),if_neg (fun h=>by rw [List.all_cons,Bool.and_eq_true,decide_eq_true_eq] at h;omega)]
    ·rw [if_neg (by simpa using h2)]
     simp only [List.all_cons,Bool.and_eq_true]
     have h3:decide (0≤P[i][k]∧P[i][k]<(P.length:Int))=true:=by simp;omega
     simp only [h3,true_and]
  ·rw [if_neg (by simpa using hlt),List.drop_eq_nil_of_le (by omega),wS (by omega)];simp
theorem Zpx (N:Nat) (P:List R2) (hP:P.length≤1048576) (hl:∀ l ∈ P,l.length≤1048576) (hN:1048576<N):∀ (n i:Nat),P.length<n+i→i≤P.length→
  Zgz N P n (i:Int)=some (Vq P.length (P.drop i))
 | 0,i,h,hi=>by omega
 | n+1,i,h,hi=>by
  rw [Zgz.eq_2]
  by_cases hlt:i<P.length
  ·have h0:=Zpy N P i hlt hP (hl _ (List.getElem_mem hlt)) (Zgz N P n) N 0 (by have:=hl _ (List.getElem_mem hlt);omega) (by omega)
   rw [if_pos (by simpa using hlt)]
   rw [show (0:Int)=((0:Nat):Int) from rfl,h0,Zpx N P hP hl hN n (i+1) (by omega) (by omega),List.drop_eq_getElem_cons hlt]
   simp only [Vq,List.all_cons,List.drop_zero]
   by_cases h1:(P[i].all fun p=>decide (0≤p∧p<(P.length:Int)))=true
   ·rw [if_pos h1,h1,Bool.true_and]
   ·rw [if_neg h1,Bool.eq_false_iff.2 h1,Bool.false_and]
  ·rw [if_neg (by simpa using hlt),List.drop_eq_nil_of_le (by omega)];rfl
theorem Zye {N:Nat} {P:List R2} (hP:P.length≤1048576) (hl:∀ l ∈ P,l.length≤1048576) (hN:1048576<N):Zjd N P=some (Vq P.length P):=by
 rw [Zjd];simpa using Zpx N P hP hl hN N 0 (by omega) (by omega)
def Uj (P:List R2):Bool:=P.any fun l=>!decide l.Nodup
theorem Zrc (l:List Int) (k:Nat) (hk:k<l.length):(l.take (k+1)).Nodup↔(l.take k).Nodup∧l[k] ∉ l.take k:=by
 rw [List.take_succ_eq_append_getElem hk,List.nodup_append]
 simp only [List.nodup_cons,List.not_mem_nil,not_false_eq_true,List.nodup_nil,and_self,List.mem_singleton,true_and]
 constructor
 ·rintro ⟨h1,h2⟩;exact ⟨h1,fun h=>h2 _ h _ rfl rfl⟩
 ·rintro ⟨h1,h2⟩;exact ⟨h1,fun a ha b hb e=>h2 (by rw [← hb,← e];exact ha)⟩
theorem Zui (N:Nat) (P:List R2) (i:Nat) (hi:i<P.length) (hP:P.length≤1048576) (hl:P[i].length≤1048576) (hN:1048576<N) (kk:Int→Option Bool):∀ (n k:Nat),P[i].length<n+k→k≤P[i].length→(P[i].take k).Nodup→
  Zji N P (i:Int) kk n (k:Int)=if P[i].Nodup then kk ((i+1:Nat):Int) else some true
 | 0,k,h,hk,_=>by omega
 | n+1,k,h,hk,hnd=>by
  rw [Zji.eq_2,Xb hi,Option.bind_some]
  by_cases hlt:k<P[i].length
  ·rw [if_pos (by simpa using hlt),Xd (by omega),Xb hlt,Option.bind_some,Zkl (by simp;omega) hN,Option.bind_some,Int.toNat_natCast]
   by_cases h1:P[i][k] ∈ P[i].take k
   ·rw [if_pos (by simpa using h1),if_neg]
    intro h2
    exact ((Zrc _ k hlt).1 (h2.sublist (List.take_sublist _ _))).2 h1
   ·rw [if_neg (by simpa using h1),wS (by omega)]
    exact Zui N P i hi hP hl hN kk n (k+1) (by omega) (by omega) ((Zrc _ k hlt).2 ⟨hnd,h1⟩)
  ·rw [if_neg (by simpa using hlt),wS (by omega)]
   rw [List.take_of_length_le (by omega)] at hnd
   rw [if_pos hnd]
theorem Zuh (N:Nat) (P:List R2) (hP:P.length≤1048576) (hl:∀ l ∈ P,l.length≤1048576) (hN:1048576<N):∀ (n i:Nat),P.length<n+i→i≤P.length→
  Zg2 N P n (i:Int)=some (Uj (P.drop i))
 | 0,i,h,hi=>by omega
 | n+1,i,h,hi=>by
  rw [Zg2.eq_2]
  by_cases hlt:i<P.length
  ·have h0:=Zui N P i hlt hP (hl _ (List.getElem_mem hlt)) hN (Zg2 N P n) N 0 (by have:=hl _ (List.getElem_mem hlt);omega) (by omega) (by simp)
   rw [if_pos (by simpa using hlt)]
   rw [show (0:Int)=((0:Nat):Int) from rfl,h0,Zuh N P hP hl hN n (i+1) (by omega) (by omega),List.drop_eq_getElem_cons hlt]
   simp only [Uj,List.any_cons]
   by_cases h1:P[i].Nodup
   ·rw [if_pos h1];simp [h1]
   ·rw [if_neg h1];simp [h1]
  ·rw [if_neg (by simpa using hlt),List.drop_eq_nil_of_le (by omega)];rfl
theorem Z1h {N:Nat} {P:List R2} (hP:P.length≤1048576) (hl:∀ l ∈ P,l.length≤1048576) (hN:1048576<N):Zjh N P=some (Uj P):=by
 rw [Zjh];simpa using Zuh N P hP hl hN N 0 (by omega) (by omega)
def Ui (P:List R2):Nat:=(P.map List.length).sum
theorem Zht (l:List Int) (P:List R2):Ui (l :: P)=l.length+Ui P:=by simp [Ui]
theorem Zke {l:List Int}:∀ {P:List R2},l ∈ P→l.length≤Ui P
 | x :: P,h=>by
  rw [Zht]
  rcases List.mem_cons.1 h with rfl | h
  ·omega
  ·have:=Zke h;omega
def Zlf:Nat→List R2→List R6
 | _,[]=>[]
 | k,l :: P=>l.map (fun p=>(p,(k:Int)))++Zlf (k+1) P
theorem Zxe:∀ (k:Nat) (P:List R2),(Zlf k P).length=Ui P
 | _,[]=>rfl
 | k,l :: P=>by rw [Zlf,List.length_append,List.length_map,Zxe,Zht]
def Us (P:List R2) (l:List Int) (i:Nat):Bool:=!decide ((i:Int) ∈ l)&&(P.getD i []).all fun p=>decide (p ∈ l)
def Ws (P:List R2) (l:List Int) (i:Nat):Option Nat:=(List.range' i (P.length - i)).find? (Us P l)
theorem Zzf (P:List R2) (l:List Int) (i:Nat) (h:P.length≤i):Ws P l i=none:=by
 rw [Ws,Nat.sub_eq_zero_of_le h];rfl
theorem Zzh (P:List R2) (l:List Int) (i:Nat) (h:i<P.length):Ws P l i=if Us P l i then some i else Ws P l (i+1):=by
 rw [Ws,Ws,show P.length - i=(P.length - (i+1))+1 by omega,List.range'_succ,List.find?_cons]
 cases Us P l i <;> simp
section
variable (N:Nat) (P:List R2) (l:List Int)
theorem Zmk (hP:P.length≤1048576) (hl:l.length≤1048576) (hN:1048576<N) (next:Int) (i:Nat) (hi:i<P.length) (hli:P[i].length≤1048576) (kk:Int→Int→Option R2):∀ (n:Nat) (b:Bool) (k:Nat),P[i].length<n+k→k≤P[i].length→
  Zg1 N P l next (i:Int) kk n b (k:Int)=kk (if (b&&(P[i].drop k).all fun p=>decide (p ∈ l))=true then (i:Int) else next) ((i+1:Nat):Int)
 | 0,b,k,h,hk=>by omega
 | n+1,b,k,h,hk=>by
  rw [Zg1.eq_2,Xb hi,Option.bind_some]
  by_cases hlt:k<P[i].length
  ·rw [if_pos (by simpa using hlt),Xb hlt,Option.bind_some,Zkl hl hN,Option.bind_some,Zjg,Zjg,wS (by omega),Zmk hP hl hN next i hi hli kk n _ (k+1) (by omega) (by omega),Zmk hP hl hN next i hi hli kk n _ (k+1) (by omega) (by omega),List.drop_eq_getElem_cons hlt,List.all_cons]
   cases b
   ·rw [if_neg (by decide),Bool.false_and,Bool.false_and]
   ·rw [if_pos rfl,Bool.true_and]
  ·rw [if_neg (by simpa using hlt),List.drop_eq_nil_of_le (by omega),Zjf,Zjf,wS (by omega),List.all_nil,Bool.and_true]
   cases b
   ·rw [if_neg (by decide),if_neg (by decide)]
   ·rw [if_pos rfl,if_pos rfl]
def Zr7 (kk:List Int→Option R2):Option Nat→Option R2
 | none=>some l
 | some i=>kk (l++[(i:Int)])
theorem Zrl (hl:l.length<1048576) (kk:List Int→Option R2) (i:Nat) (i':Int) (kk2:Int→Int→Option R2):Ze3 N P l kk (i:Int) i' kk2 false=kk (l++[(i:Int)]):=by
 rw [Ze3,if_neg (by decide),if_neg (by rw [decide_eq_true_eq];omega),Xd (by simp only [List.length_cons,List.length_nil,maxLen];omega)]
theorem Zrk (hP:P.length≤1048576) (hls:∀ x ∈ P,x.length≤1048576) (hl:l.length<1048576) (hN:1048576<N) (kk:List Int→Option R2):∀ (n i:Nat),P.length<n+i→i≤P.length→
  Zcv N P l kk n (-1) (i:Int)=Zr7 l kk (Ws P l i)
 | 0,i,h,hi=>by omega
 | n+1,i,h,hi=>by
  rw [Zcv.eq_2]
  by_cases hlt:i<P.length
  ·have h3:=Zmk N P l hP (by omega) hN (-1) i hlt (hls _ (List.getElem_mem hlt)) (Zcv N P l kk n) N (!decide ((i:Int) ∈ l)) 0 (by have:=hls _ (List.getElem_mem hlt);omega) (by omega)
   rw [if_pos (by simpa using hlt),Ze3,if_pos (by decide),Zkl (by omega) hN,Option.bind_some]
   rw [show (0:Int)=((0:Nat):Int) from rfl,h3,Zzh P l i hlt,List.drop_zero]
   have hb:(!decide ((i:Int) ∈ l)&&P[i].all fun p=>decide (p ∈ l))=Us P l i:=by
    rw [Us,List.getD_eq_getElem?_getD,List.getElem?_eq_getElem hlt];rfl
   rw [hb]
   by_cases hr:Us P l i=true
   ·rw [if_pos hr,if_pos hr]
    match n,h with
    | 0,h=>omega
    | n+1,h=>
     rw [Zcv.eq_2]
     by_cases h2:i+1<P.length
     ·rw [if_pos (decide_eq_true (by omega)),show decide ((i:Int)<0)=false from decide_eq_false (by omega)]
      exact Zrl N P l hl kk i _ _
     ·rw [if_neg (by rw [decide_eq_true_eq];omega)]
      exact Zrl N P l hl kk i _ _
   ·rw [if_neg hr,if_neg hr]
    exact Zrk hP hls hl hN kk n (i+1) (by omega) (by omega)
  ·rw [if_neg (by simpa using hlt),Zzf P l i (by omega),Ze3,if_neg (by decide),if_pos (by decide)];rfl
end
theorem Zml {N:Nat} {P:List R2} {l:List Int} (hP:P.length≤1048576) (hls:∀ x ∈ P,x.length≤1048576) (hl:l.length<1048576) (hN:1048576<N) (n:Nat):
  Zae N P (n+1) l=Zr7 l (Zae N P n) (Ws P l 0):=by
 rw [Zae.eq_2]
 exact Zrk N P l hP hls hl hN _ N 0 (by omega) (by omega)
theorem Zmg {P:List R2} {l:List Int} {i j:Nat} (h:Ws P l i=some j):i≤j∧j<P.length∧Us P l j=true∧∀ k,i≤k→k<j→Us P l k=false:=by
 rw [Ws,List.find?_range'_eq_some] at h
 obtain ⟨h1,h2,h3⟩:=h
 rw [List.mem_range'] at h2
 obtain ⟨q,h4,h5⟩:=h2
 refine ⟨by omega,by omega,h1,fun k hk1 hk2=>?_⟩
 have:=h3 k hk1 hk2
 simpa using this
theorem Zzg {P:List R2} {l:List Int} {i:Nat} (h:Ws P l i=none):∀ k,i≤k→k<P.length→Us P l k=false:=by
 rw [Ws,List.find?_eq_none] at h
 intro k hk1 hk2
 have:=h k (by rw [List.mem_range'];exact ⟨k - i,by omega,by omega⟩)
 simpa using this
theorem Zsz {P:List R2} {l:List Int} {i:Nat} (hi:i<P.length):Us P l i=true↔(i:Int) ∉ l∧∀ p ∈ P[i],p ∈ l:=by
 rw [Us,List.getD_eq_getElem?_getD,List.getElem?_eq_getElem hi]
 simp
def Vz (P:List R2) (l:List Int):Prop:=l.Nodup∧(∀ x ∈ l,0≤x∧x<(P.length:Int))∧∀ (i:Nat) (hi:i<P.length),(i:Int) ∈ l→∀ p ∈ P[i],p ∈ l
theorem Vz.len {P:List R2} {l:List Int} (h:Vz P l):l.length≤P.length:=by
 have h1:=Ze8 (r:=(List.range P.length).map fun i:Nat=>(i:Int)) h.1 fun x hx=>by
  have:=h.2.1 x hx
  exact List.mem_map.2 ⟨x.toNat,List.mem_range.2 (by omega),by omega⟩
 simpa using h1
theorem Vz.step {P:List R2} {l:List Int} {j:Nat} (h:Vz P l) (hn:Ws P l 0=some j):Vz P (l++[(j:Int)])∧l.length<P.length:=by
 obtain ⟨_,h2,h3,_⟩:=Zmg hn
 obtain ⟨h4,h5⟩:=(Zsz h2).1 h3
 have h6:Vz P (l++[(j:Int)]):=by
  refine ⟨?_,?_,?_⟩
  ·rw [List.nodup_append]
   refine ⟨h.1,by simp,fun a ha b hb e=>?_⟩
   rw [List.mem_singleton] at hb;subst hb;subst e;exact h4 ha
  ·intro x hx
   rcases List.mem_append.1 hx with hx | hx
   ·exact h.2.1 x hx
   ·rw [List.mem_singleton] at hx;omega
  ·intro i hi hm p hp
   rcases List.mem_append.1 hm with hm | hm
   ·exact List.mem_append_left _ (h.2.2 i hi hm p hp)
   ·rw [List.mem_singleton] at hm
    have:i=j:=by omega
    subst this
    exact List.mem_append_left _ (h5 p hp)
 exact ⟨h6,by have:=h6.len;rw [List.length_append,List.length_cons,List.length_nil] at this;omega⟩
theorem Zrm {N:Nat} {P:List R2} (hP:P.length<1048576) (hls:∀ x ∈ P,x.length≤1048576) (hN:1048576<N):∀ (n:Nat) (l:List Int),Vz P l→P.length<n+l.length→
  ∃ r,Zae N P n l=some r∧Vz P r∧Ws P r 0=none
 | 0,l,h,hn=>by have:=h.len;omega
 | n+1,l,h,hn=>by
  have hl:=h.len
  rw [Zml (by omega) hls (by omega) hN]
  cases hnx:Ws P l 0 with
  | none=>exact ⟨l,rfl,h,hnx⟩
  | some j=>
   obtain ⟨h1,h2⟩:=h.step hnx
   exact Zrm hP hls hN n _ h1 (by simp;omega)
theorem Zzq {N:Nat} {P:List R2} (hP:P.length<1048576) (hls:∀ x ∈ P,x.length≤1048576) (hN:1048576<N):∃ r,Sg N P=some r∧Vz P r∧Ws P r 0=none:=by
 rw [Sg]
 exact Zrm hP hls hN N [] ⟨.nil,by simp,by simp⟩ (by simp;omega)
def gD (h:List Int) (j:Nat):Int:=h.getD j 0
theorem T7 {h:List Int} {j:Nat} (hj:j<h.length):gD h j=h[j]:=by rw [gD,List.getD_eq_getElem?_getD,List.getElem?_eq_getElem hj];rfl
theorem Sr {h:List Int} {j:Nat} (hj:j<h.length):Zn h (j:Int)=some (gD h j):=by rw [Xb hj,T7 hj]
def Uu (h:List Int) (i p:Nat):List Int:=(h.set i (gD h p)).set p (gD h i)
theorem Zhs (h:List Int) (i p:Nat):(Uu h i p).length=h.length:=by simp [Uu]
theorem Zt8 {h:List Int} {i p:Nat} (hi:i<h.length) (hp:p<h.length):(Uu h i p).Perm h:=by
 rw [Uu,T7 hi,T7 hp];exact List.set_set_perm hi hp
theorem Zis (h:List Int) (i j:Nat) (x:Int) (hi:i<h.length):gD (h.set i x) j=if j=i then x else gD h j:=by
 rw [gD,gD,List.getD_eq_getElem?_getD,List.getD_eq_getElem?_getD,List.getElem?_set]
 by_cases h1:i=j
 ·subst h1;rw [if_pos rfl,if_pos hi,if_pos rfl];rfl
 ·rw [if_neg h1,if_neg (Ne.symm h1)]
theorem Zat {h:List Int} {i p:Nat} (hi:i<h.length) (hp:p<h.length) (j:Nat):gD (Uu h i p) j=if j=p then gD h i else if j=i then gD h p else gD h j:=by
 rw [Uu,Zis _ _ _ _ (by simpa using hp),Zis _ _ _ _ hi]
def U9 (h:List Int) (n:Nat):Prop:=∀ j,0<j→j<n→gD h ((j - 1) / 2)≤gD h j
theorem U9.min {h:List Int} {n:Nat} (hh:U9 h n):∀ j,j<n→gD h 0≤gD h j:=by
 intro j
 induction j using Nat.strongRecOn with
 | ind j ih=>
  intro hj
  by_cases h0:j=0
  ·subst h0;exact Int.le_refl _
  ·exact Int.le_trans (ih ((j - 1) / 2) (by omega) (by omega)) (hh j (by omega) hj)
/-! ### push -/
def Zh4 (h:List Int) (i:Nat):Prop:=(∀ j,0<j→j<h.length→j≠i→gD h ((j - 1) / 2)≤gD h j)∧∀ j,0<j→j<h.length→(j - 1) / 2=i→0<i→gD h ((i - 1) / 2)≤gD h j
theorem Zh4.step {h:List Int} {i:Nat} (hu:Zh4 h i) (hi:i<h.length) (h0:0<i) (hlt:gD h i<gD h ((i - 1) / 2)):Zh4 (Uu h i ((i - 1) / 2)) ((i - 1) / 2):=by
 have hp:(i - 1) / 2<h.length:=by omega
 refine ⟨fun j hj0 hj hjp=>?_,fun j hj0 hj hjp hp0=>?_⟩
 ·rw [Zhs] at hj
  rw [Zat hi hp,Zat hi hp,if_neg hjp]
  by_cases hji:j=i
  ·subst hji;rw [if_pos rfl,if_pos rfl];omega
  ·rw [if_neg hji]
   have h1:=hu.1 j hj0 hj hji
   by_cases hq:(j - 1) / 2=(i - 1) / 2
   ·rw [if_pos hq];rw [hq] at h1;omega
   ·rw [if_neg hq]
    by_cases hq2:(j - 1) / 2=i
    ·rw [if_pos hq2];exact hu.2 j hj0 hj hq2 h0
    ·rw [if_neg hq2];exact h1
 ·rw [Zhs] at hj
  rw [Zat hi hp,Zat hi hp,if_neg (by omega),if_neg (by omega),if_neg (by omega)]
  have h1:=hu.1 ((i - 1) / 2) hp0 hp (by omega)
  by_cases hji:j=i
  ·rw [if_pos hji];exact h1
  ·rw [if_neg hji]
   have h2:=hu.1 j hj0 hj hji
   rw [hjp] at h2;omega
theorem Zru {i:Nat} (h0:0<i) (h1:i≤9000000):i64.wrap (Int.tdiv (i64.wrap ((i:Int) - 1)) 2)=(((i - 1) / 2:Nat):Int):=by
 rw [Zy (x:=(i:Int) - 1) (by omega),Int.tdiv_eq_ediv_of_nonneg (by omega),Zy (by omega)];omega
theorem Zr5 (N:Nat):∀ (n:Nat) (h:List Int) (i:Nat),i<n→i<h.length→h.length≤9000000→Zh4 h i→
  ∃ h',Qu N n h (i:Int)=some h'∧h'.Perm h∧U9 h' h'.length
 | 0,h,i,hn,_,_,_=>by omega
 | n+1,h,i,hn,hi,hl,hu=>by
  rw [Qu.eq_2]
  by_cases h0:0<i
  ·have hp:(i - 1) / 2<h.length:=by omega
   rw [if_pos (decide_eq_true (by omega)),Sr hi,Option.bind_some,Zru h0 (by omega),Sr hp,Option.bind_some,Zdu,Zru h0 (by omega)]
   by_cases hlt:gD h i<gD h ((i - 1) / 2)
   ·obtain ⟨h',h1,h2,h3⟩:=Zr5 N n (Uu h i ((i - 1) / 2)) ((i - 1) / 2) (by omega) (by rw [Zhs];exact hp) (by rw [Zhs];exact hl) (hu.step hi h0 hlt)
    refine ⟨h',?_,h2.trans (Zt8 hi hp),h3⟩
    rw [if_pos (decide_eq_true hlt),Sr hp,Option.bind_some,Sr hi,Option.bind_some,Option.bind_some,Int.toNat_natCast,Int.toNat_natCast,Xb (by simpa using hp),Option.bind_some,Option.bind_some]
    exact h1
   ·refine ⟨h,by rw [if_neg (by simpa using hlt)],.refl _,fun j hj0 hj=>?_⟩
    by_cases hji:j=i
    ·subst hji;omega
    ·exact hu.1 j hj0 hj hji
  ·have:i=0:=by omega
   subst this
   rw [if_neg (by decide),Zdu,if_neg (by decide)]
   exact ⟨h,rfl,.refl _,fun j hj0 hj=>hu.1 j hj0 hj (by omega)⟩
theorem Zpq {h:List Int} {x:Int} {j:Nat} (hj:j<h.length):gD (h++[x]) j=gD h j:=by
 rw [T7 hj,T7 (by simp;omega),List.getElem_append_left hj]
theorem Zr6 {N:Nat} {h:List Int} (x:Int) (hl:h.length<2000000) (hh:U9 h h.length) (hN:2000000<N):∃ h',Zdt N h x=some h'∧h'.Perm (x :: h)∧U9 h' h'.length:=by
 rw [Zdt,Xd (by simp only [List.length_cons,List.length_nil,maxLen];omega)]
 have hle:(h++[x]).length=h.length+1:=by simp
 rw [Zy (by omega),show (((h++[x]).length:Int) - 1)=((h.length:Nat):Int) by omega]
 obtain ⟨h',h1,h2,h3⟩:=Zr5 N N (h++[x]) h.length (by omega) (by omega) (by omega) ⟨fun j hj0 hj hji=>by rw [Zpq (by omega),Zpq (by omega)];exact hh j hj0 (by omega),fun j hj0 hj hji h0=>by omega⟩
 exact ⟨h',h1,h2.trans (List.perm_append_singleton x h),h3⟩
/-! ### pop -/
def Zfi (l:List Int) (n i:Nat):Prop:=(∀ j,0<j→j<n→(j - 1) / 2≠i→gD l ((j - 1) / 2)≤gD l j)∧∀ j,0<j→j<n→(j - 1) / 2=i→0<i→gD l ((i - 1) / 2)≤gD l j
theorem Zfi.step {l:List Int} {n i q:Nat} (hu:Zfi l n i) (hn:n≤l.length) (hi:i<n) (hq:q<n) (hqi:(q - 1) / 2=i) (hq0:0<q) (hlt:gD l q<gD l i) (hle:∀ j,0<j→j<n→(j - 1) / 2=i→gD l q≤gD l j):Zfi (Uu l i q) n q:=by
 have hi':i<l.length:=by omega
 have hq':q<l.length:=by omega
 refine ⟨fun j hj0 hj hjp=>?_,fun j hj0 hj hjp _=>?_⟩
 ·rw [Zat hi' hq',Zat hi' hq',if_neg hjp]
  by_cases h1:(j - 1) / 2=i
  ·rw [if_pos h1]
   by_cases h2:j=q
   ·rw [if_pos h2];omega
   ·rw [if_neg h2,if_neg (by omega)];exact hle j hj0 hj h1
  ·rw [if_neg h1,if_neg (show j≠q by omega)]
   by_cases h2:j=i
   ·subst h2
    rw [if_pos rfl];exact hu.2 q hq0 hq hqi hj0
   ·rw [if_neg h2];exact hu.1 j hj0 hj h1
 ·rw [Zat hi' hq',Zat hi' hq',hqi,if_neg (by omega),if_pos rfl,if_neg (by omega),if_neg (by omega)]
  have:=hu.1 j hj0 hj (by omega)
  rwa [hjp] at this
theorem Z1d {l:List Int} {n i q:Nat} (hn:n≤l.length) (hi:i<n) (hq:q<n):(Uu l i q).take n=Uu (l.take n) i q:=by
 have h1:∀ j,j<n→gD (l.take n) j=gD l j:=fun j hj=>by rw [T7 (by simp;omega),T7 (by omega),List.getElem_take]
 rw [Uu,Uu,List.take_set,List.take_set,h1 i hi,h1 q hq]
theorem Zr1 (N:Nat) (p0:List Int) (x0:Int) (n:Nat) (hp0:p0.length=n+1) (hn:n≤2000000) (hN:2000000<N):∀ (m:Nat) (l:List Int) (i:Nat),n<m+i→(i<n∨n=0∧i=0)→l.length=n+1→Zfi l n i→
  ∃ t,Tl N p0 x0 m l (i:Int)=some (x0,t)∧t.Perm (l.take n)∧U9 t n
 | 0,l,i,hm,hi,hl,hu=>by omega
 | m+1,l,i,hm,hi,hl,hu=>by
  rw [Tl.eq_2]
  obtain ⟨N,rfl⟩:∃ N',N=N'+1+1+1:=⟨N - 3,by omega⟩
  have w1:i64.wrap ((p0.length:Int) - 1)=(n:Int):=by rw [Zy (by omega)];omega
  have wa:i64.wrap (i64.wrap (2 * (i:Int))+1)=((2 * i+1:Nat):Int):=by rw [Zy (x:=2 * (i:Int)) (by omega),Zy (by omega)];omega
  have wb:i64.wrap (i64.wrap (2 * (i:Int))+2)=((2 * i+2:Nat):Int):=by rw [Zy (x:=2 * (i:Int)) (by omega),Zy (by omega)];omega
  -- one child after the other
  have stepv:∀ (v:Nat) (k least:Nat),v<2→k=2 * i+1+v→(least<n∨n=0)→least<l.length→∀ f kk,Tm (N+1+1+1) p0 x0 l (i:Int) kk (f+1) (v:Int) (least:Int)=
    Tm (N+1+1+1) p0 x0 l (i:Int) kk f ((v+1:Nat):Int) ((if k<n∧gD l k<gD l least then k else least:Nat):Int):=by
   intro v k least hv hk hle hll f kk
   rw [Tm.eq_2,if_pos (decide_eq_true (by omega)),wa,wb,w1]
   have hat:Zn [((2 * i+1:Nat):Int),((2 * i+2:Nat):Int)] (v:Int)=some (k:Int):=by
    rw [Zdb]
    match v,hv with
    | 0,_=>simp [hk]
    | 1,_=>simp [hk];omega
   rw [hat,Option.bind_some]
   by_cases h1:k<n
   ·rw [if_pos (decide_eq_true (by omega)),Sr (by omega),Option.bind_some,Sr hll,Option.bind_some,Zds,Zax,Zax,wS (by omega)]
    by_cases h2:gD l k<gD l least
    ·rw [if_pos (decide_eq_true h2),if_pos ⟨h1,h2⟩]
    ·rw [if_neg (by simpa using h2),if_neg (fun h=>h2 h.2)]
   ·rw [if_neg (by rw [decide_eq_true_eq];omega),Zds,Zax,Zax,if_neg (by decide),wS (by omega),if_neg (fun h=>h1 h.1)]
  have hil:i<l.length:=by omega
  have e1:=stepv 0 (2 * i+1) i (by omega) (by omega) (by omega) hil (N+1+1) (Tl (N+1+1+1) p0 x0 m)
  generalize hq1:(if 2 * i+1<n∧gD l (2 * i+1)<gD l i then 2 * i+1 else i)=q1 at e1
  have hq1':(q1=i∧(2 * i+1<n→gD l i≤gD l (2 * i+1)))∨(q1=2 * i+1∧q1<n∧gD l q1<gD l i):=by
   by_cases hc:2 * i+1<n∧gD l (2 * i+1)<gD l i
   ·rw [if_pos hc] at hq1;subst hq1;exact .inr ⟨rfl,hc.1,hc.2⟩
   ·rw [if_neg hc] at hq1;subst hq1;exact .inl ⟨rfl,fun h=>by omega⟩
  have e2:=stepv 1 (2 * i+2) q1 (by omega) (by omega) (by omega) (by omega) (N+1) (Tl (N+1+1+1) p0 x0 m)
  generalize hq2:(if 2 * i+2<n∧gD l (2 * i+2)<gD l q1 then 2 * i+2 else q1)=q2 at e2
  have hq2':(q2=i∧(2 * i+1<n→gD l i≤gD l (2 * i+1))∧(2 * i+2<n→gD l i≤gD l (2 * i+2)))∨((q2=2 * i+1∨q2=2 * i+2)∧q2<n∧gD l q2<gD l i∧(2 * i+1<n→gD l q2≤gD l (2 * i+1))∧(2 * i+2<n→gD l q2≤gD l (2 * i+2))):=by
   by_cases hc:2 * i+2<n∧gD l (2 * i+2)<gD l q1
   ·rw [if_pos hc] at hq2;subst hq2
    rcases hq1' with ⟨rfl,h3⟩ | ⟨rfl,h3,h4⟩
    ·exact .inr ⟨.inr rfl,hc.1,hc.2,fun h=>by have:=h3 h;omega,fun _=>Int.le_refl _⟩
    ·exact .inr ⟨.inr rfl,hc.1,by omega,fun _=>by omega,fun _=>Int.le_refl _⟩
   ·rw [if_neg hc] at hq2;subst hq2
    rcases hq1' with ⟨rfl,h3⟩ | ⟨rfl,h3,h4⟩
    ·exact .inl ⟨rfl,h3,fun h=>by omega⟩
    ·exact .inr ⟨.inl rfl,h3,h4,fun _=>Int.le_refl _,fun h=>by omega⟩
  rw [show (0:Int)=((0:Nat):Int) from rfl,e1]
  rw [show ((0+1:Nat):Int)=((1:Nat):Int) from rfl,e2,Tm.eq_2,if_neg (by decide),w1,Int.toNat_natCast]
  rcases hq2' with ⟨rfl,h3,h4⟩ | ⟨h2,h3,h4,h5,h6⟩
  ·rw [if_pos (by simp)]
   refine ⟨_,rfl,.refl _,fun j hj0 hj=>?_⟩
   have ht:∀ k,k<n→gD (l.take n) k=gD l k:=fun k hk=>by rw [T7 (by simp;omega),T7 (by omega),List.getElem_take]
   rw [ht _ (by omega),ht _ hj]
   by_cases hq:(j - 1) / 2=q2
   ·rw [hq]
    rcases (show j=2 * q2+1∨j=2 * q2+2 by omega) with rfl | rfl
    ·exact h3 hj
    ·exact h4 hj
   ·exact hu.1 j hj0 hj hq
  ·have hq2l:q2<l.length:=by omega
   have hin:i<n:=by omega
   have hd:=hu.step (by omega) hin h3 (by omega) (by omega) h4 (fun j hj0 hj hji=>by
    rcases (show j=2 * i+1∨j=2 * i+2 by omega) with rfl | rfl
    ·exact h5 hj
    ·exact h6 hj)
   obtain ⟨t,k1,k2,k3⟩:=Zr1 (N+1+1+1) p0 x0 n hp0 hn hN m (Uu l i q2) q2 (by omega) (.inl h3) (by rw [Zhs];exact hl) hd
   refine ⟨t,?_,k2.trans ?_,k3⟩
   ·rw [if_neg (by simp;omega),Sr hq2l,Option.bind_some,Sr hil,Option.bind_some,Option.bind_some,Int.toNat_natCast,Int.toNat_natCast,Xb (by simpa using hq2l),Option.bind_some,Option.bind_some]
    exact k1
   ·rw [Z1d (by omega) hin h3];exact Zt8 (by simp;omega) (by simp;omega)
theorem Zzu {N:Nat} {h:List Int} (hl:h.length≤2000000) (h0:0<h.length) (hh:U9 h h.length) (hN:2000000<N):∃ x t,Zfx N h=some (x,t)∧h.Perm (x :: t)∧(∀ y ∈ h,x≤y)∧U9 t t.length:=by
 rw [Zfx]
 obtain ⟨n,hn⟩:∃ n,h.length=n+1:=⟨h.length - 1,by omega⟩
 have w1:i64.wrap ((h.length:Int) - 1)=(n:Int):=by rw [Zy (by omega)];omega
 rw [w1,show (0:Int)=((0:Nat):Int) from rfl,Sr h0,Option.bind_some,Sr (by omega),Option.bind_some,Option.bind_some,Xd (by simp;omega),Int.toNat_natCast]
 have hd:Zfi (h.set 0 (gD h n)) n 0:=by
  refine ⟨fun j hj0 hj hji=>?_,fun j _ _ _ h=>by omega⟩
  rw [Zis _ _ _ _ h0,Zis _ _ _ _ h0,if_neg (by omega),if_neg (by omega)]
  exact hh j hj0 (by omega)
 obtain ⟨t,h1,h2,h3⟩:=Zr1 N h (gD h 0) n hn (by omega) hN N (h.set 0 (gD h n)) 0 (by omega) (by omega) (by simpa using hn) hd
 have hpm:h.Perm (gD h 0 :: (h.set 0 (gD h n)).take n):=by
  match h,hn with
  | x :: r,hn=>
   have hr:r.length=n:=by simpa using hn
   match n,hr with
   | 0,hr=>rw [List.length_eq_zero_iff.1 hr];exact .refl _
   | n+1,hr=>
    have e:gD (x :: r) (n+1)=gD r n:=rfl
    rw [e,List.set_cons_zero,List.take_succ_cons]
    refine List.Perm.cons x ?_
    have:r=r.take n++[gD r n]:=by
     have:=List.take_succ_eq_append_getElem (show n<r.length by omega)
     rw [List.take_of_length_le (by omega)] at this
     rw [T7 (by omega)];exact this
    conv=>lhs;rw [this]
    exact List.perm_append_singleton _ _
 have hp2:h.Perm (gD h 0 :: t):=hpm.trans (List.Perm.cons _ h2.symm)
 refine ⟨gD h 0,t,h1,hp2,fun y hy=>?_,?_⟩
 ·obtain ⟨j,hj,rfl⟩:=List.getElem_of_mem hy
  rw [← T7 hj];exact hh.min j hj
 ·have:=hp2.length_eq
  rw [List.length_cons,hn] at this
  rw [show t.length=n by omega];exact h3
theorem Yl {α:Type} {l:List α} {d:α} {j:Nat} (hj:j<l.length):l.getD j d=l[j]:=by rw [List.getD_eq_getElem?_getD,List.getElem?_eq_getElem hj];rfl
theorem T3 {α:Type} {l:List α} (d:α) {j:Nat} (hj:j<l.length):Zn l (j:Int)=some (l.getD j d):=by rw [Xb hj,Yl hj]
theorem Uq {α:Type} (l:List α) (d:α) (i j:Nat) (x:α) (hi:i<l.length):(l.set i x).getD j d=if j=i then x else l.getD j d:=by
 rw [List.getD_eq_getElem?_getD,List.getD_eq_getElem?_getD,List.getElem?_set]
 by_cases h1:i=j
 ·subst h1;rw [if_pos rfl,if_pos hi,if_pos rfl];rfl
 ·rw [if_neg h1,if_neg (Ne.symm h1)]
def Vg:Nat→List R2→Int→List Int
 | _,[],_=>[]
 | k,l :: P,p=>List.replicate (l.count p) (k:Int)++Vg (k+1) P p
def Zhy (n:Nat) (l:List Int):Prop:=∀ x ∈ l,0≤x∧x<(n:Int)
theorem Zok (k:Nat) (kk:Nat→List R2→Option R9):∀ (l:List Int) (out:List R2),Zhy out.length l→(∀ p:Nat,(out.getD p []).length+l.length≤1048576)→
  ∃ out',Zav k kk l out=kk (k+1) out'∧out'.length=out.length∧∀ p:Nat,p<out.length→out'.getD p []=out.getD p []++List.replicate (l.count (p:Int)) (k:Int)
 | [],out,h,hb=>⟨out,by rw [Zav.eq_1],rfl,fun p hp=>by simp⟩
 | x :: l,out,h,hb=>by
  obtain ⟨h0,h1⟩:=h x List.mem_cons_self
  obtain ⟨q,rfl⟩:=Int.eq_ofNat_of_zero_le h0
  have hq:q<out.length:=by omega
  have hbq:=hb q
  simp only [List.length_cons] at hbq hb
  rw [Zav.eq_2,T3 [] hq,Option.bind_some,Xd (by simp only [List.length_cons,List.length_nil,maxLen];omega),Int.toNat_natCast]
  obtain ⟨out',h2,h3,h4⟩:=Zok k kk l (out.set q (out.getD q []++[(k:Int)])) (by rw [List.length_set];exact fun y hy=>h y (List.mem_cons_of_mem _ hy)) (fun p=>by
   rw [Uq _ _ _ _ _ hq]
   have:=hb p
   split
   ·simp only [List.length_append,List.length_cons,List.length_nil];omega
   ·omega)
  refine ⟨out',h2,by rw [h3,List.length_set],fun p hp=>?_⟩
  rw [h4 p (by rw [List.length_set];exact hp),Uq _ _ _ _ _ hq,List.count_cons]
  by_cases hpq:p=q
  ·subst hpq
   rw [if_pos rfl,if_pos (by simp),List.append_assoc,show l.count (p:Int)+1=1+l.count (p:Int) by omega,show [(k:Int)]=List.replicate 1 (k:Int) from rfl,List.replicate_append_replicate]
  ·rw [if_neg hpq,if_neg (by simp;omega),Nat.add_zero]
theorem Zp5 (p:Int):∀ (k:Nat) (P:List R2),(Vg k P p).length≤Ui P
 | _,[]=>by simp [Vg]
 | k,l :: P=>by
  rw [Vg,List.length_append,List.length_replicate,Zht]
  have:=Zp5 p (k+1) P
  have:=List.count_le_length (a:=p) (l:=l)
  omega
theorem Zoj (n:Nat):∀ (P:List R2) (k:Nat) (out:List R2),out.length=n→(∀ l ∈ P,Zhy n l)→(∀ p:Nat,(out.getD p []).length+Ui P≤1048576)→
  ∃ out',S0 P k out=some out'∧out'.length=n∧∀ p:Nat,p<n→out'.getD p []=out.getD p []++Vg k P p
 | [],k,out,hn,_,_=>⟨out,by rw [S0.eq_1],hn,fun p hp=>by simp [Vg]⟩
 | l :: P,k,out,hn,h,hb=>by
  simp only [Zht] at hb
  rw [S0.eq_2]
  obtain ⟨out1,h1,h2,h3⟩:=Zok k (S0 P) l out (by rw [hn];exact h l List.mem_cons_self) (fun p=>by have:=hb p;omega)
  obtain ⟨out',h4,h5,h6⟩:=Zoj n P (k+1) out1 (by omega) (fun x hx=>h x (List.mem_cons_of_mem _ hx)) (fun p=>by
   have:=hb p
   by_cases hp:p<out.length
   ·rw [h3 p hp,List.length_append,List.length_replicate]
    have:=List.count_le_length (a:=(p:Int)) (l:=l)
    omega
   ·rw [List.getD_eq_getElem?_getD,List.getElem?_eq_none (by omega)];simp;omega)
  refine ⟨out',by rw [h1,h4],h5,fun p hp=>?_⟩
  rw [h6 p hp,h3 p (by omega),List.append_assoc,Vg]
theorem Zwx {P:List R2} (hP:P.length≤1048576) (ht:Ui P≤1048576) (h:∀ l ∈ P,Zhy P.length l):∃ D,Zdp P=some D∧D.length=P.length∧∀ p:Nat,p<P.length→D.getD p []=Vg 0 P p:=by
 rw [Zdp,Xd (by simp only [maxLen];omega)]
 have hr:∀ p:Nat,(List.replicate P.length ([]:List Int)).getD p []=[]:=fun p=>by
  rw [List.getD_eq_getElem?_getD,List.getElem?_replicate];split <;> rfl
 obtain ⟨D,h1,h2,h3⟩:=Zoj P.length P 0 (List.replicate P.length []) (by simp) h (fun p=>by rw [hr];simpa using ht)
 exact ⟨D,h1,h2,fun p hp=>by rw [h3 p hp,hr];rfl⟩
theorem Zln (p:Int):∀ (k:Nat) (P:List R2) (c:Nat),(Vg k P p).count (c:Int)=if k≤c then (P.getD (c - k) []).count p else 0
 | k,[],c=>by simp [Vg]
 | k,l :: P,c=>by
  rw [Vg,List.count_append,Zln p (k+1) P c,List.count_replicate]
  by_cases h1:k=c
  ·subst h1
   rw [if_pos (by simp),if_neg (by omega),if_pos (Nat.le_refl _),Nat.sub_self];rfl
  ·rw [if_neg (by simp;omega)]
   by_cases h2:k≤c
   ·rw [if_pos (by omega),if_pos h2,show c - k=(c - (k+1))+1 by omega];simp
   ·rw [if_neg (by omega),if_neg h2]
theorem Zp6 (p:Int):∀ (k:Nat) (P:List R2) (x:Int),x ∈ Vg k P p→∃ c:Nat,x=(c:Int)∧k≤c∧c<k+P.length
 | k,[],x,h=>by simp [Vg] at h
 | k,l :: P,x,h=>by
  rw [Vg] at h
  rcases List.mem_append.1 h with h | h
  ·exact ⟨k,(List.mem_replicate.1 h).2,Nat.le_refl _,by simp⟩
  ·obtain ⟨c,h1,h2,h3⟩:=Zp6 p (k+1) P x h
   exact ⟨c,h1,by omega,by rw [List.length_cons];omega⟩
def Ux (P:List R2) (out:List Int) (c:Nat):Nat:=(P.getD c []).countP fun q=>!decide (q ∈ out)
theorem Zoq (out:List Int) (p:Int) (hp:p ∉ out):∀ l:List Int,(l.countP fun q=>!decide (q ∈ out))=(l.countP fun q=>!decide (q ∈ out++[p]))+l.count p
 | []=>rfl
 | x :: l=>by
  rw [List.countP_cons,List.countP_cons,List.count_cons,Zoq out p hp l]
  by_cases h1:x=p
  ·subst h1
   have h2:(!decide (x ∈ out))=true:=by simp [hp]
   have h3:(!decide (x ∈ out++[x]))=false:=by simp
   rw [h2,h3];simp;omega
  ·have h3:(x ∈ out++[p])↔x ∈ out:=by simp [h1]
   rw [show (!decide (x ∈ out++[p]))=(!decide (x ∈ out)) from congrArg _ (decide_eq_decide.2 h3),if_neg (show ¬ ((x==p)=true) by simpa using h1)];omega
theorem Zon {P:List R2} {out:List Int} {p:Int} (hp:p ∉ out) (c:Nat):Ux P out c=Ux P (out++[p]) c+(P.getD c []).count p:=Zoq out p hp _
theorem Zsy (P:List R2) (out:List Int) (c:Nat):Us P out c=true↔(c:Int) ∉ out∧Ux P out c=0:=by
 rw [Us,Ux,List.countP_eq_zero]
 simp
structure Zhz (P:List R2) (out left ready:List Int):Prop where
 ok:Vz P out
 len:left.length=P.length
 cnt:∀ c:Nat,c<P.length→left.getD c 0=(Ux P out c:Int)
 heap:U9 ready ready.length
 nd:ready.Nodup
 mem:∀ y:Int,y ∈ ready↔∃ c:Nat,c<P.length∧y=(c:Int)∧(c:Int) ∉ out∧left.getD c 0=0
theorem Znc (N:Nat) (P:List R2) (hP:P.length≤1048576) (ht:Ui P≤1048576) (hN:2000000<N) (out:List Int) (p:Nat) (r2:List Int) (kk:List Int→List Int→List Int→Option R2):
  ∀ (rest left ready:List Int),rest.length≤9000000000000000000→left.length=P.length→(∀ c:Nat,c<P.length→left.getD c 0=((Ux P (out++[(p:Int)]) c+rest.count (c:Int):Nat):Int))→
   U9 ready ready.length→ready.Nodup→(∀ y:Int,y ∈ ready↔∃ c:Nat,c<P.length∧y=(c:Int)∧(c:Int) ∉ out++[(p:Int)]∧left.getD c 0=0)→
   (∀ x ∈ rest,∃ c:Nat,c<P.length∧x=(c:Int)∧x ∉ out++[(p:Int)])→
   ∃ left' ready',S6 N out kk ((p:Int),r2) rest left ready=kk left' ready' (out++[(p:Int)])∧left'.length=P.length∧(∀ c:Nat,c<P.length→left'.getD c 0=(Ux P (out++[(p:Int)]) c:Int))∧
    U9 ready' ready'.length∧ready'.Nodup∧∀ y:Int,y ∈ ready'↔∃ c:Nat,c<P.length∧y=(c:Int)∧(c:Int) ∉ out++[(p:Int)]∧left'.getD c 0=0
 | [],left,ready,_,h1,h2,h3,h4,h5,_=>⟨left,ready,by rw [S6.eq_1],h1,fun c hc=>by rw [h2 c hc];simp,h3,h4,h5⟩
 | x :: rest,left,ready,hrest,h1,h2,h3,h4,h5,h6=>by
  obtain ⟨c0,hc0,rfl,hx⟩:=h6 x List.mem_cons_self
  have hc0l:c0<left.length:=by omega
  have hcx:=h2 c0 hc0
  rw [List.count_cons,if_pos (by simp)] at hcx
  have hle:Ux P (out++[(p:Int)]) c0≤1048576:=by
   have h7:=List.countP_le_length (p:=fun q=>!decide (q ∈ out++[(p:Int)])) (l:=P.getD c0 [])
   rw [Yl hc0] at h7
   have h8:=Zke (P:=P) (List.getElem_mem hc0)
   rw [Ux,Yl hc0];omega
  have hrl:ready.length≤P.length:=by
   have h7:=Ze8 (r:=(List.range P.length).map fun i:Nat=>(i:Int)) h4 fun y hy=>by
    obtain ⟨c,h8,h9,_⟩:=(h5 y).1 hy
    exact List.mem_map.2 ⟨c,List.mem_range.2 h8,h9.symm⟩
   simpa using h7
  have hv:i64.wrap (left.getD c0 0 - 1)=((Ux P (out++[(p:Int)]) c0+rest.count (c0:Int):Nat):Int):=by
   have h9:=List.count_le_length (a:=(c0:Int)) (l:=rest)
   rw [hcx,Zy]
   ·omega
   ·simp only [List.length_cons] at hrest
    omega
  have hl1:∀ c:Nat,c<P.length→(left.set c0 (i64.wrap (left.getD c0 0 - 1))).getD c 0=((Ux P (out++[(p:Int)]) c+rest.count (c:Int):Nat):Int):=fun c hc=>by
   rw [Uq _ _ _ _ _ hc0l]
   by_cases hcc:c=c0
   ·subst hcc;rw [if_pos rfl,hv]
   ·rw [if_neg hcc,h2 c hc,List.count_cons,if_neg (by simp;omega),Nat.add_zero]
  have hne:left.getD c0 0≠0:=by rw [hcx];omega
  have hnr:(c0:Int) ∉ ready:=fun h=>by
   obtain ⟨c,h8,h9,_,h10⟩:=(h5 _).1 h
   have:c=c0:=by omega
   subst this;exact hne h10
  have h6':∀ x ∈ rest,∃ c:Nat,c<P.length∧x=(c:Int)∧x ∉ out++[(p:Int)]:=fun x hx=>h6 x (List.mem_cons_of_mem _ hx)
  have hr':rest.length≤9000000000000000000:=by simp only [List.length_cons] at hrest;omega
  rw [S6.eq_2,T3 0 hc0l,Option.bind_some,Option.bind_some,Int.toNat_natCast,T3 0 (by rw [List.length_set];exact hc0l),Option.bind_some,Zdw,Uq _ _ _ _ _ hc0l,if_pos rfl]
  by_cases hz:i64.wrap (left.getD c0 0 - 1)=0
  ·obtain ⟨ready1,k1,k2,k3⟩:=Zr6 (N:=N) (c0:Int) (by omega:ready.length<2000000) h3 hN
   rw [if_pos (by simpa using hz),k1,Option.bind_some,Zdw]
   refine Znc N P hP ht hN out p r2 kk rest _ ready1 hr' (by rw [List.length_set];exact h1) hl1 k3 (k2.nodup_iff.2 (List.nodup_cons.2 ⟨hnr,h4⟩)) (fun y=>?_) h6'
   rw [k2.mem_iff,List.mem_cons]
   constructor
   ·rintro (rfl | hy)
    ·exact ⟨c0,hc0,rfl,hx,by rw [Uq _ _ _ _ _ hc0l,if_pos rfl,hz]⟩
    ·obtain ⟨c,h8,h9,h10,h11⟩:=(h5 y).1 hy
     refine ⟨c,h8,h9,h10,?_⟩
     rw [Uq _ _ _ _ _ hc0l]
     split
     ·exact hz
     ·exact h11
   ·rintro ⟨c,h8,h9,h10,h11⟩
    by_cases hcc:c=c0
    ·subst hcc;exact .inl h9
    ·rw [Uq _ _ _ _ _ hc0l,if_neg hcc] at h11
     exact .inr ((h5 y).2 ⟨c,h8,h9,h10,h11⟩)
  ·rw [if_neg (by simpa using hz)]
   refine Znc N P hP ht hN out p r2 kk rest _ ready hr' (by rw [List.length_set];exact h1) hl1 h3 h4 (fun y=>?_) h6'
   rw [h5 y]
   constructor
   ·rintro ⟨c,h8,h9,h10,h11⟩
    refine ⟨c,h8,h9,h10,?_⟩
    rw [Uq _ _ _ _ _ hc0l,if_neg (fun h=>hne (by rw [← h];exact h11))];exact h11
   ·rintro ⟨c,h8,h9,h10,h11⟩
    refine ⟨c,h8,h9,h10,?_⟩
    rw [Uq _ _ _ _ _ hc0l] at h11
    split at h11
    ·exact absurd h11 hz
    ·exact h11
theorem Z09 {N:Nat} {P D:List R2} (hP:P.length≤1048576) (ht:Ui P≤1048576) (hN:2000000<N) (hD:D.length=P.length) (hDk:∀ p:Nat,p<P.length→D.getD p []=Vg 0 P p) {out left ready:List Int} (hi:Zhz P out left ready) (n:Nat):
  (Ws P out 0=none→Ua N D (n+1) left ready out=some out)∧
  ∀ p,Ws P out 0=some p→∃ left' ready',Zhz P (out++[(p:Int)]) left' ready'∧Ua N D (n+1) left ready out=Ua N D n left' ready' (out++[(p:Int)]):=by
 have hrl:ready.length≤P.length:=by
  have h7:=Ze8 (r:=(List.range P.length).map fun i:Nat=>(i:Int)) hi.nd fun y hy=>by
   obtain ⟨c,h8,h9,_⟩:=(hi.mem y).1 hy
   exact List.mem_map.2 ⟨c,List.mem_range.2 h8,h9.symm⟩
  simpa using h7
 have hrd:∀ c:Nat,c<P.length→(Us P out c=true↔(c:Int) ∈ ready):=fun c hc=>by
  rw [Zsy,hi.mem]
  constructor
  ·rintro ⟨h1,h2⟩;exact ⟨c,hc,rfl,h1,by rw [hi.cnt c hc,h2];rfl⟩
  ·rintro ⟨c',h1,h2,h3,h4⟩
   have:c'=c:=by omega
   subst this
   rw [hi.cnt c' h1] at h4
   exact ⟨h3,by omega⟩
 refine ⟨fun hn=>?_,fun p hn=>?_⟩
 ·have h0:ready=[]:=by
   cases hr:ready with
   | nil=>rfl
   | cons y l=>
    obtain ⟨c,h1,h2,_⟩:=(hi.mem y).1 (by rw [hr];exact List.mem_cons_self)
    have h3:=Zzg hn c (Nat.zero_le _) h1
    have h4:=(hrd c h1).2 (by rw [← h2,hr];exact List.mem_cons_self)
    rw [h3] at h4;cases h4
  rw [Ua.eq_2,h0,if_neg (by decide)]
 ·obtain ⟨_,hp,hr,hmin⟩:=Zmg hn
  have hpr:=(hrd p hp).1 hr
  have hpos:0<ready.length:=List.length_pos_of_mem hpr
  obtain ⟨x,t,k1,k2,k3,k4⟩:=Zzu (N:=N) (by omega:ready.length≤2000000) hpos hi.heap hN
  have hxr:x ∈ ready:=k2.mem_iff.2 List.mem_cons_self
  have hxp:x=(p:Int):=by
   obtain ⟨c,h1,h2,_⟩:=(hi.mem x).1 hxr
   have h3:=k3 _ hpr
   have h4:¬ c<p:=fun hlt=>by
    have h5:=hmin c (Nat.zero_le _) hlt
    have h6:=(hrd c h1).2 (by rw [← h2];exact hxr)
    rw [h5] at h6;cases h6
   omega
  subst hxp
  have hnd:((p:Int) :: t).Nodup:=k2.nodup_iff.1 hi.nd
  obtain ⟨hp1,hp2⟩:=(Zsy P out p).1 hr
  obtain ⟨hok,hlt⟩:=hi.ok.step hn
  have hol:=hi.ok.len
  have hself:(P.getD p []).count (p:Int)=0:=by have:=Zon (P:=P) hp1 p;omega
  rw [Ua.eq_2,if_pos (decide_eq_true (by omega)),k1,Option.bind_some,Xd (by simp only [List.length_cons,List.length_nil,maxLen];omega),T3 [] (by rw [hD];exact hp),Option.bind_some,hDk p hp]
  have hkl:=Zp5 (p:Int) 0 P
  obtain ⟨left',ready',h1,h2,h3,h4,h5,h6⟩:=Znc N P hP ht hN out p t (Ua N D n) (Vg 0 P p) left t (by omega) hi.len (fun c hc=>by
    rw [hi.cnt c hc,Zon hp1 c,Zln (p:Int) 0 P c,if_pos (Nat.zero_le _),Nat.sub_zero]) k4 (List.nodup_cons.1 hnd).2 (fun y=>by
    have h7:y ∈ t↔y ∈ ready∧y≠(p:Int):=by
     rw [k2.mem_iff,List.mem_cons]
     exact ⟨fun h=>⟨.inr h,fun e=>(List.nodup_cons.1 hnd).1 (by rw [← e];exact h)⟩,fun h=>h.1.resolve_left h.2⟩
    rw [h7,hi.mem]
    constructor
    ·rintro ⟨⟨c,h8,h9,h10,h11⟩,h12⟩
     exact ⟨c,h8,h9,by rw [List.mem_append,List.mem_singleton];exact fun h=>h.elim h10 fun h=>h12 (by rw [h9,h]),h11⟩
    ·rintro ⟨c,h8,h9,h10,h11⟩
     rw [List.mem_append,List.mem_singleton] at h10
     exact ⟨⟨c,h8,h9,fun h=>h10 (.inl h),h11⟩,fun h=>h10 (.inr (by rw [← h9,h]))⟩) (fun x hx=>by
    obtain ⟨c,h7,_,h8⟩:=Zp6 (p:Int) 0 P x hx
    have h8:c<P.length:=by omega
    have h9:=Zln (p:Int) 0 P c
    rw [if_pos (Nat.zero_le _),Nat.sub_zero] at h9
    have h10:0<(P.getD c []).count (p:Int):=by rw [← h9,← h7];exact List.count_pos_iff.2 hx
    refine ⟨c,h8,h7,fun h=>?_⟩
    rcases List.mem_append.1 h with h | h
    ·rw [h7] at h
     have h11:=hi.ok.2.2 c h8 h (p:Int) (by rw [Yl h8] at h10;exact List.count_pos_iff.1 h10)
     exact hp1 h11
    ·rw [List.mem_singleton] at h
     have:c=p:=by omega
     subst this
     omega)
  exact ⟨left',ready',⟨hok,h2,h3,h4,h5,h6⟩,h1⟩
theorem Ztt {N:Nat} {P D:List R2} (hP:P.length<1048576) (hls:∀ x ∈ P,x.length≤1048576) (ht:Ui P≤1048576) (hN:2000000<N) (hD:D.length=P.length) (hDk:∀ p:Nat,p<P.length→D.getD p []=Vg 0 P p):∀ (n:Nat) (out left ready:List Int),Zhz P out left ready→P.length<n+out.length→
  Ua N D n left ready out=Zae N P n out
 | 0,out,left,ready,hi,hn=>by have:=hi.ok.len;omega
 | n+1,out,left,ready,hi,hn=>by
  have hl:=hi.ok.len
  obtain ⟨h1,h2⟩:=Z09 (N:=N) (by omega) ht hN hD hDk hi n
  rw [Zml (by omega) hls (by omega) (by omega)]
  cases hnx:Ws P out 0 with
  | none=>rw [h1 hnx];rfl
  | some p=>
   obtain ⟨left',ready',h3,h4⟩:=h2 p hnx
   rw [h4]
   exact Ztt hP hls ht hN hD hDk n _ _ _ h3 (by simp;omega)
theorem Znb {N:Nat} (P D:List R2) (hP:P.length<1048576) (hN:2000000<N) (hl:∀ l ∈ P,l.length≤1048576):∀ (Q:List R2) (k:Nat) (left ready:List Int),P.drop k=Q→k≤P.length→left.length=P.length→
  (∀ c:Nat,c<k→left.getD c 0=((P.getD c []).length:Int))→U9 ready ready.length→ready.Nodup→(∀ y:Int,y ∈ ready↔∃ c:Nat,c<k∧y=(c:Int)∧(P.getD c []).length=0)→
  ∃ left' ready',S5 N D Q k left ready=Ua N D N left' ready' []∧Zhz P [] left' ready'
 | [],k,left,ready,hQ,hk,h1,h2,h3,h4,h5=>by
  have hkP:k=P.length:=by have:=congrArg List.length hQ;simp at this;omega
  subst hkP
  have hc0:∀ c,Ux P [] c=(P.getD c []).length:=fun c=>by
   rw [Ux,List.countP_eq_length.2 (fun a _=>by simp)]
  refine ⟨left,ready,by rw [S5.eq_1],⟨⟨.nil,by simp,by simp⟩,h1,fun c hc=>by rw [h2 c hc,hc0],h3,h4,fun y=>?_⟩⟩
  rw [h5]
  constructor
  ·rintro ⟨c,h6,h7,h8⟩;exact ⟨c,h6,h7,by simp,by rw [h2 c h6,h8];rfl⟩
  ·rintro ⟨c,h6,h7,_,h8⟩;exact ⟨c,h6,h7,by rw [h2 c h6] at h8;omega⟩
 | x :: Q,k,left,ready,hQ,hk,h1,h2,h3,h4,h5=>by
  have hkl:k<P.length:=by
   rcases Nat.lt_or_ge k P.length with h | h
   ·exact h
   ·rw [List.drop_eq_nil_of_le h] at hQ;cases hQ
  rw [List.drop_eq_getElem_cons hkl] at hQ
  obtain ⟨hx,hQ⟩:=List.cons.inj hQ
  have hxd:P.getD k []=x:=by rw [Yl hkl,hx]
  have hkl':k<left.length:=by omega
  have hrl:ready.length≤k:=by
   have h7:=Ze8 (r:=(List.range k).map fun i:Nat=>(i:Int)) h4 fun y hy=>by
    obtain ⟨c,h8,h9,_⟩:=(h5 y).1 hy
    exact List.mem_map.2 ⟨c,List.mem_range.2 h8,h9.symm⟩
   simpa using h7
  have hl1:∀ c:Nat,c<k+1→(left.set k (x.length:Int)).getD c 0=((P.getD c []).length:Int):=fun c hc=>by
   rw [Uq _ _ _ _ _ hkl']
   by_cases hck:c=k
   ·subst hck;rw [if_pos rfl,hxd]
   ·rw [if_neg hck,h2 c (by omega)]
  have hnr:(k:Int) ∉ ready:=fun h=>by obtain ⟨c,h6,h7,_⟩:=(h5 _).1 h;omega
  rw [S5.eq_2,T3 0 hkl',Option.bind_some,Option.bind_some,Int.toNat_natCast]
  by_cases h0:x.length=0
  ·obtain ⟨ready1,k1,k2,k3⟩:=Zr6 (N:=N) (k:Int) (by omega:ready.length<2000000) h3 hN
   rw [if_pos (decide_eq_true (by omega)),k1,Option.bind_some,Zdx]
   refine Znb P D hP hN hl Q (k+1) _ ready1 hQ (by omega) (by rw [List.length_set];exact h1) hl1 k3 (k2.nodup_iff.2 (List.nodup_cons.2 ⟨hnr,h4⟩)) (fun y=>?_)
   rw [k2.mem_iff,List.mem_cons,h5]
   constructor
   ·rintro (rfl | ⟨c,h6,h7,h8⟩)
    ·exact ⟨k,by omega,rfl,by rw [hxd];exact h0⟩
    ·exact ⟨c,by omega,h7,h8⟩
   ·rintro ⟨c,h6,h7,h8⟩
    by_cases hck:c=k
    ·subst hck;exact .inl h7
    ·exact .inr ⟨c,by omega,h7,h8⟩
  ·rw [if_neg (by rw [decide_eq_true_eq];omega),Zdx]
   refine Znb P D hP hN hl Q (k+1) _ ready hQ (by omega) (by rw [List.length_set];exact h1) hl1 h3 h4 (fun y=>?_)
   rw [h5]
   constructor
   ·rintro ⟨c,h6,h7,h8⟩;exact ⟨c,by omega,h7,h8⟩
   ·rintro ⟨c,h6,h7,h8⟩
    by_cases hck:c=k
    ·subst hck;rw [hxd] at h8;exact absurd h8 h0
    ·exact ⟨c,by omega,h7,h8⟩
theorem Z08 {N:Nat} {P D:List R2} (hP:P.length<1048576) (hls:∀ x ∈ P,x.length≤1048576) (ht:Ui P≤1048576) (hN:2000000<N) (hD:D.length=P.length) (hDk:∀ p:Nat,p<P.length→D.getD p []=Vg 0 P p):Zdv N P D=Sg N P:=by
 rw [Zdv,Xd (by simp only [maxLen];omega),Sg]
 obtain ⟨left,ready,h1,h2⟩:=Znb (N:=N) P D hP hN hls P 0 (List.replicate P.length 0) [] rfl (Nat.zero_le _) (by simp) (fun c hc=>by omega) (fun j _ hj=>by simp at hj) .nil (fun y=>by simp)
 rw [h1]
 exact Ztt hP hls ht hN hD hDk N [] _ _ h2 (by simp;omega)
theorem Zpd (kk:Option Int):∀ (l:List Int) (seen:List R6) (S:List Int),S.Nodup→(∀ k,Y7 seen k=if k ∈ S then some 1 else none)→Zaw kk l seen=if (S++l).Nodup then kk else some 40
 | [],seen,S,h1,h2=>by rw [Zaw.eq_1,List.append_nil,if_pos h1]
 | x :: l,seen,S,h1,h2=>by
  rw [Zaw.eq_2,h2 x]
  by_cases hx:x ∈ S
  ·rw [if_pos hx,if_pos (by decide),if_neg]
   intro h
   exact (List.nodup_append.1 h).2.2 x hx x List.mem_cons_self rfl
  ·rw [if_neg hx,if_neg (by decide),Option.bind_some,Zpd kk l _ (S++[x]) (by
    rw [List.nodup_append]
    refine ⟨h1,by simp,fun a ha b hb e=>?_⟩
    rw [List.mem_singleton] at hb;subst hb;subst e;exact hx ha) (fun k=>by
    rw [Zqx,h2 k]
    by_cases hk:k=x
    ·subst hk;rw [if_pos rfl,if_pos (by simp)]
    ·rw [if_neg hk]
     by_cases hs:k ∈ S
     ·rw [if_pos hs,if_pos (by simp [hs])]
     ·rw [if_neg hs,if_neg (by simp [hs,hk])])]
   rw [List.append_assoc];rfl
theorem Zpc:∀ P:List R2,S3 P=if Uj P then some 40 else some 0
 | []=>by rw [S3.eq_1];rfl
 | l :: P=>by
  rw [S3.eq_2,Zpd _ l [] [] .nil (fun k=>by simp [Y7]),Zpc P,List.nil_append]
  by_cases h:l.Nodup
  ·rw [if_pos h]
   have:Uj (l :: P)=Uj P:=by rw [Uj,Uj,List.any_cons,decide_eq_true h];rfl
   rw [this]
  ·rw [if_neg h]
   have:Uj (l :: P)=true:=by rw [Uj,List.any_cons,decide_eq_false h];rfl
   rw [this];rfl
theorem Zpe (P:List R2) (kk:Option Int):∀ l:List Int,S4 P kk l=if (l.all fun p=>decide (0≤p∧p<(P.length:Int)))=true then kk else some 3
 | []=>by rw [S4.eq_1];rfl
 | x :: l=>by
  rw [S4.eq_2,Zpe P kk l,Zdr,Zdr,List.all_cons]
  by_cases h1:x<0
  ·rw [if_pos (by simpa using h1),if_pos rfl,decide_eq_false (by omega),Bool.false_and,if_neg (by decide)]
  ·rw [if_neg (by simpa using h1)]
   by_cases h2:(P.length:Int)≤x
   ·rw [if_pos (by simpa using h2),decide_eq_false (by omega),Bool.false_and,if_neg (by decide)]
   ·rw [if_neg (by simpa using h2),decide_eq_true (by omega),Bool.true_and]
theorem Zpb (P:List R2):∀ Q:List R2,S1 P Q=if Vq P.length Q=true then S3 P else some 3
 | []=>by rw [S1.eq_1];rfl
 | l :: Q=>by
  rw [S1.eq_2,Zpe,Zpb P Q]
  by_cases h:(l.all fun p=>decide (0≤p∧p<(P.length:Int)))=true
  ·rw [if_pos h]
   have:Vq P.length (l :: Q)=Vq P.length Q:=by rw [Vq,Vq,List.all_cons,h,Bool.true_and]
   rw [this]
  ·rw [if_neg h]
   have:Vq P.length (l :: Q)=false:=by rw [Vq,List.all_cons,Bool.eq_false_iff.2 h,Bool.false_and]
   rw [this,if_neg (by decide)]
theorem Zxz (P:List R2):Zdq P=if Vq P.length P=true then (if Uj P=true then some 40 else some 0) else some 3:=by
 rw [Zdq,Zpb,Zpc]
structure Zh1 (P:List R2):Prop where
 n:P.length≤1048575
 t:Ui P≤1048576
theorem Zh1.ls {P:List R2} (h:Zh1 P):∀ x ∈ P,x.length≤1048576:=fun x hx=>Nat.le_trans (Zke hx) h.t
theorem Zpw {P:List R2} {n:Nat} (h:Vq n P=true):∀ l ∈ P,Zhy n l:=by
 intro l hl x hx
 rw [Vq,List.all_eq_true] at h
 have:=List.all_eq_true.1 (h l hl) x hx
 simpa using this
inductive Zh0 (N:Nat) (P:List R2):Prop
 | err (e:Int) (D:Qt N P=some ([],e)) (R:Ze2 N P=some e) (ne:e=3∨e=40):Zh0 N P
 | cyc (I:Vq P.length P=true) (T:Uj P=false) (l:List Int) (o:Sg N P=some l) (ok:Vz P l) (mx:Ws P l 0=none) (lt:l.length<P.length) (D:Qt N P=some ([],42)) (R:Ze2 N P=some 42):Zh0 N P
 | ord (I:Vq P.length P=true) (T:Uj P=false) (l:List Int) (o:Sg N P=some l) (ok:Vz P l) (mx:Ws P l 0=none) (eq:l.length=P.length) (D:Qt N P=some (l,0)) (R:Ze2 N P=some 0):Zh0 N P
theorem Ztr {N:Nat} {P:List R2} (h:Zh1 P) (hN:2000000<N):Zh0 N P:=by
 have hn:=h.n
 have ht:=h.t
 have hls:=h.ls
 have hls':∀ x ∈ P,x.length≤1048576:=fun x hx=>by have:=hls x hx;omega
 have hD:Qt N P=(Zdq P).bind fun r_1=>if (!decide (r_1=0))=true then (some (([]:List Int),r_1)) else ((Zdp P).bind fun r_5=>(Zdv N P r_5).bind fun r_13=>if (decide ((r_13.length:Int)<(P.length:Int)))=true then (some (([]:List Int),42)) else (some (r_13,0))):=by rw [Qt]
 have hR:Ze2 N P=(Zjd N P).bind fun r_1=>if (!r_1)=true then (some 3) else ((Zjh N P).bind fun r_5=>if r_5=true then (some 40) else ((Sg N P).bind fun r_9=>if (decide ((r_9.length:Int)<(P.length:Int)))=true then (some 42) else (some 0))):=by rw [Ze2]
 rw [Zxz] at hD
 rw [Zye (by omega) hls' (by omega),Option.bind_some] at hR
 by_cases hI:Vq P.length P=true
 ·rw [hI,if_neg (by decide),Z1h (by omega) hls' (by omega),Option.bind_some] at hR
  rw [if_pos hI] at hD
  by_cases hT:Uj P=true
  ·rw [if_pos hT] at hD hR
   exact .err 40 (by rw [hD];rfl) hR (.inr rfl)
  ·rw [if_neg hT] at hD hR
   obtain ⟨l,h1,h2,h3⟩:=Zzq (N:=N) (P:=P) (by omega) hls' (by omega)
   obtain ⟨D,h4,h5,h6⟩:=Zwx (P:=P) (by omega) (by omega) (Zpw hI)
   rw [h1,Option.bind_some] at hR
   rw [Option.bind_some,if_neg (by decide),h4,Option.bind_some,Z08 (by omega) hls' (by omega) hN h5 h6,h1,Option.bind_some] at hD
   have hT:=Bool.eq_false_iff.2 hT
   have hle:=h2.len
   by_cases hlt:l.length<P.length
   ·rw [if_pos (decide_eq_true (by omega))] at hR hD
    exact .cyc hI hT l h1 h2 h3 hlt hD hR
   ·rw [if_neg (by rw [decide_eq_true_eq];omega)] at hR hD
    exact .ord hI hT l h1 h2 h3 (by omega) hD hR
 ·rw [Bool.eq_false_iff.2 hI,if_pos (by decide)] at hR
  rw [if_neg hI] at hD
  exact .err 3 (by rw [hD];rfl) hR (.inl rfl)
def Zet (ab:List Int) (aa:Int) (kk_L1:(Int→Option R2)) (ac:Bool):Option R2:=
  if ac=true then (kk_L1 (i64.wrap (aa - 1))) else (Zw ((0:Int)≤aa∧aa≤(ab.length:Int)) (Zw ((([]:List Int).length+(ab.take (Int.toNat aa)).length) * 4≤140737488355328∧([]:List Int).length+(ab.take (Int.toNat aa)).length≤maxLen) (some (([]:List Int)++(ab.take (Int.toNat aa))))))
def Zad (N:Nat) (aa:List Int):Nat→Int→Option R2
  | 0,_=>none
  | ac+1,ab=>if (decide (0<ab))=true then ((Zn aa (i64.wrap (ab - 1))).bind fun ad=>Zet aa ab (Zad N aa ac) (decide (ad=0))) else (Zet aa ab (Zad N aa ac) false)
termination_by structural x=>x
def V4 (N:Nat) (aa:List Int):Option R2:=
  Zad N aa N (aa.length:Int)
theorem Tg {N ae:Nat} {a0:Option Addr} {col:Zd} {w0:World} {ab r:R2} (c1:Nat) (hm:V4 N ab=some r) (h0:Sl (Za.int .u32) col w0 a0 ae ab):
    Calls Tryz.prog 212 #[.slice a0 ab.length ae] w0 (fun e w'=>∃ (col':Zd) (ra1:Option Addr) (rc2:Nat),e= .returned ((.slice ra1 r.length rc2))∧Zf col w0 col' w'∧Zc (Za.int .u32) 79 c1 col' w' ra1 rc2 r):=by
 refine Xc 2 (m:=24) func212 rfl rfl rfl rfl rfl ?_;rw [V4.eq_1] at hm;have aa:=St.start col w0;refine go ?_;refine Z2 [0,1000000] (fun n f aj=>∃ ak ac ad,ad=n∧Zad N ab ad ac=some r∧St w0 (Zi col) ak aj∧[3].map f=[.int .i64 ac]) N ⟨_,_,_,rfl,hm,aa,rfl⟩ ?_;clear hm;intro n f aj hI;obtain ⟨ak,ac,ad,hn,hm,aa,hs⟩:=hI;subst hn;refine .lL [3] hs ?_;replace h0:=h0.keep (Zk.start col w0)
 cases ad with
 | zero=>rw [Zad.eq_1] at hm;cases hm
 | succ ad=>
  rw [Zad.eq_2] at hm;refine Zu<|Zu ?_;refine Wp.cutK [0,3,1000000] (fun f al=>∃ am af,Zet ab ac (Zad N ab ad) af=some r∧St w0 (Zi col) am al∧[16].map f=[.bool af]) ?_ ?_
  ·intro f al hJ;obtain ⟨am,af,hm,aa,hs⟩:=hJ;rw [Zet.eq_1] at hm;refine .lL [16] hs ?_;refine Zo hm (fun hb hm=>go ?_) fun hb hm=>go ?_
   ·exact ⟨ad,by omega,rfl,⟨_,_,_,rfl,hm,aa,rfl⟩⟩
   obtain ⟨ag,hm⟩:=Z0 hm;refine lv (v:=.slice a0 (Int.toNat ac) ae) rfl rfl (Zhp underlying43 sizeOf79 rfl rfl ag.1 (by have:=(h0.ks aa).1.2;have:=ag.2;omega))<|.ld (d:=22) (v:=(.slice a0 ((ab.take (Int.toNat ac)).length) ae)) (congrArg (fun n=>Value.slice a0 n ae) (List.length_take_of_le (show (Int.toNat ac)≤ab.length by have:=ag.2;omega)).symm) ?_;obtain ⟨an,hm⟩:=Z0 hm;refine V2 (c:=1) Zc.nil ((h0.ks aa).take (Int.toNat ac)).srcC an ?_;intro ar au av aw ao ap;refine go ?_;cases hm;replace aa:=aa.kpp ao;exact ⟨rfl,_,_,_,rfl,aa.fin (cm [(1,c1)]),aa.fo ap⟩
  refine go ?_;refine X5 hm (fun ah hm=>go ?_) fun ah hm=>go ?_
  ·obtain ⟨aq,ai,hm⟩:=bZ hm;refine lI ai ((h0.ks aa).addr ai) ?_;refine go ?_;refine lW ((h0.ks aa).atInt ai)<|go ?_;refine lV (.bool (decide (aq=0))) (Xq (congrArg Value.bool ah) rfl)<|Zl ?_;exact ⟨rfl,_,_,hm,aa,rfl⟩
  refine lV (.bool false) (Xk (congrArg Value.bool ah) rfl)<|Zl ?_;exact ⟨rfl,_,_,hm,aa,rfl⟩
def Zcn (N:Nat):Nat→Int→Int→Option Int
  | 0,_,_=>none
  | ac+1,aa,ab=>if (decide (0<ab))=true then ((Zcn N ac) (i64.wrap (aa+1)) (u32.wrap (Int.tdiv ab 2))) else (some aa)
termination_by structural x=>x
def Zgs (N:Nat) (ab:List Int):Option Int:=
  (V4 N ab).bind fun aa=>if (decide ((aa.length:Int)=0))=true then (some 0) else ((Zn aa (i64.wrap ((aa.length:Int) - 1))).bind fun ac=>Zcn N N (i64.wrap (32 * (i64.wrap ((aa.length:Int) - 1)))) ac)
theorem Zvz {N ag:Nat} {a0:Option Addr} {col:Zd} {w0:World} {ad:R2} {r:Int} (hm:Zgs N ad=some r) (h0:Sl (Za.int .u32) col w0 a0 ag ad):
    Calls Tryz.prog 121 #[.slice a0 ad.length ag] w0 (fun e w'=>e= .returned ((.int .i64 r))∧Below w0.heap.size w0 w'):=by
 refine Xc 2 (m:=28) func121 rfl rfl rfl rfl rfl ?_;rw [Zgs.eq_1] at hm;have aa:=St.start col w0;refine go ?_;obtain ⟨am,ak,hm⟩:=bZ hm;replace h0:=h0.keep (Zk.start col w0);refine Zg (Tg 1 ak (h0.ks aa)) ?_;rintro _ an ⟨ao,ap,aq,rfl,al,ah⟩;refine ⟨_,rfl,go ?_⟩;replace aa:=aa.grow al;refine Zo hm (fun hb hm=>go ?_) fun hb hm=>go ?_
 ·cases hm;exact ⟨rfl,rfl,aa.below⟩
 obtain ⟨ar,ae,hm⟩:=bZ hm;refine lI ae (ah.addr ae)<|lW (ah.atInt ae) ?_;refine go ?_;refine Z2 [1000000] (fun n f ai=>∃ aj af ac ab,ab=n∧Zcn N ab af ac=some r∧St w0 (Zi col) aj ai∧[4,5].map f=[.int .i64 af,.int .u32 ac]) N ⟨_,_,_,_,rfl,hm,aa,rfl⟩ ?_;clear hm;intro n f ai hI;obtain ⟨aj,af,ac,ab,hn,hm,aa,hs⟩:=hI;subst hn;refine .lL [4,5] hs ?_
 cases ab with
 | zero=>rw [Zcn.eq_1] at hm;cases hm
 | succ ab=>
  rw [Zcn.eq_2] at hm;refine go ?_;refine Zo hm (fun hb hm=>go ?_) fun hb hm=>go ?_
  ·refine lV (.int .u32 (u32.wrap (Int.tdiv ac 2))) (Vl ac 2 rfl rfl (by decide))<|go ?_;exact ⟨ab,by omega,rfl,⟨_,_,_,_,rfl,hm,aa,rfl⟩⟩
  cases hm;exact ⟨rfl,rfl,aa.below⟩
def Sf (aa:List Int) (ab:Int):Option Int:=
  if (decide (ab<(aa.length:Int)))=true then ((Zn aa ab).bind fun ac=>some (u64.wrap ac)) else (some 0)
theorem Zbx {ad:Nat} {a0:Option Addr} {col:Zd} {w0:World} {ab:R2} {ae r:Int} (hm:Sf ab ae=some r) (h0:Sl (Za.int .u32) col w0 a0 ad ab):
    Calls Tryz.prog 275 #[.slice a0 ab.length ad,.int .i64 ae] w0 (fun e w'=>e= .returned ((.int .u64 r))∧Below w0.heap.size w0 w'):=by
 refine Xc 4 (m:=14) func275 rfl rfl rfl rfl rfl ?_;rw [Sf.eq_1] at hm;have aa:=St.start col w0;refine go ?_;replace h0:=h0.keep (Zk.start col w0);refine Zo hm (fun hb hm=>go ?_) fun hb hm=>go ?_
 ·obtain ⟨af,ac,hm⟩:=bZ hm;refine lI ac ((h0.ks aa).addr ac)<|lW ((h0.ks aa).atInt ac) ?_;refine go ?_;cases hm;exact ⟨rfl,rfl,aa.below⟩
 cases hm;exact ⟨rfl,rfl,aa.below⟩
def Zgr (ab:List Int) (aa:Int):Option Int:=
  (Sf ab (i64.wrap (Int.tdiv aa 32))).bind fun ac=>Zw (0≤(Int.tmod aa 32)) (some (Int.tmod (u32.wrap (X8 .u64 ac (Int.tmod aa 32))) 2))
theorem Zvy {af:Nat} {a0:Option Addr} {col:Zd} {w0:World} {ad:R2} {aa r:Int} (hm:Zgr ad aa=some r) (h0:Sl (Za.int .u32) col w0 a0 af ad):
    Calls Tryz.prog 230 #[.slice a0 ad.length af,.int .i64 aa] w0 (fun e w'=>e= .returned ((.int .u32 r))∧Below w0.heap.size w0 w'):=by
 refine Xc 4 (m:=14) func230 rfl rfl rfl rfl rfl ?_;rw [Zgr.eq_1] at hm;have ab:=St.start col w0;refine go ?_;refine lV (.int .i64 (i64.wrap (Int.tdiv aa 32))) (Vl aa 32 rfl rfl (by decide)) ?_;obtain ⟨ac,ag,hm⟩:=bZ hm;replace h0:=h0.keep (Zk.start col w0);refine Zg (Zbx ag (h0.ks ab)) ?_;rintro _ ah ⟨rfl,ae⟩;refine ⟨_,rfl,?_⟩;replace ae:Zf (Zi col) w0 (Zi col) ah:=.of_below ae;refine X9 rfl<|lV (.int .i64 (Int.tmod aa 32)) (Tw aa 32 rfl rfl (by decide)) ?_;obtain ⟨ai,hm⟩:=Z0 hm;refine lV (.int .u64 (X8 .u64 ac (Int.tmod aa 32))) (Tx ac (Int.tmod aa 32) rfl rfl ai)<|go ?_;refine lV (.int .u32 (Int.tmod (u32.wrap (X8 .u64 ac (Int.tmod aa 32))) 2)) (Tw (u32.wrap (X8 .u64 ac (Int.tmod aa 32))) 2 rfl rfl (by decide))<|go ?_;cases hm;replace ab:=ab.grow ae;exact ⟨rfl,rfl,ab.below⟩
def Zey (aa:List Int):Option R2:=
  some aa
def Zcs (N:Nat) (ad:List Int):Nat→R2→Int→Int→Option R2
  | 0,_,_,_=>none
  | af+1,ab,aa,ae=>if (decide (ae<(ad.length:Int)))=true then ((Zn ad ae).bind fun ac=>Zw ((ab.length+[u32.wrap (Int.tmod (u64.wrap (aa+(u64.wrap (2 * (u64.wrap ac))))) 4294967296)].length) * 4≤140737488355328∧ab.length+[u32.wrap (Int.tmod (u64.wrap (aa+(u64.wrap (2 * (u64.wrap ac))))) 4294967296)].length≤maxLen) ((Zcs N ad af) (ab++[u32.wrap (Int.tmod (u64.wrap (aa+(u64.wrap (2 * (u64.wrap ac))))) 4294967296)]) (u64.wrap (Int.tdiv (u64.wrap (aa+(u64.wrap (2 * (u64.wrap ac))))) 4294967296)) (i64.wrap (ae+1)))) else (if (decide (0<aa))=true then (Zw ((ab.length+[u32.wrap aa].length) * 4≤140737488355328∧ab.length+[u32.wrap aa].length≤maxLen) (Zey (ab++[u32.wrap aa]))) else (Zey ab))
termination_by structural x=>x
def Zex (N:Nat) (aa:List Int) (ab:Int):Option R2:=
  Zcs N aa N ([]:List Int) (u64.wrap ab) 0
theorem Zn7 {N au:Nat} {a0:Option Addr} {col:Zd} {w0:World} {ag:R2} {av:Int} {r:R2} (c1:Nat) (hm:Zex N ag av=some r) (h0:Sl (Za.int .u32) col w0 a0 au ag):
    Calls Tryz.prog 291 #[.slice a0 ag.length au,.int .u32 av] w0 (fun e w'=>∃ (col':Zd) (ra1:Option Addr) (rc2:Nat),e= .returned ((.slice ra1 r.length rc2))∧Zf col w0 col' w'∧Zc (Za.int .u32) 79 c1 col' w' ra1 rc2 r):=by
 refine Xc 4 (m:=40) func291 rfl rfl rfl rfl rfl ?_;rw [Zex.eq_1] at hm;have aa:=St.start col w0;refine go ?_;refine Z2 [0,1000000] (fun n f aj=>∃ ae ak al ah ab am ad,ad=n∧Zcs N ag ad ah ab am=some r∧St w0 (Zi col) ae aj∧Zc (Za.int .u32) 79 1 ae aj ak al ah∧[5,6,7].map f=[.slice ak ah.length al,.int .u64 ab,.int .i64 am]) N ⟨_,none,0,_,_,0,_,rfl,hm,aa,Zc.nil,rfl⟩ ?_;clear hm;intro n f aj hI;obtain ⟨ae,ak,al,ah,ab,am,ad,hn,hm,aa,ac,hs⟩:=hI;subst hn;refine .lL [5,6,7] hs ?_;replace h0:=h0.keep (Zk.start col w0)
 cases ad with
 | zero=>rw [Zcs.eq_1] at hm;cases hm
 | succ ad=>
  rw [Zcs.eq_2] at hm;refine go ?_;refine Zo hm (fun hb hm=>go ?_) fun hb hm=>?_
  ·obtain ⟨af,an,hm⟩:=bZ hm;refine lI an ((h0.ks aa).addr an)<|lW ((h0.ks aa).atInt an) ?_;refine go ?_;refine lV (.int .u64 (Int.tmod (u64.wrap (ab+(u64.wrap (2 * (u64.wrap af))))) 4294967296)) (Tw (u64.wrap (ab+(u64.wrap (2 * (u64.wrap af))))) 4294967296 rfl rfl (by decide))<|go ?_;refine Vd (col:=ae) [u32.wrap (Int.tmod (u64.wrap (ab+(u64.wrap (2 * (u64.wrap af))))) 4294967296)] 2 ?_;intro a8 a9 ba aw ay;obtain ⟨az,hm⟩:=Z0 hm;replace ac:=ac.gr aw;refine V2 ac (ay.srcN (NB.int (k:=.u32))) az ?_;intro bb bc bd be a1 a2;refine go ?_;refine lV (.int .u64 (u64.wrap (Int.tdiv (u64.wrap (ab+(u64.wrap (2 * (u64.wrap af))))) 4294967296))) (Vl (u64.wrap (ab+(u64.wrap (2 * (u64.wrap af))))) 4294967296 rfl rfl (by decide))<|go ?_;replace aa:=(aa.grow aw).kpp a1;exact ⟨ad,by omega,rfl,⟨_,_,_,_,_,_,_,rfl,hm,aa,a2,rfl⟩⟩
  refine Zhw (Zfu ?_);refine Zu ?_;refine Wp.cutK [1000000] (fun f ao=>∃ ap aq ar ai,Zey ai=some r∧St w0 (Zi col) ap ao∧Zc (Za.int .u32) 79 1 ap ao aq ar ai∧[5].map f=[.slice aq ai.length ar]) ?_ ?_
  ·intro f ao hJ;obtain ⟨ap,aq,ar,ai,hm,aa,a3,hs⟩:=hJ;rw [Zey.eq_1] at hm;refine .lL [5] hs<|go ?_;cases hm;exact ⟨rfl,_,_,_,rfl,aa.fin (cm [(1,c1)]),aa.fo a3⟩
  refine go ?_;refine Zo hm (fun hb hm=>go ?_) fun hb hm=>?_
  ·refine Vd (col:=ae) [u32.wrap ab] 3 ?_;intro bf bg bh ax a4;obtain ⟨a5,hm⟩:=Z0 hm;replace ac:=ac.gr ax;refine V2 ac (a4.srcN (NB.int (k:=.u32))) a5 ?_;intro bi bj bk bm a6 a7;refine go ?_;replace aa:=(aa.grow ax).kpp a6;exact ⟨rfl,_,_,_,_,hm,aa,a7,rfl⟩
  refine X7 ?_;exact ⟨rfl,_,_,_,_,hm,aa,ac,rfl⟩
def Zcp (N:Nat) (ab:List Int) (ac:List Int):Nat→Int→Option Int
  | 0,_=>none
  | af+1,aa=>if (decide (0≤aa))=true then ((Sf ab aa).bind fun ad=>(Sf ac aa).bind fun ae=>if (decide (ad<ae))=true then (some (-1)) else (if (decide (ae<ad))=true then (some 1) else ((Zcp N ab ac af) (i64.wrap (aa - 1))))) else (some 0)
termination_by structural x=>x
def Zeo (N:Nat) (aa:List Int) (ab:List Int) (ac:Int):Option Int:=
  Zcp N aa ab N (i64.wrap (ac - 1))
def Zco (N:Nat) (aa:List Int) (ab:List Int):Option Int:=
  if (decide ((aa.length:Int)<(ab.length:Int)))=true then (Zeo N aa ab (ab.length:Int)) else (Zeo N aa ab (aa.length:Int))
theorem Zk2 {N ak al:Nat} {a0 a1:Option Addr} {col:Zd} {w0:World} {ad ae:R2} {r:Int} (hm:Zco N ad ae=some r) (h0:Sl (Za.int .u32) col w0 a0 ak ad) (h1:Sl (Za.int .u32) col w0 a1 al ae):
    Calls Tryz.prog 276 #[.slice a0 ad.length ak,.slice a1 ae.length al] w0 (fun e w'=>e= .returned ((.int .i64 r))∧Below w0.heap.size w0 w'):=by
 refine Xc 4 (m:=35) func276 rfl rfl rfl rfl rfl ?_;rw [Zco.eq_1] at hm;have aa:=St.start col w0;refine Zu<|Wn<|Yk rfl<|Zl<|Zu<|Wn<|Yu rfl<|lV _ (Zaj underlying43 rfl)<|Yk rfl<|Zl<|Zu ?_;replace h0:=h0.keep (Zk.start col w0);replace h1:=h1.keep (Zk.start col w0);refine Wp.cutK [0,1,1000000] (fun f am=>∃ an af,Zeo N ad ae af=some r∧St w0 (Zi col) an am∧[5].map f=[.int .i64 af]) ?_ ?_
 ·intro f am hJ;obtain ⟨an,af,hm,aa,hs⟩:=hJ;rw [Zeo.eq_1] at hm;refine .lL [5] hs<|go ?_;refine Z2 [0,1,1000000] (fun n f ag=>∃ ab ah ac,ac=n∧Zcp N ad ae ac ah=some r∧St w0 (Zi col) ab ag∧[6].map f=[.int .i64 ah]) N ⟨_,_,_,rfl,hm,aa,rfl⟩ ?_;clear hm;intro n f ag hI;obtain ⟨ab,ah,ac,hn,hm,aa,hs⟩:=hI;subst hn;refine .lL [6] hs ?_
  cases ac with
  | zero=>rw [Zcp.eq_1] at hm;cases hm
  | succ ac=>
   rw [Zcp.eq_2] at hm;refine go ?_;refine Zo hm (fun hb hm=>go ?_) fun hb hm=>go ?_
   ·obtain ⟨au,ap,hm⟩:=bZ hm;refine Zg (Zbx ap (h0.ks aa)) ?_;rintro _ ao ⟨rfl,ai⟩;refine ⟨_,rfl,?_⟩;replace ai:Zf ab ag ab ao:=.of_below ai;refine go ?_;obtain ⟨av,aq,hm⟩:=bZ hm;replace aa:=aa.grow ai;refine Zg (Zbx aq (h1.ks aa)) ?_;rintro _ ar ⟨rfl,aj⟩;refine ⟨_,rfl,?_⟩;replace aj:Zf ab ao ab ar:=.of_below aj;refine go ?_;replace aa:=aa.grow aj;refine Zo hm (fun hb hm=>go ?_) fun hb hm=>go ?_
    ·cases hm;exact ⟨rfl,rfl,aa.below⟩
    refine Zo hm (fun hb hm=>go ?_) fun hb hm=>go ?_
    ·cases hm;exact ⟨rfl,rfl,aa.below⟩
    exact ⟨ac,by omega,rfl,⟨_,_,_,rfl,hm,aa,rfl⟩⟩
   cases hm;exact ⟨rfl,rfl,aa.below⟩
 refine go ?_;refine Zo hm (fun hb hm=>go ?_) fun hb hm=>?_
 ·exact ⟨rfl,_,_,hm,aa,rfl⟩
 refine X7 ?_;exact ⟨rfl,_,_,hm,aa,rfl⟩
def Zi9 (aa:Int) (kk_L1:(List Int→Int→Int→Option Rd)) (ab:List Int) (ac:Int):Option Rd:=
  kk_L1 ab ac (i64.wrap (aa+1))
def Zew (aa:List Int) (ab:Int) (ae:Int) (kk_L1:(List Int→Int→Int→Option Rd)) (ac:Int) (af:Int) (ad:Int):Option Rd:=
  Zw ((aa.length+[u32.wrap (u64.wrap (ad - (u64.wrap (ac+ab))))].length) * 4≤140737488355328∧aa.length+[u32.wrap (u64.wrap (ad - (u64.wrap (ac+ab))))].length≤maxLen) (Zi9 ae kk_L1 (aa++[u32.wrap (u64.wrap (ad - (u64.wrap (ac+ab))))]) af)
def Se (N:Nat) (ab:List Int) (ac:List Int):Nat→R2→Int→Int→Option Rd
  | 0,_,_,_=>none
  | ah+1,ad,ae,aa=>if (decide (aa<(ab.length:Int)))=true then ((Sf ab aa).bind fun af=>(Sf ac aa).bind fun ag=>if (decide (af<(u64.wrap (ag+ae))))=true then (Zew ad ae aa (Se N ab ac ah) ag 1 (u64.wrap (af+4294967296))) else (Zew ad ae aa (Se N ab ac ah) ag 0 af)) else ((V4 N ad).bind fun ai=>some (ai,true))
termination_by structural x=>x
def Zev (N:Nat) (aa:List Int) (ab:List Int):Option Rd:=
  (Zco N aa ab).bind fun ac=>if (decide (ac<0))=true then (some (([]:List Int),false)) else (Se N aa ab N ([]:List Int) 0 0)
theorem Zn6 {N au av:Nat} {a0 a1:Option Addr} {col:Zd} {w0:World} {ae af:R2} {r:Rd} (c1:Nat) (hm:Zev N ae af=some r) (h0:Sl (Za.int .u32) col w0 a0 au ae) (h1:Sl (Za.int .u32) col w0 a1 av af):
    Calls Tryz.prog 228 #[.slice a0 ae.length au,.slice a1 af.length av] w0 (fun e w'=>∃ (col':Zd) (ra1:Option Addr) (rc2:Nat),e= .returned (.tuple #[.slice ra1 r.1.length rc2,.bool r.2])∧Zf col w0 col' w'∧Zc (Za.int .u32) 79 c1 col' w' ra1 rc2 r.1):=by
 refine Zdj 4 5 (m:=43) (args:=[.slice a0 ae.length au,.slice a1 af.length av]) func228 rfl rfl rfl rfl rfl ?_;rw [Zev.eq_1] at hm;have aa:=St.start col w0;refine go ?_;obtain ⟨bn,ba,hm⟩:=bZ hm;replace h0:=h0.keep (Zk.start col w0);replace h1:=h1.keep (Zk.start col w0);refine Zg (Zk2 ba (h0.ks aa) (h1.ks aa)) ?_;rintro _ bb ⟨rfl,aw⟩;refine ⟨_,rfl,?_⟩;replace aw:Zf (Zi col) w0 (Zi col) bb:=.of_below aw;refine go ?_;replace aa:=aa.grow aw;refine Zo hm (fun hb hm=>go ?_) fun hb hm=>go ?_
 ·cases hm;exact ⟨rfl,_,none,0,rfl,aa.fin (cm []),Zc.nil⟩
 refine Z2 [0,1,1000000] (fun n f ah=>∃ ab ak al ag ai aj ad,ad=n∧Se N ae af ad ag ai aj=some r∧St w0 (Zi col) ab ah∧Zc (Za.int .u32) 79 1 ab ah ak al ag∧[6,7,8].map f=[.slice ak ag.length al,.int .u64 ai,.int .i64 aj]) N ⟨_,none,0,_,0,0,_,rfl,hm,aa,Zc.nil,rfl⟩ ?_;clear hm;intro n f ah hI;obtain ⟨ab,ak,al,ag,ai,aj,ad,hn,hm,aa,ac,hs⟩:=hI;subst hn;refine .lL [6,7,8] hs ?_
 cases ad with
 | zero=>rw [Se.eq_1] at hm;cases hm
 | succ ad=>
  rw [Se.eq_2] at hm;refine go ?_;refine Zo hm (fun hb hm=>?_) fun hb hm=>go ?_
  ·refine X7<|Zu ?_;refine Wp.cutK [0,1,8,1000000] (fun f ax=>∃ ay az a2 am a3,Zi9 aj (Se N ae af ad) am a3=some r∧St w0 (Zi col) ay ax∧Zc (Za.int .u32) 79 1 ay ax az a2 am∧[6,7].map f=[.slice az am.length a2,.int .u64 a3]) ?_ ?_
   ·intro f ax hJ;obtain ⟨ay,az,a2,am,a3,hm,aa,bc,hs⟩:=hJ;rw [Zi9.eq_1] at hm;refine .lL [6,7] hs<|go ?_;exact ⟨ad,by omega,rfl,⟨_,_,_,_,_,_,_,rfl,hm,aa,bc,rfl⟩⟩
   refine go ?_;obtain ⟨bo,bd,hm⟩:=bZ hm;refine Zg (Zbx bd (h0.ks aa)) ?_;rintro _ a7 ⟨rfl,an⟩;refine ⟨_,rfl,?_⟩;replace an:Zf ab ah ab a7:=.of_below an;refine go ?_;obtain ⟨a8,be,hm⟩:=bZ hm;replace aa:=aa.grow an;refine Zg (Zbx be (h1.ks aa)) ?_;rintro _ bf ⟨rfl,ao⟩;refine ⟨_,rfl,?_⟩;replace ao:Zf ab a7 ab bf:=.of_below ao;refine X9 rfl<|lV _ (Qi _ _ rfl rfl)<|Yk rfl<|Zl<|Zu<|Wn<|Yk rfl<|Zl<|Zu ?_;replace ac:=(ac.gr an).gr ao;replace aa:=aa.grow ao;refine Wp.cutK [0,1,10,6,8,1000000] (fun f a4=>∃ ap a5 aq,Zew ag ai aj (Se N ae af ad) a8 a5 aq=some r∧St w0 (Zi col) ap a4∧Zc (Za.int .u32) 79 1 ap a4 ak al ag∧[7,9].map f=[.int .u64 a5,.int .u64 aq]) ?_ ?_
   ·intro f a4 hJ;obtain ⟨ap,a5,aq,hm,aa,ac,hs⟩:=hJ;rw [Zew.eq_1] at hm;refine .lL [7,9] hs<|go ?_;refine Vd (col:=ap) [u32.wrap (u64.wrap (aq - (u64.wrap (a8+ai))))] 2 ?_;intro bp bq br a9 bg;obtain ⟨bh,hm⟩:=Z0 hm;replace ac:=ac.gr a9;refine V2 ac (bg.srcN (NB.int (k:=.u32))) bh ?_;intro bs bt bu bv bi bj;refine go ?_;replace aa:=(aa.grow a9).kpp bi;exact ⟨rfl,_,_,_,_,_,hm,aa,bj,rfl⟩
   refine go ?_;refine Zo hm (fun hb hm=>go ?_) fun hb hm=>?_
   ·exact ⟨rfl,_,1,_,hm,aa,ac,rfl⟩
   refine X7 ?_;exact ⟨rfl,_,0,_,hm,aa,ac,rfl⟩
  obtain ⟨bw,bk,hm⟩:=bZ hm;refine Zg (Tg 3 bk (ac.toSlF (Zj.int .u32))) ?_;rintro _ bx ⟨bm,bz,b0,rfl,ar,a6⟩;refine ⟨_,rfl,?_⟩;replace a6:=a6.thaw (Zx .u32) ar ((Fz.refl (col:=ab)).froz 1) (by decide);replace ar:=ar.thawR (col:=ab);generalize Z6 ah.heap.size ab bm=b1 at *;refine go ?_;cases hm;replace aa:=aa.grow ar;exact ⟨rfl,_,_,_,rfl,aa.fin (cm [(3,c1)]),aa.fo a6⟩
def Zeq (aa:Int) (kk_L1:(List Int→Int→R2→Option R8)) (ab:List Int) (ac:List Int):Option R8:=
  kk_L1 ab (i64.wrap (aa - 1)) ac
def Zab (N:Nat) (ad:List Int) (ab:List Int):Nat→R2→Int→R2→Option R8
  | 0,_,_,_=>none
  | af+1,ag,aa,ac=>if (decide (0≤aa))=true then ((Zgr ad aa).bind fun ah=>(Zex N ag ah).bind fun ai=>(V4 N ai).bind fun ae=>(Zco N ae ab).bind fun aj=>if (decide (0≤aj))=true then ((Zev N ae ab).bind fun ak=>(Zn ac (i64.wrap (Int.tdiv aa 32))).bind fun al=>Zw (0≤(Int.tmod aa 32)) ((some (ac.set (Int.toNat (i64.wrap (Int.tdiv aa 32))) (u32.wrap (al+(Xt .u32 1 (Int.tmod aa 32)))))).bind fun am=>Zeq aa (Zab N ad ab af) ak.1 am)) else (Zeq aa (Zab N ad ab af) ae ac)) else ((V4 N ac).bind fun an=>some (an,ag,0))
termination_by structural x=>x
def Zep (N:Nat) (ab:List Int) (ad:List Int):Option R8:=
  (V4 N ad).bind fun ac=>if (decide ((ac.length:Int)=0))=true then (some (([]:List Int),([]:List Int),11)) else ((Zgs N ab).bind fun aa=>Zw ((Int.toNat (i64.wrap (Int.tdiv (i64.wrap (aa+31)) 32))) * 4≤281474976710656∧(Int.toNat (i64.wrap (Int.tdiv (i64.wrap (aa+31)) 32)))≤maxLen∧0≤(i64.wrap (Int.tdiv (i64.wrap (aa+31)) 32))) (Zab N ab ac N ([]:List Int) (i64.wrap (aa - 1)) (List.replicate (Int.toNat (i64.wrap (Int.tdiv (i64.wrap (aa+31)) 32))) (0:Int))))
theorem Zn4 {N bd be:Nat} {a0 a1:Option Addr} {col:Zd} {w0:World} {ak a4:R2} {r:R8} (c1 c2:Nat) (hm:Zep N ak a4=some r) (h0:Sl (Za.int .u32) col w0 a0 bd ak) (h1:Sl (Za.int .u32) col w0 a1 be a4):
    Calls Tryz.prog 272 #[.slice a0 ak.length bd,.slice a1 a4.length be] w0 (fun e w'=>∃ (col':Zd) (ra1:Option Addr) (rc2:Nat) (ra4:Option Addr) (rc5:Nat),e= .returned (.tuple #[.slice ra1 r.1.length rc2,.slice ra4 r.2.1.length rc5,.int .i64 r.2.2])∧Zf col w0 col' w'∧Zc (Za.int .u32) 79 c1 col' w' ra1 rc2 r.1∧Zc (Za.int .u32) 79 c2 col' w' ra4 rc5 r.2.1):=by
 refine Zoc 4 5 6 (m:=61) (args:=[.slice a0 ak.length bd,.slice a1 a4.length be]) func272 rfl rfl rfl rfl rfl ?_;rw [Zep.eq_1] at hm;have aa:=St.start col w0;refine go ?_;obtain ⟨a5,b3,hm⟩:=bZ hm;replace h1:=h1.keep (Zk.start col w0);refine Zg (Tg 1 b3 (h1.ks aa)) ?_;rintro _ b4 ⟨bf,bt,bu,rfl,b5,ab⟩;refine ⟨_,rfl,go ?_⟩;replace h0:=h0.keep (Zk.start col w0);replace aa:=aa.grow b5;refine Zo hm (fun hb hm=>go ?_) fun hb hm=>go ?_
 ·cases hm;exact ⟨rfl,_,none,0,none,0,rfl,aa.fin (cm []),Zc.nil,Zc.nil⟩
 obtain ⟨bg,b6,hm⟩:=bZ hm;refine Zg (Zvz b6 (h0.ks aa)) ?_;rintro _ bv ⟨rfl,a6⟩;refine ⟨_,rfl,?_⟩;replace a6:Zf bf b4 bf bv:=.of_below a6;refine go ?_;refine lV (.int .i64 (i64.wrap (Int.tdiv (i64.wrap (bg+31)) 32))) (Vl (i64.wrap (bg+31)) 32 rfl rfl (by decide)) ?_;obtain ⟨a7,hm⟩:=Z0 hm;refine Sx (col:=bf) (w:=bv) (r:=(Za.int .u32)) (n:=(Int.toNat (i64.wrap (Int.tdiv (i64.wrap (bg+31)) 32)))) (x0:=0) 2 rfl underlying43 Tryz.t79 rfl rfl rfl rfl rfl (congrArg (Value.int _) (Int.toNat_of_nonneg a7.2.2).symm) (congrArg (Value.int _) (Int.toNat_of_nonneg a7.2.2).symm) a7.1 a7.2.1 (V5 .u32 0) ?_;intro cp cq cr bw b7;refine go ?_;replace ab:=(ab.gr a6).gr bw;replace aa:=(aa.grow a6).grow bw;refine Z2 [0,7,1000000] (fun n f ai=>∃ ae bh bi a8 ac av aw al aj,aj=n∧Zab N ak a5 aj a8 ac al=some r∧St w0 (Zi col) ae ai∧Zc (Za.int .u32) 79 3 ae ai bh bi a8∧Zc (Za.int .u32) 79 1 ae ai bt bu a5∧Zc (Za.int .u32) 79 2 ae ai av aw al∧[10,11,9].map f=[.slice bh a8.length bi,.int .i64 ac,.slice av al.length aw]) N ⟨_,none,0,_,_,_,_,_,_,rfl,hm,aa,Zc.nil,ab,b7,rfl⟩ ?_;clear hm;intro n f ai hI;obtain ⟨ae,bh,bi,a8,ac,av,aw,al,aj,hn,hm,aa,am,ab,ad,hs⟩:=hI;subst hn;refine .lL [10,11,9] hs ?_
 cases aj with
 | zero=>rw [Zab.eq_1] at hm;cases hm
 | succ aj=>
  rw [Zab.eq_2] at hm;refine go ?_;refine Zo hm (fun hb hm=>?_) fun hb hm=>go ?_
  ·refine X7<|Zu ?_;refine Wp.cutK [0,11,7,1000000] (fun f ax=>∃ ay bj bk a9 bm bn ba,Zeq ac (Zab N ak a5 aj) a9 ba=some r∧St w0 (Zi col) ay ax∧Zc (Za.int .u32) 79 3 ay ax bj bk a9∧Zc (Za.int .u32) 79 1 ay ax bt bu a5∧Zc (Za.int .u32) 79 2 ay ax bm bn ba∧[10,9].map f=[.slice bj a9.length bk,.slice bm ba.length bn]) ?_ ?_
   ·intro f ax hJ;obtain ⟨ay,bj,bk,a9,bm,bn,ba,hm,aa,b8,ab,b9,hs⟩:=hJ;rw [Zeq.eq_1] at hm;refine .lL [10,9] hs<|go ?_;exact ⟨aj,by omega,rfl,⟨_,_,_,_,_,_,_,_,_,rfl,hm,aa,b8,ab,b9,rfl⟩⟩
   refine go ?_;obtain ⟨cs,ca,hm⟩:=bZ hm;refine Zg (Zvy ca (h0.ks aa)) ?_;rintro _ bx ⟨rfl,an⟩;refine ⟨_,rfl,?_⟩;replace an:Zf ae ai ae bx:=.of_below an;obtain ⟨ct,cb,hm⟩:=bZ hm;replace am:=am.gr an;refine Zg (Zn7 4 cb (am.toSlF (Zj.int .u32))) ?_;rintro _ cc ⟨cd,cu,cv,rfl,ao,bo⟩;refine ⟨_,rfl,?_⟩;replace bo:=bo.thaw (Zx .u32) ao ((Fz.refl (col:=ae)).froz 3) (by decide);replace ao:=ao.thawR (col:=ae);generalize Z6 bx.heap.size ae cd=bp at *;obtain ⟨cw,ce,hm⟩:=bZ hm;refine Zg (Tg 5 ce (bo.toSlF (Zj.int .u32))) ?_;rintro _ cf ⟨cg,cx,cy,rfl,ap,af⟩;refine ⟨_,rfl,?_⟩;replace af:=af.thaw (Zx .u32) ap ((Fz.refl (col:=bp)).froz 4) (by decide);replace ap:=ap.thawR (col:=bp);generalize Z6 cc.heap.size bp cg=az at *;refine go ?_;obtain ⟨cz,ch,hm⟩:=bZ hm;replace ab:=((ab.gr an).gr ao).gr ap;refine Zg (Zk2 ch ((af.toSlF (Zj.int .u32)).froz 1) ((ab.froz 5 (by decide)).toSlF (Zj.int .u32))) ?_;rintro _ bz ⟨rfl,aq⟩;refine ⟨_,rfl,?_⟩;replace aq:Zf az cf az bz:=.of_below aq;refine go ?_;replace ad:=(((ad.gr an).gr ao).gr ap).gr aq;replace aa:=(((aa.grow an).grow ao).grow ap).grow aq;replace ab:=ab.gr aq;replace af:=af.gr aq;refine Zo hm (fun hb hm=>go ?_) fun hb hm=>?_
   ·obtain ⟨bb,ci,hm⟩:=bZ hm;refine Zg (Zn6 6 ci ((af.toSlF (Zj.int .u32)).froz 1) ((ab.froz 5 (by decide)).toSlF (Zj.int .u32))) ?_;rintro _ c0 ⟨cj,b0,b1,rfl,ar,ag⟩;refine ⟨_,rfl,?_⟩;replace ag:=ag.thaw (Zx .u32) ar (((Fz.refl (col:=az)).froz 5).froz 1) (by decide);replace ar:=ar.thawR (col:=az);generalize Z6 bz.heap.size az cj=a2 at *;refine lM (.tuple #[.slice b0 bb.1.length b1,.bool bb.2])<|lV (.slice b0 bb.1.length b1) (Xh rfl rfl)<|lV (.bool bb.2) (Xh rfl rfl)<|go ?_;refine Wi (col:=a2) [(0,1),(1,1),(2,1),(3,1),(4,1),(5,1),(6,1),(7,0),(8,1),(9,1),(10,1),(11,1),(12,1),(13,2)] (by kernel_rfl) (by kernel_rfl)<|xu rfl rfl (fun _=>Ve rfl) ?_;refine xu rfl rfl (fun _=>Y4 rfl) ?_;refine xu (v:=(.int .i64 (i64.wrap (Int.tdiv ac 32)))) rfl rfl (fun _=>Vl ac 32 rfl rfl (by decide)) ?_;refine xu rfl rfl (fun _=>Ve rfl) ?_;refine xu rfl rfl (fun _=>Y4 rfl) ?_;refine xu (v:=(.int .i64 (i64.wrap (Int.tdiv ac 32)))) rfl rfl (fun _=>Vl ac 32 rfl rfl (by decide)) ?_;obtain ⟨b2,ah,hm⟩:=bZ hm;replace ad:=ad.gr ar;refine xu rfl rfl (fun _=>Y3 underlying43 sizeOf79 rfl rfl (Xg ah).1 (Xg ah).2.1 (ad.addr ah)) ?_;refine xW (fun _ hC=>(ad.gr (hC.bl a2)).atInt ah) ?_;refine xu rfl rfl (fun _=>Y4 rfl) ?_;refine xu (v:=(.int .i64 (Int.tmod ac 32))) rfl rfl (fun _=>Tw ac 32 rfl rfl (by decide)) ?_;obtain ⟨ck,hm⟩:=Z0 hm;refine xu (v:=(.int .u32 (Xt .u32 1 (Int.tmod ac 32)))) rfl rfl (fun _=>Zc4 1 (Int.tmod ac 32) rfl rfl ck) ?_;refine xu rfl rfl (fun _=>Qi _ _ rfl rfl) ?_;refine xu rfl rfl (fun _=>Y3 underlying43 sizeOf79 rfl rfl (Xg ah).1 (Xg ah).2.1 (ad.addr ah)) ?_;refine xe rfl rfl ?_;intro c3 hC0;have hC:=hC0.bl a2;obtain ⟨bq,bc,hm⟩:=bZ hm;have bc:bq=al.set (Int.toNat (i64.wrap (Int.tdiv ac 32))) (u32.wrap (b2+(Xt .u32 1 (Int.tmod ac 32)))):=(Option.some.inj bc).symm;replace ad:=ad.gr hC;refine Y2 (x1:=u32.wrap (b2+(Xt .u32 1 (Int.tmod ac 32)))) ad ah ?_;intro c4 br cl au;rw [← bc] at au;refine .ld (d:=9) (v:=(.slice av bq.length aw)) (congrArg (fun n=>Value.slice av n aw) (show al.length=bq.length by rw [bc,List.length_set])) ?_;refine Zl<|xk a2<|Y5 ?_;replace ab:=((ab.gr ar).gr hC).kp br;replace aa:=((aa.grow ar).grow hC).kp br cl;replace ag:=(ag.gr hC).kp br;intro c5 hC;replace hC:=hC.bl a2;replace ab:=ab.gr hC;replace ab:=ab.recol 6 3 (by decide);replace au:=au.gr hC
    replace au:=au.recol 6 3 (by decide);replace ag:=ag.gr hC;replace ag:=ag.recolSelf 3 (by decide);replace aa:=aa.grow hC;replace aa:=aa.recol 6 3 (by decide) (by decide);exact ⟨rfl,_,_,_,_,_,_,_,hm,aa,ag,ab,au,rfl⟩
   refine X7 ?_;replace ab:=ab.recol 5 3 (by decide);replace ad:=ad.recol 5 3 (by decide);replace af:=af.recolSelf 3 (by decide);replace aa:=aa.recol 5 3 (by decide) (by decide);exact ⟨rfl,_,_,_,_,_,_,_,hm,aa,af,ab,ad,rfl⟩
  obtain ⟨c6,cn,hm⟩:=bZ hm;refine Zg (Tg 7 cn (ad.toSlF (Zj.int .u32))) ?_;rintro _ c7 ⟨co,c8,c9,rfl,a3,bs⟩;refine ⟨_,rfl,?_⟩;replace bs:=bs.thaw (Zx .u32) a3 ((Fz.refl (col:=ae)).froz 2) (by decide);replace a3:=a3.thawR (col:=ae);generalize Z6 ai.heap.size ae co=da at *;refine go ?_;cases hm;replace am:=am.gr a3;replace aa:=aa.grow a3;exact ⟨rfl,_,_,_,_,_,rfl,aa.fin (cm [(7,c1),(3,c2)]),aa.fo bs,aa.fo am⟩
def Zgv (aa:Bool):Option Bool:=
  some aa
def Zbf (aa:List Int):Option Bool:=
  if (decide ((aa.length:Int)=0))=true then (Zgv true) else ((Zn aa 0).bind fun ab=>Zgv (decide ((Int.tmod ab 2)=0)))
theorem Zih {ag:Nat} {a0:Option Addr} {col:Zd} {w0:World} {ab:R2} {r:Bool} (hm:Zbf ab=some r) (h0:Sl (Za.int .u32) col w0 a0 ag ab):
    Calls Tryz.prog 289 #[.slice a0 ab.length ag] w0 (fun e w'=>e= .returned ((.bool r))∧Below w0.heap.size w0 w'):=by
 refine Xc 2 (m:=13) func289 rfl rfl rfl rfl rfl ?_;rw [Zbf.eq_1] at hm;have aa:=St.start col w0;refine Zu<|Wn<|lAB rfl<|Zl<|Zu ?_;replace h0:=h0.keep (Zk.start col w0);refine Wp.cutK [1000000] (fun f ah=>∃ ai ac,Zgv ac=some r∧St w0 (Zi col) ai ah∧[2].map f=[.bool ac]) ?_ ?_
 ·intro f ah hJ;obtain ⟨ai,ac,hm,aa,hs⟩:=hJ;rw [Zgv.eq_1] at hm;refine .lL [2] hs<|W0 ?_;cases hm;exact ⟨rfl,rfl,aa.below⟩
 refine go ?_;refine X5 hm (fun ad hm=>go ?_) fun ad hm=>go ?_
 ·refine lV (.bool true) (Xq (congrArg Value.bool ad) rfl)<|go ?_;exact ⟨rfl,_,_,hm,aa,rfl⟩
 obtain ⟨ae,af,hm⟩:=bZ hm;refine lI af ((h0.ks aa).addr af) ?_;refine go ?_;refine lW ((h0.ks aa).atInt af)<|go ?_;refine lV (.int .u32 (Int.tmod ae 2)) (Tw ae 2 rfl rfl (by decide))<|go ?_;refine lV (.bool (decide ((Int.tmod ae 2)=0))) (Xk (congrArg Value.bool ad) rfl)<|go ?_;exact ⟨rfl,_,_,hm,aa,rfl⟩
def Zct (N:Nat) (ac:List Int):Nat→R2→Int→Int→Option R2
  | 0,_,_,_=>none
  | af+1,ab,ad,aa=>if (decide (0≤aa))=true then ((Zn ac aa).bind fun ae=>(Zn ab aa).bind fun ai=>(some (ab.set (Int.toNat aa) (u32.wrap (u64.wrap (Int.tdiv (u64.wrap ((u64.wrap (ad * 4294967296))+(u64.wrap ae))) 2))))).bind fun ag=>(Zct N ac af) ag (Int.tmod (u64.wrap ((u64.wrap (ad * 4294967296))+(u64.wrap ae))) 2) (i64.wrap (aa - 1))) else ((V4 N ab).bind fun ah=>some ah)
termination_by structural x=>x
def Zbg (N:Nat) (aa:List Int):Option R2:=
  Zw (aa.length * 4≤281474976710656∧aa.length≤maxLen) (Zct N aa N (List.replicate aa.length (0:Int)) 0 (i64.wrap ((aa.length:Int) - 1)))
theorem Zii {N au:Nat} {a0:Option Addr} {col:Zd} {w0:World} {ag r:R2} (c1:Nat) (hm:Zbg N ag=some r) (h0:Sl (Za.int .u32) col w0 a0 au ag):
    Calls Tryz.prog 290 #[.slice a0 ag.length au] w0 (fun e w'=>∃ (col':Zd) (ra1:Option Addr) (rc2:Nat),e= .returned ((.slice ra1 r.length rc2))∧Zf col w0 col' w'∧Zc (Za.int .u32) 79 c1 col' w' ra1 rc2 r):=by
 refine Xc 2 (m:=34) func290 rfl rfl rfl rfl rfl ?_;rw [Zbg.eq_1] at hm;have aa:=St.start col w0;refine go ?_;obtain ⟨av,hm⟩:=Z0 hm;refine Sx (col:=(Zi col)) (w:=w0) (r:=(Za.int .u32)) (n:=ag.length) (x0:=0) 1 rfl underlying43 Tryz.t79 rfl rfl rfl rfl rfl rfl rfl av.1 av.2 (V5 .u32 0) ?_;intro a4 a5 a6 ax ay;refine go ?_;replace aa:=aa.grow ax;refine Z2 [0,1000000] (fun n f aj=>∃ ac ah ai ad ab ak ae,ae=n∧Zct N ag ae ad ab ak=some r∧St w0 (Zi col) ac aj∧Zc (Za.int .u32) 79 1 ac aj ah ai ad∧[3,4,5].map f=[.slice ah ad.length ai,.int .u64 ab,.int .i64 ak]) N ⟨_,_,_,_,0,_,_,rfl,hm,aa,ay,rfl⟩ ?_;clear hm;intro n f aj hI;obtain ⟨ac,ah,ai,ad,ab,ak,ae,hn,hm,aa,an,hs⟩:=hI;subst hn;refine .lL [3,4,5] hs ?_;replace h0:=h0.keep (Zk.start col w0)
 cases ae with
 | zero=>rw [Zct.eq_1] at hm;cases hm
 | succ ae=>
  rw [Zct.eq_2] at hm;refine go ?_;refine Zo hm (fun hb hm=>go ?_) fun hb hm=>go ?_
  ·obtain ⟨af,ao,hm⟩:=bZ hm;refine lI ao ((h0.ks aa).addr ao)<|lW ((h0.ks aa).atInt ao) ?_;refine go ?_;refine lV (.int .u64 (u64.wrap (Int.tdiv (u64.wrap ((u64.wrap (ab * 4294967296))+(u64.wrap af))) 2))) (Vl (u64.wrap ((u64.wrap (ab * 4294967296))+(u64.wrap af))) 2 rfl rfl (by decide))<|go ?_;obtain ⟨a7,ap,hm⟩:=bZ hm;refine lI ap (an.addr ap) ?_;obtain ⟨aq,al,hm⟩:=bZ hm;have al:aq=ad.set (Int.toNat ak) (u32.wrap (u64.wrap (Int.tdiv (u64.wrap ((u64.wrap (ab * 4294967296))+(u64.wrap af))) 2))):=(Option.some.inj al).symm;refine Y2 (x1:=u32.wrap (u64.wrap (Int.tdiv (u64.wrap ((u64.wrap (ab * 4294967296))+(u64.wrap af))) 2))) an ap ?_;intro a8 az a1 aw;rw [← al] at aw;refine .ld (d:=3) (v:=(.slice ah aq.length ai)) (congrArg (fun n=>Value.slice ah n ai) (show ad.length=aq.length by rw [al,List.length_set])) ?_;refine go ?_;refine lV (.int .u64 (Int.tmod (u64.wrap ((u64.wrap (ab * 4294967296))+(u64.wrap af))) 2)) (Tw (u64.wrap ((u64.wrap (ab * 4294967296))+(u64.wrap af))) 2 rfl rfl (by decide))<|go ?_;replace aa:=aa.kp az a1;exact ⟨ae,by omega,rfl,⟨_,_,_,_,_,_,_,rfl,hm,aa,aw,rfl⟩⟩
  obtain ⟨a9,a2,hm⟩:=bZ hm;refine Zg (Tg 2 a2 (an.toSlF (Zj.int .u32))) ?_;rintro _ ba ⟨a3,bb,bc,rfl,am,ar⟩;refine ⟨_,rfl,?_⟩;replace ar:=ar.thaw (Zx .u32) am ((Fz.refl (col:=ac)).froz 1) (by decide);replace am:=am.thawR (col:=ac);generalize Z6 aj.heap.size ac a3=bd at *;refine go ?_;cases hm;replace aa:=aa.grow am;exact ⟨rfl,_,_,_,rfl,aa.fin (cm [(2,c1)]),aa.fo ar⟩
def Zes (N:Nat) (kk_L2:(List Int→R2→Option R2)) (aa:List Int) (ab:List Int):Option R2:=
  (Zev N ab aa).bind fun ac=>kk_L2 aa ac.1
def Zgu (N:Nat) (kk_L2:(List Int→R2→Option R2)) (ab:List Int) (aa:List Int) (kk_L4:(List Int→Option R2)) (ac:Bool):Option R2:=
  if ac=true then ((Zbg N aa).bind fun ad=>kk_L4 ad) else ((Zco N ab aa).bind fun ae=>if (decide (0<ae))=true then (Zes N kk_L2 aa ab) else (Zes N kk_L2 ab aa))
def Qd (N:Nat) (kk_L2:(List Int→R2→Option R2)) (aa:List Int):Nat→R2→Option R2
  | 0,_=>none
  | ac+1,ab=>if (decide (0<(ab.length:Int)))=true then ((Zbf ab).bind fun ad=>Zgu N kk_L2 aa ab (Qd N kk_L2 aa ac) ad) else (Zgu N kk_L2 aa ab (Qd N kk_L2 aa ac) false)
termination_by structural x=>x
def Zcq (N:Nat) (ab:List Int) (kk_L2:(List Int→R2→Option R2)):Nat→R2→Option R2
  | 0,_=>none
  | ac+1,aa=>(Zbf aa).bind fun ad=>if ad=true then ((Zbg N aa).bind fun ae=>(Zcq N ab kk_L2 ac) ae) else (Qd N kk_L2 aa N ab)
termination_by structural x=>x
def Zcr (N:Nat) (aa:Int):Nat→R2→Int→Option R2
  | 0,_,_=>none
  | ad+1,ab,ac=>if (decide (ac<aa))=true then ((Zex N ab 0).bind fun ae=>(Zcr N aa ad) ae (i64.wrap (ac+1))) else (some ab)
termination_by structural x=>x
def Vi (N:Nat) (aa:Int):Nat→R2→R2→Option R2
  | 0,_,_=>none
  | ad+1,ab,ac=>if (decide (0<(ac.length:Int)))=true then (Zcq N ac (Vi N aa ad) N ab) else (Zcr N aa N ab 0)
termination_by structural x=>x
def Zer (N:Nat) (aa:List Int) (ab:List Int) (ac:Int) (kk_L1:(List Int→R2→Int→Option R2)) (ad:Bool):Option R2:=
  if ad=true then ((Zbg N aa).bind fun ae=>(Zbg N ab).bind fun af=>kk_L1 ae af (i64.wrap (ac+1))) else (Vi N ac N aa ab)
def Zac (N:Nat):Nat→R2→R2→Int→Option R2
  | 0,_,_,_=>none
  | ac+1,aa,ab,ad=>(Zbf aa).bind fun ae=>if ae=true then ((Zbf ab).bind fun af=>Zer N aa ab ad (Zac N ac) af) else (Zer N aa ab ad (Zac N ac) false)
termination_by structural x=>x
def Zgt (N:Nat) (ac:List Int) (ad:List Int):Option R2:=
  (V4 N ac).bind fun aa=>(V4 N ad).bind fun ab=>if (decide ((aa.length:Int)=0))=true then (some ab) else (if (decide ((ab.length:Int)=0))=true then (some aa) else (Zac N N aa ab 0))
theorem Zv0 {N cs ct:Nat} {a0 a1:Option Addr} {col:Zd} {w0:World} {cb cc r:R2} (c1:Nat) (hm:Zgt N cb cc=some r) (h0:Sl (Za.int .u32) col w0 a0 cs cb) (h1:Sl (Za.int .u32) col w0 a1 ct cc):
    Calls Tryz.prog 271 #[.slice a0 cb.length cs,.slice a1 cc.length ct] w0 (fun e w'=>∃ (col':Zd) (ra1:Option Addr) (rc2:Nat),e= .returned ((.slice ra1 r.length rc2))∧Zf col w0 col' w'∧Zc (Za.int .u32) 79 c1 col' w' ra1 rc2 r):=by
 refine Xc 4 (m:=69) func271 rfl rfl rfl rfl rfl ?_;rw [Zgt.eq_1] at hm;have aa:=St.start col w0;refine go ?_;obtain ⟨dv,c3,hm⟩:=bZ hm;replace h0:=h0.keep (Zk.start col w0);refine Zg (Tg 1 c3 (h0.ks aa)) ?_;rintro _ dw ⟨dx,dy,dz,rfl,c4,bs⟩;refine ⟨_,rfl,go ?_⟩;obtain ⟨d0,c5,hm⟩:=bZ hm;replace h1:=h1.keep (Zk.start col w0);replace aa:=aa.grow c4;refine Zg (Tg 2 c5 (h1.ks aa)) ?_;rintro _ d1 ⟨d2,d3,d4,rfl,cu,cv⟩;refine ⟨_,rfl,go ?_⟩;replace bs:=bs.gr cu;replace aa:=aa.grow cu;refine Zo hm (fun hb hm=>go ?_) fun hb hm=>go ?_
 ·cases hm;exact ⟨rfl,_,_,_,rfl,aa.fin (cm [(2,c1)]),aa.fo cv⟩
 refine Zo hm (fun hb hm=>go ?_) fun hb hm=>go ?_
 ·cases hm;exact ⟨rfl,_,_,_,rfl,aa.fin (cm [(1,c1)]),aa.fo bs⟩
 refine Z2 [1000000] (fun n f a6=>∃ am bt bu au bv bw av ae an,an=n∧Zac N an au av ae=some r∧St w0 (Zi col) am a6∧Zc (Za.int .u32) 79 1 am a6 bt bu au∧Zc (Za.int .u32) 79 2 am a6 bv bw av∧[5,6,7].map f=[.slice bt au.length bu,.slice bv av.length bw,.int .i64 ae]) N ⟨_,_,_,_,_,_,_,0,_,rfl,hm,aa,bs,cv,rfl⟩ ?_;clear hm;intro n f a6 hI;obtain ⟨am,bt,bu,au,bv,bw,av,ae,an,hn,hm,aa,ag,ad,hs⟩:=hI;subst hn;refine .lL [5,6,7] hs ?_
 cases an with
 | zero=>rw [Zac.eq_1] at hm;cases hm
 | succ an=>
  rw [Zac.eq_2] at hm;refine Zu<|Zu ?_;refine Wp.cutK [5,6,7,1000000] (fun f a7=>∃ ao cd,Zer N au av ae (Zac N an) cd=some r∧St w0 (Zi col) ao a7∧Zc (Za.int .u32) 79 1 ao a7 bt bu au∧Zc (Za.int .u32) 79 2 ao a7 bv bw av∧[26].map f=[.bool cd]) ?_ ?_
  ·intro f a7 hJ;obtain ⟨ao,cd,hm,aa,ag,ad,hs⟩:=hJ;rw [Zer.eq_1] at hm;refine .lL [26] hs ?_;refine Zo hm (fun hb hm=>go ?_) fun hb hm=>go ?_
   ·obtain ⟨d5,c6,hm⟩:=bZ hm;refine Zg (Zii 3 c6 (ag.toSlF (Zj.int .u32))) ?_;rintro _ c7 ⟨c8,d6,d7,rfl,a8,ai⟩;refine ⟨_,rfl,?_⟩;replace ai:=ai.thaw (Zx .u32) a8 ((Fz.refl (col:=ao)).froz 1) (by decide);replace a8:=a8.thawR (col:=ao);generalize Z6 a7.heap.size ao c8=ce at *;refine go ?_;obtain ⟨d8,c9,hm⟩:=bZ hm;replace ad:=ad.gr a8;refine Zg (Zii 4 c9 (ad.toSlF (Zj.int .u32))) ?_;rintro _ d9 ⟨da,ea,eb,rfl,a9,ap⟩;refine ⟨_,rfl,?_⟩;replace ap:=ap.thaw (Zx .u32) a9 ((Fz.refl (col:=ce)).froz 2) (by decide);replace a9:=a9.thawR (col:=ce);generalize Z6 c7.heap.size ce da=ec at *;refine go ?_;replace ai:=ai.gr a9;replace ai:=ai.recolSelf 1 (by decide);replace ap:=ap.recol 3 1 (by decide);replace aa:=(aa.grow a8).grow a9;replace aa:=aa.recol 3 1 (by decide) (by decide);replace ai:=ai.recol 4 2 (by decide);replace ap:=ap.recolSelf 2 (by decide);replace aa:=aa.recol 4 2 (by decide) (by decide);exact ⟨an,by omega,rfl,⟨_,_,_,_,_,_,_,_,_,rfl,hm,aa,ai,ap,rfl⟩⟩
   refine Z2 [7,1000000] (fun n f bx=>∃ bz cf cg b0 b1 b2 aw af,af=n∧Vi N ae af b0 aw=some r∧St w0 (Zi col) bz bx∧Zc (Za.int .u32) 79 1 bz bx cf cg b0∧Zc (Za.int .u32) 79 2 bz bx b1 b2 aw∧[5,6].map f=[.slice cf b0.length cg,.slice b1 aw.length b2]) N ⟨_,_,_,_,_,_,_,_,rfl,hm,aa,ag,ad,rfl⟩ ?_;clear hm;intro n f bx hI;obtain ⟨bz,cf,cg,b0,b1,b2,aw,af,hn,hm,aa,cw,ah,hs⟩:=hI;subst hn;refine .lL [5,6] hs ?_
   cases af with
   | zero=>rw [Vi.eq_1] at hm;cases hm
   | succ af=>
    rw [Vi.eq_2] at hm;refine go ?_;refine Zo hm (fun hb hm=>go ?_) fun hb hm=>go ?_
    ·refine Z2 [6,7,1000000] (fun n f ba=>∃ aj bb bc ak ax,ax=n∧Zcq N aw (Vi N ae af) ax ak=some r∧St w0 (Zi col) aj ba∧Zc (Za.int .u32) 79 1 aj ba bb bc ak∧Zc (Za.int .u32) 79 2 aj ba b1 b2 aw∧[5].map f=[.slice bb ak.length bc]) N ⟨_,_,_,_,_,rfl,hm,aa,cw,ah,rfl⟩ ?_;clear hm;intro n f ba hI;obtain ⟨aj,bb,bc,ak,ax,hn,hm,aa,ab,ah,hs⟩:=hI;subst hn;refine .lL [5] hs ?_
     cases ax with
     | zero=>rw [Zcq.eq_1] at hm;cases hm
     | succ ax=>
      rw [Zcq.eq_2] at hm;refine go ?_;obtain ⟨ed,db,hm⟩:=bZ hm;refine Zg (Zih db (ab.toSlF (Zj.int .u32))) ?_;rintro _ cx ⟨rfl,bd⟩;refine ⟨_,rfl,?_⟩;replace bd:Zf aj ba aj cx:=.of_below bd;refine Zl ?_;replace ab:=ab.gr bd;replace ah:=ah.gr bd;replace aa:=aa.grow bd;refine Zo hm (fun hb hm=>go ?_) fun hb hm=>go ?_
      ·obtain ⟨ee,dc,hm⟩:=bZ hm;refine Zg (Zii 5 dc (ab.toSlF (Zj.int .u32))) ?_;rintro _ ef ⟨dd,eg,eh,rfl,be,bf⟩;refine ⟨_,rfl,?_⟩;replace bf:=bf.thaw (Zx .u32) be ((Fz.refl (col:=aj)).froz 1) (by decide);replace be:=be.thawR (col:=aj);generalize Z6 cx.heap.size aj dd=ei at *;refine go ?_;replace ah:=ah.gr be;replace ah:=ah.recol 5 1 (by decide);replace bf:=bf.recolSelf 1 (by decide);replace aa:=aa.grow be;replace aa:=aa.recol 5 1 (by decide) (by decide);exact ⟨ax,by omega,rfl,⟨_,_,_,_,_,rfl,hm,aa,bf,ah,rfl⟩⟩
      refine Z2 [5,7,1000000] (fun n f bg=>∃ ay b3 b4 az aq,aq=n∧Qd N (Vi N ae af) ak aq az=some r∧St w0 (Zi col) ay bg∧Zc (Za.int .u32) 79 1 ay bg bb bc ak∧Zc (Za.int .u32) 79 2 ay bg b3 b4 az∧[6].map f=[.slice b3 az.length b4]) N ⟨_,_,_,_,_,rfl,hm,aa,ab,ah,rfl⟩ ?_;clear hm;intro n f bg hI;obtain ⟨ay,b3,b4,az,aq,hn,hm,aa,ab,ac,hs⟩:=hI;subst hn;refine .lL [6] hs ?_
      cases aq with
      | zero=>rw [Qd.eq_1] at hm;cases hm
      | succ aq=>
       rw [Qd.eq_2] at hm;refine Zu<|Zu ?_;refine Wp.cutK [5,6,7,1000000] (fun f a2=>∃ al ch,Zgu N (Vi N ae af) ak az (Qd N (Vi N ae af) ak aq) ch=some r∧St w0 (Zi col) al a2∧Zc (Za.int .u32) 79 1 al a2 bb bc ak∧Zc (Za.int .u32) 79 2 al a2 b3 b4 az∧[46].map f=[.bool ch]) ?_ ?_
       ·intro f a2 hJ;obtain ⟨al,ch,hm,aa,ab,ac,hs⟩:=hJ;rw [Zgu.eq_1] at hm;refine .lL [46] hs ?_;refine Zo hm (fun hb hm=>go ?_) fun hb hm=>?_
        ·obtain ⟨ej,de,hm⟩:=bZ hm;refine Zg (Zii 6 de (ac.toSlF (Zj.int .u32))) ?_;rintro _ ek ⟨df,el,em,rfl,bh,bi⟩;refine ⟨_,rfl,?_⟩;replace bi:=bi.thaw (Zx .u32) bh ((Fz.refl (col:=al)).froz 2) (by decide);replace bh:=bh.thawR (col:=al);generalize Z6 a2.heap.size al df=en at *;refine go ?_;replace ab:=ab.gr bh;replace ab:=ab.recol 6 2 (by decide);replace bi:=bi.recolSelf 2 (by decide);replace aa:=aa.grow bh;replace aa:=aa.recol 6 2 (by decide) (by decide);exact ⟨aq,by omega,rfl,⟨_,_,_,_,_,rfl,hm,aa,ab,bi,rfl⟩⟩
        refine Zhw (Zfu ?_);refine Zu ?_;refine Wp.cutK [7,1000000] (fun f bj=>∃ ar ci cj b5 ck cl b6,Zes N (Vi N ae af) b5 b6=some r∧St w0 (Zi col) ar bj∧Zc (Za.int .u32) 79 1 ar bj ci cj b5∧Zc (Za.int .u32) 79 2 ar bj ck cl b6∧[5,6].map f=[.slice ci b5.length cj,.slice ck b6.length cl]) ?_ ?_
        ·intro f bj hJ;obtain ⟨ar,ci,cj,b5,ck,cl,b6,hm,aa,a3,dg,hs⟩:=hJ;rw [Zes.eq_1] at hm;refine .lL [5,6] hs<|go ?_;obtain ⟨b7,dh,hm⟩:=bZ hm;refine Zg (Zn6 7 dh ((dg.toSlF (Zj.int .u32)).froz 1) ((a3.froz 2 (by decide)).toSlF (Zj.int .u32))) ?_;rintro _ eo ⟨di,cy,cz,rfl,bk,bm⟩;refine ⟨_,rfl,?_⟩;replace bm:=bm.thaw (Zx .u32) bk (((Fz.refl (col:=ar)).froz 2).froz 1) (by decide);replace bk:=bk.thawR (col:=ar);generalize Z6 bj.heap.size ar di=ep at *;refine lM (.tuple #[.slice cy b7.1.length cz,.bool b7.2])<|lV (.slice cy b7.1.length cz) (Xh rfl rfl)<|lV (.bool b7.2) (Xh rfl rfl)<|go ?_;replace a3:=a3.gr bk;replace a3:=a3.recol 7 2 (by decide);replace bm:=bm.recolSelf 2 (by decide);replace aa:=aa.grow bk;replace aa:=aa.recol 7 2 (by decide) (by decide);exact ⟨af,by omega,rfl,⟨_,_,_,_,_,_,_,_,rfl,hm,aa,a3,bm,rfl⟩⟩
        refine go ?_;obtain ⟨eq,dj,hm⟩:=bZ hm;refine Zg (Zk2 dj ((ab.toSlF (Zj.int .u32)).froz 2) ((ac.froz 1 (by decide)).toSlF (Zj.int .u32))) ?_;rintro _ dk ⟨rfl,bn⟩;refine ⟨_,rfl,?_⟩;replace bn:Zf al a2 al dk:=.of_below bn;refine go ?_;replace ab:=ab.gr bn;replace ac:=ac.gr bn;replace aa:=aa.grow bn;refine Zo hm (fun hb hm=>go ?_) fun hb hm=>?_
        ·replace ac:=ac.recol 1 8 (by decide);replace ab:=ab.recolSelf 8 (by decide);replace aa:=aa.recol 1 8 (by decide) (by decide);replace ac:=ac.recolSelf 1 (by decide);replace ab:=ab.recol 2 1 (by decide);replace aa:=aa.recol 2 1 (by decide) (by decide);replace ac:=ac.recol 8 2 (by decide);replace ab:=ab.recolSelf 2 (by decide);replace aa:=aa.recol 8 2 (by decide) (by decide);exact ⟨rfl,_,_,_,_,_,_,_,hm,aa,ac,ab,rfl⟩
        refine X7 ?_;exact ⟨rfl,_,_,_,_,_,_,_,hm,aa,ab,ac,rfl⟩
       refine go ?_;refine X5 hm (fun cn hm=>go ?_) fun cn hm=>go ?_
       ·obtain ⟨dl,dm,hm⟩:=bZ hm;refine Zg (Zih dm (ac.toSlF (Zj.int .u32))) ?_;rintro _ dn ⟨rfl,bo⟩;refine ⟨_,rfl,?_⟩;replace bo:Zf ay bg ay dn:=.of_below bo;refine lV (.bool dl) (Xq (congrArg Value.bool cn) rfl)<|Zl ?_;replace ab:=ab.gr bo;replace ac:=ac.gr bo;replace aa:=aa.grow bo;exact ⟨rfl,_,_,hm,aa,ab,ac,rfl⟩
       refine lV (.bool false) (Xk (congrArg Value.bool cn) rfl)<|Zl ?_;exact ⟨rfl,_,_,hm,aa,ab,ac,rfl⟩
    refine Z2 [7,1000000] (fun n f b8=>∃ a4 co cp b9 cq a5,a5=n∧Zcr N ae a5 b9 cq=some r∧St w0 (Zi col) a4 b8∧Zc (Za.int .u32) 79 1 a4 b8 co cp b9∧[5,8].map f=[.slice co b9.length cp,.int .i64 cq]) N ⟨_,_,_,_,0,_,rfl,hm,aa,cw,rfl⟩ ?_;clear hm;intro n f b8 hI;obtain ⟨a4,co,cp,b9,cq,a5,hn,hm,aa,c0,hs⟩:=hI;subst hn;refine .lL [5,8] hs ?_
    cases a5 with
    | zero=>rw [Zcr.eq_1] at hm;cases hm
    | succ a5=>
     rw [Zcr.eq_2] at hm;refine go ?_;refine Zo hm (fun hb hm=>go ?_) fun hb hm=>go ?_
     ·obtain ⟨er,dp,hm⟩:=bZ hm;refine Zg (Zn7 9 dp (c0.toSlF (Zj.int .u32))) ?_;rintro _ es ⟨dq,et,eu,rfl,ca,bp⟩;refine ⟨_,rfl,?_⟩;replace bp:=bp.thaw (Zx .u32) ca ((Fz.refl (col:=a4)).froz 1) (by decide);replace ca:=ca.thawR (col:=a4);generalize Z6 b8.heap.size a4 dq=ew at *;refine go ?_;replace bp:=bp.recolSelf 1 (by decide);replace aa:=aa.grow ca;replace aa:=aa.recol 9 1 (by decide) (by decide);exact ⟨a5,by omega,rfl,⟨_,_,_,_,_,_,rfl,hm,aa,bp,rfl⟩⟩
     cases hm;exact ⟨rfl,_,_,_,rfl,aa.fin (cm [(1,c1)]),aa.fo c0⟩
  refine go ?_;obtain ⟨ey,dr,hm⟩:=bZ hm;refine Zg (Zih dr (ag.toSlF (Zj.int .u32))) ?_;rintro _ c2 ⟨rfl,bq⟩;refine ⟨_,rfl,?_⟩;replace bq:Zf am a6 am c2:=.of_below bq;refine Y0 rfl ?_;replace ag:=ag.gr bq;replace ad:=ad.gr bq;replace aa:=aa.grow bq;refine X5 hm (fun cr hm=>go ?_) fun cr hm=>go ?_
  ·obtain ⟨ds,dt,hm⟩:=bZ hm;refine Zg (Zih dt (ad.toSlF (Zj.int .u32))) ?_;rintro _ du ⟨rfl,br⟩;refine ⟨_,rfl,?_⟩;replace br:Zf am c2 am du:=.of_below br;refine lV (.bool ds) (Xq (congrArg Value.bool cr) rfl)<|Zl ?_;replace ag:=ag.gr br;replace ad:=ad.gr br;replace aa:=aa.grow br;exact ⟨rfl,_,_,hm,aa,ag,ad,rfl⟩
  refine lV (.bool false) (Xk (congrArg Value.bool cr) rfl)<|Zl ?_;exact ⟨rfl,_,_,hm,aa,ag,ad,rfl⟩
def Zgq (af:List Int) (ag:List Int) (ad:List Int) (aa:Int) (ae:Int) (kk_L1:(List Int→Int→Int→Option R2)):Option R2:=
  (Sf af ae).bind fun ab=>(Sf ag ae).bind fun ac=>Zw ((ad.length+[u32.wrap (Int.tmod (u64.wrap ((u64.wrap (aa+ab))+ac)) 4294967296)].length) * 4≤140737488355328∧ad.length+[u32.wrap (Int.tmod (u64.wrap ((u64.wrap (aa+ab))+ac)) 4294967296)].length≤maxLen) (kk_L1 (ad++[u32.wrap (Int.tmod (u64.wrap ((u64.wrap (aa+ab))+ac)) 4294967296)]) (u64.wrap (Int.tdiv (u64.wrap ((u64.wrap (aa+ab))+ac)) 4294967296)) (i64.wrap (ae+1)))
def Zbe (N:Nat) (ab:List Int) (ac:List Int) (aa:List Int) (ad:Int) (ae:Int) (kk_L1:(List Int→Int→Int→Option R2)) (af:Bool):Option R2:=
  if af=true then (Zgq ab ac aa ad ae kk_L1) else ((V4 N aa).bind fun ag=>some ag)
def Tq (N:Nat) (aa:List Int) (ab:List Int):Nat→R2→Int→Int→Option R2
  | 0,_,_,_=>none
  | ae+1,af,ad,ac=>if (decide (ac<(aa.length:Int)))=true then (Zbe N aa ab af ad ac (Tq N aa ab ae) true) else (if (decide (ac<(ab.length:Int)))=true then (Zbe N aa ab af ad ac (Tq N aa ab ae) true) else (Zbe N aa ab af ad ac (Tq N aa ab ae) (decide (0<ad))))
termination_by structural x=>x
def Zgp (N:Nat) (aa:List Int) (ab:List Int):Option R2:=
  Tq N aa ab N ([]:List Int) 0 0
theorem Zvx {N a3 a4:Nat} {a0 a1:Option Addr} {col:Zd} {w0:World} {ae ad r:R2} (c1:Nat) (hm:Zgp N ae ad=some r) (h0:Sl (Za.int .u32) col w0 a0 a3 ae) (h1:Sl (Za.int .u32) col w0 a1 a4 ad):
    Calls Tryz.prog 227 #[.slice a0 ae.length a3,.slice a1 ad.length a4] w0 (fun e w'=>∃ (col':Zd) (ra1:Option Addr) (rc2:Nat),e= .returned ((.slice ra1 r.length rc2))∧Zf col w0 col' w'∧Zc (Za.int .u32) 79 c1 col' w' ra1 rc2 r):=by
 refine Xc 4 (m:=43) func227 rfl rfl rfl rfl rfl ?_;rw [Zgp.eq_1] at hm;have aa:=St.start col w0;refine go ?_;refine Z2 [0,1,1000000] (fun n f av=>∃ aw ak al af ab ai ag,ag=n∧Tq N ae ad ag af ab ai=some r∧St w0 (Zi col) aw av∧Zc (Za.int .u32) 79 1 aw av ak al af∧[5,6,7].map f=[.slice ak af.length al,.int .u64 ab,.int .i64 ai]) N ⟨_,none,0,_,0,0,_,rfl,hm,aa,Zc.nil,rfl⟩ ?_;clear hm;intro n f av hI;obtain ⟨aw,ak,al,af,ab,ai,ag,hn,hm,aa,ac,hs⟩:=hI;subst hn;refine .lL [5,6,7] hs ?_;replace h0:=h0.keep (Zk.start col w0);replace h1:=h1.keep (Zk.start col w0)
 cases ag with
 | zero=>rw [Tq.eq_1] at hm;cases hm
 | succ ag=>
  rw [Tq.eq_2] at hm;refine Zu ?_;refine Wp.cutK [0,1,5,6,7,1000000] (fun f ao=>∃ ah,Zgq ae ad af ab ai (Tq N ae ad ag)=some r∧St w0 (Zi col) ah ao∧Zc (Za.int .u32) 79 1 ah ao ak al af) ?_ ?_
  ·intro f ao hJ;obtain ⟨ah,hm,aa,ac⟩:=hJ;rw [Zgq.eq_1] at hm;refine go ?_;obtain ⟨am,a7,hm⟩:=bZ hm;refine Zg (Zbx a7 (h0.ks aa)) ?_;rintro _ a5 ⟨rfl,ap⟩;refine ⟨_,rfl,?_⟩;replace ap:Zf ah ao ah a5:=.of_below ap;refine go ?_;obtain ⟨an,a8,hm⟩:=bZ hm;replace aa:=aa.grow ap;refine Zg (Zbx a8 (h1.ks aa)) ?_;rintro _ a9 ⟨rfl,aq⟩;refine ⟨_,rfl,?_⟩;replace aq:Zf ah a5 ah a9:=.of_below aq;refine go ?_;refine lV (.int .u64 (Int.tmod (u64.wrap ((u64.wrap (ab+am))+an)) 4294967296)) (Tw (u64.wrap ((u64.wrap (ab+am))+an)) 4294967296 rfl rfl (by decide))<|go ?_;refine Vd (col:=ah) [u32.wrap (Int.tmod (u64.wrap ((u64.wrap (ab+am))+an)) 4294967296)] 2 ?_;intro bg bh bi a6 ba;obtain ⟨bb,hm⟩:=Z0 hm;replace ac:=((ac.gr ap).gr aq).gr a6;refine V2 ac (ba.srcN (NB.int (k:=.u32))) bb ?_;intro bj bk bm bn bc bd;refine go ?_;refine lV (.int .u64 (u64.wrap (Int.tdiv (u64.wrap ((u64.wrap (ab+am))+an)) 4294967296))) (Vl (u64.wrap ((u64.wrap (ab+am))+an)) 4294967296 rfl rfl (by decide))<|go ?_;replace aa:=((aa.grow aq).grow a6).kpp bc;exact ⟨ag,by omega,rfl,⟨_,_,_,_,_,_,_,rfl,hm,aa,bd,rfl⟩⟩
  refine Zu ?_;refine Wp.cutK [0,1,5,6,7,1000000] (fun f ar=>∃ aj ax,Zbe N ae ad af ab ai (Tq N ae ad ag) ax=some r∧St w0 (Zi col) aj ar∧Zc (Za.int .u32) 79 1 aj ar ak al af∧[21].map f=[.bool ax]) ?_ ?_
  ·intro f ar hJ;obtain ⟨aj,ax,hm,aa,ac,hs⟩:=hJ;rw [Zbe.eq_1] at hm;refine .lL [21] hs ?_;refine Zo hm (fun hb hm=>?_) fun hb hm=>go ?_
   ·refine X7 ?_;exact ⟨rfl,_,hm,aa,ac⟩
   obtain ⟨bo,be,hm⟩:=bZ hm;refine Zg (Tg 3 be (ac.toSlF (Zj.int .u32))) ?_;rintro _ bp ⟨bf,bq,br,rfl,au,ay⟩;refine ⟨_,rfl,?_⟩;replace ay:=ay.thaw (Zx .u32) au ((Fz.refl (col:=aj)).froz 1) (by decide);replace au:=au.thawR (col:=aj);generalize Z6 ar.heap.size aj bf=bs at *;refine go ?_;cases hm;replace aa:=aa.grow au;exact ⟨rfl,_,_,_,rfl,aa.fin (cm [(3,c1)]),aa.fo ay⟩
  refine go ?_;refine X5 hm (fun az hm=>go ?_) fun az hm=>go ?_
  ·refine lV (.bool true) (Xq (congrArg Value.bool az) rfl)<|Y0 rfl<|lP 18 rfl rfl<|lP 18 rfl rfl<|lV (.bool true) (Xq rfl rfl)<|Zl ?_;exact ⟨rfl,_,_,hm,aa,ac,rfl⟩
  refine lV (.bool (decide (ai<(ad.length:Int)))) (Xk (congrArg Value.bool az) rfl)<|Y0 rfl ?_;refine X5 hm (fun a2 hm=>go ?_) fun a2 hm=>go ?_
  ·refine lV (.bool true) (Xq (congrArg Value.bool a2) rfl)<|Zl ?_;exact ⟨rfl,_,_,hm,aa,ac,rfl⟩
  refine lV (.bool (decide (0<ab))) (Xk (congrArg Value.bool a2) rfl)<|Zl ?_;exact ⟨rfl,_,_,hm,aa,ac,rfl⟩
def Zeu (N:Nat) (aa:Int):Option R2:=
  (V4 N [u32.wrap (Int.tmod aa 4294967296),u32.wrap (u64.wrap (Int.tdiv aa 4294967296))]).bind fun ab=>some ab
theorem Zn5 {N:Nat} {col:Zd} {w0:World} {aa:Int} {r:R2} (c1:Nat) (hm:Zeu N aa=some r):
    Calls Tryz.prog 229 #[.int .u64 aa] w0 (fun e w'=>∃ (col':Zd) (ra1:Option Addr) (rc2:Nat),e= .returned ((.slice ra1 r.length rc2))∧Zf col w0 col' w'∧Zc (Za.int .u32) 79 c1 col' w' ra1 rc2 r):=by
 refine Xc 2 (m:=11) func229 rfl rfl rfl rfl rfl ?_;rw [Zeu.eq_1] at hm;have ab:=St.start col w0;refine go ?_;refine lV (.int .u64 (Int.tmod aa 4294967296)) (Tw aa 4294967296 rfl rfl (by decide))<|go ?_;refine lV (.int .u64 (u64.wrap (Int.tdiv aa 4294967296))) (Vl aa 4294967296 rfl rfl (by decide))<|go ?_;refine Vd (col:=(Zi col)) [u32.wrap (Int.tmod aa 4294967296),u32.wrap (u64.wrap (Int.tdiv aa 4294967296))] 1 ?_;intro ak af ad ag ah;obtain ⟨al,ai,hm⟩:=bZ hm;refine Zg (Tg 2 ai (ah.toSlF (Zj.int .u32))) ?_;rintro _ am ⟨aj,an,ao,rfl,ac,ae⟩;refine ⟨_,rfl,?_⟩;replace ae:=ae.thaw (Zx .u32) ac ((Fz.refl (col:=ad)).froz 1) (by decide);replace ac:=ac.thawR (col:=ad);generalize Z6 af.heap.size ad aj=ap at *;refine go ?_;cases hm;replace ab:=(ab.grow ag).grow ac;exact ⟨rfl,_,_,_,rfl,ab.fin (cm [(2,c1)]),ab.fo ae⟩
theorem Zs9 (N:Nat) (a:List Int) (hb:a.length≤1099511627776):∀ (n j:Nat),j≤a.length→Zad N a n (j:Int)=U3 N n (a.take j)
 | 0,j,_=>rfl
 | n+1,j,hj=>by
  have hl:(a.take j).length=j:=by rw [List.length_take];omega
  have ht:0<j→Zn (a.take j) ((j - 1:Nat):Int)=Zn a ((j - 1:Nat):Int):=fun h=>by rw [Zdb,Zdb,List.getElem?_take,if_pos (by omega)]
  rw [Zad.eq_2,U3.eq_2,hl]
  by_cases h0:0<j
  ·have e:(j:Int) - 1=((j - 1:Nat):Int):=by omega
   rw [if_pos (decide_eq_true (by omega)),if_pos (decide_eq_true (by omega)),Zy (by omega),e,ht h0,Xb (by omega),Option.bind_some,Option.bind_some,Zet,Q9,hl,Zy (by omega),e,Int.toNat_natCast,Int.toNat_natCast]
   by_cases hx:a[j - 1]=0
   ·rw [if_pos (decide_eq_true hx),if_pos (decide_eq_true hx),Xd (by omega),Zs9 N a hb n (j - 1) (by omega),List.take_take,Nat.min_eq_left (by omega)]
   ·rw [if_neg (by rw [decide_eq_false hx];decide),if_neg (by rw [decide_eq_false hx];decide),Xd (by omega),Xd (by rw [hl];simp only [List.length_nil,maxLen];omega),List.nil_append]
  ·have:j=0:=by omega
   subst this
   rw [if_neg (by decide),if_neg (by decide),Zet,Q9,if_neg (by decide),if_neg (by decide),Xd (by omega)]
   exact Xd (by simp [maxLen])
theorem Tz {N:Nat} {a:List Int} (h:Zm a) (hn:a.length<N) (hb:a.length≤1099511627776):V4 N a=some (Ze (Zb a)):=by
 rw [V4,Zs9 N a hb N a.length (Nat.le_refl _),List.take_length]
 exact Zkf N N a h hn (by omega)
theorem Ztb {N:Nat} {u:Int} (h:0≤u∧u<18446744073709551616) (hn:2<N):Zeu N u=some (Ze u.toNat):=by
 have e1:u32.wrap (Int.tmod u 4294967296)=u % 4294967296:=by rw [Int.tmod_eq_emod_of_nonneg h.1,Vm (by omega)]
 have e2:u32.wrap (u64.wrap (Int.tdiv u 4294967296))=u / 4294967296:=by rw [Int.tdiv_eq_ediv_of_nonneg h.1,Xe (by omega),Vm (by omega)]
 have hl:Zm [u % 4294967296,u / 4294967296]:=.cons (by omega) (.cons (by omega) .nil)
 have e:Zb [u % 4294967296,u / 4294967296]=u.toNat:=by rw [Yv,Yv,Ye];omega
 rw [Zeu,e1,e2,Tz hl (by simpa using hn) (by simp),Option.bind_some,e]
theorem Zb3 {a:List Int} (h:Zm a) (k:Nat):Sf a (k:Int)=some ((Xp a k:Nat):Int):=by
 rw [Sf]
 by_cases hk:k<a.length
 ·have:=h.get hk
  rw [if_pos (decide_eq_true (by omega)),Xb hk,Option.bind_some,Xe (by omega),Xp,List.getD_eq_getElem?_getD,List.getElem?_eq_getElem hk,Option.getD_some]
  congr 1;omega
 ·rw [if_neg (by rw [decide_eq_false (by omega)];decide),Xp,List.getD_eq_getElem?_getD,List.getElem?_eq_none (by omega)];rfl
theorem Zjy {a:List Int} (h:Zm a) (k:Nat):Zb (a.take k)<4294967296 ^ k:=by
 have h1:=Tt (h.take k)
 refine Nat.lt_of_lt_of_le h1 (Nat.pow_le_pow_right (by decide) ?_)
 rw [List.length_take];omega
theorem Zm1 (N:Nat) (a b:List Int) (ha:Zm a) (hb:Zm b):∀ (n i:Nat),i<4611686018427387904→i<n→Zb (a.drop i)=Zb (b.drop i)→Zcp N a b n ((i:Int) - 1)=some (if Zb a<Zb b then -1 else if Zb b<Zb a then 1 else 0)
 | 0,i,_,h,_=>by omega
 | n+1,i,hi,hn,he=>by
  rw [Zcp.eq_2]
  by_cases h0:i=0
  ·subst h0
   rw [if_neg (by decide)]
   rw [List.drop_zero,List.drop_zero] at he
   rw [if_neg (by omega),if_neg (by omega)]
  ·have e:(i:Int) - 1=((i - 1:Nat):Int):=by omega
   have e1:i - 1+1=i:=by omega
   rw [if_pos (decide_eq_true (by omega)),e,Zb3 ha,Zb3 hb,Option.bind_some,Option.bind_some]
   have va:=Ug a (i - 1)
   have vb:=Ug b (i - 1)
   rw [Uf a,e1] at va
   rw [Uf b,e1,← he] at vb
   have la:=Zjy ha (i - 1)
   have lb:=Zjy hb (i - 1)
   have key:∀ x y:Nat,x<y→4294967296 ^ (i - 1) * (x+4294967296 * Zb (a.drop i))+4294967296 ^ (i - 1)≤4294967296 ^ (i - 1) * (y+4294967296 * Zb (a.drop i)):=fun x y hxy=>by
    rw [← Nat.mul_succ];exact Nat.mul_le_mul_left _ (by omega)
   generalize 4294967296 ^ (i - 1)=Q at *
   by_cases hlt:Xp a (i - 1)<Xp b (i - 1)
   ·have:=key _ _ hlt
    rw [if_pos (decide_eq_true (by omega)),if_pos (by omega)]
   ·rw [if_neg (by rw [decide_eq_false (by omega)];decide)]
    by_cases hgt:Xp b (i - 1)<Xp a (i - 1)
    ·have:=key _ _ hgt
     rw [if_pos (decide_eq_true (by omega)),if_neg (by omega),if_pos (by omega)]
    ·rw [if_neg (by rw [decide_eq_false (by omega)];decide),Zy (by omega)]
     exact Zm1 N a b ha hb n (i - 1) (by omega) (by omega) (by rw [Uf a,Uf b,e1,he];omega)
theorem Zm2 {N:Nat} {a b:List Int} (ha:Zm a) (hb:Zm b) (h1:a.length<N) (h2:b.length<N) (h3:a.length≤1099511627776) (h4:b.length≤1099511627776):
  Zco N a b=some (if Zb a<Zb b then -1 else if Zb b<Zb a then 1 else 0):=by
 have dz:∀ (l:List Int) (k:Nat),l.length≤k→Zb (l.drop k)=0:=fun l k h=>by rw [List.drop_eq_nil_of_le h];rfl
 rw [Zco]
 by_cases h:a.length<b.length
 ·rw [if_pos (decide_eq_true (by omega)),Zeo,Zy (by omega)]
  exact Zm1 N a b ha hb N b.length (by omega) h2 (by rw [dz a _ (by omega),dz b _ (by omega)])
 ·rw [if_neg (by rw [decide_eq_false (by omega)];decide),Zeo,Zy (by omega)]
  exact Zm1 N a b ha hb N a.length (by omega) h1 (by rw [dz a _ (by omega),dz b _ (by omega)])
theorem Zub {s:Int} (h:0≤s∧s<18446744073709551616):u32.wrap (Int.tmod s 4294967296)=((s.toNat % 4294967296:Nat):Int):=by
 rw [Int.tmod_eq_emod_of_nonneg h.1,Vm (by omega)];omega
theorem Zua {s:Int} (h:0≤s∧s<18446744073709551616):u64.wrap (Int.tdiv s 4294967296)=((s.toNat / 4294967296:Nat):Int):=by
 rw [Int.tdiv_eq_ediv_of_nonneg h.1,Xe (by omega)];omega
theorem Zmo {S Q A B C:Nat} (h:A=B+4294967296 * C):S+Q * B+Q * 4294967296 * C=S+Q * A:=by
 subst h;grind
theorem Zsq (N:Nat) (a b:List Int) (ha:Zm a) (hb:Zm b) (hN:a.length+b.length+2<N) (hs:a.length+b.length<1099511627000):∀ (n i:Nat) (out:List Int) (c:Nat),out.length=i→Zm out→c≤1→i≤a.length+b.length+2→(i≤a.length+b.length+1∨c=0)→a.length+b.length+3≤n+i→
  Tq N a b n out (c:Int) (i:Int)=some (Ze (Zb out+4294967296 ^ i * (c+Zb (a.drop i)+Zb (b.drop i))))
 | 0,i,out,c,_,_,_,h1,_,h2=>by omega
 | n+1,i,out,c,ho,hO,hc,h1,h2,h3=>by
  have go:(i<a.length∨i<b.length∨0<c)→Zgq a b out (c:Int) (i:Int) (Tq N a b n)=some (Ze (Zb out+4294967296 ^ i * (c+Zb (a.drop i)+Zb (b.drop i)))):=fun hgo=>by
   have la:=Zb2 ha i
   have lb:=Zb2 hb i
   have es:u64.wrap (u64.wrap ((c:Int)+((Xp a i:Nat):Int))+((Xp b i:Nat):Int))=((c+Xp a i+Xp b i:Nat):Int):=by
    rw [Xe (x:=(c:Int)+_) (by omega),Xe (by omega)];omega
   rw [Zgq,Zb3 ha,Zb3 hb,Option.bind_some,Option.bind_some,es,Zub (by omega),Zua (by omega),Int.toNat_natCast]
   generalize hsum:c+Xp a i+Xp b i=s
   rw [Xd (by simp only [List.length_singleton,maxLen];omega),Zy (by omega)]
   have ih:=Zsq N a b ha hb hN hs n (i+1) (out++[((s % 4294967296:Nat):Int)]) (s / 4294967296) (by simp [ho]) (hO.app (.cons (by omega) .nil)) (by omega) (by omega) (by
    by_cases hi:i<a.length∨i<b.length
    ·omega
    ·right
     have za:Xp a i=0:=by rw [Xp,List.getD_eq_getElem?_getD,List.getElem?_eq_none (by omega)];rfl
     have zb:Xp b i=0:=by rw [Xp,List.getD_eq_getElem?_getD,List.getElem?_eq_none (by omega)];rfl
     omega) (by omega)
   rw [show ((i+1:Nat):Int)=(i:Int)+1 by omega] at ih
   rw [ih,Ts,ho,Yv,Ye,Int.toNat_natCast,Uf a i,Uf b i,Nat.pow_succ]
   congr 2
   rw [Nat.mul_zero,Nat.add_zero]
   refine Zmo ?_
   omega
  rw [Tq.eq_2]
  by_cases hia:i<a.length
  ·rw [if_pos (decide_eq_true (by omega)),Zbe,if_pos rfl];exact go (.inl hia)
  ·rw [if_neg (by rw [decide_eq_false (by omega)];decide)]
   by_cases hib:i<b.length
   ·rw [if_pos (decide_eq_true (by omega)),Zbe,if_pos rfl];exact go (.inr (.inl hib))
   ·rw [if_neg (by rw [decide_eq_false (by omega)];decide),Zbe]
    by_cases hcp:0<c
    ·rw [if_pos (decide_eq_true (by omega))];exact go (.inr (.inr hcp))
    ·have:c=0:=by omega
     subst this
     rw [if_neg (by decide),Tz hO (by omega) (by omega),Option.bind_some,List.drop_eq_nil_of_le (by omega),List.drop_eq_nil_of_le (by omega),Ye]
     simp
theorem Z0r {N:Nat} {a b:List Int} (ha:Zm a) (hb:Zm b) (hN:a.length+b.length+3<N) (hs:a.length+b.length<1099511627000):Zgp N a b=some (Ze (Zb a+Zb b)):=by
 have:=Zsq N a b ha hb (by omega) hs N 0 [] 0 rfl .nil (by omega) (by omega) (by omega) (by omega)
 rw [List.drop_zero,List.drop_zero,Ye,Nat.pow_zero] at this
 rw [Zgp,show (0:Int)=((0:Nat):Int) from rfl,this]
 simp
theorem Ztj (N:Nat) (a b:List Int) (ha:Zm a) (hb:Zm b) (hN:a.length<N) (hs:a.length<1099511627776):∀ (n i:Nat) (out:List Int) (c:Nat),out.length=i→Zm out→c≤1→i≤a.length→a.length<n+i→c+Zb (b.drop i)≤Zb (a.drop i)→
  Se N a b n out (c:Int) (i:Int)=some (Ze (Zb out+4294967296 ^ i * (Zb (a.drop i) - (c+Zb (b.drop i)))),true)
 | 0,i,out,c,_,_,_,h1,h2,_=>by omega
 | n+1,i,out,c,ho,hO,hc,h1,h2,h3=>by
  rw [Se.eq_2]
  by_cases hi:i<a.length
  ·have la:=Zb2 ha i
   have lb:=Zb2 hb i
   rw [Uf a i,Uf b i] at h3
   have go:∀ (c':Nat) (x:Int),c'≤1→x=((Xp a i+4294967296 * c':Nat):Int)→Xp b i+c≤Xp a i+4294967296 * c'→Xp a i+4294967296 * c'<Xp b i+c+4294967296→Zew out (c:Int) (i:Int) (Se N a b n) ((Xp b i:Nat):Int) (c':Int) x=some (Ze (Zb out+4294967296 ^ i * (Zb (a.drop i) - (c+Zb (b.drop i)))),true):=fun c' x hc' hx h5 h6=>by
    have ev:u32.wrap (u64.wrap (x - u64.wrap (((Xp b i:Nat):Int)+(c:Int))))=((Xp a i+4294967296 * c' - (Xp b i+c):Nat):Int):=by
     rw [Xe (x:=((Xp b i:Nat):Int)+(c:Int)) (by omega),Xe (by omega),Vm (by omega)];omega
    rw [Zew,ev,Xd (by simp only [List.length_singleton,maxLen];omega),Zi9,Zy (by omega)]
    generalize hv:Xp a i+4294967296 * c' - (Xp b i+c)=v
    have ih:=Ztj N a b ha hb hN hs n (i+1) (out++[(v:Int)]) c' (by simp [ho]) (hO.app (.cons (by omega) .nil)) hc' (by omega) (by omega) (by omega)
    rw [show ((i+1:Nat):Int)=(i:Int)+1 by omega] at ih
    rw [ih,Ts,ho,Yv,Ye,Int.toNat_natCast,Uf a i,Uf b i,Nat.pow_succ,Nat.mul_zero,Nat.add_zero]
    congr 3
    refine Zmo ?_
    omega
   rw [if_pos (decide_eq_true (by omega)),Zb3 ha,Zb3 hb,Option.bind_some,Option.bind_some,Xe (x:=((Xp b i:Nat):Int)+(c:Int)) (by omega)]
   by_cases hlt:Xp a i<Xp b i+c
   ·rw [if_pos (decide_eq_true (by omega))]
    exact go 1 _ (by omega) (by rw [Xe (by omega)];omega) (by omega) (by omega)
   ·rw [if_neg (by rw [decide_eq_false (by omega)];decide)]
    exact go 0 _ (by omega) (by omega) (by omega) (by omega)
  ·rw [if_neg (by rw [decide_eq_false (by omega)];decide),Tz hO (by omega) (by omega),Option.bind_some]
   rw [List.drop_eq_nil_of_le (show a.length≤i by omega),Ye] at h3 ⊢
   rw [show 0 - (c+Zb (b.drop i))=0 by omega]
   simp
theorem Zm8 {N:Nat} {a b:List Int} (ha:Zm a) (hb:Zm b) (h1:a.length<N) (h2:b.length<N) (h3:a.length<1099511627776) (h4:b.length<1099511627776):
  Zev N a b=some (if Zb a<Zb b then ([],false) else (Ze (Zb a - Zb b),true)):=by
 rw [Zev,Zm2 ha hb h1 h2 (by omega) (by omega),Option.bind_some]
 by_cases h:Zb a<Zb b
 ·rw [if_pos h,if_pos (by decide),if_pos h]
 ·have:=Ztj N a b ha hb h1 h3 N 0 [] 0 rfl .nil (by omega) (by omega) (by omega) (by simpa using Nat.le_of_not_lt h)
  rw [if_neg h,if_neg (by split <;> decide),if_neg h,show (0:Int)=((0:Nat):Int) from rfl,this]
  simp [Ye]
theorem Zss (N:Nat):∀ (n:Nat) (c:Int) (t:Nat),Z3 t<n→t<4294967296→0≤c∧c+(Z3 t:Int)≤4611686018427387904→Zcn N n c (t:Int)=some (c+(Z3 t:Int))
 | 0,c,t,h,_,_=>by omega
 | n+1,c,t,h,ht,hc=>by
  rw [Zcn.eq_2]
  have hb:Z3 t≤32:=Vc.2 (by omega)
  by_cases h0:0<t
  ·have e:u32.wrap (Int.tdiv (t:Int) 2)=((t / 2:Nat):Int):=by rw [Int.tdiv_eq_ediv_of_nonneg (by omega),Vm (by omega)];omega
   have hs:=Zfo t 1
   rw [Nat.pow_one] at hs
   have h1:1≤Z3 t:=by rw [Z3,if_neg (by omega)];omega
   rw [if_pos (decide_eq_true (by omega)),e,Zy (by omega),Zss N n (c+1) (t / 2) (by omega) (by omega) (by omega)]
   congr 1;omega
  ·have:t=0:=by omega
   subst this
   rw [if_neg (by decide),Zdc];simp
theorem Z0u {N:Nat} {a:List Int} (h:Zm a) (hn:a.length+32<N) (hb:a.length≤1099511627776):Zgs N a=some ((Z3 (Zb a):Nat):Int):=by
 have hl:=Ym h
 rw [Zgs,Tz h (by omega) hb,Option.bind_some]
 by_cases h0:(Ze (Zb a)).length=0
 ·have:Zb a=0:=Zdo.1 (List.eq_nil_of_length_eq_zero h0)
  rw [if_pos (decide_eq_true (by omega)),this,Zdc];rfl
 ·have hp:0<(Ze (Zb a)).length:=by omega
  have e:((Ze (Zb a)).length:Int) - 1=(((Ze (Zb a)).length - 1:Nat):Int):=by omega
  have hx:=(Z5 (Zb a)).get (k:=(Ze (Zb a)).length - 1) (by omega)
  have hne:=Ziw hp
  have hs:=Zdn hp
  have e2:(Ze (Zb a))[(Ze (Zb a)).length - 1]=(((Ze (Zb a))[(Ze (Zb a)).length - 1]).toNat:Int):=by omega
  have hb2:Z3 ((Ze (Zb a))[(Ze (Zb a)).length - 1]).toNat≤32:=Vc.2 (by omega)
  rw [if_neg (by rw [decide_eq_false (by omega)];decide),Zy (by omega),e,Xb (by omega),Option.bind_some,e2,Zy (by omega),Zss N N _ _ (by omega) (by omega) (by omega)]
  have hb:=Znr (a:=(Ze (Zb a)).take ((Ze (Zb a)).length - 1)) (x:=(Ze (Zb a))[(Ze (Zb a)).length - 1]) ((Z5 _).take _) (by omega)
  rw [hs,Z1,List.length_take,Nat.min_eq_left (by omega)] at hb
  rw [hb]
  congr 1
theorem Zu0 (T l R k s:Nat) (hT:T<4294967296 ^ k) (hs:s<32):(T+4294967296 ^ k * (l+4294967296 * R)) / 2 ^ (32 * k+s) % 2=l / 2 ^ s % 2:=by
 have e:(4294967296:Nat) ^ k=2 ^ (32 * k):=by rw [show (4294967296:Nat)=2 ^ 32 by decide,← Nat.pow_mul]
 have hp:0<4294967296 ^ k:=Nat.pow_pos (by decide)
 rw [Nat.pow_add,← e,← Nat.div_div_eq_div_mul,Nat.add_mul_div_left _ _ hp,Nat.div_eq_of_lt hT,Nat.zero_add]
 have pw:(4294967296:Nat)=2 ^ s * (2 * 2 ^ (31 - s)):=by
  rw [Nat.mul_left_comm,← Nat.pow_add,show s+(31 - s)=31 by omega]
 have e2:l+4294967296 * R=l+2 ^ s * (2 * (2 ^ (31 - s) * R)):=by
  conv=>lhs;rw [pw]
  rw [Nat.mul_assoc,Nat.mul_assoc]
 rw [e2,Nat.add_mul_div_left _ _ (Nat.two_pow_pos s),Nat.add_mul_mod_self_left]
theorem Z0t {a:List Int} (h:Zm a) {i:Nat} (hi:i<4611686018427387904):Zgr a (i:Int)=some ((Zb a / 2 ^ i % 2:Nat):Int):=by
 have hl:=Zb2 h (i / 32)
 have e1:i64.wrap (Int.tdiv (i:Int) 32)=((i / 32:Nat):Int):=by rw [Int.tdiv_eq_ediv_of_nonneg (by omega),Zy (by omega)];omega
 have e2:Int.tmod (i:Int) 32=((i % 32:Nat):Int):=by rw [Int.tmod_eq_emod_of_nonneg (by omega)];omega
 rw [Zgr,e1,Zb3 h,Option.bind_some,e2,Xd (by omega),Zkc _ _ _ (by simp only [IntKind.bits];omega)]
 have hd:=Nat.div_le_self (Xp a (i / 32)) (2 ^ (i % 32))
 have e3:=Zu0 (Zb (a.take (i / 32))) (Xp a (i / 32)) (Zb (a.drop (i / 32+1))) (i / 32) (i % 32) (Zjy h _) (by omega)
 rw [← Uf a,← Ug,show 32 * (i / 32)+i % 32=i by omega] at e3
 rw [e3]
 generalize Xp a (i / 32) / 2 ^ (i % 32)=x at *
 rw [Vm (by omega),Int.tmod_eq_emod_of_nonneg (by omega)]
 congr 1
theorem Zsw (N:Nat) (a:List Int) (ha:Zm a) (hs:a.length<1099511627776):∀ (n i:Nat) (out:List Int) (c:Nat),out.length=i→Zm out→c≤1→i≤a.length→a.length<n+i→
  ∃ o,Zcs N a n out (c:Int) (i:Int)=some o∧o.length≤a.length+1∧Zm o∧Zb o=Zb out+4294967296 ^ i * (c+2 * Zb (a.drop i))
 | 0,i,out,c,_,_,_,h1,h2=>by omega
 | n+1,i,out,c,ho,hO,hc,h1,h2=>by
  rw [Zcs.eq_2]
  by_cases hi:i<a.length
  ·have ga:=ha.get hi
   have es:u64.wrap ((c:Int)+u64.wrap (2 * u64.wrap a[i]))=((c+2 * (a[i]).toNat:Nat):Int):=by
    rw [Xe (x:=a[i]) (by omega),Xe (x:=2 * _) (by omega),Xe (by omega)];omega
   rw [if_pos (decide_eq_true (by omega)),Xb hi,Option.bind_some,es,Zub (by omega),Zua (by omega),Int.toNat_natCast]
   generalize hS:c+2 * (a[i]).toNat=S
   rw [Xd (by simp only [List.length_singleton,maxLen];omega),Zy (by omega)]
   obtain ⟨o,q1,q2,q3,q4⟩:=Zsw N a ha hs n (i+1) (out++[((S % 4294967296:Nat):Int)]) (S / 4294967296) (by simp [ho]) (hO.app (.cons (by omega) .nil)) (by omega) (by omega) (by omega)
   rw [show ((i+1:Nat):Int)=(i:Int)+1 by omega] at q1
   refine ⟨o,q1,q2,q3,?_⟩
   rw [q4,Ts,ho,Yv,Ye,Int.toNat_natCast,Vs hi,Nat.pow_succ,Nat.mul_zero,Nat.add_zero]
   refine Zmo ?_
   omega
  ·have hia:i=a.length:=by omega
   rw [if_neg (by rw [decide_eq_false (by omega)];decide)]
   by_cases hcp:0<c
   ·rw [if_pos (decide_eq_true (by omega)),Xd (by simp only [List.length_singleton,maxLen];omega),Zey,Vm (by omega)]
    refine ⟨_,rfl,by simp;omega,hO.app (.cons (by omega) .nil),?_⟩
    rw [Ts,ho,Yv,Ye,Int.toNat_natCast,List.drop_eq_nil_of_le (by omega),Ye]
   ·have:c=0:=by omega
    subst this
    rw [if_neg (by decide),Zey]
    refine ⟨_,rfl,by omega,hO,?_⟩
    rw [List.drop_eq_nil_of_le (by omega),Ye];simp
theorem Zsx {N:Nat} {a:List Int} {c:Nat} (ha:Zm a) (hc:c≤1) (hN:a.length<N) (hs:a.length<1099511627776):∃ o,Zex N a (c:Int)=some o∧o.length≤a.length+1∧Zm o∧Zb o=2 * Zb a+c:=by
 obtain ⟨o,q1,q2,q3,q4⟩:=Zsw N a ha hs N 0 [] c rfl .nil hc (by omega) (by omega)
 refine ⟨o,?_,q2,q3,?_⟩
 ·rw [Zex,Xe (by omega)];exact q1
 ·rw [q4,Ye,Nat.pow_zero,List.drop_zero];omega
theorem Zya (Q e o2 r S v L:Nat) (h:r * 4294967296+e=2 * v+o2) (hS:S=Q * (o2+2 * (v+4294967296 * L))):S=Q * e+Q * 4294967296 * (r+2 * L):=by
 subst hS
 have:Q * (r * 4294967296+e)=Q * (2 * v+o2):=by rw [h]
 grind
theorem Zs7 (N:Nat) (a:List Int) (ha:Zm a) (hN:a.length<N) (hs:a.length<1099511627776):∀ (n j:Nat) (out:List Int) (r:Nat),out.length=a.length→Zm out→r≤1→j≤a.length→j<n→Zb (out.take j)=0→
  ∃ v,Zct N a n out (r:Int) ((j:Int) - 1)=some (Ze v)∧∃ ρ,ρ≤1∧2 * v+ρ=Zb (a.take j)+4294967296 ^ j * (r+2 * Zb (out.drop j))
 | 0,j,out,r,_,_,_,_,h,_=>by omega
 | n+1,j,out,r,ho,hO,hr,hj,hn,hz=>by
  rw [Zct.eq_2]
  by_cases h0:j=0
  ·subst h0
   rw [if_neg (by decide),Tz hO (by omega) (by omega),Option.bind_some]
   refine ⟨_,rfl,r,hr,?_⟩
   rw [List.take_zero,Ye,List.drop_zero,Nat.pow_zero];omega
  ·have e:(j:Int) - 1=((j - 1:Nat):Int):=by omega
   have e1:j - 1+1=j:=by omega
   have hk:j - 1<a.length:=by omega
   have g:=ha.get hk
   have es:u64.wrap (u64.wrap ((r:Int) * 4294967296)+u64.wrap a[j - 1])=((r * 4294967296+(a[j - 1]).toNat:Nat):Int):=by
    rw [Xe (x:=a[j - 1]) (by omega),Xe (x:=(r:Int) * 4294967296) (by omega),Xe (by omega)];omega
   rw [if_pos (decide_eq_true (by omega)),e,Xb hk,Option.bind_some,Xb (by omega),Option.bind_some,Option.bind_some,Int.toNat_natCast,es,Zy (by omega)]
   generalize hS:r * 4294967296+(a[j - 1]).toNat=S
   have e2:u32.wrap (u64.wrap (Int.tdiv (S:Int) 2))=((S / 2:Nat):Int):=by rw [Int.tdiv_eq_ediv_of_nonneg (by omega),Xe (by omega),Vm (by omega)];omega
   have e3:Int.tmod (S:Int) 2=((S % 2:Nat):Int):=by rw [Int.tmod_eq_emod_of_nonneg (by omega)];omega
   have zt:Zb (out.take (j - 1))=0:=by
    have:=Ug (out.take j) (j - 1)
    rw [List.take_take,Nat.min_eq_left (by omega),hz] at this
    omega
   rw [e2,e3]
   obtain ⟨v,q1,ρ,q2,q3⟩:=Zs7 N a ha hN hs n (j - 1) (out.set (j - 1) ((S / 2:Nat):Int)) (S % 2) (by rw [List.length_set];exact ho) (hO.set _ (by omega)) (by omega) (by omega) (by omega) (by rw [Zbt _ (Nat.le_refl _)];exact zt)
   refine ⟨v,q1,ρ,q2,?_⟩
   rw [q3]
   have t1:=Zmj hk
   have t2:Zb ((out.set (j - 1) ((S / 2:Nat):Int)).drop (j - 1))=S / 2+4294967296 * Zb (out.drop (j - 1+1)):=by
    rw [Vs (by rw [List.length_set];omega),List.getElem_set_self,Qo _ (by omega),Int.toNat_natCast]
   rw [e1] at t1 t2
   have hp:(4294967296:Nat) ^ j=4294967296 ^ (j - 1) * 4294967296:=by rw [← Nat.pow_succ,show (j - 1).succ=j by omega]
   rw [t1,t2,hp,Nat.add_assoc]
   congr 1
   exact Zya _ _ (S % 2) _ _ (S / 2) _ (by omega) rfl
theorem Zkb {N:Nat} {a:List Int} (ha:Zm a) (hN:a.length<N) (hs:a.length<1099511627776):Zbg N a=some (Ze (Zb a / 2)):=by
 obtain ⟨v,q1,ρ,q2,q3⟩:=Zs7 N a ha hN hs N a.length (List.replicate a.length 0) 0 (by rw [List.length_replicate]) (.zeros _) (by omega) (Nat.le_refl _) hN (by rw [List.take_replicate];exact Tu _)
 rw [Zbg,Xd (by simp only [maxLen];omega),Zy (by omega)]
 rw [List.take_length,List.drop_replicate,Tu] at q3
 refine Eq.trans q1 ?_
 rw [show v=Zb a / 2 by omega]
theorem Zzj {a:List Int} (h:Zm a):Zb a % 2=Xp a 0 % 2:=by
 have:=Uf a 0
 rw [List.drop_zero] at this
 omega
theorem Zka {a:List Int} (h:Zm a):Zbf a=some (decide (Zb a % 2=0)):=by
 rw [Zbf,Zzj h]
 by_cases h0:a.length=0
 ·have:a=[]:=List.eq_nil_of_length_eq_zero h0
  subst this
  rfl
 ·have g:=h.get (k:=0) (by omega)
  have ea:Xp a 0=(a[0]).toNat:=by rw [Xp,List.getD_eq_getElem?_getD,List.getElem?_eq_getElem (by omega),Option.getD_some]
  rw [if_neg (by rw [decide_eq_false (by omega)];decide),show (0:Int)=((0:Nat):Int) from rfl,Xb (by omega),Option.bind_some,Zgv,Int.tmod_eq_emod_of_nonneg (by omega),ea]
  congr 1
  exact decide_eq_decide.2 (by omega)

end Go.Proofs.YtbmjpjhbankpoaaGreat
