/-
  What functions of the program compute, as plain Lean functions (m_..), and proofs that they compute it (c_..). Printed by a program of the author; no conditions.
-/
import Derived.Test.YtkhnlgdenkikoaaGreatTopStepBFloat
import Derived.Test.YtkhnlgdenkikoaaGreatProg
import Derived.Test.YtkhnlgdenkikoaaGreatTopStepBBrief
import Derived.Test.YtkhnlgdenkikoaaGreatTopStepF1
set_option linter.unusedVariables false
set_option maxRecDepth 100000
set_option maxHeartbeats 2000000
namespace Go.Proofs.YtkhnlgdenkikoaaGreat
open Go Go.RowKit
open List renaming drop_eq_nil_iff→aG,mem_cons_self→aC,mem_cons_of_mem→aB,replicate→aM,mem_cons→aO,not_mem_nil→bG,length_take_of_le→eR,drop_eq_getElem_cons→aJ,drop_eq_nil_of_le→aK,all_cons→dQ,getElem_mem→aH,drop_zero→aP,take_succ_eq_append_getElem→bH,nodup_append→dE,nodup_cons→cL,mem_singleton→bR,take_of_length_le→bF,any_cons→eC,length→lO,getD_eq_getElem?_getD→aF,getElem?_eq_getElem→aL,mem_range'→kM,range→iO,mem_map→cA,mem_range→fK,mem_append→bE,mem_append_left→jQ,getElem?_set→kE,perm_append_singleton→iP,getElem_take→fX,take_set→kZ,count_cons→gK,append_assoc→bO,length_replicate→bI,count_le_length→gU,countP_cons→kH,count_pos_iff→kA,all_eq_true→cV
open Nat renaming lt_of_lt_of_le→aE,gcd→dA,le_trans→aU,mul_ne_zero→eE,beq→aI,add_zero→bU,zero_le→bK,sub_zero→lQ
open Int renaming natCast_mul→bV,natAbs_mul→fW,natAbs_natCast→eS,mul_assoc→lG,toNat→aA,tdiv→aZ,toNat_natCast→aD,le_refl→iI,tmod→bM,toNat_of_nonneg→bL
open Rat renaming mkRat_add_mkRat→jY,mkRat_mul_mkRat→jZ,mkRat_eq_div→dI,intCast_mul→iZ,inv_eq_of_mul_eq_one→gJ
open Go.IntKind (i8 i16 i32 i64 u8 u16 u32 u64)
open Go.Proofs.Tryz

def Zhq (N:Nat) (aa:R1) (ab:R1):Option Int:=
  (Sc N ((ab.1.1,ab.1.2),ab.2)).bind fun ae=>(Zdh N (aa.1.1,aa.1.2) ae).bind fun ac=>(Sc N ((aa.1.1,aa.1.2),aa.2)).bind fun af=>(Zdh N (ab.1.1,ab.1.2) af).bind fun ad=>(Zlq N (ac.1,ac.2) (ad.1,ad.2)).bind fun ag=>some ag
theorem Zud {N ap a0 aq a1:Nat} {ar a2 au a3:Option Addr} {col:Zd} {w0:World} {ac ad:R1} {r:Int} (hm:Zhq N ac ad=some r) (al:Sl rU col w0 ar ap ac.1.2) (av:Sl rU col w0 a2 a0 ac.2) (am:Sl rU col w0 au aq ad.1.2) (aw:Sl rU col w0 a3 a1 ad.2):
    Calls prog 15 #[(.agg #[.bool ac.1.1,.slice ar ac.1.2.length ap,.slice a2 ac.2.length a0]),(.agg #[.bool ad.1.1,.slice au ad.1.2.length aq,.slice a3 ad.2.length a1])] w0 (fun e w'=>e= .returned ((.int .i64 r))∧Below w0.heap.size w0 w'):=by
 refine Xe 4 (m:=16) func15 rfl rfl rfl rfl rfl ?_;rw [Zhq.eq_1] at hm;have aa:=St.start col w0;refine go ?_;refine Xi (col:=(Zj col)) 1 rfl ?_;intro bm bn a8 a9 an;refine Xi (col:=a8) 2 rfl ?_;intro bo bp ae a4 a5;refine go ?_;refine Y8 (col:=ae) [(0,1),(1,0),(2,0),(5,1),(6,0),(7,0),(3,3),(4,3),(8,3),(9,3),(10,3),(11,1)] (by kernel_rfl) (by kernel_rfl)<|xF ⟨_,_,rfl⟩ ?_;replace an:=an.gr a4;refine xv (v:=(.agg #[.bool ac.1.1,.slice ar ac.1.2.length ap])) rfl rfl (fun _ hC=>Y9 isAgg37 sizeOf37 rfl rfl (((an.atN).part 0 2 _ rfl).gr (hC.bl ae))) ?_;refine xv rfl rfl (fun _ hC=>Z8 isAgg39 sizeOf39 (a5.gr (hC.bl ae))) ?_;refine xF ⟨_,_,rfl⟩ ?_;refine xv (v:=(.agg #[.bool ad.1.1,.slice au ad.1.2.length aq])) rfl rfl (fun _ hC=>Y9 isAgg37 sizeOf37 rfl rfl (((a5.atN).part 0 2 _ rfl).gr (hC.bl ae))) ?_;refine xv rfl rfl (fun _ hC=>Z8 isAgg39 sizeOf39 (an.gr (hC.bl ae))) ?_;refine xe rfl rfl ?_;intro bq hC0;have hC:=hC0.bl ae;obtain ⟨br,ba,hm⟩:=bZ hm;replace am:=am.k0;replace aa:=((aa.grow a9).grow a4).grow hC;refine Zi (Zau 3 ba (am.ks aa) (aw.k0.ks aa)) ?_;rintro _ bs ⟨ah,bt,bu,rfl,a6,ax⟩;refine ⟨_,rfl,?_⟩;refine Zk<|Xj ah hC0 a6<|xe rfl rfl ?_;intro bb hC0;have hC:=hC0.bl ah;obtain ⟨bv,bc,hm⟩:=bZ hm;replace al:=al.k0;replace aa:=(aa.grow a6).grow hC;refine Zi (Zmu 4 bc ((al.ks aa).froz 3) ((ax.gr hC).toSlF (Zh.int .u32))) ?_;rintro _ bw ⟨bd,bx,bz,rfl,ai,ab⟩;refine ⟨_,rfl,?_⟩;replace ab:=ab.thaw (Z1 .u32) ai ((Fz.refl (col:=ah)).froz 3);replace ai:=ai.thawR (col:=ah);generalize Xc bb.heap.size ah bd=a7 at *;refine Zk<|Xj a7 hC0 ai<|xe rfl rfl ?_;intro b0 hC0;have hC:=hC0.bl a7;obtain ⟨b1,be,hm⟩:=bZ hm;replace aa:=(aa.grow ai).grow hC;refine Zi (Zau 5 be (al.ks aa) (av.k0.ks aa)) ?_;rintro _ b2 ⟨aj,b3,b4,rfl,ay,az⟩;refine ⟨_,rfl,?_⟩;refine Zk<|Xj aj hC0 ay<|xe rfl rfl ?_;intro bf hC0;replace ab:=(ab.gr hC).gr ay;have hC:=hC0.bl aj;obtain ⟨b5,bg,hm⟩:=bZ hm;replace aa:=(aa.grow ay).grow hC;replace az:=az.gr hC
 refine Zi (Zmu 6 bg ((am.ks aa).froz 5) (az.toSlF (Zh.int .u32))) ?_;rintro _ b6 ⟨bh,b7,b8,rfl,af,ak⟩;refine ⟨_,rfl,?_⟩;replace ak:=ak.thaw (Z1 .u32) af ((Fz.refl (col:=aj)).froz 5);replace af:=af.thawR (col:=aj);generalize Xc bf.heap.size aj bh=ag at *;refine Zk<|Xj ag hC0 af<|xe rfl rfl ?_;intro bi hC0;replace ab:=(ab.gr hC).gr af;have hC:=hC0.bl ag;obtain ⟨b9,bj,hm⟩:=bZ hm;refine Zi (Z5y bj (((ab.gr hC).toSlF (Zh.int .u32)).froz 6) (((ak.gr hC).froz 4).toSlF (Zh.int .u32))) ?_;rintro _ bk ⟨rfl,ao⟩;refine ⟨_,rfl,?_⟩;replace ao:Zf ag bi ag bk:=.of_below ao;refine Zk<|Xj ag hC0 ao<|xu rfl rfl (fun _=>Zsi rfl) ?_;refine Yz ?_;replace aa:=((aa.grow af).grow hC).grow ao;intro ca hC;refine Vd ?_;cases hm;exact ⟨rfl,rfl,(aa.grow (hC.bl ag)).below⟩
def Zdf (N:Nat):List R1→Bool→R2→R2→Option R1
  | [],aa,ab,ac=>some ((aa,ab),ac)
  | ad :: af,aa,ab,ac=>(Sr N ((aa,ab),ac) ((ad.1.1,ad.1.2),ad.2)).bind fun ae=>(Zdf N af) ae.1.1 ae.1.2 ae.2
termination_by structural x=>x
def Zb2 (N:Nat) (aa:R4):Option R1:=
  (Zcc N 1).bind fun ab=>Zdf N aa false ([]:List Int) ab
theorem Zms {N ba:Nat} {a0:Option Addr} {col:Zd} {w0:World} {af:R4} {r:R1} (c1 c2:Nat) (hm:Zb2 N af=some r) (h0:Sl (Za.pair (Za.pair Za.bool (Za.slice rU)) (Za.slice rU)) col w0 a0 ba af):
    Calls prog 80 #[.slice a0 af.length ba] w0 (fun e w'=>∃ (col':Zd) (ra1:Option Addr) (rc2:Nat) (ra4:Option Addr) (rc5:Nat),e= .returned ((.agg #[.bool r.1.1,.slice ra1 r.1.2.length rc2,.slice ra4 r.2.length rc5]))∧Zf col w0 col' w'∧Zb rU 95 c1 col' w' ra1 rc2 r.1.2∧Zb rU 95 c2 col' w' ra4 rc5 r.2):=by
 refine Y5 (m:=19) func80 rfl rfl rfl ?_;rw [Zb2.eq_1] at hm;have aa:=St.start col w0;refine go ?_;refine Xk (col:=(Zj col)) #[.bool false,(nI),(nI)] 1 zeroValue39 ?_;intro bc cb bd be ab;refine go ?_;obtain ⟨bf,bg,hm⟩:=bZ hm;refine Zi (Zjz (col:=bd) 2 bg) ?_;rintro _ cc ⟨bh,bi,bj,rfl,bb,aw⟩;refine ⟨_,rfl,?_⟩;refine lV (.agg #[.bool false,(nI),.slice bi bf.length bj]) (Wq (l:=[_,_]) (qs:=[(0,2),(2,1)]) underlying39 zeroValue39 ⟨rfl,sizeOf37,rfl,sizeOf35,trivial⟩ rfl)<|Xk (col:=bh) #[.bool false,(nI),(nI)] 3 zeroValue39 ?_;intro bk cd ce ax bm;refine Zy bm ?_;intro cf ay bn ac;refine go ?_;replace aa:=(((aa.grow be).grow bb).grow ax).kp ay bn;replace ab:=((ab.gr bb).gr ax).kp ay;refine Zv [2,3,8,9,1000000] (fun n f ak=>∃ ag an az a1 a2 aq a3 a4 ar ao,n=ao.length∧af.drop an=ao∧Zdf N ao az aq ar=some r∧St w0 (Zj col) ag ak∧Zg 39 1 ag ak bc #[.bool false,(nI),(nI)]∧Zb rU 95 4 ag ak a1 a2 aq∧Zb rU 95 2 ag ak a3 a4 ar∧Zg 39 3 ag ak bk #[.bool az,.slice a1 aq.length a2,.slice a3 ar.length a4]∧[10].map f=[.int .i64 an]) af.length ⟨_,0,_,none,0,_,_,_,_,_,rfl,rfl,hm,aa,ab,Zb.nil,(aw.gr ax).kp ay,ac,rfl⟩ ?_;clear hm;intro n f ak hI;obtain ⟨ag,an,az,a1,a2,aq,a3,a4,ar,ao,hn,hl,hm,aa,ab,al,am,ac,hs⟩:=hI;subst hn;refine .lL [10] hs ?_;replace h0:=h0.k0
 cases ao with
 | nil=>
  have hk:¬ ((an:Int)<(af.length:Int)):=by have:=aG.1 hl;omega
  have hkb:=decide_eq_false hk;rw [Zdf.eq_1] at hm;refine go ?_;refine X0 (congrArg Value.bool hkb)<|go ?_;refine lV _ (Z8 isAgg39 sizeOf39 ac)<|Zy ab ?_;intro cg a5 bo bp;refine go ?_;cases hm;replace al:=al.kp a5;replace am:=am.kp a5;replace aa:=aa.kp a5 bo;exact ⟨rfl,_,ra bp.atN,_,_,_,_,_,rfl,aa.fin (cm [(4,c1),(2,c2)]),aa.fo al,aa.fo am⟩
 | cons a6 bq=>
  obtain ⟨a7,br,bs⟩:=Yf hl;have hk:(an:Int)<(af.length:Int):=by omega
  have hkb:=decide_eq_true hk;rw [Zdf.eq_2] at hm;refine go ?_;refine X1 (congrArg Value.bool hkb)<|go ?_;refine lI a7 ((h0.ks aa).addr a7) ?_;obtain ⟨_,bt,bu⟩:=(h0.ks aa).atN a7;obtain ⟨_,_,rfl,bv,bw⟩:=Vr bt;obtain ⟨_,_,rfl,bx,bz⟩:=Vr bv;obtain ⟨rfl,_⟩:=bx;obtain ⟨⟨b0,b1,rfl,a8⟩,_⟩:=bz;obtain ⟨⟨b2,b3,rfl,a9⟩,_⟩:=bw;refine lV (.agg #[.bool a6.1.1,.slice b0 a6.1.2.length b1,.slice b2 a6.2.length b3]) (Y9 isAgg39 sizeOf39 rfl rfl bu)<|Xk (col:=ag) #[.bool false,(nI),(nI)] 5 zeroValue39 ?_;intro ch ci au ah b4;refine Zy b4 ?_;intro b5 ai b6 b7;refine go ?_;replace ac:=(ac.gr ah).kp ai;refine lV _ (Z8 isAgg39 sizeOf39 ac)<|lV _ (Z8 isAgg39 sizeOf39 b7) ?_;obtain ⟨cj,b8,hm⟩:=bZ hm;refine Zi (Zgw 6 7 b8 ((((al.gr ah).kp ai).toSlF (Zh.int .u32)).froz 2) ((((am.gr ah).kp ai).froz 4).toSlF (Zh.int .u32)) ((((a8.gr ah).kp ai).froz 4).froz 2) ((((a9.gr ah).kp ai).froz 4).froz 2)) ?_;rintro _ ck ⟨b9,cl,cn,co,cp,rfl,aj,ad,ae⟩;refine ⟨_,rfl,?_⟩;replace ad:=ad.thaw (Z1 .u32) aj (((Fz.refl (col:=au)).froz 4).froz 2);replace ae:=ae.thaw (Z1 .u32) aj (((Fz.refl (col:=au)).froz 4).froz 2);replace aj:=aj.thawR (col:=au);generalize Xc b5.heap.size au b9=cq at *;refine Zy (ac.gr aj) ?_;intro cr av ca ap;refine go ?_;replace ad:=ad.kp av;replace ad:=ad.recolSelf 4 (by decide);replace ae:=ae.kp av;replace ae:=ae.recol 6 4;replace ab:=(((ab.gr ah).kp ai).gr aj).kp av;replace ab:=ab.recol 6 4;replace ap:=ap.recol 6 4;replace aa:=(((aa.grow ah).kp ai b6).grow aj).kp av ca;replace aa:=aa.recol 6 4 (by decide) (by decide);replace ae:=ae.recolSelf 2 (by decide);replace aa:=aa.recol 7 2 (by decide) (by decide);exact ⟨bq.length,by simp,rfl,⟨_,_,_,_,_,_,_,_,_,_,rfl,br,hm,aa,ab.recol 7 2,ad.recol 7 2,ae,ap.recol 7 2,(Yl (congrArg (Value.int .i64) (Yi (aE bs (h0.ks aa).1.1))) rfl)⟩⟩
def Zja (N:Nat) (aa:Int):Option R5:=
  if (decide (aa<0))=true then ((Zcc N (u64.wrap (-(u64.wrap aa)))).bind fun ad=>(Zad N true ad).bind fun ab=>some (ab.1,ab.2)) else ((Zcc N (u64.wrap aa)).bind fun ae=>(Zad N false ae).bind fun ac=>some (ac.1,ac.2))
theorem Zu2 {N:Nat} {col:Zd} {w0:World} {ai:Int} {r:R5} (c1:Nat) (hm:Zja N ai=some r):
    Calls prog 72 #[.int .i64 ai] w0 (fun e w'=>∃ (col':Zd) (ra1:Option Addr) (rc2:Nat),e= .returned ((.agg #[.bool r.1,.slice ra1 r.2.length rc2]))∧Zf col w0 col' w'∧Zb rU 95 c1 col' w' ra1 rc2 r.2):=by
 refine Y5 (m:=14) func72 rfl rfl rfl ?_;rw [Zja.eq_1] at hm;have aa:=St.start col w0;refine go ?_;refine Xk (col:=(Zj col)) #[.bool false,(nI)] 1 zeroValue37 ?_;intro a5 a6 aj ao ab;refine go ?_;replace aa:=aa.grow ao;refine Zo hm (fun hb hm=>go ?_) fun hb hm=>go ?_
 ·obtain ⟨a7,ap,hm⟩:=bZ hm;refine Zi (Zjz (col:=aj) 2 ap) ?_;rintro _ aq ⟨ag,a8,a9,rfl,ak,ar⟩;refine ⟨_,rfl,?_⟩;obtain ⟨ba,au,hm⟩:=bZ hm;refine Zi (Zek 3 au (ar.toSlF (Zh.int .u32))) ?_;rintro _ bb ⟨av,bc,bd,rfl,ac,ad⟩;refine ⟨_,rfl,?_⟩;replace ad:=ad.thaw (Z1 .u32) ac ((Fz.refl (col:=ag)).froz 2);replace ac:=ac.thawR (col:=ag);generalize Xc aq.heap.size ag av=be at *;replace ab:=(ab.gr ak).gr ac;refine Zy ab ?_;intro bf al aw ax;refine go ?_;cases hm;replace aa:=((aa.grow ak).grow ac).kp al aw;exact ⟨rfl,_,ra ax.atN,_,_,_,rfl,aa.fin (cm [(3,c1)]),aa.fo (ad.kp al)⟩
 obtain ⟨bg,ay,hm⟩:=bZ hm;refine Zi (Zjz (col:=aj) 4 ay) ?_;rintro _ az ⟨ah,bh,bi,rfl,am,a0⟩;refine ⟨_,rfl,?_⟩;obtain ⟨bj,a1,hm⟩:=bZ hm;refine Zi (Zek 5 a1 (a0.toSlF (Zh.int .u32))) ?_;rintro _ bk ⟨a2,bm,bn,rfl,ae,af⟩;refine ⟨_,rfl,?_⟩;replace af:=af.thaw (Z1 .u32) ae ((Fz.refl (col:=ah)).froz 4);replace ae:=ae.thawR (col:=ah);generalize Xc az.heap.size ah a2=bo at *;refine Zy ((ab.gr am).gr ae) ?_;intro bp an a3 a4;refine go ?_;cases hm;replace aa:=((aa.grow am).grow ae).kp an a3;exact ⟨rfl,_,ra a4.atN,_,_,_,rfl,aa.fin (cm [(5,c1)]),aa.fo (af.kp an)⟩
def Zkk (N:Nat) (ac:R5) (aa:R5):Option (R1×Int):=
  (Zd8 N (aa.1,aa.2)).bind fun ad=>if (decide (ad=0))=true then (some (((false,([]:List Int)),([]:List Int)),11)) else ((Zdg N (!decide (ac.1=aa.1)) ac.2 aa.2).bind fun ab=>some (((ab.1.1,ab.1.2),ab.2),0))
theorem Z39 {N an ao:Nat} {ap aq:Option Addr} {col:Zd} {w0:World} {ae af:R5} {r:(R1×Int)} (c1 c2:Nat) (hm:Zkk N ae af=some r) (ai:Sl rU col w0 ap an ae.2) (ag:Sl rU col w0 aq ao af.2):
    Calls prog 71 #[(.agg #[.bool ae.1,.slice ap ae.2.length an]),(.agg #[.bool af.1,.slice aq af.2.length ao])] w0 (fun e w'=>∃ (col':Zd) (ra1:Option Addr) (rc2:Nat) (ra4:Option Addr) (rc5:Nat),e= .returned (.tuple #[(.agg #[.bool r.1.1.1,.slice ra1 r.1.1.2.length rc2,.slice ra4 r.1.2.length rc5]),.int .i64 r.2])∧Zf col w0 col' w'∧Zb rU 95 c1 col' w' ra1 rc2 r.1.1.2∧Zb rU 95 c2 col' w' ra4 rc5 r.1.2):=by
 refine Y5 (m:=20) func71 rfl rfl rfl ?_;rw [Zkk.eq_1] at hm;have aa:=St.start col w0;refine go ?_;refine Xi (col:=(Zj col)) 1 rfl ?_;intro a8 a9 aw ax ah;refine Xi (col:=aw) 2 rfl ?_;intro ba bb ay ar ab;refine Xk (col:=ay) #[.bool false,(nI),(nI)] 3 zeroValue39 ?_;intro bc az au aj ac;refine go ?_;replace ab:=ab.gr aj;refine lV _ (Z8 isAgg37 sizeOf37 ab) ?_;obtain ⟨bd,a0,hm⟩:=bZ hm;replace ag:=ag.k0;replace aa:=((aa.grow ax).grow ar).grow aj;refine Zi (Zm3 a0 (ag.ks aa)) ?_;rintro _ a1 ⟨rfl,ad⟩;refine ⟨_,rfl,?_⟩;replace ad:Zf au az au a1:=.of_below ad;refine go ?_;replace ah:=((ah.gr ar).gr aj).gr ad;replace ab:=ab.gr ad;replace ac:=ac.gr ad;replace aa:=aa.grow ad;refine Zo hm (fun hb hm=>go ?_) fun hb hm=>go ?_
 ·refine lV (.agg #[.bool false,(nI),(nI)]) (Wq (l:=[_,_]) (qs:=[(0,2),(2,1)]) underlying39 zeroValue39 ⟨rfl,sizeOf37,rfl,sizeOf35,trivial⟩ rfl)<|Zy ac ?_;intro be a2 a3 a4;refine go ?_;cases hm;replace aa:=aa.kp a2 a3;exact ⟨rfl,_,V3 a4.atN,_,none,0,none,0,rfl,aa.fin (cm []),Zb.nil,Zb.nil⟩
 refine Xl ah<|Xl ab ?_;refine go ?_;refine Xl ah<|Xl ab ?_;obtain ⟨bf,a5,hm⟩:=bZ hm;refine Zi (Zmt 4 5 a5 (ai.k0.ks aa) (ag.ks aa)) ?_;rintro _ bg ⟨bh,bi,bj,bk,bm,rfl,av,ak,al⟩;refine ⟨_,rfl,?_⟩;refine Zy (ac.gr av) ?_;intro bn am a6 a7;refine go ?_;cases hm;replace aa:=(aa.grow av).kp am a6;exact ⟨rfl,_,V3 a7.atN,_,_,_,_,_,rfl,aa.fin (cm [(4,c1),(5,c2)]),aa.fo (ak.kp am),aa.fo (al.kp am)⟩
def Zde (N:Nat) (ad:Int) (ae:Int):Option (R1×Int):=
  (Zja N ad).bind fun ab=>(Zja N ae).bind fun ac=>(Zkk N (ab.1,ab.2) (ac.1,ac.2)).bind fun aa=>some (((aa.1.1.1,aa.1.1.2),aa.1.2),aa.2)
theorem Zp4 {N:Nat} {col:Zd} {w0:World} {ak al:Int} {r:(R1×Int)} (c1 c2:Nat) (hm:Zde N ak al=some r):
    Calls prog 14 #[.int .i64 ak,.int .i64 al] w0 (fun e w'=>∃ (col':Zd) (ra1:Option Addr) (rc2:Nat) (ra4:Option Addr) (rc5:Nat),e= .returned (.tuple #[(.agg #[.bool r.1.1.1,.slice ra1 r.1.1.2.length rc2,.slice ra4 r.1.2.length rc5]),.int .i64 r.2])∧Zf col w0 col' w'∧Zb rU 95 c1 col' w' ra1 rc2 r.1.1.2∧Zb rU 95 c2 col' w' ra4 rc5 r.1.2):=by
 refine Y5 (m:=13) func14 rfl rfl rfl ?_;rw [Zde.eq_1] at hm;have ab:=St.start col w0;refine go ?_;refine Xk (col:=(Zj col)) #[.bool false,(nI),(nI)] 1 zeroValue39 ?_;intro a4 a5 an ao ag;refine go ?_;obtain ⟨a6,ap,hm⟩:=bZ hm;refine Zi (Zu2 (col:=an) 2 ap) ?_;rintro _ a7 ⟨aq,a8,a9,rfl,am,ah⟩;refine ⟨_,rfl,?_⟩;refine X4 rfl ?_;obtain ⟨ba,ar,hm⟩:=bZ hm;refine Zi (Zu2 (col:=aq) 3 ar) ?_;rintro _ au ⟨ae,bb,bc,rfl,ai,av⟩;refine ⟨_,rfl,?_⟩;obtain ⟨af,aw,hm⟩:=bZ hm;refine Zi (Z39 4 5 aw (((ah.gr ai).toSlF (Zh.int .u32)).froz 3) ((av.froz 2).toSlF (Zh.int .u32))) ?_;rintro _ bd ⟨ax,ay,az,a0,a1,rfl,aa,ac,ad⟩;refine ⟨_,rfl,?_⟩;replace ac:=ac.thaw (Z1 .u32) aa (((Fz.refl (col:=ae)).froz 2).froz 3);replace ad:=ad.thaw (Z1 .u32) aa (((Fz.refl (col:=ae)).froz 2).froz 3);replace aa:=aa.thawR (col:=ae);generalize Xc au.heap.size ae ax=be at *;refine lV (.agg #[.bool af.1.1.1,.slice ay af.1.1.2.length az,.slice a0 af.1.2.length a1]) (Xo rfl rfl)<|lV (.int .i64 af.2) (Xo rfl rfl) ?_;refine Zy (((ag.gr am).gr ai).gr aa) ?_;intro bf aj a2 a3;refine go ?_;cases hm;replace ab:=((((ab.grow ao).grow am).grow ai).grow aa).kp aj a2;exact ⟨rfl,_,V3 a3.atN,_,_,_,_,_,rfl,ab.fin (cm [(4,c1),(5,c2)]),ab.fo (ac.kp aj),ab.fo (ad.kp aj)⟩
def Qf (N:Nat) (aa:R1):Option Int:=
  (Zd8 N (aa.1.1,aa.1.2)).bind fun ab=>some ab
theorem Zmr {N ac ag:Nat} {ad ah:Option Addr} {col:Zd} {w0:World} {aa:R1} {r:Int} (hm:Qf N aa=some r) (ae:Sl rU col w0 ad ac aa.1.2) (ao:Sl rU col w0 ah ag aa.2):
    Calls prog 12 #[(.agg #[.bool aa.1.1,.slice ad aa.1.2.length ac,.slice ah aa.2.length ag])] w0 (fun e w'=>e= .returned ((.int .i64 r))∧Below w0.heap.size w0 w'):=by
 refine Xe 2 (m:=6) func12 rfl rfl rfl rfl rfl ?_;rw [Qf.eq_1] at hm;have ab:=St.start col w0;refine go ?_;refine Xi (col:=(Zj col)) 1 rfl ?_;intro ap aj ai ak al;refine go ?_;refine Yx ⟨_,_,rfl⟩ ?_;refine lV (.agg #[.bool aa.1.1,.slice ad aa.1.2.length ac]) (Y9 isAgg37 sizeOf37 rfl rfl ((al.atN).part 0 2 _ rfl)) ?_;obtain ⟨aq,am,hm⟩:=bZ hm;replace ab:=ab.grow ak;refine Zi (Zm3 am (ae.k0.ks ab)) ?_;rintro _ an ⟨rfl,af⟩;refine ⟨_,rfl,?_⟩;replace af:Zf ai aj ai an:=.of_below af;refine go ?_;cases hm;exact ⟨rfl,rfl,(ab.grow af).below⟩
def Zb1 (N:Nat) (ab:R1) (aa:R1):Option (R1×Int):=
  (Qf N ((aa.1.1,aa.1.2),aa.2)).bind fun ad=>if (decide (ad=0))=true then (some (((false,([]:List Int)),([]:List Int)),11)) else ((Sc N ((aa.1.1,aa.1.2),aa.2)).bind fun ae=>(Q8 N ab.1.2 ae).bind fun af=>(Sc N ((ab.1.1,ab.1.2),ab.2)).bind fun ag=>(Q8 N ag aa.1.2).bind fun ah=>(Zdg N (!decide (ab.1.1=aa.1.1)) af ah).bind fun ac=>some (((ac.1.1,ac.1.2),ac.2),0))
theorem Zue {N a6 a7 a8 a9:Nat} {ba bb bc bd:Option Addr} {col:Zd} {w0:World} {aj ak:R1} {r:(R1×Int)} (c1 c2:Nat) (hm:Zb1 N aj ak=some r) (av:Sl rU col w0 ba a6 aj.1.2) (az:Sl rU col w0 bb a7 aj.2) (ao:Sl rU col w0 bc a8 ak.1.2) (aw:Sl rU col w0 bd a9 ak.2):
    Calls prog 112 #[(.agg #[.bool aj.1.1,.slice ba aj.1.2.length a6,.slice bb aj.2.length a7]),(.agg #[.bool ak.1.1,.slice bc ak.1.2.length a8,.slice bd ak.2.length a9])] w0 (fun e w'=>∃ (col':Zd) (ra1:Option Addr) (rc2:Nat) (ra4:Option Addr) (rc5:Nat),e= .returned (.tuple #[(.agg #[.bool r.1.1.1,.slice ra1 r.1.1.2.length rc2,.slice ra4 r.1.2.length rc5]),.int .i64 r.2])∧Zf col w0 col' w'∧Zb rU 95 c1 col' w' ra1 rc2 r.1.1.2∧Zb rU 95 c2 col' w' ra4 rc5 r.1.2):=by
 refine Y5 (m:=30) func112 rfl rfl rfl ?_;rw [Zb1.eq_1] at hm;have aa:=St.start col w0;refine go ?_;refine Xi (col:=(Zj col)) 1 rfl ?_;intro b3 b4 bg bh ap;refine Xi (col:=bg) 2 rfl ?_;intro b5 b6 bi be ae;refine Xk (col:=bi) #[.bool false,(nI),(nI)] 3 zeroValue39 ?_;intro b7 bj ac a0 ab;refine go ?_;replace ae:=ae.gr a0;refine lV _ (Z8 isAgg39 sizeOf39 ae) ?_;obtain ⟨b8,bk,hm⟩:=bZ hm;replace ao:=ao.k0;replace aw:=aw.k0;replace aa:=((aa.grow bh).grow be).grow a0;refine Zi (Zmr bk (ao.ks aa) (aw.ks aa)) ?_;rintro _ bm ⟨rfl,al⟩;refine ⟨_,rfl,?_⟩;replace al:Zf ac bj ac bm:=.of_below al;refine go ?_;replace av:=av.k0;replace ap:=((ap.gr be).gr a0).gr al;replace ae:=ae.gr al;replace ab:=ab.gr al;replace aa:=aa.grow al;refine Zo hm (fun hb hm=>go ?_) fun hb hm=>go ?_
 ·refine lV (.agg #[.bool false,(nI),(nI)]) (Wq (l:=[_,_]) (qs:=[(0,2),(2,1)]) underlying39 zeroValue39 ⟨rfl,sizeOf37,rfl,sizeOf35,trivial⟩ rfl)<|Zy ab ?_;intro b9 bn bo bp;refine go ?_;cases hm;replace aa:=aa.kp bn bo;exact ⟨rfl,_,V3 bp.atN,_,none,0,none,0,rfl,aa.fin (cm []),Zb.nil,Zb.nil⟩
 refine Y8 (col:=ac) [(0,1),(1,1),(2,0),(3,1),(4,1),(5,0),(6,1),(7,1),(8,1),(9,0),(10,0),(13,0),(15,1),(16,1),(17,0),(11,3),(12,3),(14,3),(18,3),(19,3),(20,2),(21,1)] (by kernel_rfl) (by kernel_rfl)<|xF ⟨_,_,rfl⟩ ?_;refine xF (Zbq ⟨_,_,rfl⟩) ?_;refine xW (fun _ hC=>((((ap.atN).part 0 2 _ rfl)).nth (q:=0) rfl).gr (hC.bl ac)) ?_;refine xF ⟨_,_,rfl⟩ ?_;refine xF (Zbq ⟨_,_,rfl⟩) ?_;refine xW (fun _ hC=>((((ae.atN).part 0 2 _ rfl)).nth (q:=0) rfl).gr (hC.bl ac)) ?_;refine xu rfl rfl (fun _=>Zjl _ _ underlying4 rfl rfl) ?_;refine xF ⟨_,_,rfl⟩ ?_;refine xF (Zbq ⟨_,_,rfl⟩) ?_;refine xW (fun _ hC=>((((ap.atN).part 0 2 _ rfl)).nth (q:=1) rfl).gr (hC.bl ac)) ?_;refine xv rfl rfl (fun _ hC=>Z8 isAgg39 sizeOf39 (ae.gr (hC.bl ac))) ?_;refine xv rfl rfl (fun _ hC=>Z8 isAgg39 sizeOf39 (ap.gr (hC.bl ac))) ?_;refine xF ⟨_,_,rfl⟩ ?_;refine xF (Zbq ⟨_,_,rfl⟩) ?_;refine xW (fun _ hC=>((((ae.atN).part 0 2 _ rfl)).nth (q:=1) rfl).gr (hC.bl ac)) ?_;refine xe rfl rfl ?_;intro ca hC0;have hC:=hC0.bl ac;obtain ⟨cb,bq,hm⟩:=bZ hm;replace aa:=aa.grow hC;refine Zi (Zau 4 bq (ao.ks aa) (aw.ks aa)) ?_;rintro _ cc ⟨aq,cd,ce,rfl,a1,a2⟩;refine ⟨_,rfl,?_⟩;refine Zk<|Xj aq hC0 a1<|xe rfl rfl ?_;intro br hC0;replace ab:=(ab.gr hC).gr a1;have hC:=hC0.bl aq;obtain ⟨cf,bs,hm⟩:=bZ hm;replace aa:=(aa.grow a1).grow hC;refine Zi (Zgx 5 bs ((av.ks aa).froz 4) ((a2.gr hC).toSlF (Zh.int .u32))) ?_;rintro _ cg ⟨bt,ch,ci,rfl,am,ad⟩;refine ⟨_,rfl,?_⟩;replace ad:=ad.thaw (Z1 .u32) am ((Fz.refl (col:=aq)).froz 4);replace am:=am.thawR (col:=aq);generalize Xc br.heap.size aq bt=bf at *;refine Zk<|Xj bf hC0 am<|xe rfl rfl ?_;intro cj hC0;replace ab:=(ab.gr hC).gr am;have hC:=hC0.bl bf;obtain ⟨ck,bu,hm⟩:=bZ hm;replace aa:=(aa.grow am).grow hC;refine Zi (Zau 6 bu (av.ks aa) (az.k0.ks aa)) ?_;rintro _ cl ⟨ar,cn,co,rfl,ax,a3⟩;refine ⟨_,rfl,?_⟩;refine Zk<|Xj ar hC0 ax<|xe rfl rfl ?_;intro bv hC0;replace ad:=(ad.gr hC).gr ax;replace ab:=(ab.gr hC).gr ax;have hC:=hC0.bl ar;obtain ⟨cp,bw,hm⟩:=bZ hm;replace aa:=(aa.grow ax).grow hC;refine Zi (Zgx 7 bw ((a3.gr hC).toSlF (Zh.int .u32)) ((ao.ks aa).froz 6)) ?_
 rintro _ cq ⟨bx,cr,cs,rfl,af,au⟩;refine ⟨_,rfl,?_⟩;replace au:=au.thaw (Z1 .u32) af ((Fz.refl (col:=ar)).froz 6);replace af:=af.thawR (col:=ar);generalize Xc bv.heap.size ar bx=an at *;refine Zk<|Xj an hC0 af<|xe rfl rfl ?_;intro bz hC0;replace ad:=(ad.gr hC).gr af;replace ab:=(ab.gr hC).gr af;have hC:=hC0.bl an;obtain ⟨ct,b0,hm⟩:=bZ hm;refine Zi (Zmt 8 9 b0 (((ad.gr hC).toSlF (Zh.int .u32)).froz 7) (((au.gr hC).froz 5).toSlF (Zh.int .u32))) ?_;rintro _ cu ⟨b1,cv,cw,cx,cy,rfl,ag,ah,ai⟩;refine ⟨_,rfl,?_⟩;replace ah:=ah.thaw (Z1 .u32) ag (((Fz.refl (col:=an)).froz 5).froz 7);replace ai:=ai.thaw (Z1 .u32) ag (((Fz.refl (col:=an)).froz 5).froz 7);replace ag:=ag.thawR (col:=an);generalize Xc bz.heap.size an b1=ay at *;refine Zk<|Xj ay hC0 ag<|xe rfl rfl ?_;intro cz hC0;replace aa:=((aa.grow af).grow hC).grow ag;replace ab:=(ab.gr hC).gr ag;have hC:=hC0.bl ay;refine Zy (ab.gr hC) ?_;intro c0 a4 b2 a5;refine Zk<|xk ay<|xu rfl rfl (fun _=>Zsi rfl) ?_;refine Yz ?_;replace ah:=(ah.gr hC).kp a4;replace ai:=(ai.gr hC).kp a4;replace aa:=(aa.grow hC).kp a4 b2;intro c3 hC;replace hC:=hC.bl ay;refine Vd ?_;cases hm;replace aa:=aa.grow hC;exact ⟨rfl,_,V3 (a5.gr hC).atN,_,_,_,_,_,rfl,aa.fin (cm [(8,c1),(9,c2)]),aa.fo (ah.gr hC),aa.fo (ai.gr hC)⟩
theorem Zgm {N k:Nat} {neg:Bool} {m:List Int} (hm:Zn m) (hk:m.length≤k) (hr:Z5 N k):Zad N neg m=some (Xs (Zu (neg,m))):=by
 obtain ⟨a,b⟩:=hr
 rw [Zad,Zrs hm (by omega) (by omega),oB,Zlv]
 have e:decide (0<((Ze (Zc m)).length:Int))=decide (Zc m≠0):=by
  by_cases h:Zc m=0
  ·rw [h,Vi];decide
  ·have:=Tv h
   rw [decide_eq_true (by omega),decide_eq_true h]
 cases neg
 ·rw [if_neg (by decide),Zjb,Bool.false_and]
 ·rw [if_pos rfl,Zjb,e,Bool.true_and]
theorem Xbt {N k:Nat} {a:ZV} (hm:Zn a.2) (hk:a.2.length≤k) (hr:Z5 N k):Zls N a=some (Xs (Zu a)):=by
 rw [Zls,Zgm hm hk hr];rfl
theorem Zpm {N k:Nat} {a:ZV} (hm:Zn a.2) (hk:a.2.length≤k) (hr:Z5 N k):Zd8 N a=some (Zu a).sign:=by
 obtain ⟨b,c⟩:=hr
 rw [Zd8,Z3n hm (by omega) (by omega),oB,Zu]
 by_cases h:Zc a.2=0
 ·rw [h,Zgt,if_pos (by decide)];simp
 ·have d:Xg (Zc a.2)≠0:=by rw [Xg,if_neg h];omega
  rw [if_neg (dF (by omega))]
  by_cases h2:a.1=true
  ·rw [if_pos h2,if_pos h2,Int.sign_eq_neg_one_of_neg (by omega)]
  ·rw [if_neg h2,if_neg h2,Int.sign_eq_one_of_pos (by omega)]
theorem Zjp {a b:ZV}:(a.1=b.1→Zu (a.1,Ze (Zc a.2+Zc b.2))=Zu a+Zu b)∧(a.1≠b.1→(Zc b.2≤Zc a.2→Zu (a.1,Ze (Zc a.2 - Zc b.2))=Zu a+Zu b)∧(Zc a.2<Zc b.2→Zu (b.1,Ze (Zc b.2 - Zc a.2))=Zu a+Zu b)):=by
 obtain ⟨s,x⟩:=a
 obtain ⟨t,y⟩:=b
 simp only [Zu,Xb]
 cases s <;> cases t <;> simp <;> (try constructor) <;> intros <;> omega
theorem Xbp {N k l:Nat} {a b:ZV} (ha:Zn a.2) (hb:Zn b.2) (hk:a.2.length≤k) (hl:b.2.length≤l) (hr:Z5 N (k+l+1)):Zlp N a b=some (Xs (Zu a+Zu b)):=by
 have d:=hr
 obtain ⟨g,i⟩:=d
 have j:=Ys ha
 have m:=Ys hb
 have c:(Ze (Zc a.2+Zc b.2)).length≤k+l+1:=Znh (by omega) (by omega)
 have e:(Ze (Zc a.2 - Zc b.2)).length≤k+l+1:=by have:=Wu (Nat.sub_le (Zc a.2) (Zc b.2));omega
 have f:(Ze (Zc b.2 - Zc a.2)).length≤k+l+1:=by have:=Wu (Nat.sub_le (Zc b.2) (Zc a.2));omega
 rw [Zlp]
 by_cases h:a.1=b.1
 ·rw [if_pos (dT h),Z3e ha hb (by omega) (by omega) (by omega) (by omega),oB,Zgm (Xd _) c hr,oB,Zjp.1 h]
 ·rw [if_neg (dF h),Z1t ha hb (by omega) (by omega) (by omega) (by omega),oB]
  by_cases hlt:Zc a.2<Zc b.2
  ·rw [if_pos hlt,if_neg (by decide),Z1t hb ha (by omega) (by omega) (by omega) (by omega),oB,if_neg (by omega),Zgm (Xd _) f hr,oB,(Zjp.2 h).2 hlt]
  ·rw [if_neg hlt,if_pos rfl,Zgm (Xd _) e hr,oB,(Zjp.2 h).1 (by omega)]
theorem Xby (b:ZV):Zu (!b.1,b.2)= -Zu b:=by
 obtain ⟨s,x⟩:=b
 cases s <;> simp [Zu]
theorem Ztp (a b:ZV):Zu (!decide (a.1=b.1),Ze (Zc a.2 * Zc b.2))=Zu a * Zu b:=by
 obtain ⟨s,x⟩:=a
 obtain ⟨t,y⟩:=b
 simp only [Zu,Xb]
 cases s <;> cases t <;> simp [bV,Int.neg_mul,Int.mul_neg]
theorem Xbs {N k l:Nat} {a b:ZV} (ha:Zn a.2) (hb:Zn b.2) (hk:a.2.length≤k) (hl:b.2.length≤l) (hr:Z5 N (k+l)):Zlr N a b=some (Xs (Zu a * Zu b)):=by
 have c:=hr
 obtain ⟨d,e⟩:=c
 have f:=Ys ha
 have g:=Ys hb
 have:=U7 (Zc a.2) (Zc b.2)
 rw [Zlr,Zlu ha hb (by omega) (by omega),oB,Zgm (k:=k+l) (Xd _) (by omega) hr,oB,Ztp]
theorem Xbw (a b:ZV):(if (Zu a).sign<(Zu b).sign then -1 else if (Zu b).sign<(Zu a).sign then 1 else (Zu a).sign * (if Zc a.2<Zc b.2 then -1 else if Zc b.2<Zc a.2 then 1 else 0))=Zan (Zu a) (Zu b):=by
 obtain ⟨s,x⟩:=a
 obtain ⟨t,y⟩:=b
 have c:∀ z:Int,z.sign=if z<0 then -1 else if 0<z then 1 else 0:=fun z=>(Zpp z).symm
 rw [c,c]
 unfold Zan
 simp only [Zu]
 generalize Zc x=X
 generalize Zc y=Y
 cases s <;> cases t <;> simp only [if_true,Bool.false_eq_true,if_false] <;> (repeat' split) <;> omega
theorem Xbr {N k l:Nat} {a b:ZV} (ha:Zn a.2) (hb:Zn b.2) (hk:a.2.length≤k) (hl:b.2.length≤l) (hr:Z5 N (k+l)):Zlq N a b=some (Zan (Zu a) (Zu b)):=by
 have c:=hr
 obtain ⟨d,e⟩:=c
 have f:-1≤(Zu a).sign∧(Zu a).sign≤1:=by rw [← Zpp];unfold Zan;(repeat' split) <;> omega
 rw [Zlq,Zpm ha hk (hr.mono (by omega)),oB,Zpm hb hl (hr.mono (by omega)),oB,← Xbw a b]
 by_cases h1:(Zu a).sign<(Zu b).sign
 ·rw [if_pos (dT h1),if_pos h1]
 ·rw [if_neg (dF h1),if_neg h1]
  by_cases h2:(Zu b).sign<(Zu a).sign
  ·rw [if_pos (dT h2),if_pos h2]
  ·rw [if_neg (dF h2),if_neg h2,Zqj ha hb (by omega) (by omega) (by omega) (by omega),oB]
   congr 1
   refine Zw ?_
   have:(Zu a).sign= -1∨(Zu a).sign=0∨(Zu a).sign=1:=by omega
   rcases this with h | h | h <;> rw [h] <;> (repeat' split) <;> decide
theorem Z23 {N:Nat} {z:Int} (h:-9223372036854775808≤z∧z≤9223372036854775807) (hr:Z5 N 2):Zja N z=some (Xs z):=by
 have b:=hr
 obtain ⟨f,g⟩:=b
 have c:∀ n:Nat,n<18446744073709551616→(Ze n).length≤2:=fun n d=>W8.2 (by simpa using d)
 rw [Zja]
 by_cases hz:z<0
 ·have e:u64.wrap (-u64.wrap z)= -z:=by rw [IntKind.wrap_u64,IntKind.wrap_u64];omega
  rw [if_pos (dT hz),e,Zlw (by omega) (by omega),oB,Zgm (Xd _) (c _ (by omega)) hr,oB]
  have a:Zu (true,Ze (-z).toNat)=z:=by simp only [Zu,Xb,if_true];omega
  rw [a]
 ·rw [if_neg (dF hz),Xm (by omega),Zlw (by omega) (by omega),oB,Zgm (Xd _) (c _ (by omega)) hr,oB]
  have a:Zu (false,Ze z.toNat)=z:=by simp only [Zu,Xb];simp;omega
  rw [a]
theorem Zef {N k:Nat} {a:QV} (ha:RV k a) (hr:Z5 N k):Sc N a=some (Ze (Yg a.2)):=by
 obtain ⟨b,c⟩:=hr
 have:=ha.ld
 rw [Sc,Zrs ha.d (by omega) (by omega),oB,Yg]
 by_cases h:Zc a.2=0
 ·rw [h,Vi,if_neg (by decide),if_pos rfl,Zlw (by decide) (by omega)];rfl
 ·have:=Tv h
  rw [if_pos (dT (by omega)),if_neg h]
theorem Tu {k:Nat} {a:QV} (ha:RV k a):(Ze (Yg a.2)).length≤k+1:=by
 have b:=Ys ha.d
 have c:=ha.ld
 rw [Yg]
 split
 ·rw [Qc];simp
 ·omega
theorem Zoq {N k l n:Nat} {a:ZV} (ha:Zn a.2) (hk:a.2.length≤k) (hl:(Ze n).length≤l) (hr:Z5 N (k+l)):Zdh N a (Ze n)=some (Xs (Zu a * n)):=by
 rw [Zdh,Xbs (a:=(a.1,a.2)) (b:=(false,Ze n)) ha (Xd _) hk hl hr,oB]
 have e:Zu (false,Ze n)=n:=by simp [Zu,Xb]
 rw [e]
theorem Znj {N k l:Nat} {neg:Bool} {num den:List Int} (hn:Zn num) (hd:Zn den) (h0:Zc den≠0) (hk:num.length≤k) (hl:den.length≤l) (hr:Z5 N (k+l)):
  Zdg N neg num den=some (Zp (mkRat (Zu (neg,num)) (Zc den))):=by
 have b:=hr
 obtain ⟨e,f⟩:=b
 have g:=Ys hn
 have d:=Ys hd
 have c:dA (Zc num) (Zc den)≠0:=fun h=>h0 (Nat.gcd_eq_zero_iff.1 h).2
 have lg:(Ze (dA (Zc num) (Zc den))).length≤den.length:=aU (Wu (Nat.gcd_le_right _ (by omega))) d
 have i:=Wu (Nat.div_le_self (Zc num) (dA (Zc num) (Zc den)))
 rw [Zdg,Z7l hn hd (by omega) (by omega),oB,Zm6 hn (Xd _) (by omega) (by omega),oB,Zm6 hd (Xd _) (by omega) (by omega),oB,Xb,if_neg c,if_neg c,
  Xbt (k:=k) (a:=(neg,Ze (Zc num / dA (Zc num) (Zc den)))) (Xd _) (by simp only;omega) (hr.mono (by omega)),oB,Zyd h0,Zlv,Xb]
theorem Zj7 {N k:Nat} {a:QV} (ha:RV k a) (hr:Z5 N k):Qf N a=some (S1 (Zr a)):=by
 rw [Qf,Zpm (a:=(a.1.1,a.1.2)) ha.m ha.lm hr,oB,Zzj]
theorem Zg6 (z:Int):(Xs z).2=Ze z.natAbs:=rfl
theorem Zc5 {k l n:Nat} {a:ZV} (ha:Zn a.2) (hk:a.2.length≤k) (hl:(Ze n).length≤l):(Xs (Zu a * n)).2.length≤k+l:=by
 rw [Zg6,fW,eS,Zeg]
 have b:=U7 (Zc a.2) n
 have c:=Ys ha
 omega
theorem Zv2 {N k l:Nat} {a b:QV} (ha:RV k a) (hb:RV l b) (hr:Z5 N (2 * (k+l+2))):Zhq N a b=some (Sg (Zr a) (Zr b)):=by
 have c:=Tu ha
 have d:=Tu hb
 have e:=Zc5 (n:=Yg b.2) ha.m ha.lm d
 have f:=Zc5 (n:=Yg a.2) hb.m hb.lm c
 rw [Zhq,Zef hb (hr.mono (by omega)),oB,Zoq (k:=k) (l:=l+1) ha.m ha.lm d (hr.mono (by omega)),oB,Zef ha (hr.mono (by omega)),oB,Zoq (k:=l) (l:=k+1) hb.m hb.lm c (hr.mono (by omega)),oB,
  Xbr (a:=Xs _) (b:=Xs _) (U8 _) (U8 _) e f (hr.mono (by omega)),oB,U0,U0,Zr,Zr,Zr9 (U5 _) (U5 _)]
theorem Zql {N k l:Nat} {a b:QV} (ha:RV k a) (hb:RV l b) (hr:Z5 N (k+l+2)):Q8 N (Ze (Yg a.2)) (Ze (Yg b.2))=some (Ze (Yg a.2 * Yg b.2))∧(Ze (Yg a.2 * Yg b.2)).length≤k+l+2∧Yg a.2 * Yg b.2≠0:=by
 have d:=Tu ha
 have e:=Tu hb
 have c:=hr
 obtain ⟨f,g⟩:=c
 have:=U7 (Yg a.2) (Yg b.2)
 refine ⟨by rw [Zlu (Xd _) (Xd _) (by omega) (by omega),Xb,Xb],by omega,eE (U5 _) (U5 _)⟩
theorem Zta {x y:Int} {k:Nat} (hx:(Xs x).2.length≤k) (hy:(Xs y).2.length≤k):(Xs (x+y)).2.length≤k+1:=by
 rw [Zg6] at *
 exact aU (Wu (Int.natAbs_add_le _ _)) (Znh hx hy)
theorem Xa5 {x y:Int} {k:Nat} (hx:(Xs x).2.length≤k) (hy:(Xs y).2.length≤k):(Xs (x - y)).2.length≤k+1:=by
 rw [Int.sub_eq_add_neg]
 refine Zta hx ?_
 rw [Zg6,Int.natAbs_neg];exact hy
theorem Z8z (z:Int):((Xs z).1,(Xs z).2)=Xs z:=rfl
theorem Zm9 {N k l:Nat} {a b:QV} (ha:RV k a) (hb:RV l b) (hr:Z5 N (2 * (k+l+3))):Sr N a b=some (Zp (Zr a+Zr b)):=by
 have c:=Tu ha
 have d:=Tu hb
 have f:=Zc5 (n:=Yg b.2) ha.m ha.lm d
 have e:=Zc5 (n:=Yg a.2) hb.m hb.lm c
 obtain ⟨g,i,j⟩:=Zql ha hb (hr.mono (by omega))
 have sl:=Zta (k:=k+l+1) (by omega) (aU e (by omega))
 rw [Sr,Zef hb (hr.mono (by omega)),oB,Zoq (k:=k) (l:=l+1) ha.m ha.lm d (hr.mono (by omega)),oB,Zef ha (hr.mono (by omega)),oB,Zoq (k:=l) (l:=k+1) hb.m hb.lm c (hr.mono (by omega)),oB,
  Xbp (a:=Xs _) (b:=Xs _) (U8 _) (U8 _) f e (hr.mono (by omega)),oB,U0,U0,oB,oB,g,oB,
  Znj (U8 _) (Xd _) (by rw [Xb];exact j) sl i (hr.mono (by omega)),oB,Z8z,U0,Xb,Zr,Zr,jY _ _ (U5 _) (U5 _)]
theorem Znb {N k l:Nat} {a b:QV} (ha:RV k a) (hb:RV l b) (hr:Z5 N (2 * (k+l+3))):Q5 N a b=some (Zp (Zr a * Zr b)):=by
 have c:=hr
 obtain ⟨g,i⟩:=c
 have j:=ha.lm
 have n:=hb.lm
 have o:=Ys ha.m
 have p:=Ys hb.m
 have q:=U7 (Zc a.1.2) (Zc b.1.2)
 obtain ⟨d,e,f⟩:=Zql ha hb (hr.mono (by omega))
 rw [Q5,Zlu ha.m hb.m (by omega) (by omega),oB,Zef ha (hr.mono (by omega)),oB,Zef hb (hr.mono (by omega)),oB,d,oB,
  Znj (k:=k+l) (Xd _) (Xd _) (by rw [Xb];exact f) (by omega) e (hr.mono (by omega)),oB,Ztp,Xb,Zr,Zr,jZ]
theorem Zrk (n₁:Int) (d₁:Nat) (b:ZV) (d₂:Nat) (s:Bool) (x:List Int) (h:n₁=Zu (s,x)) (hb:Zc b.2≠0):mkRat n₁ d₁ / mkRat (Zu b) d₂=mkRat (Zu (!decide (s=b.1),Ze (Zc x * d₂))) (d₁ * Zc b.2):=by
 have d:mkRat (Zu b) d₂=(Zu b:Rat) / (d₂:Rat):=dI _ _
 have e:(Zu b:Rat)=(if b.1=true then -1 else 1) * (Zc b.2:Rat):=by
  rw [Zu];split
  ·rw [Rat.intCast_neg,Rat.neg_mul,Rat.one_mul];rfl
  ·rw [Rat.one_mul];rfl
 have f:(Zu (!decide (s=b.1),Ze (Zc x * d₂)):Rat)=(if b.1=true then -1 else 1) * (n₁:Rat) * (d₂:Rat):=by
  subst h
  have:Zu (!decide (s=b.1),Ze (Zc x * d₂))=(if b.1=true then -1 else 1) * Zu (s,x) * (d₂:Int):=by
   obtain ⟨t,y⟩:=b
   simp only [Zu,Xb]
   cases s <;> cases t <;> simp [bV,Int.neg_mul]
  rw [this,iZ,iZ]
  congr 2
  split <;> rfl
 have g:(Zc b.2:Rat)≠0:=fun h=>hb (Rat.natCast_eq_zero_iff.1 h)
 rw [dI,d,dI,f,e,Rat.natCast_mul]
 have c:(if b.1=true then (-1:Rat) else 1) * (if b.1=true then (-1:Rat) else 1)=1:=by split <;> grind
 generalize (if b.1=true then (-1:Rat) else 1)=sg at *
 generalize (n₁:Rat)=p
 generalize (d₁:Rat)=q
 generalize (d₂:Rat)=r
 generalize (Zc b.2:Rat)=m at *
 have i:sg≠0:=fun h=>by rw [h] at c;grind
 have a:sg⁻¹=sg:=gJ c
 simp only [Rat.div_def,Rat.inv_mul_rev,Rat.inv_inv,a]
 grind
theorem Zv3 {N k l:Nat} {a b:QV} (ha:RV k a) (hb:RV l b) (hr:Z5 N (2 * (k+l+3))):Zb1 N a b=some (if Zr b=0 then (((false,[]),[]),11) else (Zp (Zr a / Zr b),0)):=by
 have d:=hr
 obtain ⟨i,j⟩:=d
 have n:=ha.lm
 have o:=hb.lm
 have p:=Ys ha.m
 have q:=Ys hb.m
 have r:=Tu ha
 have s:=Tu hb
 rw [Zb1,Zj7 hb (hr.mono (by omega)),oB]
 by_cases h0:Zr b=0
 ·rw [if_pos h0,h0,if_pos (by decide)]
 ·have c:Zc b.1.2≠0:=fun h=>h0 ((Z9h b).2 h)
  have f:=U7 (Zc a.1.2) (Yg b.2)
  have g:=U7 (Yg a.2) (Zc b.1.2)
  have e:=Zrk (Zu a.1) (Yg a.2) b.1 (Yg b.2) a.1.1 a.1.2 rfl c
  rw [if_neg (dF (fun h=>h0 (Zjg.1 h))),if_neg h0,Zef hb (hr.mono (by omega)),oB,Zlu ha.m (Xd _) (by omega) (by omega),oB,Zef ha (hr.mono (by omega)),oB,Zlu (Xd _) hb.m (by omega) (by omega),oB,Xb,Xb,
   Znj (k:=k+l+1) (l:=k+l+1) (Xd _) (Xd _) (by rw [Xb];exact eE (U5 _) c) (by omega) (by omega) (hr.mono (by omega)),oB,Xb,← e]
  rfl
theorem Z7i {N k l:Nat} {a b:ZV} (ha:Zn a.2) (hb:Zn b.2) (hk:a.2.length≤k) (hl:b.2.length≤l) (hr:Z5 N (k+l)):Zkk N a b=some (if Zu b=0 then (((false,[]),[]),11) else (Zp ((Zu a:Rat) / (Zu b:Rat)),0)):=by
 rw [Zkk,Zpm (a:=(b.1,b.2)) hb hl (hr.mono (by omega)),oB]
 by_cases h0:Zu b=0
 ·rw [if_pos h0,h0,if_pos (by decide)]
 ·have c:Zc b.2≠0:=fun h=>h0 (by have:=Zeg b;omega)
  have e:=Zrk (Zu a) 1 b 1 a.1 a.2 rfl c
  have d:¬ (Zu b).sign=0:=fun h=>h0 (Int.sign_eq_zero_iff_zero.1 h)
  rw [if_neg (by rw [decide_eq_false d];decide),if_neg h0,Znj ha hb c hk hl hr,oB]
  rw [dI,dI] at e
  have f:(Zu a:Rat) / ((1:Nat):Rat) / ((Zu b:Rat) / ((1:Nat):Rat))=(Zu a:Rat) / (Zu b:Rat):=by
   have g:((1:Nat):Rat)=1:=rfl
   have i:(1:Rat)⁻¹=1:=gJ (by grind)
   simp only [g,Rat.div_def,i,Rat.mul_one]
  rw [f,Nat.one_mul,Nat.mul_one] at e
  rw [e]
  have j:Zu (!decide (a.1=b.1),Ze (Zc a.2))=Zu (!decide (a.1=b.1),a.2):=by simp only [Zu,Xb]
  rw [j]
theorem Zqv {N:Nat} {a b:Int} (h:-9223372036854775808≤a∧a≤9223372036854775807) (g:-9223372036854775808≤b∧b≤9223372036854775807) (hr:Z5 N 4):Zde N a b=some (if b=0 then (((false,[]),[]),11) else (Zp ((a:Rat) / (b:Rat)),0)):=by
 have c:∀ z:Int,-9223372036854775808≤z∧z≤9223372036854775807→(Xs z).2.length≤2:=fun z d=>W8.2 (by simp;omega)
 rw [Zde,Z23 h (hr.mono (by omega)),oB,Z23 g (hr.mono (by omega)),oB,Z7i (a:=Xs a) (b:=Xs b) (U8 _) (U8 _) (c _ h) (c _ g) hr,oB,U0,U0]
def Yn (l:List QV):Rat:=(l.map Zr).sum
def Xx:List QV→Nat
 | []=>0
 | a :: l=>max a.1.2.length a.2.length+2+Xx l
theorem Zed {a:QV} (hm:Zn a.1.2) (hd:Zn a.2):RV (max a.1.2.length a.2.length) a:=⟨hm,hd,Nat.le_max_left _ _,Nat.le_max_right _ _⟩
def Vf (a:QV):Prop:=Zn a.1.2∧Zn a.2
theorem Zsg {a:QV} (h:Vf a):qs (Zr a)≤max a.1.2.length a.2.length+1:=by
 have:=Zsh (Zed h.1 h.2)
 omega
theorem Zwp {N:Nat}:∀ (l:List QV) (q:Rat),(∀ a ∈ l,Vf a)→Z5 N (4 * (qs q+Xx l+3))→Zdf N l (Zp q).1.1 (Zp q).1.2 (Zp q).2=some (Zp (q+Yn l))∧qs (q+Yn l)≤qs q+Xx l
 | [],q,_,_=>by
  rw [Zdf.eq_1,Yn]
  simp only [List.map_nil,List.sum_nil,Rat.add_zero,Xx]
  exact ⟨trivial,by omega⟩
 | a :: l,q,d,b=>by
  have c:=d a aC
  have n:=Zsg c
  rw [Xx] at b ⊢
  rw [Zdf.eq_2,Zm9 (k:=qs q) (l:=max a.1.2.length a.2.length) (Zjn q) (Zed c.1 c.2) (b.mono (by omega)),oB]
  have e:Zr ((((Zp q).1.1,(Zp q).1.2),(Zp q).2):QV)=q:=Wo q
  have f:Zr (((a.1.1,a.1.2),a.2):QV)=Zr a:=rfl
  have o:=Zsf q (Zr a)
  obtain ⟨g,i⟩:=Zwp l (q+Zr a) (fun x j=>d x (aB _ j)) (b.mono (by omega))
  rw [e,f,g]
  have m:q+Zr a+Yn l=q+Yn (a :: l):=by rw [Yn,Yn,List.map_cons,List.sum_cons,Rat.add_assoc]
  rw [m] at i ⊢
  exact ⟨rfl,by omega⟩
theorem Znc {N:Nat} {l:List QV} (hl:∀ a ∈ l,Vf a) (hr:Z5 N (4 * (Xx l+4))):Zb2 N l=some (Zp (Yn l))∧qs (Yn l)≤Xx l+1:=by
 have c:=hr
 obtain ⟨f,g⟩:=c
 obtain ⟨b,d⟩:=Zwp (N:=N) l 0 hl (hr.mono (by rw [Zow];omega))
 rw [Rat.zero_add] at b d
 rw [Zow] at d
 have e:Zp 0=((false,[]),[1]):=by
  rw [Zp,Xs]
  simp only [Rat.zero_num,Rat.zero_den,Int.natAbs_zero,Vi,Qc]
  rfl
 rw [e] at b
 refine ⟨?_,by omega⟩
 rw [Zb2,Zlw (by decide) (by omega),oB,← b]
 rw [show (1:Int).toNat=1 from rfl,Qc]
def Bd (D M:Nat) (q:Rat):Prop:=∃ z:Int,q=mkRat z D∧z.natAbs≤M * D
theorem Bd.lift {D M:Nat} (E:Nat) {q:Rat} (h:Bd D M q) (hD:D≠0) (hE:E≠0):Bd (D * E) M q:=by
 obtain ⟨z,rfl,a⟩:=h
 refine ⟨z * E,?_,?_⟩
 ·rw [Zxz hD (eE hD hE),bV,lG,Int.mul_comm (E:Int)]
 ·rw [fW,eS,← Nat.mul_assoc]
  exact Nat.mul_le_mul_right E a
theorem Z8k (a b:Int) {D:Nat} (hD:D≠0):mkRat a D+mkRat b D=mkRat (a+b) D:=by
 rw [jY _ _ hD hD,← Int.add_mul,Zxz (eE hD hD) hD,bV,lG]
theorem Bd.mul {D E M K:Nat} {a b:Rat} (ha:Bd D M a) (hb:Bd E K b):Bd (D * E) (M * K) (a * b):=by
 obtain ⟨x,rfl,c⟩:=ha
 obtain ⟨y,rfl,d⟩:=hb
 refine ⟨x * y,jZ _ _ _ _,?_⟩
 rw [fW,Nat.mul_mul_mul_comm M K D E]
 exact Nat.mul_le_mul c d
theorem Bd.one:Bd 1 1 1:=⟨1,rfl,by simp⟩
def So:List QV→Nat
 | []=>1
 | x :: t=>Yg x.2 * So t
theorem Zqo:∀ t:List QV,So t≠0
 | []=>by simp [So]
 | x :: t=>eE (U5 x.2) (Zqo t)
theorem Zvq:∀ (t:List QV),(∀ x ∈ t,Vf x)→(Ze (So t)).length≤Xx t+1
 | [],_=>by rw [So,Qc];simp
 | x :: t,h=>by
  have a:=h x aC
  have c:=Tu (Zed a.1 a.2)
  have d:=Zvq t fun y b=>h y (aB _ b)
  have e:=U7 (Yg x.2) (So t)
  rw [So,Xx];omega
theorem Z3l {x:QV} (h:0≤Zr x) (g:Zr x≤1):Bd (Yg x.2) 1 (Zr x):=by
 refine ⟨Zu x.1,rfl,?_⟩
 have a:=U5 x.2
 have c:¬ Zu x.1<0:=fun b=>by
  have:Zr x<0:=by
   rw [Zr,show (0:Rat)=mkRat 0 1 from rfl,Zga a (by decide)];omega
  exact absurd h (Rat.not_le.2 this)
 have d:¬ (Yg x.2:Int)<Zu x.1:=fun b=>by
  have:1<Zr x:=by
   rw [Zr,show (1:Rat)=mkRat 1 1 from rfl,Zga (by decide) a];omega
  exact absurd g (Rat.not_le.2 this)
 omega
def Zc9 (kk_L2:(Option Int)):List Int→Rf→Option Int
  | [],aa=>kk_L2
  | ab :: ac,aa=>if (decide (0<((W0 aa ab).getD 0)))=true then (some 40) else ((some (Qo aa ab 1)).bind fun ad=>(Zc9 kk_L2 ac) ad)
termination_by structural x=>x
def Za2:List R2→Option Int
  | []=>some 0
  | aa :: ab=>Zc9 (Za2 ab) aa ([]:List Rb)
termination_by structural x=>x
def Zhh (kk_L4:(Option Int)) (aa:Bool):Option Int:=
  if aa=true then (some 3) else kk_L4
def Za3 (aa:R7) (kk_L1:(Option Int)):List Int→Option Int
  | []=>kk_L1
  | ab :: ac=>if (decide (ab<0))=true then (Zhh (Za3 aa kk_L1 ac) true) else (Zhh (Za3 aa kk_L1 ac) (decide ((aa.length:Int)≤ab)))
termination_by structural x=>x
def Za1 (aa:R7):List R2→Option Int
  | []=>Za2 aa
  | ab :: ac=>Za3 aa (Za1 aa ac) ab
termination_by structural x=>x
def Zhg (aa:R7):Option Int:=
  Za1 aa aa
theorem Z31 {a6:Nat} {a0:Option Addr} {col:Zd} {w0:World} {ab:R7} {r:Int} (hm:Zhg ab=some r) (h0:Sl (Za.slice rI) col w0 a0 a6 ab):
    Calls prog 155 #[.slice a0 ab.length a6] w0 (fun e w'=>e= .returned ((.int .i64 r))∧Below w0.heap.size w0 w'):=by
 refine Xe 2 (m:=57) func155 rfl rfl rfl rfl rfl ?_;rw [Zhg.eq_1] at hm;have aa:=St.start col w0;refine go ?_;refine Zv [0,12,13,1000000] (fun n f a7=>∃ a8 ag ah,n=ah.length∧ab.drop ag=ah∧Za1 ab ah=some r∧St w0 (Zj col) a8 a7∧[14].map f=[.int .i64 ag]) ab.length ⟨_,0,_,rfl,rfl,hm,aa,rfl⟩ ?_;clear hm;intro n f a7 hI;obtain ⟨a8,ag,ah,hn,hl,hm,aa,hs⟩:=hI;subst hn;refine .lL [14] hs ?_;replace h0:=h0.k0
 cases ah with
 | nil=>
  have hk:¬ ((ag:Int)<(ab.length:Int)):=by have:=aG.1 hl;omega
  have hkb:=decide_eq_false hk;rw [Za1.eq_1] at hm;refine go ?_;refine X0 (congrArg Value.bool hkb)<|go ?_;refine Zv [34,35,1000000] (fun n f a9=>∃ au ai aj,n=aj.length∧ab.drop ai=aj∧Za2 aj=some r∧St w0 (Zj col) au a9∧[36].map f=[.int .i64 ai]) ab.length ⟨_,0,_,rfl,rfl,hm,aa,rfl⟩ ?_;clear hm;intro n f a9 hI;obtain ⟨au,ai,aj,hn,hl,hm,aa,hs⟩:=hI;subst hn;refine .lL [36] hs ?_
  cases aj with
  | nil=>
   have hk:¬ ((ai:Int)<(ab.length:Int)):=by have:=aG.1 hl;omega
   have hkb:=decide_eq_false hk;rw [Za2.eq_1] at hm;refine go ?_;refine X0 (congrArg Value.bool hkb)<|go ?_;cases hm;exact ⟨rfl,rfl,aa.below⟩
  | cons ak ba=>
   obtain ⟨ac,bi,bj⟩:=Yf hl;have hk:(ai:Int)<(ab.length:Int):=by omega
   have hkb:=decide_eq_true hk;rw [Za2.eq_2] at hm;refine go ?_;refine X1 (congrArg Value.bool hkb)<|go ?_;refine lI ac ((h0.ks aa).addr ac) ?_;obtain ⟨_,bk,bm⟩:=(h0.ks aa).atN ac;obtain ⟨⟨bn,bo,rfl,ad⟩,_⟩:=bk;refine lW bm.one<|go ?_;refine Z70 (col:=au) (fk:=(Value.int .i64)) (fv:=(Value.int .i64)) 1 rfl underlying191 rfl ?_;intro b3 b4 b5 bb bp;refine go ?_;replace ad:=ad.gr bb;replace aa:=aa.grow bb;refine Zv [34,35,36,43,44,1000000] (fun n f aq=>∃ ar al av am an,n=an.length∧ak.drop al=an∧Zc9 (Za2 ba) an am=some r∧St w0 (Zj col) ar aq∧Sl rI ar aq bn bo ak∧Vw (Value.int .i64) (Value.int .i64) 1 ar aq av am∧[45,9].map f=[.int .i64 al,.map (some av)]) ak.length ⟨_,0,_,_,_,rfl,rfl,hm,aa,ad,bp,rfl⟩ ?_;clear hm;intro n f aq hI;obtain ⟨ar,al,av,am,an,hn,hl,hm,aa,ad,bc,hs⟩:=hI;subst hn;refine .lL [45,9] hs ?_
   cases an with
   | nil=>
    have hk:¬ ((al:Int)<(ak.length:Int)):=by have:=aG.1 hl;omega
    have hkb:=decide_eq_false hk;rw [Zc9.eq_1] at hm;refine go ?_;refine X0 (congrArg Value.bool hkb)<|go ?_;exact ⟨ba.length,by simp,rfl,⟨_,_,_,rfl,bi,hm,aa,(Yl (congrArg (Value.int .i64) (Yi (aE bj (h0.ks aa).1.1))) rfl)⟩⟩
   | cons aw bq=>
    obtain ⟨ac,br,bs⟩:=Yf hl;have hk:(al:Int)<(ak.length:Int):=by omega
    have hkb:=decide_eq_true hk;rw [Zc9.eq_2] at hm;refine go ?_;refine X1 (congrArg Value.bool hkb)<|go ?_;refine lI ac (ad.addr ac)<|lW (ad.atInt ac) ?_;refine go ?_;refine lV (.int .i64 ((W0 am aw).getD 0)) (Zzu S4.int bc underlying191 underlying3 zeroValue3 rfl rfl)<|go ?_;refine Zo hm (fun hb hm=>go ?_) fun hb hm=>go ?_
    ·cases hm;exact ⟨rfl,rfl,aa.below⟩
    obtain ⟨bt,ax,hm⟩:=bZ hm;have ax:bt=Qo am aw 1:=(Option.some.inj ax).symm;refine Zw5 (k:=aw) (v:=1) S4.int bc underlying191 underlying3 rfl rfl rfl ?_;intro b6 bd bu be;rw [← ax] at be;refine go ?_;replace ad:=ad.kp bd;replace aa:=aa.kp bd bu;exact ⟨bq.length,by simp,rfl,⟨_,_,_,_,_,rfl,br,hm,aa,ad,be,(Yl (congrArg (Value.int .i64) (Yi (aE bs ad.1.1))) rfl)⟩⟩
 | cons af ay=>
  obtain ⟨ac,bv,bw⟩:=Yf hl;have hk:(ag:Int)<(ab.length:Int):=by omega
  have hkb:=decide_eq_true hk;rw [Za1.eq_2] at hm;refine go ?_;refine X1 (congrArg Value.bool hkb)<|go ?_;refine lI ac ((h0.ks aa).addr ac) ?_;obtain ⟨_,bx,bz⟩:=(h0.ks aa).atN ac;obtain ⟨⟨bf,bg,rfl,ae⟩,_⟩:=bx;refine lW bz.one<|go ?_;refine Zv [0,12,13,14,18,19,1000000] (fun n f az=>∃ a1 ao ap,n=ap.length∧af.drop ao=ap∧Za3 ab (Za1 ab ay) ap=some r∧St w0 (Zj col) a1 az∧Sl rI a1 az bf bg af∧[20].map f=[.int .i64 ao]) af.length ⟨_,0,_,rfl,rfl,hm,aa,ae,rfl⟩ ?_;clear hm;intro n f az hI;obtain ⟨a1,ao,ap,hn,hl,hm,aa,ae,hs⟩:=hI;subst hn;refine .lL [20] hs ?_
  cases ap with
  | nil=>
   have hk:¬ ((ao:Int)<(af.length:Int)):=by have:=aG.1 hl;omega
   have hkb:=decide_eq_false hk;rw [Za3.eq_1] at hm;refine go ?_;refine X0 (congrArg Value.bool hkb)<|go ?_;exact ⟨ay.length,by simp,rfl,⟨_,_,_,rfl,bv,hm,aa,(Yl (congrArg (Value.int .i64) (Yi (aE bw (h0.ks aa).1.1))) rfl)⟩⟩
  | cons b0 bh=>
   obtain ⟨ac,b1,b2⟩:=Yf hl;have hk:(ao:Int)<(af.length:Int):=by omega
   have hkb:=decide_eq_true hk;rw [Za3.eq_2] at hm;refine go ?_;refine X1 (congrArg Value.bool hkb)<|go ?_;refine lI ac (ae.addr ac)<|lW (ae.atInt ac)<|Y6 rfl<|Zk<|Zz ?_;refine Wp.cutK [0,12,13,14,18,19,20,1000000] (fun f a2=>∃ a3 a4,Zhh (Za3 ab (Za1 ab ay) bh) a4=some r∧St w0 (Zj col) a3 a2∧Sl rI a3 a2 bf bg af∧[31].map f=[.bool a4]) ?_ ?_
   ·intro f a2 hJ;obtain ⟨a3,a4,hm,aa,ae,hs⟩:=hJ;rw [Zhh.eq_1] at hm;refine .lL [31] hs ?_;refine Zo hm (fun hb hm=>go ?_) fun hb hm=>go ?_
    ·cases hm;exact ⟨rfl,rfl,aa.below⟩
    exact ⟨bh.length,by simp,rfl,⟨_,_,_,rfl,b1,hm,aa,ae,(Yl (congrArg (Value.int .i64) (Yi (aE b2 ae.1.1))) rfl)⟩⟩
   refine go ?_;refine Yr hm (fun a5 hm=>go ?_) fun a5 hm=>go ?_
   ·refine lV (.bool true) (Ye (congrArg Value.bool a5) rfl)<|Zk ?_;exact ⟨rfl,_,_,hm,aa,ae,rfl⟩
   refine lV (.bool (decide ((ab.length:Int)≤b0))) (Yd (congrArg Value.bool a5) rfl)<|Zk ?_;exact ⟨rfl,_,_,hm,aa,ae,rfl⟩
theorem Z61:Wa prog 3 1 8:=⟨Tryz.t3,_,rfl,rfl,rfl,rfl,rfl⟩
def Zc8 (aa:Nat) (kk_L1:(Nat→R7→Option R7)):List Int→R7→Option R7
  | [],ab=>kk_L1 (aa+1) ab
  | ad :: ae,ab=>(Zl ab ad).bind fun ac=>Z4 ((ac.length+[(aa:Int)].length) * 8≤140737488355328∧ac.length+[(aa:Int)].length≤maxLen) ((Zc8 aa kk_L1 ae) (ab.set (aA ad) (ac++[(aa:Int)])))
termination_by structural x=>x
def Za0:List R2→Nat→R7→Option R7
  | [],ab,aa=>some aa
  | ac :: ad,ab,aa=>Zc8 ab (Za0 ad) ac aa
termination_by structural x=>x
def Zhf (aa:R7):Option R7:=
  Z4 (aa.length * 24≤281474976710656∧aa.length≤maxLen) (Za0 aa 0 (aM aa.length (([]:List Int):List Int)))
theorem Z30 {a7:Nat} {a0:Option Addr} {col:Zd} {w0:World} {ae r:R7} (c1:Nat) (hm:Zhf ae=some r) (h0:Sl (Za.slice rI) col w0 a0 a7 ae):
    Calls prog 157 #[.slice a0 ae.length a7] w0 (fun e w'=>∃ (col':Zd) (ra1:Option Addr) (rc2:Nat),e= .returned ((.slice ra1 r.length rc2))∧Zf col w0 col' w'∧Zb (Za.row 3 rI) 33 c1 col' w' ra1 rc2 r):=by
 refine Xe 2 (m:=37) func157 rfl rfl rfl rfl rfl ?_;rw [Zhf.eq_1] at hm;have aa:=St.start col w0;refine go ?_;obtain ⟨a8,hm⟩:=Z9 hm;refine Sq (col:=(Zj col)) (w:=w0) (r:=(Za.row 3 rI)) (n:=ae.length) (x0:=([]:List Int)) 1 rfl underlying24 Tryz.t33 rfl rfl rfl rfl rfl rfl rfl a8.1 a8.2 Zst ?_;intro b4 b5 b6 bg bh;refine go ?_;replace aa:=aa.grow bg;refine Zv [11,12,1000000] (fun n f aw=>∃ ax ab ay az ap aj,n=aj.length∧ae.drop ab=aj∧Za0 aj ab ap=some r∧St w0 (Zj col) ax aw∧Zb (Za.row 3 rI) 33 1 ax aw ay az ap∧[13,3].map f=[.int .i64 ab,.slice ay ap.length az]) ae.length ⟨_,0,_,_,_,_,rfl,rfl,hm,aa,bh,rfl⟩ ?_;clear hm;intro n f aw hI;obtain ⟨ax,ab,ay,az,ap,aj,hn,hl,hm,aa,a9,hs⟩:=hI;subst hn;refine .lL [13,3] hs ?_;replace h0:=h0.k0
 cases aj with
 | nil=>
  have hk:¬ ((ab:Int)<(ae.length:Int)):=by have:=aG.1 hl;omega
  have hkb:=decide_eq_false hk;rw [Za0.eq_1] at hm;refine go ?_;refine X0 (congrArg Value.bool hkb)<|go ?_;cases hm;exact ⟨rfl,_,_,_,rfl,aa.fin (cm [(1,c1)]),aa.fo a9⟩
 | cons ak ba=>
  obtain ⟨af,bi,bj⟩:=Yf hl;have hk:(ab:Int)<(ae.length:Int):=by omega
  have hkb:=decide_eq_true hk;rw [Za0.eq_2] at hm;refine go ?_;refine X1 (congrArg Value.bool hkb)<|go ?_;refine lI af ((h0.ks aa).addr af) ?_;obtain ⟨_,bk,bm⟩:=(h0.ks aa).atN af;obtain ⟨⟨bn,bo,rfl,ac⟩,_⟩:=bk;refine lW bm.one<|go ?_;refine Zv [11,12,13,18,19,4,1000000] (fun n f al=>∃ aq am ag ah ad an,n=an.length∧ak.drop am=an∧Zc8 ab (Za0 ba) an ad=some r∧St w0 (Zj col) aq al∧Sl rI aq al bn bo ak∧Zb (Za.row 3 rI) 33 1 aq al ag ah ad∧[20,3].map f=[.int .i64 am,.slice ag ad.length ah]) ak.length ⟨_,0,_,_,_,_,rfl,rfl,hm,aa,ac,a9,rfl⟩ ?_;clear hm;intro n f al hI;obtain ⟨aq,am,ag,ah,ad,an,hn,hl,hm,aa,ac,a1,hs⟩:=hI;subst hn;refine .lL [20,3] hs ?_
  cases an with
  | nil=>
   have hk:¬ ((am:Int)<(ak.length:Int)):=by have:=aG.1 hl;omega
   have hkb:=decide_eq_false hk;rw [Zc8.eq_1] at hm;refine go ?_;refine X0 (congrArg Value.bool hkb)<|go ?_;exact ⟨ba.length,by simp,rfl,⟨_,_,_,_,_,_,rfl,bi,hm,aa,a1,(Yl (congrArg (Value.int .i64) (Yi (aE bj (h0.ks aa).1.1))) rfl)⟩⟩
  | cons ar bp=>
   obtain ⟨af,bq,br⟩:=Yf hl;have hk:(am:Int)<(ak.length:Int):=by omega
   have hkb:=decide_eq_true hk;rw [Zc8.eq_2] at hm;refine go ?_;refine X1 (congrArg Value.bool hkb)<|go ?_;refine lI af (ac.addr af)<|lW (ac.atInt af) ?_;refine go ?_;obtain ⟨ao,au,hm⟩:=bZ hm;refine lI au (a1.addr au) ?_;obtain ⟨_,bb,bc,ai,bs⟩:=a1.open_ 2 (by decide) au;obtain ⟨bt,bu,rfl,a2⟩:=bs.row;replace ai:Y7 (Za.row 3 rI) 33 1 bb al ag ah ad (aA ar) [.slice bt ao.length bu]:=ai;refine lW ai.atN.one<|X4 rfl<|Vz (col:=bb) [(ab:Int)] 3 ?_;intro b7 bv bw av bx;obtain ⟨bd,hm⟩:=Z9 hm;refine Sb (col:=bw) (w:=bv) (r:=rI) (c:=2) (c2:=2) ((a2.gr av).ex) (bx.srcN (NB.int (k:=.i64))) rfl underlying33 Z61 rfl rfl rfl bd.1 bd.2 (by decide) ?_;intro be bf b8 bz a3 a4;replace ai:=(ai.gr av).kpp a3;refine lI au (ai.addr)<|Z71 (v:=(.slice be ((ao++[(ab:Int)]).length) bf)) ai rfl sizeOf33 rfl (by intro u hu;simp only [Value.cells,aO,bG,or_false] at hu;subst hu;rfl) rfl rfl (by decide) ?_;intro b0 a5 b1 a6;replace a6:Y7 (Za.row 3 rI) 33 1 bz b0 ag ah ad (aA ar) [.slice be ((ao++[(ab:Int)]).length) bf]:=a6;have b2:=(a4.kp a5).new;have b3:=a6.close b2.has (by decide) (by decide);replace ac:=(((ac.kpp bc).gr av).kpp a3).kp a5;replace ac:=ac.recol 2 1;replace aa:=(((aa.kpp bc).grow av).kpp a3).kp a5 b1;replace aa:=aa.recol 2 1 (by decide) (by decide);refine .ld (d:=3) (v:=(.slice ag ((ad.set (aA ar) (ao++[(ab:Int)])).length) ah)) (congrArg (fun n=>Value.slice ag n ah) (show ad.length=(ad.set (aA ar) (ao++[(ab:Int)])).length by simp only [nS])) ?_;refine go ?_;exact ⟨bp.length,by simp,rfl,⟨_,_,_,_,_,_,rfl,bq,hm,aa,ac,b3,(Yl (congrArg (Value.int .i64) (Yi (aE br ac.1.1))) rfl)⟩⟩
def Zda (aa:Int) (kk_L2:(Int→Int→Option R6)) (ab:Int):Option R6:=
  kk_L2 (i64.wrap (aa+1)) ab
def Zhi (aa:Int) (ab:Int) (kk_L2:(Int→Int→Option R6)) (ac:Int) (ad:Bool):Option R6:=
  if ad=true then (Zda aa kk_L2 ac) else (Zda aa kk_L2 ab)
def Qe (N:Nat) (ad:List Int) (ag:Int) (aa:List Int) (ac:Int) (kk_L1:(List Int→Int→Option R6)):Nat→Int→Int→Option R6
  | 0,_,_=>none
  | ah+1,ae,ab=>if (decide (ae<2))=true then ((Zl [i64.wrap ((i64.wrap (2 * ac))+1),i64.wrap ((i64.wrap (2 * ac))+2)] ae).bind fun af=>if (decide (af<(i64.wrap ((ad.length:Int) - 1))))=true then ((Zl aa af).bind fun aj=>(Zl aa ab).bind fun ak=>Zhi ae ab (Qe N ad ag aa ac kk_L1 ah) af (decide (aj<ak))) else (Zhi ae ab (Qe N ad ag aa ac kk_L1 ah) af false)) else (if (decide (ab=ac))=true then (some (ag,aa.take (aA (i64.wrap ((ad.length:Int) - 1))))) else ((Zl aa ab).bind fun al=>(Zl aa ac).bind fun am=>(some (aa.set (aA ac) al)).bind fun ai=>(Zl ai ab).bind fun ao=>(some (ai.set (aA ab) am)).bind fun an=>kk_L1 an ab))
termination_by structural x=>x
def Qd (N:Nat) (aa:List Int) (ab:Int):Nat→R2→Int→Option R6
  | 0,_,_=>none
  | ad+1,ae,ac=>Qe N aa ab ae ac (Qd N aa ab ad) N 0 ac
termination_by structural x=>x
def Zkh (N:Nat) (aa:List Int):Option R6:=
  (Zl aa 0).bind fun ac=>(Zl aa (i64.wrap ((aa.length:Int) - 1))).bind fun ad=>(some (aa.set (aA 0) ad)).bind fun ab=>Z4 ((0:Int)≤(i64.wrap ((aa.length:Int) - 1))∧(i64.wrap ((aa.length:Int) - 1))≤(ab.length:Int)) (Qd N aa ac N ab 0)
theorem Z32 {N g0 al:Nat} {am:Option Addr} {col:Zd} {w0:World} {aa:R2} {r:R6} (qc0 ai:Nat) (hm:Zkh N aa=some r) (hd:U4 [qc0,ai]=true) (ap:Zb rI 3 ai col w0 am al aa) (hb0:Zg 192 qc0 col w0 g0 #[.slice am aa.length al]):
    Calls prog 194 #[.pointer (some ⟨g0,0,none⟩)] w0 (fun e w'=>∃ (col':Zd) (oa1:Option Addr) (oc2:Nat),e= .returned ((.int .i64 r.1))∧Zt (pS [qc0,ai]) col w0 col' w'∧Zb rI 3 ai col' w' oa1 oc2 r.2∧Zg 192 qc0 col' w' g0 #[.slice oa1 r.2.length oc2]):=by
 refine Xe 2 (m:=76) func194 rfl rfl rfl rfl rfl ?_;rw [Zkh.eq_1] at hm;have ac:=St.startL (l:=[qc0,ai]) rfl col w0;replace hb0:=hb0.startL (T7 hd 0 rfl) (T6 hd 0 rfl);replace ap:=ap.startL (T7 hd 1 rfl) (T6 hd 1 rfl);refine go ?_;refine lV (.pointer (some ⟨g0,0,none⟩)) (Zah rfl)<|lW hb0.at1<|go ?_;obtain ⟨au,av,hm⟩:=bZ hm;refine lI av (ap.addr av)<|lW (ap.atInt av) ?_;refine go ?_;obtain ⟨bm,be,hm⟩:=bZ hm;refine lI be (ap.addr be)<|lW (ap.atInt be)<|lI av (ap.addr av) ?_;obtain ⟨an,ay,hm⟩:=bZ hm;have ay:an=aa.set (aA 0) bm:=(Option.some.inj ay).symm;refine Wl (x1:=bm) ap av ?_;intro bu bn bv az;rw [← ay] at az;refine .ld (d:=3) (v:=(.slice am an.length al)) (congrArg (fun n=>Value.slice am n al) (show aa.length=an.length by rw [ay,nS])) ?_;replace hb0:=hb0.kp bn;replace hb0:Zg 192 440 (Xh [qc0,ai] col) bu g0 #[.slice am an.length al]:=by rw [← (show aa.length=an.length by rw [ay,nS])];exact hb0
 refine go ?_;obtain ⟨bf,hm⟩:=Z9 hm;refine lv (v:=.slice am (aA (i64.wrap ((aa.length:Int) - 1))) al) rfl rfl (Zjm underlying192 sizeOf3 rfl rfl bf.1 (by have:=az.lecap;have:=bf.2;omega))<|.ld (d:=28) (v:=(.slice am ((an.take (aA (i64.wrap ((aa.length:Int) - 1)))).length) al)) (congrArg (fun n=>Value.slice am n al) (eR (show (aA (i64.wrap ((aa.length:Int) - 1)))≤an.length by have:=bf.2;omega)).symm) ?_;refine lV (.pointer (some ⟨g0,0,none⟩)) (Zah rfl)<|Sp (v:=(.slice am ((an.take (aA (i64.wrap ((aa.length:Int) - 1)))).length) al)) hb0 sizeOf192 rfl rfl (by intro u hu;simp only [Value.cells,aO,bG,or_false] at hu;subst hu;rfl) rfl rfl ?_;intro bw bo bx ab;replace ab:Zg 192 440 (Xh [qc0,ai] col) bw g0 #[(.slice am ((an.take (aA (i64.wrap ((aa.length:Int) - 1)))).length) al)]:=ab;refine go ?_;replace ac:=(ac.kp bn bv).kp bo bx;refine Zv [4,5,1000000] (fun n f a4=>∃ a5 af ag ah ak ao,ao=n∧Qd N aa au ao ah ak=some r∧St w0 (Xh [qc0,ai] col) a5 a4∧Zb rI 3 441 a5 a4 af ag ah∧Zg 192 440 a5 a4 g0 #[(.slice af ((ah.take (aA (i64.wrap ((aa.length:Int) - 1)))).length) ag)]∧[3,6].map f=[.slice af ah.length ag,.int .i64 ak]) N ⟨_,_,_,_,0,_,rfl,hm,ac,az.kp bo,ab,rfl⟩ ?_;clear hm;intro n f a4 hI;obtain ⟨a5,af,ag,ah,ak,ao,hn,hm,ac,ad,ab,hs⟩:=hI;subst hn;refine .lL [3,6] hs ?_
 cases ao with
 | zero=>rw [Qd.eq_1] at hm;cases hm
 | succ ao=>
  rw [Qd.eq_2] at hm;refine go ?_;refine lV (.agg #[(.int .i64 (i64.wrap ((i64.wrap (2 * ak))+1))),(.int .i64 (i64.wrap ((i64.wrap (2 * ak))+2)))]) (Z9k underlying206 sizeOf3 zeroValue206 rfl)<|go ?_;refine Zv [3,37,4,5,6,1000000] (fun n f a6=>∃ ae a0 a1 aq,aq=n∧Qe N aa au ah ak (Qd N aa au ao) aq a0 a1=some r∧St w0 (Xh [qc0,ai] col) ae a6∧Zb rI 3 441 ae a6 af ag ah∧Zg 192 440 ae a6 g0 #[(.slice af ((ah.take (aA (i64.wrap ((aa.length:Int) - 1)))).length) ag)]∧[38,7].map f=[.int .i64 a0,.int .i64 a1]) N ⟨_,0,_,_,rfl,hm,ac,ad,ab,rfl⟩ ?_;clear hm;intro n f a6 hI;obtain ⟨ae,a0,a1,aq,hn,hm,ac,ad,ab,hs⟩:=hI;subst hn;refine .lL [38,7] hs ?_
  cases aq with
  | zero=>rw [Qe.eq_1] at hm;cases hm
  | succ aq=>
   rw [Qe.eq_2] at hm;refine go ?_;refine Zo hm (fun hb hm=>?_) fun hb hm=>go ?_
   ·refine Yj<|Zz ?_;refine Wp.cutK [3,37,38,4,5,6,1000000] (fun f a7=>∃ a8 bg,Zda a0 (Qe N aa au ah ak (Qd N aa au ao) aq) bg=some r∧St w0 (Xh [qc0,ai] col) a8 a7∧Zb rI 3 441 a8 a7 af ag ah∧Zg 192 440 a8 a7 g0 #[(.slice af ((ah.take (aA (i64.wrap ((aa.length:Int) - 1)))).length) ag)]∧[7].map f=[.int .i64 bg]) ?_ ?_
    ·intro f a7 hJ;obtain ⟨a8,bg,hm,ac,ad,ab,hs⟩:=hJ;rw [Zda.eq_1] at hm;refine .lL [7] hs<|go ?_;exact ⟨aq,by omega,rfl,⟨_,_,_,_,rfl,hm,ac,ad,ab,rfl⟩⟩
    refine go ?_;obtain ⟨bp,bz,hm⟩:=bZ hm;refine lV (.int .i64 bp) (Z9p (l:=[i64.wrap ((i64.wrap (2 * ak))+1),i64.wrap ((i64.wrap (2 * ak))+2)]) (k:=.i64) underlying206 sizeOf3 isAgg3 rfl rfl rfl bz)<|Y6 rfl<|Zk<|Zz ?_;refine Wp.cutK [3,37,38,4,5,6,7,9,1000000] (fun f a9=>∃ ba bh,Zhi a0 a1 (Qe N aa au ah ak (Qd N aa au ao) aq) bp bh=some r∧St w0 (Xh [qc0,ai] col) ba a9∧Zb rI 3 441 ba a9 af ag ah∧Zg 192 440 ba a9 g0 #[(.slice af ((ah.take (aA (i64.wrap ((aa.length:Int) - 1)))).length) ag)]∧[54].map f=[.bool bh]) ?_ ?_
    ·intro f a9 hJ;obtain ⟨ba,bh,hm,ac,ad,ab,hs⟩:=hJ;rw [Zhi.eq_1] at hm;refine .lL [54] hs ?_;refine Zo hm (fun hb hm=>go ?_) fun hb hm=>?_
     ·exact ⟨rfl,_,_,hm,ac,ad,ab,rfl⟩
     refine Yj ?_;exact ⟨rfl,_,_,hm,ac,ad,ab,rfl⟩
    refine Vs (col:=ae) (by kernel_rfl) (by kernel_rfl)<|go ?_;refine Yr hm (fun bi hm=>go ?_) fun bi hm=>go ?_
    ·obtain ⟨b0,bj,hm⟩:=bZ hm;refine qI bj (ad.addr bj) ?_;refine go ?_;refine qW (fun _ hC=>(ad.gr (hC.bl ae)).atInt bj) ?_;refine go ?_;obtain ⟨b1,bk,hm⟩:=bZ hm;refine qI bk (ad.addr bk) ?_;refine go ?_;refine qW (fun _ hC=>(ad.gr (hC.bl ae)).atInt bk) ?_;refine go ?_;refine qv (v:=(.bool (decide (b0<b1)))) rfl (fun _ hC=>Ye (congrArg Value.bool bi) rfl) ?_;refine Wn ?_;intro b6 hC;replace hC:=hC.bl ae;replace ad:=ad.gr hC;replace ab:=ab.gr hC;replace ac:=ac.grow hC;exact ⟨rfl,_,_,hm,ac,ad,ab,rfl⟩
    refine qv (v:=(.bool false)) rfl (fun _ hC=>Yd (congrArg Value.bool bi) rfl) ?_;refine Wn ?_;intro b7 hC;replace hC:=hC.bl ae;replace ad:=ad.gr hC;replace ab:=ab.gr hC;replace ac:=ac.grow hC;exact ⟨rfl,_,_,hm,ac,ad,ab,rfl⟩
   refine Zo hm (fun hb hm=>go ?_) fun hb hm=>go ?_
   ·cases hm;exact ⟨rfl,Sn w0.heap.size [qc0,ai] col ae (fun n=>bif aI n 441 then ai else bif aI n 440 then qc0 else 0),af,ag,rfl,ac.finL rfl (fun n=>bif aI n 441 then ai else bif aI n 440 then qc0 else 0),ac.finOwnL (g:=(fun n=>bif aI n 441 then ai else bif aI n 440 then qc0 else 0)) rfl (ad.take (aA (i64.wrap ((aa.length:Int) - 1)))) (by decide) (by decide) rfl,ac.finBoxL (g:=(fun n=>bif aI n 441 then ai else bif aI n 440 then qc0 else 0)) ab (by decide) (by decide) rfl⟩
   refine Y8 (col:=ae) [(0,1),(1,1),(2,1),(3,1),(4,1),(5,1),(6,1),(7,0),(8,1),(9,1),(10,1),(11,0),(12,1),(13,2),(14,1),(15,2)] (by kernel_rfl) (by kernel_rfl)<|xu rfl rfl (fun _=>Ub rfl) ?_;refine xu rfl rfl (fun _=>Yq rfl) ?_;refine xu rfl rfl (fun _=>Ub rfl) ?_;refine xu rfl rfl (fun _=>Yq rfl) ?_;refine xu rfl rfl (fun _=>Ub rfl) ?_;refine xu rfl rfl (fun _=>Yq rfl) ?_;obtain ⟨bq,bb,hm⟩:=bZ hm;refine xu rfl rfl (fun _=>Yu underlying192 sizeOf3 rfl rfl (Xa bb).1 (Xa bb).2.1 (ad.addr bb)) ?_;refine xW (fun _ hC=>(ad.gr (hC.bl ae)).atInt bb) ?_;refine xu rfl rfl (fun _=>Ub rfl) ?_;refine xu rfl rfl (fun _=>Yq rfl) ?_;obtain ⟨br,ar,hm⟩:=bZ hm;refine xu rfl rfl (fun _=>Yu underlying192 sizeOf3 rfl rfl (Xa ar).1 (Xa ar).2.1 (ad.addr ar)) ?_;refine xW (fun _ hC=>(ad.gr (hC.bl ae)).atInt ar) ?_;refine xu rfl rfl (fun _=>Yu underlying192 sizeOf3 rfl rfl (Xa ar).1 (Xa ar).2.1 (ad.addr ar)) ?_;refine xe rfl rfl ?_;intro b8 hC0;have hC:=hC0.bl ae;obtain ⟨aj,aw,hm⟩:=bZ hm;have aw:aj=ah.set (aA ak) bq:=(Option.some.inj aw).symm;refine Wl (x1:=bq) (ad.gr hC) ar ?_;intro b2 bs b3 a2;rw [← aw] at a2;refine .ld (d:=3) (v:=(.slice af aj.length ag)) (congrArg (fun n=>Value.slice af n ag) (show ah.length=aj.length by rw [aw,nS])) ?_;refine .ld (d:=63) (v:=(.slice af aj.length ag)) (congrArg (fun n=>Value.slice af n ag) (show ah.length=aj.length by rw [aw,nS])) ?_;replace ab:=(ab.gr hC).kp bs;replace ab:Zg 192 440 ae b2 g0 #[(.slice af ((aj.take (aA (i64.wrap ((aa.length:Int) - 1)))).length) ag)]:=by rw [← (show (ah.take (aA (i64.wrap ((aa.length:Int) - 1)))).length=(aj.take (aA (i64.wrap ((aa.length:Int) - 1)))).length by rw [nK,nK,(show ah.length=aj.length by rw [aw,nS])])];exact ab
   refine Zk<|xk ae ?_;obtain ⟨b9,bc,hm⟩:=bZ hm;refine xu rfl rfl (fun _=>Yu underlying192 sizeOf3 rfl rfl (Xa bc).1 (Xa bc).2.1 (a2.addr bc)) ?_;refine xe rfl rfl ?_;intro ca hC0;replace ac:=(ac.grow hC).kp bs b3;have hC:=hC0.bl ae;obtain ⟨ax,a3,hm⟩:=bZ hm;have a3:ax=aj.set (aA a1) br:=(Option.some.inj a3).symm;refine Wl (x1:=br) (a2.gr hC) bc ?_;intro b4 bt b5 bd;rw [← a3] at bd;refine .ld (d:=3) (v:=(.slice af ax.length ag)) (congrArg (fun n=>Value.slice af n ag) (show aj.length=ax.length by rw [a3,nS])) ?_;replace ab:=(ab.gr hC).kp bt;replace ab:Zg 192 440 ae b4 g0 #[(.slice af ((ax.take (aA (i64.wrap ((aa.length:Int) - 1)))).length) ag)]:=by rw [← (show (aj.take (aA (i64.wrap ((aa.length:Int) - 1)))).length=(ax.take (aA (i64.wrap ((aa.length:Int) - 1)))).length by rw [nK,nK,(show aj.length=ax.length by rw [a3,nS])])];exact ab
   refine Zk<|xk ae<|Yz ?_;replace ac:=(ac.grow hC).kp bt b5;intro cb hC;replace hC:=hC.bl ae;refine go ?_;exact ⟨ao,by omega,rfl,⟨_,_,_,_,_,_,rfl,hm,ac.grow hC,bd.gr hC,ab.gr hC,rfl⟩⟩
theorem Z62:Wa prog 3 1 8:=⟨Tryz.t3,_,rfl,rfl,rfl,rfl,rfl⟩
def Zhk (ab:List Int) (aa:Int) (kk_L1:(List Int→Int→Option R2)) (ad:Bool):Option R2:=
  if ad=true then ((Zl ab (i64.wrap (aZ (i64.wrap (aa - 1)) 2))).bind fun ae=>(Zl ab aa).bind fun af=>(some (ab.set (aA aa) ae)).bind fun ac=>(Zl ac (i64.wrap (aZ (i64.wrap (aa - 1)) 2))).bind fun ah=>(some (ac.set (aA (i64.wrap (aZ (i64.wrap (aa - 1)) 2))) af)).bind fun ag=>kk_L1 ag (i64.wrap (aZ (i64.wrap (aa - 1)) 2))) else (some ab)
def Zb0 (N:Nat):Nat→R2→Int→Option R2
  | 0,_,_=>none
  | ac+1,ab,aa=>if (decide (0<aa))=true then ((Zl ab aa).bind fun ad=>(Zl ab (i64.wrap (aZ (i64.wrap (aa - 1)) 2))).bind fun ae=>Zhk ab aa (Zb0 N ac) (decide (ad<ae))) else (Zhk ab aa (Zb0 N ac) false)
termination_by structural x=>x
def Zhj (N:Nat) (aa:List Int) (ab:Int):Option R2:=
  Z4 ((aa.length+[ab].length) * 8≤140737488355328∧aa.length+[ab].length≤maxLen) (Zb0 N N (aa++[ab]) (i64.wrap (((aa++[ab]).length:Int) - 1)))
theorem Zuc {N g0 a7:Nat} {a8:Option Addr} {col:Zd} {w0:World} {ao:R2} {an:Int} {r:R2} (qc0 af:Nat) (hm:Zhj N ao an=some r) (hd:U4 [qc0,af]=true) (ap:Zb rI 3 af col w0 a8 a7 ao) (hb0:Zg 192 qc0 col w0 g0 #[.slice a8 ao.length a7]):
    Calls prog 193 #[.pointer (some ⟨g0,0,none⟩),.int .i64 an] w0 (fun e w'=>∃ (col':Zd) (oa1:Option Addr) (oc2:Nat),e= .returned (.tuple #[])∧Zt (pS [qc0,af]) col w0 col' w'∧Zb rI 3 af col' w' oa1 oc2 r∧Zg 192 qc0 col' w' g0 #[.slice oa1 r.length oc2]):=by
 refine Zel (m:=66) (args:=[.pointer (some ⟨g0,0,none⟩),.int .i64 an]) func193 rfl rfl rfl rfl ?_;rw [Zhj.eq_1] at hm;have ab:=St.startL (l:=[qc0,af]) rfl col w0;replace hb0:=hb0.startL (T7 hd 0 rfl) (T6 hd 0 rfl);replace ap:=ap.startL (T7 hd 1 rfl) (T6 hd 1 rfl);refine go ?_;refine lV (.pointer (some ⟨g0,0,none⟩)) (Zah rfl)<|lW hb0.at1<|X4 rfl<|Vz (col:=(Xh [qc0,af] col)) [an] 1 ?_;intro bw bi bj a0 bk;obtain ⟨a9,hm⟩:=Z9 hm;refine Sb (col:=bj) (w:=bi) (r:=rI) (c:=441) (c2:=441) ((ap.gr a0).ex) (bk.srcN (NB.int (k:=.i64))) rfl underlying192 Z62 rfl rfl rfl a9.1 a9.2 (by decide) ?_;intro ba bb bx bm bc a1;refine lV (.pointer (some ⟨g0,0,none⟩)) (Zah rfl) ?_;refine Sp (v:=(.slice ba ((ao++[an]).length) bb)) ((hb0.gr a0).kpp bc) sizeOf192 rfl rfl (by intro u hu;simp only [Value.cells,aO,bG,or_false] at hu;subst hu;rfl) rfl rfl ?_;intro bn bd bo aa;replace aa:Zg 192 440 bm bn g0 #[.slice ba ((ao++[an]).length) bb]:=aa;have bp:=(a1.kp bd).new;refine go ?_;refine lV (.pointer (some ⟨g0,0,none⟩)) (Zah rfl)<|lW aa.at1<|go ?_;replace ab:=((ab.grow a0).kpp bc).kp bd bo;refine Zv [0,1000000] (fun n f au=>∃ ag ah ai aj ae al,al=n∧Zb0 N al aj ae=some r∧St w0 (Xh [qc0,af] col) ag au∧Zb rI 3 441 ag au ah ai aj∧Zg 192 440 ag au g0 #[.slice ah aj.length ai]∧[4].map f=[.int .i64 ae]) N ⟨_,_,_,_,_,_,rfl,hm,ab,bp,aa,rfl⟩ ?_;clear hm;intro n f au hI;obtain ⟨ag,ah,ai,aj,ae,al,hn,hm,ab,ac,aa,hs⟩:=hI;subst hn;refine .lL [4] hs ?_
 cases al with
 | zero=>rw [Zb0.eq_1] at hm;cases hm
 | succ al=>
  rw [Zb0.eq_2] at hm;refine Zz<|Zz ?_;refine Wp.cutK [0,4,1000000] (fun f av=>∃ ad a2,Zhk aj ae (Zb0 N al) a2=some r∧St w0 (Xh [qc0,af] col) ad av∧Zb rI 3 441 ad av ah ai aj∧Zg 192 440 ad av g0 #[.slice ah aj.length ai]∧[36].map f=[.bool a2]) ?_ ?_
  ·intro f av hJ;obtain ⟨ad,a2,hm,ab,ac,aa,hs⟩:=hJ;rw [Zhk.eq_1] at hm;refine .lL [36] hs ?_;refine Zo hm (fun hb hm=>go ?_) fun hb hm=>go ?_
   ·refine Y8 (col:=ad) [(0,1),(1,1),(2,0),(3,1),(4,1),(5,1),(6,0),(7,1),(8,1),(9,1),(10,1),(11,1),(12,0),(13,1),(14,1),(15,1),(16,1),(17,0),(18,1),(19,1),(20,0),(21,1),(22,1),(23,0),(24,1),(25,2),(26,1),(27,2)] (by kernel_rfl) (by kernel_rfl)<|xu rfl rfl (fun _=>Zo1 rfl) ?_;refine xu (v:=(.pointer (some ⟨g0,0,none⟩))) rfl rfl (fun _=>Zah rfl) ?_;refine xW (fun _ hC=>aa.at1.gr (hC.bl ad)) ?_;refine xu rfl rfl (fun _=>Yq rfl) ?_;refine xu rfl rfl (fun _=>Zo1 rfl) ?_;refine xu (v:=(.pointer (some ⟨g0,0,none⟩))) rfl rfl (fun _=>Zah rfl) ?_;refine xW (fun _ hC=>aa.at1.gr (hC.bl ad)) ?_;refine xu rfl rfl (fun _=>Yq rfl) ?_;refine xu rfl rfl (fun _=>Zo2 _ _ rfl rfl) ?_;refine xu (v:=(.int .i64 (i64.wrap (aZ (i64.wrap (ae - 1)) 2)))) rfl rfl (fun _=>Uc (i64.wrap (ae - 1)) 2 rfl rfl (by decide)) ?_;refine xu rfl rfl (fun _=>Zo1 rfl) ?_;refine xu (v:=(.pointer (some ⟨g0,0,none⟩))) rfl rfl (fun _=>Zah rfl) ?_;refine xW (fun _ hC=>aa.at1.gr (hC.bl ad)) ?_;refine xu rfl rfl (fun _=>Yq rfl) ?_;refine xu rfl rfl (fun _=>Zo2 _ _ rfl rfl) ?_;refine xu (v:=(.int .i64 (i64.wrap (aZ (i64.wrap (ae - 1)) 2)))) rfl rfl (fun _=>Uc (i64.wrap (ae - 1)) 2 rfl rfl (by decide)) ?_;obtain ⟨be,aw,hm⟩:=bZ hm;refine xu rfl rfl (fun _=>Yu underlying192 sizeOf3 rfl rfl (Xa aw).1 (Xa aw).2.1 (ac.addr aw)) ?_;refine xW (fun _ hC=>(ac.gr (hC.bl ad)).atInt aw) ?_;refine xu rfl rfl (fun _=>Zo1 rfl) ?_;refine xu (v:=(.pointer (some ⟨g0,0,none⟩))) rfl rfl (fun _=>Zah rfl) ?_;refine xW (fun _ hC=>aa.at1.gr (hC.bl ad)) ?_;refine xu rfl rfl (fun _=>Yq rfl) ?_;obtain ⟨bf,ak,hm⟩:=bZ hm;refine xu rfl rfl (fun _=>Yu underlying192 sizeOf3 rfl rfl (Xa ak).1 (Xa ak).2.1 (ac.addr ak)) ?_;refine xW (fun _ hC=>(ac.gr (hC.bl ad)).atInt ak) ?_;refine xu rfl rfl (fun _=>Yu underlying192 sizeOf3 rfl rfl (Xa ak).1 (Xa ak).2.1 (ac.addr ak)) ?_;refine xe rfl rfl ?_;intro bz hC0;have hC:=hC0.bl ad;obtain ⟨am,aq,hm⟩:=bZ hm;have aq:am=aj.set (aA ae) be:=(Option.some.inj aq).symm;replace ac:=ac.gr hC;refine Wl (x1:=be) ac ak ?_;intro bq bg br ar;rw [← aq] at ar;refine .ld (d:=46) (v:=(.slice ah am.length ai)) (congrArg (fun n=>Value.slice ah n ai) (show aj.length=am.length by rw [aq,nS])) ?_;replace aa:=(aa.gr hC).kp bg;replace aa:Zg 192 440 ad bq g0 #[.slice ah am.length ai]:=by rw [← (show aj.length=am.length by rw [aq,nS])];exact aa
    refine Zk<|xk ad ?_;obtain ⟨b0,ax,hm⟩:=bZ hm;refine xu rfl rfl (fun _=>Yu underlying192 sizeOf3 rfl rfl (Xa ax).1 (Xa ax).2.1 (ar.addr ax)) ?_;refine xe rfl rfl ?_;intro b1 hC0;replace ab:=(ab.grow hC).kp bg br;have hC:=hC0.bl ad;obtain ⟨a3,ay,hm⟩:=bZ hm;have ay:a3=am.set (aA (i64.wrap (aZ (i64.wrap (ae - 1)) 2))) bf:=(Option.some.inj ay).symm;refine Wl (x1:=bf) (ar.gr hC) ax ?_;intro bs bh bt az;rw [← ay] at az;replace aa:=(aa.gr hC).kp bh;replace aa:Zg 192 440 ad bs g0 #[.slice ah a3.length ai]:=by rw [← (show am.length=a3.length by rw [ay,nS])];exact aa
    refine Zk<|xk ad<|Yz ?_;replace ab:=(ab.grow hC).kp bh bt;intro b2 hC;replace hC:=hC.bl ad;refine go ?_;refine lV (.int .i64 (i64.wrap (aZ (i64.wrap (ae - 1)) 2))) (Uc (i64.wrap (ae - 1)) 2 rfl rfl (by decide))<|go ?_;replace aa:=aa.gr hC;replace ab:=ab.grow hC;exact ⟨al,by omega,rfl,⟨_,_,_,_,_,_,rfl,hm,ab,az.gr hC,aa,rfl⟩⟩
   cases hm;exact ⟨rfl,Sn w0.heap.size [qc0,af] col ad (fun n=>bif aI n 441 then af else bif aI n 440 then qc0 else 0),ah,ai,rfl,ab.finL rfl (fun n=>bif aI n 441 then af else bif aI n 440 then qc0 else 0),ab.finOwnL (g:=(fun n=>bif aI n 441 then af else bif aI n 440 then qc0 else 0)) rfl ac (by decide) (by decide) rfl,ab.finBoxL (g:=(fun n=>bif aI n 441 then af else bif aI n 440 then qc0 else 0)) aa (by decide) (by decide) rfl⟩
  refine Vs (col:=ag) (by kernel_rfl) (by kernel_rfl)<|go ?_;refine Yr hm (fun a4 hm=>go ?_) fun a4 hm=>go ?_
  ·refine qv (v:=(.pointer (some ⟨g0,0,none⟩))) rfl (fun _ hC=>Zah rfl) ?_;refine go ?_;refine qW (fun _ hC=>aa.at1.gr (hC.bl ag)) ?_;refine go ?_;obtain ⟨bu,a5,hm⟩:=bZ hm;refine qI a5 (ac.addr a5) ?_;refine go ?_;refine qW (fun _ hC=>(ac.gr (hC.bl ag)).atInt a5) ?_;refine go ?_;refine qv (v:=(.pointer (some ⟨g0,0,none⟩))) rfl (fun _ hC=>Zah rfl) ?_;refine go ?_;refine qW (fun _ hC=>aa.at1.gr (hC.bl ag)) ?_;refine go ?_;refine qv (v:=(.int .i64 (i64.wrap (aZ (i64.wrap (ae - 1)) 2)))) rfl (fun _ hC=>Uc (i64.wrap (ae - 1)) 2 rfl rfl (by decide)) ?_;refine go ?_;obtain ⟨bv,a6,hm⟩:=bZ hm;refine qI a6 (ac.addr a6) ?_;refine go ?_;refine qW (fun _ hC=>(ac.gr (hC.bl ag)).atInt a6) ?_;refine go ?_;refine qv (v:=(.bool (decide (bu<bv)))) rfl (fun _ hC=>Ye (congrArg Value.bool a4) rfl) ?_;refine Wn ?_;intro b3 hC;replace hC:=hC.bl ag;replace ac:=ac.gr hC;replace aa:=aa.gr hC;replace ab:=ab.grow hC;exact ⟨rfl,_,_,hm,ab,ac,aa,rfl⟩
  refine qv (v:=(.bool false)) rfl (fun _ hC=>Yd (congrArg Value.bool a4) rfl) ?_;refine Wn ?_;intro b4 hC;replace hC:=hC.bl ag;exact ⟨rfl,_,_,hm,ab.grow hC,ac.gr hC,aa.gr hC,rfl⟩
def Zhm (kk_L3:(List Int→R2→Option R2)) (aa:List Int) (ab:List Int):Option R2:=
  kk_L3 aa ab
def Za5 (N:Nat) (ad:List Int) (kk_L2:(List Int→R2→R2→Option R2)) (ae:R6):List Int→R2→R2→Option R2
  | [],aa,ab=>kk_L2 aa ab (ad++[ae.1])
  | ac :: ag,aa,ab=>(Zl aa ac).bind fun ah=>(some (aa.set (aA ac) (i64.wrap (ah - 1)))).bind fun af=>(Zl af ac).bind fun ai=>if (decide (ai=0))=true then ((Zhj N ab ac).bind fun aj=>Zhm (Za5 N ad kk_L2 ae ag) af aj) else (Zhm (Za5 N ad kk_L2 ae ag) af ab)
termination_by structural x=>x
def Tw (N:Nat) (ac:R7):Nat→R2→R2→R2→Option R2
  | 0,_,_,_=>none
  | ae+1,af,ad,ab=>if (decide (0<(ad.length:Int)))=true then ((Zkh N ad).bind fun aa=>Z4 ((ab.length+[aa.1].length) * 8≤140737488355328∧ab.length+[aa.1].length≤maxLen) ((Zl ac aa.1).bind fun ag=>Za5 N ab (Tw N ac ae) aa ag af aa.2)) else (some ab)
termination_by structural x=>x
def Zhn (aa:Nat) (kk_L1:(Nat→R2→R2→Option R2)) (ab:List Int) (ac:List Int):Option R2:=
  kk_L1 (aa+1) ab ac
def Za4 (N:Nat) (ad:R7):List R2→Nat→R2→R2→Option R2
  | [],aa,ab,ac=>Tw N ad N ab ac ([]:List Int)
  | ae :: af,aa,ab,ac=>(Zl ab (aa:Int)).bind fun ai=>(some (ab.set (aA (aa:Int)) (ae.length:Int))).bind fun ag=>if (decide ((ae.length:Int)=0))=true then ((Zhj N ac (aa:Int)).bind fun ah=>Zhn aa (Za4 N ad af) ag ah) else (Zhn aa (Za4 N ad af) ag ac)
termination_by structural x=>x
def Zhl (N:Nat) (aa:R7) (ab:R7):Option R2:=
  Z4 (aa.length * 8≤281474976710656∧aa.length≤maxLen) (Za4 N ab aa 0 (aM aa.length (0:Int)) ([]:List Int))
theorem Z33 {N cs ct:Nat} {a0 a1:Option Addr} {col:Zd} {w0:World} {af ag:R7} {r:R2} (c1:Nat) (hm:Zhl N af ag=some r) (h0:Sl (Za.slice rI) col w0 a0 cs af) (h1:Sl (Za.slice rI) col w0 a1 ct ag):
    Calls prog 156 #[.slice a0 af.length cs,.slice a1 ag.length ct] w0 (fun e w'=>∃ (col':Zd) (ra1:Option Addr) (rc2:Nat),e= .returned ((.slice ra1 r.length rc2))∧Zf col w0 col' w'∧Zb rI 3 c1 col' w' ra1 rc2 r):=by
 refine Xe 4 (m:=66) func156 rfl rfl rfl rfl rfl ?_;rw [Zhl.eq_1] at hm;have aa:=St.start col w0;refine go ?_;obtain ⟨cu,hm⟩:=Z9 hm;refine Sq (col:=(Zj col)) (w:=w0) (r:=rI) (n:=af.length) (x0:=0) 1 rfl underlying33 Tryz.t3 rfl rfl rfl rfl rfl rfl rfl cu.1 cu.2 (Zaj .i64 0) ?_;intro d2 d3 c6 c7 bx;refine go ?_;refine Zax (col:=c6) (v:=(nI)) 2 rfl zeroValue192 ?_;intro aq c8 c9 cv ab;replace ab:Zg 192 2 c9 c8 aq #[(nI)]:=ab;refine go ?_;replace aa:=(aa.grow c7).grow cv;refine Zv [1,16,17,6,1000000] (fun n f az=>∃ a2 ah a3 a4 ar bz b0 bj a5,n=a5.length∧af.drop ah=a5∧Za4 N ag a5 ah ar bj=some r∧St w0 (Zj col) a2 az∧Zb rI 3 1 a2 az a3 a4 ar∧Zb rI 3 3 a2 az bz b0 bj∧Zg 192 2 a2 az aq #[.slice bz bj.length b0]∧[18,5].map f=[.int .i64 ah,.slice a3 ar.length a4]) af.length ⟨_,0,_,_,_,none,0,_,_,rfl,rfl,hm,aa,bx.gr cv,Zb.nil,ab,rfl⟩ ?_;clear hm;intro n f az hI;obtain ⟨a2,ah,a3,a4,ar,bz,b0,bj,a5,hn,hl,hm,aa,b1,a6,ab,hs⟩:=hI;subst hn;refine .lL [18,5] hs ?_;replace h0:=h0.k0;replace h1:=h1.k0
 cases a5 with
 | nil=>
  have hk:¬ ((ah:Int)<(af.length:Int)):=by have:=aG.1 hl;omega
  have hkb:=decide_eq_false hk;rw [Za4.eq_1] at hm;refine go ?_;refine X0 (congrArg Value.bool hkb)<|go ?_;refine Zv [1,6,1000000] (fun n f au=>∃ av b2 b3 bk b4 b5 bm b6 b7 ai aj,aj=n∧Tw N ag aj bk bm ai=some r∧St w0 (Zj col) av au∧Zb rI 3 1 av au b2 b3 bk∧Zb rI 3 3 av au b4 b5 bm∧Zg 192 2 av au aq #[.slice b4 bm.length b5]∧Zb rI 3 4 av au b6 b7 ai∧[5,9].map f=[.slice b2 bk.length b3,.slice b6 ai.length b7]) N ⟨_,_,_,_,_,_,_,none,0,_,_,rfl,hm,aa,b1,a6,ab,Zb.nil,rfl⟩ ?_;clear hm;intro n f au hI;obtain ⟨av,b2,b3,bk,b4,b5,bm,b6,b7,ai,aj,hn,hm,aa,b8,da,ab,bn,hs⟩:=hI;subst hn;refine .lL [5,9] hs ?_
  cases aj with
  | zero=>rw [Tw.eq_1] at hm;cases hm
  | succ aj=>
   rw [Tw.eq_2] at hm;refine go ?_;refine lW ab.at1<|go ?_;refine Zo hm (fun hb hm=>go ?_) fun hb hm=>go ?_
   ·obtain ⟨a7,db,hm⟩:=bZ hm;refine Zi (Z32 2 3 db rfl da ab) ?_;rintro _ d4 ⟨dc,d5,d6,rfl,b9,ca,ad⟩;refine ⟨_,rfl,go ?_⟩;refine Vz (col:=dc) [a7.1] 5 ?_;intro d7 d8 d9 a8 dd;obtain ⟨de,hm⟩:=Z9 hm;replace bn:=(bn.kpp b9).gr a8;refine Vy bn (dd.srcN (NB.int (k:=.i64))) de ?_;intro cw cx ea eb bo ae;refine go ?_;obtain ⟨aw,cb,hm⟩:=bZ hm;replace aa:=((aa.kpp b9).grow a8).kpp bo;refine lI cb ((h1.ks aa).addr cb) ?_;obtain ⟨_,df,dg⟩:=(h1.ks aa).atN cb;obtain ⟨⟨cy,cz,rfl,ac⟩,_⟩:=df;refine lW dg.one<|go ?_;replace ad:=(ad.gr a8).kpp bo;refine Zv [1,45,46,6,9,1000000] (fun n f ak=>∃ al a9 ba bb ax cc cd bp bc,n=bc.length∧aw.drop a9=bc∧Za5 N ai (Tw N ag aj) a7 bc ax bp=some r∧St w0 (Zj col) al ak∧Sl rI al ak cy cz aw∧Zb rI 3 1 al ak ba bb ax∧Zb rI 3 3 al ak cc cd bp∧Zg 192 2 al ak aq #[.slice cc bp.length cd]∧Zb rI 3 4 al ak cw cx (ai++[a7.1])∧[47,5].map f=[.int .i64 a9,.slice ba ax.length bb]) aw.length ⟨_,0,_,_,_,_,_,_,_,rfl,rfl,hm,aa,ac,((b8.kpp b9).gr a8).kpp bo,(ca.gr a8).kpp bo,ad,ae,rfl⟩ ?_;clear hm;intro n f ak hI;obtain ⟨al,a9,ba,bb,ax,cc,cd,bp,bc,hn,hl,hm,aa,ac,bd,be,ad,ae,hs⟩:=hI;subst hn;refine .lL [47,5] hs ?_
    cases bc with
    | nil=>
     have hk:¬ ((a9:Int)<(aw.length:Int)):=by have:=aG.1 hl;omega
     have hkb:=decide_eq_false hk;rw [Za5.eq_1] at hm;refine go ?_;refine X0 (congrArg Value.bool hkb)<|go ?_;exact ⟨aj,by omega,rfl,⟨_,_,_,_,_,_,_,_,_,_,_,rfl,hm,aa,bd,be,ad,ae,rfl⟩⟩
    | cons dh c0=>
     obtain ⟨am,di,dj⟩:=Yf hl;have hk:(a9:Int)<(aw.length:Int):=by omega
     have hkb:=decide_eq_true hk;rw [Za5.eq_2] at hm;refine go ?_;refine X1 (congrArg Value.bool hkb)<|Yj<|Zz ?_;refine Wp.cutK [1,45,46,47,6,9,1000000] (fun f an=>∃ ao ce cf bq cg ch br,Zhm (Za5 N ai (Tw N ag aj) a7 c0) bq br=some r∧St w0 (Zj col) ao an∧Sl rI ao an cy cz aw∧Zb rI 3 1 ao an ce cf bq∧Zb rI 3 3 ao an cg ch br∧Zg 192 2 ao an aq #[.slice cg br.length ch]∧Zb rI 3 4 ao an cw cx (ai++[a7.1])∧[5].map f=[.slice ce bq.length cf]) ?_ ?_
     ·intro f an hJ;obtain ⟨ao,ce,cf,bq,cg,ch,br,hm,aa,ac,dl,dm,ad,ae,hs⟩:=hJ;rw [Zhm.eq_1] at hm;refine .lL [5] hs<|go ?_;exact ⟨c0.length,by simp,rfl,⟨_,_,_,_,_,_,_,_,_,rfl,di,hm,aa,ac,dl,dm,ad,ae,(Yl (congrArg (Value.int .i64) (Yi (aE dj ac.1.1))) rfl)⟩⟩
     refine go ?_;refine lI am (ac.addr am)<|lW (ac.atInt am) ?_;refine go ?_;obtain ⟨c2,ay,hm⟩:=bZ hm;refine lI ay (bd.addr ay)<|lW (bd.atInt ay) ?_;refine go ?_;refine lI ay (bd.addr ay) ?_;obtain ⟨ci,bs,hm⟩:=bZ hm;have bs:ci=ax.set (aA dh) (i64.wrap (c2 - 1)):=(Option.some.inj bs).symm;refine Wl (x1:=i64.wrap (c2 - 1)) bd ay ?_;intro ec bf dn ap;rw [← bs] at ap;refine .ld (d:=5) (v:=(.slice ba ci.length bb)) (congrArg (fun n=>Value.slice ba n bb) (show ax.length=ci.length by rw [bs,nS])) ?_;refine go ?_;obtain ⟨ed,cj,hm⟩:=bZ hm;refine lI cj (ap.addr cj)<|lW (ap.atInt cj) ?_;refine go ?_;replace ac:=ac.kp bf;replace be:=be.kp bf;replace ae:=ae.kp bf;replace ad:=ad.kp bf;replace aa:=aa.kp bf dn;refine Zo hm (fun hb hm=>go ?_) fun hb hm=>?_
     ·obtain ⟨ee,dp,hm⟩:=bZ hm;refine Zi (Zuc 2 3 dp rfl be ad) ?_;rintro _ ef ⟨eg,eh,ei,rfl,bt,dq,dr⟩;refine ⟨_,rfl,?_⟩;refine Zk ?_;replace ac:=ac.kpp bt;replace ap:=ap.kpp bt;replace ae:=ae.kpp bt;replace aa:=aa.kpp bt;exact ⟨rfl,_,_,_,_,_,_,_,hm,aa,ac,ap,dq,dr,ae,rfl⟩
     refine Yj ?_;exact ⟨rfl,_,_,_,_,_,_,_,hm,aa,ac,ap,be,ad,ae,rfl⟩
   cases hm;exact ⟨rfl,_,_,_,rfl,aa.fin (cm [(4,c1)]),aa.fo bn⟩
 | cons c3 c4=>
  obtain ⟨am,ds,dt⟩:=Yf hl;have hk:(ah:Int)<(af.length:Int):=by omega
  have hkb:=decide_eq_true hk;rw [Za4.eq_2] at hm;refine go ?_;refine X1 (congrArg Value.bool hkb)<|Yj<|Zz ?_;refine Wp.cutK [1,16,17,18,6,1000000] (fun f bg=>∃ bh ck cl bu cn co bv,Zhn ah (Za4 N ag c4) bu bv=some r∧St w0 (Zj col) bh bg∧Zb rI 3 1 bh bg ck cl bu∧Zb rI 3 3 bh bg cn co bv∧Zg 192 2 bh bg aq #[.slice cn bv.length co]∧[5].map f=[.slice ck bu.length cl]) ?_ ?_
  ·intro f bg hJ;obtain ⟨bh,ck,cl,bu,cn,co,bv,hm,aa,du,dv,ab,hs⟩:=hJ;rw [Zhn.eq_1] at hm;refine .lL [5] hs<|go ?_;exact ⟨c4.length,by simp,rfl,⟨_,_,_,_,_,_,_,_,_,rfl,ds,hm,aa,du,dv,ab,(Yl (congrArg (Value.int .i64) (Yi (aE dt (h0.ks aa).1.1))) rfl)⟩⟩
  refine go ?_;refine lI am ((h0.ks aa).addr am) ?_;obtain ⟨_,dw,dx⟩:=(h0.ks aa).atN am;obtain ⟨⟨ej,ek,rfl,el⟩,_⟩:=dw;refine lW dx.one<|go ?_;obtain ⟨em,cp,hm⟩:=bZ hm;refine lI cp (b1.addr cp) ?_;obtain ⟨cq,bw,hm⟩:=bZ hm;have bw:cq=ar.set (aA (ah:Int)) (c3.length:Int):=(Option.some.inj bw).symm;refine Wl (x1:=(c3.length:Int)) b1 cp ?_;intro en cr dy bi;rw [← bw] at bi;refine .ld (d:=5) (v:=(.slice a3 cq.length a4)) (congrArg (fun n=>Value.slice a3 n a4) (show ar.length=cq.length by rw [bw,nS])) ?_;refine go ?_;replace a6:=a6.kp cr;replace ab:=ab.kp cr;replace aa:=aa.kp cr dy;refine Zo hm (fun hb hm=>go ?_) fun hb hm=>?_
  ·obtain ⟨eo,dz,hm⟩:=bZ hm;refine Zi (Zuc 2 3 dz rfl a6 ab) ?_;rintro _ ep ⟨eq,er,es,rfl,c5,d0,d1⟩;refine ⟨_,rfl,?_⟩;refine Zk ?_;replace bi:=bi.kpp c5;replace aa:=aa.kpp c5;exact ⟨rfl,_,_,_,_,_,_,_,hm,aa,bi,d0,d1,rfl⟩
  refine Yj ?_;exact ⟨rfl,_,_,_,_,_,_,_,hm,aa,bi,a6,ab,rfl⟩
def Zbz (N:Nat) (aa:R7):Option Rc:=
  (Zhg aa).bind fun ab=>if (!decide (ab=0))=true then (some (([]:List Int),ab)) else ((Zhf aa).bind fun ad=>(Zhl N aa ad).bind fun ac=>if (decide ((ac.length:Int)<(aa.length:Int)))=true then (some (([]:List Int),42)) else (some (ac,0)))
theorem Z3z {N ad:Nat} {a0:Option Addr} {col:Zd} {w0:World} {ab:R7} {r:Rc} (c1:Nat) (hm:Zbz N ab=some r) (h0:Sl (Za.slice rI) col w0 a0 ad ab):
    Calls prog 79 #[.slice a0 ab.length ad] w0 (fun e w'=>∃ (col':Zd) (ra1:Option Addr) (rc2:Nat),e= .returned (.tuple #[.slice ra1 r.1.length rc2,.int .i64 r.2])∧Zf col w0 col' w'∧Zb rI 3 c1 col' w' ra1 rc2 r.1):=by
 refine Zj0 2 3 (m:=21) (args:=[.slice a0 ab.length ad]) func79 rfl rfl rfl rfl rfl ?_;rw [Zbz.eq_1] at hm;have aa:=St.start col w0;refine go ?_;obtain ⟨ap,ah,hm⟩:=bZ hm;replace h0:=h0.k0;refine Zi (Z31 ah (h0.ks aa)) ?_;rintro _ ai ⟨rfl,ae⟩;refine ⟨_,rfl,?_⟩;replace ae:Zf (Zj col) w0 (Zj col) ai:=.of_below ae;refine go ?_;replace aa:=aa.grow ae;refine Zo hm (fun hb hm=>go ?_) fun hb hm=>go ?_
 ·cases hm;exact ⟨rfl,_,none,0,rfl,aa.fin (cm []),Zb.nil⟩
 obtain ⟨aq,aj,hm⟩:=bZ hm;refine Zi (Z30 1 aj (h0.ks aa)) ?_;rintro _ ak ⟨af,ar,au,rfl,al,am⟩;refine ⟨_,rfl,?_⟩;obtain ⟨av,an,hm⟩:=bZ hm;replace aa:=aa.grow al;refine Zi (Z33 2 an ((h0.ks aa).froz 1) (am.toSlF (Zh.row (Zh.int .i64)))) ?_;rintro _ aw ⟨ao,ax,ay,rfl,ac,ag⟩;refine ⟨_,rfl,?_⟩;replace ag:=ag.thaw (Z1 .i64) ac ((Fz.refl (col:=af)).froz 1);replace ac:=ac.thawR (col:=af);generalize Xc ak.heap.size af ao=az at *;refine go ?_;replace aa:=aa.grow ac;refine Zo hm (fun hb hm=>go ?_) fun hb hm=>go ?_
 ·cases hm;exact ⟨rfl,_,none,0,rfl,aa.fin (cm []),Zb.nil⟩
 cases hm;exact ⟨rfl,_,_,_,rfl,aa.fin (cm [(2,c1)]),aa.fo ag⟩
def Q4 (N:Nat) (aa:R7):Option Int:=
  (Zbz N aa).bind fun ab=>some ab.2
theorem Z3y {N ad:Nat} {a0:Option Addr} {col:Zd} {w0:World} {ac:R7} {r:Int} (hm:Q4 N ac=some r) (h0:Sl (Za.slice rI) col w0 a0 ad ac):
    Calls prog 86 #[.slice a0 ac.length ad] w0 (fun e w'=>e= .returned ((.int .i64 r))∧Below w0.heap.size w0 w'):=by
 refine Xe 2 (m:=11) func86 rfl rfl rfl rfl rfl ?_;rw [Q4.eq_1] at hm;have aa:=St.start col w0;refine go ?_;obtain ⟨ab,ag,hm⟩:=bZ hm;refine Zi (Z3z 1 ag (h0.k0.ks aa)) ?_;rintro _ ai ⟨aj,ae,af,rfl,ah,ak⟩;refine ⟨_,rfl,?_⟩;refine lM (.tuple #[.slice ae ab.1.length af,.int .i64 ab.2])<|lV (.slice ae ab.1.length af) (Xo rfl rfl)<|lV (.int .i64 ab.2) (Xo rfl rfl)<|go ?_;cases hm;exact ⟨rfl,rfl,(aa.grow ah).below⟩
def Ziz (aa:Int) (kk_L2:(Int→Option Bool)) (ab:Bool):Option Bool:=
  if ab=true then (some false) else (kk_L2 (i64.wrap (aa+1)))
def Zck (N:Nat) (aa:R7) (ab:Int) (kk_L1:(Int→Option Bool)):Nat→Int→Option Bool
  | 0,_=>none
  | ad+1,ac=>(Zl aa ab).bind fun ae=>if (decide (ac<(ae.length:Int)))=true then ((Zl ae ac).bind fun af=>if (decide (af<0))=true then (Ziz ac (Zck N aa ab kk_L1 ad) true) else (Ziz ac (Zck N aa ab kk_L1 ad) (decide ((aa.length:Int)≤af)))) else (kk_L1 (i64.wrap (ab+1)))
termination_by structural x=>x
def Zbk (N:Nat) (aa:R7):Nat→Int→Option Bool
  | 0,_=>none
  | ac+1,ab=>if (decide (ab<(aa.length:Int)))=true then (Zck N aa ab (Zbk N aa ac) N 0) else (some true)
termination_by structural x=>x
def Ziy (N:Nat) (aa:R7):Option Bool:=
  Zbk N aa N 0
theorem Z5e {N ak:Nat} {a0:Option Addr} {col:Zd} {w0:World} {ab:R7} {r:Bool} (hm:Ziy N ab=some r) (h0:Sl (Za.slice rI) col w0 a0 ak ab):
    Calls prog 200 #[.slice a0 ab.length ak] w0 (fun e w'=>e= .returned ((.bool r))∧Below w0.heap.size w0 w'):=by
 refine Xe 2 (m:=36) func200 rfl rfl rfl rfl rfl ?_;rw [Ziy.eq_1] at hm;have aa:=St.start col w0;refine go ?_;refine Zv [0,1000000] (fun n f al=>∃ am af ac,ac=n∧Zbk N ab ac af=some r∧St w0 (Zj col) am al∧[3].map f=[.int .i64 af]) N ⟨_,0,_,rfl,hm,aa,rfl⟩ ?_;clear hm;intro n f al hI;obtain ⟨am,af,ac,hn,hm,aa,hs⟩:=hI;subst hn;refine .lL [3] hs ?_;replace h0:=h0.k0
 cases ac with
 | zero=>rw [Zbk.eq_1] at hm;cases hm
 | succ ac=>
  rw [Zbk.eq_2] at hm;refine go ?_;refine Zo hm (fun hb hm=>go ?_) fun hb hm=>go ?_
  ·refine Zv [0,3,1000000] (fun n f an=>∃ ao ag ad,ad=n∧Zck N ab af (Zbk N ab ac) ad ag=some r∧St w0 (Zj col) ao an∧[4].map f=[.int .i64 ag]) N ⟨_,0,_,rfl,hm,aa,rfl⟩ ?_;clear hm;intro n f an hI;obtain ⟨ao,ag,ad,hn,hm,aa,hs⟩:=hI;subst hn;refine .lL [4] hs ?_
   cases ad with
   | zero=>rw [Zck.eq_1] at hm;cases hm
   | succ ad=>
    rw [Zck.eq_2] at hm;refine go ?_;obtain ⟨az,ae,hm⟩:=bZ hm;refine lI ae ((h0.ks aa).addr ae) ?_;obtain ⟨_,au,av⟩:=(h0.ks aa).atN ae;obtain ⟨⟨a1,a2,rfl,a3⟩,_⟩:=au;refine lW av.one<|go ?_;refine Zo hm (fun hb hm=>go ?_) fun hb hm=>go ?_
    ·refine lI ae ((h0.ks aa).addr ae) ?_;obtain ⟨_,aw,ax⟩:=(h0.ks aa).atN ae;obtain ⟨⟨a4,a5,rfl,ap⟩,_⟩:=aw;refine lW ax.one<|X4 rfl ?_;obtain ⟨ay,ah,hm⟩:=bZ hm;refine lI ah (ap.addr ah)<|lW (ap.atInt ah)<|Y6 rfl<|Zk<|Zz ?_;refine Wp.cutK [0,3,4,1000000] (fun f aq=>∃ ar ai,Ziz ag (Zck N ab af (Zbk N ab ac) ad) ai=some r∧St w0 (Zj col) ar aq∧[35].map f=[.bool ai]) ?_ ?_
     ·intro f aq hJ;obtain ⟨ar,ai,hm,aa,hs⟩:=hJ;rw [Ziz.eq_1] at hm;refine .lL [35] hs ?_;refine Zo hm (fun hb hm=>go ?_) fun hb hm=>go ?_
      ·cases hm;exact ⟨rfl,rfl,aa.below⟩
      exact ⟨ad,by omega,rfl,⟨_,_,_,rfl,hm,aa,rfl⟩⟩
     refine go ?_;refine Yr hm (fun aj hm=>go ?_) fun aj hm=>go ?_
     ·refine lV (.bool true) (Ye (congrArg Value.bool aj) rfl)<|Zk ?_;exact ⟨rfl,_,_,hm,aa,rfl⟩
     refine lV (.bool (decide ((ab.length:Int)≤ay))) (Yd (congrArg Value.bool aj) rfl)<|Zk ?_;exact ⟨rfl,_,_,hm,aa,rfl⟩
    exact ⟨ac,by omega,rfl,⟨_,_,_,rfl,hm,aa,rfl⟩⟩
  cases hm;exact ⟨rfl,rfl,aa.below⟩
def Zfy (N:Nat) (aa:List Int) (ac:Int):Nat→Int→Option Bool
  | 0,_=>none
  | ad+1,ab=>if (decide (ab<(aa.length:Int)))=true then ((Zl aa ab).bind fun ae=>if (decide (ae=ac))=true then (some true) else ((Zfy N aa ac ad) (i64.wrap (ab+1)))) else (some false)
termination_by structural x=>x
def Zfx (N:Nat) (aa:List Int) (ab:Int):Option Bool:=
  Zfy N aa ab N 0
theorem Zqb {N ag:Nat} {a0:Option Addr} {col:Zd} {w0:World} {ac:R2} {ad:Int} {r:Bool} (hm:Zfx N ac ad=some r) (h0:Sl rI col w0 a0 ag ac):
    Calls prog 216 #[.slice a0 ac.length ag,.int .i64 ad] w0 (fun e w'=>e= .returned ((.bool r))∧Below w0.heap.size w0 w'):=by
 refine Xe 4 (m:=18) func216 rfl rfl rfl rfl rfl ?_;rw [Zfx.eq_1] at hm;have aa:=St.start col w0;refine go ?_;refine Zv [0,1,1000000] (fun n f ah=>∃ ai ae ab,ab=n∧Zfy N ac ad ab ae=some r∧St w0 (Zj col) ai ah∧[5].map f=[.int .i64 ae]) N ⟨_,0,_,rfl,hm,aa,rfl⟩ ?_;clear hm;intro n f ah hI;obtain ⟨ai,ae,ab,hn,hm,aa,hs⟩:=hI;subst hn;refine .lL [5] hs ?_;replace h0:=h0.k0
 cases ab with
 | zero=>rw [Zfy.eq_1] at hm;cases hm
 | succ ab=>
  rw [Zfy.eq_2] at hm;refine go ?_;refine Zo hm (fun hb hm=>go ?_) fun hb hm=>go ?_
  ·obtain ⟨aj,af,hm⟩:=bZ hm;refine lI af ((h0.ks aa).addr af)<|lW ((h0.ks aa).atInt af) ?_;refine go ?_;refine Zo hm (fun hb hm=>go ?_) fun hb hm=>go ?_
   ·cases hm;exact ⟨rfl,rfl,aa.below⟩
   exact ⟨ab,by omega,rfl,⟨_,_,_,rfl,hm,aa,rfl⟩⟩
  cases hm;exact ⟨rfl,rfl,aa.below⟩
def Zfz (N:Nat) (ad:R7) (ac:Int) (kk_L1:(Int→Option Bool)):Nat→Int→Option Bool
  | 0,_=>none
  | ae+1,aa=>(Zl ad ac).bind fun ab=>if (decide (aa<(ab.length:Int)))=true then (Z4 ((0:Int)≤aa∧aa≤(ab.length:Int)) ((Zl ab aa).bind fun af=>(Zfx N (ab.take (aA aa)) af).bind fun ag=>if ag=true then (some true) else ((Zfz N ad ac kk_L1 ae) (i64.wrap (aa+1))))) else (kk_L1 (i64.wrap (ac+1)))
termination_by structural x=>x
def Zcm (N:Nat) (aa:R7):Nat→Int→Option Bool
  | 0,_=>none
  | ac+1,ab=>if (decide (ab<(aa.length:Int)))=true then (Zfz N aa ab (Zcm N aa ac) N 0) else (some false)
termination_by structural x=>x
def Zi2 (N:Nat) (aa:R7):Option Bool:=
  Zcm N aa N 0
theorem Z5g {N am:Nat} {a0:Option Addr} {col:Zd} {w0:World} {af:R7} {r:Bool} (hm:Zi2 N af=some r) (h0:Sl (Za.slice rI) col w0 a0 am af):
    Calls prog 201 #[.slice a0 af.length am] w0 (fun e w'=>e= .returned ((.bool r))∧Below w0.heap.size w0 w'):=by
 refine Xe 2 (m:=34) func201 rfl rfl rfl rfl rfl ?_;rw [Zi2.eq_1] at hm;have aa:=St.start col w0;refine go ?_;refine Zv [0,1000000] (fun n f an=>∃ ao ah ad,ad=n∧Zcm N af ad ah=some r∧St w0 (Zj col) ao an∧[3].map f=[.int .i64 ah]) N ⟨_,0,_,rfl,hm,aa,rfl⟩ ?_;clear hm;intro n f an hI;obtain ⟨ao,ah,ad,hn,hm,aa,hs⟩:=hI;subst hn;refine .lL [3] hs ?_;replace h0:=h0.k0
 cases ad with
 | zero=>rw [Zcm.eq_1] at hm;cases hm
 | succ ad=>
  rw [Zcm.eq_2] at hm;refine go ?_;refine Zo hm (fun hb hm=>go ?_) fun hb hm=>go ?_
  ·refine Zv [0,3,1000000] (fun n f ap=>∃ ac ae ag,ag=n∧Zfz N af ah (Zcm N af ad) ag ae=some r∧St w0 (Zj col) ac ap∧[4].map f=[.int .i64 ae]) N ⟨_,0,_,rfl,hm,aa,rfl⟩ ?_;clear hm;intro n f ap hI;obtain ⟨ac,ae,ag,hn,hm,aa,hs⟩:=hI;subst hn;refine .lL [4] hs ?_
   cases ag with
   | zero=>rw [Zfz.eq_1] at hm;cases hm
   | succ ag=>
    rw [Zfz.eq_2] at hm;refine go ?_;obtain ⟨aq,ab,hm⟩:=bZ hm;refine lI ab ((h0.ks aa).addr ab) ?_;obtain ⟨_,av,aw⟩:=(h0.ks aa).atN ab;obtain ⟨⟨a4,a5,rfl,a6⟩,_⟩:=av;refine lW aw.one<|go ?_;refine Zo hm (fun hb hm=>go ?_) fun hb hm=>go ?_
    ·refine Vs (col:=ac) (by kernel_rfl) (by kernel_rfl)<|go ?_;refine qI ab ((h0.ks aa).addr ab) ?_;obtain ⟨_,ax,ay⟩:=(h0.ks aa).atN ab;obtain ⟨⟨ai,aj,rfl,ar⟩,_⟩:=ax;refine qW (fun _ hC=>ay.one.gr (hC.bl ac)) ?_;refine go ?_;obtain ⟨ak,hm⟩:=Z9 hm;refine qv (v:=.slice ai (aA ae) aj) rfl (fun _ hC=>Zjm underlying33 sizeOf3 rfl rfl ak.1 (by have:=ar.1.2;have:=ak.2;omega)) ?_;refine .ld (d:=25) (v:=(.slice ai ((aq.take (aA ae)).length) aj)) (congrArg (fun n=>Value.slice ai n aj) (eR (show (aA ae)≤aq.length by have:=ak.2;omega)).symm) ?_;refine go ?_;refine qI ab ((h0.ks aa).addr ab) ?_;obtain ⟨_,az,a1⟩:=(h0.ks aa).atN ab;obtain ⟨⟨a7,a8,rfl,au⟩,_⟩:=az;refine qW (fun _ hC=>a1.one.gr (hC.bl ac)) ?_;refine go ?_;obtain ⟨a9,al,hm⟩:=bZ hm;refine qI al (au.addr al)<|qW (fun _ hC=>(au.gr (hC.bl ac)).atInt al) ?_;obtain ⟨a2,a3,hm⟩:=bZ hm;refine qc (v:=(.bool a2)) rfl (fun _ hC=>⟨_,_,Zgf call216 rfl rfl,(Zqb a3 ((ar.take (aA ae)).gr (hC.bl ac)):).mono fun _ _ h=>⟨h.1,hC.trans (.of_below h.2)⟩⟩) ?_;refine Wn ?_;intro ba hC;replace aa:=aa.grow (hC.bl ac);refine Zo hm (fun hb hm=>go ?_) fun hb hm=>go ?_
     ·cases hm;exact ⟨rfl,rfl,aa.below⟩
     exact ⟨ag,by omega,rfl,⟨_,_,_,rfl,hm,aa,rfl⟩⟩
    exact ⟨ad,by omega,rfl,⟨_,_,_,rfl,hm,aa,rfl⟩⟩
  cases hm;exact ⟨rfl,rfl,aa.below⟩
def Zi0 (aa:Int) (kk_L2:(Int→Int→Option R2)) (ab:Int):Option R2:=
  kk_L2 ab (i64.wrap (aa+1))
def Zi1 (aa:Int) (kk_L3:(Bool→Int→Option R2)) (ab:Bool):Option R2:=
  kk_L3 ab (i64.wrap (aa+1))
def Zcl (N:Nat) (ac:R7) (ad:List Int) (ae:Int) (aa:Int) (kk_L2:(Int→Int→Option R2)):Nat→Bool→Int→Option R2
  | 0,_,_=>none
  | af+1,ag,ab=>(Zl ac aa).bind fun ah=>if (decide (ab<(ah.length:Int)))=true then (if ag=true then ((Zl ah ab).bind fun ai=>(Zfx N ad ai).bind fun aj=>Zi1 ab (Zcl N ac ad ae aa kk_L2 af) aj) else (Zi1 ab (Zcl N ac ad ae aa kk_L2 af) false)) else (if ag=true then (Zi0 aa kk_L2 aa) else (Zi0 aa kk_L2 ae))
termination_by structural x=>x
def Zd1 (N:Nat) (ad:R7) (aa:List Int) (kk_L1:(List Int→Option R2)) (ab:Int) (ac:Int) (kk_L2:(Int→Int→Option R2)) (ae:Bool):Option R2:=
  if ae=true then ((Zfx N aa ac).bind fun af=>Zcl N ad aa ab ac kk_L2 N (!af) 0) else (if (decide (ab<0))=true then (some aa) else (Z4 ((aa.length+[ab].length) * 8≤140737488355328∧aa.length+[ab].length≤maxLen) (kk_L1 (aa++[ab]))))
def Sd (N:Nat) (aa:R7) (ab:List Int) (kk_L1:(List Int→Option R2)):Nat→Int→Int→Option R2
  | 0,_,_=>none
  | ae+1,ac,ad=>if (decide (ad<(aa.length:Int)))=true then (Zd1 N aa ab kk_L1 ac ad (Sd N aa ab kk_L1 ae) (decide (ac<0))) else (Zd1 N aa ab kk_L1 ac ad (Sd N aa ab kk_L1 ae) false)
termination_by structural x=>x
def Uv (N:Nat) (aa:R7):Nat→R2→Option R2
  | 0,_=>none
  | ab+1,ac=>Sd N aa ac (Uv N aa ab) N (-1) 0
termination_by structural x=>x
def Sy (N:Nat) (aa:R7):Option R2:=
  Uv N aa N ([]:List Int)
theorem Z5f {N bb:Nat} {a0:Option Addr} {col:Zd} {w0:World} {ac:R7} {r:R2} (c1:Nat) (hm:Sy N ac=some r) (h0:Sl (Za.slice rI) col w0 a0 bb ac):
    Calls prog 202 #[.slice a0 ac.length bb] w0 (fun e w'=>∃ (col':Zd) (ra1:Option Addr) (rc2:Nat),e= .returned ((.slice ra1 r.length rc2))∧Zf col w0 col' w'∧Zb rI 3 c1 col' w' ra1 rc2 r):=by
 refine Xe 2 (m:=52) func202 rfl rfl rfl rfl rfl ?_;rw [Sy.eq_1] at hm;have aa:=St.start col w0;refine go ?_;refine Zv [0,1000000] (fun n f av=>∃ aw ag ah ad ae,ae=n∧Uv N ac ae ad=some r∧St w0 (Zj col) aw av∧Zb rI 3 1 aw av ag ah ad∧[3].map f=[.slice ag ad.length ah]) N ⟨_,none,0,_,_,rfl,hm,aa,Zb.nil,rfl⟩ ?_;clear hm;intro n f av hI;obtain ⟨aw,ag,ah,ad,ae,hn,hm,aa,ab,hs⟩:=hI;subst hn;refine .lL [3] hs ?_;replace h0:=h0.k0
 cases ae with
 | zero=>rw [Uv.eq_1] at hm;cases hm
 | succ ae=>
  rw [Uv.eq_2] at hm;refine go ?_;refine Zv [0,3,1000000] (fun n f ax=>∃ ay ai aj af,af=n∧Sd N ac ad (Uv N ac ae) af ai aj=some r∧St w0 (Zj col) ay ax∧Zb rI 3 1 ay ax ag ah ad∧[4,5].map f=[.int .i64 ai,.int .i64 aj]) N ⟨_,_,0,_,rfl,hm,aa,ab,rfl⟩ ?_;clear hm;intro n f ax hI;obtain ⟨ay,ai,aj,af,hn,hm,aa,ab,hs⟩:=hI;subst hn;refine .lL [4,5] hs ?_
  cases af with
  | zero=>rw [Sd.eq_1] at hm;cases hm
  | succ af=>
   rw [Sd.eq_2] at hm;refine Zz<|Zz ?_;refine Wp.cutK [0,3,4,5,1000000] (fun f ao=>∃ al az,Zd1 N ac ad (Uv N ac ae) ai aj (Sd N ac ad (Uv N ac ae) af) az=some r∧St w0 (Zj col) al ao∧Zb rI 3 1 al ao ag ah ad∧[15].map f=[.bool az]) ?_ ?_
   ·intro f ao hJ;obtain ⟨al,az,hm,aa,ab,hs⟩:=hJ;rw [Zd1.eq_1] at hm;refine .lL [15] hs ?_;refine Zo hm (fun hb hm=>?_) fun hb hm=>go ?_
    ·refine Yj<|Zz ?_;refine Wp.cutK [0,3,5,1000000] (fun f a1=>∃ a2 a3,Zi0 aj (Sd N ac ad (Uv N ac ae) af) a3=some r∧St w0 (Zj col) a2 a1∧Zb rI 3 1 a2 a1 ag ah ad∧[4].map f=[.int .i64 a3]) ?_ ?_
     ·intro f a1 hJ;obtain ⟨a2,a3,hm,aa,ab,hs⟩:=hJ;rw [Zi0.eq_1] at hm;refine .lL [4] hs<|go ?_;exact ⟨af,by omega,rfl,⟨_,_,_,_,rfl,hm,aa,ab,rfl⟩⟩
     refine go ?_;obtain ⟨bs,be,hm⟩:=bZ hm;refine Zi (Zqb be (ab.toSlF (Zh.int .i64))) ?_;rintro _ bf ⟨rfl,ap⟩;refine ⟨_,rfl,?_⟩;replace ap:Zf al ao al bf:=.of_below ap;refine go ?_;replace ab:=ab.gr ap;replace aa:=aa.grow ap;refine Zv [0,3,4,5,1000000] (fun n f aq=>∃ an a4 ar ak,ak=n∧Zcl N ac ad ai aj (Sd N ac ad (Uv N ac ae) af) ak a4 ar=some r∧St w0 (Zj col) an aq∧Zb rI 3 1 an aq ag ah ad∧[6,7].map f=[.bool a4,.int .i64 ar]) N ⟨_,_,0,_,rfl,hm,aa,ab,rfl⟩ ?_;clear hm;intro n f aq hI;obtain ⟨an,a4,ar,ak,hn,hm,aa,ab,hs⟩:=hI;subst hn;refine .lL [6,7] hs ?_
     cases ak with
     | zero=>rw [Zcl.eq_1] at hm;cases hm
     | succ ak=>
      rw [Zcl.eq_2] at hm;refine go ?_;obtain ⟨bt,am,hm⟩:=bZ hm;refine lI am ((h0.ks aa).addr am) ?_;obtain ⟨_,bg,bh⟩:=(h0.ks aa).atN am;obtain ⟨⟨bu,bv,rfl,bw⟩,_⟩:=bg;refine lW bh.one<|go ?_;refine Zo hm (fun hb hm=>?_) fun hb hm=>go ?_
      ·refine Yj<|Zz ?_;refine Wp.cutK [0,3,4,5,7,1000000] (fun f a5=>∃ a6 a7,Zi1 ar (Zcl N ac ad ai aj (Sd N ac ad (Uv N ac ae) af) ak) a7=some r∧St w0 (Zj col) a6 a5∧Zb rI 3 1 a6 a5 ag ah ad∧[6].map f=[.bool a7]) ?_ ?_
       ·intro f a5 hJ;obtain ⟨a6,a7,hm,aa,ab,hs⟩:=hJ;rw [Zi1.eq_1] at hm;refine .lL [6] hs<|go ?_;exact ⟨ak,by omega,rfl,⟨_,_,_,_,rfl,hm,aa,ab,rfl⟩⟩
       refine go ?_;refine Yr hm (fun a8 hm=>go ?_) fun a8 hm=>go ?_
       ·refine lI am ((h0.ks aa).addr am) ?_;refine go ?_;obtain ⟨_,bi,bj⟩:=(h0.ks aa).atN am;obtain ⟨⟨bx,bz,rfl,bc⟩,_⟩:=bi;refine lW bj.one<|go ?_;obtain ⟨b0,a9,hm⟩:=bZ hm;refine lI a9 (bc.addr a9) ?_;refine go ?_;refine lW (bc.atInt a9)<|go ?_;obtain ⟨bk,bm,hm⟩:=bZ hm;refine Zi (Zqb bm (ab.toSlF (Zh.int .i64))) ?_;rintro _ bn ⟨rfl,au⟩;refine ⟨_,rfl,?_⟩;replace au:Zf an aq an bn:=.of_below au;refine lV (.bool bk) (Ye (congrArg Value.bool a8) rfl)<|go ?_;replace ab:=ab.gr au;replace aa:=aa.grow au;exact ⟨rfl,_,_,hm,aa,ab,rfl⟩
       refine lV (.bool false) (Yd (congrArg Value.bool a8) rfl)<|go ?_;exact ⟨rfl,_,_,hm,aa,ab,rfl⟩
      refine Zo hm (fun hb hm=>go ?_) fun hb hm=>?_
      ·exact ⟨rfl,_,_,hm,aa,ab,rfl⟩
      refine Yj ?_;exact ⟨rfl,_,_,hm,aa,ab,rfl⟩
    refine Zo hm (fun hb hm=>go ?_) fun hb hm=>go ?_
    ·cases hm;exact ⟨rfl,_,_,_,rfl,aa.fin (cm [(1,c1)]),aa.fo ab⟩
    refine Vz (col:=al) [ai] 2 ?_;intro b1 b2 b3 bd bo;obtain ⟨bp,hm⟩:=Z9 hm;replace ab:=ab.gr bd;refine Vy ab (bo.srcN (NB.int (k:=.i64))) bp ?_;intro b4 b5 b6 b7 bq br;refine go ?_;replace aa:=(aa.grow bd).kpp bq;exact ⟨ae,by omega,rfl,⟨_,_,_,_,_,rfl,hm,aa,br,rfl⟩⟩
   refine go ?_;refine Yr hm (fun ba hm=>go ?_) fun ba hm=>go ?_
   ·refine lV (.bool (decide (ai<0))) (Ye (congrArg Value.bool ba) rfl)<|Zk ?_;exact ⟨rfl,_,_,hm,aa,ab,rfl⟩
   refine lV (.bool false) (Yd (congrArg Value.bool ba) rfl)<|Zk ?_;exact ⟨rfl,_,_,hm,aa,ab,rfl⟩
def Zac (N:Nat) (aa:R7):Option Int:=
  (Ziy N aa).bind fun ab=>if (!ab)=true then (some 3) else ((Zi2 N aa).bind fun ac=>if ac=true then (some 40) else ((Sy N aa).bind fun ad=>if (decide ((ad.length:Int)<(aa.length:Int)))=true then (some 42) else (some 0)))
theorem Z5d {N ae:Nat} {a0:Option Addr} {col:Zd} {w0:World} {ab:R7} {r:Int} (hm:Zac N ab=some r) (h0:Sl (Za.slice rI) col w0 a0 ae ab):
    Calls prog 169 #[.slice a0 ab.length ae] w0 (fun e w'=>e= .returned ((.int .i64 r))∧Below w0.heap.size w0 w'):=by
 refine Xe 2 (m:=18) func169 rfl rfl rfl rfl rfl ?_;rw [Zac.eq_1] at hm;have aa:=St.start col w0;refine go ?_;obtain ⟨al,ag,hm⟩:=bZ hm;replace h0:=h0.k0;refine Zi (Z5e ag (h0.ks aa)) ?_;rintro _ af ⟨rfl,ac⟩;refine ⟨_,rfl,?_⟩;replace ac:Zf (Zj col) w0 (Zj col) af:=.of_below ac;refine go ?_;replace aa:=aa.grow ac;refine Zo hm (fun hb hm=>go ?_) fun hb hm=>go ?_
 ·cases hm;exact ⟨rfl,rfl,aa.below⟩
 obtain ⟨am,ah,hm⟩:=bZ hm;refine Zi (Z5g ah (h0.ks aa)) ?_;rintro _ ai ⟨rfl,ad⟩;refine ⟨_,rfl,?_⟩;replace ad:Zf (Zj col) af (Zj col) ai:=.of_below ad;refine go ?_;replace aa:=aa.grow ad;refine Zo hm (fun hb hm=>go ?_) fun hb hm=>go ?_
 ·cases hm;exact ⟨rfl,rfl,aa.below⟩
 obtain ⟨an,aj,hm⟩:=bZ hm;refine Zi (Z5f 1 aj (h0.ks aa)) ?_;rintro _ ao ⟨ap,aq,ar,rfl,ak,au⟩;refine ⟨_,rfl,go ?_⟩;replace aa:=aa.grow ak;refine Zo hm (fun hb hm=>go ?_) fun hb hm=>go ?_
 ·cases hm;exact ⟨rfl,rfl,aa.below⟩
 cases hm;exact ⟨rfl,rfl,aa.below⟩
theorem Ztr (N:Nat) (l:List Int) (x:Int) (hl:l.length≤1048576):∀ (n k:Nat),l.length<n+k→k≤l.length→Zfy N l x n (k:Int)=some (decide (x ∈ l.drop k))
 | 0,k,h,a=>by omega
 | n+1,k,h,a=>by
  rw [Zfy.eq_2]
  by_cases hlt:k<l.length
  ·rw [if_pos (by simpa using hlt),Z0 hlt,oB,wS (by omega),Ztr N l x hl n (k+1) (by omega) (by omega),aJ hlt]
   by_cases he:l[k]=x
   ·rw [if_pos (by simpa using he),decide_eq_true (by rw [he];exact aC)]
   ·rw [if_neg (by simpa using he)]
    exact congrArg some (decide_eq_decide.2 ⟨fun h=>aB _ h,fun h=>(aO.1 h).resolve_left (Ne.symm he)⟩)
  ·rw [if_neg (by simpa using hlt),aK (by omega)];simp
theorem Zps {N:Nat} {l:List Int} {x:Int} (hl:l.length≤1048576) (hN:1048576<N):Zfx N l x=some (decide (x ∈ l)):=by
 rw [Zfx];simpa using Ztr N l x hl N 0 (by omega) (by omega)
def U6 (m:Int) (P:List R2):Bool:=P.all fun l=>l.all fun p=>decide (0≤p∧p<m)
theorem Zw1 (N:Nat) (P:List R2) (i:Nat) (hi:i<P.length) (hP:P.length≤1048576) (hl:P[i].length≤1048576) (kk:Int→Option Bool):∀ (n k:Nat),P[i].length<n+k→k≤P[i].length→
  Zck N P (i:Int) kk n (k:Int)=if (P[i].drop k).all (fun p=>decide (0≤p∧p<(P.length:Int))) then kk ((i+1:Nat):Int) else some false
 | 0,k,h,a=>by omega
 | n+1,k,h,a=>by
  rw [Zck.eq_2,Z0 hi,oB]
  by_cases hlt:k<P[i].length
  ·rw [if_pos (by simpa using hlt),Z0 hlt,oB,Ziz,Ziz,wS (by omega),Zw1 N P i hi hP hl kk n (k+1) (by omega) (by omega),aJ hlt]
   by_cases h1:P[i][k]<0
   ·rw [if_pos (by simpa using h1),if_pos rfl,if_neg (fun h=>by rw [dQ,Bool.and_eq_true,decide_eq_true_eq] at h;omega)]
   ·rw [if_neg (by simpa using h1)]
    by_cases h2:(P.length:Int)≤P[i][k]
    ·rw [if_pos (by simpa using h2),if_neg (fun h=>by rw [dQ,Bool.and_eq_true,decide_eq_true_eq] at h;omega)]
    ·rw [if_neg (by simpa using h2)]
     simp only [dQ,Bool.and_eq_true]
     have b:decide (0≤P[i][k]∧P[i][k]<(P.length:Int))=true:=by simp;omega
     simp only [b,true_and]
  ·rw [if_neg (by simpa using hlt),aK (by omega),wS (by omega)];simp
theorem Zw0 (N:Nat) (P:List R2) (hP:P.length≤1048576) (hl:∀ l ∈ P,l.length≤1048576) (hN:1048576<N):∀ (n i:Nat),P.length<n+i→i≤P.length→
  Zbk N P n (i:Int)=some (U6 P.length (P.drop i))
 | 0,i,h,a=>by omega
 | n+1,i,h,a=>by
  rw [Zbk.eq_2]
  by_cases hlt:i<P.length
  ·have b:=Zw1 N P i hlt hP (hl _ (aH hlt)) (Zbk N P n) N 0 (by have:=hl _ (aH hlt);omega) (by omega)
   rw [if_pos (by simpa using hlt)]
   rw [show (0:Int)=((0:Nat):Int) from rfl,b,Zw0 N P hP hl hN n (i+1) (by omega) (by omega),aJ hlt]
   simp only [U6,dQ,aP]
   by_cases h1:(P[i].all fun p=>decide (0≤p∧p<(P.length:Int)))=true
   ·rw [if_pos h1,h1,Bool.true_and]
   ·rw [if_neg h1,Bool.eq_false_iff.2 h1,Bool.false_and]
  ·rw [if_neg (by simpa using hlt),aK (by omega)];rfl
theorem Z7t {N:Nat} {P:List R2} (hP:P.length≤1048576) (hl:∀ l ∈ P,l.length≤1048576) (hN:1048576<N):Ziy N P=some (U6 P.length P):=by
 rw [Ziy];simpa using Zw0 N P hP hl hN N 0 (by omega) (by omega)
def Tm (P:List R2):Bool:=P.any fun l=>!decide l.Nodup
theorem Zya (l:List Int) (k:Nat) (hk:k<l.length):(l.take (k+1)).Nodup↔(l.take k).Nodup∧l[k] ∉ l.take k:=by
 rw [bH hk,dE]
 simp only [cL,bG,not_false_eq_true,List.nodup_nil,and_self,bR,true_and]
 constructor
 ·rintro ⟨c,d⟩;exact ⟨c,fun h=>d _ h _ rfl rfl⟩
 ·rintro ⟨c,d⟩;exact ⟨c,fun a f b g e=>d (by rw [← g,← e];exact f)⟩
theorem Z2v (N:Nat) (P:List R2) (i:Nat) (hi:i<P.length) (hP:P.length≤1048576) (hl:P[i].length≤1048576) (hN:1048576<N) (kk:Int→Option Bool):∀ (n k:Nat),P[i].length<n+k→k≤P[i].length→(P[i].take k).Nodup→
  Zfz N P (i:Int) kk n (k:Int)=if P[i].Nodup then kk ((i+1:Nat):Int) else some true
 | 0,k,h,b,_=>by omega
 | n+1,k,h,b,a=>by
  rw [Zfz.eq_2,Z0 hi,oB]
  by_cases hlt:k<P[i].length
  ·rw [if_pos (by simpa using hlt),Xf (by omega),Z0 hlt,oB,Zps (by simp;omega) hN,oB,aD]
   by_cases h1:P[i][k] ∈ P[i].take k
   ·rw [if_pos (by simpa using h1),if_neg]
    intro c
    exact ((Zya _ k hlt).1 (c.sublist (List.take_sublist _ _))).2 h1
   ·rw [if_neg (by simpa using h1),wS (by omega)]
    exact Z2v N P i hi hP hl hN kk n (k+1) (by omega) (by omega) ((Zya _ k hlt).2 ⟨a,h1⟩)
  ·rw [if_neg (by simpa using hlt),wS (by omega)]
   rw [bF (by omega)] at a
   rw [if_pos a]
theorem Z2u (N:Nat) (P:List R2) (hP:P.length≤1048576) (hl:∀ l ∈ P,l.length≤1048576) (hN:1048576<N):∀ (n i:Nat),P.length<n+i→i≤P.length→
  Zcm N P n (i:Int)=some (Tm (P.drop i))
 | 0,i,h,a=>by omega
 | n+1,i,h,a=>by
  rw [Zcm.eq_2]
  by_cases hlt:i<P.length
  ·have b:=Z2v N P i hlt hP (hl _ (aH hlt)) hN (Zcm N P n) N 0 (by have:=hl _ (aH hlt);omega) (by omega) (by simp)
   rw [if_pos (by simpa using hlt)]
   rw [show (0:Int)=((0:Nat):Int) from rfl,b,Z2u N P hP hl hN n (i+1) (by omega) (by omega),aJ hlt]
   simp only [Tm,eC]
   by_cases h1:P[i].Nodup
   ·rw [if_pos h1];simp [h1]
   ·rw [if_neg h1];simp [h1]
  ·rw [if_neg (by simpa using hlt),aK (by omega)];rfl
theorem Xbm {N:Nat} {P:List R2} (hP:P.length≤1048576) (hl:∀ l ∈ P,l.length≤1048576) (hN:1048576<N):Zi2 N P=some (Tm P):=by
 rw [Zi2];simpa using Z2u N P hP hl hN N 0 (by omega) (by omega)
def T5 (P:List R2):Nat:=(P.map lO).sum
theorem Zl8 (l:List Int) (P:List R2):T5 (l :: P)=l.length+T5 P:=by simp [T5]
theorem Zpg {l:List Int}:∀ {P:List R2},l ∈ P→l.length≤T5 P
 | x :: P,h=>by
  rw [Zl8]
  rcases aO.1 h with rfl | h
  ·omega
  ·have:=Zpg h;omega
def Zqp:Nat→List R2→List Rb
 | _,[]=>[]
 | k,l :: P=>l.map (fun p=>(p,(k:Int)))++Zqp (k+1) P
theorem Z6n:∀ (k:Nat) (P:List R2),(Zqp k P).length=T5 P
 | _,[]=>rfl
 | k,l :: P=>by rw [Zqp,nA,List.length_map,Z6n,Zl8]
def Sh (P:List R2) (l:List Int) (i:Nat):Bool:=!decide ((i:Int) ∈ l)&&(P.getD i []).all fun p=>decide (p ∈ l)
def Vp (P:List R2) (l:List Int) (i:Nat):Option Nat:=(List.range' i (P.length - i)).find? (Sh P l)
theorem Z8r (P:List R2) (l:List Int) (i:Nat) (h:P.length≤i):Vp P l i=none:=by
 rw [Vp,Nat.sub_eq_zero_of_le h];rfl
theorem Z8t (P:List R2) (l:List Int) (i:Nat) (h:i<P.length):Vp P l i=if Sh P l i then some i else Vp P l (i+1):=by
 rw [Vp,Vp,show P.length - i=(P.length - (i+1))+1 by omega,List.range'_succ,List.find?_cons]
 cases Sh P l i <;> simp
section
variable (N:Nat) (P:List R2) (l:List Int)
theorem Zrx (hP:P.length≤1048576) (hl:l.length≤1048576) (hN:1048576<N) (next:Int) (i:Nat) (hi:i<P.length) (hli:P[i].length≤1048576) (kk:Int→Int→Option R2):∀ (n:Nat) (b:Bool) (k:Nat),P[i].length<n+k→k≤P[i].length→
  Zcl N P l next (i:Int) kk n b (k:Int)=kk (if (b&&(P[i].drop k).all fun p=>decide (p ∈ l))=true then (i:Int) else next) ((i+1:Nat):Int)
 | 0,b,k,h,a=>by omega
 | n+1,b,k,h,a=>by
  rw [Zcl.eq_2,Z0 hi,oB]
  by_cases hlt:k<P[i].length
  ·rw [if_pos (by simpa using hlt),Z0 hlt,oB,Zps hl hN,oB,Zi1,Zi1,wS (by omega),Zrx hP hl hN next i hi hli kk n _ (k+1) (by omega) (by omega),Zrx hP hl hN next i hi hli kk n _ (k+1) (by omega) (by omega),aJ hlt,dQ]
   cases b
   ·rw [if_neg (by decide),Bool.false_and,Bool.false_and]
   ·rw [if_pos rfl,Bool.true_and]
  ·rw [if_neg (by simpa using hlt),aK (by omega),Zi0,Zi0,wS (by omega),List.all_nil,Bool.and_true]
   cases b
   ·rw [if_neg (by decide),if_neg (by decide)]
   ·rw [if_pos rfl,if_pos rfl]
def Zzc (kk:List Int→Option R2):Option Nat→Option R2
 | none=>some l
 | some i=>kk (l++[(i:Int)])
theorem Zyo (hl:l.length<1048576) (kk:List Int→Option R2) (i:Nat) (i':Int) (kk2:Int→Int→Option R2):Zd1 N P l kk (i:Int) i' kk2 false=kk (l++[(i:Int)]):=by
 rw [Zd1,if_neg (by decide),if_neg (by rw [decide_eq_true_eq];omega),Xf (by simp only [nC,nN,maxLen];omega)]
theorem Zyn (hP:P.length≤1048576) (hls:∀ x ∈ P,x.length≤1048576) (hl:l.length<1048576) (hN:1048576<N) (kk:List Int→Option R2):∀ (n i:Nat),P.length<n+i→i≤P.length→
  Sd N P l kk n (-1) (i:Int)=Zzc l kk (Vp P l i)
 | 0,i,h,a=>by omega
 | n+1,i,h,a=>by
  rw [Sd.eq_2]
  by_cases hlt:i<P.length
  ·have b:=Zrx N P l hP (by omega) hN (-1) i hlt (hls _ (aH hlt)) (Sd N P l kk n) N (!decide ((i:Int) ∈ l)) 0 (by have:=hls _ (aH hlt);omega) (by omega)
   rw [if_pos (by simpa using hlt),Zd1,if_pos (by decide),Zps (by omega) hN,oB]
   rw [show (0:Int)=((0:Nat):Int) from rfl,b,Z8t P l i hlt,aP]
   have c:(!decide ((i:Int) ∈ l)&&P[i].all fun p=>decide (p ∈ l))=Sh P l i:=by
    rw [Sh,aF,aL hlt];rfl
   rw [c]
   by_cases hr:Sh P l i=true
   ·rw [if_pos hr,if_pos hr]
    match n,h with
    | 0,h=>omega
    | n+1,h=>
     rw [Sd.eq_2]
     by_cases h2:i+1<P.length
     ·rw [if_pos (dT (by omega)),show decide ((i:Int)<0)=false from decide_eq_false (by omega)]
      exact Zyo N P l hl kk i _ _
     ·rw [if_neg (by rw [decide_eq_true_eq];omega)]
      exact Zyo N P l hl kk i _ _
   ·rw [if_neg hr,if_neg hr]
    exact Zyn hP hls hl hN kk n (i+1) (by omega) (by omega)
  ·rw [if_neg (by simpa using hlt),Z8r P l i (by omega),Zd1,if_neg (by decide),if_pos (by decide)];rfl
end
theorem Zry {N:Nat} {P:List R2} {l:List Int} (hP:P.length≤1048576) (hls:∀ x ∈ P,x.length≤1048576) (hl:l.length<1048576) (hN:1048576<N) (n:Nat):
  Uv N P (n+1) l=Zzc l (Uv N P n) (Vp P l 0):=by
 rw [Uv.eq_2]
 exact Zyn N P l hP hls hl hN _ N 0 (by omega) (by omega)
theorem Zrp {P:List R2} {l:List Int} {i j:Nat} (h:Vp P l i=some j):i≤j∧j<P.length∧Sh P l j=true∧∀ k,i≤k→k<j→Sh P l k=false:=by
 rw [Vp,List.find?_range'_eq_some] at h
 obtain ⟨d,a,f⟩:=h
 rw [kM] at a
 obtain ⟨q,g,m⟩:=a
 refine ⟨by omega,by omega,d,fun k b c=>?_⟩
 have:=f k b c
 simpa using this
theorem Z8s {P:List R2} {l:List Int} {i:Nat} (h:Vp P l i=none):∀ k,i≤k→k<P.length→Sh P l k=false:=by
 rw [Vp,List.find?_eq_none] at h
 intro k a b
 have:=h k (by rw [kM];exact ⟨k - i,by omega,by omega⟩)
 simpa using this
theorem Zz8 {P:List R2} {l:List Int} {i:Nat} (hi:i<P.length):Sh P l i=true↔(i:Int) ∉ l∧∀ p ∈ P[i],p ∈ l:=by
 rw [Sh,aF,aL hi]
 simp
def Td (P:List R2) (l:List Int):Prop:=l.Nodup∧(∀ x ∈ l,0≤x∧x<(P.length:Int))∧∀ (i:Nat) (hi:i<P.length),(i:Int) ∈ l→∀ p ∈ P[i],p ∈ l
theorem Td.len {P:List R2} {l:List Int} (h:Td P l):l.length≤P.length:=by
 have a:=Zjd (r:=(iO P.length).map fun i:Nat=>(i:Int)) h.1 fun x b=>by
  have:=h.2.1 x b
  exact cA.2 ⟨x.toNat,fK.2 (by omega),by omega⟩
 simpa using a
theorem Td.step {P:List R2} {l:List Int} {j:Nat} (h:Td P l) (hn:Vp P l 0=some j):Td P (l++[(j:Int)])∧l.length<P.length:=by
 obtain ⟨_,m,n,_⟩:=Zrp hn
 obtain ⟨o,q⟩:=(Zz8 m).1 n
 have f:Td P (l++[(j:Int)]):=by
  refine ⟨?_,?_,?_⟩
  ·rw [dE]
   refine ⟨h.1,by simp,fun a r b g e=>?_⟩
   rw [bR] at g;subst g;subst e;exact o r
  ·intro x c
   rcases bE.1 c with c | c
   ·exact h.2.1 x c
   ·rw [bR] at c;omega
  ·intro i s d p k
   rcases bE.1 d with d | d
   ·exact jQ _ (h.2.2 i s d p k)
   ·rw [bR] at d
    have:i=j:=by omega
    subst this
    exact jQ _ (q p k)
 exact ⟨f,by have:=f.len;rw [nA,nC,nN] at this;omega⟩
theorem Zyp {N:Nat} {P:List R2} (hP:P.length<1048576) (hls:∀ x ∈ P,x.length≤1048576) (hN:1048576<N):∀ (n:Nat) (l:List Int),Td P l→P.length<n+l.length→
  ∃ r,Uv N P n l=some r∧Td P r∧Vp P r 0=none
 | 0,l,h,a=>by have:=h.len;omega
 | n+1,l,h,a=>by
  have c:=h.len
  rw [Zry (by omega) hls (by omega) hN]
  cases hnx:Vp P l 0 with
  | none=>exact ⟨l,rfl,h,hnx⟩
  | some j=>
   obtain ⟨b,d⟩:=h.step hnx
   exact Zyp hP hls hN n _ b (by simp;omega)
theorem Z84 {N:Nat} {P:List R2} (hP:P.length<1048576) (hls:∀ x ∈ P,x.length≤1048576) (hN:1048576<N):∃ r,Sy N P=some r∧Td P r∧Vp P r 0=none:=by
 rw [Sy]
 exact Zyp hP hls hN N [] ⟨.nil,by simp,by simp⟩ (by simp;omega)
def gD (h:List Int) (j:Nat):Int:=h.getD j 0
theorem Q3 {h:List Int} {j:Nat} (hj:j<h.length):gD h j=h[j]:=by rw [gD,aF,aL hj];rfl
theorem Zat {h:List Int} {j:Nat} (hj:j<h.length):Zl h (j:Int)=some (gD h j):=by rw [Z0 hj,Q3 hj]
def Si (h:List Int) (i p:Nat):List Int:=(h.set i (gD h p)).set p (gD h i)
theorem Zl7 (h:List Int) (i p:Nat):(Si h i p).length=h.length:=by simp [Si]
theorem Z19 {h:List Int} {i p:Nat} (hi:i<h.length) (hp:p<h.length):(Si h i p).Perm h:=by
 rw [Si,Q3 hi,Q3 hp];exact List.set_set_perm hi hp
theorem Znd (h:List Int) (i j:Nat) (x:Int) (hi:i<h.length):gD (h.set i x) j=if j=i then x else gD h j:=by
 rw [gD,gD,aF,aF,kE]
 by_cases h1:i=j
 ·subst h1;rw [if_pos rfl,if_pos hi,if_pos rfl];rfl
 ·rw [if_neg h1,if_neg (Ne.symm h1)]
theorem Zc2 {h:List Int} {i p:Nat} (hi:i<h.length) (hp:p<h.length) (j:Nat):gD (Si h i p) j=if j=p then gD h i else if j=i then gD h p else gD h j:=by
 rw [Si,Znd _ _ _ _ (by simpa using hp),Znd _ _ _ _ hi]
def S3 (h:List Int) (n:Nat):Prop:=∀ j,0<j→j<n→gD h ((j - 1) / 2)≤gD h j
theorem S3.min {h:List Int} {n:Nat} (hh:S3 h n):∀ j,j<n→gD h 0≤gD h j:=by
 intro j
 induction j using Nat.strongRecOn with
 | ind j a=>
  intro b
  by_cases h0:j=0
  ·subst h0;exact iI _
  ·exact Int.le_trans (a ((j - 1) / 2) (by omega) (by omega)) (hh j (by omega) b)
/-! ### push -/
def Zmj (h:List Int) (i:Nat):Prop:=(∀ j,0<j→j<h.length→j≠i→gD h ((j - 1) / 2)≤gD h j)∧∀ j,0<j→j<h.length→(j - 1) / 2=i→0<i→gD h ((i - 1) / 2)≤gD h j
theorem Zmj.step {h:List Int} {i:Nat} (hu:Zmj h i) (hi:i<h.length) (h0:0<i) (hlt:gD h i<gD h ((i - 1) / 2)):Zmj (Si h i ((i - 1) / 2)) ((i - 1) / 2):=by
 have c:(i - 1) / 2<h.length:=by omega
 refine ⟨fun j a b d=>?_,fun j a b d g=>?_⟩
 ·rw [Zl7] at b
  rw [Zc2 hi c,Zc2 hi c,if_neg d]
  by_cases hji:j=i
  ·subst hji;rw [if_pos rfl,if_pos rfl];omega
  ·rw [if_neg hji]
   have f:=hu.1 j a b hji
   by_cases hq:(j - 1) / 2=(i - 1) / 2
   ·rw [if_pos hq];rw [hq] at f;omega
   ·rw [if_neg hq]
    by_cases hq2:(j - 1) / 2=i
    ·rw [if_pos hq2];exact hu.2 j a b hq2 h0
    ·rw [if_neg hq2];exact f
 ·rw [Zl7] at b
  rw [Zc2 hi c,Zc2 hi c,if_neg (by omega),if_neg (by omega),if_neg (by omega)]
  have f:=hu.1 ((i - 1) / 2) g c (by omega)
  by_cases hji:j=i
  ·rw [if_pos hji];exact f
  ·rw [if_neg hji]
   have k:=hu.1 j a b hji
   rw [d] at k;omega
theorem Zyx {i:Nat} (h0:0<i) (h1:i≤9000000):i64.wrap (aZ (i64.wrap ((i:Int) - 1)) 2)=(((i - 1) / 2:Nat):Int):=by
 rw [Zw (x:=(i:Int) - 1) (by omega),Int.tdiv_eq_ediv_of_nonneg (by omega),Zw (by omega)];omega
theorem Zza (N:Nat):∀ (n:Nat) (h:List Int) (i:Nat),i<n→i<h.length→h.length≤9000000→Zmj h i→
  ∃ h',Zb0 N n h (i:Int)=some h'∧h'.Perm h∧S3 h' h'.length
 | 0,h,i,g,_,_,_=>by omega
 | n+1,h,i,g,c,k,d=>by
  rw [Zb0.eq_2]
  by_cases h0:0<i
  ·have a:(i - 1) / 2<h.length:=by omega
   rw [if_pos (dT (by omega)),Zat c,oB,Zyx h0 (by omega),Zat a,oB,Zhk,Zyx h0 (by omega)]
   by_cases hlt:gD h i<gD h ((i - 1) / 2)
   ·obtain ⟨h',m,o,p⟩:=Zza N n (Si h i ((i - 1) / 2)) ((i - 1) / 2) (by omega) (by rw [Zl7];exact a) (by rw [Zl7];exact k) (d.step c h0 hlt)
    refine ⟨h',?_,o.trans (Z19 c a),p⟩
    rw [if_pos (dT hlt),Zat a,oB,Zat c,oB,oB,aD,aD,Z0 (by simpa using a),oB,oB]
    exact m
   ·refine ⟨h,by rw [if_neg (by simpa using hlt)],.refl _,fun j b f=>?_⟩
    by_cases hji:j=i
    ·subst hji;omega
    ·exact d.1 j b f hji
  ·have:i=0:=by omega
   subst this
   rw [if_neg (by decide),Zhk,if_neg (by decide)]
   exact ⟨h,rfl,.refl _,fun j b f=>d.1 j b f (by omega)⟩
theorem Zwq {h:List Int} {x:Int} {j:Nat} (hj:j<h.length):gD (h++[x]) j=gD h j:=by
 rw [Q3 hj,Q3 (by simp;omega),List.getElem_append_left hj]
theorem Zzb {N:Nat} {h:List Int} (x:Int) (hl:h.length<2000000) (hh:S3 h h.length) (hN:2000000<N):∃ h',Zhj N h x=some h'∧h'.Perm (x :: h)∧S3 h' h'.length:=by
 rw [Zhj,Xf (by simp only [nC,nN,maxLen];omega)]
 have i:(h++[x]).length=h.length+1:=by simp
 rw [Zw (by omega),show (((h++[x]).length:Int) - 1)=((h.length:Nat):Int) by omega]
 obtain ⟨h',c,d,f⟩:=Zza N N (h++[x]) h.length (by omega) (by omega) (by omega) ⟨fun j a g b=>by rw [Zwq (by omega),Zwq (by omega)];exact hh j a (by omega),fun j a g b k=>by omega⟩
 exact ⟨h',c,d.trans (iP x h),f⟩
/-! ### pop -/
def Zjq (l:List Int) (n i:Nat):Prop:=(∀ j,0<j→j<n→(j - 1) / 2≠i→gD l ((j - 1) / 2)≤gD l j)∧∀ j,0<j→j<n→(j - 1) / 2=i→0<i→gD l ((i - 1) / 2)≤gD l j
theorem Zjq.step {l:List Int} {n i q:Nat} (hu:Zjq l n i) (hn:n≤l.length) (hi:i<n) (hq:q<n) (hqi:(q - 1) / 2=i) (hq0:0<q) (hlt:gD l q<gD l i) (hle:∀ j,0<j→j<n→(j - 1) / 2=i→gD l q≤gD l j):Zjq (Si l i q) n q:=by
 have b:i<l.length:=by omega
 have c:q<l.length:=by omega
 refine ⟨fun j a f d=>?_,fun j a f d _=>?_⟩
 ·rw [Zc2 b c,Zc2 b c,if_neg d]
  by_cases h1:(j - 1) / 2=i
  ·rw [if_pos h1]
   by_cases h2:j=q
   ·rw [if_pos h2];omega
   ·rw [if_neg h2,if_neg (by omega)];exact hle j a f h1
  ·rw [if_neg h1,if_neg (show j≠q by omega)]
   by_cases h2:j=i
   ·subst h2
    rw [if_pos rfl];exact hu.2 q hq0 hq hqi a
   ·rw [if_neg h2];exact hu.1 j a f h1
 ·rw [Zc2 b c,Zc2 b c,hqi,if_neg (by omega),if_pos rfl,if_neg (by omega),if_neg (by omega)]
  have:=hu.1 j a f (by omega)
  rwa [d] at this
theorem Xbd {l:List Int} {n i q:Nat} (hn:n≤l.length) (hi:i<n) (hq:q<n):(Si l i q).take n=Si (l.take n) i q:=by
 have a:∀ j,j<n→gD (l.take n) j=gD l j:=fun j b=>by rw [Q3 (by simp;omega),Q3 (by omega),fX]
 rw [Si,Si,kZ,kZ,a i hi,a q hq]
theorem Zyz (N:Nat) (p0:List Int) (x0:Int) (n:Nat) (hp0:p0.length=n+1) (hn:n≤2000000) (hN:2000000<N):∀ (m:Nat) (l:List Int) (i:Nat),n<m+i→(i<n∨n=0∧i=0)→l.length=n+1→Zjq l n i→
  ∃ t,Qd N p0 x0 m l (i:Int)=some (x0,t)∧t.Perm (l.take n)∧S3 t n
 | 0,l,i,K,L,C,w=>by omega
 | m+1,l,i,K,L,C,w=>by
  rw [Qd.eq_2]
  obtain ⟨N,rfl⟩:∃ N',N=N'+1+1+1:=⟨N - 3,by omega⟩
  have D:i64.wrap ((p0.length:Int) - 1)=(n:Int):=by rw [Zw (by omega)];omega
  have M:i64.wrap (i64.wrap (2 * (i:Int))+1)=((2 * i+1:Nat):Int):=by rw [Zw (x:=2 * (i:Int)) (by omega),Zw (by omega)];omega
  have O:i64.wrap (i64.wrap (2 * (i:Int))+2)=((2 * i+2:Nat):Int):=by rw [Zw (x:=2 * (i:Int)) (by omega),Zw (by omega)];omega
  -- one child after the other
  have d:∀ (v:Nat) (k a:Nat),v<2→k=2 * i+1+v→(a<n∨n=0)→a<l.length→∀ f y,Qe (N+1+1+1) p0 x0 l (i:Int) y (f+1) (v:Int) (a:Int)=
    Qe (N+1+1+1) p0 x0 l (i:Int) y f ((v+1:Nat):Int) ((if k<n∧gD l k<gD l a then k else a:Nat):Int):=by
   intro v k a Q A X F f y
   rw [Qe.eq_2,if_pos (dT (by omega)),M,O,D]
   have G:Zl [((2 * i+1:Nat):Int),((2 * i+2:Nat):Int)] (v:Int)=some (k:Int):=by
    rw [Zgq]
    match v,Q with
    | 0,_=>simp [A]
    | 1,_=>simp [A];omega
   rw [G,oB]
   by_cases h1:k<n
   ·rw [if_pos (dT (by omega)),Zat (by omega),oB,Zat F,oB,Zhi,Zda,Zda,wS (by omega)]
    by_cases o:gD l k<gD l a
    ·rw [if_pos (dT o),if_pos ⟨h1,o⟩]
    ·rw [if_neg (by simpa using o),if_neg (fun h=>o h.2)]
   ·rw [if_neg (by rw [decide_eq_true_eq];omega),Zhi,Zda,Zda,if_neg (by decide),wS (by omega),if_neg (fun h=>h1 h.1)]
  have r:i<l.length:=by omega
  have H:=d 0 (2 * i+1) i (by omega) (by omega) (by omega) r (N+1+1) (Qd (N+1+1+1) p0 x0 m)
  generalize hq1:(if 2 * i+1<n∧gD l (2 * i+1)<gD l i then 2 * i+1 else i)=q1 at H
  have p:(q1=i∧(2 * i+1<n→gD l i≤gD l (2 * i+1)))∨(q1=2 * i+1∧q1<n∧gD l q1<gD l i):=by
   by_cases hc:2 * i+1<n∧gD l (2 * i+1)<gD l i
   ·rw [if_pos hc] at hq1;subst hq1;exact .inr ⟨rfl,hc.1,hc.2⟩
   ·rw [if_neg hc] at hq1;subst hq1;exact .inl ⟨rfl,fun h=>by omega⟩
  have I:=d 1 (2 * i+2) q1 (by omega) (by omega) (by omega) (by omega) (N+1) (Qd (N+1+1+1) p0 x0 m)
  generalize hq2:(if 2 * i+2<n∧gD l (2 * i+2)<gD l q1 then 2 * i+2 else q1)=q2 at I
  have B:(q2=i∧(2 * i+1<n→gD l i≤gD l (2 * i+1))∧(2 * i+2<n→gD l i≤gD l (2 * i+2)))∨((q2=2 * i+1∨q2=2 * i+2)∧q2<n∧gD l q2<gD l i∧(2 * i+1<n→gD l q2≤gD l (2 * i+1))∧(2 * i+2<n→gD l q2≤gD l (2 * i+2))):=by
   by_cases hc:2 * i+2<n∧gD l (2 * i+2)<gD l q1
   ·rw [if_pos hc] at hq2;subst hq2
    rcases p with ⟨rfl,b⟩ | ⟨rfl,b,g⟩
    ·exact .inr ⟨.inr rfl,hc.1,hc.2,fun h=>by have:=b h;omega,fun _=>iI _⟩
    ·exact .inr ⟨.inr rfl,hc.1,by omega,fun _=>by omega,fun _=>iI _⟩
   ·rw [if_neg hc] at hq2;subst hq2
    rcases p with ⟨rfl,b⟩ | ⟨rfl,b,g⟩
    ·exact .inl ⟨rfl,b,fun h=>by omega⟩
    ·exact .inr ⟨.inl rfl,b,g,fun _=>iI _,fun h=>by omega⟩
  rw [show (0:Int)=((0:Nat):Int) from rfl,H]
  rw [show ((0+1:Nat):Int)=((1:Nat):Int) from rfl,I,Qe.eq_2,if_neg (by decide),D,aD]
  rcases B with ⟨rfl,b,g⟩ | ⟨o,b,g,R,S⟩
  ·rw [if_pos (by simp)]
   refine ⟨_,rfl,.refl _,fun j s c=>?_⟩
   have J:∀ k,k<n→gD (l.take n) k=gD l k:=fun k A=>by rw [Q3 (by simp;omega),Q3 (by omega),fX]
   rw [J _ (by omega),J _ c]
   by_cases hq:(j - 1) / 2=q2
   ·rw [hq]
    rcases (show j=2 * q2+1∨j=2 * q2+2 by omega) with rfl | rfl
    ·exact b c
    ·exact g c
   ·exact w.1 j s c hq
  ·have q:q2<l.length:=by omega
   have u:i<n:=by omega
   have T:=w.step (by omega) u b (by omega) (by omega) g (fun j s c Y=>by
    rcases (show j=2 * i+1∨j=2 * i+2 by omega) with rfl | rfl
    ·exact R c
    ·exact S c)
   obtain ⟨t,U,V,W⟩:=Zyz (N+1+1+1) p0 x0 n hp0 hn hN m (Si l i q2) q2 (by omega) (.inl b) (by rw [Zl7];exact C) T
   refine ⟨t,?_,V.trans ?_,W⟩
   ·rw [if_neg (by simp;omega),Zat q,oB,Zat r,oB,oB,aD,aD,Z0 (by simpa using q),oB,oB]
    exact U
   ·rw [Xbd (by omega) u b];exact Z19 (by simp;omega) (by simp;omega)
theorem Z9a {N:Nat} {h:List Int} (hl:h.length≤2000000) (h0:0<h.length) (hh:S3 h h.length) (hN:2000000<N):∃ x t,Zkh N h=some (x,t)∧h.Perm (x :: t)∧(∀ y ∈ h,x≤y)∧S3 t t.length:=by
 rw [Zkh]
 obtain ⟨n,a⟩:∃ n,h.length=n+1:=⟨h.length - 1,by omega⟩
 have i:i64.wrap ((h.length:Int) - 1)=(n:Int):=by rw [Zw (by omega)];omega
 rw [i,show (0:Int)=((0:Nat):Int) from rfl,Zat h0,oB,Zat (by omega),oB,oB,Xf (by simp;omega),aD]
 have k:Zjq (h.set 0 (gD h n)) n 0:=by
  refine ⟨fun j f d s=>?_,fun j _ _ _ h=>by omega⟩
  rw [Znd _ _ _ _ h0,Znd _ _ _ _ h0,if_neg (by omega),if_neg (by omega)]
  exact hh j f (by omega)
 obtain ⟨t,m,o,p⟩:=Zyz N h (gD h 0) n a (by omega) hN N (h.set 0 (gD h n)) 0 (by omega) (by omega) (by simpa using a) k
 have g:h.Perm (gD h 0 :: (h.set 0 (gD h n)).take n):=by
  match h,a with
  | x :: r,a=>
   have b:r.length=n:=by simpa using a
   match n,b with
   | 0,b=>rw [List.length_eq_zero_iff.1 b];exact .refl _
   | n+1,b=>
    have e:gD (x :: r) (n+1)=gD r n:=rfl
    rw [e,List.set_cons_zero,List.take_succ_cons]
    refine List.Perm.cons x ?_
    have:r=r.take n++[gD r n]:=by
     have:=bH (show n<r.length by omega)
     rw [bF (by omega)] at this
     rw [Q3 (by omega)];exact this
    conv=>lhs;rw [this]
    exact iP _ _
 have c:h.Perm (gD h 0 :: t):=g.trans (List.Perm.cons _ o.symm)
 refine ⟨gD h 0,t,m,c,fun y q=>?_,?_⟩
 ·obtain ⟨j,d,rfl⟩:=List.getElem_of_mem q
  rw [← Q3 d];exact hh.min j d
 ·have:=c.length_eq
  rw [nC,a] at this
  rw [show t.length=n by omega];exact p
theorem Xn {α:Type} {l:List α} {d:α} {j:Nat} (hj:j<l.length):l.getD j d=l[j]:=by rw [aF,aL hj];rfl
theorem Wx {α:Type} {l:List α} (d:α) {j:Nat} (hj:j<l.length):Zl l (j:Int)=some (l.getD j d):=by rw [Z0 hj,Xn hj]
theorem V1 {α:Type} (l:List α) (d:α) (i j:Nat) (x:α) (hi:i<l.length):(l.set i x).getD j d=if j=i then x else l.getD j d:=by
 rw [aF,aF,kE]
 by_cases h1:i=j
 ·subst h1;rw [if_pos rfl,if_pos hi,if_pos rfl];rfl
 ·rw [if_neg h1,if_neg (Ne.symm h1)]
def Us:Nat→List R2→Int→List Int
 | _,[],_=>[]
 | k,l :: P,p=>aM (l.count p) (k:Int)++Us (k+1) P p
def Zmf (n:Nat) (l:List Int):Prop:=∀ x ∈ l,0≤x∧x<(n:Int)
theorem Zu9 (k:Nat) (kk:Nat→List R2→Option R7):∀ (l:List Int) (out:List R2),Zmf out.length l→(∀ p:Nat,(out.getD p []).length+l.length≤1048576)→
  ∃ out',Zc8 k kk l out=kk (k+1) out'∧out'.length=out.length∧∀ p:Nat,p<out.length→out'.getD p []=out.getD p []++aM (l.count (p:Int)) (k:Int)
 | [],out,h,a=>⟨out,by rw [Zc8.eq_1],rfl,fun p c=>by simp⟩
 | x :: l,out,h,a=>by
  obtain ⟨f,n⟩:=h x aC
  obtain ⟨q,rfl⟩:=Int.eq_ofNat_of_zero_le f
  have b:q<out.length:=by omega
  have d:=a q
  simp only [nC] at d a
  rw [Zc8.eq_2,Wx [] b,oB,Xf (by simp only [nC,nN,maxLen];omega),aD]
  obtain ⟨out',g,i,j⟩:=Zu9 k kk l (out.set q (out.getD q []++[(k:Int)])) (by rw [nS];exact fun y m=>h y (aB _ m)) (fun p=>by
   rw [V1 _ _ _ _ _ b]
   have:=a p
   split
   ·simp only [nA,nC,nN];omega
   ·omega)
  refine ⟨out',g,by rw [i,nS],fun p c=>?_⟩
  rw [j p (by rw [nS];exact c),V1 _ _ _ _ _ b,gK]
  by_cases hpq:p=q
  ·subst hpq
   rw [if_pos rfl,if_pos (by simp),bO,show l.count (p:Int)+1=1+l.count (p:Int) by omega,show [(k:Int)]=aM 1 (k:Int) from rfl,List.replicate_append_replicate]
  ·rw [if_neg hpq,if_neg (by simp;omega),bU]
theorem Zw2 (p:Int):∀ (k:Nat) (P:List R2),(Us k P p).length≤T5 P
 | _,[]=>by simp [Us]
 | k,l :: P=>by
  rw [Us,nA,bI,Zl8]
  have:=Zw2 p (k+1) P
  have:=gU (a:=p) (l:=l)
  omega
theorem Zu8 (n:Nat):∀ (P:List R2) (k:Nat) (out:List R2),out.length=n→(∀ l ∈ P,Zmf n l)→(∀ p:Nat,(out.getD p []).length+T5 P≤1048576)→
  ∃ out',Za0 P k out=some out'∧out'.length=n∧∀ p:Nat,p<n→out'.getD p []=out.getD p []++Us k P p
 | [],k,out,c,_,_=>⟨out,by rw [Za0.eq_1],c,fun p b=>by simp [Us]⟩
 | l :: P,k,out,c,h,d=>by
  simp only [Zl8] at d
  rw [Za0.eq_2]
  obtain ⟨f,i,r,g⟩:=Zu9 k (Za0 P) l out (by rw [c];exact h l aC) (fun p=>by have:=d p;omega)
  obtain ⟨out',j,m,o⟩:=Zu8 n P (k+1) f (by omega) (fun x q=>h x (aB _ q)) (fun p=>by
   have:=d p
   by_cases b:p<out.length
   ·rw [g p b,nA,bI]
    have:=gU (a:=(p:Int)) (l:=l)
    omega
   ·rw [aF,List.getElem?_eq_none (by omega)];simp;omega)
  refine ⟨out',by rw [i,j],m,fun p b=>?_⟩
  rw [o p b,g p (by omega),bO,Us]
theorem Z54 {P:List R2} (hP:P.length≤1048576) (ht:T5 P≤1048576) (h:∀ l ∈ P,Zmf P.length l):∃ D,Zhf P=some D∧D.length=P.length∧∀ p:Nat,p<P.length→D.getD p []=Us 0 P p:=by
 rw [Zhf,Xf (by simp only [maxLen];omega)]
 have a:∀ p:Nat,(aM P.length ([]:List Int)).getD p []=[]:=fun p=>by
  rw [aF,List.getElem?_replicate];split <;> rfl
 obtain ⟨D,b,c,d⟩:=Zu8 P.length P 0 (aM P.length []) (by simp) h (fun p=>by rw [a];simpa using ht)
 exact ⟨D,b,c,fun p f=>by rw [d p f,a];rfl⟩
theorem Zq2 (p:Int):∀ (k:Nat) (P:List R2) (c:Nat),(Us k P p).count (c:Int)=if k≤c then (P.getD (c - k) []).count p else 0
 | k,[],c=>by simp [Us]
 | k,l :: P,c=>by
  rw [Us,List.count_append,Zq2 p (k+1) P c,List.count_replicate]
  by_cases h1:k=c
  ·subst h1
   rw [if_pos (by simp),if_neg (by omega),if_pos (Nat.le_refl _),Nat.sub_self];rfl
  ·rw [if_neg (by simp;omega)]
   by_cases h2:k≤c
   ·rw [if_pos (by omega),if_pos h2,show c - k=(c - (k+1))+1 by omega];simp
   ·rw [if_neg (by omega),if_neg h2]
theorem Zw3 (p:Int):∀ (k:Nat) (P:List R2) (x:Int),x ∈ Us k P p→∃ c:Nat,x=(c:Int)∧k≤c∧c<k+P.length
 | k,[],x,h=>by simp [Us] at h
 | k,l :: P,x,h=>by
  rw [Us] at h
  rcases bE.1 h with h | h
  ·exact ⟨k,(List.mem_replicate.1 h).2,Nat.le_refl _,by simp⟩
  ·obtain ⟨c,a,b,d⟩:=Zw3 p (k+1) P x h
   exact ⟨c,a,by omega,by rw [nC];omega⟩
def Sm (P:List R2) (out:List Int) (c:Nat):Nat:=(P.getD c []).countP fun q=>!decide (q ∈ out)
theorem Zvf (out:List Int) (p:Int) (hp:p ∉ out):∀ l:List Int,(l.countP fun q=>!decide (q ∈ out))=(l.countP fun q=>!decide (q ∈ out++[p]))+l.count p
 | []=>rfl
 | x :: l=>by
  rw [kH,kH,gK,Zvf out p hp l]
  by_cases h1:x=p
  ·subst h1
   have b:(!decide (x ∈ out))=true:=by simp [hp]
   have a:(!decide (x ∈ out++[x]))=false:=by simp
   rw [b,a];simp;omega
  ·have a:(x ∈ out++[p])↔x ∈ out:=by simp [h1]
   rw [show (!decide (x ∈ out++[p]))=(!decide (x ∈ out)) from congrArg _ (decide_eq_decide.2 a),if_neg (show ¬ ((x==p)=true) by simpa using h1)];omega
theorem Zvd {P:List R2} {out:List Int} {p:Int} (hp:p ∉ out) (c:Nat):Sm P out c=Sm P (out++[p]) c+(P.getD c []).count p:=Zvf out p hp _
theorem Zz7 (P:List R2) (out:List Int) (c:Nat):Sh P out c=true↔(c:Int) ∉ out∧Sm P out c=0:=by
 rw [Sh,Sm,List.countP_eq_zero]
 simp
structure Zmg (P:List R2) (out left ready:List Int):Prop where
 ok:Td P out
 len:left.length=P.length
 cnt:∀ c:Nat,c<P.length→left.getD c 0=(Sm P out c:Int)
 heap:S3 ready ready.length
 nd:ready.Nodup
 mem:∀ y:Int,y ∈ ready↔∃ c:Nat,c<P.length∧y=(c:Int)∧(c:Int) ∉ out∧left.getD c 0=0
theorem Zs3 (N:Nat) (P:List R2) (hP:P.length≤1048576) (ht:T5 P≤1048576) (hN:2000000<N) (out:List Int) (p:Nat) (r2:List Int) (kk:List Int→List Int→List Int→Option R2):
  ∀ (rest left ready:List Int),rest.length≤9000000000000000000→left.length=P.length→(∀ c:Nat,c<P.length→left.getD c 0=((Sm P (out++[(p:Int)]) c+rest.count (c:Int):Nat):Int))→
   S3 ready ready.length→ready.Nodup→(∀ y:Int,y ∈ ready↔∃ c:Nat,c<P.length∧y=(c:Int)∧(c:Int) ∉ out++[(p:Int)]∧left.getD c 0=0)→
   (∀ x ∈ rest,∃ c:Nat,c<P.length∧x=(c:Int)∧x ∉ out++[(p:Int)])→
   ∃ left' ready',Za5 N out kk ((p:Int),r2) rest left ready=kk left' ready' (out++[(p:Int)])∧left'.length=P.length∧(∀ c:Nat,c<P.length→left'.getD c 0=(Sm P (out++[(p:Int)]) c:Int))∧
    S3 ready' ready'.length∧ready'.Nodup∧∀ y:Int,y ∈ ready'↔∃ c:Nat,c<P.length∧y=(c:Int)∧(c:Int) ∉ out++[(p:Int)]∧left'.getD c 0=0
 | [],left,ready,_,u,v,w,o,m,_=>⟨left,ready,by rw [Za5.eq_1],u,fun c F=>by rw [v c F];simp,w,o,m⟩
 | x :: rest,left,ready,n,u,v,w,o,m,J=>by
  obtain ⟨c0,k,rfl,G⟩:=J x aC
  have b:c0<left.length:=by omega
  have s:=v c0 k
  rw [gK,if_pos (by simp)] at s
  have R:Sm P (out++[(p:Int)]) c0≤1048576:=by
   have H:=List.countP_le_length (p:=fun q=>!decide (q ∈ out++[(p:Int)])) (l:=P.getD c0 [])
   rw [Xn k] at H
   have j:=Zpg (P:=P) (aH k)
   rw [Sm,Xn k];omega
  have S:ready.length≤P.length:=by
   have H:=Zjd (r:=(iO P.length).map fun i:Nat=>(i:Int)) o fun y I=>by
    obtain ⟨c,j,g,_⟩:=(m y).1 I
    exact cA.2 ⟨c,fK.2 j,g.symm⟩
   simpa using H
  have M:i64.wrap (left.getD c0 0 - 1)=((Sm P (out++[(p:Int)]) c0+rest.count (c0:Int):Nat):Int):=by
   have g:=gU (a:=(c0:Int)) (l:=rest)
   rw [s,Zw]
   ·omega
   ·simp only [nC] at n
    omega
  have A:∀ c:Nat,c<P.length→(left.set c0 (i64.wrap (left.getD c0 0 - 1))).getD c 0=((Sm P (out++[(p:Int)]) c+rest.count (c:Int):Nat):Int):=fun c F=>by
   rw [V1 _ _ _ _ _ b]
   by_cases hcc:c=c0
   ·subst hcc;rw [if_pos rfl,M]
   ·rw [if_neg hcc,v c F,gK,if_neg (by simp;omega),bU]
  have B:left.getD c0 0≠0:=by rw [s];omega
  have K:(c0:Int) ∉ ready:=fun h=>by
   obtain ⟨c,j,g,_,f⟩:=(m _).1 h
   have:c=c0:=by omega
   subst this;exact B f
  have C:∀ x ∈ rest,∃ c:Nat,c<P.length∧x=(c:Int)∧x ∉ out++[(p:Int)]:=fun x G=>J x (aB _ G)
  have D:rest.length≤9000000000000000000:=by simp only [nC] at n;omega
  rw [Za5.eq_2,Wx 0 b,oB,oB,aD,Wx 0 (by rw [nS];exact b),oB,Zhm,V1 _ _ _ _ _ b,if_pos rfl]
  by_cases hz:i64.wrap (left.getD c0 0 - 1)=0
  ·obtain ⟨t,O,L,Q⟩:=Zzb (N:=N) (c0:Int) (by omega:ready.length<2000000) w hN
   rw [if_pos (by simpa using hz),O,oB,Zhm]
   refine Zs3 N P hP ht hN out p r2 kk rest _ t D (by rw [nS];exact u) A Q (L.nodup_iff.2 (cL.2 ⟨K,o⟩)) (fun y=>?_) C
   rw [L.mem_iff,aO]
   constructor
   ·rintro (rfl | I)
    ·exact ⟨c0,k,rfl,G,by rw [V1 _ _ _ _ _ b,if_pos rfl,hz]⟩
    ·obtain ⟨c,j,g,f,d⟩:=(m y).1 I
     refine ⟨c,j,g,f,?_⟩
     rw [V1 _ _ _ _ _ b]
     split
     ·exact hz
     ·exact d
   ·rintro ⟨c,j,g,f,d⟩
    by_cases hcc:c=c0
    ·subst hcc;exact .inl g
    ·rw [V1 _ _ _ _ _ b,if_neg hcc] at d
     exact .inr ((m y).2 ⟨c,j,g,f,d⟩)
  ·rw [if_neg (by simpa using hz)]
   refine Zs3 N P hP ht hN out p r2 kk rest _ ready D (by rw [nS];exact u) A w o (fun y=>?_) C
   rw [m y]
   constructor
   ·rintro ⟨c,j,g,f,d⟩
    refine ⟨c,j,g,f,?_⟩
    rw [V1 _ _ _ _ _ b,if_neg (fun h=>B (by rw [← h];exact d))];exact d
   ·rintro ⟨c,j,g,f,d⟩
    refine ⟨c,j,g,f,?_⟩
    rw [V1 _ _ _ _ _ b] at d
    split at d
    ·exact absurd d hz
    ·exact d
theorem Xau {N:Nat} {P D:List R2} (hP:P.length≤1048576) (ht:T5 P≤1048576) (hN:2000000<N) (hD:D.length=P.length) (hDk:∀ p:Nat,p<P.length→D.getD p []=Us 0 P p) {out left ready:List Int} (hi:Zmg P out left ready) (n:Nat):
  (Vp P out 0=none→Tw N D (n+1) left ready out=some out)∧
  ∀ p,Vp P out 0=some p→∃ left' ready',Zmg P (out++[(p:Int)]) left' ready'∧Tw N D (n+1) left ready out=Tw N D n left' ready' (out++[(p:Int)]):=by
 have Z:ready.length≤P.length:=by
  have k:=Zjd (r:=(iO P.length).map fun i:Nat=>(i:Int)) hi.nd fun y U=>by
   obtain ⟨c,b,d,_⟩:=(hi.mem y).1 U
   exact cA.2 ⟨c,fK.2 b,d.symm⟩
  simpa using k
 have q:∀ c:Nat,c<P.length→(Sh P out c=true↔(c:Int) ∈ ready):=fun c v=>by
  rw [Zz7,hi.mem]
  constructor
  ·rintro ⟨f,g⟩;exact ⟨c,v,rfl,f,by rw [hi.cnt c v,g];rfl⟩
  ·rintro ⟨M,f,g,o,m⟩
   have:M=c:=by omega
   subst this
   rw [hi.cnt M f] at m
   exact ⟨o,by omega⟩
 refine ⟨fun w=>?_,fun p w=>?_⟩
 ·have V:ready=[]:=by
   cases s:ready with
   | nil=>rfl
   | cons y l=>
    obtain ⟨c,f,g,_⟩:=(hi.mem y).1 (by rw [s];exact aC)
    have o:=Z8s w c (bK _) f
    have m:=(q c f).2 (by rw [← g,s];exact aC)
    rw [o] at m;cases m
  rw [Tw.eq_2,V,if_neg (by decide)]
 ·obtain ⟨_,H,s,I⟩:=Zrp w
  have B:=(q p H).1 s
  have J:0<ready.length:=List.length_pos_of_mem B
  obtain ⟨x,t,W,K,X,Y⟩:=Z9a (N:=N) (by omega:ready.length≤2000000) J hi.heap hN
  have C:x ∈ ready:=K.mem_iff.2 aC
  have O:x=(p:Int):=by
   obtain ⟨c,f,g,_⟩:=(hi.mem x).1 C
   have o:=X _ B
   have m:¬ c<p:=fun F=>by
    have L:=I c (bK _) F
    have A:=(q c f).2 (by rw [← g];exact C)
    rw [L] at A;cases A
   omega
  subst O
  have G:((p:Int) :: t).Nodup:=K.nodup_iff.1 hi.nd
  obtain ⟨u,a0⟩:=(Zz7 P out p).1 s
  obtain ⟨Q,F⟩:=hi.ok.step w
  have a1:=hi.ok.len
  have T:(P.getD p []).count (p:Int)=0:=by have:=Zvd (P:=P) u p;omega
  rw [Tw.eq_2,if_pos (dT (by omega)),W,oB,Xf (by simp only [nC,nN,maxLen];omega),Wx [] (by rw [hD];exact H),oB,hDk p H]
  have a2:=Zw2 (p:Int) 0 P
  obtain ⟨left',ready',f,g,o,m,L,A⟩:=Zs3 N P hP ht hN out p t (Tw N D n) (Us 0 P p) left t (by omega) hi.len (fun c v=>by
    rw [hi.cnt c v,Zvd u c,Zq2 (p:Int) 0 P c,if_pos (bK _),lQ]) Y (cL.1 G).2 (fun y=>by
    have k:y ∈ t↔y ∈ ready∧y≠(p:Int):=by
     rw [K.mem_iff,aO]
     exact ⟨fun h=>⟨.inr h,fun e=>(cL.1 G).1 (by rw [← e];exact h)⟩,fun h=>h.1.resolve_left h.2⟩
    rw [k,hi.mem]
    constructor
    ·rintro ⟨⟨c,b,d,a,j⟩,R⟩
     exact ⟨c,b,d,by rw [bE,bR];exact fun h=>h.elim a fun h=>R (by rw [d,h]),j⟩
    ·rintro ⟨c,b,d,a,j⟩
     rw [bE,bR] at a
     exact ⟨⟨c,b,d,fun h=>a (.inl h),j⟩,fun h=>a (.inr (by rw [← d,h]))⟩) (fun x S=>by
    obtain ⟨c,k,_,b⟩:=Zw3 (p:Int) 0 P x S
    have b:c<P.length:=by omega
    have d:=Zq2 (p:Int) 0 P c
    rw [if_pos (bK _),lQ] at d
    have a:0<(P.getD c []).count (p:Int):=by rw [← d,← k];exact kA.2 S
    refine ⟨c,b,k,fun h=>?_⟩
    rcases bE.1 h with h | h
    ·rw [k] at h
     have j:=hi.ok.2.2 c b h (p:Int) (by rw [Xn b] at a;exact kA.1 a)
     exact u j
    ·rw [bR] at h
     have:c=p:=by omega
     subst this
     omega)
  exact ⟨left',ready',⟨Q,g,o,m,L,A⟩,f⟩
theorem Z1r {N:Nat} {P D:List R2} (hP:P.length<1048576) (hls:∀ x ∈ P,x.length≤1048576) (ht:T5 P≤1048576) (hN:2000000<N) (hD:D.length=P.length) (hDk:∀ p:Nat,p<P.length→D.getD p []=Us 0 P p):∀ (n:Nat) (out left ready:List Int),Zmg P out left ready→P.length<n+out.length→
  Tw N D n left ready out=Uv N P n out
 | 0,out,left,ready,a,d=>by have:=a.ok.len;omega
 | n+1,out,left,ready,a,d=>by
  have k:=a.ok.len
  obtain ⟨f,g⟩:=Xau (N:=N) (by omega) ht hN hD hDk a n
  rw [Zry (by omega) hls (by omega) (by omega)]
  cases hnx:Vp P out 0 with
  | none=>rw [f hnx];rfl
  | some p=>
   obtain ⟨c,b,i,j⟩:=g p hnx
   rw [j]
   exact Z1r hP hls ht hN hD hDk n _ _ _ i (by simp;omega)
theorem Zs2 {N:Nat} (P D:List R2) (hP:P.length<1048576) (hN:2000000<N) (hl:∀ l ∈ P,l.length≤1048576):∀ (Q:List R2) (k:Nat) (left ready:List Int),P.drop k=Q→k≤P.length→left.length=P.length→
  (∀ c:Nat,c<k→left.getD c 0=((P.getD c []).length:Int))→S3 ready ready.length→ready.Nodup→(∀ y:Int,y ∈ ready↔∃ c:Nat,c<k∧y=(c:Int)∧(P.getD c []).length=0)→
  ∃ left' ready',Za4 N D Q k left ready=Tw N D N left' ready' []∧Zmg P [] left' ready'
 | [],k,left,ready,g,G,s,m,t,n,j=>by
  have w:k=P.length:=by have:=congrArg lO g;simp at this;omega
  subst w
  have A:∀ c,Sm P [] c=(P.getD c []).length:=fun c=>by
   rw [Sm,List.countP_eq_length.2 (fun a _=>by simp)]
  refine ⟨left,ready,by rw [Za4.eq_1],⟨⟨.nil,by simp,by simp⟩,s,fun c B=>by rw [m c B,A],t,n,fun y=>?_⟩⟩
  rw [j]
  constructor
  ·rintro ⟨c,f,b,d⟩;exact ⟨c,f,b,by simp,by rw [m c f,d];rfl⟩
  ·rintro ⟨c,f,b,_,d⟩;exact ⟨c,f,b,by rw [m c f] at d;omega⟩
 | x :: Q,k,left,ready,g,G,s,m,t,n,j=>by
  have u:k<P.length:=by
   rcases Nat.lt_or_ge k P.length with h | h
   ·exact h
   ·rw [aK h] at g;cases g
  rw [aJ u] at g
  obtain ⟨H,g⟩:=List.cons.inj g
  have o:P.getD k []=x:=by rw [Xn u,H]
  have p:k<left.length:=by omega
  have M:ready.length≤k:=by
   have b:=Zjd (r:=(iO k).map fun i:Nat=>(i:Int)) n fun y I=>by
    obtain ⟨c,d,J,_⟩:=(j y).1 I
    exact cA.2 ⟨c,fK.2 d,J.symm⟩
   simpa using b
  have v:∀ c:Nat,c<k+1→(left.set k (x.length:Int)).getD c 0=((P.getD c []).length:Int):=fun c B=>by
   rw [V1 _ _ _ _ _ p]
   by_cases hck:c=k
   ·subst hck;rw [if_pos rfl,o]
   ·rw [if_neg hck,m c (by omega)]
  have C:(k:Int) ∉ ready:=fun h=>by obtain ⟨c,f,b,_⟩:=(j _).1 h;omega
  rw [Za4.eq_2,Wx 0 p,oB,oB,aD]
  by_cases h0:x.length=0
  ·obtain ⟨q,K,F,L⟩:=Zzb (N:=N) (k:Int) (by omega:ready.length<2000000) t hN
   rw [if_pos (dT (by omega)),K,oB,Zhn]
   refine Zs2 P D hP hN hl Q (k+1) _ q g (by omega) (by rw [nS];exact s) v L (F.nodup_iff.2 (cL.2 ⟨C,n⟩)) (fun y=>?_)
   rw [F.mem_iff,aO,j]
   constructor
   ·rintro (rfl | ⟨c,f,b,d⟩)
    ·exact ⟨k,by omega,rfl,by rw [o];exact h0⟩
    ·exact ⟨c,by omega,b,d⟩
   ·rintro ⟨c,f,b,d⟩
    by_cases hck:c=k
    ·subst hck;exact .inl b
    ·exact .inr ⟨c,by omega,b,d⟩
  ·rw [if_neg (by rw [decide_eq_true_eq];omega),Zhn]
   refine Zs2 P D hP hN hl Q (k+1) _ ready g (by omega) (by rw [nS];exact s) v t n (fun y=>?_)
   rw [j]
   constructor
   ·rintro ⟨c,f,b,d⟩;exact ⟨c,by omega,b,d⟩
   ·rintro ⟨c,f,b,d⟩
    by_cases hck:c=k
    ·subst hck;rw [o] at d;exact absurd d h0
    ·exact ⟨c,by omega,b,d⟩
theorem Xat {N:Nat} {P D:List R2} (hP:P.length<1048576) (hls:∀ x ∈ P,x.length≤1048576) (ht:T5 P≤1048576) (hN:2000000<N) (hD:D.length=P.length) (hDk:∀ p:Nat,p<P.length→D.getD p []=Us 0 P p):Zhl N P D=Sy N P:=by
 rw [Zhl,Xf (by simp only [maxLen];omega),Sy]
 obtain ⟨left,a,b,d⟩:=Zs2 (N:=N) P D hP hN hls P 0 (aM P.length 0) [] rfl (bK _) (by simp) (fun c g=>by omega) (fun j _ f=>by simp at f) .nil (fun y=>by simp)
 rw [b]
 exact Z1r hP hls ht hN hD hDk N [] _ _ d (by simp;omega)
theorem Zwa (kk:Option Int):∀ (l:List Int) (seen:List Rb) (S:List Int),S.Nodup→(∀ k,W0 seen k=if k ∈ S then some 1 else none)→Zc9 kk l seen=if (S++l).Nodup then kk else some 40
 | [],seen,S,c,d=>by rw [Zc9.eq_1,List.append_nil,if_pos c]
 | x :: l,seen,S,c,d=>by
  rw [Zc9.eq_2,d x]
  by_cases hx:x ∈ S
  ·rw [if_pos hx,if_pos (by decide),if_neg]
   intro h
   exact (dE.1 h).2.2 x hx x aC rfl
  ·rw [if_neg hx,if_neg (by decide),oB,Zwa kk l _ (S++[x]) (by
    rw [dE]
    refine ⟨c,by simp,fun a g b f e=>?_⟩
    rw [bR] at f;subst f;subst e;exact hx g) (fun k=>by
    rw [Zxv,d k]
    by_cases hk:k=x
    ·subst hk;rw [if_pos rfl,if_pos (by simp)]
    ·rw [if_neg hk]
     by_cases hs:k ∈ S
     ·rw [if_pos hs,if_pos (by simp [hs])]
     ·rw [if_neg hs,if_neg (by simp [hs,hk])])]
   rw [bO];rfl
theorem Zv9:∀ P:List R2,Za2 P=if Tm P then some 40 else some 0
 | []=>by rw [Za2.eq_1];rfl
 | l :: P=>by
  rw [Za2.eq_2,Zwa _ l [] [] .nil (fun k=>by simp [W0]),Zv9 P,List.nil_append]
  by_cases h:l.Nodup
  ·rw [if_pos h]
   have:Tm (l :: P)=Tm P:=by rw [Tm,Tm,eC,decide_eq_true h];rfl
   rw [this]
  ·rw [if_neg h]
   have:Tm (l :: P)=true:=by rw [Tm,eC,decide_eq_false h];rfl
   rw [this];rfl
theorem Zwb (P:List R2) (kk:Option Int):∀ l:List Int,Za3 P kk l=if (l.all fun p=>decide (0≤p∧p<(P.length:Int)))=true then kk else some 3
 | []=>by rw [Za3.eq_1];rfl
 | x :: l=>by
  rw [Za3.eq_2,Zwb P kk l,Zhh,Zhh,dQ]
  by_cases h1:x<0
  ·rw [if_pos (by simpa using h1),if_pos rfl,decide_eq_false (by omega),Bool.false_and,if_neg (by decide)]
  ·rw [if_neg (by simpa using h1)]
   by_cases h2:(P.length:Int)≤x
   ·rw [if_pos (by simpa using h2),decide_eq_false (by omega),Bool.false_and,if_neg (by decide)]
   ·rw [if_neg (by simpa using h2),decide_eq_true (by omega),Bool.true_and]
theorem Zv8 (P:List R2):∀ Q:List R2,Za1 P Q=if U6 P.length Q=true then Za2 P else some 3
 | []=>by rw [Za1.eq_1];rfl
 | l :: Q=>by
  rw [Za1.eq_2,Zwb,Zv8 P Q]
  by_cases h:(l.all fun p=>decide (0≤p∧p<(P.length:Int)))=true
  ·rw [if_pos h]
   have:U6 P.length (l :: Q)=U6 P.length Q:=by rw [U6,U6,dQ,h,Bool.true_and]
   rw [this]
  ·rw [if_neg h]
   have:U6 P.length (l :: Q)=false:=by rw [U6,dQ,Bool.eq_false_iff.2 h,Bool.false_and]
   rw [this,if_neg (by decide)]
theorem Z7g (P:List R2):Zhg P=if U6 P.length P=true then (if Tm P=true then some 40 else some 0) else some 3:=by
 rw [Zhg,Zv8,Zv9]
structure Zjs (P:List R2):Prop where
 n:P.length≤1048575
 t:T5 P≤1048576
theorem Zjs.ls {P:List R2} (h:Zjs P):∀ x ∈ P,x.length≤1048576:=fun x a=>aU (Zpg a) h.t
theorem Zwz {P:List R2} {n:Nat} (h:U6 n P=true):∀ l ∈ P,Zmf n l:=by
 intro l a x b
 rw [U6,cV] at h
 have:=cV.1 (h l a) x b
 simpa using this
inductive Zmh (N:Nat) (P:List R2):Prop
 | err (e:Int) (D:Zbz N P=some ([],e)) (R:Zac N P=some e) (ne:e=3∨e=40):Zmh N P
 | cyc (I:U6 P.length P=true) (T:Tm P=false) (l:List Int) (o:Sy N P=some l) (ok:Td P l) (mx:Vp P l 0=none) (lt:l.length<P.length) (D:Zbz N P=some ([],42)) (R:Zac N P=some 42):Zmh N P
 | ord (I:U6 P.length P=true) (T:Tm P=false) (l:List Int) (o:Sy N P=some l) (ok:Td P l) (mx:Vp P l 0=none) (eq:l.length=P.length) (D:Zbz N P=some (l,0)) (R:Zac N P=some 0):Zmh N P
theorem Z1i {N:Nat} {P:List R2} (h:Zjs P) (hN:2000000<N):Zmh N P:=by
 have v:=h.n
 have w:=h.t
 have k:=h.ls
 have c:∀ x ∈ P,x.length≤1048576:=fun x p=>by have:=k x p;omega
 have a:Zbz N P=(Zhg P).bind fun r_1=>if (!decide (r_1=0))=true then (some (([]:List Int),r_1)) else ((Zhf P).bind fun f=>(Zhl N P f).bind fun g=>if (decide ((g.length:Int)<(P.length:Int)))=true then (some (([]:List Int),42)) else (some (g,0))):=by rw [Zbz]
 have b:Zac N P=(Ziy N P).bind fun r_1=>if (!r_1)=true then (some 3) else ((Zi2 N P).bind fun f=>if f=true then (some 40) else ((Sy N P).bind fun m=>if (decide ((m.length:Int)<(P.length:Int)))=true then (some 42) else (some 0))):=by rw [Zac]
 rw [Z7g] at a
 rw [Z7t (by omega) c (by omega),oB] at b
 by_cases hI:U6 P.length P=true
 ·rw [hI,if_neg (by decide),Xbm (by omega) c (by omega),oB] at b
  rw [if_pos hI] at a
  by_cases d:Tm P=true
  ·rw [if_pos d] at a b
   exact .err 40 (by rw [a];rfl) b (.inr rfl)
  ·rw [if_neg d] at a b
   obtain ⟨l,i,j,o⟩:=Z84 (N:=N) (P:=P) (by omega) c (by omega)
   obtain ⟨D,q,r,s⟩:=Z54 (P:=P) (by omega) (by omega) (Zwz hI)
   rw [i,oB] at b
   rw [oB,if_neg (by decide),q,oB,Xat (by omega) c (by omega) hN r s,i,oB] at a
   have d:=Bool.eq_false_iff.2 d
   have u:=j.len
   by_cases hlt:l.length<P.length
   ·rw [if_pos (dT (by omega))] at b a
    exact .cyc hI d l i j o hlt a b
   ·rw [if_neg (by rw [decide_eq_true_eq];omega)] at b a
    exact .ord hI d l i j o (by omega) a b
 ·rw [Bool.eq_false_iff.2 hI,if_pos (by decide)] at b
  rw [if_neg hI] at a
  exact .err 3 (by rw [a];rfl) b (.inl rfl)
def Zin (ab:List Int) (aa:Int) (kk_L1:(Int→Option R2)) (ac:Bool):Option R2:=
  if ac=true then (kk_L1 (i64.wrap (aa - 1))) else (Z4 ((0:Int)≤aa∧aa≤(ab.length:Int)) (Z4 ((([]:List Int).length+(ab.take (aA aa)).length) * 4≤140737488355328∧([]:List Int).length+(ab.take (aA aa)).length≤maxLen) (some (([]:List Int)++(ab.take (aA aa))))))
def Zcj (N:Nat) (aa:List Int):Nat→Int→Option R2
  | 0,_=>none
  | ac+1,ab=>if (decide (0<ab))=true then ((Zl aa (i64.wrap (ab - 1))).bind fun ad=>Zin aa ab (Zcj N aa ac) (decide (ad=0))) else (Zin aa ab (Zcj N aa ac) false)
termination_by structural x=>x
def Ua (N:Nat) (aa:List Int):Option R2:=
  Zcj N aa N (aa.length:Int)
theorem Tf {N ae:Nat} {a0:Option Addr} {col:Zd} {w0:World} {ab r:R2} (c1:Nat) (hm:Ua N ab=some r) (h0:Sl rU col w0 a0 ae ab):
    Calls prog 175 #[.slice a0 ab.length ae] w0 (fun e w'=>∃ (col':Zd) (ra1:Option Addr) (rc2:Nat),e= .returned ((.slice ra1 r.length rc2))∧Zf col w0 col' w'∧Zb rU 95 c1 col' w' ra1 rc2 r):=by
 refine Xe 2 (m:=24) func175 rfl rfl rfl rfl rfl ?_;rw [Ua.eq_1] at hm;have aa:=St.start col w0;refine go ?_;refine Zv [0,1000000] (fun n f aj=>∃ ak ac ad,ad=n∧Zcj N ab ad ac=some r∧St w0 (Zj col) ak aj∧[3].map f=[.int .i64 ac]) N ⟨_,_,_,rfl,hm,aa,rfl⟩ ?_;clear hm;intro n f aj hI;obtain ⟨ak,ac,ad,hn,hm,aa,hs⟩:=hI;subst hn;refine .lL [3] hs ?_;replace h0:=h0.k0
 cases ad with
 | zero=>rw [Zcj.eq_1] at hm;cases hm
 | succ ad=>
  rw [Zcj.eq_2] at hm;refine Zz<|Zz ?_;refine Wp.cutK [0,3,1000000] (fun f al=>∃ am af,Zin ab ac (Zcj N ab ad) af=some r∧St w0 (Zj col) am al∧[16].map f=[.bool af]) ?_ ?_
  ·intro f al hJ;obtain ⟨am,af,hm,aa,hs⟩:=hJ;rw [Zin.eq_1] at hm;refine .lL [16] hs ?_;refine Zo hm (fun hb hm=>go ?_) fun hb hm=>go ?_
   ·exact ⟨ad,by omega,rfl,⟨_,_,_,rfl,hm,aa,rfl⟩⟩
   obtain ⟨ag,hm⟩:=Z9 hm;refine lv (v:=.slice a0 (aA ac) ae) rfl rfl (Zjm underlying35 sizeOf95 rfl rfl ag.1 (by have:=(h0.ks aa).1.2;have:=ag.2;omega))<|.ld (d:=22) (v:=(.slice a0 ((ab.take (aA ac)).length) ae)) (congrArg (fun n=>Value.slice a0 n ae) (eR (show (aA ac)≤ab.length by have:=ag.2;omega)).symm) ?_;obtain ⟨an,hm⟩:=Z9 hm;refine Vy (c:=1) Zb.nil ((h0.ks aa).take (aA ac)).srcC an ?_;intro ar au av aw ao ap;refine go ?_;cases hm;replace aa:=aa.kpp ao;exact ⟨rfl,_,_,_,rfl,aa.fin (cm [(1,c1)]),aa.fo ap⟩
  refine go ?_;refine Yr hm (fun ah hm=>go ?_) fun ah hm=>go ?_
  ·obtain ⟨aq,ai,hm⟩:=bZ hm;refine lI ai ((h0.ks aa).addr ai) ?_;refine go ?_;refine lW ((h0.ks aa).atInt ai)<|go ?_;refine lV (.bool (decide (aq=0))) (Ye (congrArg Value.bool ah) rfl)<|Zk ?_;exact ⟨rfl,_,_,hm,aa,rfl⟩
  refine lV (.bool false) (Yd (congrArg Value.bool ah) rfl)<|Zk ?_;exact ⟨rfl,_,_,hm,aa,rfl⟩
def Zfm (N:Nat):Nat→Int→Int→Option Int
  | 0,_,_=>none
  | ac+1,aa,ab=>if (decide (0<ab))=true then ((Zfm N ac) (i64.wrap (aa+1)) (u32.wrap (aZ ab 2))) else (some aa)
termination_by structural x=>x
def Zk8 (N:Nat) (ab:List Int):Option Int:=
  (Ua N ab).bind fun aa=>if (decide ((aa.length:Int)=0))=true then (some 0) else ((Zl aa (i64.wrap ((aa.length:Int) - 1))).bind fun ac=>Zfm N N (i64.wrap (32 * (i64.wrap ((aa.length:Int) - 1)))) ac)
theorem Z43 {N ag:Nat} {a0:Option Addr} {col:Zd} {w0:World} {ad:R2} {r:Int} (hm:Zk8 N ad=some r) (h0:Sl rU col w0 a0 ag ad):
    Calls prog 211 #[.slice a0 ad.length ag] w0 (fun e w'=>e= .returned ((.int .i64 r))∧Below w0.heap.size w0 w'):=by
 refine Xe 2 (m:=28) func211 rfl rfl rfl rfl rfl ?_;rw [Zk8.eq_1] at hm;have aa:=St.start col w0;refine go ?_;obtain ⟨am,ak,hm⟩:=bZ hm;refine Zi (Tf 1 ak (h0.k0.ks aa)) ?_;rintro _ an ⟨ao,ap,aq,rfl,al,ah⟩;refine ⟨_,rfl,go ?_⟩;replace aa:=aa.grow al;refine Zo hm (fun hb hm=>go ?_) fun hb hm=>go ?_
 ·cases hm;exact ⟨rfl,rfl,aa.below⟩
 obtain ⟨ar,ae,hm⟩:=bZ hm;refine lI ae (ah.addr ae)<|lW (ah.atInt ae) ?_;refine go ?_;refine Zv [1000000] (fun n f ai=>∃ aj af ac ab,ab=n∧Zfm N ab af ac=some r∧St w0 (Zj col) aj ai∧[4,5].map f=[.int .i64 af,.int .u32 ac]) N ⟨_,_,_,_,rfl,hm,aa,rfl⟩ ?_;clear hm;intro n f ai hI;obtain ⟨aj,af,ac,ab,hn,hm,aa,hs⟩:=hI;subst hn;refine .lL [4,5] hs ?_
 cases ab with
 | zero=>rw [Zfm.eq_1] at hm;cases hm
 | succ ab=>
  rw [Zfm.eq_2] at hm;refine go ?_;refine Zo hm (fun hb hm=>go ?_) fun hb hm=>go ?_
  ·refine lV (.int .u32 (u32.wrap (aZ ac 2))) (Uc ac 2 rfl rfl (by decide))<|go ?_;exact ⟨ab,by omega,rfl,⟨_,_,_,_,rfl,hm,aa,rfl⟩⟩
  cases hm;exact ⟨rfl,rfl,aa.below⟩
def Zab (aa:List Int) (ab:Int):Option Int:=
  if (decide (ab<(aa.length:Int)))=true then ((Zl aa ab).bind fun ac=>some (u64.wrap ac)) else (some 0)
theorem Zej {ad:Nat} {a0:Option Addr} {col:Zd} {w0:World} {ab:R2} {ae r:Int} (hm:Zab ab ae=some r) (h0:Sl rU col w0 a0 ad ab):
    Calls prog 213 #[.slice a0 ab.length ad,.int .i64 ae] w0 (fun e w'=>e= .returned ((.int .u64 r))∧Below w0.heap.size w0 w'):=by
 refine Xe 4 (m:=14) func213 rfl rfl rfl rfl rfl ?_;rw [Zab.eq_1] at hm;have aa:=St.start col w0;refine go ?_;replace h0:=h0.k0;refine Zo hm (fun hb hm=>go ?_) fun hb hm=>go ?_
 ·obtain ⟨af,ac,hm⟩:=bZ hm;refine lI ac ((h0.ks aa).addr ac)<|lW ((h0.ks aa).atInt ac) ?_;refine go ?_;cases hm;exact ⟨rfl,rfl,aa.below⟩
 cases hm;exact ⟨rfl,rfl,aa.below⟩
def Zk7 (ab:List Int) (aa:Int):Option Int:=
  (Zab ab (i64.wrap (aZ aa 32))).bind fun ac=>Z4 (0≤(bM aa 32)) (some (bM (u32.wrap (Y1 .u64 ac (bM aa 32))) 2))
theorem Z42 {af:Nat} {a0:Option Addr} {col:Zd} {w0:World} {ad:R2} {aa r:Int} (hm:Zk7 ad aa=some r) (h0:Sl rU col w0 a0 af ad):
    Calls prog 212 #[.slice a0 ad.length af,.int .i64 aa] w0 (fun e w'=>e= .returned ((.int .u32 r))∧Below w0.heap.size w0 w'):=by
 refine Xe 4 (m:=14) func212 rfl rfl rfl rfl rfl ?_;rw [Zk7.eq_1] at hm;have ab:=St.start col w0;refine go ?_;refine lV (.int .i64 (i64.wrap (aZ aa 32))) (Uc aa 32 rfl rfl (by decide)) ?_;obtain ⟨ac,ag,hm⟩:=bZ hm;refine Zi (Zej ag (h0.k0.ks ab)) ?_;rintro _ ah ⟨rfl,ae⟩;refine ⟨_,rfl,?_⟩;replace ae:Zf (Zj col) w0 (Zj col) ah:=.of_below ae;refine X4 rfl<|lV (.int .i64 (bM aa 32)) (Qv aa 32 rfl rfl (by decide)) ?_;obtain ⟨ai,hm⟩:=Z9 hm;refine lV (.int .u64 (Y1 .u64 ac (bM aa 32))) (Qw ac (bM aa 32) rfl rfl ai)<|go ?_;refine lV (.int .u32 (bM (u32.wrap (Y1 .u64 ac (bM aa 32))) 2)) (Qv (u32.wrap (Y1 .u64 ac (bM aa 32))) 2 rfl rfl (by decide))<|go ?_;cases hm;exact ⟨rfl,rfl,(ab.grow ae).below⟩
def Zir (aa:List Int):Option R2:=
  some aa
def Zft (N:Nat) (ad:List Int):Nat→R2→Int→Int→Option R2
  | 0,_,_,_=>none
  | af+1,ab,aa,ae=>if (decide (ae<(ad.length:Int)))=true then ((Zl ad ae).bind fun ac=>Z4 ((ab.length+[u32.wrap (bM (u64.wrap (aa+(u64.wrap (2 * (u64.wrap ac))))) 4294967296)].length) * 4≤140737488355328∧ab.length+[u32.wrap (bM (u64.wrap (aa+(u64.wrap (2 * (u64.wrap ac))))) 4294967296)].length≤maxLen) ((Zft N ad af) (ab++[u32.wrap (bM (u64.wrap (aa+(u64.wrap (2 * (u64.wrap ac))))) 4294967296)]) (u64.wrap (aZ (u64.wrap (aa+(u64.wrap (2 * (u64.wrap ac))))) 4294967296)) (i64.wrap (ae+1)))) else (if (decide (0<aa))=true then (Z4 ((ab.length+[u32.wrap aa].length) * 4≤140737488355328∧ab.length+[u32.wrap aa].length≤maxLen) (Zir (ab++[u32.wrap aa]))) else (Zir ab))
termination_by structural x=>x
def Ziq (N:Nat) (aa:List Int) (ab:Int):Option R2:=
  Zft N aa N ([]:List Int) (u64.wrap ab) 0
theorem Zur {N au:Nat} {a0:Option Addr} {col:Zd} {w0:World} {ag:R2} {av:Int} {r:R2} (c1:Nat) (hm:Ziq N ag av=some r) (h0:Sl rU col w0 a0 au ag):
    Calls prog 210 #[.slice a0 ag.length au,.int .u32 av] w0 (fun e w'=>∃ (col':Zd) (ra1:Option Addr) (rc2:Nat),e= .returned ((.slice ra1 r.length rc2))∧Zf col w0 col' w'∧Zb rU 95 c1 col' w' ra1 rc2 r):=by
 refine Xe 4 (m:=40) func210 rfl rfl rfl rfl rfl ?_;rw [Ziq.eq_1] at hm;have aa:=St.start col w0;refine go ?_;refine Zv [0,1000000] (fun n f aj=>∃ ae ak al ah ab am ad,ad=n∧Zft N ag ad ah ab am=some r∧St w0 (Zj col) ae aj∧Zb rU 95 1 ae aj ak al ah∧[5,6,7].map f=[.slice ak ah.length al,.int .u64 ab,.int .i64 am]) N ⟨_,none,0,_,_,0,_,rfl,hm,aa,Zb.nil,rfl⟩ ?_;clear hm;intro n f aj hI;obtain ⟨ae,ak,al,ah,ab,am,ad,hn,hm,aa,ac,hs⟩:=hI;subst hn;refine .lL [5,6,7] hs ?_;replace h0:=h0.k0
 cases ad with
 | zero=>rw [Zft.eq_1] at hm;cases hm
 | succ ad=>
  rw [Zft.eq_2] at hm;refine go ?_;refine Zo hm (fun hb hm=>go ?_) fun hb hm=>?_
  ·obtain ⟨af,an,hm⟩:=bZ hm;refine lI an ((h0.ks aa).addr an)<|lW ((h0.ks aa).atInt an) ?_;refine go ?_;refine lV (.int .u64 (bM (u64.wrap (ab+(u64.wrap (2 * (u64.wrap af))))) 4294967296)) (Qv (u64.wrap (ab+(u64.wrap (2 * (u64.wrap af))))) 4294967296 rfl rfl (by decide))<|go ?_;refine Vz (col:=ae) [u32.wrap (bM (u64.wrap (ab+(u64.wrap (2 * (u64.wrap af))))) 4294967296)] 2 ?_;intro a8 a9 ba aw ay;obtain ⟨az,hm⟩:=Z9 hm;replace ac:=ac.gr aw;refine Vy ac (ay.srcN (NB.int (k:=.u32))) az ?_;intro bb bc bd be a1 a2;refine go ?_;refine lV (.int .u64 (u64.wrap (aZ (u64.wrap (ab+(u64.wrap (2 * (u64.wrap af))))) 4294967296))) (Uc (u64.wrap (ab+(u64.wrap (2 * (u64.wrap af))))) 4294967296 rfl rfl (by decide))<|go ?_;replace aa:=(aa.grow aw).kpp a1;exact ⟨ad,by omega,rfl,⟨_,_,_,_,_,_,_,rfl,hm,aa,a2,rfl⟩⟩
  refine Zpl (Zne ?_);refine Zz ?_;refine Wp.cutK [1000000] (fun f ao=>∃ ap aq ar ai,Zir ai=some r∧St w0 (Zj col) ap ao∧Zb rU 95 1 ap ao aq ar ai∧[5].map f=[.slice aq ai.length ar]) ?_ ?_
  ·intro f ao hJ;obtain ⟨ap,aq,ar,ai,hm,aa,a3,hs⟩:=hJ;rw [Zir.eq_1] at hm;refine .lL [5] hs<|go ?_;cases hm;exact ⟨rfl,_,_,_,rfl,aa.fin (cm [(1,c1)]),aa.fo a3⟩
  refine go ?_;refine Zo hm (fun hb hm=>go ?_) fun hb hm=>?_
  ·refine Vz (col:=ae) [u32.wrap ab] 3 ?_;intro bf bg bh ax a4;obtain ⟨a5,hm⟩:=Z9 hm;replace ac:=ac.gr ax;refine Vy ac (a4.srcN (NB.int (k:=.u32))) a5 ?_;intro bi bj bk bm a6 a7;refine go ?_;replace aa:=(aa.grow ax).kpp a6;exact ⟨rfl,_,_,_,_,hm,aa,a7,rfl⟩
  refine Yj ?_;exact ⟨rfl,_,_,_,_,hm,aa,ac,rfl⟩
def Zfo (N:Nat) (ab:List Int) (ac:List Int):Nat→Int→Option Int
  | 0,_=>none
  | af+1,aa=>if (decide (0≤aa))=true then ((Zab ab aa).bind fun ad=>(Zab ac aa).bind fun ae=>if (decide (ad<ae))=true then (some (-1)) else (if (decide (ae<ad))=true then (some 1) else ((Zfo N ab ac af) (i64.wrap (aa - 1))))) else (some 0)
termination_by structural x=>x
def Zii (N:Nat) (aa:List Int) (ab:List Int) (ac:Int):Option Int:=
  Zfo N aa ab N (i64.wrap (ac - 1))
def Zfn (N:Nat) (aa:List Int) (ab:List Int):Option Int:=
  if (decide ((aa.length:Int)<(ab.length:Int)))=true then (Zii N aa ab (ab.length:Int)) else (Zii N aa ab (aa.length:Int))
theorem Zp9 {N ak al:Nat} {a0 a1:Option Addr} {col:Zd} {w0:World} {ad ae:R2} {r:Int} (hm:Zfn N ad ae=some r) (h0:Sl rU col w0 a0 ak ad) (h1:Sl rU col w0 a1 al ae):
    Calls prog 209 #[.slice a0 ad.length ak,.slice a1 ae.length al] w0 (fun e w'=>e= .returned ((.int .i64 r))∧Below w0.heap.size w0 w'):=by
 refine Xe 4 (m:=35) func209 rfl rfl rfl rfl rfl ?_;rw [Zfn.eq_1] at hm;have aa:=St.start col w0;refine Zz<|Ve<|Y6 rfl<|Zk<|Zz<|Ve<|Y2 rfl<|lV _ (Qu underlying35 rfl)<|Y6 rfl<|Zk<|Zz ?_;refine Wp.cutK [0,1,1000000] (fun f am=>∃ an af,Zii N ad ae af=some r∧St w0 (Zj col) an am∧[5].map f=[.int .i64 af]) ?_ ?_
 ·intro f am hJ;obtain ⟨an,af,hm,aa,hs⟩:=hJ;rw [Zii.eq_1] at hm;refine .lL [5] hs<|go ?_;refine Zv [0,1,1000000] (fun n f ag=>∃ ab ah ac,ac=n∧Zfo N ad ae ac ah=some r∧St w0 (Zj col) ab ag∧[6].map f=[.int .i64 ah]) N ⟨_,_,_,rfl,hm,aa,rfl⟩ ?_;clear hm;intro n f ag hI;obtain ⟨ab,ah,ac,hn,hm,aa,hs⟩:=hI;subst hn;refine .lL [6] hs ?_
  cases ac with
  | zero=>rw [Zfo.eq_1] at hm;cases hm
  | succ ac=>
   rw [Zfo.eq_2] at hm;refine go ?_;refine Zo hm (fun hb hm=>go ?_) fun hb hm=>go ?_
   ·obtain ⟨au,ap,hm⟩:=bZ hm;refine Zi (Zej ap (h0.k0.ks aa)) ?_;rintro _ ao ⟨rfl,ai⟩;refine ⟨_,rfl,?_⟩;replace ai:Zf ab ag ab ao:=.of_below ai;refine go ?_;obtain ⟨av,aq,hm⟩:=bZ hm;replace aa:=aa.grow ai;refine Zi (Zej aq (h1.k0.ks aa)) ?_;rintro _ ar ⟨rfl,aj⟩;refine ⟨_,rfl,?_⟩;replace aj:Zf ab ao ab ar:=.of_below aj;refine go ?_;replace aa:=aa.grow aj;refine Zo hm (fun hb hm=>go ?_) fun hb hm=>go ?_
    ·cases hm;exact ⟨rfl,rfl,aa.below⟩
    refine Zo hm (fun hb hm=>go ?_) fun hb hm=>go ?_
    ·cases hm;exact ⟨rfl,rfl,aa.below⟩
    exact ⟨ac,by omega,rfl,⟨_,_,_,rfl,hm,aa,rfl⟩⟩
   cases hm;exact ⟨rfl,rfl,aa.below⟩
 refine go ?_;refine Zo hm (fun hb hm=>go ?_) fun hb hm=>?_
 ·exact ⟨rfl,_,_,hm,aa,rfl⟩
 refine Yj ?_;exact ⟨rfl,_,_,hm,aa,rfl⟩
def Znx (aa:Int) (kk_L1:(List Int→Int→Int→Option Re)) (ab:List Int) (ac:Int):Option Re:=
  kk_L1 ab ac (i64.wrap (aa+1))
def Zip (aa:List Int) (ab:Int) (ae:Int) (kk_L1:(List Int→Int→Int→Option Re)) (ac:Int) (af:Int) (ad:Int):Option Re:=
  Z4 ((aa.length+[u32.wrap (u64.wrap (ad - (u64.wrap (ac+ab))))].length) * 4≤140737488355328∧aa.length+[u32.wrap (u64.wrap (ad - (u64.wrap (ac+ab))))].length≤maxLen) (Znx ae kk_L1 (aa++[u32.wrap (u64.wrap (ad - (u64.wrap (ac+ab))))]) af)
def Zaa (N:Nat) (ab:List Int) (ac:List Int):Nat→R2→Int→Int→Option Re
  | 0,_,_,_=>none
  | ah+1,ad,ae,aa=>if (decide (aa<(ab.length:Int)))=true then ((Zab ab aa).bind fun af=>(Zab ac aa).bind fun ag=>if (decide (af<(u64.wrap (ag+ae))))=true then (Zip ad ae aa (Zaa N ab ac ah) ag 1 (u64.wrap (af+4294967296))) else (Zip ad ae aa (Zaa N ab ac ah) ag 0 af)) else ((Ua N ad).bind fun ai=>some (ai,true))
termination_by structural x=>x
def Zdw (N:Nat) (aa:List Int) (ab:List Int):Option Re:=
  (Zfn N aa ab).bind fun ac=>if (decide (ac<0))=true then (some (([]:List Int),false)) else (Zaa N aa ab N ([]:List Int) 0 0)
theorem Zmw {N au av:Nat} {a0 a1:Option Addr} {col:Zd} {w0:World} {ae af:R2} {r:Re} (c1:Nat) (hm:Zdw N ae af=some r) (h0:Sl rU col w0 a0 au ae) (h1:Sl rU col w0 a1 av af):
    Calls prog 181 #[.slice a0 ae.length au,.slice a1 af.length av] w0 (fun e w'=>∃ (col':Zd) (ra1:Option Addr) (rc2:Nat),e= .returned (.tuple #[.slice ra1 r.1.length rc2,.bool r.2])∧Zf col w0 col' w'∧Zb rU 95 c1 col' w' ra1 rc2 r.1):=by
 refine Zj0 4 5 (m:=43) (args:=[.slice a0 ae.length au,.slice a1 af.length av]) func181 rfl rfl rfl rfl rfl ?_;rw [Zdw.eq_1] at hm;have aa:=St.start col w0;refine go ?_;obtain ⟨bn,ba,hm⟩:=bZ hm;replace h0:=h0.k0;replace h1:=h1.k0;refine Zi (Zp9 ba (h0.ks aa) (h1.ks aa)) ?_;rintro _ bb ⟨rfl,aw⟩;refine ⟨_,rfl,?_⟩;replace aw:Zf (Zj col) w0 (Zj col) bb:=.of_below aw;refine go ?_;replace aa:=aa.grow aw;refine Zo hm (fun hb hm=>go ?_) fun hb hm=>go ?_
 ·cases hm;exact ⟨rfl,_,none,0,rfl,aa.fin (cm []),Zb.nil⟩
 refine Zv [0,1,1000000] (fun n f ah=>∃ ab ak al ag ai aj ad,ad=n∧Zaa N ae af ad ag ai aj=some r∧St w0 (Zj col) ab ah∧Zb rU 95 1 ab ah ak al ag∧[6,7,8].map f=[.slice ak ag.length al,.int .u64 ai,.int .i64 aj]) N ⟨_,none,0,_,0,0,_,rfl,hm,aa,Zb.nil,rfl⟩ ?_;clear hm;intro n f ah hI;obtain ⟨ab,ak,al,ag,ai,aj,ad,hn,hm,aa,ac,hs⟩:=hI;subst hn;refine .lL [6,7,8] hs ?_
 cases ad with
 | zero=>rw [Zaa.eq_1] at hm;cases hm
 | succ ad=>
  rw [Zaa.eq_2] at hm;refine go ?_;refine Zo hm (fun hb hm=>?_) fun hb hm=>go ?_
  ·refine Yj<|Zz ?_;refine Wp.cutK [0,1,8,1000000] (fun f ax=>∃ ay az a2 am a3,Znx aj (Zaa N ae af ad) am a3=some r∧St w0 (Zj col) ay ax∧Zb rU 95 1 ay ax az a2 am∧[6,7].map f=[.slice az am.length a2,.int .u64 a3]) ?_ ?_
   ·intro f ax hJ;obtain ⟨ay,az,a2,am,a3,hm,aa,bc,hs⟩:=hJ;rw [Znx.eq_1] at hm;refine .lL [6,7] hs<|go ?_;exact ⟨ad,by omega,rfl,⟨_,_,_,_,_,_,_,rfl,hm,aa,bc,rfl⟩⟩
   refine go ?_;obtain ⟨bo,bd,hm⟩:=bZ hm;refine Zi (Zej bd (h0.ks aa)) ?_;rintro _ a7 ⟨rfl,an⟩;refine ⟨_,rfl,?_⟩;replace an:Zf ab ah ab a7:=.of_below an;refine go ?_;obtain ⟨a8,be,hm⟩:=bZ hm;replace aa:=aa.grow an;refine Zi (Zej be (h1.ks aa)) ?_;rintro _ bf ⟨rfl,ao⟩;refine ⟨_,rfl,?_⟩;replace ao:Zf ab a7 ab bf:=.of_below ao;refine X4 rfl<|lV _ (Qt _ _ rfl rfl)<|Y6 rfl<|Zk<|Zz<|Ve<|Y6 rfl<|Zk<|Zz ?_;replace ac:=(ac.gr an).gr ao;replace aa:=aa.grow ao;refine Wp.cutK [0,1,10,6,8,1000000] (fun f a4=>∃ ap a5 aq,Zip ag ai aj (Zaa N ae af ad) a8 a5 aq=some r∧St w0 (Zj col) ap a4∧Zb rU 95 1 ap a4 ak al ag∧[7,9].map f=[.int .u64 a5,.int .u64 aq]) ?_ ?_
   ·intro f a4 hJ;obtain ⟨ap,a5,aq,hm,aa,ac,hs⟩:=hJ;rw [Zip.eq_1] at hm;refine .lL [7,9] hs<|go ?_;refine Vz (col:=ap) [u32.wrap (u64.wrap (aq - (u64.wrap (a8+ai))))] 2 ?_;intro bp bq br a9 bg;obtain ⟨bh,hm⟩:=Z9 hm;replace ac:=ac.gr a9;refine Vy ac (bg.srcN (NB.int (k:=.u32))) bh ?_;intro bs bt bu bv bi bj;refine go ?_;replace aa:=(aa.grow a9).kpp bi;exact ⟨rfl,_,_,_,_,_,hm,aa,bj,rfl⟩
   refine go ?_;refine Zo hm (fun hb hm=>go ?_) fun hb hm=>?_
   ·exact ⟨rfl,_,1,_,hm,aa,ac,rfl⟩
   refine Yj ?_;exact ⟨rfl,_,0,_,hm,aa,ac,rfl⟩
  obtain ⟨bw,bk,hm⟩:=bZ hm;refine Zi (Tf 3 bk (ac.toSlF (Zh.int .u32))) ?_;rintro _ bx ⟨bm,bz,b0,rfl,ar,a6⟩;refine ⟨_,rfl,?_⟩;replace a6:=a6.thaw (Z1 .u32) ar ((Fz.refl (col:=ab)).froz 1);replace ar:=ar.thawR (col:=ab);generalize Xc ah.heap.size ab bm=b1 at *;refine go ?_;cases hm;replace aa:=aa.grow ar;exact ⟨rfl,_,_,_,rfl,aa.fin (cm [(3,c1)]),aa.fo a6⟩
def Zik (aa:Int) (kk_L1:(List Int→Int→R2→Option Ra)) (ab:List Int) (ac:List Int):Option Ra:=
  kk_L1 ab (i64.wrap (aa - 1)) ac
def Zcg (N:Nat) (ad:List Int) (ab:List Int):Nat→R2→Int→R2→Option Ra
  | 0,_,_,_=>none
  | af+1,ag,aa,ac=>if (decide (0≤aa))=true then ((Zk7 ad aa).bind fun ah=>(Ziq N ag ah).bind fun ai=>(Ua N ai).bind fun ae=>(Zfn N ae ab).bind fun aj=>if (decide (0≤aj))=true then ((Zdw N ae ab).bind fun ak=>(Zl ac (i64.wrap (aZ aa 32))).bind fun al=>Z4 (0≤(bM aa 32)) ((some (ac.set (aA (i64.wrap (aZ aa 32))) (u32.wrap (al+(Yc .u32 1 (bM aa 32)))))).bind fun am=>Zik aa (Zcg N ad ab af) ak.1 am)) else (Zik aa (Zcg N ad ab af) ae ac)) else ((Ua N ac).bind fun an=>some (an,ag,0))
termination_by structural x=>x
def Zij (N:Nat) (ab:List Int) (ad:List Int):Option Ra:=
  (Ua N ad).bind fun ac=>if (decide ((ac.length:Int)=0))=true then (some (([]:List Int),([]:List Int),11)) else ((Zk8 N ab).bind fun aa=>Z4 ((aA (i64.wrap (aZ (i64.wrap (aa+31)) 32))) * 4≤281474976710656∧(aA (i64.wrap (aZ (i64.wrap (aa+31)) 32)))≤maxLen∧0≤(i64.wrap (aZ (i64.wrap (aa+31)) 32))) (Zcg N ab ac N ([]:List Int) (i64.wrap (aa - 1)) (aM (aA (i64.wrap (aZ (i64.wrap (aa+31)) 32))) (0:Int))))
theorem Zuo {N bd be:Nat} {a0 a1:Option Addr} {col:Zd} {w0:World} {ak a4:R2} {r:Ra} (c1 c2:Nat) (hm:Zij N ak a4=some r) (h0:Sl rU col w0 a0 bd ak) (h1:Sl rU col w0 a1 be a4):
    Calls prog 178 #[.slice a0 ak.length bd,.slice a1 a4.length be] w0 (fun e w'=>∃ (col':Zd) (ra1:Option Addr) (rc2:Nat) (ra4:Option Addr) (rc5:Nat),e= .returned (.tuple #[.slice ra1 r.1.length rc2,.slice ra4 r.2.1.length rc5,.int .i64 r.2.2])∧Zf col w0 col' w'∧Zb rU 95 c1 col' w' ra1 rc2 r.1∧Zb rU 95 c2 col' w' ra4 rc5 r.2.1):=by
 refine Zu3 4 5 6 (m:=61) (args:=[.slice a0 ak.length bd,.slice a1 a4.length be]) func178 rfl rfl rfl rfl rfl ?_;rw [Zij.eq_1] at hm;have aa:=St.start col w0;refine go ?_;obtain ⟨a5,b3,hm⟩:=bZ hm;refine Zi (Tf 1 b3 (h1.k0.ks aa)) ?_;rintro _ b4 ⟨bf,bt,bu,rfl,b5,ab⟩;refine ⟨_,rfl,go ?_⟩;replace h0:=h0.k0;replace aa:=aa.grow b5;refine Zo hm (fun hb hm=>go ?_) fun hb hm=>go ?_
 ·cases hm;exact ⟨rfl,_,none,0,none,0,rfl,aa.fin (cm []),Zb.nil,Zb.nil⟩
 obtain ⟨bg,b6,hm⟩:=bZ hm;refine Zi (Z43 b6 (h0.ks aa)) ?_;rintro _ bv ⟨rfl,a6⟩;refine ⟨_,rfl,?_⟩;replace a6:Zf bf b4 bf bv:=.of_below a6;refine go ?_;refine lV (.int .i64 (i64.wrap (aZ (i64.wrap (bg+31)) 32))) (Uc (i64.wrap (bg+31)) 32 rfl rfl (by decide)) ?_;obtain ⟨a7,hm⟩:=Z9 hm;refine Sq (col:=bf) (w:=bv) (r:=rU) (n:=(aA (i64.wrap (aZ (i64.wrap (bg+31)) 32)))) (x0:=0) 2 rfl underlying35 Tryz.t95 rfl rfl rfl rfl rfl (congrArg (Value.int _) (bL a7.2.2).symm) (congrArg (Value.int _) (bL a7.2.2).symm) a7.1 a7.2.1 (Zaj .u32 0) ?_;intro cp cq cr bw b7;refine go ?_;replace ab:=(ab.gr a6).gr bw;replace aa:=(aa.grow a6).grow bw;refine Zv [0,7,1000000] (fun n f ai=>∃ ae bh bi a8 ac av aw al aj,aj=n∧Zcg N ak a5 aj a8 ac al=some r∧St w0 (Zj col) ae ai∧Zb rU 95 3 ae ai bh bi a8∧Zb rU 95 1 ae ai bt bu a5∧Zb rU 95 2 ae ai av aw al∧[10,11,9].map f=[.slice bh a8.length bi,.int .i64 ac,.slice av al.length aw]) N ⟨_,none,0,_,_,_,_,_,_,rfl,hm,aa,Zb.nil,ab,b7,rfl⟩ ?_;clear hm;intro n f ai hI;obtain ⟨ae,bh,bi,a8,ac,av,aw,al,aj,hn,hm,aa,am,ab,ad,hs⟩:=hI;subst hn;refine .lL [10,11,9] hs ?_
 cases aj with
 | zero=>rw [Zcg.eq_1] at hm;cases hm
 | succ aj=>
  rw [Zcg.eq_2] at hm;refine go ?_;refine Zo hm (fun hb hm=>?_) fun hb hm=>go ?_
  ·refine Yj<|Zz ?_;refine Wp.cutK [0,11,7,1000000] (fun f ax=>∃ ay bj bk a9 bm bn ba,Zik ac (Zcg N ak a5 aj) a9 ba=some r∧St w0 (Zj col) ay ax∧Zb rU 95 3 ay ax bj bk a9∧Zb rU 95 1 ay ax bt bu a5∧Zb rU 95 2 ay ax bm bn ba∧[10,9].map f=[.slice bj a9.length bk,.slice bm ba.length bn]) ?_ ?_
   ·intro f ax hJ;obtain ⟨ay,bj,bk,a9,bm,bn,ba,hm,aa,b8,ab,b9,hs⟩:=hJ;rw [Zik.eq_1] at hm;refine .lL [10,9] hs<|go ?_;exact ⟨aj,by omega,rfl,⟨_,_,_,_,_,_,_,_,_,rfl,hm,aa,b8,ab,b9,rfl⟩⟩
   refine go ?_;obtain ⟨cs,ca,hm⟩:=bZ hm;refine Zi (Z42 ca (h0.ks aa)) ?_;rintro _ bx ⟨rfl,an⟩;refine ⟨_,rfl,?_⟩;replace an:Zf ae ai ae bx:=.of_below an;obtain ⟨ct,cb,hm⟩:=bZ hm;replace am:=am.gr an;refine Zi (Zur 4 cb (am.toSlF (Zh.int .u32))) ?_;rintro _ cc ⟨cd,cu,cv,rfl,ao,bo⟩;refine ⟨_,rfl,?_⟩;replace bo:=bo.thaw (Z1 .u32) ao ((Fz.refl (col:=ae)).froz 3);replace ao:=ao.thawR (col:=ae);generalize Xc bx.heap.size ae cd=bp at *;obtain ⟨cw,ce,hm⟩:=bZ hm;refine Zi (Tf 5 ce (bo.toSlF (Zh.int .u32))) ?_;rintro _ cf ⟨cg,cx,cy,rfl,ap,af⟩;refine ⟨_,rfl,?_⟩;replace af:=af.thaw (Z1 .u32) ap ((Fz.refl (col:=bp)).froz 4);replace ap:=ap.thawR (col:=bp);generalize Xc cc.heap.size bp cg=az at *;refine go ?_;obtain ⟨cz,ch,hm⟩:=bZ hm;replace ab:=((ab.gr an).gr ao).gr ap;refine Zi (Zp9 ch ((af.toSlF (Zh.int .u32)).froz 1) ((ab.froz 5).toSlF (Zh.int .u32))) ?_;rintro _ bz ⟨rfl,aq⟩;refine ⟨_,rfl,?_⟩;replace aq:Zf az cf az bz:=.of_below aq;refine go ?_;replace ad:=(((ad.gr an).gr ao).gr ap).gr aq;replace aa:=(((aa.grow an).grow ao).grow ap).grow aq;replace ab:=ab.gr aq;replace af:=af.gr aq;refine Zo hm (fun hb hm=>go ?_) fun hb hm=>?_
   ·obtain ⟨bb,ci,hm⟩:=bZ hm;refine Zi (Zmw 6 ci ((af.toSlF (Zh.int .u32)).froz 1) ((ab.froz 5).toSlF (Zh.int .u32))) ?_;rintro _ c0 ⟨cj,b0,b1,rfl,ar,ag⟩;refine ⟨_,rfl,?_⟩;replace ag:=ag.thaw (Z1 .u32) ar (((Fz.refl (col:=az)).froz 5).froz 1);replace ar:=ar.thawR (col:=az);generalize Xc bz.heap.size az cj=a2 at *;refine lM (.tuple #[.slice b0 bb.1.length b1,.bool bb.2])<|lV (.slice b0 bb.1.length b1) (Xo rfl rfl)<|lV (.bool bb.2) (Xo rfl rfl)<|go ?_;refine Y8 (col:=a2) [(0,1),(1,1),(2,1),(3,1),(4,1),(5,1),(6,1),(7,0),(8,1),(9,1),(10,1),(11,1),(12,1),(13,2)] (by kernel_rfl) (by kernel_rfl)<|xu rfl rfl (fun _=>Ub rfl) ?_;refine xu rfl rfl (fun _=>Yq rfl) ?_;refine xu (v:=(.int .i64 (i64.wrap (aZ ac 32)))) rfl rfl (fun _=>Uc ac 32 rfl rfl (by decide)) ?_;refine xu rfl rfl (fun _=>Ub rfl) ?_;refine xu rfl rfl (fun _=>Yq rfl) ?_;refine xu (v:=(.int .i64 (i64.wrap (aZ ac 32)))) rfl rfl (fun _=>Uc ac 32 rfl rfl (by decide)) ?_;obtain ⟨b2,ah,hm⟩:=bZ hm;replace ad:=ad.gr ar;refine xu rfl rfl (fun _=>Yu underlying35 sizeOf95 rfl rfl (Xa ah).1 (Xa ah).2.1 (ad.addr ah)) ?_;refine xW (fun _ hC=>(ad.gr (hC.bl a2)).atInt ah) ?_;refine xu rfl rfl (fun _=>Yq rfl) ?_;refine xu (v:=(.int .i64 (bM ac 32))) rfl rfl (fun _=>Qv ac 32 rfl rfl (by decide)) ?_;obtain ⟨ck,hm⟩:=Z9 hm;refine xu (v:=(.int .u32 (Yc .u32 1 (bM ac 32)))) rfl rfl (fun _=>Zgg 1 (bM ac 32) rfl rfl ck) ?_;refine xu rfl rfl (fun _=>Qt _ _ rfl rfl) ?_;refine xu rfl rfl (fun _=>Yu underlying35 sizeOf95 rfl rfl (Xa ah).1 (Xa ah).2.1 (ad.addr ah)) ?_;refine xe rfl rfl ?_;intro c3 hC0;have hC:=hC0.bl a2;obtain ⟨bq,bc,hm⟩:=bZ hm;have bc:bq=al.set (aA (i64.wrap (aZ ac 32))) (u32.wrap (b2+(Yc .u32 1 (bM ac 32)))):=(Option.some.inj bc).symm;replace ad:=ad.gr hC;refine Wl (x1:=u32.wrap (b2+(Yc .u32 1 (bM ac 32)))) ad ah ?_;intro c4 br cl au;rw [← bc] at au;refine .ld (d:=9) (v:=(.slice av bq.length aw)) (congrArg (fun n=>Value.slice av n aw) (show al.length=bq.length by rw [bc,nS])) ?_;refine Zk<|xk a2<|Yz ?_;replace ab:=((ab.gr ar).gr hC).kp br;replace aa:=((aa.grow ar).grow hC).kp br cl;replace ag:=(ag.gr hC).kp br;intro c5 hC;replace hC:=hC.bl a2;replace ab:=ab.gr hC;replace ab:=ab.recol 6 3;replace au:=au.gr hC
    replace ag:=ag.gr hC;replace ag:=ag.recolSelf 3 (by decide);replace aa:=aa.grow hC;replace aa:=aa.recol 6 3 (by decide) (by decide);exact ⟨rfl,_,_,_,_,_,_,_,hm,aa,ag,ab,au.recol 6 3,rfl⟩
   refine Yj ?_;replace ad:=ad.recol 5 3;replace af:=af.recolSelf 3 (by decide);replace aa:=aa.recol 5 3 (by decide) (by decide);exact ⟨rfl,_,_,_,_,_,_,_,hm,aa,af,ab.recol 5 3,ad,rfl⟩
  obtain ⟨c6,cn,hm⟩:=bZ hm;refine Zi (Tf 7 cn (ad.toSlF (Zh.int .u32))) ?_;rintro _ c7 ⟨co,c8,c9,rfl,a3,bs⟩;refine ⟨_,rfl,?_⟩;replace bs:=bs.thaw (Z1 .u32) a3 ((Fz.refl (col:=ae)).froz 2);replace a3:=a3.thawR (col:=ae);generalize Xc ai.heap.size ae co=da at *;refine go ?_;cases hm;replace aa:=aa.grow a3;exact ⟨rfl,_,_,_,_,_,rfl,aa.fin (cm [(7,c1),(3,c2)]),aa.fo bs,aa.fo (am.gr a3)⟩
def Zlb (aa:Bool):Option Bool:=
  some aa
def Zdx (aa:List Int):Option Bool:=
  if (decide ((aa.length:Int)=0))=true then (Zlb true) else ((Zl aa 0).bind fun ab=>Zlb (decide ((bM ab 2)=0)))
theorem Zmx {ag:Nat} {a0:Option Addr} {col:Zd} {w0:World} {ab:R2} {r:Bool} (hm:Zdx ab=some r) (h0:Sl rU col w0 a0 ag ab):
    Calls prog 207 #[.slice a0 ab.length ag] w0 (fun e w'=>e= .returned ((.bool r))∧Below w0.heap.size w0 w'):=by
 refine Xe 2 (m:=13) func207 rfl rfl rfl rfl rfl ?_;rw [Zdx.eq_1] at hm;have aa:=St.start col w0;refine Zz<|Ve<|Zj9 rfl<|Zk<|Zz ?_;replace h0:=h0.k0;refine Wp.cutK [1000000] (fun f ah=>∃ ai ac,Zlb ac=some r∧St w0 (Zj col) ai ah∧[2].map f=[.bool ac]) ?_ ?_
 ·intro f ah hJ;obtain ⟨ai,ac,hm,aa,hs⟩:=hJ;rw [Zlb.eq_1] at hm;refine .lL [2] hs<|Vd ?_;cases hm;exact ⟨rfl,rfl,aa.below⟩
 refine go ?_;refine Yr hm (fun ad hm=>go ?_) fun ad hm=>go ?_
 ·refine lV (.bool true) (Ye (congrArg Value.bool ad) rfl)<|go ?_;exact ⟨rfl,_,_,hm,aa,rfl⟩
 obtain ⟨ae,af,hm⟩:=bZ hm;refine lI af ((h0.ks aa).addr af) ?_;refine go ?_;refine lW ((h0.ks aa).atInt af)<|go ?_;refine lV (.int .u32 (bM ae 2)) (Qv ae 2 rfl rfl (by decide))<|go ?_;refine lV (.bool (decide ((bM ae 2)=0))) (Yd (congrArg Value.bool ad) rfl)<|go ?_;exact ⟨rfl,_,_,hm,aa,rfl⟩
def Zfu (N:Nat) (ac:List Int):Nat→R2→Int→Int→Option R2
  | 0,_,_,_=>none
  | af+1,ab,ad,aa=>if (decide (0≤aa))=true then ((Zl ac aa).bind fun ae=>(Zl ab aa).bind fun ai=>(some (ab.set (aA aa) (u32.wrap (u64.wrap (aZ (u64.wrap ((u64.wrap (ad * 4294967296))+(u64.wrap ae))) 2))))).bind fun ag=>(Zfu N ac af) ag (bM (u64.wrap ((u64.wrap (ad * 4294967296))+(u64.wrap ae))) 2) (i64.wrap (aa - 1))) else ((Ua N ab).bind fun ah=>some ah)
termination_by structural x=>x
def Zdy (N:Nat) (aa:List Int):Option R2:=
  Z4 (aa.length * 4≤281474976710656∧aa.length≤maxLen) (Zfu N aa N (aM aa.length (0:Int)) 0 (i64.wrap ((aa.length:Int) - 1)))
theorem Zmy {N au:Nat} {a0:Option Addr} {col:Zd} {w0:World} {ag r:R2} (c1:Nat) (hm:Zdy N ag=some r) (h0:Sl rU col w0 a0 au ag):
    Calls prog 208 #[.slice a0 ag.length au] w0 (fun e w'=>∃ (col':Zd) (ra1:Option Addr) (rc2:Nat),e= .returned ((.slice ra1 r.length rc2))∧Zf col w0 col' w'∧Zb rU 95 c1 col' w' ra1 rc2 r):=by
 refine Xe 2 (m:=34) func208 rfl rfl rfl rfl rfl ?_;rw [Zdy.eq_1] at hm;have aa:=St.start col w0;refine go ?_;obtain ⟨av,hm⟩:=Z9 hm;refine Sq (col:=(Zj col)) (w:=w0) (r:=rU) (n:=ag.length) (x0:=0) 1 rfl underlying35 Tryz.t95 rfl rfl rfl rfl rfl rfl rfl av.1 av.2 (Zaj .u32 0) ?_;intro a4 a5 a6 ax ay;refine go ?_;replace aa:=aa.grow ax;refine Zv [0,1000000] (fun n f aj=>∃ ac ah ai ad ab ak ae,ae=n∧Zfu N ag ae ad ab ak=some r∧St w0 (Zj col) ac aj∧Zb rU 95 1 ac aj ah ai ad∧[3,4,5].map f=[.slice ah ad.length ai,.int .u64 ab,.int .i64 ak]) N ⟨_,_,_,_,0,_,_,rfl,hm,aa,ay,rfl⟩ ?_;clear hm;intro n f aj hI;obtain ⟨ac,ah,ai,ad,ab,ak,ae,hn,hm,aa,an,hs⟩:=hI;subst hn;refine .lL [3,4,5] hs ?_;replace h0:=h0.k0
 cases ae with
 | zero=>rw [Zfu.eq_1] at hm;cases hm
 | succ ae=>
  rw [Zfu.eq_2] at hm;refine go ?_;refine Zo hm (fun hb hm=>go ?_) fun hb hm=>go ?_
  ·obtain ⟨af,ao,hm⟩:=bZ hm;refine lI ao ((h0.ks aa).addr ao)<|lW ((h0.ks aa).atInt ao) ?_;refine go ?_;refine lV (.int .u64 (u64.wrap (aZ (u64.wrap ((u64.wrap (ab * 4294967296))+(u64.wrap af))) 2))) (Uc (u64.wrap ((u64.wrap (ab * 4294967296))+(u64.wrap af))) 2 rfl rfl (by decide))<|go ?_;obtain ⟨a7,ap,hm⟩:=bZ hm;refine lI ap (an.addr ap) ?_;obtain ⟨aq,al,hm⟩:=bZ hm;have al:aq=ad.set (aA ak) (u32.wrap (u64.wrap (aZ (u64.wrap ((u64.wrap (ab * 4294967296))+(u64.wrap af))) 2))):=(Option.some.inj al).symm;refine Wl (x1:=u32.wrap (u64.wrap (aZ (u64.wrap ((u64.wrap (ab * 4294967296))+(u64.wrap af))) 2))) an ap ?_;intro a8 az a1 aw;rw [← al] at aw;refine .ld (d:=3) (v:=(.slice ah aq.length ai)) (congrArg (fun n=>Value.slice ah n ai) (show ad.length=aq.length by rw [al,nS])) ?_;refine go ?_;refine lV (.int .u64 (bM (u64.wrap ((u64.wrap (ab * 4294967296))+(u64.wrap af))) 2)) (Qv (u64.wrap ((u64.wrap (ab * 4294967296))+(u64.wrap af))) 2 rfl rfl (by decide))<|go ?_;replace aa:=aa.kp az a1;exact ⟨ae,by omega,rfl,⟨_,_,_,_,_,_,_,rfl,hm,aa,aw,rfl⟩⟩
  obtain ⟨a9,a2,hm⟩:=bZ hm;refine Zi (Tf 2 a2 (an.toSlF (Zh.int .u32))) ?_;rintro _ ba ⟨a3,bb,bc,rfl,am,ar⟩;refine ⟨_,rfl,?_⟩;replace ar:=ar.thaw (Z1 .u32) am ((Fz.refl (col:=ac)).froz 1);replace am:=am.thawR (col:=ac);generalize Xc aj.heap.size ac a3=bd at *;refine go ?_;cases hm;replace aa:=aa.grow am;exact ⟨rfl,_,_,_,rfl,aa.fin (cm [(2,c1)]),aa.fo ar⟩
def Zim (N:Nat) (kk_L2:(List Int→R2→Option R2)) (aa:List Int) (ab:List Int):Option R2:=
  (Zdw N ab aa).bind fun ac=>kk_L2 aa ac.1
def Zla (N:Nat) (kk_L2:(List Int→R2→Option R2)) (ab:List Int) (aa:List Int) (kk_L4:(List Int→Option R2)) (ac:Bool):Option R2:=
  if ac=true then ((Zdy N aa).bind fun ad=>kk_L4 ad) else ((Zfn N ab aa).bind fun ae=>if (decide (0<ae))=true then (Zim N kk_L2 aa ab) else (Zim N kk_L2 ab aa))
def Zbg (N:Nat) (kk_L2:(List Int→R2→Option R2)) (aa:List Int):Nat→R2→Option R2
  | 0,_=>none
  | ac+1,ab=>if (decide (0<(ab.length:Int)))=true then ((Zdx ab).bind fun ad=>Zla N kk_L2 aa ab (Zbg N kk_L2 aa ac) ad) else (Zla N kk_L2 aa ab (Zbg N kk_L2 aa ac) false)
termination_by structural x=>x
def Zfp (N:Nat) (ab:List Int) (kk_L2:(List Int→R2→Option R2)):Nat→R2→Option R2
  | 0,_=>none
  | ac+1,aa=>(Zdx aa).bind fun ad=>if ad=true then ((Zdy N aa).bind fun ae=>(Zfp N ab kk_L2 ac) ae) else (Zbg N kk_L2 aa N ab)
termination_by structural x=>x
def Zfq (N:Nat) (aa:Int):Nat→R2→Int→Option R2
  | 0,_,_=>none
  | ad+1,ab,ac=>if (decide (ac<aa))=true then ((Ziq N ab 0).bind fun ae=>(Zfq N aa ad) ae (i64.wrap (ac+1))) else (some ab)
termination_by structural x=>x
def Uu (N:Nat) (aa:Int):Nat→R2→R2→Option R2
  | 0,_,_=>none
  | ad+1,ab,ac=>if (decide (0<(ac.length:Int)))=true then (Zfp N ac (Uu N aa ad) N ab) else (Zfq N aa N ab 0)
termination_by structural x=>x
def Zil (N:Nat) (aa:List Int) (ab:List Int) (ac:Int) (kk_L1:(List Int→R2→Int→Option R2)) (ad:Bool):Option R2:=
  if ad=true then ((Zdy N aa).bind fun ae=>(Zdy N ab).bind fun af=>kk_L1 ae af (i64.wrap (ac+1))) else (Uu N ac N aa ab)
def Zch (N:Nat):Nat→R2→R2→Int→Option R2
  | 0,_,_,_=>none
  | ac+1,aa,ab,ad=>(Zdx aa).bind fun ae=>if ae=true then ((Zdx ab).bind fun af=>Zil N aa ab ad (Zch N ac) af) else (Zil N aa ab ad (Zch N ac) false)
termination_by structural x=>x
def Zk9 (N:Nat) (ac:List Int) (ad:List Int):Option R2:=
  (Ua N ac).bind fun aa=>(Ua N ad).bind fun ab=>if (decide ((aa.length:Int)=0))=true then (some ab) else (if (decide ((ab.length:Int)=0))=true then (some aa) else (Zch N N aa ab 0))
theorem Z44 {N cs ct:Nat} {a0 a1:Option Addr} {col:Zd} {w0:World} {cb cc r:R2} (c1:Nat) (hm:Zk9 N cb cc=some r) (h0:Sl rU col w0 a0 cs cb) (h1:Sl rU col w0 a1 ct cc):
    Calls prog 177 #[.slice a0 cb.length cs,.slice a1 cc.length ct] w0 (fun e w'=>∃ (col':Zd) (ra1:Option Addr) (rc2:Nat),e= .returned ((.slice ra1 r.length rc2))∧Zf col w0 col' w'∧Zb rU 95 c1 col' w' ra1 rc2 r):=by
 refine Xe 4 (m:=69) func177 rfl rfl rfl rfl rfl ?_;rw [Zk9.eq_1] at hm;have aa:=St.start col w0;refine go ?_;obtain ⟨dw,c3,hm⟩:=bZ hm;refine Zi (Tf 1 c3 (h0.k0.ks aa)) ?_;rintro _ dx ⟨dy,dz,d0,rfl,c4,bs⟩;refine ⟨_,rfl,go ?_⟩;obtain ⟨d1,c5,hm⟩:=bZ hm;replace aa:=aa.grow c4;refine Zi (Tf 2 c5 (h1.k0.ks aa)) ?_;rintro _ d2 ⟨d3,d4,d5,rfl,cu,cv⟩;refine ⟨_,rfl,go ?_⟩;replace bs:=bs.gr cu;replace aa:=aa.grow cu;refine Zo hm (fun hb hm=>go ?_) fun hb hm=>go ?_
 ·cases hm;exact ⟨rfl,_,_,_,rfl,aa.fin (cm [(2,c1)]),aa.fo cv⟩
 refine Zo hm (fun hb hm=>go ?_) fun hb hm=>go ?_
 ·cases hm;exact ⟨rfl,_,_,_,rfl,aa.fin (cm [(1,c1)]),aa.fo bs⟩
 refine Zv [1000000] (fun n f a6=>∃ am bt bu au bv bw av ae an,an=n∧Zch N an au av ae=some r∧St w0 (Zj col) am a6∧Zb rU 95 1 am a6 bt bu au∧Zb rU 95 2 am a6 bv bw av∧[5,6,7].map f=[.slice bt au.length bu,.slice bv av.length bw,.int .i64 ae]) N ⟨_,_,_,_,_,_,_,0,_,rfl,hm,aa,bs,cv,rfl⟩ ?_;clear hm;intro n f a6 hI;obtain ⟨am,bt,bu,au,bv,bw,av,ae,an,hn,hm,aa,ag,ad,hs⟩:=hI;subst hn;refine .lL [5,6,7] hs ?_
 cases an with
 | zero=>rw [Zch.eq_1] at hm;cases hm
 | succ an=>
  rw [Zch.eq_2] at hm;refine Zz<|Zz ?_;refine Wp.cutK [5,6,7,1000000] (fun f a7=>∃ ao cd,Zil N au av ae (Zch N an) cd=some r∧St w0 (Zj col) ao a7∧Zb rU 95 1 ao a7 bt bu au∧Zb rU 95 2 ao a7 bv bw av∧[26].map f=[.bool cd]) ?_ ?_
  ·intro f a7 hJ;obtain ⟨ao,cd,hm,aa,ag,ad,hs⟩:=hJ;rw [Zil.eq_1] at hm;refine .lL [26] hs ?_;refine Zo hm (fun hb hm=>go ?_) fun hb hm=>go ?_
   ·obtain ⟨d6,c6,hm⟩:=bZ hm;refine Zi (Zmy 3 c6 (ag.toSlF (Zh.int .u32))) ?_;rintro _ c7 ⟨c8,d7,d8,rfl,a8,ai⟩;refine ⟨_,rfl,?_⟩;replace ai:=ai.thaw (Z1 .u32) a8 ((Fz.refl (col:=ao)).froz 1);replace a8:=a8.thawR (col:=ao);generalize Xc a7.heap.size ao c8=ce at *;refine go ?_;obtain ⟨d9,c9,hm⟩:=bZ hm;replace ad:=ad.gr a8;refine Zi (Zmy 4 c9 (ad.toSlF (Zh.int .u32))) ?_;rintro _ ea ⟨da,eb,ec,rfl,a9,ap⟩;refine ⟨_,rfl,?_⟩;replace ap:=ap.thaw (Z1 .u32) a9 ((Fz.refl (col:=ce)).froz 2);replace a9:=a9.thawR (col:=ce);generalize Xc c7.heap.size ce da=ed at *;refine go ?_;replace ai:=ai.gr a9;replace ai:=ai.recolSelf 1 (by decide);replace ap:=ap.recol 3 1;replace aa:=(aa.grow a8).grow a9;replace aa:=aa.recol 3 1 (by decide) (by decide);replace ap:=ap.recolSelf 2 (by decide);replace aa:=aa.recol 4 2 (by decide) (by decide);exact ⟨an,by omega,rfl,⟨_,_,_,_,_,_,_,_,_,rfl,hm,aa,ai.recol 4 2,ap,rfl⟩⟩
   refine Zv [7,1000000] (fun n f bx=>∃ bz cf cg b0 b1 b2 aw af,af=n∧Uu N ae af b0 aw=some r∧St w0 (Zj col) bz bx∧Zb rU 95 1 bz bx cf cg b0∧Zb rU 95 2 bz bx b1 b2 aw∧[5,6].map f=[.slice cf b0.length cg,.slice b1 aw.length b2]) N ⟨_,_,_,_,_,_,_,_,rfl,hm,aa,ag,ad,rfl⟩ ?_;clear hm;intro n f bx hI;obtain ⟨bz,cf,cg,b0,b1,b2,aw,af,hn,hm,aa,cw,ah,hs⟩:=hI;subst hn;refine .lL [5,6] hs ?_
   cases af with
   | zero=>rw [Uu.eq_1] at hm;cases hm
   | succ af=>
    rw [Uu.eq_2] at hm;refine go ?_;refine Zo hm (fun hb hm=>go ?_) fun hb hm=>go ?_
    ·refine Zv [6,7,1000000] (fun n f ba=>∃ aj bb bc ak ax,ax=n∧Zfp N aw (Uu N ae af) ax ak=some r∧St w0 (Zj col) aj ba∧Zb rU 95 1 aj ba bb bc ak∧Zb rU 95 2 aj ba b1 b2 aw∧[5].map f=[.slice bb ak.length bc]) N ⟨_,_,_,_,_,rfl,hm,aa,cw,ah,rfl⟩ ?_;clear hm;intro n f ba hI;obtain ⟨aj,bb,bc,ak,ax,hn,hm,aa,ab,ah,hs⟩:=hI;subst hn;refine .lL [5] hs ?_
     cases ax with
     | zero=>rw [Zfp.eq_1] at hm;cases hm
     | succ ax=>
      rw [Zfp.eq_2] at hm;refine go ?_;obtain ⟨ee,db,hm⟩:=bZ hm;refine Zi (Zmx db (ab.toSlF (Zh.int .u32))) ?_;rintro _ cx ⟨rfl,bd⟩;refine ⟨_,rfl,?_⟩;replace bd:Zf aj ba aj cx:=.of_below bd;refine Zk ?_;replace ab:=ab.gr bd;replace ah:=ah.gr bd;replace aa:=aa.grow bd;refine Zo hm (fun hb hm=>go ?_) fun hb hm=>go ?_
      ·obtain ⟨ef,dc,hm⟩:=bZ hm;refine Zi (Zmy 5 dc (ab.toSlF (Zh.int .u32))) ?_;rintro _ eg ⟨dd,eh,ei,rfl,be,bf⟩;refine ⟨_,rfl,?_⟩;replace bf:=bf.thaw (Z1 .u32) be ((Fz.refl (col:=aj)).froz 1);replace be:=be.thawR (col:=aj);generalize Xc cx.heap.size aj dd=ej at *;refine go ?_;replace ah:=ah.gr be;replace ah:=ah.recol 5 1;replace bf:=bf.recolSelf 1 (by decide);replace aa:=aa.grow be;replace aa:=aa.recol 5 1 (by decide) (by decide);exact ⟨ax,by omega,rfl,⟨_,_,_,_,_,rfl,hm,aa,bf,ah,rfl⟩⟩
      refine Zv [5,7,1000000] (fun n f bg=>∃ ay b3 b4 az aq,aq=n∧Zbg N (Uu N ae af) ak aq az=some r∧St w0 (Zj col) ay bg∧Zb rU 95 1 ay bg bb bc ak∧Zb rU 95 2 ay bg b3 b4 az∧[6].map f=[.slice b3 az.length b4]) N ⟨_,_,_,_,_,rfl,hm,aa,ab,ah,rfl⟩ ?_;clear hm;intro n f bg hI;obtain ⟨ay,b3,b4,az,aq,hn,hm,aa,ab,ac,hs⟩:=hI;subst hn;refine .lL [6] hs ?_
      cases aq with
      | zero=>rw [Zbg.eq_1] at hm;cases hm
      | succ aq=>
       rw [Zbg.eq_2] at hm;refine Zz<|Zz ?_;refine Wp.cutK [5,6,7,1000000] (fun f a2=>∃ al ch,Zla N (Uu N ae af) ak az (Zbg N (Uu N ae af) ak aq) ch=some r∧St w0 (Zj col) al a2∧Zb rU 95 1 al a2 bb bc ak∧Zb rU 95 2 al a2 b3 b4 az∧[46].map f=[.bool ch]) ?_ ?_
       ·intro f a2 hJ;obtain ⟨al,ch,hm,aa,ab,ac,hs⟩:=hJ;rw [Zla.eq_1] at hm;refine .lL [46] hs ?_;refine Zo hm (fun hb hm=>go ?_) fun hb hm=>?_
        ·obtain ⟨ek,de,hm⟩:=bZ hm;refine Zi (Zmy 6 de (ac.toSlF (Zh.int .u32))) ?_;rintro _ el ⟨df,em,en,rfl,bh,bi⟩;refine ⟨_,rfl,?_⟩;replace bi:=bi.thaw (Z1 .u32) bh ((Fz.refl (col:=al)).froz 2);replace bh:=bh.thawR (col:=al);generalize Xc a2.heap.size al df=eo at *;refine go ?_;replace ab:=ab.gr bh;replace ab:=ab.recol 6 2;replace bi:=bi.recolSelf 2 (by decide);replace aa:=aa.grow bh;replace aa:=aa.recol 6 2 (by decide) (by decide);exact ⟨aq,by omega,rfl,⟨_,_,_,_,_,rfl,hm,aa,ab,bi,rfl⟩⟩
        refine Zpl (Zne ?_);refine Zz ?_;refine Wp.cutK [7,1000000] (fun f bj=>∃ ar ci cj b5 ck cl b6,Zim N (Uu N ae af) b5 b6=some r∧St w0 (Zj col) ar bj∧Zb rU 95 1 ar bj ci cj b5∧Zb rU 95 2 ar bj ck cl b6∧[5,6].map f=[.slice ci b5.length cj,.slice ck b6.length cl]) ?_ ?_
        ·intro f bj hJ;obtain ⟨ar,ci,cj,b5,ck,cl,b6,hm,aa,a3,dg,hs⟩:=hJ;rw [Zim.eq_1] at hm;refine .lL [5,6] hs<|go ?_;obtain ⟨b7,dh,hm⟩:=bZ hm;refine Zi (Zmw 7 dh ((dg.toSlF (Zh.int .u32)).froz 1) ((a3.froz 2).toSlF (Zh.int .u32))) ?_;rintro _ ep ⟨di,cy,cz,rfl,bk,bm⟩;refine ⟨_,rfl,?_⟩;replace bm:=bm.thaw (Z1 .u32) bk (((Fz.refl (col:=ar)).froz 2).froz 1);replace bk:=bk.thawR (col:=ar);generalize Xc bj.heap.size ar di=eq at *;refine lM (.tuple #[.slice cy b7.1.length cz,.bool b7.2])<|lV (.slice cy b7.1.length cz) (Xo rfl rfl)<|lV (.bool b7.2) (Xo rfl rfl)<|go ?_;replace a3:=a3.gr bk;replace bm:=bm.recolSelf 2 (by decide);replace aa:=aa.grow bk;replace aa:=aa.recol 7 2 (by decide) (by decide);exact ⟨af,by omega,rfl,⟨_,_,_,_,_,_,_,_,rfl,hm,aa,a3.recol 7 2,bm,rfl⟩⟩
        refine go ?_;obtain ⟨er,dj,hm⟩:=bZ hm;refine Zi (Zp9 dj ((ab.toSlF (Zh.int .u32)).froz 2) ((ac.froz 1).toSlF (Zh.int .u32))) ?_;rintro _ dl ⟨rfl,bn⟩;refine ⟨_,rfl,?_⟩;replace bn:Zf al a2 al dl:=.of_below bn;refine go ?_;replace ab:=ab.gr bn;replace ac:=ac.gr bn;replace aa:=aa.grow bn;refine Zo hm (fun hb hm=>go ?_) fun hb hm=>?_
        ·replace ac:=ac.recol 1 8;replace ab:=ab.recolSelf 8 (by decide);replace aa:=aa.recol 1 8 (by decide) (by decide);replace ac:=ac.recolSelf 1 (by decide);replace ab:=ab.recol 2 1;replace aa:=aa.recol 2 1 (by decide) (by decide);replace ac:=ac.recol 8 2;replace ab:=ab.recolSelf 2 (by decide);replace aa:=aa.recol 8 2 (by decide) (by decide);exact ⟨rfl,_,_,_,_,_,_,_,hm,aa,ac,ab,rfl⟩
        refine Yj ?_;exact ⟨rfl,_,_,_,_,_,_,_,hm,aa,ab,ac,rfl⟩
       refine go ?_;refine Yr hm (fun cn hm=>go ?_) fun cn hm=>go ?_
       ·obtain ⟨dm,dn,hm⟩:=bZ hm;refine Zi (Zmx dn (ac.toSlF (Zh.int .u32))) ?_;rintro _ dp ⟨rfl,bo⟩;refine ⟨_,rfl,?_⟩;replace bo:Zf ay bg ay dp:=.of_below bo;refine lV (.bool dm) (Ye (congrArg Value.bool cn) rfl)<|Zk ?_;replace ab:=ab.gr bo;replace ac:=ac.gr bo;replace aa:=aa.grow bo;exact ⟨rfl,_,_,hm,aa,ab,ac,rfl⟩
       refine lV (.bool false) (Yd (congrArg Value.bool cn) rfl)<|Zk ?_;exact ⟨rfl,_,_,hm,aa,ab,ac,rfl⟩
    refine Zv [7,1000000] (fun n f b8=>∃ a4 co cp b9 cq a5,a5=n∧Zfq N ae a5 b9 cq=some r∧St w0 (Zj col) a4 b8∧Zb rU 95 1 a4 b8 co cp b9∧[5,8].map f=[.slice co b9.length cp,.int .i64 cq]) N ⟨_,_,_,_,0,_,rfl,hm,aa,cw,rfl⟩ ?_;clear hm;intro n f b8 hI;obtain ⟨a4,co,cp,b9,cq,a5,hn,hm,aa,c0,hs⟩:=hI;subst hn;refine .lL [5,8] hs ?_
    cases a5 with
    | zero=>rw [Zfq.eq_1] at hm;cases hm
    | succ a5=>
     rw [Zfq.eq_2] at hm;refine go ?_;refine Zo hm (fun hb hm=>go ?_) fun hb hm=>go ?_
     ·obtain ⟨es,dq,hm⟩:=bZ hm;refine Zi (Zur 9 dq (c0.toSlF (Zh.int .u32))) ?_;rintro _ et ⟨dr,eu,ew,rfl,ca,bp⟩;refine ⟨_,rfl,?_⟩;replace bp:=bp.thaw (Z1 .u32) ca ((Fz.refl (col:=a4)).froz 1);replace ca:=ca.thawR (col:=a4);generalize Xc b8.heap.size a4 dr=ey at *;refine go ?_;replace bp:=bp.recolSelf 1 (by decide);replace aa:=aa.grow ca;replace aa:=aa.recol 9 1 (by decide) (by decide);exact ⟨a5,by omega,rfl,⟨_,_,_,_,_,_,rfl,hm,aa,bp,rfl⟩⟩
     cases hm;exact ⟨rfl,_,_,_,rfl,aa.fin (cm [(1,c1)]),aa.fo c0⟩
  refine go ?_;obtain ⟨ez,ds,hm⟩:=bZ hm;refine Zi (Zmx ds (ag.toSlF (Zh.int .u32))) ?_;rintro _ c2 ⟨rfl,bq⟩;refine ⟨_,rfl,?_⟩;replace bq:Zf am a6 am c2:=.of_below bq;refine Uj rfl ?_;replace ag:=ag.gr bq;replace ad:=ad.gr bq;replace aa:=aa.grow bq;refine Yr hm (fun cr hm=>go ?_) fun cr hm=>go ?_
  ·obtain ⟨dt,du,hm⟩:=bZ hm;refine Zi (Zmx du (ad.toSlF (Zh.int .u32))) ?_;rintro _ dv ⟨rfl,br⟩;refine ⟨_,rfl,?_⟩;replace br:Zf am c2 am dv:=.of_below br;refine lV (.bool dt) (Ye (congrArg Value.bool cr) rfl)<|Zk ?_;replace ag:=ag.gr br;replace ad:=ad.gr br;replace aa:=aa.grow br;exact ⟨rfl,_,_,hm,aa,ag,ad,rfl⟩
  refine lV (.bool false) (Yd (congrArg Value.bool cr) rfl)<|Zk ?_;exact ⟨rfl,_,_,hm,aa,ag,ad,rfl⟩
def Zfs (N:Nat) (af:List Int) (ab:List Int) (aa:Int) (kk_L1:(List Int→Int→Option R2)):Nat→Int→R2→Int→Option R2
  | 0,_,_,_=>none
  | aj+1,ac,ad,ae=>if (decide (ac<(ab.length:Int)))=true then ((Zl af aa).bind fun ag=>(Zl ab ac).bind fun ah=>(Zl ad (i64.wrap (aa+ac))).bind fun ai=>(some (ad.set (aA (i64.wrap (aa+ac))) (u32.wrap (bM (u64.wrap ((u64.wrap (ae+(u64.wrap ((u64.wrap ag) * (u64.wrap ah)))))+(u64.wrap ai))) 4294967296)))).bind fun ak=>(Zfs N af ab aa kk_L1 aj) (i64.wrap (ac+1)) ak (u64.wrap (aZ (u64.wrap ((u64.wrap (ae+(u64.wrap ((u64.wrap ag) * (u64.wrap ah)))))+(u64.wrap ai))) 4294967296))) else ((Zl ad (i64.wrap (aa+(ab.length:Int)))).bind fun am=>(some (ad.set (aA (i64.wrap (aa+(ab.length:Int)))) (u32.wrap ae))).bind fun al=>kk_L1 al (i64.wrap (aa+1)))
termination_by structural x=>x
def Zci (N:Nat) (aa:List Int) (ab:List Int):Nat→R2→Int→Option R2
  | 0,_,_=>none
  | ae+1,ac,ad=>if (decide (ad<(aa.length:Int)))=true then (Zfs N aa ab ad (Zci N aa ab ae) N 0 ac 0) else ((Ua N ac).bind fun af=>some af)
termination_by structural x=>x
def Zfr (N:Nat) (ac:List Int) (ad:List Int):Option R2:=
  (Ua N ac).bind fun aa=>(Ua N ad).bind fun ab=>Z4 ((aA (i64.wrap ((aa.length:Int)+(ab.length:Int)))) * 4≤281474976710656∧(aA (i64.wrap ((aa.length:Int)+(ab.length:Int))))≤maxLen∧0≤(i64.wrap ((aa.length:Int)+(ab.length:Int)))) (Zci N aa ab N (aM (aA (i64.wrap ((aa.length:Int)+(ab.length:Int)))) (0:Int)) 0)
theorem Zup {N bi bj:Nat} {a0 a1:Option Addr} {col:Zd} {w0:World} {a5 a6 r:R2} (c1:Nat) (hm:Zfr N a5 a6=some r) (h0:Sl rU col w0 a0 bi a5) (h1:Sl rU col w0 a1 bj a6):
    Calls prog 127 #[.slice a0 a5.length bi,.slice a1 a6.length bj] w0 (fun e w'=>∃ (col':Zd) (ra1:Option Addr) (rc2:Nat),e= .returned ((.slice ra1 r.length rc2))∧Zf col w0 col' w'∧Zb rU 95 c1 col' w' ra1 rc2 r):=by
 refine Xe 4 (m:=74) func127 rfl rfl rfl rfl rfl ?_;rw [Zfr.eq_1] at hm;have aa:=St.start col w0;refine go ?_;obtain ⟨am,bt,hm⟩:=bZ hm;refine Zi (Tf 1 bt (h0.k0.ks aa)) ?_;rintro _ b4 ⟨b5,bk,bm,rfl,bu,ab⟩;refine ⟨_,rfl,go ?_⟩;obtain ⟨ai,bv,hm⟩:=bZ hm;replace aa:=aa.grow bu;refine Zi (Tf 2 bv (h1.k0.ks aa)) ?_;rintro _ bw ⟨bx,bn,bo,rfl,bp,ac⟩;refine ⟨_,rfl,go ?_⟩;obtain ⟨ax,hm⟩:=Z9 hm;refine Sq (col:=bx) (w:=bw) (r:=rU) (n:=(aA (i64.wrap ((am.length:Int)+(ai.length:Int))))) (x0:=0) 3 rfl underlying35 Tryz.t95 rfl rfl rfl rfl rfl (congrArg (Value.int _) (bL ax.2.2).symm) (congrArg (Value.int _) (bL ax.2.2).symm) ax.1 ax.2.1 (Zaj .u32 0) ?_;intro b6 b7 b8 a7 bz;refine go ?_;replace ab:=(ab.gr bp).gr a7;replace aa:=(aa.grow bp).grow a7;replace ac:=ac.gr a7;refine Zv [5,6,1000000] (fun n f an=>∃ af a8 a9 ay ao aj,aj=n∧Zci N am ai aj ay ao=some r∧St w0 (Zj col) af an∧Zb rU 95 1 af an bk bm am∧Zb rU 95 2 af an bn bo ai∧Zb rU 95 3 af an a8 a9 ay∧[7,8].map f=[.slice a8 ay.length a9,.int .i64 ao]) N ⟨_,_,_,_,0,_,rfl,hm,aa,ab,ac,bz,rfl⟩ ?_;clear hm;intro n f an hI;obtain ⟨af,a8,a9,ay,ao,aj,hn,hm,aa,ab,ac,bq,hs⟩:=hI;subst hn;refine .lL [7,8] hs ?_
 cases aj with
 | zero=>rw [Zci.eq_1] at hm;cases hm
 | succ aj=>
  rw [Zci.eq_2] at hm;refine go ?_;refine Zo hm (fun hb hm=>go ?_) fun hb hm=>go ?_
  ·refine Zv [5,6,8,1000000] (fun n f aw=>∃ ae az ak al ag ad ap,ap=n∧Zfs N am ai ao (Zci N am ai aj) ap az ag ad=some r∧St w0 (Zj col) ae aw∧Zb rU 95 1 ae aw bk bm am∧Zb rU 95 2 ae aw bn bo ai∧Zb rU 95 3 ae aw ak al ag∧[10,7,9].map f=[.int .i64 az,.slice ak ag.length al,.int .u64 ad]) N ⟨_,0,_,_,_,0,_,rfl,hm,aa,ab,ac,bq,rfl⟩ ?_;clear hm;intro n f aw hI;obtain ⟨ae,az,ak,al,ag,ad,ap,hn,hm,aa,ab,ac,ah,hs⟩:=hI;subst hn;refine .lL [10,7,9] hs ?_
   cases ap with
   | zero=>rw [Zfs.eq_1] at hm;cases hm
   | succ ap=>
    rw [Zfs.eq_2] at hm;refine go ?_;refine Zo hm (fun hb hm=>go ?_) fun hb hm=>go ?_
    ·refine Vs (col:=ae) (by kernel_rfl) (by kernel_rfl)<|go ?_;obtain ⟨aq,ba,hm⟩:=bZ hm;refine qI ba (ab.addr ba)<|qW (fun _ hC=>(ab.gr (hC.bl ae)).atInt ba) ?_;refine go ?_;obtain ⟨ar,bb,hm⟩:=bZ hm;refine qI bb (ac.addr bb)<|qW (fun _ hC=>(ac.gr (hC.bl ae)).atInt bb) ?_;refine go ?_;obtain ⟨au,av,hm⟩:=bZ hm;refine qI av (ah.addr av)<|qW (fun _ hC=>(ah.gr (hC.bl ae)).atInt av) ?_;refine go ?_;refine Wn ?_;intro b9 hC;replace hC:=hC.bl ae;refine go ?_;refine lV (.int .u64 (bM (u64.wrap ((u64.wrap (ad+(u64.wrap ((u64.wrap aq) * (u64.wrap ar)))))+(u64.wrap au))) 4294967296)) (Qv (u64.wrap ((u64.wrap (ad+(u64.wrap ((u64.wrap aq) * (u64.wrap ar)))))+(u64.wrap au))) 4294967296 rfl rfl (by decide))<|go ?_;replace ah:=ah.gr hC;refine lI av (ah.addr av) ?_;obtain ⟨bc,a2,hm⟩:=bZ hm;have a2:bc=ag.set (aA (i64.wrap (ao+az))) (u32.wrap (bM (u64.wrap ((u64.wrap (ad+(u64.wrap ((u64.wrap aq) * (u64.wrap ar)))))+(u64.wrap au))) 4294967296)):=(Option.some.inj a2).symm;refine Wl (x1:=u32.wrap (bM (u64.wrap ((u64.wrap (ad+(u64.wrap ((u64.wrap aq) * (u64.wrap ar)))))+(u64.wrap au))) 4294967296)) ah av ?_;intro ca bd b0 br;rw [← a2] at br;refine .ld (d:=7) (v:=(.slice ak bc.length al)) (congrArg (fun n=>Value.slice ak n al) (show ag.length=bc.length by rw [a2,nS])) ?_;refine go ?_;refine lV (.int .u64 (u64.wrap (aZ (u64.wrap ((u64.wrap (ad+(u64.wrap ((u64.wrap aq) * (u64.wrap ar)))))+(u64.wrap au))) 4294967296))) (Uc (u64.wrap ((u64.wrap (ad+(u64.wrap ((u64.wrap aq) * (u64.wrap ar)))))+(u64.wrap au))) 4294967296 rfl rfl (by decide))<|go ?_;replace ab:=(ab.gr hC).kp bd;replace ac:=(ac.gr hC).kp bd;replace aa:=(aa.grow hC).kp bd b0;exact ⟨ap,by omega,rfl,⟨_,_,_,_,_,_,_,rfl,hm,aa,ab,ac,br,rfl⟩⟩
    obtain ⟨cb,be,hm⟩:=bZ hm;refine lI be (ah.addr be) ?_;obtain ⟨bf,a3,hm⟩:=bZ hm;have a3:bf=ag.set (aA (i64.wrap (ao+(ai.length:Int)))) (u32.wrap ad):=(Option.some.inj a3).symm;refine Wl (x1:=u32.wrap ad) ah be ?_;intro cc bg b1 bs;rw [← a3] at bs;refine .ld (d:=7) (v:=(.slice ak bf.length al)) (congrArg (fun n=>Value.slice ak n al) (show ag.length=bf.length by rw [a3,nS])) ?_;refine go ?_;replace aa:=aa.kp bg b1;exact ⟨aj,by omega,rfl,⟨_,_,_,_,_,_,rfl,hm,aa,ab.kp bg,ac.kp bg,bs,rfl⟩⟩
  obtain ⟨cd,b2,hm⟩:=bZ hm;refine Zi (Tf 4 b2 (bq.toSlF (Zh.int .u32))) ?_;rintro _ ce ⟨b3,cf,cg,rfl,a4,bh⟩;refine ⟨_,rfl,?_⟩;replace bh:=bh.thaw (Z1 .u32) a4 ((Fz.refl (col:=af)).froz 3);replace a4:=a4.thawR (col:=af);generalize Xc an.heap.size af b3=ch at *;refine go ?_;cases hm;replace aa:=aa.grow a4;exact ⟨rfl,_,_,_,rfl,aa.fin (cm [(4,c1)]),aa.fo bh⟩
def Zk6 (af:List Int) (ag:List Int) (ad:List Int) (aa:Int) (ae:Int) (kk_L1:(List Int→Int→Int→Option R2)):Option R2:=
  (Zab af ae).bind fun ab=>(Zab ag ae).bind fun ac=>Z4 ((ad.length+[u32.wrap (bM (u64.wrap ((u64.wrap (aa+ab))+ac)) 4294967296)].length) * 4≤140737488355328∧ad.length+[u32.wrap (bM (u64.wrap ((u64.wrap (aa+ab))+ac)) 4294967296)].length≤maxLen) (kk_L1 (ad++[u32.wrap (bM (u64.wrap ((u64.wrap (aa+ab))+ac)) 4294967296)]) (u64.wrap (aZ (u64.wrap ((u64.wrap (aa+ab))+ac)) 4294967296)) (i64.wrap (ae+1)))
def Zdv (N:Nat) (ab:List Int) (ac:List Int) (aa:List Int) (ad:Int) (ae:Int) (kk_L1:(List Int→Int→Int→Option R2)) (af:Bool):Option R2:=
  if af=true then (Zk6 ab ac aa ad ae kk_L1) else ((Ua N aa).bind fun ag=>some ag)
def Ql (N:Nat) (aa:List Int) (ab:List Int):Nat→R2→Int→Int→Option R2
  | 0,_,_,_=>none
  | ae+1,af,ad,ac=>if (decide (ac<(aa.length:Int)))=true then (Zdv N aa ab af ad ac (Ql N aa ab ae) true) else (if (decide (ac<(ab.length:Int)))=true then (Zdv N aa ab af ad ac (Ql N aa ab ae) true) else (Zdv N aa ab af ad ac (Ql N aa ab ae) (decide (0<ad))))
termination_by structural x=>x
def Zih (N:Nat) (aa:List Int) (ab:List Int):Option R2:=
  Ql N aa ab N ([]:List Int) 0 0
theorem Zun {N a3 a4:Nat} {a0 a1:Option Addr} {col:Zd} {w0:World} {ae ad r:R2} (c1:Nat) (hm:Zih N ae ad=some r) (h0:Sl rU col w0 a0 a3 ae) (h1:Sl rU col w0 a1 a4 ad):
    Calls prog 180 #[.slice a0 ae.length a3,.slice a1 ad.length a4] w0 (fun e w'=>∃ (col':Zd) (ra1:Option Addr) (rc2:Nat),e= .returned ((.slice ra1 r.length rc2))∧Zf col w0 col' w'∧Zb rU 95 c1 col' w' ra1 rc2 r):=by
 refine Xe 4 (m:=43) func180 rfl rfl rfl rfl rfl ?_;rw [Zih.eq_1] at hm;have aa:=St.start col w0;refine go ?_;refine Zv [0,1,1000000] (fun n f av=>∃ aw ak al af ab ai ag,ag=n∧Ql N ae ad ag af ab ai=some r∧St w0 (Zj col) aw av∧Zb rU 95 1 aw av ak al af∧[5,6,7].map f=[.slice ak af.length al,.int .u64 ab,.int .i64 ai]) N ⟨_,none,0,_,0,0,_,rfl,hm,aa,Zb.nil,rfl⟩ ?_;clear hm;intro n f av hI;obtain ⟨aw,ak,al,af,ab,ai,ag,hn,hm,aa,ac,hs⟩:=hI;subst hn;refine .lL [5,6,7] hs ?_;replace h1:=h1.k0
 cases ag with
 | zero=>rw [Ql.eq_1] at hm;cases hm
 | succ ag=>
  rw [Ql.eq_2] at hm;refine Zz ?_;refine Wp.cutK [0,1,5,6,7,1000000] (fun f ao=>∃ ah,Zk6 ae ad af ab ai (Ql N ae ad ag)=some r∧St w0 (Zj col) ah ao∧Zb rU 95 1 ah ao ak al af) ?_ ?_
  ·intro f ao hJ;obtain ⟨ah,hm,aa,ac⟩:=hJ;rw [Zk6.eq_1] at hm;refine go ?_;obtain ⟨am,a7,hm⟩:=bZ hm;refine Zi (Zej a7 (h0.k0.ks aa)) ?_;rintro _ a5 ⟨rfl,ap⟩;refine ⟨_,rfl,?_⟩;replace ap:Zf ah ao ah a5:=.of_below ap;refine go ?_;obtain ⟨an,a8,hm⟩:=bZ hm;replace aa:=aa.grow ap;refine Zi (Zej a8 (h1.ks aa)) ?_;rintro _ a9 ⟨rfl,aq⟩;refine ⟨_,rfl,?_⟩;replace aq:Zf ah a5 ah a9:=.of_below aq;refine go ?_;refine lV (.int .u64 (bM (u64.wrap ((u64.wrap (ab+am))+an)) 4294967296)) (Qv (u64.wrap ((u64.wrap (ab+am))+an)) 4294967296 rfl rfl (by decide))<|go ?_;refine Vz (col:=ah) [u32.wrap (bM (u64.wrap ((u64.wrap (ab+am))+an)) 4294967296)] 2 ?_;intro bg bh bi a6 ba;obtain ⟨bb,hm⟩:=Z9 hm;replace ac:=((ac.gr ap).gr aq).gr a6;refine Vy ac (ba.srcN (NB.int (k:=.u32))) bb ?_;intro bj bk bm bn bc bd;refine go ?_;refine lV (.int .u64 (u64.wrap (aZ (u64.wrap ((u64.wrap (ab+am))+an)) 4294967296))) (Uc (u64.wrap ((u64.wrap (ab+am))+an)) 4294967296 rfl rfl (by decide))<|go ?_;replace aa:=((aa.grow aq).grow a6).kpp bc;exact ⟨ag,by omega,rfl,⟨_,_,_,_,_,_,_,rfl,hm,aa,bd,rfl⟩⟩
  refine Zz ?_;refine Wp.cutK [0,1,5,6,7,1000000] (fun f ar=>∃ aj ax,Zdv N ae ad af ab ai (Ql N ae ad ag) ax=some r∧St w0 (Zj col) aj ar∧Zb rU 95 1 aj ar ak al af∧[21].map f=[.bool ax]) ?_ ?_
  ·intro f ar hJ;obtain ⟨aj,ax,hm,aa,ac,hs⟩:=hJ;rw [Zdv.eq_1] at hm;refine .lL [21] hs ?_;refine Zo hm (fun hb hm=>?_) fun hb hm=>go ?_
   ·refine Yj ?_;exact ⟨rfl,_,hm,aa,ac⟩
   obtain ⟨bo,be,hm⟩:=bZ hm;refine Zi (Tf 3 be (ac.toSlF (Zh.int .u32))) ?_;rintro _ bp ⟨bf,bq,br,rfl,au,ay⟩;refine ⟨_,rfl,?_⟩;replace ay:=ay.thaw (Z1 .u32) au ((Fz.refl (col:=aj)).froz 1);replace au:=au.thawR (col:=aj);generalize Xc ar.heap.size aj bf=bs at *;refine go ?_;cases hm;replace aa:=aa.grow au;exact ⟨rfl,_,_,_,rfl,aa.fin (cm [(3,c1)]),aa.fo ay⟩
  refine go ?_;refine Yr hm (fun az hm=>go ?_) fun az hm=>go ?_
  ·refine lV (.bool true) (Ye (congrArg Value.bool az) rfl)<|Uj rfl<|lP 18 rfl rfl<|lP 18 rfl rfl<|lV (.bool true) (Ye rfl rfl)<|Zk ?_;exact ⟨rfl,_,_,hm,aa,ac,rfl⟩
  refine lV (.bool (decide (ai<(ad.length:Int)))) (Yd (congrArg Value.bool az) rfl)<|Uj rfl ?_;refine Yr hm (fun a2 hm=>go ?_) fun a2 hm=>go ?_
  ·refine lV (.bool true) (Ye (congrArg Value.bool a2) rfl)<|Zk ?_;exact ⟨rfl,_,_,hm,aa,ac,rfl⟩
  refine lV (.bool (decide (0<ab))) (Yd (congrArg Value.bool a2) rfl)<|Zk ?_;exact ⟨rfl,_,_,hm,aa,ac,rfl⟩
def Zio (N:Nat) (aa:Int):Option R2:=
  (Ua N [u32.wrap (bM aa 4294967296),u32.wrap (u64.wrap (aZ aa 4294967296))]).bind fun ab=>some ab
theorem Zuq {N:Nat} {col:Zd} {w0:World} {aa:Int} {r:R2} (c1:Nat) (hm:Zio N aa=some r):
    Calls prog 214 #[.int .u64 aa] w0 (fun e w'=>∃ (col':Zd) (ra1:Option Addr) (rc2:Nat),e= .returned ((.slice ra1 r.length rc2))∧Zf col w0 col' w'∧Zb rU 95 c1 col' w' ra1 rc2 r):=by
 refine Xe 2 (m:=11) func214 rfl rfl rfl rfl rfl ?_;rw [Zio.eq_1] at hm;have ab:=St.start col w0;refine go ?_;refine lV (.int .u64 (bM aa 4294967296)) (Qv aa 4294967296 rfl rfl (by decide))<|go ?_;refine lV (.int .u64 (u64.wrap (aZ aa 4294967296))) (Uc aa 4294967296 rfl rfl (by decide))<|go ?_;refine Vz (col:=(Zj col)) [u32.wrap (bM aa 4294967296),u32.wrap (u64.wrap (aZ aa 4294967296))] 1 ?_;intro ak af ad ag ah;obtain ⟨al,ai,hm⟩:=bZ hm;refine Zi (Tf 2 ai (ah.toSlF (Zh.int .u32))) ?_;rintro _ am ⟨aj,an,ao,rfl,ac,ae⟩;refine ⟨_,rfl,?_⟩;replace ae:=ae.thaw (Z1 .u32) ac ((Fz.refl (col:=ad)).froz 1);replace ac:=ac.thawR (col:=ad);generalize Xc af.heap.size ad aj=ap at *;refine go ?_;cases hm;replace ab:=(ab.grow ag).grow ac;exact ⟨rfl,_,_,_,rfl,ab.fin (cm [(2,c1)]),ab.fo ae⟩

end Go.Proofs.YtkhnlgdenkikoaaGreat
