/-
  What functions of the program compute, as plain Lean functions (m_..), and proofs that they compute it (c_..). Printed by a program of the author; no conditions.
-/
import Derived.Test.YtkhnlgdenkikoaaGreatLearnRisesBFloat
import Derived.Test.YtkhnlgdenkikoaaGreatProg
import Derived.Test.YtkhnlgdenkikoaaGreatLearnRisesBBrief
import Derived.Test.YtkhnlgdenkikoaaGreatLearnRisesF1
set_option linter.unusedVariables false
set_option maxRecDepth 100000
set_option maxHeartbeats 2000000
namespace Go.Proofs.YtkhnlgdenkikoaaGreat
open Go Go.RowKit
open List renaming drop_eq_nil_iff→aH,mem_cons_self→aC,mem_cons_of_mem→aB,replicate→aM,mem_cons→aP,not_mem_nil→bL,length_take_of_le→gR,drop_eq_getElem_cons→aK,drop_eq_nil_of_le→aO,all_cons→eA,getElem_mem→aG,drop_zero→aT,take_succ_eq_append_getElem→cA,nodup_append→dP,nodup_cons→cP,mem_singleton→bT,take_of_length_le→bP,any_cons→fE,length→kC,getD_eq_getElem?_getD→aE,getElem?_eq_getElem→aN,mem_range'→kS,range→iT,mem_map→bO,mem_range→fS,mem_append→bE,mem_append_left→jU,getElem?_set→kH,perm_append_singleton→iU,getElem_take→iI,take_set→lH,count_cons→gP,append_assoc→bG,length_replicate→bD,count_le_length→gX,getElem?_eq_none→cJ,countP_cons→kL,count_pos_iff→kD,nil_append→aV,all_eq_true→cV,take_take→hO,take_length→kM,length_singleton→aL,drop_replicate→iB,eq_nil_of_length_eq_zero→dB
open Nat renaming lt_of_lt_of_le→aF,sub_le→iY,gcd→dE,le_trans→aU,div_le_self→cU,mul_ne_zero→eG,one_mul→aX,mul_assoc→cE,mul_le_mul_right→bC,beq→aJ,add_zero→bQ,le_refl→aY,zero_le→bK,sub_zero→jM,min_eq_left→bB,mul_le_mul_left→aR,pow_succ→bF,mul_zero→dY,pow_zero→dX,add_assoc→dW,zero_add→cW,pow_add→dK,div_div_eq_div_mul→gW,add_mul_div_left→iC,div_eq_of_lt→fH,two_pow_pos→cL,dvd_add_left→kT,mul_comm→cB,mul_div_cancel_left→gJ,gcd_comm→fR,min_eq_right→dI,max_eq_left→gS,max_eq_right→gK,le_total→jN,gcd_sub_self_right→jO,eq_zero_or_pos→fZ,gcd_zero_right→kI
open Int renaming natCast_mul→bU,natAbs_mul→gA,natAbs_natCast→eY,mul_assoc→lO,toNat→aA,tdiv→bJ,toNat_natCast→aD,le_refl→gI,tdiv_eq_ediv_of_nonneg→bX,tmod→cG,toNat_of_nonneg→bM,tmod_eq_emod_of_nonneg→cO
open Rat renaming mkRat_add_mkRat→kA,mkRat_mul_mkRat→kB,mkRat_eq_div→dA,intCast_mul→jB,inv_eq_of_mul_eq_one→gO
open Option renaming getD_some→dJ
open Go.IntKind (i8 i16 i32 i64 u8 u16 u32 u64)
open Go.Proofs.Tryz

def Zbr (N:Nat) (aa:R1) (ab:R1):Option Int:=
  (Sd N ((ab.1.1,ab.1.2),ab.2)).bind fun ae=>(Zdb N (aa.1.1,aa.1.2) ae).bind fun ac=>(Sd N ((aa.1.1,aa.1.2),aa.2)).bind fun af=>(Zdb N (ab.1.1,ab.1.2) af).bind fun ad=>(Zk6 N (ac.1,ac.2) (ad.1,ad.2)).bind fun ag=>some ag
theorem Zl6 {N ap a0 aq a1:Nat} {ar a2 au a3:Option Addr} {col:Ze} {w0:World} {ac ad:R1} {r:Int} (hm:Zbr N ac ad=some r) (al:Sl (Za.int .u32) col w0 ar ap ac.1.2) (av:Sl (Za.int .u32) col w0 a2 a0 ac.2) (am:Sl (Za.int .u32) col w0 au aq ad.1.2) (aw:Sl (Za.int .u32) col w0 a3 a1 ad.2):
    Calls prog 15 #[(.agg #[.bool ac.1.1,.slice ar ac.1.2.length ap,.slice a2 ac.2.length a0]),(.agg #[.bool ad.1.1,.slice au ad.1.2.length aq,.slice a3 ad.2.length a1])] w0 (fun e w'=>e= .returned ((.int .i64 r))∧Below w0.heap.size w0 w'):=by
 refine Xl 4 (m:=16) func15 rfl rfl rfl rfl rfl ?_;rw [Zbr.eq_1] at hm;have aa:=St.start col w0;refine go ?_;refine Xs (col:=(Zk col)) 1 rfl ?_;intro bm bn a8 a9 an;refine Xs (col:=a8) 2 rfl ?_;intro bo bp ae a4 a5;refine go ?_;refine W7 (col:=ae) [(0,1),(1,0),(2,0),(5,1),(6,0),(7,0),(3,3),(4,3),(8,3),(9,3),(10,3),(11,1)] (by kernel_rfl) (by kernel_rfl)<|xF ⟨_,_,rfl⟩ ?_;replace an:=an.gr a4;refine xv (v:=(.agg #[.bool ac.1.1,.slice ar ac.1.2.length ap])) rfl rfl (fun _ hC=>W4 isAgg37 sizeOf37 rfl rfl (((an.atN).part 0 2 _ rfl).gr (hC.bl ae))) ?_;refine xv rfl rfl (fun _ hC=>Xd isAgg39 sizeOf39 (a5.gr (hC.bl ae))) ?_;refine xF ⟨_,_,rfl⟩ ?_;refine xv (v:=(.agg #[.bool ad.1.1,.slice au ad.1.2.length aq])) rfl rfl (fun _ hC=>W4 isAgg37 sizeOf37 rfl rfl (((a5.atN).part 0 2 _ rfl).gr (hC.bl ae))) ?_;refine xv rfl rfl (fun _ hC=>Xd isAgg39 sizeOf39 (an.gr (hC.bl ae))) ?_;refine xe rfl rfl ?_;intro bq hC0;have hC:=hC0.bl ae;obtain ⟨br,ba,hm⟩:=bZ hm;replace am:=am.keep (Zi.start col w0);replace aw:=aw.keep (Zi.start col w0);replace aa:=((aa.grow a9).grow a4).grow hC;refine Zj (Zat 3 ba (am.ks aa) (aw.ks aa)) ?_;rintro _ bs ⟨ah,bt,bu,rfl,a6,ax⟩;refine ⟨_,rfl,?_⟩;refine Zl<|Xz ah hC0 a6<|xe rfl rfl ?_;intro bb hC0;have hC:=hC0.bl ah;obtain ⟨bv,bc,hm⟩:=bZ hm;replace al:=al.keep (Zi.start col w0);replace aa:=(aa.grow a6).grow hC;replace ax:=ax.gr hC;refine Zj (Zma 4 bc ((al.ks aa).froz 3) (ax.toSlF (Zd.int .u32))) ?_;rintro _ bw ⟨bd,bx,bz,rfl,ai,ab⟩;refine ⟨_,rfl,?_⟩;replace av:=av.keep (Zi.start col w0);replace ab:=ab.thaw (Z7 .u32) ai ((Fz.refl (col:=ah)).froz 3) (by decide);replace ai:=ai.thawR (col:=ah);generalize Xj bb.heap.size ah bd=a7 at *;refine Zl<|Xz a7 hC0 ai<|xe rfl rfl ?_;intro b0 hC0;have hC:=hC0.bl a7;obtain ⟨b1,be,hm⟩:=bZ hm;replace aa:=(aa.grow ai).grow hC;refine Zj (Zat 5 be (al.ks aa) (av.ks aa)) ?_;rintro _ b2 ⟨aj,b3,b4,rfl,ay,az⟩;refine ⟨_,rfl,?_⟩;refine Zl<|Xz aj hC0 ay<|xe rfl rfl ?_;intro bf hC0;replace ab:=(ab.gr hC).gr ay;have hC:=hC0.bl aj;obtain ⟨b5,bg,hm⟩:=bZ hm;replace aa:=(aa.grow ay).grow hC;replace az:=az.gr hC
 refine Zj (Zma 6 bg ((am.ks aa).froz 5) (az.toSlF (Zd.int .u32))) ?_;rintro _ b6 ⟨bh,b7,b8,rfl,af,ak⟩;refine ⟨_,rfl,?_⟩;replace ak:=ak.thaw (Z7 .u32) af ((Fz.refl (col:=aj)).froz 5) (by decide);replace af:=af.thawR (col:=aj);generalize Xj bf.heap.size aj bh=ag at *;refine Zl<|Xz ag hC0 af<|xe rfl rfl ?_;intro bi hC0;replace ab:=(ab.gr hC).gr af;have hC:=hC0.bl ag;obtain ⟨b9,bj,hm⟩:=bZ hm;replace ab:=ab.gr hC;replace ak:=ak.gr hC;refine Zj (Z5a bj ((ab.toSlF (Zd.int .u32)).froz 6) ((ak.froz 4 (by decide)).toSlF (Zd.int .u32))) ?_;rintro _ bk ⟨rfl,ao⟩;refine ⟨_,rfl,?_⟩;replace ao:Zh ag bi ag bk:=.of_below ao;refine Zl<|Xz ag hC0 ao<|xu rfl rfl (fun _=>Zr5 rfl) ?_;refine Wi ?_;replace aa:=((aa.grow af).grow hC).grow ao;intro ca hC;replace hC:=hC.bl ag;refine Vv ?_;cases hm;replace aa:=aa.grow hC;exact ⟨rfl,rfl,aa.below⟩
def Zc9 (N:Nat):List R1→Bool→R2→R2→Option R1
  | [],aa,ab,ac=>some ((aa,ab),ac)
  | ad :: af,aa,ab,ac=>(Su N ((aa,ab),ac) ((ad.1.1,ad.1.2),ad.2)).bind fun ae=>(Zc9 N af) ae.1.1 ae.1.2 ae.2
termination_by structural x=>x
def Zc8 (N:Nat) (aa:R4):Option R1:=
  (Q9 N 1).bind fun ab=>Zc9 N aa false ([]:List Int) ab
theorem Zpm {N ba:Nat} {a0:Option Addr} {col:Ze} {w0:World} {af:R4} {r:R1} (c1 c2:Nat) (hm:Zc8 N af=some r) (h0:Sl (Za.pair (Za.pair Za.bool (Za.slice (Za.int .u32))) (Za.slice (Za.int .u32))) col w0 a0 ba af):
    Calls prog 80 #[.slice a0 af.length ba] w0 (fun e w'=>∃ (col':Ze) (ra1:Option Addr) (rc2:Nat) (ra4:Option Addr) (rc5:Nat),e= .returned ((.agg #[.bool r.1.1,.slice ra1 r.1.2.length rc2,.slice ra4 r.2.length rc5]))∧Zh col w0 col' w'∧Zb (Za.int .u32) 95 c1 col' w' ra1 rc2 r.1.2∧Zb (Za.int .u32) 95 c2 col' w' ra4 rc5 r.2):=by
 refine Wq (m:=19) func80 rfl rfl rfl ?_;rw [Zc8.eq_1] at hm;have aa:=St.start col w0;refine go ?_;refine Xr (col:=(Zk col)) #[.bool false,.slice none (([]:List Int).length) 0,.slice none (([]:List Int).length) 0] 1 zeroValue39 ?_;intro bc cb bd be ab;refine go ?_;obtain ⟨bf,bg,hm⟩:=bZ hm;refine Zj (Zej (col:=bd) 2 bg) ?_;rintro _ cc ⟨bh,bi,bj,rfl,bb,aw⟩;refine ⟨_,rfl,?_⟩;refine lV (.agg #[.bool false,.slice none (([]:List Int).length) 0,.slice bi bf.length bj]) (Wy (l:=[_,_]) (qs:=[(0,2),(2,1)]) underlying39 zeroValue39 ⟨rfl,sizeOf37,rfl,sizeOf35,trivial⟩ rfl)<|Xr (col:=bh) #[.bool false,.slice none (([]:List Int).length) 0,.slice none (([]:List Int).length) 0] 3 zeroValue39 ?_;intro bk cd ce ax bm;refine Z5 bm ?_;intro cf ay bn ac;refine go ?_;replace aa:=(((aa.grow be).grow bb).grow ax).kp ay bn;replace ab:=((ab.gr bb).gr ax).kp ay;replace aw:=(aw.gr ax).kp ay;refine Z4 [2,3,8,9,1000000] (fun n f ak=>∃ ag an az a1 a2 aq a3 a4 ar ao,n=ao.length∧af.drop an=ao∧Zc9 N ao az aq ar=some r∧St w0 (Zk col) ag ak∧Zf 39 1 ag ak bc #[.bool false,.slice none (([]:List Int).length) 0,.slice none (([]:List Int).length) 0]∧Zb (Za.int .u32) 95 4 ag ak a1 a2 aq∧Zb (Za.int .u32) 95 2 ag ak a3 a4 ar∧Zf 39 3 ag ak bk #[.bool az,.slice a1 aq.length a2,.slice a3 ar.length a4]∧[10].map f=[.int .i64 an]) af.length ⟨_,0,_,none,0,_,_,_,_,_,rfl,rfl,hm,aa,ab,Zb.nil,aw,ac,rfl⟩ ?_;clear hm;intro n f ak hI;obtain ⟨ag,an,az,a1,a2,aq,a3,a4,ar,ao,hn,hl,hm,aa,ab,al,am,ac,hs⟩:=hI;subst hn;refine .lL [10] hs ?_;replace h0:=h0.keep (Zi.start col w0)
 cases ao with
 | nil=>
  have hk:¬ ((an:Int)<(af.length:Int)):=by have:=aH.1 hl;omega
  have hkb:=decide_eq_false hk;rw [Zc9.eq_1] at hm;refine go ?_;refine X2 (congrArg Value.bool hkb)<|go ?_;refine lV _ (Xd isAgg39 sizeOf39 ac)<|Z5 ab ?_;intro cg a5 bo bp;refine go ?_;cases hm;replace al:=al.kp a5;replace am:=am.kp a5;replace aa:=aa.kp a5 bo;exact ⟨rfl,_,ra bp.atN,_,_,_,_,_,rfl,aa.fin (cm [(4,c1),(2,c2)]),aa.fo al,aa.fo am⟩
 | cons a6 bq=>
  obtain ⟨a7,br,bs⟩:=Yd hl;have hk:(an:Int)<(af.length:Int):=by omega
  have hkb:=decide_eq_true hk;rw [Zc9.eq_2] at hm;refine go ?_;refine X3 (congrArg Value.bool hkb)<|go ?_;refine lI a7 ((h0.ks aa).addr a7) ?_;obtain ⟨_,bt,bu⟩:=(h0.ks aa).atN a7;obtain ⟨_,_,rfl,bv,bw⟩:=Uw bt;obtain ⟨_,_,rfl,bx,bz⟩:=Uw bv;obtain ⟨rfl,_⟩:=bx;obtain ⟨⟨b0,b1,rfl,a8⟩,_⟩:=bz;obtain ⟨⟨b2,b3,rfl,a9⟩,_⟩:=bw;refine lV (.agg #[.bool a6.1.1,.slice b0 a6.1.2.length b1,.slice b2 a6.2.length b3]) (W4 isAgg39 sizeOf39 rfl rfl bu)<|Xr (col:=ag) #[.bool false,.slice none (([]:List Int).length) 0,.slice none (([]:List Int).length) 0] 5 zeroValue39 ?_;intro ch ci au ah b4;refine Z5 b4 ?_;intro b5 ai b6 b7;refine go ?_;replace ac:=(ac.gr ah).kp ai;refine lV _ (Xd isAgg39 sizeOf39 ac)<|lV _ (Xd isAgg39 sizeOf39 b7) ?_;obtain ⟨cj,b8,hm⟩:=bZ hm;replace al:=(al.gr ah).kp ai;replace am:=(am.gr ah).kp ai;replace a8:=(a8.gr ah).kp ai;replace a9:=(a9.gr ah).kp ai;refine Zj (Zja 6 7 b8 ((al.toSlF (Zd.int .u32)).froz 2) ((am.froz 4 (by decide)).toSlF (Zd.int .u32)) ((a8.froz 4).froz 2) ((a9.froz 4).froz 2)) ?_;rintro _ ck ⟨b9,cl,cn,co,cp,rfl,aj,ad,ae⟩;refine ⟨_,rfl,?_⟩;replace ad:=ad.thaw (Z7 .u32) aj (((Fz.refl (col:=au)).froz 4).froz 2) (by decide);replace ae:=ae.thaw (Z7 .u32) aj (((Fz.refl (col:=au)).froz 4).froz 2) (by decide);replace aj:=aj.thawR (col:=au);generalize Xj b5.heap.size au b9=cq at *;replace ac:=ac.gr aj;refine Z5 ac ?_;intro cr av ca ap;refine go ?_;replace ad:=ad.kp av;replace ad:=ad.recolSelf 4 (by decide);replace ae:=ae.kp av;replace ae:=ae.recol 6 4 (by decide);replace ab:=(((ab.gr ah).kp ai).gr aj).kp av;replace ab:=ab.recol 6 4 (by decide);replace ap:=ap.recol 6 4 (by decide);replace aa:=(((aa.grow ah).kp ai b6).grow aj).kp av ca;replace aa:=aa.recol 6 4 (by decide) (by decide);replace ad:=ad.recol 7 2 (by decide);replace ae:=ae.recolSelf 2 (by decide);replace ab:=ab.recol 7 2 (by decide);replace ap:=ap.recol 7 2 (by decide);replace aa:=aa.recol 7 2 (by decide) (by decide);exact ⟨bq.length,by simp,rfl,⟨_,_,_,_,_,_,_,_,_,_,rfl,br,hm,aa,ab,ad,ae,ap,(Yg (congrArg (Value.int .i64) (Yb (aF bs (h0.ks aa).1.1))) rfl)⟩⟩
def Zij (N:Nat) (aa:Int):Option R5:=
  if (decide (aa<0))=true then ((Q9 N (u64.wrap (-(u64.wrap aa)))).bind fun ad=>(Zae N true ad).bind fun ab=>some (ab.1,ab.2)) else ((Q9 N (u64.wrap aa)).bind fun ae=>(Zae N false ae).bind fun ac=>some (ac.1,ac.2))
theorem Zug {N:Nat} {col:Ze} {w0:World} {ai:Int} {r:R5} (c1:Nat) (hm:Zij N ai=some r):
    Calls prog 72 #[.int .i64 ai] w0 (fun e w'=>∃ (col':Ze) (ra1:Option Addr) (rc2:Nat),e= .returned ((.agg #[.bool r.1,.slice ra1 r.2.length rc2]))∧Zh col w0 col' w'∧Zb (Za.int .u32) 95 c1 col' w' ra1 rc2 r.2):=by
 refine Wq (m:=14) func72 rfl rfl rfl ?_;rw [Zij.eq_1] at hm;have aa:=St.start col w0;refine go ?_;refine Xr (col:=(Zk col)) #[.bool false,.slice none (([]:List Int).length) 0] 1 zeroValue37 ?_;intro a5 a6 aj ao ab;refine go ?_;replace aa:=aa.grow ao;refine Zq hm (fun hb hm=>go ?_) fun hb hm=>go ?_
 ·obtain ⟨a7,ap,hm⟩:=bZ hm;refine Zj (Zej (col:=aj) 2 ap) ?_;rintro _ aq ⟨ag,a8,a9,rfl,ak,ar⟩;refine ⟨_,rfl,?_⟩;obtain ⟨ba,au,hm⟩:=bZ hm;refine Zj (Zel 3 au (ar.toSlF (Zd.int .u32))) ?_;rintro _ bb ⟨av,bc,bd,rfl,ac,ad⟩;refine ⟨_,rfl,?_⟩;replace ad:=ad.thaw (Z7 .u32) ac ((Fz.refl (col:=ag)).froz 2) (by decide);replace ac:=ac.thawR (col:=ag);generalize Xj aq.heap.size ag av=be at *;replace ab:=(ab.gr ak).gr ac;refine Z5 ab ?_;intro bf al aw ax;refine go ?_;cases hm;replace aa:=((aa.grow ak).grow ac).kp al aw;replace ad:=ad.kp al;exact ⟨rfl,_,ra ax.atN,_,_,_,rfl,aa.fin (cm [(3,c1)]),aa.fo ad⟩
 obtain ⟨bg,ay,hm⟩:=bZ hm;refine Zj (Zej (col:=aj) 4 ay) ?_;rintro _ az ⟨ah,bh,bi,rfl,am,a0⟩;refine ⟨_,rfl,?_⟩;obtain ⟨bj,a1,hm⟩:=bZ hm;refine Zj (Zel 5 a1 (a0.toSlF (Zd.int .u32))) ?_;rintro _ bk ⟨a2,bm,bn,rfl,ae,af⟩;refine ⟨_,rfl,?_⟩;replace af:=af.thaw (Z7 .u32) ae ((Fz.refl (col:=ah)).froz 4) (by decide);replace ae:=ae.thawR (col:=ah);generalize Xj az.heap.size ah a2=bo at *;replace ab:=(ab.gr am).gr ae;refine Z5 ab ?_;intro bp an a3 a4;refine go ?_;cases hm;replace aa:=((aa.grow am).grow ae).kp an a3;replace af:=af.kp an;exact ⟨rfl,_,ra a4.atN,_,_,_,rfl,aa.fin (cm [(5,c1)]),aa.fo af⟩
def Zg4 (N:Nat) (ac:R5) (aa:R5):Option (R1×Int):=
  (Zd3 N (aa.1,aa.2)).bind fun ad=>if (decide (ad=0))=true then (some (((false,([]:List Int)),([]:List Int)),11)) else ((Zda N (!decide (ac.1=aa.1)) ac.2 aa.2).bind fun ab=>some (((ab.1.1,ab.1.2),ab.2),0))
theorem Ztz {N an ao:Nat} {ap aq:Option Addr} {col:Ze} {w0:World} {ae af:R5} {r:(R1×Int)} (c1 c2:Nat) (hm:Zg4 N ae af=some r) (ai:Sl (Za.int .u32) col w0 ap an ae.2) (ag:Sl (Za.int .u32) col w0 aq ao af.2):
    Calls prog 71 #[(.agg #[.bool ae.1,.slice ap ae.2.length an]),(.agg #[.bool af.1,.slice aq af.2.length ao])] w0 (fun e w'=>∃ (col':Ze) (ra1:Option Addr) (rc2:Nat) (ra4:Option Addr) (rc5:Nat),e= .returned (.tuple #[(.agg #[.bool r.1.1.1,.slice ra1 r.1.1.2.length rc2,.slice ra4 r.1.2.length rc5]),.int .i64 r.2])∧Zh col w0 col' w'∧Zb (Za.int .u32) 95 c1 col' w' ra1 rc2 r.1.1.2∧Zb (Za.int .u32) 95 c2 col' w' ra4 rc5 r.1.2):=by
 refine Wq (m:=20) func71 rfl rfl rfl ?_;rw [Zg4.eq_1] at hm;have aa:=St.start col w0;refine go ?_;refine Xs (col:=(Zk col)) 1 rfl ?_;intro a8 a9 aw ax ah;refine Xs (col:=aw) 2 rfl ?_;intro ba bb ay ar ab;refine Xr (col:=ay) #[.bool false,.slice none (([]:List Int).length) 0,.slice none (([]:List Int).length) 0] 3 zeroValue39 ?_;intro bc az au aj ac;refine go ?_;replace ab:=ab.gr aj;refine lV _ (Xd isAgg37 sizeOf37 ab) ?_;obtain ⟨bd,a0,hm⟩:=bZ hm;replace ag:=ag.keep (Zi.start col w0);replace aa:=((aa.grow ax).grow ar).grow aj;refine Zj (Zmb a0 (ag.ks aa)) ?_;rintro _ a1 ⟨rfl,ad⟩;refine ⟨_,rfl,?_⟩;replace ad:Zh au az au a1:=.of_below ad;refine go ?_;replace ai:=ai.keep (Zi.start col w0);replace ah:=((ah.gr ar).gr aj).gr ad;replace ab:=ab.gr ad;replace ac:=ac.gr ad;replace aa:=aa.grow ad;refine Zq hm (fun hb hm=>go ?_) fun hb hm=>go ?_
 ·refine lV (.agg #[.bool false,.slice none (([]:List Int).length) 0,.slice none (([]:List Int).length) 0]) (Wy (l:=[_,_]) (qs:=[(0,2),(2,1)]) underlying39 zeroValue39 ⟨rfl,sizeOf37,rfl,sizeOf35,trivial⟩ rfl)<|Z5 ac ?_;intro be a2 a3 a4;refine go ?_;cases hm;replace aa:=aa.kp a2 a3;exact ⟨rfl,_,Uj a4.atN,_,none,0,none,0,rfl,aa.fin (cm []),Zb.nil,Zb.nil⟩
 refine Xk ah<|Xk ab ?_;refine go ?_;refine Xk ah<|Xk ab ?_;obtain ⟨bf,a5,hm⟩:=bZ hm;refine Zj (Zl9 4 5 a5 (ai.ks aa) (ag.ks aa)) ?_;rintro _ bg ⟨bh,bi,bj,bk,bm,rfl,av,ak,al⟩;refine ⟨_,rfl,?_⟩;replace ac:=ac.gr av;refine Z5 ac ?_;intro bn am a6 a7;refine go ?_;cases hm;replace aa:=(aa.grow av).kp am a6;replace ak:=ak.kp am;replace al:=al.kp am;exact ⟨rfl,_,Uj a7.atN,_,_,_,_,_,rfl,aa.fin (cm [(4,c1),(5,c2)]),aa.fo ak,aa.fo al⟩
def Zbt (N:Nat) (ad:Int) (ae:Int):Option (R1×Int):=
  (Zij N ad).bind fun ab=>(Zij N ae).bind fun ac=>(Zg4 N (ab.1,ab.2) (ac.1,ac.2)).bind fun aa=>some (((aa.1.1.1,aa.1.1.2),aa.1.2),aa.2)
theorem Zl8 {N:Nat} {col:Ze} {w0:World} {ak al:Int} {r:(R1×Int)} (c1 c2:Nat) (hm:Zbt N ak al=some r):
    Calls prog 14 #[.int .i64 ak,.int .i64 al] w0 (fun e w'=>∃ (col':Ze) (ra1:Option Addr) (rc2:Nat) (ra4:Option Addr) (rc5:Nat),e= .returned (.tuple #[(.agg #[.bool r.1.1.1,.slice ra1 r.1.1.2.length rc2,.slice ra4 r.1.2.length rc5]),.int .i64 r.2])∧Zh col w0 col' w'∧Zb (Za.int .u32) 95 c1 col' w' ra1 rc2 r.1.1.2∧Zb (Za.int .u32) 95 c2 col' w' ra4 rc5 r.1.2):=by
 refine Wq (m:=13) func14 rfl rfl rfl ?_;rw [Zbt.eq_1] at hm;have ab:=St.start col w0;refine go ?_;refine Xr (col:=(Zk col)) #[.bool false,.slice none (([]:List Int).length) 0,.slice none (([]:List Int).length) 0] 1 zeroValue39 ?_;intro a4 a5 an ao ag;refine go ?_;obtain ⟨a6,ap,hm⟩:=bZ hm;refine Zj (Zug (col:=an) 2 ap) ?_;rintro _ a7 ⟨aq,a8,a9,rfl,am,ah⟩;refine ⟨_,rfl,?_⟩;refine X1 rfl ?_;obtain ⟨ba,ar,hm⟩:=bZ hm;refine Zj (Zug (col:=aq) 3 ar) ?_;rintro _ au ⟨ae,bb,bc,rfl,ai,av⟩;refine ⟨_,rfl,?_⟩;obtain ⟨af,aw,hm⟩:=bZ hm;replace ah:=ah.gr ai;refine Zj (Ztz 4 5 aw ((ah.toSlF (Zd.int .u32)).froz 3) ((av.froz 2 (by decide)).toSlF (Zd.int .u32))) ?_;rintro _ bd ⟨ax,ay,az,a0,a1,rfl,aa,ac,ad⟩;refine ⟨_,rfl,?_⟩;replace ac:=ac.thaw (Z7 .u32) aa (((Fz.refl (col:=ae)).froz 2).froz 3) (by decide);replace ad:=ad.thaw (Z7 .u32) aa (((Fz.refl (col:=ae)).froz 2).froz 3) (by decide);replace aa:=aa.thawR (col:=ae);generalize Xj au.heap.size ae ax=be at *;refine lV (.agg #[.bool af.1.1.1,.slice ay af.1.1.2.length az,.slice a0 af.1.2.length a1]) (Xx rfl rfl)<|lV (.int .i64 af.2) (Xx rfl rfl) ?_;replace ag:=((ag.gr am).gr ai).gr aa;refine Z5 ag ?_;intro bf aj a2 a3;refine go ?_;cases hm;replace ab:=((((ab.grow ao).grow am).grow ai).grow aa).kp aj a2;replace ac:=ac.kp aj;replace ad:=ad.kp aj;exact ⟨rfl,_,Uj a3.atN,_,_,_,_,_,rfl,ab.fin (cm [(4,c1),(5,c2)]),ab.fo ac,ab.fo ad⟩
def Ta (N:Nat) (aa:R1):Option Int:=
  (Zd3 N (aa.1.1,aa.1.2)).bind fun ab=>some ab
theorem Zgg {N ac ag:Nat} {ad ah:Option Addr} {col:Ze} {w0:World} {aa:R1} {r:Int} (hm:Ta N aa=some r) (ae:Sl (Za.int .u32) col w0 ad ac aa.1.2) (ao:Sl (Za.int .u32) col w0 ah ag aa.2):
    Calls prog 12 #[(.agg #[.bool aa.1.1,.slice ad aa.1.2.length ac,.slice ah aa.2.length ag])] w0 (fun e w'=>e= .returned ((.int .i64 r))∧Below w0.heap.size w0 w'):=by
 refine Xl 2 (m:=6) func12 rfl rfl rfl rfl rfl ?_;rw [Ta.eq_1] at hm;have ab:=St.start col w0;refine go ?_;refine Xs (col:=(Zk col)) 1 rfl ?_;intro ap aj ai ak al;refine go ?_;refine Yk ⟨_,_,rfl⟩ ?_;refine lV (.agg #[.bool aa.1.1,.slice ad aa.1.2.length ac]) (W4 isAgg37 sizeOf37 rfl rfl ((al.atN).part 0 2 _ rfl)) ?_;obtain ⟨aq,am,hm⟩:=bZ hm;replace ae:=ae.keep (Zi.start col w0);replace ab:=ab.grow ak;refine Zj (Zmb am (ae.ks ab)) ?_;rintro _ an ⟨rfl,af⟩;refine ⟨_,rfl,?_⟩;replace af:Zh ai aj ai an:=.of_below af;refine go ?_;cases hm;replace ab:=ab.grow af;exact ⟨rfl,rfl,ab.below⟩
def Zbs (N:Nat) (ab:R1) (aa:R1):Option (R1×Int):=
  (Ta N ((aa.1.1,aa.1.2),aa.2)).bind fun ad=>if (decide (ad=0))=true then (some (((false,([]:List Int)),([]:List Int)),11)) else ((Sd N ((aa.1.1,aa.1.2),aa.2)).bind fun ae=>(Sw N ab.1.2 ae).bind fun af=>(Sd N ((ab.1.1,ab.1.2),ab.2)).bind fun ag=>(Sw N ag aa.1.2).bind fun ah=>(Zda N (!decide (ab.1.1=aa.1.1)) af ah).bind fun ac=>some (((ac.1.1,ac.1.2),ac.2),0))
theorem Zty {N a6 a7 a8 a9:Nat} {ba bb bc bd:Option Addr} {col:Ze} {w0:World} {aj ak:R1} {r:(R1×Int)} (c1 c2:Nat) (hm:Zbs N aj ak=some r) (av:Sl (Za.int .u32) col w0 ba a6 aj.1.2) (az:Sl (Za.int .u32) col w0 bb a7 aj.2) (ao:Sl (Za.int .u32) col w0 bc a8 ak.1.2) (aw:Sl (Za.int .u32) col w0 bd a9 ak.2):
    Calls prog 112 #[(.agg #[.bool aj.1.1,.slice ba aj.1.2.length a6,.slice bb aj.2.length a7]),(.agg #[.bool ak.1.1,.slice bc ak.1.2.length a8,.slice bd ak.2.length a9])] w0 (fun e w'=>∃ (col':Ze) (ra1:Option Addr) (rc2:Nat) (ra4:Option Addr) (rc5:Nat),e= .returned (.tuple #[(.agg #[.bool r.1.1.1,.slice ra1 r.1.1.2.length rc2,.slice ra4 r.1.2.length rc5]),.int .i64 r.2])∧Zh col w0 col' w'∧Zb (Za.int .u32) 95 c1 col' w' ra1 rc2 r.1.1.2∧Zb (Za.int .u32) 95 c2 col' w' ra4 rc5 r.1.2):=by
 refine Wq (m:=30) func112 rfl rfl rfl ?_;rw [Zbs.eq_1] at hm;have aa:=St.start col w0;refine go ?_;refine Xs (col:=(Zk col)) 1 rfl ?_;intro b3 b4 bg bh ap;refine Xs (col:=bg) 2 rfl ?_;intro b5 b6 bi be ae;refine Xr (col:=bi) #[.bool false,.slice none (([]:List Int).length) 0,.slice none (([]:List Int).length) 0] 3 zeroValue39 ?_;intro b7 bj ac a0 ab;refine go ?_;replace ae:=ae.gr a0;refine lV _ (Xd isAgg39 sizeOf39 ae) ?_;obtain ⟨b8,bk,hm⟩:=bZ hm;replace ao:=ao.keep (Zi.start col w0);replace aw:=aw.keep (Zi.start col w0);replace aa:=((aa.grow bh).grow be).grow a0;refine Zj (Zgg bk (ao.ks aa) (aw.ks aa)) ?_;rintro _ bm ⟨rfl,al⟩;refine ⟨_,rfl,?_⟩;replace al:Zh ac bj ac bm:=.of_below al;refine go ?_;replace av:=av.keep (Zi.start col w0);replace az:=az.keep (Zi.start col w0);replace ap:=((ap.gr be).gr a0).gr al;replace ae:=ae.gr al;replace ab:=ab.gr al;replace aa:=aa.grow al;refine Zq hm (fun hb hm=>go ?_) fun hb hm=>go ?_
 ·refine lV (.agg #[.bool false,.slice none (([]:List Int).length) 0,.slice none (([]:List Int).length) 0]) (Wy (l:=[_,_]) (qs:=[(0,2),(2,1)]) underlying39 zeroValue39 ⟨rfl,sizeOf37,rfl,sizeOf35,trivial⟩ rfl)<|Z5 ab ?_;intro b9 bn bo bp;refine go ?_;cases hm;replace aa:=aa.kp bn bo;exact ⟨rfl,_,Uj bp.atN,_,none,0,none,0,rfl,aa.fin (cm []),Zb.nil,Zb.nil⟩
 refine W7 (col:=ac) [(0,1),(1,1),(2,0),(3,1),(4,1),(5,0),(6,1),(7,1),(8,1),(9,0),(10,0),(13,0),(15,1),(16,1),(17,0),(11,3),(12,3),(14,3),(18,3),(19,3),(20,2),(21,1)] (by kernel_rfl) (by kernel_rfl)<|xF ⟨_,_,rfl⟩ ?_;refine xF (Zbj ⟨_,_,rfl⟩) ?_;refine xW (fun _ hC=>((((ap.atN).part 0 2 _ rfl)).nth (q:=0) rfl).gr (hC.bl ac)) ?_;refine xF ⟨_,_,rfl⟩ ?_;refine xF (Zbj ⟨_,_,rfl⟩) ?_;refine xW (fun _ hC=>((((ae.atN).part 0 2 _ rfl)).nth (q:=0) rfl).gr (hC.bl ac)) ?_;refine xu rfl rfl (fun _=>Zit _ _ underlying4 rfl rfl) ?_;refine xF ⟨_,_,rfl⟩ ?_;refine xF (Zbj ⟨_,_,rfl⟩) ?_;refine xW (fun _ hC=>((((ap.atN).part 0 2 _ rfl)).nth (q:=1) rfl).gr (hC.bl ac)) ?_;refine xv rfl rfl (fun _ hC=>Xd isAgg39 sizeOf39 (ae.gr (hC.bl ac))) ?_;refine xv rfl rfl (fun _ hC=>Xd isAgg39 sizeOf39 (ap.gr (hC.bl ac))) ?_;refine xF ⟨_,_,rfl⟩ ?_;refine xF (Zbj ⟨_,_,rfl⟩) ?_;refine xW (fun _ hC=>((((ae.atN).part 0 2 _ rfl)).nth (q:=1) rfl).gr (hC.bl ac)) ?_;refine xe rfl rfl ?_;intro ca hC0;have hC:=hC0.bl ac;obtain ⟨cb,bq,hm⟩:=bZ hm;replace aa:=aa.grow hC;refine Zj (Zat 4 bq (ao.ks aa) (aw.ks aa)) ?_;rintro _ cc ⟨aq,cd,ce,rfl,a1,a2⟩;refine ⟨_,rfl,?_⟩;refine Zl<|Xz aq hC0 a1<|xe rfl rfl ?_;intro br hC0;replace ab:=(ab.gr hC).gr a1;have hC:=hC0.bl aq;obtain ⟨cf,bs,hm⟩:=bZ hm;replace aa:=(aa.grow a1).grow hC;replace a2:=a2.gr hC;refine Zj (Zcq 5 bs ((av.ks aa).froz 4) (a2.toSlF (Zd.int .u32))) ?_;rintro _ cg ⟨bt,ch,ci,rfl,am,ad⟩;refine ⟨_,rfl,?_⟩;replace ad:=ad.thaw (Z7 .u32) am ((Fz.refl (col:=aq)).froz 4) (by decide);replace am:=am.thawR (col:=aq);generalize Xj br.heap.size aq bt=bf at *;refine Zl<|Xz bf hC0 am<|xe rfl rfl ?_;intro cj hC0;replace ab:=(ab.gr hC).gr am;have hC:=hC0.bl bf;obtain ⟨ck,bu,hm⟩:=bZ hm;replace aa:=(aa.grow am).grow hC;refine Zj (Zat 6 bu (av.ks aa) (az.ks aa)) ?_;rintro _ cl ⟨ar,cn,co,rfl,ax,a3⟩;refine ⟨_,rfl,?_⟩;refine Zl<|Xz ar hC0 ax<|xe rfl rfl ?_;intro bv hC0;replace ad:=(ad.gr hC).gr ax;replace ab:=(ab.gr hC).gr ax;have hC:=hC0.bl ar;obtain ⟨cp,bw,hm⟩:=bZ hm;replace aa:=(aa.grow ax).grow hC;replace a3:=a3.gr hC;refine Zj (Zcq 7 bw (a3.toSlF (Zd.int .u32)) ((ao.ks aa).froz 6)) ?_
 rintro _ cq ⟨bx,cr,cs,rfl,af,au⟩;refine ⟨_,rfl,?_⟩;replace au:=au.thaw (Z7 .u32) af ((Fz.refl (col:=ar)).froz 6) (by decide);replace af:=af.thawR (col:=ar);generalize Xj bv.heap.size ar bx=an at *;refine Zl<|Xz an hC0 af<|xe rfl rfl ?_;intro bz hC0;replace ad:=(ad.gr hC).gr af;replace ab:=(ab.gr hC).gr af;have hC:=hC0.bl an;obtain ⟨ct,b0,hm⟩:=bZ hm;replace ad:=ad.gr hC;replace au:=au.gr hC;refine Zj (Zl9 8 9 b0 ((ad.toSlF (Zd.int .u32)).froz 7) ((au.froz 5 (by decide)).toSlF (Zd.int .u32))) ?_;rintro _ cu ⟨b1,cv,cw,cx,cy,rfl,ag,ah,ai⟩;refine ⟨_,rfl,?_⟩;replace ah:=ah.thaw (Z7 .u32) ag (((Fz.refl (col:=an)).froz 5).froz 7) (by decide);replace ai:=ai.thaw (Z7 .u32) ag (((Fz.refl (col:=an)).froz 5).froz 7) (by decide);replace ag:=ag.thawR (col:=an);generalize Xj bz.heap.size an b1=ay at *;refine Zl<|Xz ay hC0 ag<|xe rfl rfl ?_;intro cz hC0;replace aa:=((aa.grow af).grow hC).grow ag;replace ab:=(ab.gr hC).gr ag;have hC:=hC0.bl ay;replace ab:=ab.gr hC;refine Z5 ab ?_;intro c0 a4 b2 a5;refine Zl<|xk ay<|xu rfl rfl (fun _=>Zr5 rfl) ?_;refine Wi ?_;replace ah:=(ah.gr hC).kp a4;replace ai:=(ai.gr hC).kp a4;replace aa:=(aa.grow hC).kp a4 b2;intro c3 hC;replace hC:=hC.bl ay;refine Vv ?_;cases hm;replace ah:=ah.gr hC;replace ai:=ai.gr hC;replace a5:=a5.gr hC;replace aa:=aa.grow hC;exact ⟨rfl,_,Uj a5.atN,_,_,_,_,_,rfl,aa.fin (cm [(8,c1),(9,c2)]),aa.fo ah,aa.fo ai⟩
theorem Zf7 {N k:Nat} {neg:Bool} {m:List Int} (hm:Zn m) (hk:m.length≤k) (hr:Z9 N k):Zae N neg m=some (Xv (Zt (neg,m))):=by
 obtain ⟨a,b⟩:=hr
 rw [Zae,Zri hm (by omega) (by omega),oB,Zlb]
 have e:decide (0<((Zg (Zc m)).length:Int))=decide (Zc m≠0):=by
  by_cases h:Zc m=0
  ·rw [h,Vm];decide
  ·have:=Tt h
   rw [decide_eq_true (by omega),decide_eq_true h]
 cases neg
 ·rw [if_neg (by decide),Zik,Bool.false_and]
 ·rw [if_pos rfl,Zik,e,Bool.true_and]
theorem Xa9 {N k:Nat} {a:ZV} (hm:Zn a.2) (hk:a.2.length≤k) (hr:Z9 N k):Zk8 N a=some (Xv (Zt a)):=by
 rw [Zk8,Zf7 hm hk hr];rfl
theorem Zo4 {N k:Nat} {a:ZV} (hm:Zn a.2) (hk:a.2.length≤k) (hr:Z9 N k):Zd3 N a=some (Zt a).sign:=by
 obtain ⟨b,c⟩:=hr
 rw [Zd3,Z3d hm (by omega) (by omega),oB,Zt]
 by_cases h:Zc a.2=0
 ·rw [h,Zgd,if_pos (by decide)];simp
 ·have d:Xg (Zc a.2)≠0:=by rw [Xg,if_neg h];omega
  rw [if_neg (dF (by omega))]
  by_cases h2:a.1=true
  ·rw [if_pos h2,if_pos h2,Int.sign_eq_neg_one_of_neg (by omega)]
  ·rw [if_neg h2,if_neg h2,Int.sign_eq_one_of_pos (by omega)]
theorem Zi1 {a b:ZV}:(a.1=b.1→Zt (a.1,Zg (Zc a.2+Zc b.2))=Zt a+Zt b)∧(a.1≠b.1→(Zc b.2≤Zc a.2→Zt (a.1,Zg (Zc a.2 - Zc b.2))=Zt a+Zt b)∧(Zc a.2<Zc b.2→Zt (b.1,Zg (Zc b.2 - Zc a.2))=Zt a+Zt b)):=by
 obtain ⟨s,x⟩:=a
 obtain ⟨t,y⟩:=b
 simp only [Zt,Xc]
 cases s <;> cases t <;> simp <;> (try constructor) <;> intros <;> omega
theorem Xa3 {N k l:Nat} {a b:ZV} (ha:Zn a.2) (hb:Zn b.2) (hk:a.2.length≤k) (hl:b.2.length≤l) (hr:Z9 N (k+l+1)):Zk5 N a b=some (Xv (Zt a+Zt b)):=by
 have d:=hr
 obtain ⟨g,i⟩:=d
 have j:=Yq ha
 have m:=Yq hb
 have c:(Zg (Zc a.2+Zc b.2)).length≤k+l+1:=Zmo (by omega) (by omega)
 have e:(Zg (Zc a.2 - Zc b.2)).length≤k+l+1:=by have:=Wx (iY (Zc a.2) (Zc b.2));omega
 have f:(Zg (Zc b.2 - Zc a.2)).length≤k+l+1:=by have:=Wx (iY (Zc b.2) (Zc a.2));omega
 rw [Zk5]
 by_cases h:a.1=b.1
 ·rw [if_pos (dT h),Z26 ha hb (by omega) (by omega) (by omega) (by omega),oB,Zf7 (Xf _) c hr,oB,Zi1.1 h]
 ·rw [if_neg (dF h),Z1o ha hb (by omega) (by omega) (by omega) (by omega),oB]
  by_cases hlt:Zc a.2<Zc b.2
  ·rw [if_pos hlt,if_neg (by decide),Z1o hb ha (by omega) (by omega) (by omega) (by omega),oB,if_neg (by omega),Zf7 (Xf _) f hr,oB,(Zi1.2 h).2 hlt]
  ·rw [if_neg hlt,if_pos rfl,Zf7 (Xf _) e hr,oB,(Zi1.2 h).1 (by omega)]
theorem Xbf (b:ZV):Zt (!b.1,b.2)= -Zt b:=by
 obtain ⟨s,x⟩:=b
 cases s <;> simp [Zt]
theorem Ztb (a b:ZV):Zt (!decide (a.1=b.1),Zg (Zc a.2 * Zc b.2))=Zt a * Zt b:=by
 obtain ⟨s,x⟩:=a
 obtain ⟨t,y⟩:=b
 simp only [Zt,Xc]
 cases s <;> cases t <;> simp [bU,Int.neg_mul,Int.mul_neg]
theorem Xa8 {N k l:Nat} {a b:ZV} (ha:Zn a.2) (hb:Zn b.2) (hk:a.2.length≤k) (hl:b.2.length≤l) (hr:Z9 N (k+l)):Zk7 N a b=some (Xv (Zt a * Zt b)):=by
 have c:=hr
 obtain ⟨d,e⟩:=c
 have f:=Yq ha
 have g:=Yq hb
 have:=U3 (Zc a.2) (Zc b.2)
 rw [Zk7,Zla ha hb (by omega) (by omega),oB,Zf7 (k:=k+l) (Xf _) (by omega) hr,oB,Ztb]
theorem Xbd (a b:ZV):(if (Zt a).sign<(Zt b).sign then -1 else if (Zt b).sign<(Zt a).sign then 1 else (Zt a).sign * (if Zc a.2<Zc b.2 then -1 else if Zc b.2<Zc a.2 then 1 else 0))=Zam (Zt a) (Zt b):=by
 obtain ⟨s,x⟩:=a
 obtain ⟨t,y⟩:=b
 have c:∀ z:Int,z.sign=if z<0 then -1 else if 0<z then 1 else 0:=fun z=>(Zpa z).symm
 rw [c,c]
 unfold Zam
 simp only [Zt]
 generalize Zc x=X
 generalize Zc y=Y
 cases s <;> cases t <;> simp only [if_true,Bool.false_eq_true,if_false] <;> (repeat' split) <;> omega
theorem Xa5 {N k l:Nat} {a b:ZV} (ha:Zn a.2) (hb:Zn b.2) (hk:a.2.length≤k) (hl:b.2.length≤l) (hr:Z9 N (k+l)):Zk6 N a b=some (Zam (Zt a) (Zt b)):=by
 have c:=hr
 obtain ⟨d,e⟩:=c
 have f:-1≤(Zt a).sign∧(Zt a).sign≤1:=by rw [← Zpa];unfold Zam;(repeat' split) <;> omega
 rw [Zk6,Zo4 ha hk (hr.mono (by omega)),oB,Zo4 hb hl (hr.mono (by omega)),oB,← Xbd a b]
 by_cases h1:(Zt a).sign<(Zt b).sign
 ·rw [if_pos (dT h1),if_pos h1]
 ·rw [if_neg (dF h1),if_neg h1]
  by_cases h2:(Zt b).sign<(Zt a).sign
  ·rw [if_pos (dT h2),if_pos h2]
  ·rw [if_neg (dF h2),if_neg h2,Zp2 ha hb (by omega) (by omega) (by omega) (by omega),oB]
   congr 1
   refine Zv ?_
   have:(Zt a).sign= -1∨(Zt a).sign=0∨(Zt a).sign=1:=by omega
   rcases this with h | h | h <;> rw [h] <;> (repeat' split) <;> decide
theorem Z2v {N:Nat} {z:Int} (h:-9223372036854775808≤z∧z≤9223372036854775807) (hr:Z9 N 2):Zij N z=some (Xv z):=by
 have b:=hr
 obtain ⟨f,g⟩:=b
 have c:∀ n:Nat,n<18446744073709551616→(Zg n).length≤2:=fun n d=>W0.2 (by simpa using d)
 rw [Zij]
 by_cases hz:z<0
 ·have e:u64.wrap (-u64.wrap z)= -z:=by rw [IntKind.wrap_u64,IntKind.wrap_u64];omega
  rw [if_pos (dT hz),e,Zlc (by omega) (by omega),oB,Zf7 (Xf _) (c _ (by omega)) hr,oB]
  have a:Zt (true,Zg (-z).toNat)=z:=by simp only [Zt,Xc,if_true];omega
  rw [a]
 ·rw [if_neg (dF hz),Xm (by omega),Zlc (by omega) (by omega),oB,Zf7 (Xf _) (c _ (by omega)) hr,oB]
  have a:Zt (false,Zg z.toNat)=z:=by simp only [Zt,Xc];simp;omega
  rw [a]
theorem Zee {N k:Nat} {a:QV} (ha:RV k a) (hr:Z9 N k):Sd N a=some (Zg (Yv a.2)):=by
 obtain ⟨b,c⟩:=hr
 have:=ha.ld
 rw [Sd,Zri ha.d (by omega) (by omega),oB,Yv]
 by_cases h:Zc a.2=0
 ·rw [h,Vm,if_neg (by decide),if_pos rfl,Zlc (by decide) (by omega)];rfl
 ·have:=Tt h
  rw [if_pos (dT (by omega)),if_neg h]
theorem Q4 {k:Nat} {a:QV} (ha:RV k a):(Zg (Yv a.2)).length≤k+1:=by
 have b:=Yq ha.d
 have c:=ha.ld
 rw [Yv]
 split
 ·rw [Ss];simp
 ·omega
theorem Zoc {N k l n:Nat} {a:ZV} (ha:Zn a.2) (hk:a.2.length≤k) (hl:(Zg n).length≤l) (hr:Z9 N (k+l)):Zdb N a (Zg n)=some (Xv (Zt a * n)):=by
 rw [Zdb,Xa8 (a:=(a.1,a.2)) (b:=(false,Zg n)) ha (Xf _) hk hl hr,oB]
 have e:Zt (false,Zg n)=n:=by simp [Zt,Xc]
 rw [e]
theorem Zmq {N k l:Nat} {neg:Bool} {num den:List Int} (hn:Zn num) (hd:Zn den) (h0:Zc den≠0) (hk:num.length≤k) (hl:den.length≤l) (hr:Z9 N (k+l)):
  Zda N neg num den=some (Zo (mkRat (Zt (neg,num)) (Zc den))):=by
 have b:=hr
 obtain ⟨e,f⟩:=b
 have g:=Yq hn
 have d:=Yq hd
 have c:dE (Zc num) (Zc den)≠0:=fun h=>h0 (Nat.gcd_eq_zero_iff.1 h).2
 have lg:(Zg (dE (Zc num) (Zc den))).length≤den.length:=aU (Wx (Nat.gcd_le_right _ (by omega))) d
 have i:=Wx (cU (Zc num) (dE (Zc num) (Zc den)))
 rw [Zda,Z6x hn hd (by omega) (by omega),oB,Zmd hn (Xf _) (by omega) (by omega),oB,Zmd hd (Xf _) (by omega) (by omega),oB,Xc,if_neg c,if_neg c,
  Xa9 (k:=k) (a:=(neg,Zg (Zc num / dE (Zc num) (Zc den)))) (Xf _) (by simp only;omega) (hr.mono (by omega)),oB,Zx7 h0,Zlb,Xc]
theorem Zer {N k:Nat} {a:QV} (ha:RV k a) (hr:Z9 N k):Ta N a=some (S1 (Zr a)):=by
 rw [Ta,Zo4 (a:=(a.1.1,a.1.2)) ha.m ha.lm hr,oB,Z8z]
theorem Zgq (z:Int):(Xv z).2=Zg z.natAbs:=rfl
theorem Zgr {k l n:Nat} {a:ZV} (ha:Zn a.2) (hk:a.2.length≤k) (hl:(Zg n).length≤l):(Xv (Zt a * n)).2.length≤k+l:=by
 rw [Zgq,gA,eY,Zeh]
 have b:=U3 (Zc a.2) n
 have c:=Yq ha
 omega
theorem Zqc {N k l:Nat} {a b:QV} (ha:RV k a) (hb:RV l b) (hr:Z9 N (2 * (k+l+2))):Zbr N a b=some (Tf (Zr a) (Zr b)):=by
 have c:=Q4 ha
 have d:=Q4 hb
 have e:=Zgr (n:=Yv b.2) ha.m ha.lm d
 have f:=Zgr (n:=Yv a.2) hb.m hb.lm c
 rw [Zbr,Zee hb (hr.mono (by omega)),oB,Zoc (k:=k) (l:=l+1) ha.m ha.lm d (hr.mono (by omega)),oB,Zee ha (hr.mono (by omega)),oB,Zoc (k:=l) (l:=k+1) hb.m hb.lm c (hr.mono (by omega)),oB,
  Xa5 (a:=Xv _) (b:=Xv _) (Sc _) (Sc _) e f (hr.mono (by omega)),oB,T6,T6,Zr,Zr,Zry (Tq _) (Tq _)]
theorem Zuy {N k l:Nat} {a b:QV} (ha:RV k a) (hb:RV l b) (hr:Z9 N (k+l+2)):Sw N (Zg (Yv a.2)) (Zg (Yv b.2))=some (Zg (Yv a.2 * Yv b.2))∧(Zg (Yv a.2 * Yv b.2)).length≤k+l+2∧Yv a.2 * Yv b.2≠0:=by
 have d:=Q4 ha
 have e:=Q4 hb
 have c:=hr
 obtain ⟨f,g⟩:=c
 have:=U3 (Yv a.2) (Yv b.2)
 refine ⟨by rw [Zla (Xf _) (Xf _) (by omega) (by omega),Xc,Xc],by omega,eG (Tq _) (Tq _)⟩
theorem Z14 {x y:Int} {k:Nat} (hx:(Xv x).2.length≤k) (hy:(Xv y).2.length≤k):(Xv (x+y)).2.length≤k+1:=by
 rw [Zgq] at *
 exact aU (Wx (Int.natAbs_add_le _ _)) (Zmo hx hy)
theorem Xan {x y:Int} {k:Nat} (hx:(Xv x).2.length≤k) (hy:(Xv y).2.length≤k):(Xv (x - y)).2.length≤k+1:=by
 rw [Int.sub_eq_add_neg]
 refine Z14 hx ?_
 rw [Zgq,Int.natAbs_neg];exact hy
theorem Z8b (z:Int):((Xv z).1,(Xv z).2)=Xv z:=rfl
theorem Zjk {N k l:Nat} {a b:QV} (ha:RV k a) (hb:RV l b) (hr:Z9 N (2 * (k+l+3))):Su N a b=some (Zo (Zr a+Zr b)):=by
 have c:=Q4 ha
 have d:=Q4 hb
 have f:=Zgr (n:=Yv b.2) ha.m ha.lm d
 have e:=Zgr (n:=Yv a.2) hb.m hb.lm c
 obtain ⟨g,i,j⟩:=Zuy ha hb (hr.mono (by omega))
 have sl:=Z14 (k:=k+l+1) (by omega) (aU e (by omega))
 rw [Su,Zee hb (hr.mono (by omega)),oB,Zoc (k:=k) (l:=l+1) ha.m ha.lm d (hr.mono (by omega)),oB,Zee ha (hr.mono (by omega)),oB,Zoc (k:=l) (l:=k+1) hb.m hb.lm c (hr.mono (by omega)),oB,
  Xa3 (a:=Xv _) (b:=Xv _) (Sc _) (Sc _) f e (hr.mono (by omega)),oB,T6,T6,oB,oB,g,oB,
  Zmq (Sc _) (Xf _) (by rw [Xc];exact j) sl i (hr.mono (by omega)),oB,Z8b,T6,Xc,Zr,Zr,kA _ _ (Tq _) (Tq _)]
theorem Zmi {N k l:Nat} {a b:QV} (ha:RV k a) (hb:RV l b) (hr:Z9 N (2 * (k+l+3))):Qg N a b=some (Zo (Zr a * Zr b)):=by
 have c:=hr
 obtain ⟨g,i⟩:=c
 have j:=ha.lm
 have n:=hb.lm
 have o:=Yq ha.m
 have p:=Yq hb.m
 have q:=U3 (Zc a.1.2) (Zc b.1.2)
 obtain ⟨d,e,f⟩:=Zuy ha hb (hr.mono (by omega))
 rw [Qg,Zla ha.m hb.m (by omega) (by omega),oB,Zee ha (hr.mono (by omega)),oB,Zee hb (hr.mono (by omega)),oB,d,oB,
  Zmq (k:=k+l) (Xf _) (Xf _) (by rw [Xc];exact f) (by omega) e (hr.mono (by omega)),oB,Ztb,Xc,Zr,Zr,kB]
theorem Zq9 (n₁:Int) (d₁:Nat) (b:ZV) (d₂:Nat) (s:Bool) (x:List Int) (h:n₁=Zt (s,x)) (hb:Zc b.2≠0):mkRat n₁ d₁ / mkRat (Zt b) d₂=mkRat (Zt (!decide (s=b.1),Zg (Zc x * d₂))) (d₁ * Zc b.2):=by
 have d:mkRat (Zt b) d₂=(Zt b:Rat) / (d₂:Rat):=dA _ _
 have e:(Zt b:Rat)=(if b.1=true then -1 else 1) * (Zc b.2:Rat):=by
  rw [Zt];split
  ·rw [Rat.intCast_neg,Rat.neg_mul,Rat.one_mul];rfl
  ·rw [Rat.one_mul];rfl
 have f:(Zt (!decide (s=b.1),Zg (Zc x * d₂)):Rat)=(if b.1=true then -1 else 1) * (n₁:Rat) * (d₂:Rat):=by
  subst h
  have:Zt (!decide (s=b.1),Zg (Zc x * d₂))=(if b.1=true then -1 else 1) * Zt (s,x) * (d₂:Int):=by
   obtain ⟨t,y⟩:=b
   simp only [Zt,Xc]
   cases s <;> cases t <;> simp [bU,Int.neg_mul]
  rw [this,jB,jB]
  congr 2
  split <;> rfl
 have g:(Zc b.2:Rat)≠0:=fun h=>hb (Rat.natCast_eq_zero_iff.1 h)
 rw [dA,d,dA,f,e,Rat.natCast_mul]
 have c:(if b.1=true then (-1:Rat) else 1) * (if b.1=true then (-1:Rat) else 1)=1:=by split <;> grind
 generalize (if b.1=true then (-1:Rat) else 1)=sg at *
 generalize (n₁:Rat)=p
 generalize (d₁:Rat)=q
 generalize (d₂:Rat)=r
 generalize (Zc b.2:Rat)=m at *
 have i:sg≠0:=fun h=>by rw [h] at c;grind
 have a:sg⁻¹=sg:=gO c
 simp only [Rat.div_def,Rat.inv_mul_rev,Rat.inv_inv,a]
 grind
theorem Zvj {N k l:Nat} {a b:QV} (ha:RV k a) (hb:RV l b) (hr:Z9 N (2 * (k+l+3))):Zbs N a b=some (if Zr b=0 then (((false,[]),[]),11) else (Zo (Zr a / Zr b),0)):=by
 have d:=hr
 obtain ⟨i,j⟩:=d
 have n:=ha.lm
 have o:=hb.lm
 have p:=Yq ha.m
 have q:=Yq hb.m
 have r:=Q4 ha
 have s:=Q4 hb
 rw [Zbs,Zer hb (hr.mono (by omega)),oB]
 by_cases h0:Zr b=0
 ·rw [if_pos h0,h0,if_pos (by decide)]
 ·have c:Zc b.1.2≠0:=fun h=>h0 ((Z81 b).2 h)
  have f:=U3 (Zc a.1.2) (Yv b.2)
  have g:=U3 (Yv a.2) (Zc b.1.2)
  have e:=Zq9 (Zt a.1) (Yv a.2) b.1 (Yv b.2) a.1.1 a.1.2 rfl c
  rw [if_neg (dF (fun h=>h0 (Zf1.1 h))),if_neg h0,Zee hb (hr.mono (by omega)),oB,Zla ha.m (Xf _) (by omega) (by omega),oB,Zee ha (hr.mono (by omega)),oB,Zla (Xf _) hb.m (by omega) (by omega),oB,Xc,Xc,
   Zmq (k:=k+l+1) (l:=k+l+1) (Xf _) (Xf _) (by rw [Xc];exact eG (Tq _) c) (by omega) (by omega) (hr.mono (by omega)),oB,Xc,← e]
  rfl
theorem Z6u {N k l:Nat} {a b:ZV} (ha:Zn a.2) (hb:Zn b.2) (hk:a.2.length≤k) (hl:b.2.length≤l) (hr:Z9 N (k+l)):Zg4 N a b=some (if Zt b=0 then (((false,[]),[]),11) else (Zo ((Zt a:Rat) / (Zt b:Rat)),0)):=by
 rw [Zg4,Zo4 (a:=(b.1,b.2)) hb hl (hr.mono (by omega)),oB]
 by_cases h0:Zt b=0
 ·rw [if_pos h0,h0,if_pos (by decide)]
 ·have c:Zc b.2≠0:=fun h=>h0 (by have:=Zeh b;omega)
  have e:=Zq9 (Zt a) 1 b 1 a.1 a.2 rfl c
  have d:¬ (Zt b).sign=0:=fun h=>h0 (Int.sign_eq_zero_iff_zero.1 h)
  rw [if_neg (by rw [decide_eq_false d];decide),if_neg h0,Zmq ha hb c hk hl hr,oB]
  rw [dA,dA] at e
  have f:(Zt a:Rat) / ((1:Nat):Rat) / ((Zt b:Rat) / ((1:Nat):Rat))=(Zt a:Rat) / (Zt b:Rat):=by
   have g:((1:Nat):Rat)=1:=rfl
   have i:(1:Rat)⁻¹=1:=gO (by grind)
   simp only [g,Rat.div_def,i,Rat.mul_one]
  rw [f,aX,Nat.mul_one] at e
  rw [e]
  have j:Zt (!decide (a.1=b.1),Zg (Zc a.2))=Zt (!decide (a.1=b.1),a.2):=by simp only [Zt,Xc]
  rw [j]
theorem Zmj {N:Nat} {a b:Int} (h:-9223372036854775808≤a∧a≤9223372036854775807) (g:-9223372036854775808≤b∧b≤9223372036854775807) (hr:Z9 N 4):Zbt N a b=some (if b=0 then (((false,[]),[]),11) else (Zo ((a:Rat) / (b:Rat)),0)):=by
 have c:∀ z:Int,-9223372036854775808≤z∧z≤9223372036854775807→(Xv z).2.length≤2:=fun z d=>W0.2 (by simp;omega)
 rw [Zbt,Z2v h (hr.mono (by omega)),oB,Z2v g (hr.mono (by omega)),oB,Z6u (a:=Xv a) (b:=Xv b) (Sc _) (Sc _) (c _ h) (c _ g) hr,oB,T6,T6]
def Yu (l:List QV):Rat:=(l.map Zr).sum
def X6:List QV→Nat
 | []=>0
 | a :: l=>max a.1.2.length a.2.length+2+X6 l
theorem Zcm {a:QV} (hm:Zn a.1.2) (hd:Zn a.2):RV (max a.1.2.length a.2.length) a:=⟨hm,hd,Nat.le_max_left _ _,Nat.le_max_right _ _⟩
def Vx (a:QV):Prop:=Zn a.1.2∧Zn a.2
theorem Zzb {a:QV} (h:Vx a):qs (Zr a)≤max a.1.2.length a.2.length+1:=by
 have:=Zok (Zcm h.1 h.2)
 omega
theorem Zv4 {N:Nat}:∀ (l:List QV) (q:Rat),(∀ a ∈ l,Vx a)→Z9 N (4 * (qs q+X6 l+3))→Zc9 N l (Zo q).1.1 (Zo q).1.2 (Zo q).2=some (Zo (q+Yu l))∧qs (q+Yu l)≤qs q+X6 l
 | [],q,_,_=>by
  rw [Zc9.eq_1,Yu]
  simp only [List.map_nil,List.sum_nil,Rat.add_zero,X6]
  exact ⟨trivial,by omega⟩
 | a :: l,q,d,b=>by
  have c:=d a aC
  have n:=Zzb c
  rw [X6] at b ⊢
  rw [Zc9.eq_2,Zjk (k:=qs q) (l:=max a.1.2.length a.2.length) (Zlo q) (Zcm c.1 c.2) (b.mono (by omega)),oB]
  have e:Zr ((((Zo q).1.1,(Zo q).1.2),(Zo q).2):QV)=q:=Wt q
  have f:Zr (((a.1.1,a.1.2),a.2):QV)=Zr a:=rfl
  have o:=Zr2 q (Zr a)
  obtain ⟨g,i⟩:=Zv4 l (q+Zr a) (fun x j=>d x (aB _ j)) (b.mono (by omega))
  rw [e,f,g]
  have m:q+Zr a+Yu l=q+Yu (a :: l):=by rw [Yu,Yu,List.map_cons,List.sum_cons,Rat.add_assoc]
  rw [m] at i ⊢
  exact ⟨rfl,by omega⟩
theorem Zqi {N:Nat} {l:List QV} (hl:∀ a ∈ l,Vx a) (hr:Z9 N (4 * (X6 l+4))):Zc8 N l=some (Zo (Yu l))∧qs (Yu l)≤X6 l+1:=by
 have c:=hr
 obtain ⟨f,g⟩:=c
 obtain ⟨b,d⟩:=Zv4 (N:=N) l 0 hl (hr.mono (by rw [Zol];omega))
 rw [Rat.zero_add] at b d
 rw [Zol] at d
 have e:Zo 0=((false,[]),[1]):=by
  rw [Zo,Xv]
  simp only [Rat.zero_num,Rat.zero_den,Int.natAbs_zero,Vm,Ss]
  rfl
 rw [e] at b
 refine ⟨?_,by omega⟩
 rw [Zc8,Zlc (by decide) (by omega),oB,← b]
 rw [show (1:Int).toNat=1 from rfl,Ss]
def Bd (D M:Nat) (q:Rat):Prop:=∃ z:Int,q=mkRat z D∧z.natAbs≤M * D
theorem Bd.lift {D M:Nat} (E:Nat) {q:Rat} (h:Bd D M q) (hD:D≠0) (hE:E≠0):Bd (D * E) M q:=by
 obtain ⟨z,rfl,a⟩:=h
 refine ⟨z * E,?_,?_⟩
 ·rw [Zxn hD (eG hD hE),bU,lO,Int.mul_comm (E:Int)]
 ·rw [gA,eY,← cE]
  exact bC E a
theorem Z7u (a b:Int) {D:Nat} (hD:D≠0):mkRat a D+mkRat b D=mkRat (a+b) D:=by
 rw [kA _ _ hD hD,← Int.add_mul,Zxn (eG hD hD) hD,bU,lO]
theorem Bd.mul {D E M K:Nat} {a b:Rat} (ha:Bd D M a) (hb:Bd E K b):Bd (D * E) (M * K) (a * b):=by
 obtain ⟨x,rfl,c⟩:=ha
 obtain ⟨y,rfl,d⟩:=hb
 refine ⟨x * y,kB _ _ _ _,?_⟩
 rw [gA,Nat.mul_mul_mul_comm M K D E]
 exact Nat.mul_le_mul c d
theorem Bd.one:Bd 1 1 1:=⟨1,rfl,by simp⟩
def Sq:List QV→Nat
 | []=>1
 | x :: t=>Yv x.2 * Sq t
theorem Zp7:∀ t:List QV,Sq t≠0
 | []=>by simp [Sq]
 | x :: t=>eG (Tq x.2) (Zp7 t)
theorem Zu8:∀ (t:List QV),(∀ x ∈ t,Vx x)→(Zg (Sq t)).length≤X6 t+1
 | [],_=>by rw [Sq,Ss];simp
 | x :: t,h=>by
  have a:=h x aC
  have c:=Q4 (Zcm a.1 a.2)
  have d:=Zu8 t fun y b=>h y (aB _ b)
  have e:=U3 (Yv x.2) (Sq t)
  rw [Sq,X6];omega
theorem Z3b {x:QV} (h:0≤Zr x) (g:Zr x≤1):Bd (Yv x.2) 1 (Zr x):=by
 refine ⟨Zt x.1,rfl,?_⟩
 have a:=Tq x.2
 have c:¬ Zt x.1<0:=fun b=>by
  have:Zr x<0:=by
   rw [Zr,show (0:Rat)=mkRat 0 1 from rfl,Zci a (by decide)];omega
  exact absurd h (Rat.not_le.2 this)
 have d:¬ (Yv x.2:Int)<Zt x.1:=fun b=>by
  have:1<Zr x:=by
   rw [Zr,show (1:Rat)=mkRat 1 1 from rfl,Zci (by decide) a];omega
  exact absurd g (Rat.not_le.2 this)
 omega
def Zc2 (kk_L2:(Option Int)):List Int→(List Rc)→Option Int
  | [],aa=>kk_L2
  | ab :: ac,aa=>if (decide (0<((W3 aa ab).getD 0)))=true then (some 40) else ((some (Qr aa ab 1)).bind fun ad=>(Zc2 kk_L2 ac) ad)
termination_by structural x=>x
def Zaz:List R2→Option Int
  | []=>some 0
  | aa :: ab=>Zc2 (Zaz ab) aa ([]:List Rc)
termination_by structural x=>x
def Zgv (kk_L4:(Option Int)) (aa:Bool):Option Int:=
  if aa=true then (some 3) else kk_L4
def Za0 (aa:R6) (kk_L1:(Option Int)):List Int→Option Int
  | []=>kk_L1
  | ab :: ac=>if (decide (ab<0))=true then (Zgv (Za0 aa kk_L1 ac) true) else (Zgv (Za0 aa kk_L1 ac) (decide ((aa.length:Int)≤ab)))
termination_by structural x=>x
def Zay (aa:R6):List R2→Option Int
  | []=>Zaz aa
  | ab :: ac=>Za0 aa (Zay aa ac) ab
termination_by structural x=>x
def Zgu (aa:R6):Option Int:=
  Zay aa aa
theorem Z3i {a6:Nat} {a0:Option Addr} {col:Ze} {w0:World} {ab:R6} {r:Int} (hm:Zgu ab=some r) (h0:Sl (Za.slice (Za.int .i64)) col w0 a0 a6 ab):
    Calls prog 155 #[.slice a0 ab.length a6] w0 (fun e w'=>e= .returned ((.int .i64 r))∧Below w0.heap.size w0 w'):=by
 refine Xl 2 (m:=57) func155 rfl rfl rfl rfl rfl ?_;rw [Zgu.eq_1] at hm;have aa:=St.start col w0;refine go ?_;refine Z4 [0,12,13,1000000] (fun n f a7=>∃ a8 ag ah,n=ah.length∧ab.drop ag=ah∧Zay ab ah=some r∧St w0 (Zk col) a8 a7∧[14].map f=[.int .i64 ag]) ab.length ⟨_,0,_,rfl,rfl,hm,aa,rfl⟩ ?_;clear hm;intro n f a7 hI;obtain ⟨a8,ag,ah,hn,hl,hm,aa,hs⟩:=hI;subst hn;refine .lL [14] hs ?_;replace h0:=h0.keep (Zi.start col w0)
 cases ah with
 | nil=>
  have hk:¬ ((ag:Int)<(ab.length:Int)):=by have:=aH.1 hl;omega
  have hkb:=decide_eq_false hk;rw [Zay.eq_1] at hm;refine go ?_;refine X2 (congrArg Value.bool hkb)<|go ?_;refine Z4 [34,35,1000000] (fun n f a9=>∃ au ai aj,n=aj.length∧ab.drop ai=aj∧Zaz aj=some r∧St w0 (Zk col) au a9∧[36].map f=[.int .i64 ai]) ab.length ⟨_,0,_,rfl,rfl,hm,aa,rfl⟩ ?_;clear hm;intro n f a9 hI;obtain ⟨au,ai,aj,hn,hl,hm,aa,hs⟩:=hI;subst hn;refine .lL [36] hs ?_
  cases aj with
  | nil=>
   have hk:¬ ((ai:Int)<(ab.length:Int)):=by have:=aH.1 hl;omega
   have hkb:=decide_eq_false hk;rw [Zaz.eq_1] at hm;refine go ?_;refine X2 (congrArg Value.bool hkb)<|go ?_;cases hm;exact ⟨rfl,rfl,aa.below⟩
  | cons ak ba=>
   obtain ⟨ac,bi,bj⟩:=Yd hl;have hk:(ai:Int)<(ab.length:Int):=by omega
   have hkb:=decide_eq_true hk;rw [Zaz.eq_2] at hm;refine go ?_;refine X3 (congrArg Value.bool hkb)<|go ?_;refine lI ac ((h0.ks aa).addr ac) ?_;obtain ⟨_,bk,bm⟩:=(h0.ks aa).atN ac;obtain ⟨⟨bn,bo,rfl,ad⟩,_⟩:=bk;refine lW bm.one<|go ?_;refine Z7a (col:=au) (fk:=(Value.int .i64)) (fv:=(Value.int .i64)) 1 rfl underlying191 rfl ?_;intro b3 b4 b5 bb bp;refine go ?_;replace ad:=ad.gr bb;replace aa:=aa.grow bb;refine Z4 [34,35,36,43,44,1000000] (fun n f aq=>∃ ar al av am an,n=an.length∧ak.drop al=an∧Zc2 (Zaz ba) an am=some r∧St w0 (Zk col) ar aq∧Sl (Za.int .i64) ar aq bn bo ak∧Vy (Value.int .i64) (Value.int .i64) 1 ar aq av am∧[45,9].map f=[.int .i64 al,.map (some av)]) ak.length ⟨_,0,_,_,_,rfl,rfl,hm,aa,ad,bp,rfl⟩ ?_;clear hm;intro n f aq hI;obtain ⟨ar,al,av,am,an,hn,hl,hm,aa,ad,bc,hs⟩:=hI;subst hn;refine .lL [45,9] hs ?_
   cases an with
   | nil=>
    have hk:¬ ((al:Int)<(ak.length:Int)):=by have:=aH.1 hl;omega
    have hkb:=decide_eq_false hk;rw [Zc2.eq_1] at hm;refine go ?_;refine X2 (congrArg Value.bool hkb)<|go ?_;exact ⟨ba.length,by simp,rfl,⟨_,_,_,rfl,bi,hm,aa,(Yg (congrArg (Value.int .i64) (Yb (aF bj (h0.ks aa).1.1))) rfl)⟩⟩
   | cons aw bq=>
    obtain ⟨ac,br,bs⟩:=Yd hl;have hk:(al:Int)<(ak.length:Int):=by omega
    have hkb:=decide_eq_true hk;rw [Zc2.eq_2] at hm;refine go ?_;refine X3 (congrArg Value.bool hkb)<|go ?_;refine lI ac (ad.addr ac)<|lW (ad.atInt ac) ?_;refine go ?_;refine lV (.int .i64 ((W3 am aw).getD 0)) (Zzl S5.int bc underlying191 underlying3 zeroValue3 rfl rfl)<|go ?_;refine Zq hm (fun hb hm=>go ?_) fun hb hm=>go ?_
    ·cases hm;exact ⟨rfl,rfl,aa.below⟩
    obtain ⟨bt,ax,hm⟩:=bZ hm;have ax:bt=Qr am aw 1:=(Option.some.inj ax).symm;refine Zwm (k:=aw) (v:=1) S5.int bc underlying191 underlying3 rfl rfl rfl ?_;intro b6 bd bu be;rw [← ax] at be;refine go ?_;replace ad:=ad.kp bd;replace aa:=aa.kp bd bu;exact ⟨bq.length,by simp,rfl,⟨_,_,_,_,_,rfl,br,hm,aa,ad,be,(Yg (congrArg (Value.int .i64) (Yb (aF bs ad.1.1))) rfl)⟩⟩
 | cons af ay=>
  obtain ⟨ac,bv,bw⟩:=Yd hl;have hk:(ag:Int)<(ab.length:Int):=by omega
  have hkb:=decide_eq_true hk;rw [Zay.eq_2] at hm;refine go ?_;refine X3 (congrArg Value.bool hkb)<|go ?_;refine lI ac ((h0.ks aa).addr ac) ?_;obtain ⟨_,bx,bz⟩:=(h0.ks aa).atN ac;obtain ⟨⟨bf,bg,rfl,ae⟩,_⟩:=bx;refine lW bz.one<|go ?_;refine Z4 [0,12,13,14,18,19,1000000] (fun n f az=>∃ a1 ao ap,n=ap.length∧af.drop ao=ap∧Za0 ab (Zay ab ay) ap=some r∧St w0 (Zk col) a1 az∧Sl (Za.int .i64) a1 az bf bg af∧[20].map f=[.int .i64 ao]) af.length ⟨_,0,_,rfl,rfl,hm,aa,ae,rfl⟩ ?_;clear hm;intro n f az hI;obtain ⟨a1,ao,ap,hn,hl,hm,aa,ae,hs⟩:=hI;subst hn;refine .lL [20] hs ?_
  cases ap with
  | nil=>
   have hk:¬ ((ao:Int)<(af.length:Int)):=by have:=aH.1 hl;omega
   have hkb:=decide_eq_false hk;rw [Za0.eq_1] at hm;refine go ?_;refine X2 (congrArg Value.bool hkb)<|go ?_;exact ⟨ay.length,by simp,rfl,⟨_,_,_,rfl,bv,hm,aa,(Yg (congrArg (Value.int .i64) (Yb (aF bw (h0.ks aa).1.1))) rfl)⟩⟩
  | cons b0 bh=>
   obtain ⟨ac,b1,b2⟩:=Yd hl;have hk:(ao:Int)<(af.length:Int):=by omega
   have hkb:=decide_eq_true hk;rw [Za0.eq_2] at hm;refine go ?_;refine X3 (congrArg Value.bool hkb)<|go ?_;refine lI ac (ae.addr ac)<|lW (ae.atInt ac)<|Y7 rfl<|Zl<|Z0 ?_;refine Wp.cutK [0,12,13,14,18,19,20,1000000] (fun f a2=>∃ a3 a4,Zgv (Za0 ab (Zay ab ay) bh) a4=some r∧St w0 (Zk col) a3 a2∧Sl (Za.int .i64) a3 a2 bf bg af∧[31].map f=[.bool a4]) ?_ ?_
   ·intro f a2 hJ;obtain ⟨a3,a4,hm,aa,ae,hs⟩:=hJ;rw [Zgv.eq_1] at hm;refine .lL [31] hs ?_;refine Zq hm (fun hb hm=>go ?_) fun hb hm=>go ?_
    ·cases hm;exact ⟨rfl,rfl,aa.below⟩
    exact ⟨bh.length,by simp,rfl,⟨_,_,_,rfl,b1,hm,aa,ae,(Yg (congrArg (Value.int .i64) (Yb (aF b2 ae.1.1))) rfl)⟩⟩
   refine go ?_;refine Yt hm (fun a5 hm=>go ?_) fun a5 hm=>go ?_
   ·refine lV (.bool true) (Yf (congrArg Value.bool a5) rfl)<|Zl ?_;exact ⟨rfl,_,_,hm,aa,ae,rfl⟩
   refine lV (.bool (decide ((ab.length:Int)≤b0))) (X8 (congrArg Value.bool a5) rfl)<|Zl ?_;exact ⟨rfl,_,_,hm,aa,ae,rfl⟩
theorem Z6f:Wv prog 3 1 8:=⟨Tryz.t3,_,rfl,rfl,rfl,rfl,rfl⟩
def Zc1 (aa:Nat) (kk_L1:(Nat→R6→Option R6)):List Int→R6→Option R6
  | [],ab=>kk_L1 (aa+1) ab
  | ad :: ae,ab=>(Zm ab ad).bind fun ac=>Z2 ((ac.length+[(aa:Int)].length) * 8≤140737488355328∧ac.length+[(aa:Int)].length≤maxLen) ((Zc1 aa kk_L1 ae) (ab.set (aA ad) (ac++[(aa:Int)])))
termination_by structural x=>x
def Zax:List R2→Nat→R6→Option R6
  | [],ab,aa=>some aa
  | ac :: ad,ab,aa=>Zc1 ab (Zax ad) ac aa
termination_by structural x=>x
def Zgt (aa:R6):Option R6:=
  Z2 (aa.length * 24≤281474976710656∧aa.length≤maxLen) (Zax aa 0 (aM aa.length (([]:List Int):List Int)))
theorem Z3h {a7:Nat} {a0:Option Addr} {col:Ze} {w0:World} {ae r:R6} (c1:Nat) (hm:Zgt ae=some r) (h0:Sl (Za.slice (Za.int .i64)) col w0 a0 a7 ae):
    Calls prog 157 #[.slice a0 ae.length a7] w0 (fun e w'=>∃ (col':Ze) (ra1:Option Addr) (rc2:Nat),e= .returned ((.slice ra1 r.length rc2))∧Zh col w0 col' w'∧Zb (Za.row 3 (Za.int .i64)) 33 c1 col' w' ra1 rc2 r):=by
 refine Xl 2 (m:=37) func157 rfl rfl rfl rfl rfl ?_;rw [Zgt.eq_1] at hm;have aa:=St.start col w0;refine go ?_;obtain ⟨a8,hm⟩:=Z8 hm;refine Q3 (col:=(Zk col)) (w:=w0) (r:=(Za.row 3 (Za.int .i64))) (n:=ae.length) (x0:=([]:List Int)) 1 rfl underlying24 Tryz.t33 rfl rfl rfl rfl rfl rfl rfl a8.1 a8.2 Zsf ?_;intro b4 b5 b6 bg bh;refine go ?_;replace aa:=aa.grow bg;refine Z4 [11,12,1000000] (fun n f aw=>∃ ax ab ay az ap aj,n=aj.length∧ae.drop ab=aj∧Zax aj ab ap=some r∧St w0 (Zk col) ax aw∧Zb (Za.row 3 (Za.int .i64)) 33 1 ax aw ay az ap∧[13,3].map f=[.int .i64 ab,.slice ay ap.length az]) ae.length ⟨_,0,_,_,_,_,rfl,rfl,hm,aa,bh,rfl⟩ ?_;clear hm;intro n f aw hI;obtain ⟨ax,ab,ay,az,ap,aj,hn,hl,hm,aa,a9,hs⟩:=hI;subst hn;refine .lL [13,3] hs ?_;replace h0:=h0.keep (Zi.start col w0)
 cases aj with
 | nil=>
  have hk:¬ ((ab:Int)<(ae.length:Int)):=by have:=aH.1 hl;omega
  have hkb:=decide_eq_false hk;rw [Zax.eq_1] at hm;refine go ?_;refine X2 (congrArg Value.bool hkb)<|go ?_;cases hm;exact ⟨rfl,_,_,_,rfl,aa.fin (cm [(1,c1)]),aa.fo a9⟩
 | cons ak ba=>
  obtain ⟨af,bi,bj⟩:=Yd hl;have hk:(ab:Int)<(ae.length:Int):=by omega
  have hkb:=decide_eq_true hk;rw [Zax.eq_2] at hm;refine go ?_;refine X3 (congrArg Value.bool hkb)<|go ?_;refine lI af ((h0.ks aa).addr af) ?_;obtain ⟨_,bk,bm⟩:=(h0.ks aa).atN af;obtain ⟨⟨bn,bo,rfl,ac⟩,_⟩:=bk;refine lW bm.one<|go ?_;refine Z4 [11,12,13,18,19,4,1000000] (fun n f al=>∃ aq am ag ah ad an,n=an.length∧ak.drop am=an∧Zc1 ab (Zax ba) an ad=some r∧St w0 (Zk col) aq al∧Sl (Za.int .i64) aq al bn bo ak∧Zb (Za.row 3 (Za.int .i64)) 33 1 aq al ag ah ad∧[20,3].map f=[.int .i64 am,.slice ag ad.length ah]) ak.length ⟨_,0,_,_,_,_,rfl,rfl,hm,aa,ac,a9,rfl⟩ ?_;clear hm;intro n f al hI;obtain ⟨aq,am,ag,ah,ad,an,hn,hl,hm,aa,ac,a1,hs⟩:=hI;subst hn;refine .lL [20,3] hs ?_
  cases an with
  | nil=>
   have hk:¬ ((am:Int)<(ak.length:Int)):=by have:=aH.1 hl;omega
   have hkb:=decide_eq_false hk;rw [Zc1.eq_1] at hm;refine go ?_;refine X2 (congrArg Value.bool hkb)<|go ?_;exact ⟨ba.length,by simp,rfl,⟨_,_,_,_,_,_,rfl,bi,hm,aa,a1,(Yg (congrArg (Value.int .i64) (Yb (aF bj (h0.ks aa).1.1))) rfl)⟩⟩
  | cons ar bp=>
   obtain ⟨af,bq,br⟩:=Yd hl;have hk:(am:Int)<(ak.length:Int):=by omega
   have hkb:=decide_eq_true hk;rw [Zc1.eq_2] at hm;refine go ?_;refine X3 (congrArg Value.bool hkb)<|go ?_;refine lI af (ac.addr af)<|lW (ac.atInt af) ?_;refine go ?_;obtain ⟨ao,au,hm⟩:=bZ hm;refine lI au (a1.addr au) ?_;obtain ⟨_,bb,bc,ai,bs⟩:=a1.open_ 2 (by decide) au;obtain ⟨bt,bu,rfl,a2⟩:=bs.row;replace ai:Y1 (Za.row 3 (Za.int .i64)) 33 1 bb al ag ah ad (aA ar) [.slice bt ao.length bu]:=ai;refine lW ai.atN.one<|X1 rfl<|V7 (col:=bb) [(ab:Int)] 3 ?_;intro b7 bv bw av bx;obtain ⟨bd,hm⟩:=Z8 hm;replace a2:=a2.gr av;refine Q2 (col:=bw) (w:=bv) (r:=(Za.int .i64)) (c:=2) (c2:=2) (a2.ex) (bx.srcN (NB.int (k:=.i64))) rfl underlying33 Z6f rfl rfl rfl bd.1 bd.2 (by decide) ?_;intro be bf b8 bz a3 a4;replace ai:=(ai.gr av).kpp a3;refine lI au (ai.addr)<|Z7b (v:=(.slice be ((ao++[(ab:Int)]).length) bf)) ai rfl sizeOf33 rfl (by intro u hu;simp only [Value.cells,aP,bL,or_false] at hu;subst hu;rfl) rfl rfl (by decide) ?_;intro b0 a5 b1 a6;replace a6:Y1 (Za.row 3 (Za.int .i64)) 33 1 bz b0 ag ah ad (aA ar) [.slice be ((ao++[(ab:Int)]).length) bf]:=a6;replace a4:=a4.kp a5;have b2:=a4.new;have b3:=a6.close b2.has (by decide) (by decide);replace ac:=(((ac.kpp bc).gr av).kpp a3).kp a5;replace ac:=ac.recol 2 1 (by decide);replace aa:=(((aa.kpp bc).grow av).kpp a3).kp a5 b1;replace aa:=aa.recol 2 1 (by decide) (by decide);refine .ld (d:=3) (v:=(.slice ag ((ad.set (aA ar) (ao++[(ab:Int)])).length) ah)) (congrArg (fun n=>Value.slice ag n ah) (show ad.length=(ad.set (aA ar) (ao++[(ab:Int)])).length by simp only [nS])) ?_;refine go ?_;exact ⟨bp.length,by simp,rfl,⟨_,_,_,_,_,_,rfl,bq,hm,aa,ac,b3,(Yg (congrArg (Value.int .i64) (Yb (aF br ac.1.1))) rfl)⟩⟩
def Zc3 (aa:Int) (kk_L2:(Int→Int→Option R7)) (ab:Int):Option R7:=
  kk_L2 (i64.wrap (aa+1)) ab
def Zgw (aa:Int) (ab:Int) (kk_L2:(Int→Int→Option R7)) (ac:Int) (ad:Bool):Option R7:=
  if ad=true then (Zc3 aa kk_L2 ac) else (Zc3 aa kk_L2 ab)
def Qf (N:Nat) (ad:List Int) (ag:Int) (aa:List Int) (ac:Int) (kk_L1:(List Int→Int→Option R7)):Nat→Int→Int→Option R7
  | 0,_,_=>none
  | ah+1,ae,ab=>if (decide (ae<2))=true then ((Zm [i64.wrap ((i64.wrap (2 * ac))+1),i64.wrap ((i64.wrap (2 * ac))+2)] ae).bind fun af=>if (decide (af<(i64.wrap ((ad.length:Int) - 1))))=true then ((Zm aa af).bind fun aj=>(Zm aa ab).bind fun ak=>Zgw ae ab (Qf N ad ag aa ac kk_L1 ah) af (decide (aj<ak))) else (Zgw ae ab (Qf N ad ag aa ac kk_L1 ah) af false)) else (if (decide (ab=ac))=true then (some (ag,aa.take (aA (i64.wrap ((ad.length:Int) - 1))))) else ((Zm aa ab).bind fun al=>(Zm aa ac).bind fun am=>(some (aa.set (aA ac) al)).bind fun ai=>(Zm ai ab).bind fun ao=>(some (ai.set (aA ab) am)).bind fun an=>kk_L1 an ab))
termination_by structural x=>x
def Qe (N:Nat) (aa:List Int) (ab:Int):Nat→R2→Int→Option R7
  | 0,_,_=>none
  | ad+1,ae,ac=>Qf N aa ab ae ac (Qe N aa ab ad) N 0 ac
termination_by structural x=>x
def Zjn (N:Nat) (aa:List Int):Option R7:=
  (Zm aa 0).bind fun ac=>(Zm aa (i64.wrap ((aa.length:Int) - 1))).bind fun ad=>(some (aa.set (aA 0) ad)).bind fun ab=>Z2 ((0:Int)≤(i64.wrap ((aa.length:Int) - 1))∧(i64.wrap ((aa.length:Int) - 1))≤(ab.length:Int)) (Qe N aa ac N ab 0)
theorem Z3j {N g0 al:Nat} {am:Option Addr} {col:Ze} {w0:World} {aa:R2} {r:R7} (qc0 ai:Nat) (hm:Zjn N aa=some r) (hd:U1 [qc0,ai]=true) (ap:Zb (Za.int .i64) 3 ai col w0 am al aa) (hb0:Zf 192 qc0 col w0 g0 #[.slice am aa.length al]):
    Calls prog 194 #[.pointer (some ⟨g0,0,none⟩)] w0 (fun e w'=>∃ (col':Ze) (oa1:Option Addr) (oc2:Nat),e= .returned ((.int .i64 r.1))∧Zu (pS [qc0,ai]) col w0 col' w'∧Zb (Za.int .i64) 3 ai col' w' oa1 oc2 r.2∧Zf 192 qc0 col' w' g0 #[.slice oa1 r.2.length oc2]):=by
 refine Xl 2 (m:=76) func194 rfl rfl rfl rfl rfl ?_;rw [Zjn.eq_1] at hm;have ac:=St.startL (l:=[qc0,ai]) rfl col w0;replace hb0:=hb0.startL (T9 hd 0 rfl) (T8 hd 0 rfl);replace ap:=ap.startL (T9 hd 1 rfl) (T8 hd 1 rfl);refine go ?_;refine lV (.pointer (some ⟨g0,0,none⟩)) (Zak rfl)<|lW hb0.at1<|go ?_;obtain ⟨au,av,hm⟩:=bZ hm;refine lI av (ap.addr av)<|lW (ap.atInt av) ?_;refine go ?_;obtain ⟨bm,be,hm⟩:=bZ hm;refine lI be (ap.addr be)<|lW (ap.atInt be)<|lI av (ap.addr av) ?_;obtain ⟨an,ay,hm⟩:=bZ hm;have ay:an=aa.set (aA 0) bm:=(Option.some.inj ay).symm;refine Wr (x1:=bm) ap av ?_;intro bu bn bv az;rw [← ay] at az;refine .ld (d:=3) (v:=(.slice am an.length al)) (congrArg (fun n=>Value.slice am n al) (show aa.length=an.length by rw [ay,nS])) ?_;replace hb0:=hb0.kp bn;replace hb0:Zf 192 440 (Xh [qc0,ai] col) bu g0 #[.slice am an.length al]:=by rw [← (show aa.length=an.length by rw [ay,nS])];exact hb0
 refine go ?_;obtain ⟨bf,hm⟩:=Z8 hm;refine lv (v:=.slice am (aA (i64.wrap ((aa.length:Int) - 1))) al) rfl rfl (Zlk underlying192 sizeOf3 rfl rfl bf.1 (by have:=az.lecap;have:=bf.2;omega))<|.ld (d:=28) (v:=(.slice am ((an.take (aA (i64.wrap ((aa.length:Int) - 1)))).length) al)) (congrArg (fun n=>Value.slice am n al) (gR (show (aA (i64.wrap ((aa.length:Int) - 1)))≤an.length by have:=bf.2;omega)).symm) ?_;refine lV (.pointer (some ⟨g0,0,none⟩)) (Zak rfl)<|Sr (v:=(.slice am ((an.take (aA (i64.wrap ((aa.length:Int) - 1)))).length) al)) hb0 sizeOf192 rfl rfl (by intro u hu;simp only [Value.cells,aP,bL,or_false] at hu;subst hu;rfl) rfl rfl ?_;intro bw bo bx ab;replace ab:Zf 192 440 (Xh [qc0,ai] col) bw g0 #[(.slice am ((an.take (aA (i64.wrap ((aa.length:Int) - 1)))).length) al)]:=ab;refine go ?_;replace ac:=(ac.kp bn bv).kp bo bx;replace az:=az.kp bo;refine Z4 [4,5,1000000] (fun n f a4=>∃ a5 af ag ah ak ao,ao=n∧Qe N aa au ao ah ak=some r∧St w0 (Xh [qc0,ai] col) a5 a4∧Zb (Za.int .i64) 3 441 a5 a4 af ag ah∧Zf 192 440 a5 a4 g0 #[(.slice af ((ah.take (aA (i64.wrap ((aa.length:Int) - 1)))).length) ag)]∧[3,6].map f=[.slice af ah.length ag,.int .i64 ak]) N ⟨_,_,_,_,0,_,rfl,hm,ac,az,ab,rfl⟩ ?_;clear hm;intro n f a4 hI;obtain ⟨a5,af,ag,ah,ak,ao,hn,hm,ac,ad,ab,hs⟩:=hI;subst hn;refine .lL [3,6] hs ?_
 cases ao with
 | zero=>rw [Qe.eq_1] at hm;cases hm
 | succ ao=>
  rw [Qe.eq_2] at hm;refine go ?_;refine lV (.agg #[(.int .i64 (i64.wrap ((i64.wrap (2 * ak))+1))),(.int .i64 (i64.wrap ((i64.wrap (2 * ak))+2)))]) (Z84 underlying206 sizeOf3 zeroValue206 rfl)<|go ?_;refine Z4 [3,37,4,5,6,1000000] (fun n f a6=>∃ ae a0 a1 aq,aq=n∧Qf N aa au ah ak (Qe N aa au ao) aq a0 a1=some r∧St w0 (Xh [qc0,ai] col) ae a6∧Zb (Za.int .i64) 3 441 ae a6 af ag ah∧Zf 192 440 ae a6 g0 #[(.slice af ((ah.take (aA (i64.wrap ((aa.length:Int) - 1)))).length) ag)]∧[38,7].map f=[.int .i64 a0,.int .i64 a1]) N ⟨_,0,_,_,rfl,hm,ac,ad,ab,rfl⟩ ?_;clear hm;intro n f a6 hI;obtain ⟨ae,a0,a1,aq,hn,hm,ac,ad,ab,hs⟩:=hI;subst hn;refine .lL [38,7] hs ?_
  cases aq with
  | zero=>rw [Qf.eq_1] at hm;cases hm
  | succ aq=>
   rw [Qf.eq_2] at hm;refine go ?_;refine Zq hm (fun hb hm=>?_) fun hb hm=>go ?_
   ·refine Yl<|Z0 ?_;refine Wp.cutK [3,37,38,4,5,6,1000000] (fun f a7=>∃ a8 bg,Zc3 a0 (Qf N aa au ah ak (Qe N aa au ao) aq) bg=some r∧St w0 (Xh [qc0,ai] col) a8 a7∧Zb (Za.int .i64) 3 441 a8 a7 af ag ah∧Zf 192 440 a8 a7 g0 #[(.slice af ((ah.take (aA (i64.wrap ((aa.length:Int) - 1)))).length) ag)]∧[7].map f=[.int .i64 bg]) ?_ ?_
    ·intro f a7 hJ;obtain ⟨a8,bg,hm,ac,ad,ab,hs⟩:=hJ;rw [Zc3.eq_1] at hm;refine .lL [7] hs<|go ?_;exact ⟨aq,by omega,rfl,⟨_,_,_,_,rfl,hm,ac,ad,ab,rfl⟩⟩
    refine go ?_;obtain ⟨bp,bz,hm⟩:=bZ hm;refine lV (.int .i64 bp) (Z89 (l:=[i64.wrap ((i64.wrap (2 * ak))+1),i64.wrap ((i64.wrap (2 * ak))+2)]) (k:=.i64) underlying206 sizeOf3 isAgg3 rfl rfl rfl bz)<|Y7 rfl<|Zl<|Z0 ?_;refine Wp.cutK [3,37,38,4,5,6,7,9,1000000] (fun f a9=>∃ ba bh,Zgw a0 a1 (Qf N aa au ah ak (Qe N aa au ao) aq) bp bh=some r∧St w0 (Xh [qc0,ai] col) ba a9∧Zb (Za.int .i64) 3 441 ba a9 af ag ah∧Zf 192 440 ba a9 g0 #[(.slice af ((ah.take (aA (i64.wrap ((aa.length:Int) - 1)))).length) ag)]∧[54].map f=[.bool bh]) ?_ ?_
    ·intro f a9 hJ;obtain ⟨ba,bh,hm,ac,ad,ab,hs⟩:=hJ;rw [Zgw.eq_1] at hm;refine .lL [54] hs ?_;refine Zq hm (fun hb hm=>go ?_) fun hb hm=>?_
     ·exact ⟨rfl,_,_,hm,ac,ad,ab,rfl⟩
     refine Yl ?_;exact ⟨rfl,_,_,hm,ac,ad,ab,rfl⟩
    refine V4 (col:=ae) (by kernel_rfl) (by kernel_rfl)<|go ?_;refine Yt hm (fun bi hm=>go ?_) fun bi hm=>go ?_
    ·obtain ⟨b0,bj,hm⟩:=bZ hm;refine qI bj (ad.addr bj) ?_;refine go ?_;refine qW (fun _ hC=>(ad.gr (hC.bl ae)).atInt bj) ?_;refine go ?_;obtain ⟨b1,bk,hm⟩:=bZ hm;refine qI bk (ad.addr bk) ?_;refine go ?_;refine qW (fun _ hC=>(ad.gr (hC.bl ae)).atInt bk) ?_;refine go ?_;refine qv (v:=(.bool (decide (b0<b1)))) rfl (fun _ hC=>Yf (congrArg Value.bool bi) rfl) ?_;refine Vc ?_;intro b6 hC;replace hC:=hC.bl ae;replace ad:=ad.gr hC;replace ab:=ab.gr hC;replace ac:=ac.grow hC;exact ⟨rfl,_,_,hm,ac,ad,ab,rfl⟩
    refine qv (v:=(.bool false)) rfl (fun _ hC=>X8 (congrArg Value.bool bi) rfl) ?_;refine Vc ?_;intro b7 hC;replace hC:=hC.bl ae;replace ad:=ad.gr hC;replace ab:=ab.gr hC;replace ac:=ac.grow hC;exact ⟨rfl,_,_,hm,ac,ad,ab,rfl⟩
   refine Zq hm (fun hb hm=>go ?_) fun hb hm=>go ?_
   ·cases hm;exact ⟨rfl,So w0.heap.size [qc0,ai] col ae (fun n=>bif aJ n 441 then ai else bif aJ n 440 then qc0 else 0),af,ag,rfl,ac.finL rfl (fun n=>bif aJ n 441 then ai else bif aJ n 440 then qc0 else 0),ac.finOwnL (g:=(fun n=>bif aJ n 441 then ai else bif aJ n 440 then qc0 else 0)) rfl (ad.take (aA (i64.wrap ((aa.length:Int) - 1)))) (by decide) (by decide) rfl,ac.finBoxL (g:=(fun n=>bif aJ n 441 then ai else bif aJ n 440 then qc0 else 0)) ab (by decide) (by decide) rfl⟩
   refine W7 (col:=ae) [(0,1),(1,1),(2,1),(3,1),(4,1),(5,1),(6,1),(7,0),(8,1),(9,1),(10,1),(11,0),(12,1),(13,2),(14,1),(15,2)] (by kernel_rfl) (by kernel_rfl)<|xu rfl rfl (fun _=>T0 rfl) ?_;refine xu rfl rfl (fun _=>Y4 rfl) ?_;refine xu rfl rfl (fun _=>T0 rfl) ?_;refine xu rfl rfl (fun _=>Y4 rfl) ?_;refine xu rfl rfl (fun _=>T0 rfl) ?_;refine xu rfl rfl (fun _=>Y4 rfl) ?_;obtain ⟨bq,bb,hm⟩:=bZ hm;refine xu rfl rfl (fun _=>Y3 underlying192 sizeOf3 rfl rfl (Xe bb).1 (Xe bb).2.1 (ad.addr bb)) ?_;refine xW (fun _ hC=>(ad.gr (hC.bl ae)).atInt bb) ?_;refine xu rfl rfl (fun _=>T0 rfl) ?_;refine xu rfl rfl (fun _=>Y4 rfl) ?_;obtain ⟨br,ar,hm⟩:=bZ hm;refine xu rfl rfl (fun _=>Y3 underlying192 sizeOf3 rfl rfl (Xe ar).1 (Xe ar).2.1 (ad.addr ar)) ?_;refine xW (fun _ hC=>(ad.gr (hC.bl ae)).atInt ar) ?_;refine xu rfl rfl (fun _=>Y3 underlying192 sizeOf3 rfl rfl (Xe ar).1 (Xe ar).2.1 (ad.addr ar)) ?_;refine xe rfl rfl ?_;intro b8 hC0;have hC:=hC0.bl ae;obtain ⟨aj,aw,hm⟩:=bZ hm;have aw:aj=ah.set (aA ak) bq:=(Option.some.inj aw).symm;replace ad:=ad.gr hC;refine Wr (x1:=bq) ad ar ?_;intro b2 bs b3 a2;rw [← aw] at a2;refine .ld (d:=3) (v:=(.slice af aj.length ag)) (congrArg (fun n=>Value.slice af n ag) (show ah.length=aj.length by rw [aw,nS])) ?_;refine .ld (d:=63) (v:=(.slice af aj.length ag)) (congrArg (fun n=>Value.slice af n ag) (show ah.length=aj.length by rw [aw,nS])) ?_;replace ab:=(ab.gr hC).kp bs;replace ab:Zf 192 440 ae b2 g0 #[(.slice af ((aj.take (aA (i64.wrap ((aa.length:Int) - 1)))).length) ag)]:=by rw [← (show (ah.take (aA (i64.wrap ((aa.length:Int) - 1)))).length=(aj.take (aA (i64.wrap ((aa.length:Int) - 1)))).length by rw [nK,nK,(show ah.length=aj.length by rw [aw,nS])])];exact ab
   refine Zl<|xk ae ?_;obtain ⟨b9,bc,hm⟩:=bZ hm;refine xu rfl rfl (fun _=>Y3 underlying192 sizeOf3 rfl rfl (Xe bc).1 (Xe bc).2.1 (a2.addr bc)) ?_;refine xe rfl rfl ?_;intro ca hC0;replace ac:=(ac.grow hC).kp bs b3;have hC:=hC0.bl ae;obtain ⟨ax,a3,hm⟩:=bZ hm;have a3:ax=aj.set (aA a1) br:=(Option.some.inj a3).symm;replace a2:=a2.gr hC;refine Wr (x1:=br) a2 bc ?_;intro b4 bt b5 bd;rw [← a3] at bd;refine .ld (d:=3) (v:=(.slice af ax.length ag)) (congrArg (fun n=>Value.slice af n ag) (show aj.length=ax.length by rw [a3,nS])) ?_;replace ab:=(ab.gr hC).kp bt;replace ab:Zf 192 440 ae b4 g0 #[(.slice af ((ax.take (aA (i64.wrap ((aa.length:Int) - 1)))).length) ag)]:=by rw [← (show (aj.take (aA (i64.wrap ((aa.length:Int) - 1)))).length=(ax.take (aA (i64.wrap ((aa.length:Int) - 1)))).length by rw [nK,nK,(show aj.length=ax.length by rw [a3,nS])])];exact ab
   refine Zl<|xk ae<|Wi ?_;replace ac:=(ac.grow hC).kp bt b5;intro cb hC;replace hC:=hC.bl ae;refine go ?_;replace bd:=bd.gr hC;replace ab:=ab.gr hC;replace ac:=ac.grow hC;exact ⟨ao,by omega,rfl,⟨_,_,_,_,_,_,rfl,hm,ac,bd,ab,rfl⟩⟩
theorem Z6g:Wv prog 3 1 8:=⟨Tryz.t3,_,rfl,rfl,rfl,rfl,rfl⟩
def Zgy (ab:List Int) (aa:Int) (kk_L1:(List Int→Int→Option R2)) (ad:Bool):Option R2:=
  if ad=true then ((Zm ab (i64.wrap (bJ (i64.wrap (aa - 1)) 2))).bind fun ae=>(Zm ab aa).bind fun af=>(some (ab.set (aA aa) ae)).bind fun ac=>(Zm ac (i64.wrap (bJ (i64.wrap (aa - 1)) 2))).bind fun ah=>(some (ac.set (aA (i64.wrap (bJ (i64.wrap (aa - 1)) 2))) af)).bind fun ag=>kk_L1 ag (i64.wrap (bJ (i64.wrap (aa - 1)) 2))) else (some ab)
def Zbp (N:Nat):Nat→R2→Int→Option R2
  | 0,_,_=>none
  | ac+1,ab,aa=>if (decide (0<aa))=true then ((Zm ab aa).bind fun ad=>(Zm ab (i64.wrap (bJ (i64.wrap (aa - 1)) 2))).bind fun ae=>Zgy ab aa (Zbp N ac) (decide (ad<ae))) else (Zgy ab aa (Zbp N ac) false)
termination_by structural x=>x
def Zgx (N:Nat) (aa:List Int) (ab:Int):Option R2:=
  Z2 ((aa.length+[ab].length) * 8≤140737488355328∧aa.length+[ab].length≤maxLen) (Zbp N N (aa++[ab]) (i64.wrap (((aa++[ab]).length:Int) - 1)))
theorem Ztv {N g0 a7:Nat} {a8:Option Addr} {col:Ze} {w0:World} {ao:R2} {an:Int} {r:R2} (qc0 af:Nat) (hm:Zgx N ao an=some r) (hd:U1 [qc0,af]=true) (ap:Zb (Za.int .i64) 3 af col w0 a8 a7 ao) (hb0:Zf 192 qc0 col w0 g0 #[.slice a8 ao.length a7]):
    Calls prog 193 #[.pointer (some ⟨g0,0,none⟩),.int .i64 an] w0 (fun e w'=>∃ (col':Ze) (oa1:Option Addr) (oc2:Nat),e= .returned (.tuple #[])∧Zu (pS [qc0,af]) col w0 col' w'∧Zb (Za.int .i64) 3 af col' w' oa1 oc2 r∧Zf 192 qc0 col' w' g0 #[.slice oa1 r.length oc2]):=by
 refine Zcs (m:=66) (args:=[.pointer (some ⟨g0,0,none⟩),.int .i64 an]) func193 rfl rfl rfl rfl ?_;rw [Zgx.eq_1] at hm;have ab:=St.startL (l:=[qc0,af]) rfl col w0;replace hb0:=hb0.startL (T9 hd 0 rfl) (T8 hd 0 rfl);replace ap:=ap.startL (T9 hd 1 rfl) (T8 hd 1 rfl);refine go ?_;refine lV (.pointer (some ⟨g0,0,none⟩)) (Zak rfl)<|lW hb0.at1<|X1 rfl<|V7 (col:=(Xh [qc0,af] col)) [an] 1 ?_;intro bw bi bj a0 bk;obtain ⟨a9,hm⟩:=Z8 hm;replace ap:=ap.gr a0;refine Q2 (col:=bj) (w:=bi) (r:=(Za.int .i64)) (c:=441) (c2:=441) (ap.ex) (bk.srcN (NB.int (k:=.i64))) rfl underlying192 Z6g rfl rfl rfl a9.1 a9.2 (by decide) ?_;intro ba bb bx bm bc a1;refine lV (.pointer (some ⟨g0,0,none⟩)) (Zak rfl) ?_;replace hb0:=(hb0.gr a0).kpp bc;refine Sr (v:=(.slice ba ((ao++[an]).length) bb)) hb0 sizeOf192 rfl rfl (by intro u hu;simp only [Value.cells,aP,bL,or_false] at hu;subst hu;rfl) rfl rfl ?_;intro bn bd bo aa;replace aa:Zf 192 440 bm bn g0 #[.slice ba ((ao++[an]).length) bb]:=aa;replace a1:=a1.kp bd;have bp:=a1.new;refine go ?_;refine lV (.pointer (some ⟨g0,0,none⟩)) (Zak rfl)<|lW aa.at1<|go ?_;replace ab:=((ab.grow a0).kpp bc).kp bd bo;refine Z4 [0,1000000] (fun n f au=>∃ ag ah ai aj ae al,al=n∧Zbp N al aj ae=some r∧St w0 (Xh [qc0,af] col) ag au∧Zb (Za.int .i64) 3 441 ag au ah ai aj∧Zf 192 440 ag au g0 #[.slice ah aj.length ai]∧[4].map f=[.int .i64 ae]) N ⟨_,_,_,_,_,_,rfl,hm,ab,bp,aa,rfl⟩ ?_;clear hm;intro n f au hI;obtain ⟨ag,ah,ai,aj,ae,al,hn,hm,ab,ac,aa,hs⟩:=hI;subst hn;refine .lL [4] hs ?_
 cases al with
 | zero=>rw [Zbp.eq_1] at hm;cases hm
 | succ al=>
  rw [Zbp.eq_2] at hm;refine Z0<|Z0 ?_;refine Wp.cutK [0,4,1000000] (fun f av=>∃ ad a2,Zgy aj ae (Zbp N al) a2=some r∧St w0 (Xh [qc0,af] col) ad av∧Zb (Za.int .i64) 3 441 ad av ah ai aj∧Zf 192 440 ad av g0 #[.slice ah aj.length ai]∧[36].map f=[.bool a2]) ?_ ?_
  ·intro f av hJ;obtain ⟨ad,a2,hm,ab,ac,aa,hs⟩:=hJ;rw [Zgy.eq_1] at hm;refine .lL [36] hs ?_;refine Zq hm (fun hb hm=>go ?_) fun hb hm=>go ?_
   ·refine W7 (col:=ad) [(0,1),(1,1),(2,0),(3,1),(4,1),(5,1),(6,0),(7,1),(8,1),(9,1),(10,1),(11,1),(12,0),(13,1),(14,1),(15,1),(16,1),(17,0),(18,1),(19,1),(20,0),(21,1),(22,1),(23,0),(24,1),(25,2),(26,1),(27,2)] (by kernel_rfl) (by kernel_rfl)<|xu rfl rfl (fun _=>Zon rfl) ?_;refine xu (v:=(.pointer (some ⟨g0,0,none⟩))) rfl rfl (fun _=>Zak rfl) ?_;refine xW (fun _ hC=>aa.at1.gr (hC.bl ad)) ?_;refine xu rfl rfl (fun _=>Y4 rfl) ?_;refine xu rfl rfl (fun _=>Zon rfl) ?_;refine xu (v:=(.pointer (some ⟨g0,0,none⟩))) rfl rfl (fun _=>Zak rfl) ?_;refine xW (fun _ hC=>aa.at1.gr (hC.bl ad)) ?_;refine xu rfl rfl (fun _=>Y4 rfl) ?_;refine xu rfl rfl (fun _=>Zoo _ _ rfl rfl) ?_;refine xu (v:=(.int .i64 (i64.wrap (bJ (i64.wrap (ae - 1)) 2)))) rfl rfl (fun _=>Qx (i64.wrap (ae - 1)) 2 rfl rfl (by decide)) ?_;refine xu rfl rfl (fun _=>Zon rfl) ?_;refine xu (v:=(.pointer (some ⟨g0,0,none⟩))) rfl rfl (fun _=>Zak rfl) ?_;refine xW (fun _ hC=>aa.at1.gr (hC.bl ad)) ?_;refine xu rfl rfl (fun _=>Y4 rfl) ?_;refine xu rfl rfl (fun _=>Zoo _ _ rfl rfl) ?_;refine xu (v:=(.int .i64 (i64.wrap (bJ (i64.wrap (ae - 1)) 2)))) rfl rfl (fun _=>Qx (i64.wrap (ae - 1)) 2 rfl rfl (by decide)) ?_;obtain ⟨be,aw,hm⟩:=bZ hm;refine xu rfl rfl (fun _=>Y3 underlying192 sizeOf3 rfl rfl (Xe aw).1 (Xe aw).2.1 (ac.addr aw)) ?_;refine xW (fun _ hC=>(ac.gr (hC.bl ad)).atInt aw) ?_;refine xu rfl rfl (fun _=>Zon rfl) ?_;refine xu (v:=(.pointer (some ⟨g0,0,none⟩))) rfl rfl (fun _=>Zak rfl) ?_;refine xW (fun _ hC=>aa.at1.gr (hC.bl ad)) ?_;refine xu rfl rfl (fun _=>Y4 rfl) ?_;obtain ⟨bf,ak,hm⟩:=bZ hm;refine xu rfl rfl (fun _=>Y3 underlying192 sizeOf3 rfl rfl (Xe ak).1 (Xe ak).2.1 (ac.addr ak)) ?_;refine xW (fun _ hC=>(ac.gr (hC.bl ad)).atInt ak) ?_;refine xu rfl rfl (fun _=>Y3 underlying192 sizeOf3 rfl rfl (Xe ak).1 (Xe ak).2.1 (ac.addr ak)) ?_;refine xe rfl rfl ?_;intro bz hC0;have hC:=hC0.bl ad;obtain ⟨am,aq,hm⟩:=bZ hm;have aq:am=aj.set (aA ae) be:=(Option.some.inj aq).symm;replace ac:=ac.gr hC;refine Wr (x1:=be) ac ak ?_;intro bq bg br ar;rw [← aq] at ar;refine .ld (d:=46) (v:=(.slice ah am.length ai)) (congrArg (fun n=>Value.slice ah n ai) (show aj.length=am.length by rw [aq,nS])) ?_;replace aa:=(aa.gr hC).kp bg;replace aa:Zf 192 440 ad bq g0 #[.slice ah am.length ai]:=by rw [← (show aj.length=am.length by rw [aq,nS])];exact aa
    refine Zl<|xk ad ?_;obtain ⟨b0,ax,hm⟩:=bZ hm;refine xu rfl rfl (fun _=>Y3 underlying192 sizeOf3 rfl rfl (Xe ax).1 (Xe ax).2.1 (ar.addr ax)) ?_;refine xe rfl rfl ?_;intro b1 hC0;replace ab:=(ab.grow hC).kp bg br;have hC:=hC0.bl ad;obtain ⟨a3,ay,hm⟩:=bZ hm;have ay:a3=am.set (aA (i64.wrap (bJ (i64.wrap (ae - 1)) 2))) bf:=(Option.some.inj ay).symm;replace ar:=ar.gr hC;refine Wr (x1:=bf) ar ax ?_;intro bs bh bt az;rw [← ay] at az;replace aa:=(aa.gr hC).kp bh;replace aa:Zf 192 440 ad bs g0 #[.slice ah a3.length ai]:=by rw [← (show am.length=a3.length by rw [ay,nS])];exact aa
    refine Zl<|xk ad<|Wi ?_;replace ab:=(ab.grow hC).kp bh bt;intro b2 hC;replace hC:=hC.bl ad;refine go ?_;refine lV (.int .i64 (i64.wrap (bJ (i64.wrap (ae - 1)) 2))) (Qx (i64.wrap (ae - 1)) 2 rfl rfl (by decide))<|go ?_;replace az:=az.gr hC;replace aa:=aa.gr hC;replace ab:=ab.grow hC;exact ⟨al,by omega,rfl,⟨_,_,_,_,_,_,rfl,hm,ab,az,aa,rfl⟩⟩
   cases hm;exact ⟨rfl,So w0.heap.size [qc0,af] col ad (fun n=>bif aJ n 441 then af else bif aJ n 440 then qc0 else 0),ah,ai,rfl,ab.finL rfl (fun n=>bif aJ n 441 then af else bif aJ n 440 then qc0 else 0),ab.finOwnL (g:=(fun n=>bif aJ n 441 then af else bif aJ n 440 then qc0 else 0)) rfl ac (by decide) (by decide) rfl,ab.finBoxL (g:=(fun n=>bif aJ n 441 then af else bif aJ n 440 then qc0 else 0)) aa (by decide) (by decide) rfl⟩
  refine V4 (col:=ag) (by kernel_rfl) (by kernel_rfl)<|go ?_;refine Yt hm (fun a4 hm=>go ?_) fun a4 hm=>go ?_
  ·refine qv (v:=(.pointer (some ⟨g0,0,none⟩))) rfl (fun _ hC=>Zak rfl) ?_;refine go ?_;refine qW (fun _ hC=>aa.at1.gr (hC.bl ag)) ?_;refine go ?_;obtain ⟨bu,a5,hm⟩:=bZ hm;refine qI a5 (ac.addr a5) ?_;refine go ?_;refine qW (fun _ hC=>(ac.gr (hC.bl ag)).atInt a5) ?_;refine go ?_;refine qv (v:=(.pointer (some ⟨g0,0,none⟩))) rfl (fun _ hC=>Zak rfl) ?_;refine go ?_;refine qW (fun _ hC=>aa.at1.gr (hC.bl ag)) ?_;refine go ?_;refine qv (v:=(.int .i64 (i64.wrap (bJ (i64.wrap (ae - 1)) 2)))) rfl (fun _ hC=>Qx (i64.wrap (ae - 1)) 2 rfl rfl (by decide)) ?_;refine go ?_;obtain ⟨bv,a6,hm⟩:=bZ hm;refine qI a6 (ac.addr a6) ?_;refine go ?_;refine qW (fun _ hC=>(ac.gr (hC.bl ag)).atInt a6) ?_;refine go ?_;refine qv (v:=(.bool (decide (bu<bv)))) rfl (fun _ hC=>Yf (congrArg Value.bool a4) rfl) ?_;refine Vc ?_;intro b3 hC;replace hC:=hC.bl ag;replace ac:=ac.gr hC;replace aa:=aa.gr hC;replace ab:=ab.grow hC;exact ⟨rfl,_,_,hm,ab,ac,aa,rfl⟩
  refine qv (v:=(.bool false)) rfl (fun _ hC=>X8 (congrArg Value.bool a4) rfl) ?_;refine Vc ?_;intro b4 hC;replace hC:=hC.bl ag;replace ac:=ac.gr hC;replace aa:=aa.gr hC;replace ab:=ab.grow hC;exact ⟨rfl,_,_,hm,ab,ac,aa,rfl⟩
def Zg0 (kk_L3:(List Int→R2→Option R2)) (aa:List Int) (ab:List Int):Option R2:=
  kk_L3 aa ab
def Za2 (N:Nat) (ad:List Int) (kk_L2:(List Int→R2→R2→Option R2)) (ae:R7):List Int→R2→R2→Option R2
  | [],aa,ab=>kk_L2 aa ab (ad++[ae.1])
  | ac :: ag,aa,ab=>(Zm aa ac).bind fun ah=>(some (aa.set (aA ac) (i64.wrap (ah - 1)))).bind fun af=>(Zm af ac).bind fun ai=>if (decide (ai=0))=true then ((Zgx N ab ac).bind fun aj=>Zg0 (Za2 N ad kk_L2 ae ag) af aj) else (Zg0 (Za2 N ad kk_L2 ae ag) af ab)
termination_by structural x=>x
def Tu (N:Nat) (ac:R6):Nat→R2→R2→R2→Option R2
  | 0,_,_,_=>none
  | ae+1,af,ad,ab=>if (decide (0<(ad.length:Int)))=true then ((Zjn N ad).bind fun aa=>Z2 ((ab.length+[aa.1].length) * 8≤140737488355328∧ab.length+[aa.1].length≤maxLen) ((Zm ac aa.1).bind fun ag=>Za2 N ab (Tu N ac ae) aa ag af aa.2)) else (some ab)
termination_by structural x=>x
def Zg1 (aa:Nat) (kk_L1:(Nat→R2→R2→Option R2)) (ab:List Int) (ac:List Int):Option R2:=
  kk_L1 (aa+1) ab ac
def Za1 (N:Nat) (ad:R6):List R2→Nat→R2→R2→Option R2
  | [],aa,ab,ac=>Tu N ad N ab ac ([]:List Int)
  | ae :: af,aa,ab,ac=>(Zm ab (aa:Int)).bind fun ai=>(some (ab.set (aA (aa:Int)) (ae.length:Int))).bind fun ag=>if (decide ((ae.length:Int)=0))=true then ((Zgx N ac (aa:Int)).bind fun ah=>Zg1 aa (Za1 N ad af) ag ah) else (Zg1 aa (Za1 N ad af) ag ac)
termination_by structural x=>x
def Zgz (N:Nat) (aa:R6) (ab:R6):Option R2:=
  Z2 (aa.length * 8≤281474976710656∧aa.length≤maxLen) (Za1 N ab aa 0 (aM aa.length (0:Int)) ([]:List Int))
theorem Z3k {N cs ct:Nat} {a0 a1:Option Addr} {col:Ze} {w0:World} {af ag:R6} {r:R2} (c1:Nat) (hm:Zgz N af ag=some r) (h0:Sl (Za.slice (Za.int .i64)) col w0 a0 cs af) (h1:Sl (Za.slice (Za.int .i64)) col w0 a1 ct ag):
    Calls prog 156 #[.slice a0 af.length cs,.slice a1 ag.length ct] w0 (fun e w'=>∃ (col':Ze) (ra1:Option Addr) (rc2:Nat),e= .returned ((.slice ra1 r.length rc2))∧Zh col w0 col' w'∧Zb (Za.int .i64) 3 c1 col' w' ra1 rc2 r):=by
 refine Xl 4 (m:=66) func156 rfl rfl rfl rfl rfl ?_;rw [Zgz.eq_1] at hm;have aa:=St.start col w0;refine go ?_;obtain ⟨cu,hm⟩:=Z8 hm;refine Q3 (col:=(Zk col)) (w:=w0) (r:=(Za.int .i64)) (n:=af.length) (x0:=0) 1 rfl underlying33 Tryz.t3 rfl rfl rfl rfl rfl rfl rfl cu.1 cu.2 (Zd9 .i64 0) ?_;intro d2 d3 c6 c7 bx;refine go ?_;refine Zav (col:=c6) (v:=(.slice none (([]:List Int).length) 0)) 2 rfl zeroValue192 ?_;intro aq c8 c9 cv ab;replace ab:Zf 192 2 c9 c8 aq #[.slice none (([]:List Int).length) 0]:=ab;refine go ?_;replace aa:=(aa.grow c7).grow cv;replace bx:=bx.gr cv;refine Z4 [1,16,17,6,1000000] (fun n f az=>∃ a2 ah a3 a4 ar bz b0 bj a5,n=a5.length∧af.drop ah=a5∧Za1 N ag a5 ah ar bj=some r∧St w0 (Zk col) a2 az∧Zb (Za.int .i64) 3 1 a2 az a3 a4 ar∧Zb (Za.int .i64) 3 3 a2 az bz b0 bj∧Zf 192 2 a2 az aq #[.slice bz bj.length b0]∧[18,5].map f=[.int .i64 ah,.slice a3 ar.length a4]) af.length ⟨_,0,_,_,_,none,0,_,_,rfl,rfl,hm,aa,bx,Zb.nil,ab,rfl⟩ ?_;clear hm;intro n f az hI;obtain ⟨a2,ah,a3,a4,ar,bz,b0,bj,a5,hn,hl,hm,aa,b1,a6,ab,hs⟩:=hI;subst hn;refine .lL [18,5] hs ?_;replace h0:=h0.keep (Zi.start col w0);replace h1:=h1.keep (Zi.start col w0)
 cases a5 with
 | nil=>
  have hk:¬ ((ah:Int)<(af.length:Int)):=by have:=aH.1 hl;omega
  have hkb:=decide_eq_false hk;rw [Za1.eq_1] at hm;refine go ?_;refine X2 (congrArg Value.bool hkb)<|go ?_;refine Z4 [1,6,1000000] (fun n f au=>∃ av b2 b3 bk b4 b5 bm b6 b7 ai aj,aj=n∧Tu N ag aj bk bm ai=some r∧St w0 (Zk col) av au∧Zb (Za.int .i64) 3 1 av au b2 b3 bk∧Zb (Za.int .i64) 3 3 av au b4 b5 bm∧Zf 192 2 av au aq #[.slice b4 bm.length b5]∧Zb (Za.int .i64) 3 4 av au b6 b7 ai∧[5,9].map f=[.slice b2 bk.length b3,.slice b6 ai.length b7]) N ⟨_,_,_,_,_,_,_,none,0,_,_,rfl,hm,aa,b1,a6,ab,Zb.nil,rfl⟩ ?_;clear hm;intro n f au hI;obtain ⟨av,b2,b3,bk,b4,b5,bm,b6,b7,ai,aj,hn,hm,aa,b8,da,ab,bn,hs⟩:=hI;subst hn;refine .lL [5,9] hs ?_
  cases aj with
  | zero=>rw [Tu.eq_1] at hm;cases hm
  | succ aj=>
   rw [Tu.eq_2] at hm;refine go ?_;refine lW ab.at1<|go ?_;refine Zq hm (fun hb hm=>go ?_) fun hb hm=>go ?_
   ·obtain ⟨a7,db,hm⟩:=bZ hm;refine Zj (Z3j 2 3 db rfl da ab) ?_;rintro _ d4 ⟨dc,d5,d6,rfl,b9,ca,ad⟩;refine ⟨_,rfl,go ?_⟩;refine V7 (col:=dc) [a7.1] 5 ?_;intro d7 d8 d9 a8 dd;obtain ⟨de,hm⟩:=Z8 hm;replace bn:=(bn.kpp b9).gr a8;refine V1 bn (dd.srcN (NB.int (k:=.i64))) de ?_;intro cw cx ea eb bo ae;refine go ?_;obtain ⟨aw,cb,hm⟩:=bZ hm;replace aa:=((aa.kpp b9).grow a8).kpp bo;refine lI cb ((h1.ks aa).addr cb) ?_;obtain ⟨_,df,dg⟩:=(h1.ks aa).atN cb;obtain ⟨⟨cy,cz,rfl,ac⟩,_⟩:=df;refine lW dg.one<|go ?_;replace b8:=((b8.kpp b9).gr a8).kpp bo;replace ca:=(ca.gr a8).kpp bo;replace ad:=(ad.gr a8).kpp bo;refine Z4 [1,45,46,6,9,1000000] (fun n f ak=>∃ al a9 ba bb ax cc cd bp bc,n=bc.length∧aw.drop a9=bc∧Za2 N ai (Tu N ag aj) a7 bc ax bp=some r∧St w0 (Zk col) al ak∧Sl (Za.int .i64) al ak cy cz aw∧Zb (Za.int .i64) 3 1 al ak ba bb ax∧Zb (Za.int .i64) 3 3 al ak cc cd bp∧Zf 192 2 al ak aq #[.slice cc bp.length cd]∧Zb (Za.int .i64) 3 4 al ak cw cx (ai++[a7.1])∧[47,5].map f=[.int .i64 a9,.slice ba ax.length bb]) aw.length ⟨_,0,_,_,_,_,_,_,_,rfl,rfl,hm,aa,ac,b8,ca,ad,ae,rfl⟩ ?_;clear hm;intro n f ak hI;obtain ⟨al,a9,ba,bb,ax,cc,cd,bp,bc,hn,hl,hm,aa,ac,bd,be,ad,ae,hs⟩:=hI;subst hn;refine .lL [47,5] hs ?_
    cases bc with
    | nil=>
     have hk:¬ ((a9:Int)<(aw.length:Int)):=by have:=aH.1 hl;omega
     have hkb:=decide_eq_false hk;rw [Za2.eq_1] at hm;refine go ?_;refine X2 (congrArg Value.bool hkb)<|go ?_;exact ⟨aj,by omega,rfl,⟨_,_,_,_,_,_,_,_,_,_,_,rfl,hm,aa,bd,be,ad,ae,rfl⟩⟩
    | cons dh c0=>
     obtain ⟨am,di,dj⟩:=Yd hl;have hk:(a9:Int)<(aw.length:Int):=by omega
     have hkb:=decide_eq_true hk;rw [Za2.eq_2] at hm;refine go ?_;refine X3 (congrArg Value.bool hkb)<|Yl<|Z0 ?_;refine Wp.cutK [1,45,46,47,6,9,1000000] (fun f an=>∃ ao ce cf bq cg ch br,Zg0 (Za2 N ai (Tu N ag aj) a7 c0) bq br=some r∧St w0 (Zk col) ao an∧Sl (Za.int .i64) ao an cy cz aw∧Zb (Za.int .i64) 3 1 ao an ce cf bq∧Zb (Za.int .i64) 3 3 ao an cg ch br∧Zf 192 2 ao an aq #[.slice cg br.length ch]∧Zb (Za.int .i64) 3 4 ao an cw cx (ai++[a7.1])∧[5].map f=[.slice ce bq.length cf]) ?_ ?_
     ·intro f an hJ;obtain ⟨ao,ce,cf,bq,cg,ch,br,hm,aa,ac,dl,dm,ad,ae,hs⟩:=hJ;rw [Zg0.eq_1] at hm;refine .lL [5] hs<|go ?_;exact ⟨c0.length,by simp,rfl,⟨_,_,_,_,_,_,_,_,_,rfl,di,hm,aa,ac,dl,dm,ad,ae,(Yg (congrArg (Value.int .i64) (Yb (aF dj ac.1.1))) rfl)⟩⟩
     refine go ?_;refine lI am (ac.addr am)<|lW (ac.atInt am) ?_;refine go ?_;obtain ⟨c2,ay,hm⟩:=bZ hm;refine lI ay (bd.addr ay)<|lW (bd.atInt ay) ?_;refine go ?_;refine lI ay (bd.addr ay) ?_;obtain ⟨ci,bs,hm⟩:=bZ hm;have bs:ci=ax.set (aA dh) (i64.wrap (c2 - 1)):=(Option.some.inj bs).symm;refine Wr (x1:=i64.wrap (c2 - 1)) bd ay ?_;intro ec bf dn ap;rw [← bs] at ap;refine .ld (d:=5) (v:=(.slice ba ci.length bb)) (congrArg (fun n=>Value.slice ba n bb) (show ax.length=ci.length by rw [bs,nS])) ?_;refine go ?_;obtain ⟨ed,cj,hm⟩:=bZ hm;refine lI cj (ap.addr cj)<|lW (ap.atInt cj) ?_;refine go ?_;replace ac:=ac.kp bf;replace be:=be.kp bf;replace ae:=ae.kp bf;replace ad:=ad.kp bf;replace aa:=aa.kp bf dn;refine Zq hm (fun hb hm=>go ?_) fun hb hm=>?_
     ·obtain ⟨ee,dp,hm⟩:=bZ hm;refine Zj (Ztv 2 3 dp rfl be ad) ?_;rintro _ ef ⟨eg,eh,ei,rfl,bt,dq,dr⟩;refine ⟨_,rfl,?_⟩;refine Zl ?_;replace ac:=ac.kpp bt;replace ap:=ap.kpp bt;replace ae:=ae.kpp bt;replace aa:=aa.kpp bt;exact ⟨rfl,_,_,_,_,_,_,_,hm,aa,ac,ap,dq,dr,ae,rfl⟩
     refine Yl ?_;exact ⟨rfl,_,_,_,_,_,_,_,hm,aa,ac,ap,be,ad,ae,rfl⟩
   cases hm;exact ⟨rfl,_,_,_,rfl,aa.fin (cm [(4,c1)]),aa.fo bn⟩
 | cons c3 c4=>
  obtain ⟨am,ds,dt⟩:=Yd hl;have hk:(ah:Int)<(af.length:Int):=by omega
  have hkb:=decide_eq_true hk;rw [Za1.eq_2] at hm;refine go ?_;refine X3 (congrArg Value.bool hkb)<|Yl<|Z0 ?_;refine Wp.cutK [1,16,17,18,6,1000000] (fun f bg=>∃ bh ck cl bu cn co bv,Zg1 ah (Za1 N ag c4) bu bv=some r∧St w0 (Zk col) bh bg∧Zb (Za.int .i64) 3 1 bh bg ck cl bu∧Zb (Za.int .i64) 3 3 bh bg cn co bv∧Zf 192 2 bh bg aq #[.slice cn bv.length co]∧[5].map f=[.slice ck bu.length cl]) ?_ ?_
  ·intro f bg hJ;obtain ⟨bh,ck,cl,bu,cn,co,bv,hm,aa,du,dv,ab,hs⟩:=hJ;rw [Zg1.eq_1] at hm;refine .lL [5] hs<|go ?_;exact ⟨c4.length,by simp,rfl,⟨_,_,_,_,_,_,_,_,_,rfl,ds,hm,aa,du,dv,ab,(Yg (congrArg (Value.int .i64) (Yb (aF dt (h0.ks aa).1.1))) rfl)⟩⟩
  refine go ?_;refine lI am ((h0.ks aa).addr am) ?_;obtain ⟨_,dw,dx⟩:=(h0.ks aa).atN am;obtain ⟨⟨ej,ek,rfl,el⟩,_⟩:=dw;refine lW dx.one<|go ?_;obtain ⟨em,cp,hm⟩:=bZ hm;refine lI cp (b1.addr cp) ?_;obtain ⟨cq,bw,hm⟩:=bZ hm;have bw:cq=ar.set (aA (ah:Int)) (c3.length:Int):=(Option.some.inj bw).symm;refine Wr (x1:=(c3.length:Int)) b1 cp ?_;intro en cr dy bi;rw [← bw] at bi;refine .ld (d:=5) (v:=(.slice a3 cq.length a4)) (congrArg (fun n=>Value.slice a3 n a4) (show ar.length=cq.length by rw [bw,nS])) ?_;refine go ?_;replace a6:=a6.kp cr;replace ab:=ab.kp cr;replace aa:=aa.kp cr dy;refine Zq hm (fun hb hm=>go ?_) fun hb hm=>?_
  ·obtain ⟨eo,dz,hm⟩:=bZ hm;refine Zj (Ztv 2 3 dz rfl a6 ab) ?_;rintro _ ep ⟨eq,er,es,rfl,c5,d0,d1⟩;refine ⟨_,rfl,?_⟩;refine Zl ?_;replace bi:=bi.kpp c5;replace aa:=aa.kpp c5;exact ⟨rfl,_,_,_,_,_,_,_,hm,aa,bi,d0,d1,rfl⟩
  refine Yl ?_;exact ⟨rfl,_,_,_,_,_,_,_,hm,aa,bi,a6,ab,rfl⟩
def Zbo (N:Nat) (aa:R6):Option Re:=
  (Zgu aa).bind fun ab=>if (!decide (ab=0))=true then (some (([]:List Int),ab)) else ((Zgt aa).bind fun ad=>(Zgz N aa ad).bind fun ac=>if (decide ((ac.length:Int)<(aa.length:Int)))=true then (some (([]:List Int),42)) else (some (ac,0)))
theorem Z3g {N ad:Nat} {a0:Option Addr} {col:Ze} {w0:World} {ab:R6} {r:Re} (c1:Nat) (hm:Zbo N ab=some r) (h0:Sl (Za.slice (Za.int .i64)) col w0 a0 ad ab):
    Calls prog 79 #[.slice a0 ab.length ad] w0 (fun e w'=>∃ (col':Ze) (ra1:Option Addr) (rc2:Nat),e= .returned (.tuple #[.slice ra1 r.1.length rc2,.int .i64 r.2])∧Zh col w0 col' w'∧Zb (Za.int .i64) 3 c1 col' w' ra1 rc2 r.1):=by
 refine Zje 2 3 (m:=21) (args:=[.slice a0 ab.length ad]) func79 rfl rfl rfl rfl rfl ?_;rw [Zbo.eq_1] at hm;have aa:=St.start col w0;refine go ?_;obtain ⟨ap,ah,hm⟩:=bZ hm;replace h0:=h0.keep (Zi.start col w0);refine Zj (Z3i ah (h0.ks aa)) ?_;rintro _ ai ⟨rfl,ae⟩;refine ⟨_,rfl,?_⟩;replace ae:Zh (Zk col) w0 (Zk col) ai:=.of_below ae;refine go ?_;replace aa:=aa.grow ae;refine Zq hm (fun hb hm=>go ?_) fun hb hm=>go ?_
 ·cases hm;exact ⟨rfl,_,none,0,rfl,aa.fin (cm []),Zb.nil⟩
 obtain ⟨aq,aj,hm⟩:=bZ hm;refine Zj (Z3h 1 aj (h0.ks aa)) ?_;rintro _ ak ⟨af,ar,au,rfl,al,am⟩;refine ⟨_,rfl,?_⟩;obtain ⟨av,an,hm⟩:=bZ hm;replace aa:=aa.grow al;refine Zj (Z3k 2 an ((h0.ks aa).froz 1) (am.toSlF (Zd.row (Zd.int .i64)))) ?_;rintro _ aw ⟨ao,ax,ay,rfl,ac,ag⟩;refine ⟨_,rfl,?_⟩;replace ag:=ag.thaw (Z7 .i64) ac ((Fz.refl (col:=af)).froz 1) (by decide);replace ac:=ac.thawR (col:=af);generalize Xj ak.heap.size af ao=az at *;refine go ?_;replace aa:=aa.grow ac;refine Zq hm (fun hb hm=>go ?_) fun hb hm=>go ?_
 ·cases hm;exact ⟨rfl,_,none,0,rfl,aa.fin (cm []),Zb.nil⟩
 cases hm;exact ⟨rfl,_,_,_,rfl,aa.fin (cm [(2,c1)]),aa.fo ag⟩
def Q5 (N:Nat) (aa:R6):Option Int:=
  (Zbo N aa).bind fun ab=>some ab.2
theorem Z3f {N ad:Nat} {a0:Option Addr} {col:Ze} {w0:World} {ac:R6} {r:Int} (hm:Q5 N ac=some r) (h0:Sl (Za.slice (Za.int .i64)) col w0 a0 ad ac):
    Calls prog 86 #[.slice a0 ac.length ad] w0 (fun e w'=>e= .returned ((.int .i64 r))∧Below w0.heap.size w0 w'):=by
 refine Xl 2 (m:=11) func86 rfl rfl rfl rfl rfl ?_;rw [Q5.eq_1] at hm;have aa:=St.start col w0;refine go ?_;obtain ⟨ab,ag,hm⟩:=bZ hm;replace h0:=h0.keep (Zi.start col w0);refine Zj (Z3g 1 ag (h0.ks aa)) ?_;rintro _ ai ⟨aj,ae,af,rfl,ah,ak⟩;refine ⟨_,rfl,?_⟩;refine lM (.tuple #[.slice ae ab.1.length af,.int .i64 ab.2])<|lV (.slice ae ab.1.length af) (Xx rfl rfl)<|lV (.int .i64 ab.2) (Xx rfl rfl)<|go ?_;cases hm;replace aa:=aa.grow ah;exact ⟨rfl,rfl,aa.below⟩
def Zni (aa:Int) (kk_L2:(Int→Option Bool)) (ab:Bool):Option Bool:=
  if ab=true then (some false) else (kk_L2 (i64.wrap (aa+1)))
def Zkm (N:Nat) (aa:R6) (ab:Int) (kk_L1:(Int→Option Bool)):Nat→Int→Option Bool
  | 0,_=>none
  | ad+1,ac=>(Zm aa ab).bind fun ae=>if (decide (ac<(ae.length:Int)))=true then ((Zm ae ac).bind fun af=>if (decide (af<0))=true then (Zni ac (Zkm N aa ab kk_L1 ad) true) else (Zni ac (Zkm N aa ab kk_L1 ad) (decide ((aa.length:Int)≤af)))) else (kk_L1 (i64.wrap (ab+1)))
termination_by structural x=>x
def Zkl (N:Nat) (aa:R6):Nat→Int→Option Bool
  | 0,_=>none
  | ac+1,ab=>if (decide (ab<(aa.length:Int)))=true then (Zkm N aa ab (Zkl N aa ac) N 0) else (some true)
termination_by structural x=>x
def Znh (N:Nat) (aa:R6):Option Bool:=
  Zkl N aa N 0
def Zng (N:Nat) (aa:List Int) (ac:Int):Nat→Int→Option Bool
  | 0,_=>none
  | ad+1,ab=>if (decide (ab<(aa.length:Int)))=true then ((Zm aa ab).bind fun ae=>if (decide (ae=ac))=true then (some true) else ((Zng N aa ac ad) (i64.wrap (ab+1)))) else (some false)
termination_by structural x=>x
def Zkj (N:Nat) (aa:List Int) (ab:Int):Option Bool:=
  Zng N aa ab N 0
def Znm (N:Nat) (ad:R6) (ac:Int) (kk_L1:(Int→Option Bool)):Nat→Int→Option Bool
  | 0,_=>none
  | ae+1,aa=>(Zm ad ac).bind fun ab=>if (decide (aa<(ab.length:Int)))=true then (Z2 ((0:Int)≤aa∧aa≤(ab.length:Int)) ((Zm ab aa).bind fun af=>(Zkj N (ab.take (aA aa)) af).bind fun ag=>if ag=true then (some true) else ((Znm N ad ac kk_L1 ae) (i64.wrap (aa+1))))) else (kk_L1 (i64.wrap (ac+1)))
termination_by structural x=>x
def Zko (N:Nat) (aa:R6):Nat→Int→Option Bool
  | 0,_=>none
  | ac+1,ab=>if (decide (ab<(aa.length:Int)))=true then (Znm N aa ab (Zko N aa ac) N 0) else (some false)
termination_by structural x=>x
def Znl (N:Nat) (aa:R6):Option Bool:=
  Zko N aa N 0
def Znj (aa:Int) (kk_L2:(Int→Int→Option R2)) (ab:Int):Option R2:=
  kk_L2 ab (i64.wrap (aa+1))
def Znk (aa:Int) (kk_L3:(Bool→Int→Option R2)) (ab:Bool):Option R2:=
  kk_L3 ab (i64.wrap (aa+1))
def Zkn (N:Nat) (ac:R6) (ad:List Int) (ae:Int) (aa:Int) (kk_L2:(Int→Int→Option R2)):Nat→Bool→Int→Option R2
  | 0,_,_=>none
  | af+1,ag,ab=>(Zm ac aa).bind fun ah=>if (decide (ab<(ah.length:Int)))=true then (if ag=true then ((Zm ah ab).bind fun ai=>(Zkj N ad ai).bind fun aj=>Znk ab (Zkn N ac ad ae aa kk_L2 af) aj) else (Znk ab (Zkn N ac ad ae aa kk_L2 af) false)) else (if ag=true then (Znj aa kk_L2 aa) else (Znj aa kk_L2 ae))
termination_by structural x=>x
def Zib (N:Nat) (ad:R6) (aa:List Int) (kk_L1:(List Int→Option R2)) (ab:Int) (ac:Int) (kk_L2:(Int→Int→Option R2)) (ae:Bool):Option R2:=
  if ae=true then ((Zkj N aa ac).bind fun af=>Zkn N ad aa ab ac kk_L2 N (!af) 0) else (if (decide (ab<0))=true then (some aa) else (Z2 ((aa.length+[ab].length) * 8≤140737488355328∧aa.length+[ab].length≤maxLen) (kk_L1 (aa++[ab]))))
def Zfn (N:Nat) (aa:R6) (ab:List Int) (kk_L1:(List Int→Option R2)):Nat→Int→Int→Option R2
  | 0,_,_=>none
  | ae+1,ac,ad=>if (decide (ad<(aa.length:Int)))=true then (Zib N aa ab kk_L1 ac ad (Zfn N aa ab kk_L1 ae) (decide (ac<0))) else (Zib N aa ab kk_L1 ac ad (Zfn N aa ab kk_L1 ae) false)
termination_by structural x=>x
def Zb9 (N:Nat) (aa:R6):Nat→R2→Option R2
  | 0,_=>none
  | ab+1,ac=>Zfn N aa ac (Zb9 N aa ab) N (-1) 0
termination_by structural x=>x
def Zad (N:Nat) (aa:R6):Option R2:=
  Zb9 N aa N ([]:List Int)
def Zia (N:Nat) (aa:R6):Option Int:=
  (Znh N aa).bind fun ab=>if (!ab)=true then (some 3) else ((Znl N aa).bind fun ac=>if ac=true then (some 40) else ((Zad N aa).bind fun ad=>if (decide ((ad.length:Int)<(aa.length:Int)))=true then (some 42) else (some 0)))
def Zfm (N:Nat) (ab:List Int) (ac:List Int):Nat→Int→Option Bool
  | 0,_=>none
  | ad+1,aa=>if (decide (aa<(ab.length:Int)))=true then ((Zm ab aa).bind fun ae=>(Zm ac aa).bind fun af=>if (!decide (ae=af))=true then (some false) else ((Zfm N ab ac ad) (i64.wrap (aa+1)))) else (some true)
termination_by structural x=>x
def Zkk (N:Nat) (aa:List Int) (ab:List Int):Option Bool:=
  if (!decide ((aa.length:Int)=(ab.length:Int)))=true then (some false) else (Zfm N aa ab N 0)
theorem Z4m {N ai aj:Nat} {a0 a1:Option Addr} {col:Ze} {w0:World} {ad ae:R2} {r:Bool} (hm:Zkk N ad ae=some r) (h0:Sl (Za.int .i64) col w0 a0 ai ad) (h1:Sl (Za.int .i64) col w0 a1 aj ae):
    Calls prog 165 #[.slice a0 ad.length ai,.slice a1 ae.length aj] w0 (fun e w'=>e= .returned ((.bool r))∧Below w0.heap.size w0 w'):=by
 refine Xl 4 (m:=26) func165 rfl rfl rfl rfl rfl ?_;rw [Zkk.eq_1] at hm;have aa:=St.start col w0;refine go ?_;replace h0:=h0.keep (Zi.start col w0);replace h1:=h1.keep (Zi.start col w0);refine Zq hm (fun hb hm=>go ?_) fun hb hm=>go ?_
 ·cases hm;exact ⟨rfl,rfl,aa.below⟩
 refine Z4 [0,1,1000000] (fun n f ak=>∃ ab af ac,ac=n∧Zfm N ad ae ac af=some r∧St w0 (Zk col) ab ak∧[5].map f=[.int .i64 af]) N ⟨_,0,_,rfl,hm,aa,rfl⟩ ?_;clear hm;intro n f ak hI;obtain ⟨ab,af,ac,hn,hm,aa,hs⟩:=hI;subst hn;refine .lL [5] hs ?_
 cases ac with
 | zero=>rw [Zfm.eq_1] at hm;cases hm
 | succ ac=>
  rw [Zfm.eq_2] at hm;refine go ?_;refine Zq hm (fun hb hm=>go ?_) fun hb hm=>go ?_
  ·refine V4 (col:=ab) (by kernel_rfl) (by kernel_rfl)<|go ?_;obtain ⟨al,ag,hm⟩:=bZ hm;refine qI ag ((h0.ks aa).addr ag)<|qW (fun _ hC=>((h0.ks aa).gr (hC.bl ab)).atInt ag) ?_;refine go ?_;obtain ⟨am,ah,hm⟩:=bZ hm;refine qI ah ((h1.ks aa).addr ah)<|qW (fun _ hC=>((h1.ks aa).gr (hC.bl ab)).atInt ah) ?_;refine go ?_;refine Vc ?_;intro an hC;replace hC:=hC.bl ab;replace aa:=aa.grow hC;refine Zq hm (fun hb hm=>go ?_) fun hb hm=>go ?_
   ·cases hm;exact ⟨rfl,rfl,aa.below⟩
   exact ⟨ac,by omega,rfl,⟨_,_,_,rfl,hm,aa,rfl⟩⟩
  cases hm;exact ⟨rfl,rfl,aa.below⟩
theorem Ztd (N:Nat) (l:List Int) (x:Int) (hl:l.length≤1048576):∀ (n k:Nat),l.length<n+k→k≤l.length→Zng N l x n (k:Int)=some (decide (x ∈ l.drop k))
 | 0,k,h,a=>by omega
 | n+1,k,h,a=>by
  rw [Zng.eq_2]
  by_cases hlt:k<l.length
  ·rw [if_pos (by simpa using hlt),Z1 hlt,oB,wS (by omega),Ztd N l x hl n (k+1) (by omega) (by omega),aK hlt]
   by_cases he:l[k]=x
   ·rw [if_pos (by simpa using he),decide_eq_true (by rw [he];exact aC)]
   ·rw [if_neg (by simpa using he)]
    exact congrArg some (decide_eq_decide.2 ⟨fun h=>aB _ h,fun h=>(aP.1 h).resolve_left (Ne.symm he)⟩)
  ·rw [if_neg (by simpa using hlt),aO (by omega)];simp
theorem Zpc {N:Nat} {l:List Int} {x:Int} (hl:l.length≤1048576) (hN:1048576<N):Zkj N l x=some (decide (x ∈ l)):=by
 rw [Zkj];simpa using Ztd N l x hl N 0 (by omega) (by omega)
def U2 (m:Int) (P:List R2):Bool:=P.all fun l=>l.all fun p=>decide (0≤p∧p<m)
theorem Zwg (N:Nat) (P:List R2) (i:Nat) (hi:i<P.length) (hP:P.length≤1048576) (hl:P[i].length≤1048576) (kk:Int→Option Bool):∀ (n k:Nat),P[i].length<n+k→k≤P[i].length→
  Zkm N P (i:Int) kk n (k:Int)=if (P[i].drop k).all (fun p=>decide (0≤p∧p<(P.length:Int))) then kk ((i+1:Nat):Int) else some false
 | 0,k,h,a=>by omega
 | n+1,k,h,a=>by
  rw [Zkm.eq_2,Z1 hi,oB]
  by_cases hlt:k<P[i].length
  ·rw [if_pos (by simpa using hlt),Z1 hlt,oB,Zni,Zni,wS (by omega),Zwg N P i hi hP hl kk n (k+1) (by omega) (by omega),aK hlt]
   by_cases h1:P[i][k]<0
   ·rw [if_pos (by simpa using h1),if_pos rfl,if_neg (fun h=>by rw [eA,Bool.and_eq_true,decide_eq_true_eq] at h;omega)]
   ·rw [if_neg (by simpa using h1)]
    by_cases h2:(P.length:Int)≤P[i][k]
    ·rw [if_pos (by simpa using h2),if_neg (fun h=>by rw [eA,Bool.and_eq_true,decide_eq_true_eq] at h;omega)]
    ·rw [if_neg (by simpa using h2)]
     simp only [eA,Bool.and_eq_true]
     have b:decide (0≤P[i][k]∧P[i][k]<(P.length:Int))=true:=by simp;omega
     simp only [b,true_and]
  ·rw [if_neg (by simpa using hlt),aO (by omega),wS (by omega)];simp
theorem Zwf (N:Nat) (P:List R2) (hP:P.length≤1048576) (hl:∀ l ∈ P,l.length≤1048576) (hN:1048576<N):∀ (n i:Nat),P.length<n+i→i≤P.length→
  Zkl N P n (i:Int)=some (U2 P.length (P.drop i))
 | 0,i,h,a=>by omega
 | n+1,i,h,a=>by
  rw [Zkl.eq_2]
  by_cases hlt:i<P.length
  ·have b:=Zwg N P i hlt hP (hl _ (aG hlt)) (Zkl N P n) N 0 (by have:=hl _ (aG hlt);omega) (by omega)
   rw [if_pos (by simpa using hlt)]
   rw [show (0:Int)=((0:Nat):Int) from rfl,b,Zwf N P hP hl hN n (i+1) (by omega) (by omega),aK hlt]
   simp only [U2,eA,aT]
   by_cases h1:(P[i].all fun p=>decide (0≤p∧p<(P.length:Int)))=true
   ·rw [if_pos h1,h1,Bool.true_and]
   ·rw [if_neg h1,Bool.eq_false_iff.2 h1,Bool.false_and]
  ·rw [if_neg (by simpa using hlt),aO (by omega)];rfl
theorem Z64 {N:Nat} {P:List R2} (hP:P.length≤1048576) (hl:∀ l ∈ P,l.length≤1048576) (hN:1048576<N):Znh N P=some (U2 P.length P):=by
 rw [Znh];simpa using Zwf N P hP hl hN N 0 (by omega) (by omega)
def Tj (P:List R2):Bool:=P.any fun l=>!decide l.Nodup
theorem Zxy (l:List Int) (k:Nat) (hk:k<l.length):(l.take (k+1)).Nodup↔(l.take k).Nodup∧l[k] ∉ l.take k:=by
 rw [cA hk,dP]
 simp only [cP,bL,not_false_eq_true,List.nodup_nil,and_self,bT,true_and]
 constructor
 ·rintro ⟨c,d⟩;exact ⟨c,fun h=>d _ h _ rfl rfl⟩
 ·rintro ⟨c,d⟩;exact ⟨c,fun a f b g e=>d (by rw [← g,← e];exact f)⟩
theorem Z2j (N:Nat) (P:List R2) (i:Nat) (hi:i<P.length) (hP:P.length≤1048576) (hl:P[i].length≤1048576) (hN:1048576<N) (kk:Int→Option Bool):∀ (n k:Nat),P[i].length<n+k→k≤P[i].length→(P[i].take k).Nodup→
  Znm N P (i:Int) kk n (k:Int)=if P[i].Nodup then kk ((i+1:Nat):Int) else some true
 | 0,k,h,b,_=>by omega
 | n+1,k,h,b,a=>by
  rw [Znm.eq_2,Z1 hi,oB]
  by_cases hlt:k<P[i].length
  ·rw [if_pos (by simpa using hlt),Z6 (by omega),Z1 hlt,oB,Zpc (by simp;omega) hN,oB,aD]
   by_cases h1:P[i][k] ∈ P[i].take k
   ·rw [if_pos (by simpa using h1),if_neg]
    intro c
    exact ((Zxy _ k hlt).1 (c.sublist (List.take_sublist _ _))).2 h1
   ·rw [if_neg (by simpa using h1),wS (by omega)]
    exact Z2j N P i hi hP hl hN kk n (k+1) (by omega) (by omega) ((Zxy _ k hlt).2 ⟨a,h1⟩)
  ·rw [if_neg (by simpa using hlt),wS (by omega)]
   rw [bP (by omega)] at a
   rw [if_pos a]
theorem Z2i (N:Nat) (P:List R2) (hP:P.length≤1048576) (hl:∀ l ∈ P,l.length≤1048576) (hN:1048576<N):∀ (n i:Nat),P.length<n+i→i≤P.length→
  Zko N P n (i:Int)=some (Tj (P.drop i))
 | 0,i,h,a=>by omega
 | n+1,i,h,a=>by
  rw [Zko.eq_2]
  by_cases hlt:i<P.length
  ·have b:=Z2j N P i hlt hP (hl _ (aG hlt)) hN (Zko N P n) N 0 (by have:=hl _ (aG hlt);omega) (by omega) (by simp)
   rw [if_pos (by simpa using hlt)]
   rw [show (0:Int)=((0:Nat):Int) from rfl,b,Z2i N P hP hl hN n (i+1) (by omega) (by omega),aK hlt]
   simp only [Tj,fE]
   by_cases h1:P[i].Nodup
   ·rw [if_pos h1];simp [h1]
   ·rw [if_neg h1];simp [h1]
  ·rw [if_neg (by simpa using hlt),aO (by omega)];rfl
theorem Xaz {N:Nat} {P:List R2} (hP:P.length≤1048576) (hl:∀ l ∈ P,l.length≤1048576) (hN:1048576<N):Znl N P=some (Tj P):=by
 rw [Znl];simpa using Z2i N P hP hl hN N 0 (by omega) (by omega)
def T4 (P:List R2):Nat:=(P.map kC).sum
theorem Zlq (l:List Int) (P:List R2):T4 (l :: P)=l.length+T4 P:=by simp [T4]
theorem Zox {l:List Int}:∀ {P:List R2},l ∈ P→l.length≤T4 P
 | x :: P,h=>by
  rw [Zlq]
  rcases aP.1 h with rfl | h
  ·omega
  ·have:=Zox h;omega
def Zp9:Nat→List R2→List Rc
 | _,[]=>[]
 | k,l :: P=>l.map (fun p=>(p,(k:Int)))++Zp9 (k+1) P
theorem Z53:∀ (k:Nat) (P:List R2),(Zp9 k P).length=T4 P
 | _,[]=>rfl
 | k,l :: P=>by rw [Zp9,nA,List.length_map,Z53,Zlq]
def Si (P:List R2) (l:List Int) (i:Nat):Bool:=!decide ((i:Int) ∈ l)&&(P.getD i []).all fun p=>decide (p ∈ l)
def Vr (P:List R2) (l:List Int) (i:Nat):Option Nat:=(List.range' i (P.length - i)).find? (Si P l)
theorem Z71 (P:List R2) (l:List Int) (i:Nat) (h:P.length≤i):Vr P l i=none:=by
 rw [Vr,Nat.sub_eq_zero_of_le h];rfl
theorem Z73 (P:List R2) (l:List Int) (i:Nat) (h:i<P.length):Vr P l i=if Si P l i then some i else Vr P l (i+1):=by
 rw [Vr,Vr,show P.length - i=(P.length - (i+1))+1 by omega,List.range'_succ,List.find?_cons]
 cases Si P l i <;> simp
section
variable (N:Nat) (P:List R2) (l:List Int)
theorem Zrm (hP:P.length≤1048576) (hl:l.length≤1048576) (hN:1048576<N) (next:Int) (i:Nat) (hi:i<P.length) (hli:P[i].length≤1048576) (kk:Int→Int→Option R2):∀ (n:Nat) (b:Bool) (k:Nat),P[i].length<n+k→k≤P[i].length→
  Zkn N P l next (i:Int) kk n b (k:Int)=kk (if (b&&(P[i].drop k).all fun p=>decide (p ∈ l))=true then (i:Int) else next) ((i+1:Nat):Int)
 | 0,b,k,h,a=>by omega
 | n+1,b,k,h,a=>by
  rw [Zkn.eq_2,Z1 hi,oB]
  by_cases hlt:k<P[i].length
  ·rw [if_pos (by simpa using hlt),Z1 hlt,oB,Zpc hl hN,oB,Znk,Znk,wS (by omega),Zrm hP hl hN next i hi hli kk n _ (k+1) (by omega) (by omega),Zrm hP hl hN next i hi hli kk n _ (k+1) (by omega) (by omega),aK hlt,eA]
   cases b
   ·rw [if_neg (by decide),Bool.false_and,Bool.false_and]
   ·rw [if_pos rfl,Bool.true_and]
  ·rw [if_neg (by simpa using hlt),aO (by omega),Znj,Znj,wS (by omega),List.all_nil,Bool.and_true]
   cases b
   ·rw [if_neg (by decide),if_neg (by decide)]
   ·rw [if_pos rfl,if_pos rfl]
def Zy5 (kk:List Int→Option R2):Option Nat→Option R2
 | none=>some l
 | some i=>kk (l++[(i:Int)])
theorem Zyi (hl:l.length<1048576) (kk:List Int→Option R2) (i:Nat) (i':Int) (kk2:Int→Int→Option R2):Zib N P l kk (i:Int) i' kk2 false=kk (l++[(i:Int)]):=by
 rw [Zib,if_neg (by decide),if_neg (by rw [decide_eq_true_eq];omega),Z6 (by simp only [nC,nN,maxLen];omega)]
theorem Zyh (hP:P.length≤1048576) (hls:∀ x ∈ P,x.length≤1048576) (hl:l.length<1048576) (hN:1048576<N) (kk:List Int→Option R2):∀ (n i:Nat),P.length<n+i→i≤P.length→
  Zfn N P l kk n (-1) (i:Int)=Zy5 l kk (Vr P l i)
 | 0,i,h,a=>by omega
 | n+1,i,h,a=>by
  rw [Zfn.eq_2]
  by_cases hlt:i<P.length
  ·have b:=Zrm N P l hP (by omega) hN (-1) i hlt (hls _ (aG hlt)) (Zfn N P l kk n) N (!decide ((i:Int) ∈ l)) 0 (by have:=hls _ (aG hlt);omega) (by omega)
   rw [if_pos (by simpa using hlt),Zib,if_pos (by decide),Zpc (by omega) hN,oB]
   rw [show (0:Int)=((0:Nat):Int) from rfl,b,Z73 P l i hlt,aT]
   have c:(!decide ((i:Int) ∈ l)&&P[i].all fun p=>decide (p ∈ l))=Si P l i:=by
    rw [Si,aE,aN hlt];rfl
   rw [c]
   by_cases hr:Si P l i=true
   ·rw [if_pos hr,if_pos hr]
    match n,h with
    | 0,h=>omega
    | n+1,h=>
     rw [Zfn.eq_2]
     by_cases h2:i+1<P.length
     ·rw [if_pos (dT (by omega)),show decide ((i:Int)<0)=false from decide_eq_false (by omega)]
      exact Zyi N P l hl kk i _ _
     ·rw [if_neg (by rw [decide_eq_true_eq];omega)]
      exact Zyi N P l hl kk i _ _
   ·rw [if_neg hr,if_neg hr]
    exact Zyh hP hls hl hN kk n (i+1) (by omega) (by omega)
  ·rw [if_neg (by simpa using hlt),Z71 P l i (by omega),Zib,if_neg (by decide),if_pos (by decide)];rfl
end
theorem Zrn {N:Nat} {P:List R2} {l:List Int} (hP:P.length≤1048576) (hls:∀ x ∈ P,x.length≤1048576) (hl:l.length<1048576) (hN:1048576<N) (n:Nat):
  Zb9 N P (n+1) l=Zy5 l (Zb9 N P n) (Vr P l 0):=by
 rw [Zb9.eq_2]
 exact Zyh N P l hP hls hl hN _ N 0 (by omega) (by omega)
theorem Zrf {P:List R2} {l:List Int} {i j:Nat} (h:Vr P l i=some j):i≤j∧j<P.length∧Si P l j=true∧∀ k,i≤k→k<j→Si P l k=false:=by
 rw [Vr,List.find?_range'_eq_some] at h
 obtain ⟨d,a,f⟩:=h
 rw [kS] at a
 obtain ⟨q,g,m⟩:=a
 refine ⟨by omega,by omega,d,fun k b c=>?_⟩
 have:=f k b c
 simpa using this
theorem Z72 {P:List R2} {l:List Int} {i:Nat} (h:Vr P l i=none):∀ k,i≤k→k<P.length→Si P l k=false:=by
 rw [Vr,List.find?_eq_none] at h
 intro k a b
 have:=h k (by rw [kS];exact ⟨k - i,by omega,by omega⟩)
 simpa using this
theorem Zz3 {P:List R2} {l:List Int} {i:Nat} (hi:i<P.length):Si P l i=true↔(i:Int) ∉ l∧∀ p ∈ P[i],p ∈ l:=by
 rw [Si,aE,aN hi]
 simp
def U8 (P:List R2) (l:List Int):Prop:=l.Nodup∧(∀ x ∈ l,0≤x∧x<(P.length:Int))∧∀ (i:Nat) (hi:i<P.length),(i:Int) ∈ l→∀ p ∈ P[i],p ∈ l
theorem U8.len {P:List R2} {l:List Int} (h:U8 P l):l.length≤P.length:=by
 have a:=Zim (r:=(iT P.length).map fun i:Nat=>(i:Int)) h.1 fun x b=>by
  have:=h.2.1 x b
  exact bO.2 ⟨x.toNat,fS.2 (by omega),by omega⟩
 simpa using a
theorem U8.step {P:List R2} {l:List Int} {j:Nat} (h:U8 P l) (hn:Vr P l 0=some j):U8 P (l++[(j:Int)])∧l.length<P.length:=by
 obtain ⟨_,m,n,_⟩:=Zrf hn
 obtain ⟨o,q⟩:=(Zz3 m).1 n
 have f:U8 P (l++[(j:Int)]):=by
  refine ⟨?_,?_,?_⟩
  ·rw [dP]
   refine ⟨h.1,by simp,fun a r b g e=>?_⟩
   rw [bT] at g;subst g;subst e;exact o r
  ·intro x c
   rcases bE.1 c with c | c
   ·exact h.2.1 x c
   ·rw [bT] at c;omega
  ·intro i s d p k
   rcases bE.1 d with d | d
   ·exact jU _ (h.2.2 i s d p k)
   ·rw [bT] at d
    have:i=j:=by omega
    subst this
    exact jU _ (q p k)
 exact ⟨f,by have:=f.len;rw [nA,nC,nN] at this;omega⟩
theorem Zyj {N:Nat} {P:List R2} (hP:P.length<1048576) (hls:∀ x ∈ P,x.length≤1048576) (hN:1048576<N):∀ (n:Nat) (l:List Int),U8 P l→P.length<n+l.length→
  ∃ r,Zb9 N P n l=some r∧U8 P r∧Vr P r 0=none
 | 0,l,h,a=>by have:=h.len;omega
 | n+1,l,h,a=>by
  have c:=h.len
  rw [Zrn (by omega) hls (by omega) hN]
  cases hnx:Vr P l 0 with
  | none=>exact ⟨l,rfl,h,hnx⟩
  | some j=>
   obtain ⟨b,d⟩:=h.step hnx
   exact Zyj hP hls hN n _ b (by simp;omega)
theorem Z8g {N:Nat} {P:List R2} (hP:P.length<1048576) (hls:∀ x ∈ P,x.length≤1048576) (hN:1048576<N):∃ r,Zad N P=some r∧U8 P r∧Vr P r 0=none:=by
 rw [Zad]
 exact Zyj hP hls hN N [] ⟨.nil,by simp,by simp⟩ (by simp;omega)
def gD (h:List Int) (j:Nat):Int:=h.getD j 0
theorem Q1 {h:List Int} {j:Nat} (hj:j<h.length):gD h j=h[j]:=by rw [gD,aE,aN hj];rfl
theorem Zas {h:List Int} {j:Nat} (hj:j<h.length):Zm h (j:Int)=some (gD h j):=by rw [Z1 hj,Q1 hj]
def Sk (h:List Int) (i p:Nat):List Int:=(h.set i (gD h p)).set p (gD h i)
theorem Zlp (h:List Int) (i p:Nat):(Sk h i p).length=h.length:=by simp [Sk]
theorem Z16 {h:List Int} {i p:Nat} (hi:i<h.length) (hp:p<h.length):(Sk h i p).Perm h:=by
 rw [Sk,Q1 hi,Q1 hp];exact List.set_set_perm hi hp
theorem Zml (h:List Int) (i j:Nat) (x:Int) (hi:i<h.length):gD (h.set i x) j=if j=i then x else gD h j:=by
 rw [gD,gD,aE,aE,kH]
 by_cases h1:i=j
 ·subst h1;rw [if_pos rfl,if_pos hi,if_pos rfl];rfl
 ·rw [if_neg h1,if_neg (Ne.symm h1)]
theorem Zcy {h:List Int} {i p:Nat} (hi:i<h.length) (hp:p<h.length) (j:Nat):gD (Sk h i p) j=if j=p then gD h i else if j=i then gD h p else gD h j:=by
 rw [Sk,Zml _ _ _ _ (by simpa using hp),Zml _ _ _ _ hi]
def S4 (h:List Int) (n:Nat):Prop:=∀ j,0<j→j<n→gD h ((j - 1) / 2)≤gD h j
theorem S4.min {h:List Int} {n:Nat} (hh:S4 h n):∀ j,j<n→gD h 0≤gD h j:=by
 intro j
 induction j using Nat.strongRecOn with
 | ind j a=>
  intro b
  by_cases h0:j=0
  ·subst h0;exact gI _
  ·exact Int.le_trans (a ((j - 1) / 2) (by omega) (by omega)) (hh j (by omega) b)
/-! ### push -/
def Zlz (h:List Int) (i:Nat):Prop:=(∀ j,0<j→j<h.length→j≠i→gD h ((j - 1) / 2)≤gD h j)∧∀ j,0<j→j<h.length→(j - 1) / 2=i→0<i→gD h ((i - 1) / 2)≤gD h j
theorem Zlz.step {h:List Int} {i:Nat} (hu:Zlz h i) (hi:i<h.length) (h0:0<i) (hlt:gD h i<gD h ((i - 1) / 2)):Zlz (Sk h i ((i - 1) / 2)) ((i - 1) / 2):=by
 have c:(i - 1) / 2<h.length:=by omega
 refine ⟨fun j a b d=>?_,fun j a b d g=>?_⟩
 ·rw [Zlp] at b
  rw [Zcy hi c,Zcy hi c,if_neg d]
  by_cases hji:j=i
  ·subst hji;rw [if_pos rfl,if_pos rfl];omega
  ·rw [if_neg hji]
   have f:=hu.1 j a b hji
   by_cases hq:(j - 1) / 2=(i - 1) / 2
   ·rw [if_pos hq];rw [hq] at f;omega
   ·rw [if_neg hq]
    by_cases hq2:(j - 1) / 2=i
    ·rw [if_pos hq2];exact hu.2 j a b hq2 h0
    ·rw [if_neg hq2];exact f
 ·rw [Zlp] at b
  rw [Zcy hi c,Zcy hi c,if_neg (by omega),if_neg (by omega),if_neg (by omega)]
  have f:=hu.1 ((i - 1) / 2) g c (by omega)
  by_cases hji:j=i
  ·rw [if_pos hji];exact f
  ·rw [if_neg hji]
   have k:=hu.1 j a b hji
   rw [d] at k;omega
theorem Zyp {i:Nat} (h0:0<i) (h1:i≤9000000):i64.wrap (bJ (i64.wrap ((i:Int) - 1)) 2)=(((i - 1) / 2:Nat):Int):=by
 rw [Zv (x:=(i:Int) - 1) (by omega),bX (by omega),Zv (by omega)];omega
theorem Zy3 (N:Nat):∀ (n:Nat) (h:List Int) (i:Nat),i<n→i<h.length→h.length≤9000000→Zlz h i→
  ∃ h',Zbp N n h (i:Int)=some h'∧h'.Perm h∧S4 h' h'.length
 | 0,h,i,g,_,_,_=>by omega
 | n+1,h,i,g,c,k,d=>by
  rw [Zbp.eq_2]
  by_cases h0:0<i
  ·have a:(i - 1) / 2<h.length:=by omega
   rw [if_pos (dT (by omega)),Zas c,oB,Zyp h0 (by omega),Zas a,oB,Zgy,Zyp h0 (by omega)]
   by_cases hlt:gD h i<gD h ((i - 1) / 2)
   ·obtain ⟨h',m,o,p⟩:=Zy3 N n (Sk h i ((i - 1) / 2)) ((i - 1) / 2) (by omega) (by rw [Zlp];exact a) (by rw [Zlp];exact k) (d.step c h0 hlt)
    refine ⟨h',?_,o.trans (Z16 c a),p⟩
    rw [if_pos (dT hlt),Zas a,oB,Zas c,oB,oB,aD,aD,Z1 (by simpa using a),oB,oB]
    exact m
   ·refine ⟨h,by rw [if_neg (by simpa using hlt)],.refl _,fun j b f=>?_⟩
    by_cases hji:j=i
    ·subst hji;omega
    ·exact d.1 j b f hji
  ·have:i=0:=by omega
   subst this
   rw [if_neg (by decide),Zgy,if_neg (by decide)]
   exact ⟨h,rfl,.refl _,fun j b f=>d.1 j b f (by omega)⟩
theorem Zv5 {h:List Int} {x:Int} {j:Nat} (hj:j<h.length):gD (h++[x]) j=gD h j:=by
 rw [Q1 hj,Q1 (by simp;omega),List.getElem_append_left hj]
theorem Zy4 {N:Nat} {h:List Int} (x:Int) (hl:h.length<2000000) (hh:S4 h h.length) (hN:2000000<N):∃ h',Zgx N h x=some h'∧h'.Perm (x :: h)∧S4 h' h'.length:=by
 rw [Zgx,Z6 (by simp only [nC,nN,maxLen];omega)]
 have i:(h++[x]).length=h.length+1:=by simp
 rw [Zv (by omega),show (((h++[x]).length:Int) - 1)=((h.length:Nat):Int) by omega]
 obtain ⟨h',c,d,f⟩:=Zy3 N N (h++[x]) h.length (by omega) (by omega) (by omega) ⟨fun j a g b=>by rw [Zv5 (by omega),Zv5 (by omega)];exact hh j a (by omega),fun j a g b k=>by omega⟩
 exact ⟨h',c,d.trans (iU x h),f⟩
/-! ### pop -/
def Zi2 (l:List Int) (n i:Nat):Prop:=(∀ j,0<j→j<n→(j - 1) / 2≠i→gD l ((j - 1) / 2)≤gD l j)∧∀ j,0<j→j<n→(j - 1) / 2=i→0<i→gD l ((i - 1) / 2)≤gD l j
theorem Zi2.step {l:List Int} {n i q:Nat} (hu:Zi2 l n i) (hn:n≤l.length) (hi:i<n) (hq:q<n) (hqi:(q - 1) / 2=i) (hq0:0<q) (hlt:gD l q<gD l i) (hle:∀ j,0<j→j<n→(j - 1) / 2=i→gD l q≤gD l j):Zi2 (Sk l i q) n q:=by
 have b:i<l.length:=by omega
 have c:q<l.length:=by omega
 refine ⟨fun j a f d=>?_,fun j a f d _=>?_⟩
 ·rw [Zcy b c,Zcy b c,if_neg d]
  by_cases h1:(j - 1) / 2=i
  ·rw [if_pos h1]
   by_cases h2:j=q
   ·rw [if_pos h2];omega
   ·rw [if_neg h2,if_neg (by omega)];exact hle j a f h1
  ·rw [if_neg h1,if_neg (show j≠q by omega)]
   by_cases h2:j=i
   ·subst h2
    rw [if_pos rfl];exact hu.2 q hq0 hq hqi a
   ·rw [if_neg h2];exact hu.1 j a f h1
 ·rw [Zcy b c,Zcy b c,hqi,if_neg (by omega),if_pos rfl,if_neg (by omega),if_neg (by omega)]
  have:=hu.1 j a f (by omega)
  rwa [d] at this
theorem Xav {l:List Int} {n i q:Nat} (hn:n≤l.length) (hi:i<n) (hq:q<n):(Sk l i q).take n=Sk (l.take n) i q:=by
 have a:∀ j,j<n→gD (l.take n) j=gD l j:=fun j b=>by rw [Q1 (by simp;omega),Q1 (by omega),iI]
 rw [Sk,Sk,lH,lH,a i hi,a q hq]
theorem Zyt (N:Nat) (p0:List Int) (x0:Int) (n:Nat) (hp0:p0.length=n+1) (hn:n≤2000000) (hN:2000000<N):∀ (m:Nat) (l:List Int) (i:Nat),n<m+i→(i<n∨n=0∧i=0)→l.length=n+1→Zi2 l n i→
  ∃ t,Qe N p0 x0 m l (i:Int)=some (x0,t)∧t.Perm (l.take n)∧S4 t n
 | 0,l,i,K,L,C,w=>by omega
 | m+1,l,i,K,L,C,w=>by
  rw [Qe.eq_2]
  obtain ⟨N,rfl⟩:∃ N',N=N'+1+1+1:=⟨N - 3,by omega⟩
  have D:i64.wrap ((p0.length:Int) - 1)=(n:Int):=by rw [Zv (by omega)];omega
  have M:i64.wrap (i64.wrap (2 * (i:Int))+1)=((2 * i+1:Nat):Int):=by rw [Zv (x:=2 * (i:Int)) (by omega),Zv (by omega)];omega
  have O:i64.wrap (i64.wrap (2 * (i:Int))+2)=((2 * i+2:Nat):Int):=by rw [Zv (x:=2 * (i:Int)) (by omega),Zv (by omega)];omega
  -- one child after the other
  have d:∀ (v:Nat) (k a:Nat),v<2→k=2 * i+1+v→(a<n∨n=0)→a<l.length→∀ f y,Qf (N+1+1+1) p0 x0 l (i:Int) y (f+1) (v:Int) (a:Int)=
    Qf (N+1+1+1) p0 x0 l (i:Int) y f ((v+1:Nat):Int) ((if k<n∧gD l k<gD l a then k else a:Nat):Int):=by
   intro v k a Q A X F f y
   rw [Qf.eq_2,if_pos (dT (by omega)),M,O,D]
   have G:Zm [((2 * i+1:Nat):Int),((2 * i+2:Nat):Int)] (v:Int)=some (k:Int):=by
    rw [Zga]
    match v,Q with
    | 0,_=>simp [A]
    | 1,_=>simp [A];omega
   rw [G,oB]
   by_cases h1:k<n
   ·rw [if_pos (dT (by omega)),Zas (by omega),oB,Zas F,oB,Zgw,Zc3,Zc3,wS (by omega)]
    by_cases o:gD l k<gD l a
    ·rw [if_pos (dT o),if_pos ⟨h1,o⟩]
    ·rw [if_neg (by simpa using o),if_neg (fun h=>o h.2)]
   ·rw [if_neg (by rw [decide_eq_true_eq];omega),Zgw,Zc3,Zc3,if_neg (by decide),wS (by omega),if_neg (fun h=>h1 h.1)]
  have r:i<l.length:=by omega
  have H:=d 0 (2 * i+1) i (by omega) (by omega) (by omega) r (N+1+1) (Qe (N+1+1+1) p0 x0 m)
  generalize hq1:(if 2 * i+1<n∧gD l (2 * i+1)<gD l i then 2 * i+1 else i)=q1 at H
  have p:(q1=i∧(2 * i+1<n→gD l i≤gD l (2 * i+1)))∨(q1=2 * i+1∧q1<n∧gD l q1<gD l i):=by
   by_cases hc:2 * i+1<n∧gD l (2 * i+1)<gD l i
   ·rw [if_pos hc] at hq1;subst hq1;exact .inr ⟨rfl,hc.1,hc.2⟩
   ·rw [if_neg hc] at hq1;subst hq1;exact .inl ⟨rfl,fun h=>by omega⟩
  have I:=d 1 (2 * i+2) q1 (by omega) (by omega) (by omega) (by omega) (N+1) (Qe (N+1+1+1) p0 x0 m)
  generalize hq2:(if 2 * i+2<n∧gD l (2 * i+2)<gD l q1 then 2 * i+2 else q1)=q2 at I
  have B:(q2=i∧(2 * i+1<n→gD l i≤gD l (2 * i+1))∧(2 * i+2<n→gD l i≤gD l (2 * i+2)))∨((q2=2 * i+1∨q2=2 * i+2)∧q2<n∧gD l q2<gD l i∧(2 * i+1<n→gD l q2≤gD l (2 * i+1))∧(2 * i+2<n→gD l q2≤gD l (2 * i+2))):=by
   by_cases hc:2 * i+2<n∧gD l (2 * i+2)<gD l q1
   ·rw [if_pos hc] at hq2;subst hq2
    rcases p with ⟨rfl,b⟩ | ⟨rfl,b,g⟩
    ·exact .inr ⟨.inr rfl,hc.1,hc.2,fun h=>by have:=b h;omega,fun _=>gI _⟩
    ·exact .inr ⟨.inr rfl,hc.1,by omega,fun _=>by omega,fun _=>gI _⟩
   ·rw [if_neg hc] at hq2;subst hq2
    rcases p with ⟨rfl,b⟩ | ⟨rfl,b,g⟩
    ·exact .inl ⟨rfl,b,fun h=>by omega⟩
    ·exact .inr ⟨.inl rfl,b,g,fun _=>gI _,fun h=>by omega⟩
  rw [show (0:Int)=((0:Nat):Int) from rfl,H]
  rw [show ((0+1:Nat):Int)=((1:Nat):Int) from rfl,I,Qf.eq_2,if_neg (by decide),D,aD]
  rcases B with ⟨rfl,b,g⟩ | ⟨o,b,g,R,S⟩
  ·rw [if_pos (by simp)]
   refine ⟨_,rfl,.refl _,fun j s c=>?_⟩
   have J:∀ k,k<n→gD (l.take n) k=gD l k:=fun k A=>by rw [Q1 (by simp;omega),Q1 (by omega),iI]
   rw [J _ (by omega),J _ c]
   by_cases hq:(j - 1) / 2=q2
   ·rw [hq]
    rcases (show j=2 * q2+1∨j=2 * q2+2 by omega) with rfl | rfl
    ·exact b c
    ·exact g c
   ·exact w.1 j s c hq
  ·have q:q2<l.length:=by omega
   have u:i<n:=by omega
   have T:=w.step (by omega) u b (by omega) (by omega) g (fun j s c Y=>by
    rcases (show j=2 * i+1∨j=2 * i+2 by omega) with rfl | rfl
    ·exact R c
    ·exact S c)
   obtain ⟨t,U,V,W⟩:=Zyt (N+1+1+1) p0 x0 n hp0 hn hN m (Sk l i q2) q2 (by omega) (.inl b) (by rw [Zlp];exact C) T
   refine ⟨t,?_,V.trans ?_,W⟩
   ·rw [if_neg (by simp;omega),Zas q,oB,Zas r,oB,oB,aD,aD,Z1 (by simpa using q),oB,oB]
    exact U
   ·rw [Xav (by omega) u b];exact Z16 (by simp;omega) (by simp;omega)
theorem Z8p {N:Nat} {h:List Int} (hl:h.length≤2000000) (h0:0<h.length) (hh:S4 h h.length) (hN:2000000<N):∃ x t,Zjn N h=some (x,t)∧h.Perm (x :: t)∧(∀ y ∈ h,x≤y)∧S4 t t.length:=by
 rw [Zjn]
 obtain ⟨n,a⟩:∃ n,h.length=n+1:=⟨h.length - 1,by omega⟩
 have i:i64.wrap ((h.length:Int) - 1)=(n:Int):=by rw [Zv (by omega)];omega
 rw [i,show (0:Int)=((0:Nat):Int) from rfl,Zas h0,oB,Zas (by omega),oB,oB,Z6 (by simp;omega),aD]
 have k:Zi2 (h.set 0 (gD h n)) n 0:=by
  refine ⟨fun j f d s=>?_,fun j _ _ _ h=>by omega⟩
  rw [Zml _ _ _ _ h0,Zml _ _ _ _ h0,if_neg (by omega),if_neg (by omega)]
  exact hh j f (by omega)
 obtain ⟨t,m,o,p⟩:=Zyt N h (gD h 0) n a (by omega) hN N (h.set 0 (gD h n)) 0 (by omega) (by omega) (by simpa using a) k
 have g:h.Perm (gD h 0 :: (h.set 0 (gD h n)).take n):=by
  match h,a with
  | x :: r,a=>
   have b:r.length=n:=by simpa using a
   match n,b with
   | 0,b=>rw [List.length_eq_zero_iff.1 b];exact .refl _
   | n+1,b=>
    have e:gD (x :: r) (n+1)=gD r n:=rfl
    rw [e,List.set_cons_zero,List.take_succ_cons]
    refine List.Perm.cons x ?_
    have:r=r.take n++[gD r n]:=by
     have:=cA (show n<r.length by omega)
     rw [bP (by omega)] at this
     rw [Q1 (by omega)];exact this
    conv=>lhs;rw [this]
    exact iU _ _
 have c:h.Perm (gD h 0 :: t):=g.trans (List.Perm.cons _ o.symm)
 refine ⟨gD h 0,t,m,c,fun y q=>?_,?_⟩
 ·obtain ⟨j,d,rfl⟩:=List.getElem_of_mem q
  rw [← Q1 d];exact hh.min j d
 ·have:=c.length_eq
  rw [nC,a] at this
  rw [show t.length=n by omega];exact p
theorem Xi {α:Type} {l:List α} {d:α} {j:Nat} (hj:j<l.length):l.getD j d=l[j]:=by rw [aE,aN hj];rfl
theorem Wf {α:Type} {l:List α} (d:α) {j:Nat} (hj:j<l.length):Zm l (j:Int)=some (l.getD j d):=by rw [Z1 hj,Xi hj]
theorem V2 {α:Type} (l:List α) (d:α) (i j:Nat) (x:α) (hi:i<l.length):(l.set i x).getD j d=if j=i then x else l.getD j d:=by
 rw [aE,aE,kH]
 by_cases h1:i=j
 ·subst h1;rw [if_pos rfl,if_pos hi,if_pos rfl];rfl
 ·rw [if_neg h1,if_neg (Ne.symm h1)]
def Uq:Nat→List R2→Int→List Int
 | _,[],_=>[]
 | k,l :: P,p=>aM (l.count p) (k:Int)++Uq (k+1) P p
def Zlv (n:Nat) (l:List Int):Prop:=∀ x ∈ l,0≤x∧x<(n:Int)
theorem Zul (k:Nat) (kk:Nat→List R2→Option R6):∀ (l:List Int) (out:List R2),Zlv out.length l→(∀ p:Nat,(out.getD p []).length+l.length≤1048576)→
  ∃ out',Zc1 k kk l out=kk (k+1) out'∧out'.length=out.length∧∀ p:Nat,p<out.length→out'.getD p []=out.getD p []++aM (l.count (p:Int)) (k:Int)
 | [],out,h,a=>⟨out,by rw [Zc1.eq_1],rfl,fun p c=>by simp⟩
 | x :: l,out,h,a=>by
  obtain ⟨f,n⟩:=h x aC
  obtain ⟨q,rfl⟩:=Int.eq_ofNat_of_zero_le f
  have b:q<out.length:=by omega
  have d:=a q
  simp only [nC] at d a
  rw [Zc1.eq_2,Wf [] b,oB,Z6 (by simp only [nC,nN,maxLen];omega),aD]
  obtain ⟨out',g,i,j⟩:=Zul k kk l (out.set q (out.getD q []++[(k:Int)])) (by rw [nS];exact fun y m=>h y (aB _ m)) (fun p=>by
   rw [V2 _ _ _ _ _ b]
   have:=a p
   split
   ·simp only [nA,nC,nN];omega
   ·omega)
  refine ⟨out',g,by rw [i,nS],fun p c=>?_⟩
  rw [j p (by rw [nS];exact c),V2 _ _ _ _ _ b,gP]
  by_cases hpq:p=q
  ·subst hpq
   rw [if_pos rfl,if_pos (by simp),bG,show l.count (p:Int)+1=1+l.count (p:Int) by omega,show [(k:Int)]=aM 1 (k:Int) from rfl,List.replicate_append_replicate]
  ·rw [if_neg hpq,if_neg (by simp;omega),bQ]
theorem Zwi (p:Int):∀ (k:Nat) (P:List R2),(Uq k P p).length≤T4 P
 | _,[]=>by simp [Uq]
 | k,l :: P=>by
  rw [Uq,nA,bD,Zlq]
  have:=Zwi p (k+1) P
  have:=gX (a:=p) (l:=l)
  omega
theorem Zuk (n:Nat):∀ (P:List R2) (k:Nat) (out:List R2),out.length=n→(∀ l ∈ P,Zlv n l)→(∀ p:Nat,(out.getD p []).length+T4 P≤1048576)→
  ∃ out',Zax P k out=some out'∧out'.length=n∧∀ p:Nat,p<n→out'.getD p []=out.getD p []++Uq k P p
 | [],k,out,c,_,_=>⟨out,by rw [Zax.eq_1],c,fun p b=>by simp [Uq]⟩
 | l :: P,k,out,c,h,d=>by
  simp only [Zlq] at d
  rw [Zax.eq_2]
  obtain ⟨f,i,r,g⟩:=Zul k (Zax P) l out (by rw [c];exact h l aC) (fun p=>by have:=d p;omega)
  obtain ⟨out',j,m,o⟩:=Zuk n P (k+1) f (by omega) (fun x q=>h x (aB _ q)) (fun p=>by
   have:=d p
   by_cases b:p<out.length
   ·rw [g p b,nA,bD]
    have:=gX (a:=(p:Int)) (l:=l)
    omega
   ·rw [aE,cJ (by omega)];simp;omega)
  refine ⟨out',by rw [i,j],m,fun p b=>?_⟩
  rw [o p b,g p (by omega),bG,Uq]
theorem Z5j {P:List R2} (hP:P.length≤1048576) (ht:T4 P≤1048576) (h:∀ l ∈ P,Zlv P.length l):∃ D,Zgt P=some D∧D.length=P.length∧∀ p:Nat,p<P.length→D.getD p []=Uq 0 P p:=by
 rw [Zgt,Z6 (by simp only [maxLen];omega)]
 have a:∀ p:Nat,(aM P.length ([]:List Int)).getD p []=[]:=fun p=>by
  rw [aE,List.getElem?_replicate];split <;> rfl
 obtain ⟨D,b,c,d⟩:=Zuk P.length P 0 (aM P.length []) (by simp) h (fun p=>by rw [a];simpa using ht)
 exact ⟨D,b,c,fun p f=>by rw [d p f,a];rfl⟩
theorem Zqp (p:Int):∀ (k:Nat) (P:List R2) (c:Nat),(Uq k P p).count (c:Int)=if k≤c then (P.getD (c - k) []).count p else 0
 | k,[],c=>by simp [Uq]
 | k,l :: P,c=>by
  rw [Uq,List.count_append,Zqp p (k+1) P c,List.count_replicate]
  by_cases h1:k=c
  ·subst h1
   rw [if_pos (by simp),if_neg (by omega),if_pos (aY _),Nat.sub_self];rfl
  ·rw [if_neg (by simp;omega)]
   by_cases h2:k≤c
   ·rw [if_pos (by omega),if_pos h2,show c - k=(c - (k+1))+1 by omega];simp
   ·rw [if_neg (by omega),if_neg h2]
theorem Zwj (p:Int):∀ (k:Nat) (P:List R2) (x:Int),x ∈ Uq k P p→∃ c:Nat,x=(c:Int)∧k≤c∧c<k+P.length
 | k,[],x,h=>by simp [Uq] at h
 | k,l :: P,x,h=>by
  rw [Uq] at h
  rcases bE.1 h with h | h
  ·exact ⟨k,(List.mem_replicate.1 h).2,aY _,by simp⟩
  ·obtain ⟨c,a,b,d⟩:=Zwj p (k+1) P x h
   exact ⟨c,a,by omega,by rw [nC];omega⟩
def Sn (P:List R2) (out:List Int) (c:Nat):Nat:=(P.getD c []).countP fun q=>!decide (q ∈ out)
theorem Zux (out:List Int) (p:Int) (hp:p ∉ out):∀ l:List Int,(l.countP fun q=>!decide (q ∈ out))=(l.countP fun q=>!decide (q ∈ out++[p]))+l.count p
 | []=>rfl
 | x :: l=>by
  rw [kL,kL,gP,Zux out p hp l]
  by_cases h1:x=p
  ·subst h1
   have b:(!decide (x ∈ out))=true:=by simp [hp]
   have a:(!decide (x ∈ out++[x]))=false:=by simp
   rw [b,a];simp;omega
  ·have a:(x ∈ out++[p])↔x ∈ out:=by simp [h1]
   rw [show (!decide (x ∈ out++[p]))=(!decide (x ∈ out)) from congrArg _ (decide_eq_decide.2 a),if_neg (show ¬ ((x==p)=true) by simpa using h1)];omega
theorem Zus {P:List R2} {out:List Int} {p:Int} (hp:p ∉ out) (c:Nat):Sn P out c=Sn P (out++[p]) c+(P.getD c []).count p:=Zux out p hp _
theorem Zz2 (P:List R2) (out:List Int) (c:Nat):Si P out c=true↔(c:Int) ∉ out∧Sn P out c=0:=by
 rw [Si,Sn,List.countP_eq_zero]
 simp
structure Zlw (P:List R2) (out left ready:List Int):Prop where
 ok:U8 P out
 len:left.length=P.length
 cnt:∀ c:Nat,c<P.length→left.getD c 0=(Sn P out c:Int)
 heap:S4 ready ready.length
 nd:ready.Nodup
 mem:∀ y:Int,y ∈ ready↔∃ c:Nat,c<P.length∧y=(c:Int)∧(c:Int) ∉ out∧left.getD c 0=0
theorem Zsp (N:Nat) (P:List R2) (hP:P.length≤1048576) (ht:T4 P≤1048576) (hN:2000000<N) (out:List Int) (p:Nat) (r2:List Int) (kk:List Int→List Int→List Int→Option R2):
  ∀ (rest left ready:List Int),rest.length≤9000000000000000000→left.length=P.length→(∀ c:Nat,c<P.length→left.getD c 0=((Sn P (out++[(p:Int)]) c+rest.count (c:Int):Nat):Int))→
   S4 ready ready.length→ready.Nodup→(∀ y:Int,y ∈ ready↔∃ c:Nat,c<P.length∧y=(c:Int)∧(c:Int) ∉ out++[(p:Int)]∧left.getD c 0=0)→
   (∀ x ∈ rest,∃ c:Nat,c<P.length∧x=(c:Int)∧x ∉ out++[(p:Int)])→
   ∃ left' ready',Za2 N out kk ((p:Int),r2) rest left ready=kk left' ready' (out++[(p:Int)])∧left'.length=P.length∧(∀ c:Nat,c<P.length→left'.getD c 0=(Sn P (out++[(p:Int)]) c:Int))∧
    S4 ready' ready'.length∧ready'.Nodup∧∀ y:Int,y ∈ ready'↔∃ c:Nat,c<P.length∧y=(c:Int)∧(c:Int) ∉ out++[(p:Int)]∧left'.getD c 0=0
 | [],left,ready,_,u,v,w,o,m,_=>⟨left,ready,by rw [Za2.eq_1],u,fun c F=>by rw [v c F];simp,w,o,m⟩
 | x :: rest,left,ready,n,u,v,w,o,m,J=>by
  obtain ⟨c0,k,rfl,G⟩:=J x aC
  have b:c0<left.length:=by omega
  have s:=v c0 k
  rw [gP,if_pos (by simp)] at s
  have R:Sn P (out++[(p:Int)]) c0≤1048576:=by
   have H:=List.countP_le_length (p:=fun q=>!decide (q ∈ out++[(p:Int)])) (l:=P.getD c0 [])
   rw [Xi k] at H
   have j:=Zox (P:=P) (aG k)
   rw [Sn,Xi k];omega
  have S:ready.length≤P.length:=by
   have H:=Zim (r:=(iT P.length).map fun i:Nat=>(i:Int)) o fun y I=>by
    obtain ⟨c,j,g,_⟩:=(m y).1 I
    exact bO.2 ⟨c,fS.2 j,g.symm⟩
   simpa using H
  have M:i64.wrap (left.getD c0 0 - 1)=((Sn P (out++[(p:Int)]) c0+rest.count (c0:Int):Nat):Int):=by
   have g:=gX (a:=(c0:Int)) (l:=rest)
   rw [s,Zv]
   ·omega
   ·simp only [nC] at n
    omega
  have A:∀ c:Nat,c<P.length→(left.set c0 (i64.wrap (left.getD c0 0 - 1))).getD c 0=((Sn P (out++[(p:Int)]) c+rest.count (c:Int):Nat):Int):=fun c F=>by
   rw [V2 _ _ _ _ _ b]
   by_cases hcc:c=c0
   ·subst hcc;rw [if_pos rfl,M]
   ·rw [if_neg hcc,v c F,gP,if_neg (by simp;omega),bQ]
  have B:left.getD c0 0≠0:=by rw [s];omega
  have K:(c0:Int) ∉ ready:=fun h=>by
   obtain ⟨c,j,g,_,f⟩:=(m _).1 h
   have:c=c0:=by omega
   subst this;exact B f
  have C:∀ x ∈ rest,∃ c:Nat,c<P.length∧x=(c:Int)∧x ∉ out++[(p:Int)]:=fun x G=>J x (aB _ G)
  have D:rest.length≤9000000000000000000:=by simp only [nC] at n;omega
  rw [Za2.eq_2,Wf 0 b,oB,oB,aD,Wf 0 (by rw [nS];exact b),oB,Zg0,V2 _ _ _ _ _ b,if_pos rfl]
  by_cases hz:i64.wrap (left.getD c0 0 - 1)=0
  ·obtain ⟨t,O,L,Q⟩:=Zy4 (N:=N) (c0:Int) (by omega:ready.length<2000000) w hN
   rw [if_pos (by simpa using hz),O,oB,Zg0]
   refine Zsp N P hP ht hN out p r2 kk rest _ t D (by rw [nS];exact u) A Q (L.nodup_iff.2 (cP.2 ⟨K,o⟩)) (fun y=>?_) C
   rw [L.mem_iff,aP]
   constructor
   ·rintro (rfl | I)
    ·exact ⟨c0,k,rfl,G,by rw [V2 _ _ _ _ _ b,if_pos rfl,hz]⟩
    ·obtain ⟨c,j,g,f,d⟩:=(m y).1 I
     refine ⟨c,j,g,f,?_⟩
     rw [V2 _ _ _ _ _ b]
     split
     ·exact hz
     ·exact d
   ·rintro ⟨c,j,g,f,d⟩
    by_cases hcc:c=c0
    ·subst hcc;exact .inl g
    ·rw [V2 _ _ _ _ _ b,if_neg hcc] at d
     exact .inr ((m y).2 ⟨c,j,g,f,d⟩)
  ·rw [if_neg (by simpa using hz)]
   refine Zsp N P hP ht hN out p r2 kk rest _ ready D (by rw [nS];exact u) A w o (fun y=>?_) C
   rw [m y]
   constructor
   ·rintro ⟨c,j,g,f,d⟩
    refine ⟨c,j,g,f,?_⟩
    rw [V2 _ _ _ _ _ b,if_neg (fun h=>B (by rw [← h];exact d))];exact d
   ·rintro ⟨c,j,g,f,d⟩
    refine ⟨c,j,g,f,?_⟩
    rw [V2 _ _ _ _ _ b] at d
    split at d
    ·exact absurd d hz
    ·exact d
theorem Xab {N:Nat} {P D:List R2} (hP:P.length≤1048576) (ht:T4 P≤1048576) (hN:2000000<N) (hD:D.length=P.length) (hDk:∀ p:Nat,p<P.length→D.getD p []=Uq 0 P p) {out left ready:List Int} (hi:Zlw P out left ready) (n:Nat):
  (Vr P out 0=none→Tu N D (n+1) left ready out=some out)∧
  ∀ p,Vr P out 0=some p→∃ left' ready',Zlw P (out++[(p:Int)]) left' ready'∧Tu N D (n+1) left ready out=Tu N D n left' ready' (out++[(p:Int)]):=by
 have Z:ready.length≤P.length:=by
  have k:=Zim (r:=(iT P.length).map fun i:Nat=>(i:Int)) hi.nd fun y U=>by
   obtain ⟨c,b,d,_⟩:=(hi.mem y).1 U
   exact bO.2 ⟨c,fS.2 b,d.symm⟩
  simpa using k
 have q:∀ c:Nat,c<P.length→(Si P out c=true↔(c:Int) ∈ ready):=fun c v=>by
  rw [Zz2,hi.mem]
  constructor
  ·rintro ⟨f,g⟩;exact ⟨c,v,rfl,f,by rw [hi.cnt c v,g];rfl⟩
  ·rintro ⟨M,f,g,o,m⟩
   have:M=c:=by omega
   subst this
   rw [hi.cnt M f] at m
   exact ⟨o,by omega⟩
 refine ⟨fun w=>?_,fun p w=>?_⟩
 ·have V:ready=[]:=by
   cases s:ready with
   | nil=>rfl
   | cons y l=>
    obtain ⟨c,f,g,_⟩:=(hi.mem y).1 (by rw [s];exact aC)
    have o:=Z72 w c (bK _) f
    have m:=(q c f).2 (by rw [← g,s];exact aC)
    rw [o] at m;cases m
  rw [Tu.eq_2,V,if_neg (by decide)]
 ·obtain ⟨_,H,s,I⟩:=Zrf w
  have B:=(q p H).1 s
  have J:0<ready.length:=List.length_pos_of_mem B
  obtain ⟨x,t,W,K,X,Y⟩:=Z8p (N:=N) (by omega:ready.length≤2000000) J hi.heap hN
  have C:x ∈ ready:=K.mem_iff.2 aC
  have O:x=(p:Int):=by
   obtain ⟨c,f,g,_⟩:=(hi.mem x).1 C
   have o:=X _ B
   have m:¬ c<p:=fun F=>by
    have L:=I c (bK _) F
    have A:=(q c f).2 (by rw [← g];exact C)
    rw [L] at A;cases A
   omega
  subst O
  have G:((p:Int) :: t).Nodup:=K.nodup_iff.1 hi.nd
  obtain ⟨u,a0⟩:=(Zz2 P out p).1 s
  obtain ⟨Q,F⟩:=hi.ok.step w
  have a1:=hi.ok.len
  have T:(P.getD p []).count (p:Int)=0:=by have:=Zus (P:=P) u p;omega
  rw [Tu.eq_2,if_pos (dT (by omega)),W,oB,Z6 (by simp only [nC,nN,maxLen];omega),Wf [] (by rw [hD];exact H),oB,hDk p H]
  have a2:=Zwi (p:Int) 0 P
  obtain ⟨left',ready',f,g,o,m,L,A⟩:=Zsp N P hP ht hN out p t (Tu N D n) (Uq 0 P p) left t (by omega) hi.len (fun c v=>by
    rw [hi.cnt c v,Zus u c,Zqp (p:Int) 0 P c,if_pos (bK _),jM]) Y (cP.1 G).2 (fun y=>by
    have k:y ∈ t↔y ∈ ready∧y≠(p:Int):=by
     rw [K.mem_iff,aP]
     exact ⟨fun h=>⟨.inr h,fun e=>(cP.1 G).1 (by rw [← e];exact h)⟩,fun h=>h.1.resolve_left h.2⟩
    rw [k,hi.mem]
    constructor
    ·rintro ⟨⟨c,b,d,a,j⟩,R⟩
     exact ⟨c,b,d,by rw [bE,bT];exact fun h=>h.elim a fun h=>R (by rw [d,h]),j⟩
    ·rintro ⟨c,b,d,a,j⟩
     rw [bE,bT] at a
     exact ⟨⟨c,b,d,fun h=>a (.inl h),j⟩,fun h=>a (.inr (by rw [← d,h]))⟩) (fun x S=>by
    obtain ⟨c,k,_,b⟩:=Zwj (p:Int) 0 P x S
    have b:c<P.length:=by omega
    have d:=Zqp (p:Int) 0 P c
    rw [if_pos (bK _),jM] at d
    have a:0<(P.getD c []).count (p:Int):=by rw [← d,← k];exact kD.2 S
    refine ⟨c,b,k,fun h=>?_⟩
    rcases bE.1 h with h | h
    ·rw [k] at h
     have j:=hi.ok.2.2 c b h (p:Int) (by rw [Xi b] at a;exact kD.1 a)
     exact u j
    ·rw [bT] at h
     have:c=p:=by omega
     subst this
     omega)
  exact ⟨left',ready',⟨Q,g,o,m,L,A⟩,f⟩
theorem Z1l {N:Nat} {P D:List R2} (hP:P.length<1048576) (hls:∀ x ∈ P,x.length≤1048576) (ht:T4 P≤1048576) (hN:2000000<N) (hD:D.length=P.length) (hDk:∀ p:Nat,p<P.length→D.getD p []=Uq 0 P p):∀ (n:Nat) (out left ready:List Int),Zlw P out left ready→P.length<n+out.length→
  Tu N D n left ready out=Zb9 N P n out
 | 0,out,left,ready,a,d=>by have:=a.ok.len;omega
 | n+1,out,left,ready,a,d=>by
  have k:=a.ok.len
  obtain ⟨f,g⟩:=Xab (N:=N) (by omega) ht hN hD hDk a n
  rw [Zrn (by omega) hls (by omega) (by omega)]
  cases hnx:Vr P out 0 with
  | none=>rw [f hnx];rfl
  | some p=>
   obtain ⟨c,b,i,j⟩:=g p hnx
   rw [j]
   exact Z1l hP hls ht hN hD hDk n _ _ _ i (by simp;omega)
theorem Zso {N:Nat} (P D:List R2) (hP:P.length<1048576) (hN:2000000<N) (hl:∀ l ∈ P,l.length≤1048576):∀ (Q:List R2) (k:Nat) (left ready:List Int),P.drop k=Q→k≤P.length→left.length=P.length→
  (∀ c:Nat,c<k→left.getD c 0=((P.getD c []).length:Int))→S4 ready ready.length→ready.Nodup→(∀ y:Int,y ∈ ready↔∃ c:Nat,c<k∧y=(c:Int)∧(P.getD c []).length=0)→
  ∃ left' ready',Za1 N D Q k left ready=Tu N D N left' ready' []∧Zlw P [] left' ready'
 | [],k,left,ready,g,G,s,m,t,n,j=>by
  have w:k=P.length:=by have:=congrArg kC g;simp at this;omega
  subst w
  have A:∀ c,Sn P [] c=(P.getD c []).length:=fun c=>by
   rw [Sn,List.countP_eq_length.2 (fun a _=>by simp)]
  refine ⟨left,ready,by rw [Za1.eq_1],⟨⟨.nil,by simp,by simp⟩,s,fun c B=>by rw [m c B,A],t,n,fun y=>?_⟩⟩
  rw [j]
  constructor
  ·rintro ⟨c,f,b,d⟩;exact ⟨c,f,b,by simp,by rw [m c f,d];rfl⟩
  ·rintro ⟨c,f,b,_,d⟩;exact ⟨c,f,b,by rw [m c f] at d;omega⟩
 | x :: Q,k,left,ready,g,G,s,m,t,n,j=>by
  have u:k<P.length:=by
   rcases Nat.lt_or_ge k P.length with h | h
   ·exact h
   ·rw [aO h] at g;cases g
  rw [aK u] at g
  obtain ⟨H,g⟩:=List.cons.inj g
  have o:P.getD k []=x:=by rw [Xi u,H]
  have p:k<left.length:=by omega
  have M:ready.length≤k:=by
   have b:=Zim (r:=(iT k).map fun i:Nat=>(i:Int)) n fun y I=>by
    obtain ⟨c,d,J,_⟩:=(j y).1 I
    exact bO.2 ⟨c,fS.2 d,J.symm⟩
   simpa using b
  have v:∀ c:Nat,c<k+1→(left.set k (x.length:Int)).getD c 0=((P.getD c []).length:Int):=fun c B=>by
   rw [V2 _ _ _ _ _ p]
   by_cases hck:c=k
   ·subst hck;rw [if_pos rfl,o]
   ·rw [if_neg hck,m c (by omega)]
  have C:(k:Int) ∉ ready:=fun h=>by obtain ⟨c,f,b,_⟩:=(j _).1 h;omega
  rw [Za1.eq_2,Wf 0 p,oB,oB,aD]
  by_cases h0:x.length=0
  ·obtain ⟨q,K,F,L⟩:=Zy4 (N:=N) (k:Int) (by omega:ready.length<2000000) t hN
   rw [if_pos (dT (by omega)),K,oB,Zg1]
   refine Zso P D hP hN hl Q (k+1) _ q g (by omega) (by rw [nS];exact s) v L (F.nodup_iff.2 (cP.2 ⟨C,n⟩)) (fun y=>?_)
   rw [F.mem_iff,aP,j]
   constructor
   ·rintro (rfl | ⟨c,f,b,d⟩)
    ·exact ⟨k,by omega,rfl,by rw [o];exact h0⟩
    ·exact ⟨c,by omega,b,d⟩
   ·rintro ⟨c,f,b,d⟩
    by_cases hck:c=k
    ·subst hck;exact .inl b
    ·exact .inr ⟨c,by omega,b,d⟩
  ·rw [if_neg (by rw [decide_eq_true_eq];omega),Zg1]
   refine Zso P D hP hN hl Q (k+1) _ ready g (by omega) (by rw [nS];exact s) v t n (fun y=>?_)
   rw [j]
   constructor
   ·rintro ⟨c,f,b,d⟩;exact ⟨c,by omega,b,d⟩
   ·rintro ⟨c,f,b,d⟩
    by_cases hck:c=k
    ·subst hck;rw [o] at d;exact absurd d h0
    ·exact ⟨c,by omega,b,d⟩
theorem Xaa {N:Nat} {P D:List R2} (hP:P.length<1048576) (hls:∀ x ∈ P,x.length≤1048576) (ht:T4 P≤1048576) (hN:2000000<N) (hD:D.length=P.length) (hDk:∀ p:Nat,p<P.length→D.getD p []=Uq 0 P p):Zgz N P D=Zad N P:=by
 rw [Zgz,Z6 (by simp only [maxLen];omega),Zad]
 obtain ⟨left,a,b,d⟩:=Zso (N:=N) P D hP hN hls P 0 (aM P.length 0) [] rfl (bK _) (by simp) (fun c g=>by omega) (fun j _ f=>by simp at f) .nil (fun y=>by simp)
 rw [b]
 exact Z1l hP hls ht hN hD hDk N [] _ _ d (by simp;omega)
theorem Zvr (kk:Option Int):∀ (l:List Int) (seen:List Rc) (S:List Int),S.Nodup→(∀ k,W3 seen k=if k ∈ S then some 1 else none)→Zc2 kk l seen=if (S++l).Nodup then kk else some 40
 | [],seen,S,c,d=>by rw [Zc2.eq_1,List.append_nil,if_pos c]
 | x :: l,seen,S,c,d=>by
  rw [Zc2.eq_2,d x]
  by_cases hx:x ∈ S
  ·rw [if_pos hx,if_pos (by decide),if_neg]
   intro h
   exact (dP.1 h).2.2 x hx x aC rfl
  ·rw [if_neg hx,if_neg (by decide),oB,Zvr kk l _ (S++[x]) (by
    rw [dP]
    refine ⟨c,by simp,fun a g b f e=>?_⟩
    rw [bT] at f;subst f;subst e;exact hx g) (fun k=>by
    rw [Zxj,d k]
    by_cases hk:k=x
    ·subst hk;rw [if_pos rfl,if_pos (by simp)]
    ·rw [if_neg hk]
     by_cases hs:k ∈ S
     ·rw [if_pos hs,if_pos (by simp [hs])]
     ·rw [if_neg hs,if_neg (by simp [hs,hk])])]
   rw [bG];rfl
theorem Zvq:∀ P:List R2,Zaz P=if Tj P then some 40 else some 0
 | []=>by rw [Zaz.eq_1];rfl
 | l :: P=>by
  rw [Zaz.eq_2,Zvr _ l [] [] .nil (fun k=>by simp [W3]),Zvq P,aV]
  by_cases h:l.Nodup
  ·rw [if_pos h]
   have:Tj (l :: P)=Tj P:=by rw [Tj,Tj,fE,decide_eq_true h];rfl
   rw [this]
  ·rw [if_neg h]
   have:Tj (l :: P)=true:=by rw [Tj,fE,decide_eq_false h];rfl
   rw [this];rfl
theorem Zvs (P:List R2) (kk:Option Int):∀ l:List Int,Za0 P kk l=if (l.all fun p=>decide (0≤p∧p<(P.length:Int)))=true then kk else some 3
 | []=>by rw [Za0.eq_1];rfl
 | x :: l=>by
  rw [Za0.eq_2,Zvs P kk l,Zgv,Zgv,eA]
  by_cases h1:x<0
  ·rw [if_pos (by simpa using h1),if_pos rfl,decide_eq_false (by omega),Bool.false_and,if_neg (by decide)]
  ·rw [if_neg (by simpa using h1)]
   by_cases h2:(P.length:Int)≤x
   ·rw [if_pos (by simpa using h2),decide_eq_false (by omega),Bool.false_and,if_neg (by decide)]
   ·rw [if_neg (by simpa using h2),decide_eq_true (by omega),Bool.true_and]
theorem Zvp (P:List R2):∀ Q:List R2,Zay P Q=if U2 P.length Q=true then Zaz P else some 3
 | []=>by rw [Zay.eq_1];rfl
 | l :: Q=>by
  rw [Zay.eq_2,Zvs,Zvp P Q]
  by_cases h:(l.all fun p=>decide (0≤p∧p<(P.length:Int)))=true
  ·rw [if_pos h]
   have:U2 P.length (l :: Q)=U2 P.length Q:=by rw [U2,U2,eA,h,Bool.true_and]
   rw [this]
  ·rw [if_neg h]
   have:U2 P.length (l :: Q)=false:=by rw [U2,eA,Bool.eq_false_iff.2 h,Bool.false_and]
   rw [this,if_neg (by decide)]
theorem Z6t (P:List R2):Zgu P=if U2 P.length P=true then (if Tj P=true then some 40 else some 0) else some 3:=by
 rw [Zgu,Zvp,Zvq]
structure Zi5 (P:List R2):Prop where
 n:P.length≤1048575
 t:T4 P≤1048576
theorem Zi5.ls {P:List R2} (h:Zi5 P):∀ x ∈ P,x.length≤1048576:=fun x a=>aU (Zox a) h.t
theorem Zwe {P:List R2} {n:Nat} (h:U2 n P=true):∀ l ∈ P,Zlv n l:=by
 intro l a x b
 rw [U2,cV] at h
 have:=cV.1 (h l a) x b
 simpa using this
inductive Zlx (N:Nat) (P:List R2):Prop
 | err (e:Int) (D:Zbo N P=some ([],e)) (R:Zia N P=some e) (ne:e=3∨e=40):Zlx N P
 | cyc (I:U2 P.length P=true) (T:Tj P=false) (l:List Int) (o:Zad N P=some l) (ok:U8 P l) (mx:Vr P l 0=none) (lt:l.length<P.length) (D:Zbo N P=some ([],42)) (R:Zia N P=some 42):Zlx N P
 | ord (I:U2 P.length P=true) (T:Tj P=false) (l:List Int) (o:Zad N P=some l) (ok:U8 P l) (mx:Vr P l 0=none) (eq:l.length=P.length) (D:Zbo N P=some (l,0)) (R:Zia N P=some 0):Zlx N P
theorem Z07 {N:Nat} {P:List R2} (h:Zi5 P) (hN:2000000<N):Zlx N P:=by
 have v:=h.n
 have w:=h.t
 have k:=h.ls
 have c:∀ x ∈ P,x.length≤1048576:=fun x p=>by have:=k x p;omega
 have a:Zbo N P=(Zgu P).bind fun r_1=>if (!decide (r_1=0))=true then (some (([]:List Int),r_1)) else ((Zgt P).bind fun f=>(Zgz N P f).bind fun g=>if (decide ((g.length:Int)<(P.length:Int)))=true then (some (([]:List Int),42)) else (some (g,0))):=by rw [Zbo]
 have b:Zia N P=(Znh N P).bind fun r_1=>if (!r_1)=true then (some 3) else ((Znl N P).bind fun f=>if f=true then (some 40) else ((Zad N P).bind fun m=>if (decide ((m.length:Int)<(P.length:Int)))=true then (some 42) else (some 0))):=by rw [Zia]
 rw [Z6t] at a
 rw [Z64 (by omega) c (by omega),oB] at b
 by_cases hI:U2 P.length P=true
 ·rw [hI,if_neg (by decide),Xaz (by omega) c (by omega),oB] at b
  rw [if_pos hI] at a
  by_cases d:Tj P=true
  ·rw [if_pos d] at a b
   exact .err 40 (by rw [a];rfl) b (.inr rfl)
  ·rw [if_neg d] at a b
   obtain ⟨l,i,j,o⟩:=Z8g (N:=N) (P:=P) (by omega) c (by omega)
   obtain ⟨D,q,r,s⟩:=Z5j (P:=P) (by omega) (by omega) (Zwe hI)
   rw [i,oB] at b
   rw [oB,if_neg (by decide),q,oB,Xaa (by omega) c (by omega) hN r s,i,oB] at a
   have d:=Bool.eq_false_iff.2 d
   have u:=j.len
   by_cases hlt:l.length<P.length
   ·rw [if_pos (dT (by omega))] at b a
    exact .cyc hI d l i j o hlt a b
   ·rw [if_neg (by rw [decide_eq_true_eq];omega)] at b a
    exact .ord hI d l i j o (by omega) a b
 ·rw [Bool.eq_false_iff.2 hI,if_pos (by decide)] at b
  rw [if_neg hI] at a
  exact .err 3 (by rw [a];rfl) b (.inl rfl)
def Zhy (ab:List Int) (aa:Int) (kk_L1:(Int→Option R2)) (ac:Bool):Option R2:=
  if ac=true then (kk_L1 (i64.wrap (aa - 1))) else (Z2 ((0:Int)≤aa∧aa≤(ab.length:Int)) (Z2 ((([]:List Int).length+(ab.take (aA aa)).length) * 4≤140737488355328∧([]:List Int).length+(ab.take (aA aa)).length≤maxLen) (some (([]:List Int)++(ab.take (aA aa))))))
def Zb8 (N:Nat) (aa:List Int):Nat→Int→Option R2
  | 0,_=>none
  | ac+1,ab=>if (decide (0<ab))=true then ((Zm aa (i64.wrap (ab - 1))).bind fun ad=>Zhy aa ab (Zb8 N aa ac) (decide (ad=0))) else (Zhy aa ab (Zb8 N aa ac) false)
termination_by structural x=>x
def V8 (N:Nat) (aa:List Int):Option R2:=
  Zb8 N aa N (aa.length:Int)
theorem Zek {N ae:Nat} {a0:Option Addr} {col:Ze} {w0:World} {ab r:R2} (c1:Nat) (hm:V8 N ab=some r) (h0:Sl (Za.int .u32) col w0 a0 ae ab):
    Calls prog 175 #[.slice a0 ab.length ae] w0 (fun e w'=>∃ (col':Ze) (ra1:Option Addr) (rc2:Nat),e= .returned ((.slice ra1 r.length rc2))∧Zh col w0 col' w'∧Zb (Za.int .u32) 95 c1 col' w' ra1 rc2 r):=by
 refine Xl 2 (m:=24) func175 rfl rfl rfl rfl rfl ?_;rw [V8.eq_1] at hm;have aa:=St.start col w0;refine go ?_;refine Z4 [0,1000000] (fun n f aj=>∃ ak ac ad,ad=n∧Zb8 N ab ad ac=some r∧St w0 (Zk col) ak aj∧[3].map f=[.int .i64 ac]) N ⟨_,_,_,rfl,hm,aa,rfl⟩ ?_;clear hm;intro n f aj hI;obtain ⟨ak,ac,ad,hn,hm,aa,hs⟩:=hI;subst hn;refine .lL [3] hs ?_;replace h0:=h0.keep (Zi.start col w0)
 cases ad with
 | zero=>rw [Zb8.eq_1] at hm;cases hm
 | succ ad=>
  rw [Zb8.eq_2] at hm;refine Z0<|Z0 ?_;refine Wp.cutK [0,3,1000000] (fun f al=>∃ am af,Zhy ab ac (Zb8 N ab ad) af=some r∧St w0 (Zk col) am al∧[16].map f=[.bool af]) ?_ ?_
  ·intro f al hJ;obtain ⟨am,af,hm,aa,hs⟩:=hJ;rw [Zhy.eq_1] at hm;refine .lL [16] hs ?_;refine Zq hm (fun hb hm=>go ?_) fun hb hm=>go ?_
   ·exact ⟨ad,by omega,rfl,⟨_,_,_,rfl,hm,aa,rfl⟩⟩
   obtain ⟨ag,hm⟩:=Z8 hm;refine lv (v:=.slice a0 (aA ac) ae) rfl rfl (Zlk underlying35 sizeOf95 rfl rfl ag.1 (by have:=(h0.ks aa).1.2;have:=ag.2;omega))<|.ld (d:=22) (v:=(.slice a0 ((ab.take (aA ac)).length) ae)) (congrArg (fun n=>Value.slice a0 n ae) (gR (show (aA ac)≤ab.length by have:=ag.2;omega)).symm) ?_;obtain ⟨an,hm⟩:=Z8 hm;refine V1 (c:=1) Zb.nil ((h0.ks aa).take (aA ac)).srcC an ?_;intro ar au av aw ao ap;refine go ?_;cases hm;replace aa:=aa.kpp ao;exact ⟨rfl,_,_,_,rfl,aa.fin (cm [(1,c1)]),aa.fo ap⟩
  refine go ?_;refine Yt hm (fun ah hm=>go ?_) fun ah hm=>go ?_
  ·obtain ⟨aq,ai,hm⟩:=bZ hm;refine lI ai ((h0.ks aa).addr ai) ?_;refine go ?_;refine lW ((h0.ks aa).atInt ai)<|go ?_;refine lV (.bool (decide (aq=0))) (Yf (congrArg Value.bool ah) rfl)<|Zl ?_;exact ⟨rfl,_,_,hm,aa,rfl⟩
  refine lV (.bool false) (X8 (congrArg Value.bool ah) rfl)<|Zl ?_;exact ⟨rfl,_,_,hm,aa,rfl⟩
def Zm1 (N:Nat):Nat→Int→Int→Option Int
  | 0,_,_=>none
  | ac+1,aa,ab=>if (decide (0<ab))=true then ((Zm1 N ac) (i64.wrap (aa+1)) (u32.wrap (bJ ab 2))) else (some aa)
termination_by structural x=>x
def Zqw (N:Nat) (ab:List Int):Option Int:=
  (V8 N ab).bind fun aa=>if (decide ((aa.length:Int)=0))=true then (some 0) else ((Zm aa (i64.wrap ((aa.length:Int) - 1))).bind fun ac=>Zm1 N N (i64.wrap (32 * (i64.wrap ((aa.length:Int) - 1)))) ac)
def Zac (aa:List Int) (ab:Int):Option Int:=
  if (decide (ab<(aa.length:Int)))=true then ((Zm aa ab).bind fun ac=>some (u64.wrap ac)) else (some 0)
theorem Zgh {ad:Nat} {a0:Option Addr} {col:Ze} {w0:World} {ab:R2} {ae r:Int} (hm:Zac ab ae=some r) (h0:Sl (Za.int .u32) col w0 a0 ad ab):
    Calls prog 213 #[.slice a0 ab.length ad,.int .i64 ae] w0 (fun e w'=>e= .returned ((.int .u64 r))∧Below w0.heap.size w0 w'):=by
 refine Xl 4 (m:=14) func213 rfl rfl rfl rfl rfl ?_;rw [Zac.eq_1] at hm;have aa:=St.start col w0;refine go ?_;replace h0:=h0.keep (Zi.start col w0);refine Zq hm (fun hb hm=>go ?_) fun hb hm=>go ?_
 ·obtain ⟨af,ac,hm⟩:=bZ hm;refine lI ac ((h0.ks aa).addr ac)<|lW ((h0.ks aa).atInt ac) ?_;refine go ?_;cases hm;exact ⟨rfl,rfl,aa.below⟩
 cases hm;exact ⟨rfl,rfl,aa.below⟩
def Zqv (ab:List Int) (aa:Int):Option Int:=
  (Zac ab (i64.wrap (bJ aa 32))).bind fun ac=>Z2 (0≤(cG aa 32)) (some (cG (u32.wrap (Y6 .u64 ac (cG aa 32))) 2))
def Znb (aa:List Int):Option R2:=
  some aa
def Znc (N:Nat) (ad:List Int):Nat→R2→Int→Int→Option R2
  | 0,_,_,_=>none
  | af+1,ab,aa,ae=>if (decide (ae<(ad.length:Int)))=true then ((Zm ad ae).bind fun ac=>Z2 ((ab.length+[u32.wrap (cG (u64.wrap (aa+(u64.wrap (2 * (u64.wrap ac))))) 4294967296)].length) * 4≤140737488355328∧ab.length+[u32.wrap (cG (u64.wrap (aa+(u64.wrap (2 * (u64.wrap ac))))) 4294967296)].length≤maxLen) ((Znc N ad af) (ab++[u32.wrap (cG (u64.wrap (aa+(u64.wrap (2 * (u64.wrap ac))))) 4294967296)]) (u64.wrap (bJ (u64.wrap (aa+(u64.wrap (2 * (u64.wrap ac))))) 4294967296)) (i64.wrap (ae+1)))) else (if (decide (0<aa))=true then (Z2 ((ab.length+[u32.wrap aa].length) * 4≤140737488355328∧ab.length+[u32.wrap aa].length≤maxLen) (Znb (ab++[u32.wrap aa]))) else (Znb ab))
termination_by structural x=>x
def Zna (N:Nat) (aa:List Int) (ab:Int):Option R2:=
  Znc N aa N ([]:List Int) (u64.wrap ab) 0
def Zfj (N:Nat) (ab:List Int) (ac:List Int):Nat→Int→Option Int
  | 0,_=>none
  | af+1,aa=>if (decide (0≤aa))=true then ((Zac ab aa).bind fun ad=>(Zac ac aa).bind fun ae=>if (decide (ad<ae))=true then (some (-1)) else (if (decide (ae<ad))=true then (some 1) else ((Zfj N ab ac af) (i64.wrap (aa - 1))))) else (some 0)
termination_by structural x=>x
def Zhw (N:Nat) (aa:List Int) (ab:List Int) (ac:Int):Option Int:=
  Zfj N aa ab N (i64.wrap (ac - 1))
def Zfi (N:Nat) (aa:List Int) (ab:List Int):Option Int:=
  if (decide ((aa.length:Int)<(ab.length:Int)))=true then (Zhw N aa ab (ab.length:Int)) else (Zhw N aa ab (aa.length:Int))
theorem Z4c {N ak al:Nat} {a0 a1:Option Addr} {col:Ze} {w0:World} {ad ae:R2} {r:Int} (hm:Zfi N ad ae=some r) (h0:Sl (Za.int .u32) col w0 a0 ak ad) (h1:Sl (Za.int .u32) col w0 a1 al ae):
    Calls prog 209 #[.slice a0 ad.length ak,.slice a1 ae.length al] w0 (fun e w'=>e= .returned ((.int .i64 r))∧Below w0.heap.size w0 w'):=by
 refine Xl 4 (m:=35) func209 rfl rfl rfl rfl rfl ?_;rw [Zfi.eq_1] at hm;have aa:=St.start col w0;refine Z0<|Vd<|Y7 rfl<|Zl<|Z0<|Vd<|Y2 rfl<|lV _ (Zaj underlying35 rfl)<|Y7 rfl<|Zl<|Z0 ?_;replace h0:=h0.keep (Zi.start col w0);replace h1:=h1.keep (Zi.start col w0);refine Wp.cutK [0,1,1000000] (fun f am=>∃ an af,Zhw N ad ae af=some r∧St w0 (Zk col) an am∧[5].map f=[.int .i64 af]) ?_ ?_
 ·intro f am hJ;obtain ⟨an,af,hm,aa,hs⟩:=hJ;rw [Zhw.eq_1] at hm;refine .lL [5] hs<|go ?_;refine Z4 [0,1,1000000] (fun n f ag=>∃ ab ah ac,ac=n∧Zfj N ad ae ac ah=some r∧St w0 (Zk col) ab ag∧[6].map f=[.int .i64 ah]) N ⟨_,_,_,rfl,hm,aa,rfl⟩ ?_;clear hm;intro n f ag hI;obtain ⟨ab,ah,ac,hn,hm,aa,hs⟩:=hI;subst hn;refine .lL [6] hs ?_
  cases ac with
  | zero=>rw [Zfj.eq_1] at hm;cases hm
  | succ ac=>
   rw [Zfj.eq_2] at hm;refine go ?_;refine Zq hm (fun hb hm=>go ?_) fun hb hm=>go ?_
   ·obtain ⟨au,ap,hm⟩:=bZ hm;refine Zj (Zgh ap (h0.ks aa)) ?_;rintro _ ao ⟨rfl,ai⟩;refine ⟨_,rfl,?_⟩;replace ai:Zh ab ag ab ao:=.of_below ai;refine go ?_;obtain ⟨av,aq,hm⟩:=bZ hm;replace aa:=aa.grow ai;refine Zj (Zgh aq (h1.ks aa)) ?_;rintro _ ar ⟨rfl,aj⟩;refine ⟨_,rfl,?_⟩;replace aj:Zh ab ao ab ar:=.of_below aj;refine go ?_;replace aa:=aa.grow aj;refine Zq hm (fun hb hm=>go ?_) fun hb hm=>go ?_
    ·cases hm;exact ⟨rfl,rfl,aa.below⟩
    refine Zq hm (fun hb hm=>go ?_) fun hb hm=>go ?_
    ·cases hm;exact ⟨rfl,rfl,aa.below⟩
    exact ⟨ac,by omega,rfl,⟨_,_,_,rfl,hm,aa,rfl⟩⟩
   cases hm;exact ⟨rfl,rfl,aa.below⟩
 refine go ?_;refine Zq hm (fun hb hm=>go ?_) fun hb hm=>?_
 ·exact ⟨rfl,_,_,hm,aa,rfl⟩
 refine Yl ?_;exact ⟨rfl,_,_,hm,aa,rfl⟩
def Zm9 (aa:Int) (kk_L1:(List Int→Int→Int→Option Rd)) (ab:List Int) (ac:Int):Option Rd:=
  kk_L1 ab ac (i64.wrap (aa+1))
def Zhz (aa:List Int) (ab:Int) (ae:Int) (kk_L1:(List Int→Int→Int→Option Rd)) (ac:Int) (af:Int) (ad:Int):Option Rd:=
  Z2 ((aa.length+[u32.wrap (u64.wrap (ad - (u64.wrap (ac+ab))))].length) * 4≤140737488355328∧aa.length+[u32.wrap (u64.wrap (ad - (u64.wrap (ac+ab))))].length≤maxLen) (Zm9 ae kk_L1 (aa++[u32.wrap (u64.wrap (ad - (u64.wrap (ac+ab))))]) af)
def Zab (N:Nat) (ab:List Int) (ac:List Int):Nat→R2→Int→Int→Option Rd
  | 0,_,_,_=>none
  | ah+1,ad,ae,aa=>if (decide (aa<(ab.length:Int)))=true then ((Zac ab aa).bind fun af=>(Zac ac aa).bind fun ag=>if (decide (af<(u64.wrap (ag+ae))))=true then (Zhz ad ae aa (Zab N ab ac ah) ag 1 (u64.wrap (af+4294967296))) else (Zhz ad ae aa (Zab N ab ac ah) ag 0 af)) else ((V8 N ad).bind fun ai=>some (ai,true))
termination_by structural x=>x
def Zdx (N:Nat) (aa:List Int) (ab:List Int):Option Rd:=
  (Zfi N aa ab).bind fun ac=>if (decide (ac<0))=true then (some (([]:List Int),false)) else (Zab N aa ab N ([]:List Int) 0 0)
theorem Zua {N au av:Nat} {a0 a1:Option Addr} {col:Ze} {w0:World} {ae af:R2} {r:Rd} (c1:Nat) (hm:Zdx N ae af=some r) (h0:Sl (Za.int .u32) col w0 a0 au ae) (h1:Sl (Za.int .u32) col w0 a1 av af):
    Calls prog 181 #[.slice a0 ae.length au,.slice a1 af.length av] w0 (fun e w'=>∃ (col':Ze) (ra1:Option Addr) (rc2:Nat),e= .returned (.tuple #[.slice ra1 r.1.length rc2,.bool r.2])∧Zh col w0 col' w'∧Zb (Za.int .u32) 95 c1 col' w' ra1 rc2 r.1):=by
 refine Zje 4 5 (m:=43) (args:=[.slice a0 ae.length au,.slice a1 af.length av]) func181 rfl rfl rfl rfl rfl ?_;rw [Zdx.eq_1] at hm;have aa:=St.start col w0;refine go ?_;obtain ⟨bn,ba,hm⟩:=bZ hm;replace h0:=h0.keep (Zi.start col w0);replace h1:=h1.keep (Zi.start col w0);refine Zj (Z4c ba (h0.ks aa) (h1.ks aa)) ?_;rintro _ bb ⟨rfl,aw⟩;refine ⟨_,rfl,?_⟩;replace aw:Zh (Zk col) w0 (Zk col) bb:=.of_below aw;refine go ?_;replace aa:=aa.grow aw;refine Zq hm (fun hb hm=>go ?_) fun hb hm=>go ?_
 ·cases hm;exact ⟨rfl,_,none,0,rfl,aa.fin (cm []),Zb.nil⟩
 refine Z4 [0,1,1000000] (fun n f ah=>∃ ab ak al ag ai aj ad,ad=n∧Zab N ae af ad ag ai aj=some r∧St w0 (Zk col) ab ah∧Zb (Za.int .u32) 95 1 ab ah ak al ag∧[6,7,8].map f=[.slice ak ag.length al,.int .u64 ai,.int .i64 aj]) N ⟨_,none,0,_,0,0,_,rfl,hm,aa,Zb.nil,rfl⟩ ?_;clear hm;intro n f ah hI;obtain ⟨ab,ak,al,ag,ai,aj,ad,hn,hm,aa,ac,hs⟩:=hI;subst hn;refine .lL [6,7,8] hs ?_
 cases ad with
 | zero=>rw [Zab.eq_1] at hm;cases hm
 | succ ad=>
  rw [Zab.eq_2] at hm;refine go ?_;refine Zq hm (fun hb hm=>?_) fun hb hm=>go ?_
  ·refine Yl<|Z0 ?_;refine Wp.cutK [0,1,8,1000000] (fun f ax=>∃ ay az a2 am a3,Zm9 aj (Zab N ae af ad) am a3=some r∧St w0 (Zk col) ay ax∧Zb (Za.int .u32) 95 1 ay ax az a2 am∧[6,7].map f=[.slice az am.length a2,.int .u64 a3]) ?_ ?_
   ·intro f ax hJ;obtain ⟨ay,az,a2,am,a3,hm,aa,bc,hs⟩:=hJ;rw [Zm9.eq_1] at hm;refine .lL [6,7] hs<|go ?_;exact ⟨ad,by omega,rfl,⟨_,_,_,_,_,_,_,rfl,hm,aa,bc,rfl⟩⟩
   refine go ?_;obtain ⟨bo,bd,hm⟩:=bZ hm;refine Zj (Zgh bd (h0.ks aa)) ?_;rintro _ a7 ⟨rfl,an⟩;refine ⟨_,rfl,?_⟩;replace an:Zh ab ah ab a7:=.of_below an;refine go ?_;obtain ⟨a8,be,hm⟩:=bZ hm;replace aa:=aa.grow an;refine Zj (Zgh be (h1.ks aa)) ?_;rintro _ bf ⟨rfl,ao⟩;refine ⟨_,rfl,?_⟩;replace ao:Zh ab a7 ab bf:=.of_below ao;refine X1 rfl<|lV _ (Zai _ _ rfl rfl)<|Y7 rfl<|Zl<|Z0<|Vd<|Y7 rfl<|Zl<|Z0 ?_;replace ac:=(ac.gr an).gr ao;replace aa:=aa.grow ao;refine Wp.cutK [0,1,10,6,8,1000000] (fun f a4=>∃ ap a5 aq,Zhz ag ai aj (Zab N ae af ad) a8 a5 aq=some r∧St w0 (Zk col) ap a4∧Zb (Za.int .u32) 95 1 ap a4 ak al ag∧[7,9].map f=[.int .u64 a5,.int .u64 aq]) ?_ ?_
   ·intro f a4 hJ;obtain ⟨ap,a5,aq,hm,aa,ac,hs⟩:=hJ;rw [Zhz.eq_1] at hm;refine .lL [7,9] hs<|go ?_;refine V7 (col:=ap) [u32.wrap (u64.wrap (aq - (u64.wrap (a8+ai))))] 2 ?_;intro bp bq br a9 bg;obtain ⟨bh,hm⟩:=Z8 hm;replace ac:=ac.gr a9;refine V1 ac (bg.srcN (NB.int (k:=.u32))) bh ?_;intro bs bt bu bv bi bj;refine go ?_;replace aa:=(aa.grow a9).kpp bi;exact ⟨rfl,_,_,_,_,_,hm,aa,bj,rfl⟩
   refine go ?_;refine Zq hm (fun hb hm=>go ?_) fun hb hm=>?_
   ·exact ⟨rfl,_,1,_,hm,aa,ac,rfl⟩
   refine Yl ?_;exact ⟨rfl,_,0,_,hm,aa,ac,rfl⟩
  obtain ⟨bw,bk,hm⟩:=bZ hm;refine Zj (Zek 3 bk (ac.toSlF (Zd.int .u32))) ?_;rintro _ bx ⟨bm,bz,b0,rfl,ar,a6⟩;refine ⟨_,rfl,?_⟩;replace a6:=a6.thaw (Z7 .u32) ar ((Fz.refl (col:=ab)).froz 1) (by decide);replace ar:=ar.thawR (col:=ab);generalize Xj ah.heap.size ab bm=b1 at *;refine go ?_;cases hm;replace aa:=aa.grow ar;exact ⟨rfl,_,_,_,rfl,aa.fin (cm [(3,c1)]),aa.fo a6⟩
def Zm3 (aa:Int) (kk_L1:(List Int→Int→R2→Option Ra)) (ab:List Int) (ac:List Int):Option Ra:=
  kk_L1 ab (i64.wrap (aa - 1)) ac
def Zkc (N:Nat) (ad:List Int) (ab:List Int):Nat→R2→Int→R2→Option Ra
  | 0,_,_,_=>none
  | af+1,ag,aa,ac=>if (decide (0≤aa))=true then ((Zqv ad aa).bind fun ah=>(Zna N ag ah).bind fun ai=>(V8 N ai).bind fun ae=>(Zfi N ae ab).bind fun aj=>if (decide (0≤aj))=true then ((Zdx N ae ab).bind fun ak=>(Zm ac (i64.wrap (bJ aa 32))).bind fun al=>Z2 (0≤(cG aa 32)) ((some (ac.set (aA (i64.wrap (bJ aa 32))) (u32.wrap (al+(Yi .u32 1 (cG aa 32)))))).bind fun am=>Zm3 aa (Zkc N ad ab af) ak.1 am)) else (Zm3 aa (Zkc N ad ab af) ae ac)) else ((V8 N ac).bind fun an=>some (an,ag,0))
termination_by structural x=>x
def Zm2 (N:Nat) (ab:List Int) (ad:List Int):Option Ra:=
  (V8 N ad).bind fun ac=>if (decide ((ac.length:Int)=0))=true then (some (([]:List Int),([]:List Int),11)) else ((Zqw N ab).bind fun aa=>Z2 ((aA (i64.wrap (bJ (i64.wrap (aa+31)) 32))) * 4≤281474976710656∧(aA (i64.wrap (bJ (i64.wrap (aa+31)) 32)))≤maxLen∧0≤(i64.wrap (bJ (i64.wrap (aa+31)) 32))) (Zkc N ab ac N ([]:List Int) (i64.wrap (aa - 1)) (aM (aA (i64.wrap (bJ (i64.wrap (aa+31)) 32))) (0:Int))))
def Zqz (aa:Bool):Option Bool:=
  some aa
def Zh0 (aa:List Int):Option Bool:=
  if (decide ((aa.length:Int)=0))=true then (Zqz true) else ((Zm aa 0).bind fun ab=>Zqz (decide ((cG ab 2)=0)))
def Znd (N:Nat) (ac:List Int):Nat→R2→Int→Int→Option R2
  | 0,_,_,_=>none
  | af+1,ab,ad,aa=>if (decide (0≤aa))=true then ((Zm ac aa).bind fun ae=>(Zm ab aa).bind fun ai=>(some (ab.set (aA aa) (u32.wrap (u64.wrap (bJ (u64.wrap ((u64.wrap (ad * 4294967296))+(u64.wrap ae))) 2))))).bind fun ag=>(Znd N ac af) ag (cG (u64.wrap ((u64.wrap (ad * 4294967296))+(u64.wrap ae))) 2) (i64.wrap (aa - 1))) else ((V8 N ab).bind fun ah=>some ah)
termination_by structural x=>x
def Zh1 (N:Nat) (aa:List Int):Option R2:=
  Z2 (aa.length * 4≤281474976710656∧aa.length≤maxLen) (Znd N aa N (aM aa.length (0:Int)) 0 (i64.wrap ((aa.length:Int) - 1)))
def Zm5 (N:Nat) (kk_L2:(List Int→R2→Option R2)) (aa:List Int) (ab:List Int):Option R2:=
  (Zdx N ab aa).bind fun ac=>kk_L2 aa ac.1
def Zqy (N:Nat) (kk_L2:(List Int→R2→Option R2)) (ab:List Int) (aa:List Int) (kk_L4:(List Int→Option R2)) (ac:Bool):Option R2:=
  if ac=true then ((Zh1 N aa).bind fun ad=>kk_L4 ad) else ((Zfi N ab aa).bind fun ae=>if (decide (0<ae))=true then (Zm5 N kk_L2 aa ab) else (Zm5 N kk_L2 ab aa))
def Zhx (N:Nat) (kk_L2:(List Int→R2→Option R2)) (aa:List Int):Nat→R2→Option R2
  | 0,_=>none
  | ac+1,ab=>if (decide (0<(ab.length:Int)))=true then ((Zh0 ab).bind fun ad=>Zqy N kk_L2 aa ab (Zhx N kk_L2 aa ac) ad) else (Zqy N kk_L2 aa ab (Zhx N kk_L2 aa ac) false)
termination_by structural x=>x
def Zm6 (N:Nat) (ab:List Int) (kk_L2:(List Int→R2→Option R2)):Nat→R2→Option R2
  | 0,_=>none
  | ac+1,aa=>(Zh0 aa).bind fun ad=>if ad=true then ((Zh1 N aa).bind fun ae=>(Zm6 N ab kk_L2 ac) ae) else (Zhx N kk_L2 aa N ab)
termination_by structural x=>x
def Zm7 (N:Nat) (aa:Int):Nat→R2→Int→Option R2
  | 0,_,_=>none
  | ad+1,ab,ac=>if (decide (ac<aa))=true then ((Zna N ab 0).bind fun ae=>(Zm7 N aa ad) ae (i64.wrap (ac+1))) else (some ab)
termination_by structural x=>x
def Zbf (N:Nat) (aa:Int):Nat→R2→R2→Option R2
  | 0,_,_=>none
  | ad+1,ab,ac=>if (decide (0<(ac.length:Int)))=true then (Zm6 N ac (Zbf N aa ad) N ab) else (Zm7 N aa N ab 0)
termination_by structural x=>x
def Zm4 (N:Nat) (aa:List Int) (ab:List Int) (ac:Int) (kk_L1:(List Int→R2→Int→Option R2)) (ad:Bool):Option R2:=
  if ad=true then ((Zh1 N aa).bind fun ae=>(Zh1 N ab).bind fun af=>kk_L1 ae af (i64.wrap (ac+1))) else (Zbf N ac N aa ab)
def Zkd (N:Nat):Nat→R2→R2→Int→Option R2
  | 0,_,_,_=>none
  | ac+1,aa,ab,ad=>(Zh0 aa).bind fun ae=>if ae=true then ((Zh0 ab).bind fun af=>Zm4 N aa ab ad (Zkd N ac) af) else (Zm4 N aa ab ad (Zkd N ac) false)
termination_by structural x=>x
def Zqx (N:Nat) (ac:List Int) (ad:List Int):Option R2:=
  (V8 N ac).bind fun aa=>(V8 N ad).bind fun ab=>if (decide ((aa.length:Int)=0))=true then (some ab) else (if (decide ((ab.length:Int)=0))=true then (some aa) else (Zkd N N aa ab 0))
def Zfk (N:Nat) (af:List Int) (ab:List Int) (aa:Int) (kk_L1:(List Int→Int→Option R2)):Nat→Int→R2→Int→Option R2
  | 0,_,_,_=>none
  | aj+1,ac,ad,ae=>if (decide (ac<(ab.length:Int)))=true then ((Zm af aa).bind fun ag=>(Zm ab ac).bind fun ah=>(Zm ad (i64.wrap (aa+ac))).bind fun ai=>(some (ad.set (aA (i64.wrap (aa+ac))) (u32.wrap (cG (u64.wrap ((u64.wrap (ae+(u64.wrap ((u64.wrap ag) * (u64.wrap ah)))))+(u64.wrap ai))) 4294967296)))).bind fun ak=>(Zfk N af ab aa kk_L1 aj) (i64.wrap (ac+1)) ak (u64.wrap (bJ (u64.wrap ((u64.wrap (ae+(u64.wrap ((u64.wrap ag) * (u64.wrap ah)))))+(u64.wrap ai))) 4294967296))) else ((Zm ad (i64.wrap (aa+(ab.length:Int)))).bind fun am=>(some (ad.set (aA (i64.wrap (aa+(ab.length:Int)))) (u32.wrap ae))).bind fun al=>kk_L1 al (i64.wrap (aa+1)))
termination_by structural x=>x
def Zb7 (N:Nat) (aa:List Int) (ab:List Int):Nat→R2→Int→Option R2
  | 0,_,_=>none
  | ae+1,ac,ad=>if (decide (ad<(aa.length:Int)))=true then (Zfk N aa ab ad (Zb7 N aa ab ae) N 0 ac 0) else ((V8 N ac).bind fun af=>some af)
termination_by structural x=>x
def Zke (N:Nat) (ac:List Int) (ad:List Int):Option R2:=
  (V8 N ac).bind fun aa=>(V8 N ad).bind fun ab=>Z2 ((aA (i64.wrap ((aa.length:Int)+(ab.length:Int)))) * 4≤281474976710656∧(aA (i64.wrap ((aa.length:Int)+(ab.length:Int))))≤maxLen∧0≤(i64.wrap ((aa.length:Int)+(ab.length:Int)))) (Zb7 N aa ab N (aM (aA (i64.wrap ((aa.length:Int)+(ab.length:Int)))) (0:Int)) 0)
theorem Z4d {N bi bj:Nat} {a0 a1:Option Addr} {col:Ze} {w0:World} {a5 a6 r:R2} (c1:Nat) (hm:Zke N a5 a6=some r) (h0:Sl (Za.int .u32) col w0 a0 bi a5) (h1:Sl (Za.int .u32) col w0 a1 bj a6):
    Calls prog 127 #[.slice a0 a5.length bi,.slice a1 a6.length bj] w0 (fun e w'=>∃ (col':Ze) (ra1:Option Addr) (rc2:Nat),e= .returned ((.slice ra1 r.length rc2))∧Zh col w0 col' w'∧Zb (Za.int .u32) 95 c1 col' w' ra1 rc2 r):=by
 refine Xl 4 (m:=74) func127 rfl rfl rfl rfl rfl ?_;rw [Zke.eq_1] at hm;have aa:=St.start col w0;refine go ?_;obtain ⟨am,bt,hm⟩:=bZ hm;replace h0:=h0.keep (Zi.start col w0);refine Zj (Zek 1 bt (h0.ks aa)) ?_;rintro _ b4 ⟨b5,bk,bm,rfl,bu,ab⟩;refine ⟨_,rfl,go ?_⟩;obtain ⟨ai,bv,hm⟩:=bZ hm;replace h1:=h1.keep (Zi.start col w0);replace aa:=aa.grow bu;refine Zj (Zek 2 bv (h1.ks aa)) ?_;rintro _ bw ⟨bx,bn,bo,rfl,bp,ac⟩;refine ⟨_,rfl,go ?_⟩;obtain ⟨ax,hm⟩:=Z8 hm;refine Q3 (col:=bx) (w:=bw) (r:=(Za.int .u32)) (n:=(aA (i64.wrap ((am.length:Int)+(ai.length:Int))))) (x0:=0) 3 rfl underlying35 Tryz.t95 rfl rfl rfl rfl rfl (congrArg (Value.int _) (bM ax.2.2).symm) (congrArg (Value.int _) (bM ax.2.2).symm) ax.1 ax.2.1 (Zd9 .u32 0) ?_;intro b6 b7 b8 a7 bz;refine go ?_;replace ab:=(ab.gr bp).gr a7;replace aa:=(aa.grow bp).grow a7;replace ac:=ac.gr a7;refine Z4 [5,6,1000000] (fun n f an=>∃ af a8 a9 ay ao aj,aj=n∧Zb7 N am ai aj ay ao=some r∧St w0 (Zk col) af an∧Zb (Za.int .u32) 95 1 af an bk bm am∧Zb (Za.int .u32) 95 2 af an bn bo ai∧Zb (Za.int .u32) 95 3 af an a8 a9 ay∧[7,8].map f=[.slice a8 ay.length a9,.int .i64 ao]) N ⟨_,_,_,_,0,_,rfl,hm,aa,ab,ac,bz,rfl⟩ ?_;clear hm;intro n f an hI;obtain ⟨af,a8,a9,ay,ao,aj,hn,hm,aa,ab,ac,bq,hs⟩:=hI;subst hn;refine .lL [7,8] hs ?_
 cases aj with
 | zero=>rw [Zb7.eq_1] at hm;cases hm
 | succ aj=>
  rw [Zb7.eq_2] at hm;refine go ?_;refine Zq hm (fun hb hm=>go ?_) fun hb hm=>go ?_
  ·refine Z4 [5,6,8,1000000] (fun n f aw=>∃ ae az ak al ag ad ap,ap=n∧Zfk N am ai ao (Zb7 N am ai aj) ap az ag ad=some r∧St w0 (Zk col) ae aw∧Zb (Za.int .u32) 95 1 ae aw bk bm am∧Zb (Za.int .u32) 95 2 ae aw bn bo ai∧Zb (Za.int .u32) 95 3 ae aw ak al ag∧[10,7,9].map f=[.int .i64 az,.slice ak ag.length al,.int .u64 ad]) N ⟨_,0,_,_,_,0,_,rfl,hm,aa,ab,ac,bq,rfl⟩ ?_;clear hm;intro n f aw hI;obtain ⟨ae,az,ak,al,ag,ad,ap,hn,hm,aa,ab,ac,ah,hs⟩:=hI;subst hn;refine .lL [10,7,9] hs ?_
   cases ap with
   | zero=>rw [Zfk.eq_1] at hm;cases hm
   | succ ap=>
    rw [Zfk.eq_2] at hm;refine go ?_;refine Zq hm (fun hb hm=>go ?_) fun hb hm=>go ?_
    ·refine V4 (col:=ae) (by kernel_rfl) (by kernel_rfl)<|go ?_;obtain ⟨aq,ba,hm⟩:=bZ hm;refine qI ba (ab.addr ba)<|qW (fun _ hC=>(ab.gr (hC.bl ae)).atInt ba) ?_;refine go ?_;obtain ⟨ar,bb,hm⟩:=bZ hm;refine qI bb (ac.addr bb)<|qW (fun _ hC=>(ac.gr (hC.bl ae)).atInt bb) ?_;refine go ?_;obtain ⟨au,av,hm⟩:=bZ hm;refine qI av (ah.addr av)<|qW (fun _ hC=>(ah.gr (hC.bl ae)).atInt av) ?_;refine go ?_;refine Vc ?_;intro b9 hC;replace hC:=hC.bl ae;refine go ?_;refine lV (.int .u64 (cG (u64.wrap ((u64.wrap (ad+(u64.wrap ((u64.wrap aq) * (u64.wrap ar)))))+(u64.wrap au))) 4294967296)) (Ziu (u64.wrap ((u64.wrap (ad+(u64.wrap ((u64.wrap aq) * (u64.wrap ar)))))+(u64.wrap au))) 4294967296 rfl rfl (by decide))<|go ?_;replace ah:=ah.gr hC;refine lI av (ah.addr av) ?_;obtain ⟨bc,a2,hm⟩:=bZ hm;have a2:bc=ag.set (aA (i64.wrap (ao+az))) (u32.wrap (cG (u64.wrap ((u64.wrap (ad+(u64.wrap ((u64.wrap aq) * (u64.wrap ar)))))+(u64.wrap au))) 4294967296)):=(Option.some.inj a2).symm;refine Wr (x1:=u32.wrap (cG (u64.wrap ((u64.wrap (ad+(u64.wrap ((u64.wrap aq) * (u64.wrap ar)))))+(u64.wrap au))) 4294967296)) ah av ?_;intro ca bd b0 br;rw [← a2] at br;refine .ld (d:=7) (v:=(.slice ak bc.length al)) (congrArg (fun n=>Value.slice ak n al) (show ag.length=bc.length by rw [a2,nS])) ?_;refine go ?_;refine lV (.int .u64 (u64.wrap (bJ (u64.wrap ((u64.wrap (ad+(u64.wrap ((u64.wrap aq) * (u64.wrap ar)))))+(u64.wrap au))) 4294967296))) (Qx (u64.wrap ((u64.wrap (ad+(u64.wrap ((u64.wrap aq) * (u64.wrap ar)))))+(u64.wrap au))) 4294967296 rfl rfl (by decide))<|go ?_;replace ab:=(ab.gr hC).kp bd;replace ac:=(ac.gr hC).kp bd;replace aa:=(aa.grow hC).kp bd b0;exact ⟨ap,by omega,rfl,⟨_,_,_,_,_,_,_,rfl,hm,aa,ab,ac,br,rfl⟩⟩
    obtain ⟨cb,be,hm⟩:=bZ hm;refine lI be (ah.addr be) ?_;obtain ⟨bf,a3,hm⟩:=bZ hm;have a3:bf=ag.set (aA (i64.wrap (ao+(ai.length:Int)))) (u32.wrap ad):=(Option.some.inj a3).symm;refine Wr (x1:=u32.wrap ad) ah be ?_;intro cc bg b1 bs;rw [← a3] at bs;refine .ld (d:=7) (v:=(.slice ak bf.length al)) (congrArg (fun n=>Value.slice ak n al) (show ag.length=bf.length by rw [a3,nS])) ?_;refine go ?_;replace ab:=ab.kp bg;replace ac:=ac.kp bg;replace aa:=aa.kp bg b1;exact ⟨aj,by omega,rfl,⟨_,_,_,_,_,_,rfl,hm,aa,ab,ac,bs,rfl⟩⟩
  obtain ⟨cd,b2,hm⟩:=bZ hm;refine Zj (Zek 4 b2 (bq.toSlF (Zd.int .u32))) ?_;rintro _ ce ⟨b3,cf,cg,rfl,a4,bh⟩;refine ⟨_,rfl,?_⟩;replace bh:=bh.thaw (Z7 .u32) a4 ((Fz.refl (col:=af)).froz 3) (by decide);replace a4:=a4.thawR (col:=af);generalize Xj an.heap.size af b3=ch at *;refine go ?_;cases hm;replace aa:=aa.grow a4;exact ⟨rfl,_,_,_,rfl,aa.fin (cm [(4,c1)]),aa.fo bh⟩
def Zkb (af:List Int) (ag:List Int) (ad:List Int) (aa:Int) (ae:Int) (kk_L1:(List Int→Int→Int→Option R2)):Option R2:=
  (Zac af ae).bind fun ab=>(Zac ag ae).bind fun ac=>Z2 ((ad.length+[u32.wrap (cG (u64.wrap ((u64.wrap (aa+ab))+ac)) 4294967296)].length) * 4≤140737488355328∧ad.length+[u32.wrap (cG (u64.wrap ((u64.wrap (aa+ab))+ac)) 4294967296)].length≤maxLen) (kk_L1 (ad++[u32.wrap (cG (u64.wrap ((u64.wrap (aa+ab))+ac)) 4294967296)]) (u64.wrap (bJ (u64.wrap ((u64.wrap (aa+ab))+ac)) 4294967296)) (i64.wrap (ae+1)))
def Zdw (N:Nat) (ab:List Int) (ac:List Int) (aa:List Int) (ad:Int) (ae:Int) (kk_L1:(List Int→Int→Int→Option R2)) (af:Bool):Option R2:=
  if af=true then (Zkb ab ac aa ad ae kk_L1) else ((V8 N aa).bind fun ag=>some ag)
def Qo (N:Nat) (aa:List Int) (ab:List Int):Nat→R2→Int→Int→Option R2
  | 0,_,_,_=>none
  | ae+1,af,ad,ac=>if (decide (ac<(aa.length:Int)))=true then (Zdw N aa ab af ad ac (Qo N aa ab ae) true) else (if (decide (ac<(ab.length:Int)))=true then (Zdw N aa ab af ad ac (Qo N aa ab ae) true) else (Zdw N aa ab af ad ac (Qo N aa ab ae) (decide (0<ad))))
termination_by structural x=>x
def Zhv (N:Nat) (aa:List Int) (ab:List Int):Option R2:=
  Qo N aa ab N ([]:List Int) 0 0
theorem Z4b {N a3 a4:Nat} {a0 a1:Option Addr} {col:Ze} {w0:World} {ae ad r:R2} (c1:Nat) (hm:Zhv N ae ad=some r) (h0:Sl (Za.int .u32) col w0 a0 a3 ae) (h1:Sl (Za.int .u32) col w0 a1 a4 ad):
    Calls prog 180 #[.slice a0 ae.length a3,.slice a1 ad.length a4] w0 (fun e w'=>∃ (col':Ze) (ra1:Option Addr) (rc2:Nat),e= .returned ((.slice ra1 r.length rc2))∧Zh col w0 col' w'∧Zb (Za.int .u32) 95 c1 col' w' ra1 rc2 r):=by
 refine Xl 4 (m:=43) func180 rfl rfl rfl rfl rfl ?_;rw [Zhv.eq_1] at hm;have aa:=St.start col w0;refine go ?_;refine Z4 [0,1,1000000] (fun n f av=>∃ aw ak al af ab ai ag,ag=n∧Qo N ae ad ag af ab ai=some r∧St w0 (Zk col) aw av∧Zb (Za.int .u32) 95 1 aw av ak al af∧[5,6,7].map f=[.slice ak af.length al,.int .u64 ab,.int .i64 ai]) N ⟨_,none,0,_,0,0,_,rfl,hm,aa,Zb.nil,rfl⟩ ?_;clear hm;intro n f av hI;obtain ⟨aw,ak,al,af,ab,ai,ag,hn,hm,aa,ac,hs⟩:=hI;subst hn;refine .lL [5,6,7] hs ?_;replace h0:=h0.keep (Zi.start col w0);replace h1:=h1.keep (Zi.start col w0)
 cases ag with
 | zero=>rw [Qo.eq_1] at hm;cases hm
 | succ ag=>
  rw [Qo.eq_2] at hm;refine Z0 ?_;refine Wp.cutK [0,1,5,6,7,1000000] (fun f ao=>∃ ah,Zkb ae ad af ab ai (Qo N ae ad ag)=some r∧St w0 (Zk col) ah ao∧Zb (Za.int .u32) 95 1 ah ao ak al af) ?_ ?_
  ·intro f ao hJ;obtain ⟨ah,hm,aa,ac⟩:=hJ;rw [Zkb.eq_1] at hm;refine go ?_;obtain ⟨am,a7,hm⟩:=bZ hm;refine Zj (Zgh a7 (h0.ks aa)) ?_;rintro _ a5 ⟨rfl,ap⟩;refine ⟨_,rfl,?_⟩;replace ap:Zh ah ao ah a5:=.of_below ap;refine go ?_;obtain ⟨an,a8,hm⟩:=bZ hm;replace aa:=aa.grow ap;refine Zj (Zgh a8 (h1.ks aa)) ?_;rintro _ a9 ⟨rfl,aq⟩;refine ⟨_,rfl,?_⟩;replace aq:Zh ah a5 ah a9:=.of_below aq;refine go ?_;refine lV (.int .u64 (cG (u64.wrap ((u64.wrap (ab+am))+an)) 4294967296)) (Ziu (u64.wrap ((u64.wrap (ab+am))+an)) 4294967296 rfl rfl (by decide))<|go ?_;refine V7 (col:=ah) [u32.wrap (cG (u64.wrap ((u64.wrap (ab+am))+an)) 4294967296)] 2 ?_;intro bg bh bi a6 ba;obtain ⟨bb,hm⟩:=Z8 hm;replace ac:=((ac.gr ap).gr aq).gr a6;refine V1 ac (ba.srcN (NB.int (k:=.u32))) bb ?_;intro bj bk bm bn bc bd;refine go ?_;refine lV (.int .u64 (u64.wrap (bJ (u64.wrap ((u64.wrap (ab+am))+an)) 4294967296))) (Qx (u64.wrap ((u64.wrap (ab+am))+an)) 4294967296 rfl rfl (by decide))<|go ?_;replace aa:=((aa.grow aq).grow a6).kpp bc;exact ⟨ag,by omega,rfl,⟨_,_,_,_,_,_,_,rfl,hm,aa,bd,rfl⟩⟩
  refine Z0 ?_;refine Wp.cutK [0,1,5,6,7,1000000] (fun f ar=>∃ aj ax,Zdw N ae ad af ab ai (Qo N ae ad ag) ax=some r∧St w0 (Zk col) aj ar∧Zb (Za.int .u32) 95 1 aj ar ak al af∧[21].map f=[.bool ax]) ?_ ?_
  ·intro f ar hJ;obtain ⟨aj,ax,hm,aa,ac,hs⟩:=hJ;rw [Zdw.eq_1] at hm;refine .lL [21] hs ?_;refine Zq hm (fun hb hm=>?_) fun hb hm=>go ?_
   ·refine Yl ?_;exact ⟨rfl,_,hm,aa,ac⟩
   obtain ⟨bo,be,hm⟩:=bZ hm;refine Zj (Zek 3 be (ac.toSlF (Zd.int .u32))) ?_;rintro _ bp ⟨bf,bq,br,rfl,au,ay⟩;refine ⟨_,rfl,?_⟩;replace ay:=ay.thaw (Z7 .u32) au ((Fz.refl (col:=aj)).froz 1) (by decide);replace au:=au.thawR (col:=aj);generalize Xj ar.heap.size aj bf=bs at *;refine go ?_;cases hm;replace aa:=aa.grow au;exact ⟨rfl,_,_,_,rfl,aa.fin (cm [(3,c1)]),aa.fo ay⟩
  refine go ?_;refine Yt hm (fun az hm=>go ?_) fun az hm=>go ?_
  ·refine lV (.bool true) (Yf (congrArg Value.bool az) rfl)<|Ts rfl<|lP 18 rfl rfl<|lP 18 rfl rfl<|lV (.bool true) (Yf rfl rfl)<|Zl ?_;exact ⟨rfl,_,_,hm,aa,ac,rfl⟩
  refine lV (.bool (decide (ai<(ad.length:Int)))) (X8 (congrArg Value.bool az) rfl)<|Ts rfl ?_;refine Yt hm (fun a2 hm=>go ?_) fun a2 hm=>go ?_
  ·refine lV (.bool true) (Yf (congrArg Value.bool a2) rfl)<|Zl ?_;exact ⟨rfl,_,_,hm,aa,ac,rfl⟩
  refine lV (.bool (decide (0<ab))) (X8 (congrArg Value.bool a2) rfl)<|Zl ?_;exact ⟨rfl,_,_,hm,aa,ac,rfl⟩
def Zm8 (N:Nat) (aa:Int):Option R2:=
  (V8 N [u32.wrap (cG aa 4294967296),u32.wrap (u64.wrap (bJ aa 4294967296))]).bind fun ab=>some ab
theorem Z0k (N:Nat) (a:List Int) (hb:a.length≤35184372088000):∀ (n j:Nat),j≤a.length→Zb8 N a n (j:Int)=Sz N n (a.take j)
 | 0,j,_=>rfl
 | n+1,j,d=>by
  have b:(a.take j).length=j:=by rw [nK];omega
  have c:0<j→Zm (a.take j) ((j - 1:Nat):Int)=Zm a ((j - 1:Nat):Int):=fun h=>by rw [Zga,Zga,List.getElem?_take,if_pos (by omega)]
  rw [Zb8.eq_2,Sz.eq_2,b]
  by_cases h0:0<j
  ·have e:(j:Int) - 1=((j - 1:Nat):Int):=by omega
   rw [if_pos (dT (by omega)),if_pos (dT (by omega)),Zv (by omega),e,c h0,Z1 (by omega),oB,oB,Zhy,Zb5,b,Zv (by omega),e,aD,aD]
   by_cases hx:a[j - 1]=0
   ·rw [if_pos (dT hx),if_pos (dT hx),Z6 (by omega),Z0k N a hb n (j - 1) (by omega),hO,bB (by omega)]
   ·rw [if_neg (dF hx),if_neg (dF hx),Z6 (by omega),Z6 (by rw [b];simp only [nN,maxLen];omega),aV]
  ·have:j=0:=by omega
   subst this
   rw [if_neg (by decide),if_neg (by decide),Zhy,Zb5,if_neg (by decide),if_neg (by decide),Z6 (by omega)]
   exact Z6 (by simp [maxLen])
theorem Th {N:Nat} {a:List Int} (h:Zn a) (hn:a.length<N) (hb:a.length≤35184372088000):V8 N a=some (Zg (Zc a)):=by
 rw [V8,Z0k N a hb N a.length (aY _),kM]
 exact Zoy N N a h hn (by omega)
theorem Z0m {N:Nat} {u:Int} (h:0≤u∧u<18446744073709551616) (hn:2<N):Zm8 N u=some (Zg u.toNat):=by
 have a:u32.wrap (cG u 4294967296)=u % 4294967296:=by rw [cO h.1,Ul (by omega)]
 have b:u32.wrap (u64.wrap (bJ u 4294967296))=u / 4294967296:=by rw [bX h.1,Xm (by omega),Ul (by omega)]
 have c:Zn [u % 4294967296,u / 4294967296]:=.cons (by omega) (.cons (by omega) .nil)
 have e:Zc [u % 4294967296,u / 4294967296]=u.toNat:=by rw [Wo,Wo,Yz];omega
 rw [Zm8,a,b,Th c (by simpa using hn) (by simp),oB,e]
theorem Zet {a:List Int} (h:Zn a) (k:Nat):Zac a (k:Int)=some ((X5 a k:Nat):Int):=by
 rw [Zac]
 by_cases hk:k<a.length
 ·have:=h.get hk
  rw [if_pos (dT (by omega)),Z1 hk,oB,Xm (by omega),X5,aE,aN hk,dJ]
  congr 1;omega
 ·rw [if_neg (dF (by omega)),X5,aE,cJ (by omega)];rfl
theorem Zn2 {a:List Int} (h:Zn a) (k:Nat):Zc (a.take k)<4294967296 ^ k:=by
 have b:=Qt (h.take k)
 refine aF b (Nat.pow_le_pow_right (by decide) ?_)
 rw [nK];omega
theorem Zsc (N:Nat) (a b:List Int) (ha:Zn a) (hb:Zn b):∀ (n i:Nat),i<4611686018427387904→i<n→Zc (a.drop i)=Zc (b.drop i)→Zfj N a b n ((i:Int) - 1)=some (if Zc a<Zc b then -1 else if Zc b<Zc a then 1 else 0)
 | 0,i,_,h,_=>by omega
 | n+1,i,l,m,d=>by
  rw [Zfj.eq_2]
  by_cases h0:i=0
  ·subst h0
   rw [if_neg (by decide)]
   rw [aT,aT] at d
   rw [if_neg (by omega),if_neg (by omega)]
  ·have e:(i:Int) - 1=((i - 1:Nat):Int):=by omega
   have f:i - 1+1=i:=by omega
   rw [if_pos (dT (by omega)),e,Zet ha,Zet hb,oB,oB]
   have g:=Ty a (i - 1)
   have j:=Ty b (i - 1)
   rw [Td a,f] at g
   rw [Td b,f,← d] at j
   have o:=Zn2 ha (i - 1)
   have p:=Zn2 hb (i - 1)
   have c:∀ x y:Nat,x<y→4294967296 ^ (i - 1) * (x+4294967296 * Zc (a.drop i))+4294967296 ^ (i - 1)≤4294967296 ^ (i - 1) * (y+4294967296 * Zc (a.drop i)):=fun x y k=>by
    rw [← Nat.mul_succ];exact aR _ (by omega)
   generalize 4294967296 ^ (i - 1)=Q at *
   by_cases hlt:X5 a (i - 1)<X5 b (i - 1)
   ·have:=c _ _ hlt
    rw [if_pos (dT (by omega)),if_pos (by omega)]
   ·rw [if_neg (dF (by omega))]
    by_cases hgt:X5 b (i - 1)<X5 a (i - 1)
    ·have:=c _ _ hgt
     rw [if_pos (dT (by omega)),if_neg (by omega),if_pos (by omega)]
    ·rw [if_neg (dF (by omega)),Zv (by omega)]
     exact Zsc N a b ha hb n (i - 1) (by omega) (by omega) (by rw [Td a,Td b,f,d];omega)
theorem Zsd {N:Nat} {a b:List Int} (ha:Zn a) (hb:Zn b) (h1:a.length<N) (h2:b.length<N) (h3:a.length≤35184372088000) (h4:b.length≤35184372088000):
  Zfi N a b=some (if Zc a<Zc b then -1 else if Zc b<Zc a then 1 else 0):=by
 have c:∀ (l:List Int) (k:Nat),l.length≤k→Zc (l.drop k)=0:=fun l k h=>by rw [aO h];rfl
 rw [Zfi]
 by_cases h:a.length<b.length
 ·rw [if_pos (dT (by omega)),Zhw,Zv (by omega)]
  exact Zsc N a b ha hb N b.length (by omega) h2 (by rw [c a _ (by omega),c b _ (by omega)])
 ·rw [if_neg (dF (by omega)),Zhw,Zv (by omega)]
  exact Zsc N a b ha hb N a.length (by omega) h1 (by rw [c a _ (by omega),c b _ (by omega)])
theorem Zs1 {s:Int} (h:0≤s∧s<18446744073709551616):u32.wrap (cG s 4294967296)=((s.toNat % 4294967296:Nat):Int):=by
 rw [cO h.1,Ul (by omega)];omega
theorem Zs0 {s:Int} (h:0≤s∧s<18446744073709551616):u64.wrap (bJ s 4294967296)=((s.toNat / 4294967296:Nat):Int):=by
 rw [bX h.1,Xm (by omega)];omega
theorem Zrq {S Q A B C:Nat} (h:A=B+4294967296 * C):S+Q * B+Q * 4294967296 * C=S+Q * A:=by
 subst h;grind
theorem Zzs (N:Nat) (a b:List Int) (ha:Zn a) (hb:Zn b) (hN:a.length+b.length+2<N) (hs:a.length+b.length<35184372087000):∀ (n i:Nat) (out:List Int) (c:Nat),out.length=i→Zn out→c≤1→i≤a.length+b.length+2→(i≤a.length+b.length+1∨c=0)→a.length+b.length+3≤n+i→
  Qo N a b n out (c:Int) (i:Int)=some (Zg (Zc out+4294967296 ^ i * (c+Zc (a.drop i)+Zc (b.drop i))))
 | 0,i,out,c,_,_,_,g,_,j=>by omega
 | n+1,i,out,c,d,e,m,g,j,o=>by
  have go:(i<a.length∨i<b.length∨0<c)→Zkb a b out (c:Int) (i:Int) (Qo N a b n)=some (Zg (Zc out+4294967296 ^ i * (c+Zc (a.drop i)+Zc (b.drop i)))):=fun l=>by
   have p:=Zes ha i
   have q:=Zes hb i
   have k:u64.wrap (u64.wrap ((c:Int)+((X5 a i:Nat):Int))+((X5 b i:Nat):Int))=((c+X5 a i+X5 b i:Nat):Int):=by
    rw [Xm (x:=(c:Int)+_) (by omega),Xm (by omega)];omega
   rw [Zkb,Zet ha,Zet hb,oB,oB,k,Zs1 (by omega),Zs0 (by omega),aD]
   generalize hsum:c+X5 a i+X5 b i=s
   rw [Z6 (by simp only [aL,maxLen];omega),Zv (by omega)]
   have f:=Zzs N a b ha hb hN hs n (i+1) (out++[((s % 4294967296:Nat):Int)]) (s / 4294967296) (by simp [d]) (e.app (.cons (by omega) .nil)) (by omega) (by omega) (by
    by_cases hi:i<a.length∨i<b.length
    ·omega
    ·right
     have r:X5 a i=0:=by rw [X5,aE,cJ (by omega)];rfl
     have zb:X5 b i=0:=by rw [X5,aE,cJ (by omega)];rfl
     omega) (by omega)
   rw [show ((i+1:Nat):Int)=(i:Int)+1 by omega] at f
   rw [f,Qs,d,Wo,Yz,aD,Td a i,Td b i,bF]
   congr 2
   rw [dY,bQ]
   refine Zrq ?_
   omega
  rw [Qo.eq_2]
  by_cases hia:i<a.length
  ·rw [if_pos (dT (by omega)),Zdw,if_pos rfl];exact go (.inl hia)
  ·rw [if_neg (dF (by omega))]
   by_cases hib:i<b.length
   ·rw [if_pos (dT (by omega)),Zdw,if_pos rfl];exact go (.inr (.inl hib))
   ·rw [if_neg (dF (by omega)),Zdw]
    by_cases hcp:0<c
    ·rw [if_pos (dT (by omega))];exact go (.inr (.inr hcp))
    ·have:c=0:=by omega
     subst this
     rw [if_neg (by decide),Th e (by omega) (by omega),oB,aO (by omega),aO (by omega),Yz]
     simp
theorem Zzt {N:Nat} {a b:List Int} (ha:Zn a) (hb:Zn b) (hN:a.length+b.length+3<N) (hs:a.length+b.length<35184372087000):Zhv N a b=some (Zg (Zc a+Zc b)):=by
 have:=Zzs N a b ha hb (by omega) hs N 0 [] 0 rfl .nil (by omega) (by omega) (by omega) (by omega)
 rw [aT,aT,Yz,dX] at this
 rw [Zhv,show (0:Int)=((0:Nat):Int) from rfl,this]
 simp
theorem Z0u (N:Nat) (a b:List Int) (ha:Zn a) (hb:Zn b) (hN:a.length<N) (hs:a.length<35184372088000):∀ (n i:Nat) (out:List Int) (c:Nat),out.length=i→Zn out→c≤1→i≤a.length→a.length<n+i→c+Zc (b.drop i)≤Zc (a.drop i)→
  Zab N a b n out (c:Int) (i:Int)=some (Zg (Zc out+4294967296 ^ i * (Zc (a.drop i) - (c+Zc (b.drop i)))),true)
 | 0,i,out,c,_,_,_,l,m,_=>by omega
 | n+1,i,out,c,e,f,o,l,m,g=>by
  rw [Zab.eq_2]
  by_cases hi:i<a.length
  ·have p:=Zes ha i
   have q:=Zes hb i
   rw [Td a i,Td b i] at g
   have go:∀ (d:Nat) (x:Int),d≤1→x=((X5 a i+4294967296 * d:Nat):Int)→X5 b i+c≤X5 a i+4294967296 * d→X5 a i+4294967296 * d<X5 b i+c+4294967296→Zhz out (c:Int) (i:Int) (Zab N a b n) ((X5 b i:Nat):Int) (d:Int) x=some (Zg (Zc out+4294967296 ^ i * (Zc (a.drop i) - (c+Zc (b.drop i)))),true):=fun d x j r s t=>by
    have ev:u32.wrap (u64.wrap (x - u64.wrap (((X5 b i:Nat):Int)+(c:Int))))=((X5 a i+4294967296 * d - (X5 b i+c):Nat):Int):=by
     rw [Xm (x:=((X5 b i:Nat):Int)+(c:Int)) (by omega),Xm (by omega),Ul (by omega)];omega
    rw [Zhz,ev,Z6 (by simp only [aL,maxLen];omega),Zm9,Zv (by omega)]
    generalize hv:X5 a i+4294967296 * d - (X5 b i+c)=v
    have k:=Z0u N a b ha hb hN hs n (i+1) (out++[(v:Int)]) d (by simp [e]) (f.app (.cons (by omega) .nil)) j (by omega) (by omega) (by omega)
    rw [show ((i+1:Nat):Int)=(i:Int)+1 by omega] at k
    rw [k,Qs,e,Wo,Yz,aD,Td a i,Td b i,bF,dY,bQ]
    congr 3
    refine Zrq ?_
    omega
   rw [if_pos (dT (by omega)),Zet ha,Zet hb,oB,oB,Xm (x:=((X5 b i:Nat):Int)+(c:Int)) (by omega)]
   by_cases hlt:X5 a i<X5 b i+c
   ·rw [if_pos (dT (by omega))]
    exact go 1 _ (by omega) (by rw [Xm (by omega)];omega) (by omega) (by omega)
   ·rw [if_neg (dF (by omega))]
    exact go 0 _ (by omega) (by omega) (by omega) (by omega)
  ·rw [if_neg (dF (by omega)),Th f (by omega) (by omega),oB]
   rw [aO (show a.length≤i by omega),Yz] at g ⊢
   rw [show 0 - (c+Zc (b.drop i))=0 by omega]
   simp
theorem Zln {N:Nat} {a b:List Int} (ha:Zn a) (hb:Zn b) (h1:a.length<N) (h2:b.length<N) (h3:a.length<35184372088000) (h4:b.length<35184372088000):
  Zdx N a b=some (if Zc a<Zc b then ([],false) else (Zg (Zc a - Zc b),true)):=by
 rw [Zdx,Zsd ha hb h1 h2 (by omega) (by omega),oB]
 by_cases h:Zc a<Zc b
 ·rw [if_pos h,if_pos (by decide),if_pos h]
 ·have:=Z0u N a b ha hb h1 h3 N 0 [] 0 rfl .nil (by omega) (by omega) (by omega) (by simpa using Nat.le_of_not_lt h)
  rw [if_neg h,if_neg (by split <;> decide),if_neg h,show (0:Int)=((0:Nat):Int) from rfl,this]
  simp [Yz]
theorem Z0f (N:Nat) (a b:List Int) (ha:Zn a) (hb:Zn b) (i:Nat) (hi:i<a.length) (kk:List Int→Int→Option R2):∀ (n j:Nat) (p:List Int) (c:Nat),j≤b.length→b.length<n+j→i+b.length<p.length→p.length<4611686018427387904→Zn p→c<4294967296→Zc (p.drop (i+b.length))=0→
  ∃ p',Zfk N a b (i:Int) kk n (j:Int) p (c:Int)=kk p' ((i:Int)+1)∧p'.length=p.length∧Zn p'∧Zc p'=Zc p+4294967296 ^ (i+j) * (c+X5 a i * Zc (b.drop j))∧Zc (p'.drop (i+b.length+1))=0
 | 0,j,p,c,e,q,_,_,_,_,_=>by omega
 | n+1,j,p,c,e,q,f,r,g,C,l=>by
  rw [Zfk.eq_2]
  by_cases hj:j<b.length
  ·have d:i+j<p.length:=by omega
   have D:=g.get d
   have m:=ha.get hi
   have o:=hb.get hj
   have s:X5 a i=(a[i]).toNat:=by rw [X5,aE,aN hi,dJ]
   have E:a[i] * b[j]≤4294967295 * 4294967295:=Int.mul_le_mul (by omega) (by omega) (by omega) (by omega)
   have A:0≤a[i] * b[j]:=Int.mul_nonneg m.1 o.1
   have F:(((a[i]).toNat * (b[j]).toNat:Nat):Int)=a[i] * b[j]:=by rw [bU,bM m.1,bM o.1]
   have t:u64.wrap (u64.wrap ((c:Int)+u64.wrap (u64.wrap a[i] * u64.wrap b[j]))+u64.wrap p[i+j])=((c+((a[i]).toNat * (b[j]).toNat+(p[i+j]).toNat):Nat):Int):=by
    rw [Xm (x:=a[i]) (by omega),Xm (x:=b[j]) (by omega),Xm (x:=a[i] * b[j]) (by omega),Xm (x:=p[i+j]) (by omega),Xm (x:=(c:Int)+_) (by omega),Xm (by omega)]
    omega
   rw [if_pos (dT (by omega)),Z1 hi,oB,Z1 hj,oB,Zv (x:=(i:Int)+(j:Int)) (by omega),show (i:Int)+(j:Int)=((i+j:Nat):Int) by omega,Z1 d,oB,oB,aD,t]
   have B:c+((a[i]).toNat * (b[j]).toNat+(p[i+j]).toNat)<18446744073709551616:=by omega
   rw [Zs1 (by omega),Zs0 (by omega),aD,Zv (x:=(j:Int)+1) (by omega),show (j:Int)+1=((j+1:Nat):Int) by omega]
   generalize hS:c+((a[i]).toNat * (b[j]).toNat+(p[i+j]).toNat)=S at *
   obtain ⟨p',q1,u,v,w,y⟩:=Z0f N a b ha hb i hi kk n (j+1) (p.set (i+j) ((S % 4294967296:Nat):Int)) (S / 4294967296) (by omega) (by omega) (by rw [nS];exact f) (by rw [nS];exact r) (g.set _ (by omega)) (by omega) (by rw [Q0 _ (by omega)];exact l)
   refine ⟨p',q1,by rw [u,nS],v,?_,y⟩
   rw [w,← dW i j 1,bF,Ut hj,s]
   exact Zxt _ _ _ _ _ _ (p[i+j]).toNat (S % 4294967296) _ _ (by have:=Tx d ((S % 4294967296:Nat):Int);rw [aD] at this;exact this) (by omega)
  ·have:j=b.length:=by omega
   subst this
   have k:=drop_zero g f l
   rw [if_neg (dF (by omega)),Zv (x:=(i:Int)+(b.length:Int)) (by omega),show (i:Int)+(b.length:Int)=((i+b.length:Nat):Int) by omega,Z1 f,oB,oB,aD,Ul (by omega),Zv (by omega)]
   refine ⟨_,rfl,by rw [nS],g.set _ (by omega),?_,?_⟩
   ·have e:=Tx f (c:Int)
    rw [k.1,aD] at e
    rw [List.drop_length,Yz,dY,bQ]
    simpa using e
   ·rw [Q0 _ (by omega)];exact k.2
theorem Z0e (N:Nat) (a b:List Int) (ha:Zn a) (hb:Zn b) (hN:a.length+b.length<N) (hs:a.length+b.length<35184372088000):∀ (n i:Nat) (p:List Int),i≤a.length→a.length<n+i→p.length=a.length+b.length→Zn p→Zc (p.drop (i+b.length))=0→
  Zb7 N a b n p (i:Int)=some (Zg (Zc p+4294967296 ^ i * (Zc (a.drop i) * Zc b)))
 | 0,i,p,e,f,_,_,_=>by omega
 | n+1,i,p,e,f,o,c,g=>by
  rw [Zb7.eq_2]
  by_cases hi:i<a.length
  ·obtain ⟨j,q1,q,k,l,m⟩:=Z0f N a b ha hb i hi (Zb7 N a b n) N 0 p 0 (by omega) (by omega) (by omega) (by omega) c (by omega) g
   rw [show ((0:Nat):Int)=0 from rfl] at q1
   have d:=Z0e N a b ha hb hN hs n (i+1) j (by omega) (by omega) (by omega) k (by rw [show i+1+b.length=i+b.length+1 by omega];exact m)
   rw [show ((i+1:Nat):Int)=(i:Int)+1 by omega] at d
   rw [if_pos (dT (by omega)),q1,d,l,Td a i,bF,aT]
   congr 2
   simp only [bQ,cW]
   grind
  ·rw [if_neg (dF (by omega)),Th c (by omega) (by omega),oB,aO (by omega),Yz];simp
theorem Z9s {N:Nat} {a b:List Int} (ha:Zn a) (hb:Zn b) (h1:a.length+b.length<N) (h3:a.length+b.length<35184372088000):Zke N a b=some (Zg (Zc a * Zc b)):=by
 have c:=Yq ha
 have d:=Yq hb
 rw [Zke,Th ha (by omega) (by omega),oB,Th hb (by omega) (by omega),oB,Zv (by omega),Z6 (by simp only [maxLen];omega)]
 have:=Z0e N (Zg (Zc a)) (Zg (Zc b)) (Xf _) (Xf _) (by omega) (by omega) N 0 (aM (aA (((Zg (Zc a)).length:Int)+((Zg (Zc b)).length:Int))) 0) (by omega) (by omega) (by rw [bD];omega) (.zeros _) (by rw [iB];exact Sf _)
 rw [show ((0:Nat):Int)=0 from rfl] at this
 rw [this,Sf,aT,Xc,Xc]
 simp
theorem Zzw (N:Nat):∀ (n:Nat) (c:Int) (t:Nat),Xg t<n→t<4294967296→0≤c∧c+(Xg t:Int)≤4611686018427387904→Zm1 N n c (t:Int)=some (c+(Xg t:Int))
 | 0,c,t,h,_,_=>by omega
 | n+1,c,t,h,b,d=>by
  rw [Zm1.eq_2]
  have f:Xg t≤32:=Ud.2 (by omega)
  by_cases h0:0<t
  ·have e:u32.wrap (bJ (t:Int) 2)=((t / 2:Nat):Int):=by rw [bX (by omega),Ul (by omega)];omega
   have a:=Zi9 t 1
   rw [Nat.pow_one] at a
   have g:1≤Xg t:=by rw [Xg,if_neg (by omega)];omega
   rw [if_pos (dT (by omega)),e,Zv (by omega),Zzw N n (c+1) (t / 2) (by omega) (by omega) (by omega)]
   congr 1;omega
  ·have:t=0:=by omega
   subst this
   rw [if_neg (by decide),Zgd];simp
theorem Z9i {N:Nat} {a:List Int} (h:Zn a) (hn:a.length+32<N) (hb:a.length≤35184372088000):Zqw N a=some ((Xg (Zc a):Nat):Int):=by
 have i:=Yq h
 rw [Zqw,Th h (by omega) hb,oB]
 by_cases h0:(Zg (Zc a)).length=0
 ·have:Zc a=0:=Zgs.1 (dB h0)
  rw [if_pos (dT (by omega)),this,Zgd];rfl
 ·have b:0<(Zg (Zc a)).length:=by omega
  have e:((Zg (Zc a)).length:Int) - 1=(((Zg (Zc a)).length - 1:Nat):Int):=by omega
  have j:=(Xf (Zc a)).get (k:=(Zg (Zc a)).length - 1) (by omega)
  have f:=Zmp b
  have c:=Zgp b
  have d:(Zg (Zc a))[(Zg (Zc a)).length - 1]=(((Zg (Zc a))[(Zg (Zc a)).length - 1]).toNat:Int):=by omega
  have g:Xg ((Zg (Zc a))[(Zg (Zc a)).length - 1]).toNat≤32:=Ud.2 (by omega)
  rw [if_neg (dF (by omega)),Zv (by omega),e,Z1 (by omega),oB,d,Zv (by omega),Zzw N N _ _ (by omega) (by omega) (by omega)]
  have hb:=Zts (a:=(Zg (Zc a)).take ((Zg (Zc a)).length - 1)) (x:=(Zg (Zc a))[(Zg (Zc a)).length - 1]) ((Xf _).take _) (by omega)
  rw [c,Xc,nK,bB (by omega)] at hb
  rw [hb]
  congr 1
theorem Z3c (T l R k s:Nat) (hT:T<4294967296 ^ k) (hs:s<32):(T+4294967296 ^ k * (l+4294967296 * R)) / 2 ^ (32 * k+s) % 2=l / 2 ^ s % 2:=by
 have e:(4294967296:Nat) ^ k=2 ^ (32 * k):=by rw [show (4294967296:Nat)=2 ^ 32 by decide,← Nat.pow_mul]
 have a:0<4294967296 ^ k:=Nat.pow_pos (by decide)
 rw [dK,← e,← gW,iC _ _ a,fH hT,cW]
 have b:(4294967296:Nat)=2 ^ s * (2 * 2 ^ (31 - s)):=by
  rw [Nat.mul_left_comm,← dK,show s+(31 - s)=31 by omega]
 have c:l+4294967296 * R=l+2 ^ s * (2 * (2 ^ (31 - s) * R)):=by
  conv=>lhs;rw [b]
  rw [cE,cE]
 rw [c,iC _ _ (cL s),Nat.add_mul_mod_self_left]
theorem Z9h {a:List Int} (h:Zn a) {i:Nat} (hi:i<4611686018427387904):Zqv a (i:Int)=some ((Zc a / 2 ^ i % 2:Nat):Int):=by
 have e:=Zes h (i / 32)
 have c:i64.wrap (bJ (i:Int) 32)=((i / 32:Nat):Int):=by rw [bX (by omega),Zv (by omega)];omega
 have d:cG (i:Int) 32=((i % 32:Nat):Int):=by rw [cO (by omega)];omega
 rw [Zqv,c,Zet h,oB,d,Z6 (by omega),Zot _ _ _ (by simp only [IntKind.bits];omega)]
 have f:=cU (X5 a (i / 32)) (2 ^ (i % 32))
 have b:=Z3c (Zc (a.take (i / 32))) (X5 a (i / 32)) (Zc (a.drop (i / 32+1))) (i / 32) (i % 32) (Zn2 h _) (by omega)
 rw [← Td a,← Ty,show 32 * (i / 32)+i % 32=i by omega] at b
 rw [b]
 generalize X5 a (i / 32) / 2 ^ (i % 32)=x at *
 rw [Ul (by omega),cO (by omega)]
 congr 1
theorem Zz0 (N:Nat) (a:List Int) (ha:Zn a) (hs:a.length<35184372088000):∀ (n i:Nat) (out:List Int) (c:Nat),out.length=i→Zn out→c≤1→i≤a.length→a.length<n+i→
  ∃ o,Znc N a n out (c:Int) (i:Int)=some o∧o.length≤a.length+1∧Zn o∧Zc o=Zc out+4294967296 ^ i * (c+2 * Zc (a.drop i))
 | 0,i,out,c,_,_,_,e,f=>by omega
 | n+1,i,out,c,b,d,p,e,f=>by
  rw [Znc.eq_2]
  by_cases hi:i<a.length
  ·have q:=ha.get hi
   have g:u64.wrap ((c:Int)+u64.wrap (2 * u64.wrap a[i]))=((c+2 * (a[i]).toNat:Nat):Int):=by
    rw [Xm (x:=a[i]) (by omega),Xm (x:=2 * _) (by omega),Xm (by omega)];omega
   rw [if_pos (dT (by omega)),Z1 hi,oB,g,Zs1 (by omega),Zs0 (by omega),aD]
   generalize hS:c+2 * (a[i]).toNat=S
   rw [Z6 (by simp only [aL,maxLen];omega),Zv (by omega)]
   obtain ⟨o,q1,j,k,l⟩:=Zz0 N a ha hs n (i+1) (out++[((S % 4294967296:Nat):Int)]) (S / 4294967296) (by simp [b]) (d.app (.cons (by omega) .nil)) (by omega) (by omega) (by omega)
   rw [show ((i+1:Nat):Int)=(i:Int)+1 by omega] at q1
   refine ⟨o,q1,j,k,?_⟩
   rw [l,Qs,b,Wo,Yz,aD,Ut hi,bF,dY,bQ]
   refine Zrq ?_
   omega
  ·have m:i=a.length:=by omega
   rw [if_neg (dF (by omega))]
   by_cases hcp:0<c
   ·rw [if_pos (dT (by omega)),Z6 (by simp only [aL,maxLen];omega),Znb,Ul (by omega)]
    refine ⟨_,rfl,by simp;omega,d.app (.cons (by omega) .nil),?_⟩
    rw [Qs,b,Wo,Yz,aD,aO (by omega),Yz]
   ·have:c=0:=by omega
    subst this
    rw [if_neg (by decide),Znb]
    refine ⟨_,rfl,by omega,d,?_⟩
    rw [aO (by omega),Yz];simp
theorem Zz1 {N:Nat} {a:List Int} {c:Nat} (ha:Zn a) (hc:c≤1) (hN:a.length<N) (hs:a.length<35184372088000):∃ o,Zna N a (c:Int)=some o∧o.length≤a.length+1∧Zn o∧Zc o=2 * Zc a+c:=by
 obtain ⟨o,q1,b,d,e⟩:=Zz0 N a ha hs N 0 [] c rfl .nil hc (by omega) (by omega)
 refine ⟨o,?_,b,d,?_⟩
 ·rw [Zna,Xm (by omega)];exact q1
 ·rw [e,Yz,dX,aT];omega
theorem Z62 (Q e o2 r S v L:Nat) (h:r * 4294967296+e=2 * v+o2) (hS:S=Q * (o2+2 * (v+4294967296 * L))):S=Q * e+Q * 4294967296 * (r+2 * L):=by
 subst hS
 have:Q * (r * 4294967296+e)=Q * (2 * v+o2):=by rw [h]
 grind
theorem Z0c (N:Nat) (a:List Int) (ha:Zn a) (hN:a.length<N) (hs:a.length<35184372088000):∀ (n j:Nat) (out:List Int) (r:Nat),out.length=a.length→Zn out→r≤1→j≤a.length→j<n→Zc (out.take j)=0→
  ∃ v,Znd N a n out (r:Int) ((j:Int) - 1)=some (Zg v)∧∃ ρ,ρ≤1∧2 * v+ρ=Zc (a.take j)+4294967296 ^ j * (r+2 * Zc (out.drop j))
 | 0,j,out,r,_,_,_,_,h,_=>by omega
 | n+1,j,out,r,i,c,k,y,A,l=>by
  rw [Znd.eq_2]
  by_cases h0:j=0
  ·subst h0
   rw [if_neg (by decide),Th c (by omega) (by omega),oB]
   refine ⟨_,rfl,r,k,?_⟩
   rw [List.take_zero,Yz,aT,dX];omega
  ·have e:(j:Int) - 1=((j - 1:Nat):Int):=by omega
   have m:j - 1+1=j:=by omega
   have b:j - 1<a.length:=by omega
   have g:=ha.get b
   have o:u64.wrap (u64.wrap ((r:Int) * 4294967296)+u64.wrap a[j - 1])=((r * 4294967296+(a[j - 1]).toNat:Nat):Int):=by
    rw [Xm (x:=a[j - 1]) (by omega),Xm (x:=(r:Int) * 4294967296) (by omega),Xm (by omega)];omega
   rw [if_pos (dT (by omega)),e,Z1 b,oB,Z1 (by omega),oB,oB,aD,o,Zv (by omega)]
   generalize hS:r * 4294967296+(a[j - 1]).toNat=S
   have p:u32.wrap (u64.wrap (bJ (S:Int) 2))=((S / 2:Nat):Int):=by rw [bX (by omega),Xm (by omega),Ul (by omega)];omega
   have q:cG (S:Int) 2=((S % 2:Nat):Int):=by rw [cO (by omega)];omega
   have s:Zc (out.take (j - 1))=0:=by
    have:=Ty (out.take j) (j - 1)
    rw [hO,bB (by omega),l] at this
    omega
   rw [p,q]
   obtain ⟨v,q1,ρ,t,u⟩:=Z0c N a ha hN hs n (j - 1) (out.set (j - 1) ((S / 2:Nat):Int)) (S % 2) (by rw [nS];exact i) (c.set _ (by omega)) (by omega) (by omega) (by omega) (by rw [Zed _ (aY _)];exact s)
   refine ⟨v,q1,ρ,t,?_⟩
   rw [u]
   have d:=Zrj b
   have f:Zc ((out.set (j - 1) ((S / 2:Nat):Int)).drop (j - 1))=S / 2+4294967296 * Zc (out.drop (j - 1+1)):=by
    rw [Ut (by rw [nS];omega),List.getElem_set_self,Q0 _ (by omega),aD]
   rw [m] at d f
   have w:(4294967296:Nat) ^ j=4294967296 ^ (j - 1) * 4294967296:=by rw [← bF,show (j - 1).succ=j by omega]
   rw [d,f,w,dW]
   congr 1
   exact Z62 _ _ (S % 2) _ _ (S / 2) _ (by omega) rfl
theorem Zor {N:Nat} {a:List Int} (ha:Zn a) (hN:a.length<N) (hs:a.length<35184372088000):Zh1 N a=some (Zg (Zc a / 2)):=by
 obtain ⟨v,q1,ρ,c,b⟩:=Z0c N a ha hN hs N a.length (aM a.length 0) 0 (by rw [bD]) (.zeros _) (by omega) (aY _) hN (by rw [List.take_replicate];exact Sf _)
 rw [Zh1,Z6 (by simp only [maxLen];omega),Zv (by omega)]
 rw [kM,iB,Sf] at b
 refine Eq.trans q1 ?_
 rw [show v=Zc a / 2 by omega]
theorem Z75 {a:List Int} (h:Zn a):Zc a % 2=X5 a 0 % 2:=by
 have:=Td a 0
 rw [aT] at this
 omega
theorem Zoq {a:List Int} (h:Zn a):Zh0 a=some (decide (Zc a % 2=0)):=by
 rw [Zh0,Z75 h]
 by_cases h0:a.length=0
 ·have:a=[]:=dB h0
  subst this
  rfl
 ·have g:=h.get (k:=0) (by omega)
  have b:X5 a 0=(a[0]).toNat:=by rw [X5,aE,aN (by omega),dJ]
  rw [if_neg (dF (by omega)),show (0:Int)=((0:Nat):Int) from rfl,Z1 (by omega),oB,Zqz,cO (by omega),b]
  congr 1
  exact decide_eq_decide.2 (by omega)
theorem Z8t {q:List Int} (hq:Zn q) {i:Nat} (hi:i<32 * q.length) (hd:2 ^ (i+1) ∣ Zc q):
  ∃ x:Nat,Zm q ((i / 32:Nat):Int)=some (x:Int)∧u32.wrap ((x:Int)+Yi .u32 1 ((i % 32:Nat):Int))=((x+2 ^ (i % 32):Nat):Int)∧x+2 ^ (i % 32)<4294967296∧Zc (q.set (i / 32) ((x+2 ^ (i % 32):Nat):Int))=Zc q+2 ^ i:=by
 have a:i / 32<q.length:=by omega
 have g:=hq.get a
 have m:i % 32<32:=Nat.mod_lt _ (by decide)
 have A:=cL (i % 32)
 have c:(4294967296:Nat) ^ (i / 32)=2 ^ (32 * (i / 32)):=by rw [show (4294967296:Nat)=2 ^ 32 by decide,← Nat.pow_mul]
 have d:(4294967296:Nat)=2 ^ (i % 32+1) * 2 ^ (31 - i % 32):=by rw [← dK,show i % 32+1+(31 - i % 32)=32 by omega]
 have n:(2:Nat) ^ (i+1)=4294967296 ^ (i / 32) * 2 ^ (i % 32+1):=by rw [c,← dK];congr 1;omega
 have f:(2:Nat) ^ i=4294967296 ^ (i / 32) * 2 ^ (i % 32):=by rw [c,← dK];congr 1;omega
 have b:=Ty q (i / 32)
 rw [Ut a] at b
 have o:=Zn2 hq (i / 32)
 have p:0<4294967296 ^ (i / 32):=Nat.pow_pos (by decide)
 rw [n] at hd
 -- the limb's lower bits are none
 have r:2 ^ (i % 32+1) ∣ (q[i / 32]).toNat:=by
  have j:4294967296 ^ (i / 32) ∣ Zc q:=Nat.dvd_trans ⟨_,rfl⟩ hd
  have s:4294967296 ^ (i / 32) ∣ Zc (q.take (i / 32)):=by
   rw [b] at j
   exact (kT ⟨_,rfl⟩).1 j
  have z:Zc (q.take (i / 32))=0:=Nat.eq_zero_of_dvd_of_lt s o
  rw [z,cW] at b
  rw [b] at hd
  have t:=Nat.dvd_of_mul_dvd_mul_left p hd
  have u:2 ^ (i % 32+1) ∣ 4294967296 * Zc (q.drop (i / 32+1)):=by
   conv=>rhs;rw [d]
   exact ⟨2 ^ (31 - i % 32) * Zc (q.drop (i / 32+1)),by rw [cE]⟩
  exact (kT u).1 t
 obtain ⟨y,k⟩:=r
 have l:(q[i / 32]).toNat+2 ^ (i % 32)<4294967296:=by
  have e:2 ^ (i % 32+1) * y<2 ^ (i % 32+1) * 2 ^ (31 - i % 32):=by rw [← k,← d];omega
  have v:=Nat.lt_of_mul_lt_mul_left e
  have w:=aR (2 ^ (i % 32+1)) (show y+1≤2 ^ (31 - i % 32) from v)
  rw [← d,Nat.mul_add,← k,bF] at w
  omega
 refine ⟨(q[i / 32]).toNat,by rw [Z1 a];congr 1;omega,?_,l,?_⟩
 ·rw [show (1:Int)=((1:Nat):Int) from rfl,Zsm m (.inl rfl),aX,Ul (x:=((2 ^ (i % 32):Nat):Int)) (by omega),Ul (by omega)]
  omega
 ·have e:=Tx a (((q[i / 32]).toNat+2 ^ (i % 32):Nat):Int)
  rw [aD,Nat.mul_add,← f] at e
  omega
theorem Zsg (N:Nat) (a y:List Int) (ha:Zn a) (hy:Zn y) (hy0:0<Zc y) (hly:y.length+8<N) (hs:y.length<35184372000000) (hla:a.length<35184372000000) (hyc:(Zg (Zc y)).length=y.length) (hNa:a.length+y.length+8<N):∀ (n j:Nat) (r q:List Int),j<n→j<4611686018427387904→j≤32 * q.length→q.length≤a.length→Zn q→r=Zg (Zc r)→Zc r<Zc y→2 ^ j ∣ Zc q→Zc a / 2 ^ j=Zc q / 2 ^ j * Zc y+Zc r→
  Zkc N a y n r ((j:Int) - 1) q=some (Zg (Zc a / Zc y),Zg (Zc a % Zc y),0)
 | 0,j,r,q,h,_,_,_,_,_,_,_,_=>by omega
 | n+1,j,r,q,O,R,P,p,m,t,g,C,k=>by
  rw [Zkc.eq_2]
  by_cases h0:j=0
  ·subst h0
   rw [dX,Nat.div_one,Nat.div_one] at k
   rw [if_neg (by decide),Th m (by omega) (by omega),oB]
   have D:Zc a / Zc y=Zc q:=by rw [k,cB,Nat.mul_add_div hy0,fH g,bQ]
   have u:Zc a % Zc y=Zc r:=by rw [k,cB,Nat.mul_add_mod,Nat.mod_eq_of_lt g]
   rw [D,u,← t]
  ·have e:(j:Int) - 1=((j - 1:Nat):Int):=by omega
   obtain ⟨i,rfl⟩:∃ i,j=i+1:=⟨j - 1,by omega⟩
   have E:i+1 - 1=i:=by omega
   rw [e,E]
   have Q:r.length≤y.length:=by
    rw [t,← hyc];exact Wx (Nat.le_of_lt g)
   have v:Zn r:=by rw [t];exact Xf _
   have S:=Nat.mod_lt (Zc a / 2 ^ i) (show 0<2 by decide)
   obtain ⟨d,F,T,o,w⟩:=Zz1 (N:=N) (a:=r) (c:=Zc a / 2 ^ i % 2) v (by omega) (by omega) (by omega)
   have u:Zc a / 2 ^ i=2 * (Zc a / 2 ^ (i+1))+Zc a / 2 ^ i % 2:=by
    rw [bF,← gW];omega
   obtain ⟨qq,f⟩:=C
   have A:Zc q / 2 ^ (i+1)=qq:=by rw [f,gJ _ (cL _)]
   have s:Zc q / 2 ^ i=2 * qq:=by rw [f,bF,cE,gJ _ (cL _)]
   rw [A] at k
   rw [if_pos (dT (by omega)),Z9h ha (by omega),oB,F,oB,Th o (by omega) (by omega),oB,Zsd (Xf _) hy (by have:=Yq o;omega) (by omega) (by have:=Yq o;omega) (by omega),oB,Xc,w]
   rw [k] at u
   have l:Zc a / 2 ^ i=2 * qq * Zc y+(2 * Zc r+Zc a / 2 ^ i % 2):=by
    have:2 * qq * Zc y=2 * (qq * Zc y):=cE _ _ _
    omega
   generalize hbit:Zc a / 2 ^ i % 2=b at *
   by_cases hge:Zc y≤2 * Zc r+b
   ·rw [if_pos (by rw [if_neg (by omega)];split <;> decide)]
    obtain ⟨x,G,H,I,B⟩:=Z8t m (i:=i) (by omega) ⟨qq,f⟩
    have J:i64.wrap (bJ (i:Int) 32)=((i / 32:Nat):Int):=by rw [bX (by omega),Zv (by omega)];omega
    have K:cG (i:Int) 32=((i % 32:Nat):Int):=by rw [cO (by omega)];omega
    have U:(Zg (2 * Zc r+b)).length≤y.length+1:=by rw [← w];exact aU (Yq o) (by omega)
    rw [Zln (Xf _) hy (by omega) (by omega) (by omega) (by omega),oB,Xc,if_neg (by omega),J,K,G,oB,Z6 (by omega),H,oB,aD,Zm3,Zv (by omega)]
    have L:=Zsg N a y ha hy hy0 hly hs hla hyc hNa n i (Zg (2 * Zc r+b - Zc y)) (q.set (i / 32) ((x+2 ^ (i % 32):Nat):Int)) (by omega) (by omega) (by rw [nS];omega) (by rw [nS];exact p) (m.set _ ⟨Int.natCast_nonneg _,Int.ofNat_lt.2 I⟩) (by rw [Xc]) (by rw [Xc];omega) (by
     rw [B,f];exact Nat.dvd_add ⟨2 * qq,by rw [bF,cE]⟩ (Nat.dvd_refl _)) (by
     have:Zc (q.set (i / 32) ((x+2 ^ (i % 32):Nat):Int)) / 2 ^ i=2 * qq+1:=by
      rw [B,Nat.add_div_right _ (cL _),s]
     rw [this,Xc,l,Nat.add_mul,aX];omega)
    exact L
   ·rw [if_neg (by rw [if_pos (by omega)];decide),Zm3,Zv (by omega)]
    exact Zsg N a y ha hy hy0 hly hs hla hyc hNa n i (Zg (2 * Zc r+b)) q (by omega) (by omega) (by omega) p m (by rw [Xc]) (by rw [Xc];omega) (by rw [f];exact ⟨2 * qq,by rw [bF,cE]⟩) (by rw [s,Xc,l])
theorem Zzz {N:Nat} {a b:List Int} (ha:Zn a) (hb:Zn b) (hN:32 * a.length+(Zg (Zc b)).length+48<N) (hbN:b.length<N) (hs:a.length+(Zg (Zc b)).length<35184370000000) (hbs:b.length≤35184372000000):
  Zm2 N a b=some (if Zc b=0 then ([],[],11) else (Zg (Zc a / Zc b),Zg (Zc a % Zc b),0)):=by
 have f:=Yq ha
 rw [Zm2,Th hb (by omega) (by omega),oB]
 by_cases h0:Zc b=0
 ·rw [h0,Vm,if_pos (by decide),if_pos rfl]
 ·have d:=Tt h0
  have e:=(Zl2 (Zc a)).2
  rw [if_neg (dF (by omega)),if_neg h0,Z9i ha (by omega) (by omega),oB]
  have c:i64.wrap (bJ (i64.wrap (((Xg (Zc a):Nat):Int)+31)) 32)=(((Xg (Zc a)+31) / 32:Nat):Int):=by
   rw [Zv (x:=((Xg (Zc a):Nat):Int)+31) (by omega),bX (by omega),Zv (by omega)];omega
  rw [c,Z6 (by simp only [maxLen,aD];omega),aD,Zv (by omega)]
  have:=Zsg N a (Zg (Zc b)) ha (Xf _) (by rw [Xc];omega) (by omega) (by omega) (by omega) (by rw [Xc]) (by omega) N (Xg (Zc a)) [] (aM ((Xg (Zc a)+31) / 32) 0) (by omega) (by omega) (by rw [bD];omega) (by rw [bD];omega) (.zeros _) (by rw [Yz,Vm]) (by rw [Xc,Yz];omega) (by rw [Sf];exact ⟨0,rfl⟩) (by
   rw [Sf,Yz,Nat.zero_div,Nat.zero_mul]
   exact fH (Ud.1 (aY _)))
  rw [Xc] at this
  exact this
theorem Z5t {x:Nat} (h:x % 2=1):Nat.Coprime 2 x:=by
 rw [Nat.coprime_iff_gcd_eq_one,Nat.gcd_rec,h,Nat.gcd_one_left]
theorem Zv6 {x y k:Nat} (h:y % 2=1):dE (2 ^ k * x) y=dE x y:=by
 induction k with
 | zero=>rw [dX,aX]
 | succ k a=>rw [bF,cB (2 ^ k),cE,(Z5t h).gcd_mul_left_cancel,a]
theorem Z6z {x y k:Nat} (h:x % 2=1):dE x (2 ^ k * y)=dE x y:=by
 rw [fR,Zv6 h,fR]
theorem Zl3 {x:Nat} (h:x≠0):1≤Xg x:=by rw [Xg,if_neg h];omega
theorem Zl1 (x:Nat):Xg (x / 2)=Xg x - 1:=by
 have:=Zi9 x 1
 rwa [Nat.pow_one] at this
theorem Zi8 {x y:Nat} (h:x≤y):Xg x≤Xg y:=Ud.2 (Nat.lt_of_le_of_lt h (Ud.1 (aY _)))
theorem Zi7 {M x:Nat} (h:(Zg x).length≤M):Xg x≤32 * M:=by have:=(Zl2 x).2;omega
theorem Zwu {x xo k:Nat} (h:x=2 ^ k * xo):xo≤x:=by
 rw [h]
 have:=bC xo (cL k)
 omega
section
variable {N M:Nat} (hN:100 * M+64<N) (hM:M<1066000000100)
include hN hM
theorem Z0a (t:Nat):∀ (n i:Nat) (x:List Int),i≤t→t - i<n→t≤32 * M→Zn x→x.length+(t - i)≤33 * M→
  ∃ g,Zm7 N (t:Int) n x (i:Int)=some g∧Zn g∧Zc g=2 ^ (t - i) * Zc x∧g.length≤x.length+(t - i)
 | 0,i,x,_,h,_,_,_=>by omega
 | n+1,i,x,p,q,j,b,r=>by
  rw [Zm7.eq_2]
  by_cases h0:i<t
  ·obtain ⟨d,e,s,k,l⟩:=Zz1 (N:=N) (a:=x) (c:=0) b (by omega) (by omega) (by omega)
   rw [show ((0:Nat):Int)=0 from rfl] at e
   obtain ⟨g,f,m,o,u⟩:=Z0a t n (i+1) d (by omega) (by omega) j k (by omega)
   rw [show ((i+1:Nat):Int)=(i:Int)+1 by omega] at f
   rw [if_pos (dT (by omega)),e,oB,Zv (by omega)]
   refine ⟨g,f,m,?_,by omega⟩
   rw [o,l,bQ (2 * Zc x),← cE,← bF]
   congr 2;omega
  ·have:i=t:=by omega
   subst this
   rw [if_neg (dF (by omega))]
   exact ⟨x,rfl,b,by simp,by omega⟩
theorem Zz9 (kk:List Int→List Int→Option R2) {x:Nat} (hx:(Zg x).length≤M):∀ (n y:Nat),y≠0→Xg y<n→(Zg y).length≤M→
  ∃ yo k,y=2 ^ k * yo∧yo % 2=1∧Zhx N kk (Zg x) n (Zg y)=kk (Zg (min x yo)) (Zg (max x yo - min x yo))
 | 0,y,_,h,_=>by omega
 | n+1,y,a,f,b=>by
  have g:=Tt a
  rw [Zhx.eq_2,if_pos (dT (by omega)),Zoq (Xf _),Xc,oB,Zqy]
  by_cases he:y % 2=0
  ·rw [if_pos (dT he),Zor (Xf _) (by omega) (by omega),oB,Xc]
   have i:=Zl1 y
   have j:=Zl3 a
   obtain ⟨yo,k,c,d,e⟩:=Zz9 kk hx n (y / 2) (by omega) (by omega) (aU (Wx (cU _ _)) b)
   refine ⟨yo,k+1,?_,d,e⟩
   rw [bF,cB (2 ^ k),cE,← c];omega
  ·rw [if_neg (dF he),Zsd (Xf _) (Xf _) (by omega) (by omega) (by omega) (by omega),oB,Xc,Xc]
   refine ⟨y,0,by simp,by omega,?_⟩
   by_cases hxy:y<x
   ·rw [if_pos (by rw [if_neg (by omega),if_pos hxy];decide),Zm5,Zln (Xf _) (Xf _) (by omega) (by omega) (by omega) (by omega),oB,Xc,Xc,if_neg (by omega),dI (by omega),gS (by omega)]
   ·rw [if_neg (by split <;> (try split) <;> simp_all <;> omega),Zm5,Zln (Xf _) (Xf _) (by omega) (by omega) (by omega) (by omega),oB,Xc,Xc,if_neg (by omega),bB (by omega),gK (by omega)]
theorem Zz8 (kk:List Int→List Int→Option R2) {y:Nat}:∀ (n x:Nat),x≠0→Xg x<n→(Zg x).length≤M→
  ∃ xo k,x=2 ^ k * xo∧xo % 2=1∧Zm6 N (Zg y) kk n (Zg x)=Zhx N kk (Zg xo) N (Zg y)
 | 0,x,_,h,_=>by omega
 | n+1,x,a,f,b=>by
  rw [Zm6.eq_2,Zoq (Xf _),Xc,oB]
  by_cases he:x % 2=0
  ·rw [if_pos (dT he),Zor (Xf _) (by omega) (by omega),oB,Xc]
   have g:=Zl1 x
   have i:=Zl3 a
   obtain ⟨xo,k,c,d,e⟩:=Zz8 kk n (x / 2) (by omega) (by omega) (aU (Wx (cU _ _)) b)
   refine ⟨xo,k+1,?_,d,e⟩
   rw [bF,cB (2 ^ k),cE,← c];omega
  ·rw [if_neg (dF he)]
   exact ⟨x,0,by simp,by omega,rfl⟩
theorem Z0b (t:Nat) {n x y:Nat} (hx:x≠0) (hy:y≠0) (h:x % 2=1∨y % 2=1) (lx:(Zg x).length≤M) (ly:(Zg y).length≤M):
  ∃ x' y',Zbf N (t:Int) (n+1) (Zg x) (Zg y)=Zbf N (t:Int) n (Zg x') (Zg y')∧x' % 2=1∧y' % 2=0∧dE x' y'=dE x y∧(Zg x').length≤M∧(Zg y').length≤M∧(Xg x'+Xg y'≤Xg x+Xg y)∧(y % 2=0→Xg x'+Xg y'+1≤Xg x+Xg y):=by
 have w:=Tt hy
 have A:=Zi7 lx
 have s:=Zi7 ly
 obtain ⟨a,k,g,j,m⟩:=Zz8 hN hM (Zbf N (t:Int) n) (y:=y) N x hx (by omega) lx
 have f:=Zwu g
 obtain ⟨yo,l,d,o,p⟩:=Zz9 hN hM (Zbf N (t:Int) n) (x:=a) (aU (Wx f) lx) N y hy (by omega) ly
 have i:=Zwu d
 rw [Zbf.eq_2,if_pos (dT (by omega)),m,p]
 have B:max a yo≤max x y:=by omega
 have lM:(Zg (max x y)).length≤M:=by
  rcases jN x y with h | h
  ·rw [gK h];exact ly
  ·rw [gS h];exact lx
 have u:Xg (min a yo)+Xg (max a yo - min a yo)≤Xg a+Xg yo:=by
  rcases jN a yo with h | h
  ·rw [bB h,gK h]
   have:=Zi8 (iY yo a);omega
  ·rw [dI h,gS h]
   have:=Zi8 (iY a yo);omega
 have C:=Zi8 f
 have D:=Zi8 i
 refine ⟨_,_,rfl,by omega,by omega,?_,aU (Wx (by omega)) lM,aU (Wx (by omega)) lM,by omega,fun v=>?_⟩
 ·have q:dE (min a yo) (max a yo - min a yo)=dE a yo:=by
   rcases jN a yo with h | h
   ·rw [bB h,gK h,jO h]
   ·rw [dI h,gS h,jO h,fR]
  rw [q,g,d]
  rcases h with h | h
  ·have c:k=0:=by
    rcases fZ k with c | c
    ·exact c
    ·obtain ⟨b,rfl⟩:∃ b,k=b+1:=⟨k - 1,by omega⟩
     rw [g,bF,cB (2 ^ b),cE] at h;omega
   subst c
   rw [dX,aX,Z6z j]
  ·have e:l=0:=by
    rcases fZ l with c | c
    ·exact c
    ·obtain ⟨b,rfl⟩:∃ b,l=b+1:=⟨l - 1,by omega⟩
     rw [d,bF,cB (2 ^ b),cE] at h;omega
   subst e
   rw [dX,aX,Zv6 o]
 ·have:yo≤y / 2:=by
   rcases fZ l with e | e
   ·subst e;rw [dX,aX] at d;omega
   ·obtain ⟨b,rfl⟩:∃ b,l=b+1:=⟨l - 1,by omega⟩
    rw [d,bF,cB (2 ^ b),cE,gJ _ (by decide)]
    have:=bC yo (cL b)
    omega
  have r:=Zi8 this
  rw [Zl1] at r
  have E:=Zl3 hy
  omega
theorem Zz7 (t:Nat) (ht:t≤32 * M):∀ (n x y:Nat),x % 2=1→y % 2=0→Xg x+Xg y<n→(Zg x).length≤M→(Zg y).length≤M→
  ∃ g,Zbf N (t:Int) n (Zg x) (Zg y)=some g∧Zn g∧Zc g=2 ^ t * dE x y∧g.length≤33 * M
 | 0,x,y,_,_,h,_,_=>by omega
 | n+1,x,y,e,f,v,i,j=>by
  by_cases h0:y=0
  ·subst h0
   rw [Zbf.eq_2,Vm,if_neg (by decide)]
   obtain ⟨g,b,c,a,d⟩:=Z0a hN hM t N 0 (Zg x) (by omega) (by omega) ht (Xf _) (by omega)
   rw [Xc,jM] at a
   exact ⟨g,b,c,by rw [a,kI],by omega⟩
  ·obtain ⟨k,l,m,o,p,q,r,s,_,u⟩:=Z0b hN hM t (n:=n) (by omega) h0 (.inl e) i j
   have:=u f
   obtain ⟨g,b,c,a,d⟩:=Zz7 t ht n k l o p (by omega) r s
   exact ⟨g,by rw [m,b],c,by rw [a,q],d⟩
theorem Zz6:∀ (n x y t:Nat),x≠0→y≠0→Xg x<n→t+Xg x≤32 * M→(Zg x).length≤M→(Zg y).length≤M→
  ∃ g,Zkd N n (Zg x) (Zg y) (t:Int)=some g∧Zn g∧Zc g=2 ^ t * dE x y∧g.length≤33 * M
 | 0,x,y,t,_,_,h,_,_,_=>by omega
 | n+1,x,y,t,k,l,B,C,d,e=>by
  have D:=Zi7 d
  have w:=Zi7 e
  have a:(x % 2=1∨y % 2=1)→∃ g,Zbf N (t:Int) N (Zg x) (Zg y)=some g∧Zn g∧Zc g=2 ^ t * dE x y∧g.length≤33 * M:=fun h=>by
   obtain ⟨b,A⟩:∃ b,N=b+1:=⟨N - 1,by omega⟩
   obtain ⟨m,o,p,q,r,s,u,v,E,_⟩:=Z0b hN hM t (n:=b) k l h d e
   obtain ⟨g,c,f,i,j⟩:=Zz7 hN hM t (by omega) b m o q r (by omega) u v
   refine ⟨g,?_,f,by rw [i,s],j⟩
   rw [← c,← p]
   congr 1
  rw [Zkd.eq_2,Zoq (Xf _),Xc,oB]
  by_cases hxe:x % 2=0
  ·rw [if_pos (dT hxe),Zoq (Xf _),Xc,oB,Zm4]
   by_cases hye:y % 2=0
   ·rw [if_pos (dT hye),Zor (Xf _) (by omega) (by omega),oB,Zor (Xf _) (by omega) (by omega),oB,Xc,Xc,Zv (by omega)]
    have F:=Zl1 x
    have G:=Zl3 k
    obtain ⟨g,c,f,i,j⟩:=Zz6 n (x / 2) (y / 2) (t+1) (by omega) (by omega) (by omega) (by omega) (aU (Wx (cU _ _)) d) (aU (Wx (cU _ _)) e)
    rw [show ((t+1:Nat):Int)=(t:Int)+1 by omega] at c
    refine ⟨g,c,f,?_,j⟩
    rw [i,bF,cE,← Nat.gcd_mul_left]
    congr 2 <;> omega
   ·rw [if_neg (dF hye)]
    exact a (.inr (by omega))
  ·rw [if_neg (dF hxe),Zm4,if_neg (by decide)]
   exact a (.inl (by omega))
end
theorem Z9q {N M:Nat} {a b:List Int} (ha:Zn a) (hb:Zn b) (hla:a.length≤M) (hlb:b.length≤M) (hN:100 * M+64<N) (hM:M<1066000000100):∃ g,Zqx N a b=some g∧Zn g∧Zc g=dE (Zc a) (Zc b)∧g.length≤33 * M:=by
 have i:=Yq ha
 have j:=Yq hb
 rw [Zqx,Th ha (by omega) (by omega),oB,Th hb (by omega) (by omega),oB]
 by_cases h1:Zc a=0
 ·rw [h1,Vm,if_pos (by decide),Nat.gcd_zero_left]
  exact ⟨_,rfl,Xf _,Xc _,by omega⟩
 ·have p1:=Tt h1
  rw [if_neg (dF (by omega))]
  by_cases h2:Zc b=0
  ·rw [h2,Vm,if_pos (by decide),kI]
   exact ⟨_,rfl,Xf _,Xc _,by omega⟩
  ·have p2:=Tt h2
   have k:=Zi7 (x:=Zc a) (by omega)
   rw [if_neg (dF (by omega))]
   obtain ⟨g,c,d,e,f⟩:=Zz6 hN hM N (Zc a) (Zc b) 0 h1 h2 (by omega) (by omega) (by omega) (by omega)
   exact ⟨g,c,d,by rw [e];simp,f⟩
def Znf:Option R2:=
  some [1]
theorem Z4l {col:Ze} {w0:World} {r:R2} (c1:Nat) (hm:Znf=some r):
    Calls prog 176 #[] w0 (fun e w'=>∃ (col':Ze) (ra1:Option Addr) (rc2:Nat),e= .returned ((.slice ra1 r.length rc2))∧Zh col w0 col' w'∧Zb (Za.int .u32) 95 c1 col' w' ra1 rc2 r):=by
 refine Xl 0 (m:=2) func176 rfl rfl rfl rfl rfl ?_;rw [Znf.eq_1] at hm;have aa:=St.start col w0;refine go ?_;refine V7 (col:=(Zk col)) [1] 1 ?_;intro ad ae af ab ac;refine go ?_;cases hm;replace aa:=aa.grow ab;exact ⟨rfl,_,_,1,rfl,aa.fin (cm [(1,c1)]),aa.fo ac⟩
def Zh7 (N:Nat) (ab:R1):Option R2:=
  (V8 N ab.2).bind fun aa=>if (decide ((aa.length:Int)=0))=true then ((Znf).bind fun ac=>some ac) else (some aa)
theorem Zuc {N ad ae:Nat} {af ag:Option Addr} {col:Ze} {w0:World} {ab:R1} {r:R2} (c1:Nat) (hm:Zh7 N ab=some r) (aq:Sl (Za.int .u32) col w0 af ad ab.1.2) (ac:Sl (Za.int .u32) col w0 ag ae ab.2):
    Calls prog 124 #[(.agg #[.bool ab.1.1,.slice af ab.1.2.length ad,.slice ag ab.2.length ae])] w0 (fun e w'=>∃ (col':Ze) (ra1:Option Addr) (rc2:Nat),e= .returned ((.slice ra1 r.length rc2))∧Zh col w0 col' w'∧Zb (Za.int .u32) 95 c1 col' w' ra1 rc2 r):=by
 refine Xl 2 (m:=12) func124 rfl rfl rfl rfl rfl ?_;rw [Zh7.eq_1] at hm;have aa:=St.start col w0;refine go ?_;refine Xs (col:=(Zk col)) 1 rfl ?_;intro ar au av ah ai;refine go ?_;refine Xk ai ?_;obtain ⟨aw,aj,hm⟩:=bZ hm;replace ac:=ac.keep (Zi.start col w0);replace aa:=aa.grow ah;refine Zj (Zek 2 aj (ac.ks aa)) ?_;rintro _ ax ⟨ak,ay,az,rfl,al,am⟩;refine ⟨_,rfl,go ?_⟩;replace aa:=aa.grow al;refine Zq hm (fun hb hm=>go ?_) fun hb hm=>go ?_
 ·obtain ⟨a0,an,hm⟩:=bZ hm;refine lc rfl rfl (Zip call176) (Z4l (col:=ak) 3 an:) ?_;rintro _ a1 ⟨a2,a3,a4,rfl,ao,ap⟩;refine ⟨_,rfl,go ?_⟩;cases hm;replace aa:=aa.grow ao;exact ⟨rfl,_,_,_,rfl,aa.fin (cm [(3,c1)]),aa.fo ap⟩
 cases hm;exact ⟨rfl,_,_,_,rfl,aa.fin (cm [(2,c1)]),aa.fo am⟩
def Zh8 (aa:List Int):Option R5:=
  some (false,aa)
theorem Zud {ac:Nat} {a0:Option Addr} {col:Ze} {w0:World} {ab:R2} {r:R5} (hm:Zh8 ab=some r) (h0:Sl (Za.int .u32) col w0 a0 ac ab):
    Calls prog 123 #[.slice a0 ab.length ac] w0 (fun e w'=>∃ (col':Ze) (ra1:Option Addr) (rc2:Nat),e= .returned ((.agg #[.bool r.1,.slice ra1 r.2.length rc2]))∧Zh col w0 col' w'∧Sl (Za.int .u32) col' w' ra1 rc2 r.2):=by
 refine Wq (m:=5) func123 rfl rfl rfl ?_;rw [Zh8.eq_1] at hm;have aa:=St.start col w0;refine go ?_;refine Xr (col:=(Zk col)) #[.bool false,.slice none (([]:List Int).length) 0] 1 zeroValue37 ?_;intro ai aj ak ad ae;refine go ?_;refine lV (.agg #[.bool false,.slice a0 ab.length ac]) (Wy (l:=[_,_]) (qs:=[(0,1),(1,1)]) underlying37 zeroValue37 ⟨rfl,sizeOf4,rfl,sizeOf35,trivial⟩ rfl)<|Z5 ae ?_;intro al af ag ah;refine go ?_;cases hm;replace h0:=h0.keep (Zi.start col w0);replace aa:=(aa.grow ad).kp af ag;exact ⟨rfl,_,ra ah.atN,_,_,_,rfl,aa.fin (cm []),aa.fs (h0.ks aa)⟩
def Zh2 (aa:Bool) (ab:List Int):Option R5:=
  some (aa,ab)
def Qp (N:Nat) (ab:Bool) (ac:List Int):Option R5:=
  (V8 N ac).bind fun aa=>if ab=true then (Zh2 (decide (0<(aa.length:Int))) aa) else (Zh2 false aa)
theorem Zgi {N ao:Nat} {a1:Option Addr} {col:Ze} {w0:World} {ap:Bool} {ah:R2} {r:R5} (c1:Nat) (hm:Qp N ap ah=some r) (h1:Sl (Za.int .u32) col w0 a1 ao ah):
    Calls prog 174 #[.bool ap,.slice a1 ah.length ao] w0 (fun e w'=>∃ (col':Ze) (ra1:Option Addr) (rc2:Nat),e= .returned ((.agg #[.bool r.1,.slice ra1 r.2.length rc2]))∧Zh col w0 col' w'∧Zb (Za.int .u32) 95 c1 col' w' ra1 rc2 r.2):=by
 refine Wq (m:=16) func174 rfl rfl rfl ?_;rw [Qp.eq_1] at hm;have aa:=St.start col w0;refine go ?_;refine Xr (col:=(Zk col)) #[.bool false,.slice none (([]:List Int).length) 0] 1 zeroValue37 ?_;intro ax a4 a5 ay ac;refine go ?_;obtain ⟨ad,az,hm⟩:=bZ hm;replace h1:=h1.keep (Zi.start col w0);replace aa:=aa.grow ay;refine Zj (Zek 2 az (h1.ks aa)) ?_;rintro _ a6 ⟨a7,aq,ar,rfl,au,ab⟩;refine ⟨_,rfl,?_⟩;refine Zmn rfl<|Zl<|Z0 ?_;replace ac:=ac.gr au;replace aa:=aa.grow au;refine Wp.cutK [4,1000000] (fun f ae=>∃ af ai aj ak ag,Zh2 ai ag=some r∧St w0 (Zk col) af ae∧Zb (Za.int .u32) 95 3 af ae aj ak ag∧Zf 37 1 af ae ax #[.bool ai,.slice aj ag.length ak]) ?_ ?_
 ·intro f ae hJ;obtain ⟨af,ai,aj,ak,ag,hm,aa,a0,ac⟩:=hJ;rw [Zh2.eq_1] at hm;refine Vv ?_;cases hm;exact ⟨rfl,_,ra ac.atN,_,_,_,rfl,aa.fin (cm [(3,c1)]),aa.fo a0⟩
 refine go ?_;refine Yt hm (fun al hm=>go ?_) fun al hm=>go ?_
 ·refine lV (.bool (decide (0<(ad.length:Int)))) (Yf (congrArg Value.bool al) rfl)<|Y2 rfl<|lV (.agg #[.bool (decide (0<(ad.length:Int))),.slice aq ad.length ar]) (Wy (l:=[_,_]) (qs:=[(0,1),(1,1)]) underlying37 zeroValue37 ⟨rfl,sizeOf4,rfl,sizeOf35,trivial⟩ rfl)<|Z5 ac ?_;intro a8 av a2 am;refine Zl ?_;replace ab:=ab.kp av;replace ab:=ab.recolSelf 3 (by decide);replace am:=am.recol 2 3 (by decide);replace aa:=aa.kp av a2;replace aa:=aa.recol 2 3 (by decide) (by decide);exact ⟨rfl,_,_,_,_,_,hm,aa,ab,am⟩
 refine lV (.bool false) (X8 (congrArg Value.bool al) rfl)<|Y2 rfl<|lV (.agg #[.bool false,.slice aq ad.length ar]) (Wy (l:=[_,_]) (qs:=[(0,1),(1,1)]) underlying37 zeroValue37 ⟨rfl,sizeOf4,rfl,sizeOf35,trivial⟩ rfl)<|Z5 ac ?_;intro a9 aw a3 an;refine Zl ?_;replace ab:=ab.kp aw;replace ab:=ab.recolSelf 3 (by decide);replace an:=an.recol 2 3 (by decide);replace aa:=aa.kp aw a3;replace aa:=aa.recol 2 3 (by decide) (by decide);exact ⟨rfl,_,_,_,_,_,hm,aa,ab,an⟩

end Go.Proofs.YtkhnlgdenkikoaaGreat
