/-
  What functions of the program compute, as plain Lean functions (m_..), and proofs that they compute it (c_..). Printed by a program of the author; no conditions.
-/
import Derived.Test.YthclpfhncgpnmaaGreatJointAllBFloat
import Derived.Test.YthclpfhncgpnmaaGreatProg
import Derived.Test.YthclpfhncgpnmaaGreatJointAllBBrief
import Derived.Test.YthclpfhncgpnmaaGreatJointAllF1
set_option linter.unusedVariables false
set_option maxRecDepth 100000
set_option maxHeartbeats 2000000
namespace Go.Proofs.YthclpfhncgpnmaaGreat
open Go Go.RowKit
open List renaming drop_eq_nil_iff→aK,mem_cons_self→aT,mem_cons_of_mem→aP,replicate→aI,mem_cons→aM,not_mem_nil→aO,length_take_of_le→bG,drop_eq_getElem_cons→aL,drop_eq_nil_of_le→aF,all_cons→cP,getElem_mem→aD,drop_zero→aX,take_succ_eq_append_getElem→cL,nodup_append→cD,nodup_cons→cH,mem_singleton→bH,take_of_length_le→bJ,any_cons→dL,length→fX,getD_eq_getElem?_getD→aE,getElem?_eq_getElem→aG,mem_range'→iR,range→cS,mem_map→cE,mem_range→fE,mem_append→aZ,mem_append_left→gY,getElem?_set→iL,perm_append_singleton→gB,getElem_take→eR,take_set→jE,count_cons→eY,append_assoc→bK,length_replicate→aQ,count_le_length→fF,countP_cons→iO,count_pos_iff→iF,all_eq_true→cX
open Nat renaming lt_of_lt_of_le→aJ,gcd→cJ,le_trans→bA,beq→aC,add_zero→bQ,zero_le→bD,sub_zero→jP
open Int renaming natCast_mul→bT,toNat→aA,tdiv→aU,toNat_natCast→aB,le_refl→fU,tmod→bC,toNat_of_nonneg→bE
open Rat renaming mkRat_eq_div→dJ,intCast_mul→gL,inv_eq_of_mul_eq_one→eW
open Go.IntKind (i8 i16 i32 i64 u8 u16 u32 u64)
open Go.Proofs.Tryz

def Zj9 (N:Nat) (aa:R5) (ab:R5):Option R5:=
  if (decide (aa.1=ab.1))=true then ((Zjc N aa.2 ab.2).bind fun ag=>(Qh N aa.1 ag).bind fun ac=>some (ac.1,ac.2)) else ((Zg3 N aa.2 ab.2).bind fun ad=>if ad.2=true then ((Qh N aa.1 ad.1).bind fun ae=>some (ae.1,ae.2)) else ((Zg3 N ab.2 aa.2).bind fun ah=>(Qh N ab.1 ah.1).bind fun af=>some (af.1,af.2)))
theorem Z09 {N a3 a4:Nat} {a5 a6:Option Addr} {col:Zd} {w0:World} {ao ap r:R5} (c1:Nat) (hm:Zj9 N ao ap=some r) (ag:Sl rU col w0 a5 a3 ao.2) (ah:Sl rU col w0 a6 a4 ap.2):
    Calls prog 122 #[(.agg #[.bool ao.1,.slice a5 ao.2.length a3]),(.agg #[.bool ap.1,.slice a6 ap.2.length a4])] w0 (Tk 45 c1 col w0 r):=by
 refine Yw (m:=47) func122 rfl rfl rfl ?_;rw [Zj9.eq_1] at hm;have aa:=St.start col w0;refine go ?_;refine Xf (col:=(Zg col)) 1 rfl ?_;intro b3 b4 bf bg ad;refine Xf (col:=bf) 2 rfl ?_;intro b5 b6 bh a7 ac;refine Xt (col:=bh) #[.bool false,(nI)] 3 zeroValue40 ?_;intro b7 b8 ai aw ab;refine go ?_;refine Z9 ⟨_,_,rfl⟩ ?_;replace ad:=(ad.gr a7).gr aw;refine lW ((ad.atN).nth (q:=0) rfl)<|Z9 ⟨_,_,rfl⟩ ?_;replace ac:=ac.gr aw;refine lW ((ac.atN).nth (q:=0) rfl)<|go ?_;replace ag:=ag.k0;replace ah:=ah.k0;replace aa:=((aa.grow bg).grow a7).grow aw;refine Zl hm (fun hb hm=>?_) fun hb hm=>go ?_
 ·refine Zw<|Wc (col:=ai) [(0,1),(1,0),(2,1),(3,0),(4,1),(5,0),(6,3),(7,3),(8,2)] (by kernel_rfl) (by kernel_rfl)<|xF ⟨_,_,rfl⟩ ?_;refine xW (fun _ hC=>((ad.atN).nth (q:=0) rfl).gr (hC.bl ai)) ?_;refine xF ⟨_,_,rfl⟩ ?_;refine xW (fun _ hC=>((ad.atN).nth (q:=1) rfl).gr (hC.bl ai)) ?_;refine xF ⟨_,_,rfl⟩ ?_;refine xW (fun _ hC=>((ac.atN).nth (q:=1) rfl).gr (hC.bl ai)) ?_;refine xe rfl rfl ?_;intro b9 hC0;have hC:=hC0.bl ai;obtain ⟨ca,bi,hm⟩:=bZ hm;replace aa:=aa.grow hC;refine Zh (Zzu 4 bi (ag.ks aa) (ah.ks aa)) fun _ cb ⟨aj,cc,cd,e0,ax,ay⟩=>⟨_,e0,?_⟩;refine Zj<|Xp aj hC0 ax<|xe rfl rfl ?_;intro bj hC0;replace ab:=(ab.gr hC).gr ax;have hC:=hC0.bl aj;obtain ⟨ce,bk,hm⟩:=bZ hm;refine Zh (Zdj 5 bk ((ay.gr hC).toSlF (Zm.int .u32))) fun _ cf ⟨bm,cg,ch,e0,af,ae⟩=>⟨_,e0,?_⟩;replace ae:=ae.thaw (Z8 .u32) af ((Fz.refl (col:=aj)).froz 4);replace af:=af.thawR (col:=aj);generalize Xb bj.heap.size aj bm=aq at *;refine Zj<|Xp aq hC0 af<|xe rfl rfl ?_;intro ci hC0;replace aa:=((aa.grow ax).grow hC).grow af;replace ab:=(ab.gr hC).gr af;have hC:=hC0.bl aq;replace ab:=ab.gr hC;refine Xg ab ?_;intro cj a8 bn az;refine Zj<|xk aq<|Y4 ?_;replace ae:=(ae.gr hC).kp a8;replace aa:=(aa.grow hC).kp a8 bn;intro ck hC;replace hC:=hC.bl aq;refine Y1 ?_;cases hm;replace aa:=aa.grow hC;exact ⟨rfl,_,ra (az.gr hC).atN,_,_,_,rfl,aa.fin (cm [(5,c1)]),aa.fo (ae.gr hC)⟩
 refine Zy ad<|Zy ac ?_;obtain ⟨ar,bo,hm⟩:=bZ hm;refine Zh (Zqq 6 bo (ag.ks aa) (ah.ks aa)) fun _ bp ⟨a0,a9,ba,e0,au,bq⟩=>⟨_,e0,?_⟩;refine lM (.tuple #[.slice a9 ar.1.length ba,.bool ar.2])<|lV (.slice a9 ar.1.length ba) (X6 rfl rfl)<|lV (.bool ar.2) (X6 rfl rfl)<|go ?_;replace ad:=ad.gr au;replace ac:=ac.gr au;replace ab:=ab.gr au;replace aa:=aa.grow au;refine Zl hm (fun hb hm=>go ?_) fun hb hm=>go ?_
 ·refine Zy ad<|Y8 rfl ?_;obtain ⟨cl,br,hm⟩:=bZ hm;refine Zh (Zdj 7 br (bq.toSlF (Zm.int .u32))) fun _ cn ⟨bs,co,cp,e0,ak,al⟩=>⟨_,e0,?_⟩;replace al:=al.thaw (Z8 .u32) ak ((Fz.refl (col:=a0)).froz 6);replace ak:=ak.thawR (col:=a0);generalize Xb bp.heap.size a0 bs=cq at *;replace ab:=ab.gr ak;refine Xg ab ?_;intro cr bb bt bu;refine go ?_;cases hm;replace aa:=(aa.grow ak).kp bb bt;exact ⟨rfl,_,ra bu.atN,_,_,_,rfl,aa.fin (cm [(7,c1)]),aa.fo (al.kp bb)⟩
 refine Zy ac<|Zy ad ?_;obtain ⟨av,bv,hm⟩:=bZ hm;refine Zh (Zqq 8 bv (ah.ks aa) (ag.ks aa)) fun _ bw ⟨a1,bc,bd,e0,a2,bx⟩=>⟨_,e0,?_⟩;refine lM (.tuple #[.slice bc av.1.length bd,.bool av.2])<|lV (.slice bc av.1.length bd) (X6 rfl rfl)<|lV (.bool av.2) (X6 rfl rfl)<|go ?_;refine Z9 ⟨_,_,rfl⟩ ?_;refine lW (((ac.gr a2).atN).nth (q:=0) rfl)<|Y8 rfl ?_;obtain ⟨cs,bz,hm⟩:=bZ hm;refine Zh (Zdj 9 bz (bx.toSlF (Zm.int .u32))) fun _ ct ⟨b0,cu,cv,e0,am,an⟩=>⟨_,e0,?_⟩;replace an:=an.thaw (Z8 .u32) am ((Fz.refl (col:=a1)).froz 8);replace am:=am.thawR (col:=a1);generalize Xb bw.heap.size a1 b0=cw at *;refine Xg ((ab.gr a2).gr am) ?_;intro cx be b1 b2;refine go ?_;cases hm;replace aa:=((aa.grow a2).grow am).kp be b1;exact ⟨rfl,_,ra b2.atN,_,_,_,rfl,aa.fin (cm [(9,c1)]),aa.fo (an.kp be)⟩
def Zkc (N:Nat) (aa:R5):Option R5:=
  (Qh N aa.1 aa.2).bind fun ab=>some (ab.1,ab.2)
theorem Z1c {N ag:Nat} {ah:Option Addr} {col:Zd} {w0:World} {ab r:R5} (c1:Nat) (hm:Zkc N ab=some r) (ad:Sl rU col w0 ah ag ab.2):
    Calls prog 158 #[(.agg #[.bool ab.1,.slice ah ab.2.length ag])] w0 (Tk 45 c1 col w0 r):=by
 refine Yw (m:=8) func158 rfl rfl rfl ?_;rw [Zkc.eq_1] at hm;have aa:=St.start col w0;refine go ?_;refine Xf (col:=(Zg col)) 1 rfl ?_;intro aq ar al am ac;refine Xt (col:=al) #[.bool false,(nI)] 2 zeroValue40 ?_;intro au av aw ai ae;refine go ?_;refine Z9 ⟨_,_,rfl⟩ ?_;replace ac:=ac.gr ai;refine lW ((ac.atN).nth (q:=0) rfl)<|Zy ac ?_;obtain ⟨ax,an,hm⟩:=bZ hm;replace aa:=(aa.grow am).grow ai;refine Zh (Zdj 3 an (ad.k0.ks aa)) fun _ ay ⟨az,a0,a1,e0,aj,af⟩=>⟨_,e0,?_⟩;refine Xg (ae.gr aj) ?_;intro a2 ak ao ap;refine go ?_;cases hm;replace aa:=(aa.grow aj).kp ak ao;exact ⟨rfl,_,ra ap.atN,_,_,_,rfl,aa.fin (cm [(3,c1)]),aa.fo (af.kp ak)⟩
def Zdr (N:Nat) (ae:Bool) (aa ab:List Int):Option R1:=
  (Zje N aa ab).bind fun ac=>(Zd7 N aa ac).bind fun af=>(Zd7 N ab ac).bind fun ag=>(Zkc N (ae,af.1)).bind fun ad=>some ((ad.1,ad.2),ag.1)
theorem Znt {N ay az:Nat} {a1 a2:Option Addr} {col:Zd} {w0:World} {ak:Bool} {al am:R2} {r:R1} (c1 c2:Nat) (hm:Zdr N ak al am=some r) (h1:Sl rU col w0 a1 ay al) (h2:Sl rU col w0 a2 az am):
    Calls prog 119 #[.bool ak,.slice a1 al.length ay,.slice a2 am.length az] w0 (Sm 45 c1 c2 col w0 r):=by
 refine Yw (m:=37) func119 rfl rfl rfl ?_;rw [Zdr.eq_1] at hm;have aa:=St.start col w0;refine go ?_;refine Xt (col:=(Zg col)) #[.bool false,(nI),(nI)] 1 zeroValue42 ?_;intro bo bp bq a8 an;refine go ?_;obtain ⟨br,a9,hm⟩:=bZ hm;replace h1:=h1.k0;replace h2:=h2.k0;replace aa:=aa.grow a8;refine Zh (Zzw 2 a9 (h1.ks aa) (h2.ks aa)) ?_;rintro _ ba ⟨ao,bs,bt,rfl,a0,aj⟩;refine ⟨_,rfl,go ?_⟩;obtain ⟨ab,bb,hm⟩:=bZ hm;replace aa:=aa.grow a0;refine Zh (Znw 3 4 bb ((h1.ks aa).froz 2) (aj.toSlF (Zm.int .u32))) fun _ bc ⟨bd,ap,aq,a3,a4,e0,ad,ag,bu⟩=>⟨_,e0,?_⟩;replace ag:=ag.thaw (Z8 .u32) ad ((Fz.refl (col:=ao)).froz 2);replace ad:=ad.thawR (col:=ao);generalize Xb ba.heap.size ao bd=ar at *;refine lM (.tuple #[.slice ap ab.1.length aq,.slice a3 ab.2.1.length a4,.int .i64 ab.2.2])<|lV (.slice ap ab.1.length aq) (X6 rfl rfl)<|lV (.slice a3 ab.2.1.length a4) (X6 rfl rfl)<|lV (.int .i64 ab.2.2) (X6 rfl rfl)<|go ?_;obtain ⟨ac,be,hm⟩:=bZ hm;replace aa:=aa.grow ad;refine Zh (Znw 5 6 be ((h2.ks aa).froz 2) ((aj.gr ad).toSlF (Zm.int .u32))) fun _ bf ⟨bg,au,av,a5,a6,e0,ae,ah,bv⟩=>⟨_,e0,?_⟩;replace ah:=ah.thaw (Z8 .u32) ae ((Fz.refl (col:=ar)).froz 2);replace ae:=ae.thawR (col:=ar);generalize Xb bc.heap.size ar bg=aw at *;refine lM (.tuple #[.slice au ac.1.length av,.slice a5 ac.2.1.length a6,.int .i64 ac.2.2])<|lV (.slice au ac.1.length av) (X6 rfl rfl)<|lV (.slice a5 ac.2.1.length a6) (X6 rfl rfl)<|lV (.int .i64 ac.2.2) (X6 rfl rfl)<|go ?_;refine lV (.agg #[.bool ak,.slice ap ab.1.length aq]) (Wz (l:=[_,_]) (qs:=[(0,1),(1,1)]) underlying40 zeroValue40 ⟨rfl,sizeOf4,rfl,sizeOf38,trivial⟩ rfl) ?_;obtain ⟨a7,bh,hm⟩:=bZ hm;refine Zh (Z1c 7 bh ((ag.gr ae).toSlF (Zm.int .u32))) fun _ bw ⟨bi,bj,bk,e0,af,ai⟩=>⟨_,e0,?_⟩;replace ai:=ai.thaw (Z8 .u32) af ((Fz.refl (col:=aw)).froz 3);replace af:=af.thawR (col:=aw);generalize Xb bf.heap.size aw bi=bx at *
 refine Y8 rfl<|lV (.agg #[.bool a7.1,.slice bj a7.2.length bk,.slice au ac.1.length av]) (Wz (l:=[_,_]) (qs:=[(0,2),(2,1)]) underlying42 zeroValue42 ⟨rfl,sizeOf40,rfl,sizeOf38,trivial⟩ rfl) ?_;refine Xg ((((an.gr a0).gr ad).gr ae).gr af) ?_;intro bz ax bm bn;refine go ?_;cases hm;replace aa:=((aa.grow ae).grow af).kp ax bm;exact ⟨rfl,_,ra bn.atN,_,_,_,_,_,rfl,aa.fin (cm [(7,c1),(5,c2)]),aa.fo (ai.kp ax),aa.fo ((ah.gr af).kp ax)⟩
def Zdq (N:Nat) (aa:R1) (ab:R1):Option R1:=
  (T5 N ((ab.1.1,ab.1.2),ab.2)).bind fun ag=>(Zb3 N (aa.1.1,aa.1.2) ag).bind fun ad=>(T5 N ((aa.1.1,aa.1.2),aa.2)).bind fun ah=>(Zb3 N (ab.1.1,ab.1.2) ah).bind fun ae=>(Zj9 N (ad.1,ad.2) (ae.1,ae.2)).bind fun af=>(T5 N ((aa.1.1,aa.1.2),aa.2)).bind fun ai=>(T5 N ((ab.1.1,ab.1.2),ab.2)).bind fun aj=>(Zax N ai aj).bind fun ak=>(Zdr N af.1 af.2 ak).bind fun ac=>some ((ac.1.1,ac.1.2),ac.2)
theorem Zqk {N bo bz bp b0:Nat} {bq b1 br b2:Option Addr} {col:Zd} {w0:World} {aj ak r:R1} (c1 c2:Nat) (hm:Zdq N aj ak=some r) (ba:Sl rU col w0 bq bo aj.1.2) (bs:Sl rU col w0 b1 bz aj.2) (bb:Sl rU col w0 br bp ak.1.2) (bt:Sl rU col w0 b2 b0 ak.2):
    Calls prog 72 #[(.agg #[.bool aj.1.1,.slice bq aj.1.2.length bo,.slice b1 aj.2.length bz]),(.agg #[.bool ak.1.1,.slice br ak.1.2.length bp,.slice b2 ak.2.length b0])] w0 (Sm 45 c1 c2 col w0 r):=by
 refine Yw (m:=27) func72 rfl rfl rfl ?_;rw [Zdq.eq_1] at hm;have aa:=St.start col w0;refine go ?_;refine Xf (col:=(Zg col)) 1 rfl ?_;intro cd c9 ce cf ae;refine Xf (col:=ce) 2 rfl ?_;intro cg da ch ca af;refine Xt (col:=ch) #[.bool false,(nI),(nI)] 3 zeroValue42 ?_;intro db a4 ay b3 ab;refine go ?_;have bu:=Z1.clip (fun _=>false) ay a4;refine Zp6 (col:=ay) [(0,1),(1,0),(2,0),(5,1),(6,0),(7,0),(3,3),(4,3),(8,3),(9,3),(10,3),(11,4),(12,2)] (by kernel_rfl) (by kernel_rfl) ⟨fun h=>absurd h (by decide),fun h=>absurd h (by decide),fun h=>absurd h (by decide),fun h=>absurd h (by decide),fun h=>absurd h (by decide),fun h=>absurd h (by decide),fun h=>absurd h (by decide),fun h=>absurd h (by decide),fun h=>absurd h (by decide),fun h=>absurd h (by decide),fun h=>absurd h (by decide),fun _=>⟨_,_,_,rfl,Zf5 zeroValue40⟩,fun h=>absurd h (by decide),trivial⟩<|Zni (v:=(.pointer ((some (⟨cd,0,none⟩:Addr)).map (·.add 0)))) rfl rfl (fun _=>Zc7 (sz:=2) (off:=0) underlying42 rfl sizeOf40 (by decide) rfl rfl ⟨_,_,rfl⟩) ?_;replace ae:=((ae.gr ca).gr b3).kpp bu;refine Zdg (v:=(.agg #[.bool aj.1.1,.slice bq aj.1.2.length bo])) rfl rfl (fun _ hC=>Yq isAgg40 sizeOf40 rfl rfl (((ae.atN).part 0 2 _ rfl).gr (hC.bl (Zo a4 ay)))) ?_;replace af:=(af.gr b3).kpp bu;refine Zdg (v:=(.agg #[.bool ak.1.1,.slice br ak.1.2.length bp,.slice b2 ak.2.length b0])) rfl rfl (fun _ hC=>Yq isAgg42 sizeOf42 rfl rfl (af.atN.gr (hC.bl (Zo a4 ay)))) ?_;refine Zni (v:=(.pointer ((some (⟨cg,0,none⟩:Addr)).map (·.add 0)))) rfl rfl (fun _=>Zc7 (sz:=2) (off:=0) underlying42 rfl sizeOf40 (by decide) rfl rfl ⟨_,_,rfl⟩) ?_;refine Zdg (v:=(.agg #[.bool ak.1.1,.slice br ak.1.2.length bp])) rfl rfl (fun _ hC=>Yq isAgg40 sizeOf40 rfl rfl (((af.atN).part 0 2 _ rfl).gr (hC.bl (Zo a4 ay)))) ?_;refine Zdg (v:=(.agg #[.bool aj.1.1,.slice bq aj.1.2.length bo,.slice b1 aj.2.length bz])) rfl rfl (fun _ hC=>Yq isAgg42 sizeOf42 rfl rfl (ae.atN.gr (hC.bl (Zo a4 ay)))) ?_;refine U9 rfl rfl ?_;intro dc hC0;have hC:=hC0.bl (Zo a4 ay);obtain ⟨dd,ci,hm⟩:=bZ hm;replace bb:=bb.k0;replace bt:=bt.k0;replace aa:=((((aa.grow cf).grow ca).grow b3).kpp bu).grow hC;refine Zh (Zbp 4 ci (bb.ks aa) (bt.ks aa)) fun _ ao ⟨au,de,df,e0,az,b4⟩=>⟨_,e0,?_⟩
 refine Zj ?_;refine ⟨fun w'=>Zk (Zo ao au) ao (Zo ao au) w',fun g=>(Zo ao au) g=497,Zk.refl _ _,Up,fun _=>⟨fun _ h=>Ts hC0 az h,fun b hb=>az.below.block b hb,fun g x1 x2=>S0 az g x1 (by first | exact x2 | (simp only [Yo,x2];rfl) | (simp only [Yo,Xr,x2];rfl))⟩,?_⟩;have bc:=Z1.clip (fun _=>false) au ao;refine U9 rfl rfl ?_;intro cj hC0;replace ab:=(((ab.kpp bu).gr hC).gr az).kpp bc;replace ae:=((ae.gr hC).gr az).kpp bc;replace af:=((af.gr hC).gr az).kpp bc;have hC:=hC0.bl (Zo ao au);obtain ⟨dg,ck,hm⟩:=bZ hm;replace ba:=ba.k0;replace aa:=((aa.grow az).kpp bc).grow hC;refine Zh (Zlc 5 ck ((ba.ks aa).froz 4) (((b4.kpp bc).gr hC).toSlF (Zm.int .u32))) fun _ a5 ⟨cl,dh,di,e0,am,ap⟩=>⟨_,e0,?_⟩;replace bs:=bs.k0;replace ap:=ap.thaw (Z8 .u32) am ((Fz.refl (col:=(Zo ao au))).froz 4);replace am:=am.thawR (col:=(Zo ao au));generalize Xb cj.heap.size (Zo ao au) cl=bd at *;refine Zj ?_;refine ⟨fun w'=>Zk (Zo a5 bd) a5 (Zo a5 bd) w',fun g=>(Zo a5 bd) g=497,Zk.refl _ _,Up,fun _=>⟨fun _ h=>Ts hC0 am h,fun b hb=>am.below.block b hb,fun g x1 x2=>S0 am g x1 (by first | exact x2 | (simp only [Yo,x2];rfl) | (simp only [Yo,Xr,x2];rfl))⟩,?_⟩;have be:=Z1.clip (fun _=>false) bd a5;refine U9 rfl rfl ?_;intro dj hC0;replace ae:=((ae.gr hC).gr am).kpp be;replace af:=((af.gr hC).gr am).kpp be;replace ab:=((ab.gr hC).gr am).kpp be;have hC:=hC0.bl (Zo a5 bd);obtain ⟨dk,cn,hm⟩:=bZ hm;replace aa:=((aa.grow am).kpp be).grow hC;refine Zh (Zbp 6 cn (ba.ks aa) (bs.ks aa)) fun _ aq ⟨av,dl,dm,e0,aw,b5⟩=>⟨_,e0,?_⟩;refine Zj ?_;refine ⟨fun w'=>Zk (Zo aq av) aq (Zo aq av) w',fun g=>(Zo aq av) g=497,Zk.refl _ _,Up,fun _=>⟨fun _ h=>Ts hC0 aw h,fun b hb=>aw.below.block b hb,fun g x1 x2=>S0 aw g x1 (by first | exact x2 | (simp only [Yo,x2];rfl) | (simp only [Yo,Xr,x2];rfl))⟩,?_⟩;have a6:=Z1.clip (fun _=>false) av aq;refine U9 rfl rfl ?_;intro co hC0;replace ap:=(((ap.kpp be).gr hC).gr aw).kpp a6;replace ae:=((ae.gr hC).gr aw).kpp a6;replace af:=((af.gr hC).gr aw).kpp a6;replace ab:=((ab.gr hC).gr aw).kpp a6;have hC:=hC0.bl (Zo aq av)
 obtain ⟨dn,cp,hm⟩:=bZ hm;replace aa:=((aa.grow aw).kpp a6).grow hC;refine Zh (Zlc 7 cp ((bb.ks aa).froz 6) (((b5.kpp a6).gr hC).toSlF (Zm.int .u32))) fun _ ar ⟨cq,dp,dq,e0,al,bf⟩=>⟨_,e0,?_⟩;replace bf:=bf.thaw (Z8 .u32) al ((Fz.refl (col:=(Zo aq av))).froz 6);replace al:=al.thawR (col:=(Zo aq av));generalize Xb co.heap.size (Zo aq av) cq=ax at *;refine Zj ?_;refine ⟨fun w'=>Zk (Zo ar ax) ar (Zo ar ax) w',fun g=>(Zo ar ax) g=497,Zk.refl _ _,Up,fun _=>⟨fun _ h=>Ts hC0 al h,fun b hb=>al.below.block b hb,fun g x1 x2=>S0 al g x1 (by first | exact x2 | (simp only [Yo,x2];rfl) | (simp only [Yo,Xr,x2];rfl))⟩,?_⟩;have a7:=Z1.clip (fun _=>false) ax ar;refine U9 rfl rfl ?_;intro cr hC0;replace ap:=((ap.gr hC).gr al).kpp a7;replace ae:=((ae.gr hC).gr al).kpp a7;replace af:=((af.gr hC).gr al).kpp a7;replace ab:=((ab.gr hC).gr al).kpp a7;have hC:=hC0.bl (Zo ar ax);obtain ⟨dr,cs,hm⟩:=bZ hm;refine Zh (Z09 8 cs (((ap.gr hC).toSlF (Zm.int .u32)).froz 7) ((((bf.kpp a7).gr hC).froz 5).toSlF (Zm.int .u32))) fun _ ac ⟨ct,ds,dt,e0,an,ag⟩=>⟨_,e0,?_⟩;replace ag:=ag.thaw (Z8 .u32) an (((Fz.refl (col:=(Zo ar ax))).froz 5).froz 7);replace an:=an.thawR (col:=(Zo ar ax));generalize Xb cr.heap.size (Zo ar ax) ct=ad at *;refine Zj ?_;refine ⟨fun w'=>Zk (Zo ac ad) ac (Zo ac ad) w',fun g=>(Zo ac ad) g=497,Zk.refl _ _,Up,fun _=>⟨fun _ h=>Ts hC0 an h,fun b hb=>an.below.block b hb,fun g x1 x2=>S0 an g x1 (by first | exact x2 | (simp only [Yo,x2];rfl) | (simp only [Yo,Xr,x2];rfl))⟩,?_⟩;have bg:=Z1.clip (fun _=>false) ad ac;refine xaF rfl rfl (Zf5 zeroValue40) ?_;intro ah cu;refine U9 rfl rfl ?_;intro cv ⟨hC0,hZ0⟩;replace aa:=((((aa.grow al).kpp a7).grow hC).grow an).kpp bg;replace ae:=((ae.gr hC).gr an).kpp bg;replace af:=((af.gr hC).gr an).kpp bg;replace ab:=((ab.gr hC).gr an).kpp bg;have hC:=hC0.bl (Zo ac ad);obtain ⟨bh,b6⟩:=Zns (col:=(Zo ac ad)) 9 hZ0 cu;replace b6:Ze 40 9 (Ya ah 9 (Zo ac ad)) cv ah #[.bool false,(nI)]:=b6;refine Xg b6 ?_
 intro ai bi cw bv;refine Zj ?_;refine ⟨fun w'=>Zk (Zo ai (Ya ah 9 (Zo ac ad))) ai (Zo ai (Ya ah 9 (Zo ac ad))) w',fun g=>(Zo ai (Ya ah 9 (Zo ac ad))) g=497,Zk.refl _ _,Up,fun h=>absurd h (by decide),?_⟩;have a8:=Z1.clip (fun _=>false) (Ya ah 9 (Zo ac ad)) ai;refine Zp7 ?_;replace ag:=((((ag.kpp bg).gr hC).kpp bh).kp bi).kpp a8;replace ae:=(((ae.gr hC).kpp bh).kp bi).kpp a8;replace af:=(((af.gr hC).kpp bh).kp bi).kpp a8;replace ab:=(((ab.gr hC).kpp bh).kp bi).kpp a8;replace aa:=(((aa.grow hC).kpp bh).kp bi cw).kpp a8;intro cb hC;replace hC:Zk (Zo ai (Ya ah 9 (Zo ac ad))) ai (Zo ai (Ya ah 9 (Zo ac ad))) cb:=.of_below hC.below;refine Zw<|Wc (col:=(Zo ai (Ya ah 9 (Zo ac ad)))) [(0,1),(1,0),(2,1),(3,0),(4,0),(6,0),(5,3),(7,3),(8,3),(9,3),(10,2)] (by kernel_rfl) (by kernel_rfl)<|xF ⟨_,_,rfl⟩ ?_;replace bv:=(bv.kpp a8).gr hC;refine xW (fun _ hC=>((bv.atN).nth (q:=0) rfl).gr (hC.bl (Zo ai (Ya ah 9 (Zo ac ad))))) ?_;refine xF ⟨_,_,rfl⟩ ?_;refine xW (fun _ hC=>((bv.atN).nth (q:=1) rfl).gr (hC.bl (Zo ai (Ya ah 9 (Zo ac ad))))) ?_;replace ae:=ae.gr hC;refine xv rfl rfl (fun _ hC=>Xh isAgg42 sizeOf42 (ae.gr (hC.bl (Zo ai (Ya ah 9 (Zo ac ad)))))) ?_;replace af:=af.gr hC;refine xv rfl rfl (fun _ hC=>Xh isAgg42 sizeOf42 (af.gr (hC.bl (Zo ai (Ya ah 9 (Zo ac ad)))))) ?_;refine xe rfl rfl ?_;intro cx hC0;replace ag:=ag.gr hC;replace ab:=ab.gr hC;replace aa:=aa.grow hC;have hC:Zk (Zo ai (Ya ah 9 (Zo ac ad))) cb (Zo ai (Ya ah 9 (Zo ac ad))) cx:=.of_below hC0.below;obtain ⟨du,cy,hm⟩:=bZ hm;replace aa:=aa.grow hC;refine Zh (Zbp 10 cy (ba.ks aa) (bs.ks aa)) fun _ dv ⟨cc,dw,dx,e0,bw,bj⟩=>⟨_,e0,?_⟩;refine Zj<|Xp cc hC0 bw<|xe rfl rfl ?_;intro dy hC0;replace ag:=(ag.gr hC).gr bw;replace ab:=(ab.gr hC).gr bw;have hC:=hC0.bl cc;obtain ⟨dz,cz,hm⟩:=bZ hm;replace aa:=(aa.grow bw).grow hC;refine Zh (Zbp 11 cz (bb.ks aa) (bt.ks aa)) fun _ d0 ⟨bk,d1,d2,e0,bm,b7⟩=>⟨_,e0,?_⟩;refine Zj<|Xp bk hC0 bm<|xe rfl rfl ?_;intro c0 hC0;replace ag:=(ag.gr hC).gr bm;replace bj:=(bj.gr hC).gr bm;replace ab:=(ab.gr hC).gr bm;have hC:=hC0.bl bk
 obtain ⟨d3,c3,hm⟩:=bZ hm;refine Zh (Zld 12 c3 (((bj.gr hC).toSlF (Zm.int .u32)).froz 11) (((b7.gr hC).froz 10).toSlF (Zm.int .u32))) fun _ d4 ⟨c4,d5,d6,e0,a0,bn⟩=>⟨_,e0,?_⟩;replace bn:=bn.thaw (Z8 .u32) a0 (((Fz.refl (col:=bk)).froz 10).froz 11);replace a0:=a0.thawR (col:=bk);generalize Xb c0.heap.size bk c4=a9 at *;refine Zj<|Xp a9 hC0 a0<|xe rfl rfl ?_;intro c5 hC0;replace aa:=((aa.grow bm).grow hC).grow a0;replace ag:=(ag.gr hC).gr a0;replace ab:=(ab.gr hC).gr a0;have hC:=hC0.bl a9;obtain ⟨d7,c6,hm⟩:=bZ hm;refine Zh (Znt 13 14 c6 (((ag.gr hC).toSlF (Zm.int .u32)).froz 12) (((bn.gr hC).froz 8).toSlF (Zm.int .u32))) fun _ d8 ⟨c7,d9,ea,eb,ec,e0,a1,a2,a3⟩=>⟨_,e0,?_⟩;replace a2:=a2.thaw (Z8 .u32) a1 (((Fz.refl (col:=a9)).froz 8).froz 12);replace a3:=a3.thaw (Z8 .u32) a1 (((Fz.refl (col:=a9)).froz 8).froz 12);replace a1:=a1.thawR (col:=a9);generalize Xb c5.heap.size a9 c7=bx at *;refine Zj<|Xp bx hC0 a1<|xe rfl rfl ?_;intro ed hC0;replace ab:=(ab.gr hC).gr a1;replace aa:=(aa.grow hC).grow a1;have hC:=hC0.bl bx;refine Xg (ab.gr hC) ?_;intro ee b8 c8 b9;refine Zj<|xk bx<|Y4 ?_;replace a2:=(a2.gr hC).kp b8;replace a3:=(a3.gr hC).kp b8;replace aa:=(aa.grow hC).kp b8 c8;intro ef hC;replace hC:=hC.bl bx;refine Y1 ?_;cases hm;replace aa:=aa.grow hC;exact ⟨rfl,_,ra (b9.gr hC).atN,_,_,_,_,_,rfl,aa.fin (cm [(13,c1),(14,c2)]),aa.fo (a2.gr hC),aa.fo (a3.gr hC)⟩
def Zgk (N:Nat) (aa:R1) (ab:R1):Option R1:=
  (Zax N aa.1.2 ab.1.2).bind fun ad=>(T5 N ((aa.1.1,aa.1.2),aa.2)).bind fun ae=>(T5 N ((ab.1.1,ab.1.2),ab.2)).bind fun af=>(Zax N ae af).bind fun ag=>(Zdr N (!decide (aa.1.1=ab.1.1)) ad ag).bind fun ac=>some ((ac.1.1,ac.1.2),ac.2)
theorem Zy8 {N a4 a5 a6 a7:Nat} {a8 a9 ba bb:Option Addr} {col:Zd} {w0:World} {ai aj r:R1} (c1 c2:Nat) (hm:Zgk N ai aj=some r) (ar:Sl rU col w0 a8 a4 ai.1.2) (ax:Sl rU col w0 a9 a5 ai.2) (au:Sl rU col w0 ba a6 aj.1.2) (ay:Sl rU col w0 bb a7 aj.2):
    Calls prog 70 #[(.agg #[.bool ai.1.1,.slice a8 ai.1.2.length a4,.slice a9 ai.2.length a5]),(.agg #[.bool aj.1.1,.slice ba aj.1.2.length a6,.slice bb aj.2.length a7])] w0 (Sm 45 c1 c2 col w0 r):=by
 refine Yw (m:=25) func70 rfl rfl rfl ?_;rw [Zgk.eq_1] at hm;have aa:=St.start col w0;refine go ?_;refine Xf (col:=(Zg col)) 1 rfl ?_;intro bt bu bf bg al;refine Xf (col:=bf) 2 rfl ?_;intro bv bw bh bc am;refine Xt (col:=bh) #[.bool false,(nI),(nI)] 3 zeroValue42 ?_;intro bx bz ad az ab;refine go ?_;refine Wc (col:=ad) [(0,1),(1,1),(2,0),(3,1),(4,1),(5,0),(6,1),(7,1),(8,1),(9,0),(10,1),(11,1),(12,0),(14,0),(16,0),(13,3),(15,3),(17,3),(18,3),(19,3),(20,2)] (by kernel_rfl) (by kernel_rfl)<|xF ⟨_,_,rfl⟩ ?_;refine xF (Wg ⟨_,_,rfl⟩) ?_;replace al:=(al.gr bc).gr az;refine xW (fun _ hC=>((((al.atN).part 0 2 _ rfl)).nth (q:=0) rfl).gr (hC.bl ad)) ?_;refine xF ⟨_,_,rfl⟩ ?_;refine xF (Wg ⟨_,_,rfl⟩) ?_;replace am:=am.gr az;refine xW (fun _ hC=>((((am.atN).part 0 2 _ rfl)).nth (q:=0) rfl).gr (hC.bl ad)) ?_;refine xu rfl rfl (fun _=>Zkm _ _ underlying4 rfl rfl) ?_;refine xF ⟨_,_,rfl⟩ ?_;refine xF (Wg ⟨_,_,rfl⟩) ?_;refine xW (fun _ hC=>((((al.atN).part 0 2 _ rfl)).nth (q:=1) rfl).gr (hC.bl ad)) ?_;refine xF ⟨_,_,rfl⟩ ?_;refine xF (Wg ⟨_,_,rfl⟩) ?_;refine xW (fun _ hC=>((((am.atN).part 0 2 _ rfl)).nth (q:=1) rfl).gr (hC.bl ad)) ?_;refine xv rfl rfl (fun _ hC=>Xh isAgg42 sizeOf42 (al.gr (hC.bl ad))) ?_;refine xv rfl rfl (fun _ hC=>Xh isAgg42 sizeOf42 (am.gr (hC.bl ad))) ?_;refine xe rfl rfl ?_;intro b0 hC0;have hC:=hC0.bl ad;obtain ⟨b1,bi,hm⟩:=bZ hm;replace ar:=ar.k0;replace au:=au.k0;replace aa:=(((aa.grow bg).grow bc).grow az).grow hC;refine Zh (Zld 4 bi (ar.ks aa) (au.ks aa)) fun _ b2 ⟨bd,b3,b4,e0,a0,ac⟩=>⟨_,e0,?_⟩;refine Zj<|Xp bd hC0 a0<|xe rfl rfl ?_;intro b5 hC0;replace ab:=(ab.gr hC).gr a0;have hC:=hC0.bl bd;obtain ⟨b6,bj,hm⟩:=bZ hm;replace aa:=(aa.grow a0).grow hC;refine Zh (Zbp 5 bj (ar.ks aa) (ax.k0.ks aa)) fun _ b7 ⟨be,b8,b9,e0,av,an⟩=>⟨_,e0,?_⟩;refine Zj<|Xp be hC0 av<|xe rfl rfl ?_;intro ca hC0;replace ac:=(ac.gr hC).gr av;replace ab:=(ab.gr hC).gr av;have hC:=hC0.bl be;obtain ⟨cb,bk,hm⟩:=bZ hm;replace aa:=(aa.grow av).grow hC
 refine Zh (Zbp 6 bk (au.ks aa) (ay.k0.ks aa)) fun _ cc ⟨ao,cd,ce,e0,ap,a1⟩=>⟨_,e0,?_⟩;refine Zj<|Xp ao hC0 ap<|xe rfl rfl ?_;intro bm hC0;replace ac:=(ac.gr hC).gr ap;replace an:=(an.gr hC).gr ap;replace ab:=(ab.gr hC).gr ap;have hC:=hC0.bl ao;obtain ⟨cf,bn,hm⟩:=bZ hm;refine Zh (Zld 7 bn (((an.gr hC).toSlF (Zm.int .u32)).froz 6) (((a1.gr hC).froz 5).toSlF (Zm.int .u32))) fun _ cg ⟨bo,ch,ci,e0,ae,aq⟩=>⟨_,e0,?_⟩;replace aq:=aq.thaw (Z8 .u32) ae (((Fz.refl (col:=ao)).froz 5).froz 6);replace ae:=ae.thawR (col:=ao);generalize Xb bm.heap.size ao bo=ak at *;refine Zj<|Xp ak hC0 ae<|xe rfl rfl ?_;intro bp hC0;replace aa:=((aa.grow ap).grow hC).grow ae;replace ac:=(ac.gr hC).gr ae;replace ab:=(ab.gr hC).gr ae;have hC:=hC0.bl ak;obtain ⟨cj,bq,hm⟩:=bZ hm;refine Zh (Znt 8 9 bq (((ac.gr hC).toSlF (Zm.int .u32)).froz 7) (((aq.gr hC).froz 4).toSlF (Zm.int .u32))) fun _ ck ⟨br,cl,cn,co,cp,e0,af,ag,ah⟩=>⟨_,e0,?_⟩;replace ag:=ag.thaw (Z8 .u32) af (((Fz.refl (col:=ak)).froz 4).froz 7);replace ah:=ah.thaw (Z8 .u32) af (((Fz.refl (col:=ak)).froz 4).froz 7);replace af:=af.thawR (col:=ak);generalize Xb bp.heap.size ak br=aw at *;refine Zj<|Xp aw hC0 af<|xe rfl rfl ?_;intro cq hC0;replace ab:=(ab.gr hC).gr af;replace aa:=(aa.grow hC).grow af;have hC:=hC0.bl aw;refine Xg (ab.gr hC) ?_;intro cr a2 bs a3;refine Zj<|xk aw<|Y4 ?_;replace ag:=(ag.gr hC).kp a2;replace ah:=(ah.gr hC).kp a2;replace aa:=(aa.grow hC).kp a2 bs;intro cs hC;replace hC:=hC.bl aw;refine Y1 ?_;cases hm;replace aa:=aa.grow hC;exact ⟨rfl,_,ra (a3.gr hC).atN,_,_,_,_,_,rfl,aa.fin (cm [(8,c1),(9,c2)]),aa.fo (ag.gr hC),aa.fo (ah.gr hC)⟩
def Zc3 (N:Nat) (aa:R5):Option Int:=
  (Zjd N aa.2).bind fun ab=>if (decide (ab=0))=true then (some 0) else (if aa.1=true then (some (-1)) else (some 1))
theorem Zli {N af:Nat} {ag:Option Addr} {col:Zd} {w0:World} {ab:R5} {r:Int} (hm:Zc3 N ab=some r) (ae:Sl rU col w0 ag af ab.2):
    Calls prog 118 #[(.agg #[.bool ab.1,.slice ag ab.2.length af])] w0 (Wq w0 r):=by
 refine Z7 2 (m:=11) func118 rfl rfl rfl rfl rfl ?_;rw [Zc3.eq_1] at hm;have aa:=St.start col w0;refine go ?_;refine Xf (col:=(Zg col)) 1 rfl ?_;intro am ai ah aj ac;refine go ?_;refine Zy ac ?_;obtain ⟨an,ak,hm⟩:=bZ hm;replace aa:=aa.grow aj;refine Zh (Zzv ak (ae.k0.ks aa)) fun _ al ⟨e0,ad⟩=>⟨_,e0,?_⟩;replace ad:Zk ah ai ah al:=.of_below ad;refine go ?_;replace aa:=aa.grow ad;refine Zl hm (fun hb hm=>go ?_) fun hb hm=>go ?_
 ·cases hm;exact ⟨rfl,rfl,aa.below⟩
 refine Zy (ac.gr ad) ?_;refine go ?_;refine Zl hm (fun hb hm=>go ?_) fun hb hm=>go ?_
 ·cases hm;exact ⟨rfl,rfl,aa.below⟩
 cases hm;exact ⟨rfl,rfl,aa.below⟩
def Zka (N:Nat) (aa:R5) (ab:R5):Option Int:=
  (Zc3 N (aa.1,aa.2)).bind fun ac=>(Zc3 N (ab.1,ab.2)).bind fun ad=>if (decide (ac<ad))=true then (some (-1)) else (if (decide (ad<ac))=true then (some 1) else ((Zd5 N aa.2 ab.2).bind fun ae=>some (i64.wrap (ac * ae))))
theorem Z1a {N aj ak:Nat} {al am:Option Addr} {col:Zd} {w0:World} {ad ae:R5} {r:Int} (hm:Zka N ad ae=some r) (af:Sl rU col w0 al aj ad.2) (ag:Sl rU col w0 am ak ae.2):
    Calls prog 208 #[(.agg #[.bool ad.1,.slice al ad.2.length aj]),(.agg #[.bool ae.1,.slice am ae.2.length ak])] w0 (Wq w0 r):=by
 refine Z7 4 (m:=26) func208 rfl rfl rfl rfl rfl ?_;rw [Zka.eq_1] at hm;have aa:=St.start col w0;refine go ?_;refine Xf (col:=(Zg col)) 1 rfl ?_;intro az a0 ao ap ac;refine Xf (col:=ao) 2 rfl ?_;intro a1 a2 ab an ah;refine go ?_;refine Y0 (col:=ab) (by kernel_rfl) (by kernel_rfl) ?_;replace ac:=ac.gr an;refine qv rfl (fun _ hC=>Xh isAgg40 sizeOf40 (ac.gr (hC.bl ab))) ?_;obtain ⟨aq,ar,hm⟩:=bZ hm;replace af:=af.k0;replace aa:=(aa.grow ap).grow an;refine qc (v:=(.int .i64 aq)) rfl (fun _ hC=>⟨_,_,Zm0 call118 rfl,(Zli ar ((af.ks aa).gr (hC.bl ab)):).mono fun _ _ h=>⟨h.1,hC.trans (.of_below h.2)⟩⟩) ?_;refine qv rfl (fun _ hC=>Xh isAgg40 sizeOf40 (ah.gr (hC.bl ab))) ?_;obtain ⟨au,av,hm⟩:=bZ hm;replace ag:=ag.k0;refine qc (v:=(.int .i64 au)) rfl (fun _ hC=>⟨_,_,Zm0 call118 rfl,(Zli av ((ag.ks aa).gr (hC.bl ab)):).mono fun _ _ h=>⟨h.1,hC.trans (.of_below h.2)⟩⟩) ?_;refine go ?_;refine Xw ?_;intro aw hC;replace hC:=hC.bl ab;refine go ?_;replace aa:=aa.grow hC;refine Zl hm (fun hb hm=>go ?_) fun hb hm=>go ?_
 ·cases hm;exact ⟨rfl,rfl,aa.below⟩
 refine Zl hm (fun hb hm=>go ?_) fun hb hm=>go ?_
 ·cases hm;exact ⟨rfl,rfl,aa.below⟩
 refine Zy (ac.gr hC)<|Zy (ah.gr hC) ?_;obtain ⟨a3,ax,hm⟩:=bZ hm;refine Zh (Znv ax (af.ks aa) (ag.ks aa)) fun _ ay ⟨e0,ai⟩=>⟨_,e0,?_⟩;replace ai:Zk ab aw ab ay:=.of_below ai;refine go ?_;cases hm;exact ⟨rfl,rfl,(aa.grow ai).below⟩
def Zgj (N:Nat) (aa:R1) (ab:R1):Option Int:=
  (T5 N ((ab.1.1,ab.1.2),ab.2)).bind fun ae=>(Zb3 N (aa.1.1,aa.1.2) ae).bind fun ac=>(T5 N ((aa.1.1,aa.1.2),aa.2)).bind fun af=>(Zb3 N (ab.1.1,ab.1.2) af).bind fun ad=>(Zka N (ac.1,ac.2) (ad.1,ad.2)).bind fun ag=>some ag
theorem Zql {N ap a0 aq a1:Nat} {ar a2 au a3:Option Addr} {col:Zd} {w0:World} {ac ad:R1} {r:Int} (hm:Zgj N ac ad=some r) (al:Sl rU col w0 ar ap ac.1.2) (av:Sl rU col w0 a2 a0 ac.2) (am:Sl rU col w0 au aq ad.1.2) (aw:Sl rU col w0 a3 a1 ad.2):
    Calls prog 173 #[(.agg #[.bool ac.1.1,.slice ar ac.1.2.length ap,.slice a2 ac.2.length a0]),(.agg #[.bool ad.1.1,.slice au ad.1.2.length aq,.slice a3 ad.2.length a1])] w0 (Wq w0 r):=by
 refine Z7 4 (m:=16) func173 rfl rfl rfl rfl rfl ?_;rw [Zgj.eq_1] at hm;have aa:=St.start col w0;refine go ?_;refine Xf (col:=(Zg col)) 1 rfl ?_;intro bm bn a8 a9 an;refine Xf (col:=a8) 2 rfl ?_;intro bo bp ae a4 a5;refine go ?_;refine Wc (col:=ae) [(0,1),(1,0),(2,0),(5,1),(6,0),(7,0),(3,3),(4,3),(8,3),(9,3),(10,3),(11,1)] (by kernel_rfl) (by kernel_rfl)<|xF ⟨_,_,rfl⟩ ?_;replace an:=an.gr a4;refine xv (v:=(.agg #[.bool ac.1.1,.slice ar ac.1.2.length ap])) rfl rfl (fun _ hC=>Yq isAgg40 sizeOf40 rfl rfl (((an.atN).part 0 2 _ rfl).gr (hC.bl ae))) ?_;refine xv rfl rfl (fun _ hC=>Xh isAgg42 sizeOf42 (a5.gr (hC.bl ae))) ?_;refine xF ⟨_,_,rfl⟩ ?_;refine xv (v:=(.agg #[.bool ad.1.1,.slice au ad.1.2.length aq])) rfl rfl (fun _ hC=>Yq isAgg40 sizeOf40 rfl rfl (((a5.atN).part 0 2 _ rfl).gr (hC.bl ae))) ?_;refine xv rfl rfl (fun _ hC=>Xh isAgg42 sizeOf42 (an.gr (hC.bl ae))) ?_;refine xe rfl rfl ?_;intro bq hC0;have hC:=hC0.bl ae;obtain ⟨br,ba,hm⟩:=bZ hm;replace am:=am.k0;replace aa:=((aa.grow a9).grow a4).grow hC;refine Zh (Zbp 3 ba (am.ks aa) (aw.k0.ks aa)) fun _ bs ⟨ah,bt,bu,e0,a6,ax⟩=>⟨_,e0,?_⟩;refine Zj<|Xp ah hC0 a6<|xe rfl rfl ?_;intro bb hC0;have hC:=hC0.bl ah;obtain ⟨bv,bc,hm⟩:=bZ hm;replace al:=al.k0;replace aa:=(aa.grow a6).grow hC;refine Zh (Zlc 4 bc ((al.ks aa).froz 3) ((ax.gr hC).toSlF (Zm.int .u32))) fun _ bw ⟨bd,bx,bz,e0,ai,ab⟩=>⟨_,e0,?_⟩;replace ab:=ab.thaw (Z8 .u32) ai ((Fz.refl (col:=ah)).froz 3);replace ai:=ai.thawR (col:=ah);generalize Xb bb.heap.size ah bd=a7 at *;refine Zj<|Xp a7 hC0 ai<|xe rfl rfl ?_;intro b0 hC0;have hC:=hC0.bl a7;obtain ⟨b1,be,hm⟩:=bZ hm;replace aa:=(aa.grow ai).grow hC;refine Zh (Zbp 5 be (al.ks aa) (av.k0.ks aa)) fun _ b2 ⟨aj,b3,b4,e0,ay,az⟩=>⟨_,e0,?_⟩;refine Zj<|Xp aj hC0 ay<|xe rfl rfl ?_;intro bf hC0;replace ab:=(ab.gr hC).gr ay;have hC:=hC0.bl aj;obtain ⟨b5,bg,hm⟩:=bZ hm;replace aa:=(aa.grow ay).grow hC;replace az:=az.gr hC
 refine Zh (Zlc 6 bg ((am.ks aa).froz 5) (az.toSlF (Zm.int .u32))) fun _ b6 ⟨bh,b7,b8,e0,af,ak⟩=>⟨_,e0,?_⟩;replace ak:=ak.thaw (Z8 .u32) af ((Fz.refl (col:=aj)).froz 5);replace af:=af.thawR (col:=aj);generalize Xb bf.heap.size aj bh=ag at *;refine Zj<|Xp ag hC0 af<|xe rfl rfl ?_;intro bi hC0;replace ab:=(ab.gr hC).gr af;have hC:=hC0.bl ag;obtain ⟨b9,bj,hm⟩:=bZ hm;refine Zh (Z1a bj (((ab.gr hC).toSlF (Zm.int .u32)).froz 6) (((ak.gr hC).froz 4).toSlF (Zm.int .u32))) fun _ bk ⟨e0,ao⟩=>⟨_,e0,?_⟩;replace ao:Zk ag bi ag bk:=.of_below ao;refine Zj<|Xp ag hC0 ao<|xu rfl rfl (fun _=>Zvm rfl) ?_;refine Y4 ?_;replace aa:=((aa.grow af).grow hC).grow ao;intro ca hC;refine Y1 ?_;cases hm;exact ⟨rfl,rfl,(aa.grow (hC.bl ag)).below⟩
def Zb2 (N:Nat):List R1→Bool→R2→R2→Option R1
  | [],aa,ab,ac=>some ((aa,ab),ac)
  | ad :: af,aa,ab,ac=>(Zdq N ((aa,ab),ac) ((ad.1.1,ad.1.2),ad.2)).bind fun ae=>(Zb2 N af) ae.1.1 ae.1.2 ae.2
def Zi4 (N:Nat) (aa:R8):Option R1:=
  (Zay N 1).bind fun ab=>Zb2 N aa false ([]:List Int) ab
theorem Zzc {N ba:Nat} {a0:Option Addr} {col:Zd} {w0:World} {af:R8} {r:R1} (c1 c2:Nat) (hm:Zi4 N af=some r) (h0:Sl rQ col w0 a0 ba af):
    Calls prog 82 #[.slice a0 af.length ba] w0 (Sm 45 c1 c2 col w0 r):=by
 refine Yw (m:=19) func82 rfl rfl rfl ?_;rw [Zi4.eq_1] at hm;have aa:=St.start col w0;refine go ?_;refine Xt (col:=(Zg col)) #[.bool false,(nI),(nI)] 1 zeroValue42 ?_;intro bc cb bd be ab;refine go ?_;obtain ⟨bf,bg,hm⟩:=bZ hm;refine Zh (Ziu (col:=bd) 2 bg) fun _ cc ⟨bh,bi,bj,e0,bb,aw⟩=>⟨_,e0,?_⟩;refine lV (.agg #[.bool false,(nI),.slice bi bf.length bj]) (Wz (l:=[_,_]) (qs:=[(0,2),(2,1)]) underlying42 zeroValue42 ⟨rfl,sizeOf40,rfl,sizeOf38,trivial⟩ rfl)<|Xt (col:=bh) #[.bool false,(nI),(nI)] 3 zeroValue42 ?_;intro bk cd ce ax bm;refine Xg bm ?_;intro cf ay bn ac;refine go ?_;replace aa:=(((aa.grow be).grow bb).grow ax).kp ay bn;replace ab:=((ab.gr bb).gr ax).kp ay;refine Zt [2,3,8,9,1000000] (fun n f ak=>∃ ag an az a1 a2 aq a3 a4 ar ao,n=ao.length∧af.drop an=ao∧Zb2 N ao az aq ar=some r∧St w0 (Zg col) ag ak∧Ze 42 1 ag ak bc #[.bool false,(nI),(nI)]∧Zb rU 45 4 ag ak a1 a2 aq∧Zb rU 45 2 ag ak a3 a4 ar∧Ze 42 3 ag ak bk #[.bool az,.slice a1 aq.length a2,.slice a3 ar.length a4]∧[10].map f=[.int .i64 an]) af.length ⟨_,0,_,none,0,_,_,_,_,_,rfl,rfl,hm,aa,ab,Zb.nil,(aw.gr ax).kp ay,ac,rfl⟩ ?_;clear hm;intro n f ak hI;obtain ⟨ag,an,az,a1,a2,aq,a3,a4,ar,ao,hn,hl,hm,aa,ab,al,am,ac,hs⟩:=hI;subst hn;refine .lL [10] hs ?_;replace h0:=h0.k0
 cases ao with
 | nil=>
  have hk:¬ ((an:Int)<(af.length:Int)):=by have:=aK.1 hl;omega
  have hkb:=decide_eq_false hk;rw [Zb2.eq_1] at hm;refine go ?_;refine Yc (congrArg Value.bool hkb)<|go ?_;refine lV _ (Xh isAgg42 sizeOf42 ac)<|Xg ab ?_;intro cg a5 bo bp;refine go ?_;cases hm;replace al:=al.kp a5;replace am:=am.kp a5;replace aa:=aa.kp a5 bo;exact ⟨rfl,_,ra bp.atN,_,_,_,_,_,rfl,aa.fin (cm [(4,c1),(2,c2)]),aa.fo al,aa.fo am⟩
 | cons a6 bq=>
  obtain ⟨a7,br,bs⟩:=Ys hl;have hk:(an:Int)<(af.length:Int):=by omega
  have hkb:=decide_eq_true hk;rw [Zb2.eq_2] at hm;refine go ?_;refine Yd (congrArg Value.bool hkb)<|go ?_;refine lI a7 ((h0.ks aa).addr a7) ?_;obtain ⟨_,bt,bu⟩:=(h0.ks aa).atN a7;obtain ⟨_,_,rfl,bv,bw⟩:=Yr bt;obtain ⟨_,_,rfl,bx,bz⟩:=Yr bv;obtain ⟨rfl,_⟩:=bx;obtain ⟨⟨b0,b1,rfl,a8⟩,_⟩:=bz;obtain ⟨⟨b2,b3,rfl,a9⟩,_⟩:=bw;refine lV (.agg #[.bool a6.1.1,.slice b0 a6.1.2.length b1,.slice b2 a6.2.length b3]) (Yq isAgg42 sizeOf42 rfl rfl bu)<|Xt (col:=ag) #[.bool false,(nI),(nI)] 5 zeroValue42 ?_;intro ch ci au ah b4;refine Xg b4 ?_;intro b5 ai b6 b7;refine go ?_;replace ac:=(ac.gr ah).kp ai;refine lV _ (Xh isAgg42 sizeOf42 ac)<|lV _ (Xh isAgg42 sizeOf42 b7) ?_;obtain ⟨cj,b8,hm⟩:=bZ hm;refine Zh (Zqk 6 7 b8 ((((al.gr ah).kp ai).toSlF (Zm.int .u32)).froz 2) ((((am.gr ah).kp ai).froz 4).toSlF (Zm.int .u32)) ((((a8.gr ah).kp ai).froz 4).froz 2) ((((a9.gr ah).kp ai).froz 4).froz 2)) fun _ ck ⟨b9,cl,cn,co,cp,e0,aj,ad,ae⟩=>⟨_,e0,?_⟩;replace ad:=ad.thaw (Z8 .u32) aj (((Fz.refl (col:=au)).froz 4).froz 2);replace ae:=ae.thaw (Z8 .u32) aj (((Fz.refl (col:=au)).froz 4).froz 2);replace aj:=aj.thawR (col:=au);generalize Xb b5.heap.size au b9=cq at *;refine Xg (ac.gr aj) ?_;intro cr av ca ap;refine go ?_;replace ad:=ad.kp av;replace ad:=ad.recolSelf 4 (by decide);replace ae:=ae.kp av;replace ae:=ae.recol 6 4;replace ab:=(((ab.gr ah).kp ai).gr aj).kp av;replace ab:=ab.recol 6 4;replace ap:=ap.recol 6 4;replace aa:=(((aa.grow ah).kp ai b6).grow aj).kp av ca;replace aa:=aa.recol 6 4 (by decide) (by decide);replace ae:=ae.recolSelf 2 (by decide);replace aa:=aa.recol 7 2 (by decide) (by decide);exact ⟨bq.length,by simp,rfl,⟨_,_,_,_,_,_,_,_,_,_,rfl,br,hm,aa,ab.recol 7 2,ad.recol 7 2,ae,ap.recol 7 2,(Yx (congrArg (Value.int .i64) (Yt (aJ bs (h0.ks aa).1.1))) rfl)⟩⟩
def Zic (N:Nat) (aa:Int):Option R5:=
  if (decide (aa<0))=true then ((Zay N (u64.wrap (-(u64.wrap aa)))).bind fun ad=>(Qh N true ad).bind fun ab=>some (ab.1,ab.2)) else ((Zay N (u64.wrap aa)).bind fun ae=>(Qh N false ae).bind fun ac=>some (ac.1,ac.2))
theorem Zra {N:Nat} {col:Zd} {w0:World} {ai:Int} {r:R5} (c1:Nat) (hm:Zic N ai=some r):
    Calls prog 154 #[.int .i64 ai] w0 (Tk 45 c1 col w0 r):=by
 refine Yw (m:=14) func154 rfl rfl rfl ?_;rw [Zic.eq_1] at hm;have aa:=St.start col w0;refine go ?_;refine Xt (col:=(Zg col)) #[.bool false,(nI)] 1 zeroValue40 ?_;intro a5 a6 aj ao ab;refine go ?_;replace aa:=aa.grow ao;refine Zl hm (fun hb hm=>go ?_) fun hb hm=>go ?_
 ·obtain ⟨a7,ap,hm⟩:=bZ hm;refine Zh (Ziu (col:=aj) 2 ap) fun _ aq ⟨ag,a8,a9,e0,ak,ar⟩=>⟨_,e0,?_⟩;obtain ⟨ba,au,hm⟩:=bZ hm;refine Zh (Zdj 3 au (ar.toSlF (Zm.int .u32))) fun _ bb ⟨av,bc,bd,e0,ac,ad⟩=>⟨_,e0,?_⟩;replace ad:=ad.thaw (Z8 .u32) ac ((Fz.refl (col:=ag)).froz 2);replace ac:=ac.thawR (col:=ag);generalize Xb aq.heap.size ag av=be at *;replace ab:=(ab.gr ak).gr ac;refine Xg ab ?_;intro bf al aw ax;refine go ?_;cases hm;replace aa:=((aa.grow ak).grow ac).kp al aw;exact ⟨rfl,_,ra ax.atN,_,_,_,rfl,aa.fin (cm [(3,c1)]),aa.fo (ad.kp al)⟩
 obtain ⟨bg,ay,hm⟩:=bZ hm;refine Zh (Ziu (col:=aj) 4 ay) fun _ az ⟨ah,bh,bi,e0,am,a0⟩=>⟨_,e0,?_⟩;obtain ⟨bj,a1,hm⟩:=bZ hm;refine Zh (Zdj 5 a1 (a0.toSlF (Zm.int .u32))) fun _ bk ⟨a2,bm,bn,e0,ae,af⟩=>⟨_,e0,?_⟩;replace af:=af.thaw (Z8 .u32) ae ((Fz.refl (col:=ah)).froz 4);replace ae:=ae.thawR (col:=ah);generalize Xb az.heap.size ah a2=bo at *;refine Xg ((ab.gr am).gr ae) ?_;intro bp an a3 a4;refine go ?_;cases hm;replace aa:=((aa.grow am).grow ae).kp an a3;exact ⟨rfl,_,ra a4.atN,_,_,_,rfl,aa.fin (cm [(5,c1)]),aa.fo (af.kp an)⟩
def Zi2 (N:Nat) (ac:R5) (aa:R5):Option (R1×Int):=
  (Zc3 N (aa.1,aa.2)).bind fun ad=>if (decide (ad=0))=true then (some (((false,([]:List Int)),([]:List Int)),11)) else ((Zdr N (!decide (ac.1=aa.1)) ac.2 aa.2).bind fun ab=>some (((ab.1.1,ab.1.2),ab.2),0))
theorem Zy9 {N an ao:Nat} {ap aq:Option Addr} {col:Zd} {w0:World} {ae af:R5} {r:(R1×Int)} (c1 c2:Nat) (hm:Zi2 N ae af=some r) (ai:Sl rU col w0 ap an ae.2) (ag:Sl rU col w0 aq ao af.2):
    Calls prog 153 #[(.agg #[.bool ae.1,.slice ap ae.2.length an]),(.agg #[.bool af.1,.slice aq af.2.length ao])] w0 (Zkj 45 c1 c2 col w0 r):=by
 refine Yw (m:=20) func153 rfl rfl rfl ?_;rw [Zi2.eq_1] at hm;have aa:=St.start col w0;refine go ?_;refine Xf (col:=(Zg col)) 1 rfl ?_;intro a8 a9 aw ax ah;refine Xf (col:=aw) 2 rfl ?_;intro ba bb ay ar ab;refine Xt (col:=ay) #[.bool false,(nI),(nI)] 3 zeroValue42 ?_;intro bc az au aj ac;refine go ?_;replace ab:=ab.gr aj;refine lV _ (Xh isAgg40 sizeOf40 ab) ?_;obtain ⟨bd,a0,hm⟩:=bZ hm;replace ag:=ag.k0;replace aa:=((aa.grow ax).grow ar).grow aj;refine Zh (Zli a0 (ag.ks aa)) fun _ a1 ⟨e0,ad⟩=>⟨_,e0,?_⟩;replace ad:Zk au az au a1:=.of_below ad;refine go ?_;replace ah:=((ah.gr ar).gr aj).gr ad;replace ab:=ab.gr ad;replace ac:=ac.gr ad;replace aa:=aa.grow ad;refine Zl hm (fun hb hm=>go ?_) fun hb hm=>go ?_
 ·refine lV (.agg #[.bool false,(nI),(nI)]) (Wz (l:=[_,_]) (qs:=[(0,2),(2,1)]) underlying42 zeroValue42 ⟨rfl,sizeOf40,rfl,sizeOf38,trivial⟩ rfl)<|Xg ac ?_;intro be a2 a3 a4;refine go ?_;cases hm;replace aa:=aa.kp a2 a3;exact ⟨rfl,_,Zae a4.atN,_,none,0,none,0,rfl,aa.fin (cm []),Zb.nil,Zb.nil⟩
 refine Zy ah<|Zy ab ?_;refine go ?_;refine Zy ah<|Zy ab ?_;obtain ⟨bf,a5,hm⟩:=bZ hm;refine Zh (Znt 4 5 a5 (ai.k0.ks aa) (ag.ks aa)) fun _ bg ⟨bh,bi,bj,bk,bm,e0,av,ak,al⟩=>⟨_,e0,?_⟩;refine Xg (ac.gr av) ?_;intro bn am a6 a7;refine go ?_;cases hm;replace aa:=(aa.grow av).kp am a6;exact ⟨rfl,_,Zae a7.atN,_,_,_,_,_,rfl,aa.fin (cm [(4,c1),(5,c2)]),aa.fo (ak.kp am),aa.fo (al.kp am)⟩
def Zi3 (N:Nat) (ad ae:Int):Option (R1×Int):=
  (Zic N ad).bind fun ab=>(Zic N ae).bind fun ac=>(Zi2 N (ab.1,ab.2) (ac.1,ac.2)).bind fun aa=>some (((aa.1.1.1,aa.1.1.2),aa.1.2),aa.2)
theorem Zza {N:Nat} {col:Zd} {w0:World} {ak al:Int} {r:(R1×Int)} (c1 c2:Nat) (hm:Zi3 N ak al=some r):
    Calls prog 116 #[.int .i64 ak,.int .i64 al] w0 (Zkj 45 c1 c2 col w0 r):=by
 refine Yw (m:=13) func116 rfl rfl rfl ?_;rw [Zi3.eq_1] at hm;have ab:=St.start col w0;refine go ?_;refine Xt (col:=(Zg col)) #[.bool false,(nI),(nI)] 1 zeroValue42 ?_;intro a4 a5 an ao ag;refine go ?_;obtain ⟨a6,ap,hm⟩:=bZ hm;refine Zh (Zra (col:=an) 2 ap) fun _ a7 ⟨aq,a8,a9,e0,am,ah⟩=>⟨_,e0,?_⟩;refine Xe rfl ?_;obtain ⟨ba,ar,hm⟩:=bZ hm;refine Zh (Zra (col:=aq) 3 ar) fun _ au ⟨ae,bb,bc,e0,ai,av⟩=>⟨_,e0,?_⟩;obtain ⟨af,aw,hm⟩:=bZ hm;refine Zh (Zy9 4 5 aw (((ah.gr ai).toSlF (Zm.int .u32)).froz 3) ((av.froz 2).toSlF (Zm.int .u32))) fun _ bd ⟨ax,ay,az,a0,a1,e0,aa,ac,ad⟩=>⟨_,e0,?_⟩;replace ac:=ac.thaw (Z8 .u32) aa (((Fz.refl (col:=ae)).froz 2).froz 3);replace ad:=ad.thaw (Z8 .u32) aa (((Fz.refl (col:=ae)).froz 2).froz 3);replace aa:=aa.thawR (col:=ae);generalize Xb au.heap.size ae ax=be at *;refine lV (.agg #[.bool af.1.1.1,.slice ay af.1.1.2.length az,.slice a0 af.1.2.length a1]) (X6 rfl rfl)<|lV (.int .i64 af.2) (X6 rfl rfl) ?_;refine Xg (((ag.gr am).gr ai).gr aa) ?_;intro bf aj a2 a3;refine go ?_;cases hm;replace ab:=((((ab.grow ao).grow am).grow ai).grow aa).kp aj a2;exact ⟨rfl,_,Zae a3.atN,_,_,_,_,_,rfl,ab.fin (cm [(4,c1),(5,c2)]),ab.fo (ac.kp aj),ab.fo (ad.kp aj)⟩
def Zgl (N:Nat) (aa:R1):Option Int:=
  (Zc3 N (aa.1.1,aa.1.2)).bind fun ab=>some ab
theorem Zzb {N ac ag:Nat} {ad ah:Option Addr} {col:Zd} {w0:World} {aa:R1} {r:Int} (hm:Zgl N aa=some r) (ae:Sl rU col w0 ad ac aa.1.2) (ao:Sl rU col w0 ah ag aa.2):
    Calls prog 64 #[(.agg #[.bool aa.1.1,.slice ad aa.1.2.length ac,.slice ah aa.2.length ag])] w0 (Wq w0 r):=by
 refine Z7 2 (m:=6) func64 rfl rfl rfl rfl rfl ?_;rw [Zgl.eq_1] at hm;have ab:=St.start col w0;refine go ?_;refine Xf (col:=(Zg col)) 1 rfl ?_;intro ap aj ai ak al;refine go ?_;refine Z9 ⟨_,_,rfl⟩ ?_;refine lV (.agg #[.bool aa.1.1,.slice ad aa.1.2.length ac]) (Yq isAgg40 sizeOf40 rfl rfl ((al.atN).part 0 2 _ rfl)) ?_;obtain ⟨aq,am,hm⟩:=bZ hm;replace ab:=ab.grow ak;refine Zh (Zli am (ae.k0.ks ab)) fun _ an ⟨e0,af⟩=>⟨_,e0,?_⟩;replace af:Zk ai aj ai an:=.of_below af;refine go ?_;cases hm;exact ⟨rfl,rfl,(ab.grow af).below⟩
theorem Zfv {N k:Nat} {neg:Bool} {m:List Int} (hm:Zn m) (hk:m.length≤k) (hr:Xa N k):Qh N neg m=some (Xk (Zu (neg,m))):=by
 obtain ⟨a,b⟩:=hr
 rw [Qh,Zo5 hm (by omega) (by omega),oB,Zkf]
 have e:decide (0<((Zf (Zc m)).length:Int))=decide (Zc m≠0):=by
  by_cases h:Zc m=0
  ·rw [h,Wv];decide
  ·have:=T0 h
   rw [decide_eq_true (by omega),decide_eq_true h]
 cases neg
 ·rw [if_neg (by decide),Zid,Bool.false_and]
 ·rw [if_pos rfl,Zid,e,Bool.true_and]
theorem Z55 {N k:Nat} {a:ZV} (hm:Zn a.2) (hk:a.2.length≤k) (hr:Xa N k):Zkc N a=some (Xk (Zu a)):=by
 rw [Zkc,Zfv hm hk hr];rfl
theorem Znh {N k:Nat} {a:ZV} (hm:Zn a.2) (hk:a.2.length≤k) (hr:Xa N k):Zc3 N a=some (Zu a).sign:=by
 obtain ⟨b,c⟩:=hr
 rw [Zc3,Zy0 hm (by omega) (by omega),oB,Zu]
 by_cases h:Zc a.2=0
 ·rw [h,Zf1,if_pos (by decide)];simp
 ·have d:Xd (Zc a.2)≠0:=by rw [Xd,if_neg h];omega
  rw [if_neg (dF (by omega))]
  by_cases h2:a.1=true
  ·rw [if_pos h2,if_pos h2,Int.sign_eq_neg_one_of_neg (by omega)]
  ·rw [if_neg h2,if_neg h2,Int.sign_eq_one_of_pos (by omega)]
theorem Zim {a b:ZV}:(a.1=b.1→Zu (a.1,Zf (Zc a.2+Zc b.2))=Zu a+Zu b)∧(a.1≠b.1→(Zc b.2≤Zc a.2→Zu (a.1,Zf (Zc a.2 - Zc b.2))=Zu a+Zu b)∧(Zc a.2<Zc b.2→Zu (b.1,Zf (Zc b.2 - Zc a.2))=Zu a+Zu b)):=by
 obtain ⟨s,x⟩:=a
 obtain ⟨t,y⟩:=b
 simp only [Zu,Z3]
 cases s <;> cases t <;> simp <;> (try constructor) <;> intros <;> omega
theorem Z51 {N k l:Nat} {a b:ZV} (ha:Zn a.2) (hb:Zn b.2) (hk:a.2.length≤k) (hl:b.2.length≤l) (hr:Xa N (k+l+1)):Zj9 N a b=some (Xk (Zu a+Zu b)):=by
 have d:=hr
 obtain ⟨g,i⟩:=d
 have j:=X9 ha
 have m:=X9 hb
 have c:(Zf (Zc a.2+Zc b.2)).length≤k+l+1:=Zls (by omega) (by omega)
 have e:(Zf (Zc a.2 - Zc b.2)).length≤k+l+1:=by have:=Vf (Nat.sub_le (Zc a.2) (Zc b.2));omega
 have f:(Zf (Zc b.2 - Zc a.2)).length≤k+l+1:=by have:=Vf (Nat.sub_le (Zc b.2) (Zc a.2));omega
 rw [Zj9]
 by_cases h:a.1=b.1
 ·rw [if_pos (dT h),Zyv ha hb (by omega) (by omega) (by omega) (by omega),oB,Zfv (Z2 _) c hr,oB,Zim.1 h]
 ·rw [if_neg (dF h),Zx5 ha hb (by omega) (by omega) (by omega) (by omega),oB]
  by_cases hlt:Zc a.2<Zc b.2
  ·rw [if_pos hlt,if_neg (by decide),Zx5 hb ha (by omega) (by omega) (by omega) (by omega),oB,if_neg (by omega),Zfv (Z2 _) f hr,oB,(Zim.2 h).2 hlt]
  ·rw [if_neg hlt,if_pos rfl,Zfv (Z2 _) e hr,oB,(Zim.2 h).1 (by omega)]
theorem Z6a (b:ZV):Zu (!b.1,b.2)= -Zu b:=by
 obtain ⟨s,x⟩:=b
 cases s <;> simp [Zu]
theorem Zp8 (a b:ZV):Zu (!decide (a.1=b.1),Zf (Zc a.2 * Zc b.2))=Zu a * Zu b:=by
 obtain ⟨s,x⟩:=a
 obtain ⟨t,y⟩:=b
 simp only [Zu,Z3]
 cases s <;> cases t <;> simp [bT,Int.neg_mul,Int.mul_neg]
theorem Z54 {N k l:Nat} {a b:ZV} (ha:Zn a.2) (hb:Zn b.2) (hk:a.2.length≤k) (hl:b.2.length≤l) (hr:Xa N (k+l)):Zkb N a b=some (Xk (Zu a * Zu b)):=by
 have c:=hr
 obtain ⟨d,e⟩:=c
 have f:=X9 ha
 have g:=X9 hb
 have:=S4 (Zc a.2) (Zc b.2)
 rw [Zkb,Zo2 ha hb (by omega) (by omega),oB,Zfv (k:=k+l) (Z2 _) (by omega) hr,oB,Zp8]
theorem Z58 (a b:ZV):(if (Zu a).sign<(Zu b).sign then -1 else if (Zu b).sign<(Zu a).sign then 1 else (Zu a).sign * (if Zc a.2<Zc b.2 then -1 else if Zc b.2<Zc a.2 then 1 else 0))=Qo (Zu a) (Zu b):=by
 obtain ⟨s,x⟩:=a
 obtain ⟨t,y⟩:=b
 have c:∀ z:Int,z.sign=if z<0 then -1 else if 0<z then 1 else 0:=fun z=>(Znj z).symm
 rw [c,c]
 unfold Qo
 simp only [Zu]
 generalize Zc x=X
 generalize Zc y=Y
 cases s <;> cases t <;> simp only [if_true,Bool.false_eq_true,if_false] <;> (repeat' split) <;> omega
theorem Z53 {N k l:Nat} {a b:ZV} (ha:Zn a.2) (hb:Zn b.2) (hk:a.2.length≤k) (hl:b.2.length≤l) (hr:Xa N (k+l)):Zka N a b=some (Qo (Zu a) (Zu b)):=by
 have c:=hr
 obtain ⟨d,e⟩:=c
 have f:-1≤(Zu a).sign∧(Zu a).sign≤1:=by rw [← Znj];unfold Qo;(repeat' split) <;> omega
 rw [Zka,Znh ha hk (hr.mono (by omega)),oB,Znh hb hl (hr.mono (by omega)),oB,← Z58 a b]
 by_cases h1:(Zu a).sign<(Zu b).sign
 ·rw [if_pos (dT h1),if_pos h1]
 ·rw [if_neg (dF h1),if_neg h1]
  by_cases h2:(Zu b).sign<(Zu a).sign
  ·rw [if_pos (dT h2),if_pos h2]
  ·rw [if_neg (dF h2),if_neg h2,Zob ha hb (by omega) (by omega) (by omega) (by omega),oB]
   congr 1
   refine Zp ?_
   have:(Zu a).sign= -1∨(Zu a).sign=0∨(Zu a).sign=1:=by omega
   rcases this with h | h | h <;> rw [h] <;> (repeat' split) <;> decide
theorem Zyn {N:Nat} {z:Int} (h:-9223372036854775808≤z∧z≤9223372036854775807) (hr:Xa N 2):Zic N z=some (Xk z):=by
 have b:=hr
 obtain ⟨f,g⟩:=b
 have c:∀ n:Nat,n<18446744073709551616→(Zf n).length≤2:=fun n d=>Wu.2 (by simpa using d)
 rw [Zic]
 by_cases hz:z<0
 ·have e:u64.wrap (-u64.wrap z)= -z:=by rw [IntKind.wrap_u64,IntKind.wrap_u64];omega
  rw [if_pos (dT hz),e,Zkg (by omega) (by omega),oB,Zfv (Z2 _) (c _ (by omega)) hr,oB]
  have a:Zu (true,Zf (-z).toNat)=z:=by simp only [Zu,Z3,if_true];omega
  rw [a]
 ·rw [if_neg (dF hz),Xi (by omega),Zkg (by omega) (by omega),oB,Zfv (Z2 _) (c _ (by omega)) hr,oB]
  have a:Zu (false,Zf z.toNat)=z:=by simp only [Zu,Z3];simp;omega
  rw [a]
theorem Zii {N k:Nat} {a:QV} (ha:RV k a) (hr:Xa N k):T5 N a=some (Zf (Yh a.2)):=by
 obtain ⟨b,c⟩:=hr
 have:=ha.ld
 rw [T5,Zo5 ha.d (by omega) (by omega),oB,Yh]
 by_cases h:Zc a.2=0
 ·rw [h,Wv,if_neg (by decide),if_pos rfl,Zkg (by decide) (by omega)];rfl
 ·have:=T0 h
  rw [if_pos (dT (by omega)),if_neg h]
theorem Tz {k:Nat} {a:QV} (ha:RV k a):(Zf (Yh a.2)).length≤k+1:=by
 have b:=X9 ha.d
 have c:=ha.ld
 rw [Yh]
 split
 ·rw [Zam];simp
 ·omega
theorem Zmq {N k l n:Nat} {a:ZV} (ha:Zn a.2) (hk:a.2.length≤k) (hl:(Zf n).length≤l) (hr:Xa N (k+l)):Zb3 N a (Zf n)=some (Xk (Zu a * n)):=by
 rw [Zb3,Z54 (a:=(a.1,a.2)) (b:=(false,Zf n)) ha (Z2 _) hk hl hr,oB]
 have e:Zu (false,Zf n)=n:=by simp [Zu,Z3]
 rw [e]
theorem Zos {N k l:Nat} {neg:Bool} {num den:List Int} (hn:Zn num) (hd:Zn den) (h0:Zc den≠0) (hk:num.length≤k) (hl:den.length≤l) (hr:Xa N (k+l)):
  Zdr N neg num den=some (Xc (mkRat (Zu (neg,num)) (Zc den))):=by
 have b:=hr
 obtain ⟨e,f⟩:=b
 have g:=X9 hn
 have d:=X9 hd
 have c:cJ (Zc num) (Zc den)≠0:=fun h=>h0 (Nat.gcd_eq_zero_iff.1 h).2
 have lg:(Zf (cJ (Zc num) (Zc den))).length≤den.length:=bA (Vf (Nat.gcd_le_right _ (by omega))) d
 have i:=Vf (Nat.div_le_self (Zc num) (cJ (Zc num) (Zc den)))
 rw [Zdr,Z2r hn hd (by omega) (by omega),oB,Zlm hn (Z2 _) (by omega) (by omega),oB,Zlm hd (Z2 _) (by omega) (by omega),oB,Z3,if_neg c,if_neg c,
  Z55 (k:=k) (a:=(neg,Zf (Zc num / cJ (Zc num) (Zc den)))) (Z2 _) (by simp only;omega) (hr.mono (by omega)),oB,Zuo h0,Zkf,Z3]
theorem Z2q {N k:Nat} {a:QV} (ha:RV k a) (hr:Xa N k):Zgl N a=some (Zc6 (Xj a)):=by
 rw [Zgl,Znh (a:=(a.1.1,a.1.2)) ha.m ha.lm hr,oB,Zvl]
theorem Zdm (z:Int):(Xk z).2=Zf z.natAbs:=rfl
theorem Zby {k l n:Nat} {a:ZV} (ha:Zn a.2) (hk:a.2.length≤k) (hl:(Zf n).length≤l):(Xk (Zu a * n)).2.length≤k+l:=by
 rw [Zdm,Int.natAbs_mul,Int.natAbs_natCast,Zbo]
 have b:=S4 (Zc a.2) n
 have c:=X9 ha
 omega
theorem Zr8 {N k l:Nat} {a b:QV} (ha:RV k a) (hb:RV l b) (hr:Xa N (2 * (k+l+2))):Zgj N a b=some (Zad (Xj a) (Xj b)):=by
 have c:=Tz ha
 have d:=Tz hb
 have e:=Zby (n:=Yh b.2) ha.m ha.lm d
 have f:=Zby (n:=Yh a.2) hb.m hb.lm c
 rw [Zgj,Zii hb (hr.mono (by omega)),oB,Zmq (k:=k) (l:=l+1) ha.m ha.lm d (hr.mono (by omega)),oB,Zii ha (hr.mono (by omega)),oB,Zmq (k:=l) (l:=k+1) hb.m hb.lm c (hr.mono (by omega)),oB,
  Z53 (a:=Xk _) (b:=Xk _) (Vy _) (Vy _) e f (hr.mono (by omega)),oB,Vw,Vw,Xj,Xj,Zpd (Sz _) (Sz _)]
theorem Zlj {N k l:Nat} {a b:QV} (ha:RV k a) (hb:RV l b) (hr:Xa N (k+l+2)):Zax N (Zf (Yh a.2)) (Zf (Yh b.2))=some (Zf (Yh a.2 * Yh b.2))∧(Zf (Yh a.2 * Yh b.2)).length≤k+l+2∧Yh a.2 * Yh b.2≠0:=by
 have d:=Tz ha
 have e:=Tz hb
 have c:=hr
 obtain ⟨f,g⟩:=c
 have:=S4 (Yh a.2) (Yh b.2)
 refine ⟨by rw [Zo2 (Z2 _) (Z2 _) (by omega) (by omega),Z3,Z3],by omega,Nat.mul_ne_zero (Sz _) (Sz _)⟩
theorem Zp0 {x y:Int} {k:Nat} (hx:(Xk x).2.length≤k) (hy:(Xk y).2.length≤k):(Xk (x+y)).2.length≤k+1:=by
 rw [Zdm] at *
 exact bA (Vf (Int.natAbs_add_le _ _)) (Zls hx hy)
theorem Z5v {x y:Int} {k:Nat} (hx:(Xk x).2.length≤k) (hy:(Xk y).2.length≤k):(Xk (x - y)).2.length≤k+1:=by
 rw [Int.sub_eq_add_neg]
 refine Zp0 hx ?_
 rw [Zdm,Int.natAbs_neg];exact hy
theorem Z37 (z:Int):((Xk z).1,(Xk z).2)=Xk z:=rfl
theorem Zr7 {N k l:Nat} {a b:QV} (ha:RV k a) (hb:RV l b) (hr:Xa N (2 * (k+l+3))):Zdq N a b=some (Xc (Xj a+Xj b)):=by
 have c:=Tz ha
 have d:=Tz hb
 have f:=Zby (n:=Yh b.2) ha.m ha.lm d
 have e:=Zby (n:=Yh a.2) hb.m hb.lm c
 obtain ⟨g,i,j⟩:=Zlj ha hb (hr.mono (by omega))
 have sl:=Zp0 (k:=k+l+1) (by omega) (bA e (by omega))
 rw [Zdq,Zii hb (hr.mono (by omega)),oB,Zmq (k:=k) (l:=l+1) ha.m ha.lm d (hr.mono (by omega)),oB,Zii ha (hr.mono (by omega)),oB,Zmq (k:=l) (l:=k+1) hb.m hb.lm c (hr.mono (by omega)),oB,
  Z51 (a:=Xk _) (b:=Xk _) (Vy _) (Vy _) f e (hr.mono (by omega)),oB,Vw,Vw,oB,oB,g,oB,
  Zos (Vy _) (Z2 _) (by rw [Z3];exact j) sl i (hr.mono (by omega)),oB,Z37,Vw,Z3,Xj,Xj,Rat.mkRat_add_mkRat _ _ (Sz _) (Sz _)]
theorem Z2l {N k l:Nat} {a b:QV} (ha:RV k a) (hb:RV l b) (hr:Xa N (2 * (k+l+3))):Zgk N a b=some (Xc (Xj a * Xj b)):=by
 have c:=hr
 obtain ⟨g,i⟩:=c
 have j:=ha.lm
 have n:=hb.lm
 have o:=X9 ha.m
 have p:=X9 hb.m
 have q:=S4 (Zc a.1.2) (Zc b.1.2)
 obtain ⟨d,e,f⟩:=Zlj ha hb (hr.mono (by omega))
 rw [Zgk,Zo2 ha.m hb.m (by omega) (by omega),oB,Zii ha (hr.mono (by omega)),oB,Zii hb (hr.mono (by omega)),oB,d,oB,
  Zos (k:=k+l) (Z2 _) (Z2 _) (by rw [Z3];exact f) (by omega) e (hr.mono (by omega)),oB,Zp8,Z3,Xj,Xj,Rat.mkRat_mul_mkRat]
theorem Zt8 (n₁:Int) (d₁:Nat) (b:ZV) (d₂:Nat) (s:Bool) (x:List Int) (h:n₁=Zu (s,x)) (hb:Zc b.2≠0):mkRat n₁ d₁ / mkRat (Zu b) d₂=mkRat (Zu (!decide (s=b.1),Zf (Zc x * d₂))) (d₁ * Zc b.2):=by
 have d:mkRat (Zu b) d₂=(Zu b:Rat) / (d₂:Rat):=dJ _ _
 have e:(Zu b:Rat)=(if b.1=true then -1 else 1) * (Zc b.2:Rat):=by
  rw [Zu];split
  ·rw [Rat.intCast_neg,Rat.neg_mul,Rat.one_mul];rfl
  ·rw [Rat.one_mul];rfl
 have f:(Zu (!decide (s=b.1),Zf (Zc x * d₂)):Rat)=(if b.1=true then -1 else 1) * (n₁:Rat) * (d₂:Rat):=by
  subst h
  have:Zu (!decide (s=b.1),Zf (Zc x * d₂))=(if b.1=true then -1 else 1) * Zu (s,x) * (d₂:Int):=by
   obtain ⟨t,y⟩:=b
   simp only [Zu,Z3]
   cases s <;> cases t <;> simp [bT,Int.neg_mul]
  rw [this,gL,gL]
  congr 2
  split <;> rfl
 have g:(Zc b.2:Rat)≠0:=fun h=>hb (Rat.natCast_eq_zero_iff.1 h)
 rw [dJ,d,dJ,f,e,Rat.natCast_mul]
 have c:(if b.1=true then (-1:Rat) else 1) * (if b.1=true then (-1:Rat) else 1)=1:=by split <;> grind
 generalize (if b.1=true then (-1:Rat) else 1)=sg at *
 generalize (n₁:Rat)=p
 generalize (d₁:Rat)=q
 generalize (d₂:Rat)=r
 generalize (Zc b.2:Rat)=m at *
 have i:sg≠0:=fun h=>by rw [h] at c;grind
 have a:sg⁻¹=sg:=eW c
 simp only [Rat.div_def,Rat.inv_mul_rev,Rat.inv_inv,a]
 grind
theorem Z2m {N k l:Nat} {a b:ZV} (ha:Zn a.2) (hb:Zn b.2) (hk:a.2.length≤k) (hl:b.2.length≤l) (hr:Xa N (k+l)):Zi2 N a b=some (if Zu b=0 then (((false,[]),[]),11) else (Xc ((Zu a:Rat) / (Zu b:Rat)),0)):=by
 rw [Zi2,Znh (a:=(b.1,b.2)) hb hl (hr.mono (by omega)),oB]
 by_cases h0:Zu b=0
 ·rw [if_pos h0,h0,if_pos (by decide)]
 ·have c:Zc b.2≠0:=fun h=>h0 (by have:=Zbo b;omega)
  have e:=Zt8 (Zu a) 1 b 1 a.1 a.2 rfl c
  have d:¬ (Zu b).sign=0:=fun h=>h0 (Int.sign_eq_zero_iff_zero.1 h)
  rw [if_neg (by rw [decide_eq_false d];decide),if_neg h0,Zos ha hb c hk hl hr,oB]
  rw [dJ,dJ] at e
  have f:(Zu a:Rat) / ((1:Nat):Rat) / ((Zu b:Rat) / ((1:Nat):Rat))=(Zu a:Rat) / (Zu b:Rat):=by
   have g:((1:Nat):Rat)=1:=rfl
   have i:(1:Rat)⁻¹=1:=eW (by grind)
   simp only [g,Rat.div_def,i,Rat.mul_one]
  rw [f,Nat.one_mul,Nat.mul_one] at e
  rw [e]
  have j:Zu (!decide (a.1=b.1),Zf (Zc a.2))=Zu (!decide (a.1=b.1),a.2):=by simp only [Zu,Z3]
  rw [j]
theorem Z2n {N:Nat} {a b:Int} (h:-9223372036854775808≤a∧a≤9223372036854775807) (g:-9223372036854775808≤b∧b≤9223372036854775807) (hr:Xa N 4):Zi3 N a b=some (if b=0 then (((false,[]),[]),11) else (Xc ((a:Rat) / (b:Rat)),0)):=by
 have c:∀ z:Int,-9223372036854775808≤z∧z≤9223372036854775807→(Xk z).2.length≤2:=fun z d=>Wu.2 (by simp;omega)
 rw [Zi3,Zyn h (hr.mono (by omega)),oB,Zyn g (hr.mono (by omega)),oB,Z2m (a:=Xk a) (b:=Xk b) (Vy _) (Vy _) (c _ h) (c _ g) hr,oB,Vw,Vw]
def Wy (l:List QV):Rat:=(l.map Xj).sum
def Xz:List QV→Nat
 | []=>0
 | a :: l=>max a.1.2.length a.2.length+2+Xz l
theorem Zdc {a:QV} (hm:Zn a.1.2) (hd:Zn a.2):RV (max a.1.2.length a.2.length) a:=⟨hm,hd,Nat.le_max_left _ _,Nat.le_max_right _ _⟩
def W3 (a:QV):Prop:=Zn a.1.2∧Zn a.2
theorem Zpi {a:QV} (h:W3 a):qs (Xj a)≤max a.1.2.length a.2.length+1:=by
 have:=Zvk (Zdc h.1 h.2)
 omega
theorem Zsn {N:Nat}:∀ (l:List QV) (q:Rat),(∀ a ∈ l,W3 a)→Xa N (4 * (qs q+Xz l+3))→Zb2 N l (Xc q).1.1 (Xc q).1.2 (Xc q).2=some (Xc (q+Wy l))∧qs (q+Wy l)≤qs q+Xz l
 | [],q,_,_=>by
  rw [Zb2.eq_1,Wy]
  simp only [List.map_nil,List.sum_nil,Rat.add_zero,Xz]
  exact ⟨trivial,by omega⟩
 | a :: l,q,d,b=>by
  have c:=d a aT
  have n:=Zpi c
  rw [Xz] at b ⊢
  rw [Zb2.eq_2,Zr7 (k:=qs q) (l:=max a.1.2.length a.2.length) (Zpv q) (Zdc c.1 c.2) (b.mono (by omega)),oB]
  have e:Xj ((((Xc q).1.1,(Xc q).1.2),(Xc q).2):QV)=q:=Qk q
  have f:Xj (((a.1.1,a.1.2),a.2):QV)=Xj a:=rfl
  have o:=Zvj q (Xj a)
  obtain ⟨g,i⟩:=Zsn l (q+Xj a) (fun x j=>d x (aP _ j)) (b.mono (by omega))
  rw [e,f,g]
  have m:q+Xj a+Wy l=q+Wy (a :: l):=by rw [Wy,Wy,List.map_cons,List.sum_cons,Rat.add_assoc]
  rw [m] at i ⊢
  exact ⟨rfl,by omega⟩
theorem Zso {N:Nat} {l:List QV} (hl:∀ a ∈ l,W3 a) (hr:Xa N (4 * (Xz l+4))):Zi4 N l=some (Xc (Wy l))∧qs (Wy l)≤Xz l+1:=by
 have c:=hr
 obtain ⟨f,g⟩:=c
 obtain ⟨b,d⟩:=Zsn (N:=N) l 0 hl (hr.mono (by rw [Zpj];omega))
 rw [Rat.zero_add] at b d
 rw [Zpj] at d
 have e:Xc 0=((false,[]),[1]):=by
  rw [Xc,Xk]
  simp only [Rat.zero_num,Rat.zero_den,Int.natAbs_zero,Wv,Zam]
  rfl
 rw [e] at b
 refine ⟨?_,by omega⟩
 rw [Zi4,Zkg (by decide) (by omega),oB,← b]
 rw [show (1:Int).toNat=1 from rfl,Zam]
def Zb0 (kk_L2:(Option Int)):List Int→Rj→Option Int
  | [],aa=>kk_L2
  | ab :: ac,aa=>if (decide (0<((Wf aa ab).getD 0)))=true then (some 40) else ((some (Sh aa ab 1)).bind fun ad=>(Zb0 kk_L2 ac) ad)
def Qx:List R2→Option Int
  | []=>some 0
  | aa :: ab=>Zb0 (Qx ab) aa ([]:List Rc)
def Zgc (kk_L4:(Option Int)) (aa:Bool):Option Int:=
  if aa=true then (some 3) else kk_L4
def Qy (aa:Ra) (kk_L1:(Option Int)):List Int→Option Int
  | []=>kk_L1
  | ab :: ac=>if (decide (ab<0))=true then (Zgc (Qy aa kk_L1 ac) true) else (Zgc (Qy aa kk_L1 ac) (decide ((aa.length:Int)≤ab)))
def Qw (aa:Ra):List R2→Option Int
  | []=>Qx aa
  | ab :: ac=>Qy aa (Qw aa ac) ab
def Zgb (aa:Ra):Option Int:=
  Qw aa aa
theorem Zy5 {a6:Nat} {a0:Option Addr} {col:Zd} {w0:World} {ab:Ra} {r:Int} (hm:Zgb ab=some r) (h0:Sl rP col w0 a0 a6 ab):
    Calls prog 205 #[.slice a0 ab.length a6] w0 (Wq w0 r):=by
 refine Z7 2 (m:=57) func205 rfl rfl rfl rfl rfl ?_;rw [Zgb.eq_1] at hm;have aa:=St.start col w0;refine go ?_;refine Zt [0,12,13,1000000] (fun n f a7=>∃ a8 ag ah,n=ah.length∧ab.drop ag=ah∧Qw ab ah=some r∧St w0 (Zg col) a8 a7∧[14].map f=[.int .i64 ag]) ab.length ⟨_,0,_,rfl,rfl,hm,aa,rfl⟩ ?_;clear hm;intro n f a7 hI;obtain ⟨a8,ag,ah,hn,hl,hm,aa,hs⟩:=hI;subst hn;refine .lL [14] hs ?_;replace h0:=h0.k0
 cases ah with
 | nil=>
  have hk:¬ ((ag:Int)<(ab.length:Int)):=by have:=aK.1 hl;omega
  have hkb:=decide_eq_false hk;rw [Qw.eq_1] at hm;refine go ?_;refine Yc (congrArg Value.bool hkb)<|go ?_;refine Zt [34,35,1000000] (fun n f a9=>∃ au ai aj,n=aj.length∧ab.drop ai=aj∧Qx aj=some r∧St w0 (Zg col) au a9∧[36].map f=[.int .i64 ai]) ab.length ⟨_,0,_,rfl,rfl,hm,aa,rfl⟩ ?_;clear hm;intro n f a9 hI;obtain ⟨au,ai,aj,hn,hl,hm,aa,hs⟩:=hI;subst hn;refine .lL [36] hs ?_
  cases aj with
  | nil=>
   have hk:¬ ((ai:Int)<(ab.length:Int)):=by have:=aK.1 hl;omega
   have hkb:=decide_eq_false hk;rw [Qx.eq_1] at hm;refine go ?_;refine Yc (congrArg Value.bool hkb)<|go ?_;cases hm;exact ⟨rfl,rfl,aa.below⟩
  | cons ak ba=>
   obtain ⟨ac,bi,bj⟩:=Ys hl;have hk:(ai:Int)<(ab.length:Int):=by omega
   have hkb:=decide_eq_true hk;rw [Qx.eq_2] at hm;refine go ?_;refine Yd (congrArg Value.bool hkb)<|go ?_;refine lI ac ((h0.ks aa).addr ac) ?_;obtain ⟨_,bk,bm⟩:=(h0.ks aa).atN ac;obtain ⟨⟨bn,bo,rfl,ad⟩,_⟩:=bk;refine lW bm.one<|go ?_;refine Z28 (col:=au) (fk:=(Value.int .i64)) (fv:=(Value.int .i64)) 1 rfl underlying205 rfl ?_;intro b3 b4 b5 bb bp;refine go ?_;replace ad:=ad.gr bb;replace aa:=aa.grow bb;refine Zt [34,35,36,43,44,1000000] (fun n f aq=>∃ ar al av am an,n=an.length∧ak.drop al=an∧Zb0 (Qx ba) an am=some r∧St w0 (Zg col) ar aq∧Sl rI ar aq bn bo ak∧Vb (Value.int .i64) (Value.int .i64) 1 ar aq av am∧[45,9].map f=[.int .i64 al,.map (some av)]) ak.length ⟨_,0,_,_,_,rfl,rfl,hm,aa,ad,bp,rfl⟩ ?_;clear hm;intro n f aq hI;obtain ⟨ar,al,av,am,an,hn,hl,hm,aa,ad,bc,hs⟩:=hI;subst hn;refine .lL [45,9] hs ?_
   cases an with
   | nil=>
    have hk:¬ ((al:Int)<(ak.length:Int)):=by have:=aK.1 hl;omega
    have hkb:=decide_eq_false hk;rw [Zb0.eq_1] at hm;refine go ?_;refine Yc (congrArg Value.bool hkb)<|go ?_;exact ⟨ba.length,by simp,rfl,⟨_,_,_,rfl,bi,hm,aa,(Yx (congrArg (Value.int .i64) (Yt (aJ bj (h0.ks aa).1.1))) rfl)⟩⟩
   | cons aw bq=>
    obtain ⟨ac,br,bs⟩:=Ys hl;have hk:(al:Int)<(ak.length:Int):=by omega
    have hkb:=decide_eq_true hk;rw [Zb0.eq_2] at hm;refine go ?_;refine Yd (congrArg Value.bool hkb)<|go ?_;refine lI ac (ad.addr ac)<|lW (ad.atInt ac) ?_;refine go ?_;refine lV (.int .i64 ((Wf am aw).getD 0)) (Zvt Tn.int bc underlying205 underlying3 zeroValue3 rfl rfl)<|go ?_;refine Zl hm (fun hb hm=>go ?_) fun hb hm=>go ?_
    ·cases hm;exact ⟨rfl,rfl,aa.below⟩
    obtain ⟨bt,ax,hm⟩:=bZ hm;have ax:bt=Sh am aw 1:=(Option.some.inj ax).symm;refine Ztb (k:=aw) (v:=1) Tn.int bc underlying205 underlying3 rfl rfl rfl ?_;intro b6 bd bu be;rw [← ax] at be;refine go ?_;replace ad:=ad.kp bd;replace aa:=aa.kp bd bu;exact ⟨bq.length,by simp,rfl,⟨_,_,_,_,_,rfl,br,hm,aa,ad,be,(Yx (congrArg (Value.int .i64) (Yt (aJ bs ad.1.1))) rfl)⟩⟩
 | cons af ay=>
  obtain ⟨ac,bv,bw⟩:=Ys hl;have hk:(ag:Int)<(ab.length:Int):=by omega
  have hkb:=decide_eq_true hk;rw [Qw.eq_2] at hm;refine go ?_;refine Yd (congrArg Value.bool hkb)<|go ?_;refine lI ac ((h0.ks aa).addr ac) ?_;obtain ⟨_,bx,bz⟩:=(h0.ks aa).atN ac;obtain ⟨⟨bf,bg,rfl,ae⟩,_⟩:=bx;refine lW bz.one<|go ?_;refine Zt [0,12,13,14,18,19,1000000] (fun n f az=>∃ a1 ao ap,n=ap.length∧af.drop ao=ap∧Qy ab (Qw ab ay) ap=some r∧St w0 (Zg col) a1 az∧Sl rI a1 az bf bg af∧[20].map f=[.int .i64 ao]) af.length ⟨_,0,_,rfl,rfl,hm,aa,ae,rfl⟩ ?_;clear hm;intro n f az hI;obtain ⟨a1,ao,ap,hn,hl,hm,aa,ae,hs⟩:=hI;subst hn;refine .lL [20] hs ?_
  cases ap with
  | nil=>
   have hk:¬ ((ao:Int)<(af.length:Int)):=by have:=aK.1 hl;omega
   have hkb:=decide_eq_false hk;rw [Qy.eq_1] at hm;refine go ?_;refine Yc (congrArg Value.bool hkb)<|go ?_;exact ⟨ay.length,by simp,rfl,⟨_,_,_,rfl,bv,hm,aa,(Yx (congrArg (Value.int .i64) (Yt (aJ bw (h0.ks aa).1.1))) rfl)⟩⟩
  | cons b0 bh=>
   obtain ⟨ac,b1,b2⟩:=Ys hl;have hk:(ao:Int)<(af.length:Int):=by omega
   have hkb:=decide_eq_true hk;rw [Qy.eq_2] at hm;refine go ?_;refine Yd (congrArg Value.bool hkb)<|go ?_;refine lI ac (ae.addr ac)<|lW (ae.atInt ac)<|Yz rfl<|Zj<|Zw ?_;refine Wp.cutK [0,12,13,14,18,19,20,1000000] (fun f a2=>∃ a3 a4,Zgc (Qy ab (Qw ab ay) bh) a4=some r∧St w0 (Zg col) a3 a2∧Sl rI a3 a2 bf bg af∧[31].map f=[.bool a4]) ?_ ?_
   ·intro f a2 hJ;obtain ⟨a3,a4,hm,aa,ae,hs⟩:=hJ;rw [Zgc.eq_1] at hm;refine .lL [31] hs ?_;refine Zl hm (fun hb hm=>go ?_) fun hb hm=>go ?_
    ·cases hm;exact ⟨rfl,rfl,aa.below⟩
    exact ⟨bh.length,by simp,rfl,⟨_,_,_,rfl,b1,hm,aa,ae,(Yx (congrArg (Value.int .i64) (Yt (aJ b2 ae.1.1))) rfl)⟩⟩
   refine go ?_;refine Xo hm (fun a5 hm=>go ?_) fun a5 hm=>go ?_
   ·refine lV (.bool true) (Z5 (congrArg Value.bool a5) rfl)<|Zj ?_;exact ⟨rfl,_,_,hm,aa,ae,rfl⟩
   refine lV (.bool (decide ((ab.length:Int)≤b0))) (Xn (congrArg Value.bool a5) rfl)<|Zj ?_;exact ⟨rfl,_,_,hm,aa,ae,rfl⟩
theorem Z17:Y6 prog 3 1 8:=⟨Tryz.t3,_,rfl,rfl,rfl,rfl,rfl⟩
def Zbz (aa:Nat) (kk_L1:(Nat→Ra→Option Ra)):List Int→Ra→Option Ra
  | [],ab=>kk_L1 (aa+1) ab
  | ad :: ae,ab=>(Zi ab ad).bind fun ac=>Zv ((ac.length+[(aa:Int)].length) * 8≤140737488355328∧ac.length+[(aa:Int)].length≤maxLen) ((Zbz aa kk_L1 ae) (ab.set (aA ad) (ac++[(aa:Int)])))
def Qv:List R2→Nat→Ra→Option Ra
  | [],ab,aa=>some aa
  | ac :: ad,ab,aa=>Zbz ab (Qv ad) ac aa
def Zga (aa:Ra):Option Ra:=
  Zv (aa.length * 24≤281474976710656∧aa.length≤maxLen) (Qv aa 0 (aI aa.length (([]:List Int):List Int)))
theorem Zy4 {a7:Nat} {a0:Option Addr} {col:Zd} {w0:World} {ae r:Ra} (c1:Nat) (hm:Zga ae=some r) (h0:Sl rP col w0 a0 a7 ae):
    Calls prog 207 #[.slice a0 ae.length a7] w0 (fun e w'=>∃ col' ra1 rc2,e= .returned ((.slice ra1 r.length rc2))∧Zk col w0 col' w'∧Zb (Za.row 3 rI) 36 c1 col' w' ra1 rc2 r):=by
 refine Z7 2 (m:=37) func207 rfl rfl rfl rfl rfl ?_;rw [Zga.eq_1] at hm;have aa:=St.start col w0;refine go ?_;obtain ⟨a8,hm⟩:=Zx hm;refine Ty (col:=(Zg col)) (w:=w0) (r:=(Za.row 3 rI)) (n:=ae.length) (x0:=([]:List Int)) 1 rfl underlying24 Tryz.t36 rfl rfl rfl rfl rfl rfl rfl a8.1 a8.2 Z47 ?_;intro b4 b5 b6 bg bh;refine go ?_;replace aa:=aa.grow bg;refine Zt [11,12,1000000] (fun n f aw=>∃ ax ab ay az ap aj,n=aj.length∧ae.drop ab=aj∧Qv aj ab ap=some r∧St w0 (Zg col) ax aw∧Zb (Za.row 3 rI) 36 1 ax aw ay az ap∧[13,3].map f=[.int .i64 ab,.slice ay ap.length az]) ae.length ⟨_,0,_,_,_,_,rfl,rfl,hm,aa,bh,rfl⟩ ?_;clear hm;intro n f aw hI;obtain ⟨ax,ab,ay,az,ap,aj,hn,hl,hm,aa,a9,hs⟩:=hI;subst hn;refine .lL [13,3] hs ?_;replace h0:=h0.k0
 cases aj with
 | nil=>
  have hk:¬ ((ab:Int)<(ae.length:Int)):=by have:=aK.1 hl;omega
  have hkb:=decide_eq_false hk;rw [Qv.eq_1] at hm;refine go ?_;refine Yc (congrArg Value.bool hkb)<|go ?_;cases hm;exact ⟨rfl,_,_,_,rfl,aa.fin (cm [(1,c1)]),aa.fo a9⟩
 | cons ak ba=>
  obtain ⟨af,bi,bj⟩:=Ys hl;have hk:(ab:Int)<(ae.length:Int):=by omega
  have hkb:=decide_eq_true hk;rw [Qv.eq_2] at hm;refine go ?_;refine Yd (congrArg Value.bool hkb)<|go ?_;refine lI af ((h0.ks aa).addr af) ?_;obtain ⟨_,bk,bm⟩:=(h0.ks aa).atN af;obtain ⟨⟨bn,bo,rfl,ac⟩,_⟩:=bk;refine lW bm.one<|go ?_;refine Zt [11,12,13,18,19,4,1000000] (fun n f al=>∃ aq am ag ah ad an,n=an.length∧ak.drop am=an∧Zbz ab (Qv ba) an ad=some r∧St w0 (Zg col) aq al∧Sl rI aq al bn bo ak∧Zb (Za.row 3 rI) 36 1 aq al ag ah ad∧[20,3].map f=[.int .i64 am,.slice ag ad.length ah]) ak.length ⟨_,0,_,_,_,_,rfl,rfl,hm,aa,ac,a9,rfl⟩ ?_;clear hm;intro n f al hI;obtain ⟨aq,am,ag,ah,ad,an,hn,hl,hm,aa,ac,a1,hs⟩:=hI;subst hn;refine .lL [20,3] hs ?_
  cases an with
  | nil=>
   have hk:¬ ((am:Int)<(ak.length:Int)):=by have:=aK.1 hl;omega
   have hkb:=decide_eq_false hk;rw [Zbz.eq_1] at hm;refine go ?_;refine Yc (congrArg Value.bool hkb)<|go ?_;exact ⟨ba.length,by simp,rfl,⟨_,_,_,_,_,_,rfl,bi,hm,aa,a1,(Yx (congrArg (Value.int .i64) (Yt (aJ bj (h0.ks aa).1.1))) rfl)⟩⟩
  | cons ar bp=>
   obtain ⟨af,bq,br⟩:=Ys hl;have hk:(am:Int)<(ak.length:Int):=by omega
   have hkb:=decide_eq_true hk;rw [Zbz.eq_2] at hm;refine go ?_;refine Yd (congrArg Value.bool hkb)<|go ?_;refine lI af (ac.addr af)<|lW (ac.atInt af) ?_;refine go ?_;obtain ⟨ao,au,hm⟩:=bZ hm;refine lI au (a1.addr au) ?_;obtain ⟨_,bb,bc,ai,bs⟩:=a1.open_ 2 (by decide) au;obtain ⟨bt,bu,rfl,a2⟩:=bs.row;replace ai:X2 (Za.row 3 rI) 36 1 bb al ag ah ad (aA ar) [.slice bt ao.length bu]:=ai;refine lW ai.atN.one<|Xe rfl<|Wt (col:=bb) [(ab:Int)] 3 ?_;intro b7 bv bw av bx;obtain ⟨bd,hm⟩:=Zx hm;refine Zak (col:=bw) (w:=bv) (r:=rI) (c:=2) (c2:=2) ((a2.gr av).ex) (bx.srcN (NB.int (k:=.i64))) rfl underlying36 Z17 rfl rfl rfl bd.1 bd.2 (by decide) ?_;intro be bf b8 bz a3 a4;replace ai:=(ai.gr av).kpp a3;refine lI au (ai.addr)<|Z29 (v:=(.slice be ((ao++[(ab:Int)]).length) bf)) ai rfl sizeOf36 rfl (by intro u hu;simp only [Value.cells,aM,aO,or_false] at hu;subst hu;rfl) rfl rfl (by decide) ?_;intro b0 a5 b1 a6;replace a6:X2 (Za.row 3 rI) 36 1 bz b0 ag ah ad (aA ar) [.slice be ((ao++[(ab:Int)]).length) bf]:=a6;have b2:=(a4.kp a5).new;have b3:=a6.close b2.has (by decide) (by decide);replace ac:=(((ac.kpp bc).gr av).kpp a3).kp a5;replace ac:=ac.recol 2 1;replace aa:=(((aa.kpp bc).grow av).kpp a3).kp a5 b1;replace aa:=aa.recol 2 1 (by decide) (by decide);refine .ld (d:=3) (v:=(.slice ag ((ad.set (aA ar) (ao++[(ab:Int)])).length) ah)) (congrArg (fun n=>Value.slice ag n ah) (show ad.length=(ad.set (aA ar) (ao++[(ab:Int)])).length by simp only [nS])) ?_;refine go ?_;exact ⟨bp.length,by simp,rfl,⟨_,_,_,_,_,_,rfl,bq,hm,aa,ac,b3,(Yx (congrArg (Value.int .i64) (Yt (aJ br ac.1.1))) rfl)⟩⟩
def Zb1 (aa:Int) (kk_L2:(Int→Int→Option R9)) (ab:Int):Option R9:=
  kk_L2 (i64.wrap (aa+1)) ab
def Zgd (aa ab:Int) (kk_L2:(Int→Int→Option R9)) (ac:Int) (ad:Bool):Option R9:=
  if ad=true then (Zb1 aa kk_L2 ac) else (Zb1 aa kk_L2 ab)
def T4 (N:Nat) (ad:List Int) (ag:Int) (aa:List Int) (ac:Int) (kk_L1:(List Int→Int→Option R9)):Nat→Int→Int→Option R9
  | 0,_,_=>none
  | ah+1,ae,ab=>if (decide (ae<2))=true then ((Zi [i64.wrap ((i64.wrap (2 * ac))+1),i64.wrap ((i64.wrap (2 * ac))+2)] ae).bind fun af=>if (decide (af<(i64.wrap ((ad.length:Int) - 1))))=true then ((Zi aa af).bind fun aj=>(Zi aa ab).bind fun ak=>Zgd ae ab (T4 N ad ag aa ac kk_L1 ah) af (decide (aj<ak))) else (Zgd ae ab (T4 N ad ag aa ac kk_L1 ah) af false)) else (if (decide (ab=ac))=true then (some (ag,aa.take (aA (i64.wrap ((ad.length:Int) - 1))))) else ((Zi aa ab).bind fun al=>(Zi aa ac).bind fun am=>(some (aa.set (aA ac) al)).bind fun ai=>(Zi ai ab).bind fun ao=>(some (ai.set (aA ab) am)).bind fun an=>kk_L1 an ab))
def T3 (N:Nat) (aa:List Int) (ab:Int):Nat→R2→Int→Option R9
  | 0,_,_=>none
  | ad+1,ae,ac=>T4 N aa ab ae ac (T3 N aa ab ad) N 0 ac
def Zi1 (N:Nat) (aa:List Int):Option R9:=
  (Zi aa 0).bind fun ac=>(Zi aa (i64.wrap ((aa.length:Int) - 1))).bind fun ad=>(some (aa.set (aA 0) ad)).bind fun ab=>Zv ((0:Int)≤(i64.wrap ((aa.length:Int) - 1))∧(i64.wrap ((aa.length:Int) - 1))≤(ab.length:Int)) (T3 N aa ac N ab 0)
theorem Zy6 {N g0 al:Nat} {am:Option Addr} {col:Zd} {w0:World} {aa:R2} {r:R9} (qc0 ai:Nat) (hm:Zi1 N aa=some r) (hd:Sy [qc0,ai]=true) (ap:Zb rI 3 ai col w0 am al aa) (hb0:Ze 206 qc0 col w0 g0 #[.slice am aa.length al]):
    Calls prog 218 #[.pointer (some ⟨g0,0,none⟩)] w0 (fun e w'=>∃ col' oa1 oc2,e= .returned ((.int .i64 r.1))∧Z1 (pS [qc0,ai]) col w0 col' w'∧Zb rI 3 ai col' w' oa1 oc2 r.2∧Ze 206 qc0 col' w' g0 #[.slice oa1 r.2.length oc2]):=by
 refine Z7 2 (m:=76) func218 rfl rfl rfl rfl rfl ?_;rw [Zi1.eq_1] at hm;have ac:=St.startL (l:=[qc0,ai]) rfl col w0;replace hb0:=hb0.startL (Tu hd 0 rfl) (Tt hd 0 rfl);replace ap:=ap.startL (Tu hd 1 rfl) (Tt hd 1 rfl);refine go ?_;refine lV (.pointer (some ⟨g0,0,none⟩)) (Qm rfl)<|lW hb0.at1<|go ?_;obtain ⟨au,av,hm⟩:=bZ hm;refine lI av (ap.addr av)<|lW (ap.atInt av) ?_;refine go ?_;obtain ⟨bm,be,hm⟩:=bZ hm;refine lI be (ap.addr be)<|lW (ap.atInt be)<|lI av (ap.addr av) ?_;obtain ⟨an,ay,hm⟩:=bZ hm;have ay:an=aa.set (aA 0) bm:=(Option.some.inj ay).symm;refine Yp (x1:=bm) ap av ?_;intro bu bn bv az;rw [← ay] at az;refine .ld (d:=3) (v:=(.slice am an.length al)) (congrArg (fun n=>Value.slice am n al) (show aa.length=an.length by rw [ay,nS])) ?_;replace hb0:=hb0.kp bn;replace hb0:Ze 206 440 (Xl [qc0,ai] col) bu g0 #[.slice am an.length al]:=by rw [← (show aa.length=an.length by rw [ay,nS])];exact hb0
 refine go ?_;obtain ⟨bf,hm⟩:=Zx hm;refine lv (v:=.slice am (aA (i64.wrap ((aa.length:Int) - 1))) al) rfl rfl (V8 underlying206 sizeOf3 rfl rfl bf.1 (by have:=az.lecap;have:=bf.2;omega))<|.ld (d:=28) (v:=(.slice am ((an.take (aA (i64.wrap ((aa.length:Int) - 1)))).length) al)) (congrArg (fun n=>Value.slice am n al) (bG (show (aA (i64.wrap ((aa.length:Int) - 1)))≤an.length by have:=bf.2;omega)).symm) ?_;refine lV (.pointer (some ⟨g0,0,none⟩)) (Qm rfl)<|W5 (v:=(.slice am ((an.take (aA (i64.wrap ((aa.length:Int) - 1)))).length) al)) hb0 sizeOf206 rfl rfl (by intro u hu;simp only [Value.cells,aM,aO,or_false] at hu;subst hu;rfl) rfl rfl ?_;intro bw bo bx ab;replace ab:Ze 206 440 (Xl [qc0,ai] col) bw g0 #[(.slice am ((an.take (aA (i64.wrap ((aa.length:Int) - 1)))).length) al)]:=ab;refine go ?_;replace ac:=(ac.kp bn bv).kp bo bx;refine Zt [4,5,1000000] (fun n f a4=>∃ a5 af ag ah ak ao,ao=n∧T3 N aa au ao ah ak=some r∧St w0 (Xl [qc0,ai] col) a5 a4∧Zb rI 3 441 a5 a4 af ag ah∧Ze 206 440 a5 a4 g0 #[(.slice af ((ah.take (aA (i64.wrap ((aa.length:Int) - 1)))).length) ag)]∧[3,6].map f=[.slice af ah.length ag,.int .i64 ak]) N ⟨_,_,_,_,0,_,rfl,hm,ac,az.kp bo,ab,rfl⟩ ?_;clear hm;intro n f a4 hI;obtain ⟨a5,af,ag,ah,ak,ao,hn,hm,ac,ad,ab,hs⟩:=hI;subst hn;refine .lL [3,6] hs ?_
 cases ao with
 | zero=>rw [T3.eq_1] at hm;cases hm
 | succ ao=>
  rw [T3.eq_2] at hm;refine go ?_;refine lV (.agg #[(.int .i64 (i64.wrap ((i64.wrap (2 * ak))+1))),(.int .i64 (i64.wrap ((i64.wrap (2 * ak))+2)))]) (Z4i underlying213 sizeOf3 zeroValue213 rfl)<|go ?_;refine Zt [3,37,4,5,6,1000000] (fun n f a6=>∃ ae a0 a1 aq,aq=n∧T4 N aa au ah ak (T3 N aa au ao) aq a0 a1=some r∧St w0 (Xl [qc0,ai] col) ae a6∧Zb rI 3 441 ae a6 af ag ah∧Ze 206 440 ae a6 g0 #[(.slice af ((ah.take (aA (i64.wrap ((aa.length:Int) - 1)))).length) ag)]∧[38,7].map f=[.int .i64 a0,.int .i64 a1]) N ⟨_,0,_,_,rfl,hm,ac,ad,ab,rfl⟩ ?_;clear hm;intro n f a6 hI;obtain ⟨ae,a0,a1,aq,hn,hm,ac,ad,ab,hs⟩:=hI;subst hn;refine .lL [38,7] hs ?_
  cases aq with
  | zero=>rw [T4.eq_1] at hm;cases hm
  | succ aq=>
   rw [T4.eq_2] at hm;refine go ?_;refine Zl hm (fun hb hm=>?_) fun hb hm=>go ?_
   ·refine X7<|Zw ?_;refine Wp.cutK [3,37,38,4,5,6,1000000] (fun f a7=>∃ a8 bg,Zb1 a0 (T4 N aa au ah ak (T3 N aa au ao) aq) bg=some r∧St w0 (Xl [qc0,ai] col) a8 a7∧Zb rI 3 441 a8 a7 af ag ah∧Ze 206 440 a8 a7 g0 #[(.slice af ((ah.take (aA (i64.wrap ((aa.length:Int) - 1)))).length) ag)]∧[7].map f=[.int .i64 bg]) ?_ ?_
    ·intro f a7 hJ;obtain ⟨a8,bg,hm,ac,ad,ab,hs⟩:=hJ;rw [Zb1.eq_1] at hm;refine .lL [7] hs<|go ?_;exact ⟨aq,by omega,rfl,⟨_,_,_,_,rfl,hm,ac,ad,ab,rfl⟩⟩
    refine go ?_;obtain ⟨bp,bz,hm⟩:=bZ hm;refine lV (.int .i64 bp) (Z4p (l:=[i64.wrap ((i64.wrap (2 * ak))+1),i64.wrap ((i64.wrap (2 * ak))+2)]) (k:=.i64) underlying213 sizeOf3 isAgg3 rfl rfl rfl bz)<|Yz rfl<|Zj<|Zw ?_;refine Wp.cutK [3,37,38,4,5,6,7,9,1000000] (fun f a9=>∃ ba bh,Zgd a0 a1 (T4 N aa au ah ak (T3 N aa au ao) aq) bp bh=some r∧St w0 (Xl [qc0,ai] col) ba a9∧Zb rI 3 441 ba a9 af ag ah∧Ze 206 440 ba a9 g0 #[(.slice af ((ah.take (aA (i64.wrap ((aa.length:Int) - 1)))).length) ag)]∧[54].map f=[.bool bh]) ?_ ?_
    ·intro f a9 hJ;obtain ⟨ba,bh,hm,ac,ad,ab,hs⟩:=hJ;rw [Zgd.eq_1] at hm;refine .lL [54] hs ?_;refine Zl hm (fun hb hm=>go ?_) fun hb hm=>?_
     ·exact ⟨rfl,_,_,hm,ac,ad,ab,rfl⟩
     refine X7 ?_;exact ⟨rfl,_,_,hm,ac,ad,ab,rfl⟩
    refine Y0 (col:=ae) (by kernel_rfl) (by kernel_rfl)<|go ?_;refine Xo hm (fun bi hm=>go ?_) fun bi hm=>go ?_
    ·obtain ⟨b0,bj,hm⟩:=bZ hm;refine qI bj (ad.addr bj) ?_;refine go ?_;refine qW (fun _ hC=>(ad.gr (hC.bl ae)).atInt bj) ?_;refine go ?_;obtain ⟨b1,bk,hm⟩:=bZ hm;refine qI bk (ad.addr bk) ?_;refine go ?_;refine qW (fun _ hC=>(ad.gr (hC.bl ae)).atInt bk) ?_;refine go ?_;refine qv (v:=(.bool (decide (b0<b1)))) rfl (fun _ hC=>Z5 (congrArg Value.bool bi) rfl) ?_;refine Xw ?_;intro b6 hC;replace hC:=hC.bl ae;replace ad:=ad.gr hC;replace ab:=ab.gr hC;replace ac:=ac.grow hC;exact ⟨rfl,_,_,hm,ac,ad,ab,rfl⟩
    refine qv (v:=(.bool false)) rfl (fun _ hC=>Xn (congrArg Value.bool bi) rfl) ?_;refine Xw ?_;intro b7 hC;replace hC:=hC.bl ae;replace ad:=ad.gr hC;replace ab:=ab.gr hC;replace ac:=ac.grow hC;exact ⟨rfl,_,_,hm,ac,ad,ab,rfl⟩
   refine Zl hm (fun hb hm=>go ?_) fun hb hm=>go ?_
   ·cases hm;exact ⟨rfl,Sw w0.heap.size [qc0,ai] col ae (fun n=>bif aC n 441 then ai else bif aC n 440 then qc0 else 0),af,ag,rfl,ac.finL rfl (fun n=>bif aC n 441 then ai else bif aC n 440 then qc0 else 0),ac.finOwnL (g:=(fun n=>bif aC n 441 then ai else bif aC n 440 then qc0 else 0)) rfl (ad.take (aA (i64.wrap ((aa.length:Int) - 1)))) (by decide) (by decide) rfl,ac.finBoxL (g:=(fun n=>bif aC n 441 then ai else bif aC n 440 then qc0 else 0)) ab (by decide) (by decide) rfl⟩
   refine Wc (col:=ae) [(0,1),(1,1),(2,1),(3,1),(4,1),(5,1),(6,1),(7,0),(8,1),(9,1),(10,1),(11,0),(12,1),(13,2),(14,1),(15,2)] (by kernel_rfl) (by kernel_rfl)<|xu rfl rfl (fun _=>Vi rfl) ?_;refine xu rfl rfl (fun _=>Wb rfl) ?_;refine xu rfl rfl (fun _=>Vi rfl) ?_;refine xu rfl rfl (fun _=>Wb rfl) ?_;refine xu rfl rfl (fun _=>Vi rfl) ?_;refine xu rfl rfl (fun _=>Wb rfl) ?_;obtain ⟨bq,bb,hm⟩:=bZ hm;refine xu rfl rfl (fun _=>Wa underlying206 sizeOf3 rfl rfl (Xm bb).1 (Xm bb).2.1 (ad.addr bb)) ?_;refine xW (fun _ hC=>(ad.gr (hC.bl ae)).atInt bb) ?_;refine xu rfl rfl (fun _=>Vi rfl) ?_;refine xu rfl rfl (fun _=>Wb rfl) ?_;obtain ⟨br,ar,hm⟩:=bZ hm;refine xu rfl rfl (fun _=>Wa underlying206 sizeOf3 rfl rfl (Xm ar).1 (Xm ar).2.1 (ad.addr ar)) ?_;refine xW (fun _ hC=>(ad.gr (hC.bl ae)).atInt ar) ?_;refine xu rfl rfl (fun _=>Wa underlying206 sizeOf3 rfl rfl (Xm ar).1 (Xm ar).2.1 (ad.addr ar)) ?_;refine xe rfl rfl ?_;intro b8 hC0;have hC:=hC0.bl ae;obtain ⟨aj,aw,hm⟩:=bZ hm;have aw:aj=ah.set (aA ak) bq:=(Option.some.inj aw).symm;refine Yp (x1:=bq) (ad.gr hC) ar ?_;intro b2 bs b3 a2;rw [← aw] at a2;refine .ld (d:=3) (v:=(.slice af aj.length ag)) (congrArg (fun n=>Value.slice af n ag) (show ah.length=aj.length by rw [aw,nS])) ?_;refine .ld (d:=63) (v:=(.slice af aj.length ag)) (congrArg (fun n=>Value.slice af n ag) (show ah.length=aj.length by rw [aw,nS])) ?_;replace ab:=(ab.gr hC).kp bs;replace ab:Ze 206 440 ae b2 g0 #[(.slice af ((aj.take (aA (i64.wrap ((aa.length:Int) - 1)))).length) ag)]:=by rw [← (show (ah.take (aA (i64.wrap ((aa.length:Int) - 1)))).length=(aj.take (aA (i64.wrap ((aa.length:Int) - 1)))).length by rw [nK,nK,(show ah.length=aj.length by rw [aw,nS])])];exact ab
   refine Zj<|xk ae ?_;obtain ⟨b9,bc,hm⟩:=bZ hm;refine xu rfl rfl (fun _=>Wa underlying206 sizeOf3 rfl rfl (Xm bc).1 (Xm bc).2.1 (a2.addr bc)) ?_;refine xe rfl rfl ?_;intro ca hC0;replace ac:=(ac.grow hC).kp bs b3;have hC:=hC0.bl ae;obtain ⟨ax,a3,hm⟩:=bZ hm;have a3:ax=aj.set (aA a1) br:=(Option.some.inj a3).symm;refine Yp (x1:=br) (a2.gr hC) bc ?_;intro b4 bt b5 bd;rw [← a3] at bd;refine .ld (d:=3) (v:=(.slice af ax.length ag)) (congrArg (fun n=>Value.slice af n ag) (show aj.length=ax.length by rw [a3,nS])) ?_;replace ab:=(ab.gr hC).kp bt;replace ab:Ze 206 440 ae b4 g0 #[(.slice af ((ax.take (aA (i64.wrap ((aa.length:Int) - 1)))).length) ag)]:=by rw [← (show (aj.take (aA (i64.wrap ((aa.length:Int) - 1)))).length=(ax.take (aA (i64.wrap ((aa.length:Int) - 1)))).length by rw [nK,nK,(show aj.length=ax.length by rw [a3,nS])])];exact ab
   refine Zj<|xk ae<|Y4 ?_;replace ac:=(ac.grow hC).kp bt b5;intro cb hC;replace hC:=hC.bl ae;refine go ?_;exact ⟨ao,by omega,rfl,⟨_,_,_,_,_,_,rfl,hm,ac.grow hC,bd.gr hC,ab.gr hC,rfl⟩⟩
theorem Z18:Y6 prog 3 1 8:=⟨Tryz.t3,_,rfl,rfl,rfl,rfl,rfl⟩
def Zgf (ab:List Int) (aa:Int) (kk_L1:(List Int→Int→Option R2)) (ad:Bool):Option R2:=
  if ad=true then ((Zi ab (i64.wrap (aU (i64.wrap (aa - 1)) 2))).bind fun ae=>(Zi ab aa).bind fun af=>(some (ab.set (aA aa) ae)).bind fun ac=>(Zi ac (i64.wrap (aU (i64.wrap (aa - 1)) 2))).bind fun ah=>(some (ac.set (aA (i64.wrap (aU (i64.wrap (aa - 1)) 2))) af)).bind fun ag=>kk_L1 ag (i64.wrap (aU (i64.wrap (aa - 1)) 2))) else (some ab)
def Zao (N:Nat):Nat→R2→Int→Option R2
  | 0,_,_=>none
  | ac+1,ab,aa=>if (decide (0<aa))=true then ((Zi ab aa).bind fun ad=>(Zi ab (i64.wrap (aU (i64.wrap (aa - 1)) 2))).bind fun ae=>Zgf ab aa (Zao N ac) (decide (ad<ae))) else (Zgf ab aa (Zao N ac) false)
def Zge (N:Nat) (aa:List Int) (ab:Int):Option R2:=
  Zv ((aa.length+[ab].length) * 8≤140737488355328∧aa.length+[ab].length≤maxLen) (Zao N N (aa++[ab]) (i64.wrap (((aa++[ab]).length:Int) - 1)))
theorem Zqj {N g0 a7:Nat} {a8:Option Addr} {col:Zd} {w0:World} {ao:R2} {an:Int} {r:R2} (qc0 af:Nat) (hm:Zge N ao an=some r) (hd:Sy [qc0,af]=true) (ap:Zb rI 3 af col w0 a8 a7 ao) (hb0:Ze 206 qc0 col w0 g0 #[.slice a8 ao.length a7]):
    Calls prog 217 #[.pointer (some ⟨g0,0,none⟩),.int .i64 an] w0 (fun e w'=>∃ col' oa1 oc2,e= .returned (.tuple #[])∧Z1 (pS [qc0,af]) col w0 col' w'∧Zb rI 3 af col' w' oa1 oc2 r∧Ze 206 qc0 col' w' g0 #[.slice oa1 r.length oc2]):=by
 refine Zf4 (m:=66) (args:=[.pointer (some ⟨g0,0,none⟩),.int .i64 an]) func217 rfl rfl rfl rfl ?_;rw [Zge.eq_1] at hm;have ab:=St.startL (l:=[qc0,af]) rfl col w0;replace hb0:=hb0.startL (Tu hd 0 rfl) (Tt hd 0 rfl);replace ap:=ap.startL (Tu hd 1 rfl) (Tt hd 1 rfl);refine go ?_;refine lV (.pointer (some ⟨g0,0,none⟩)) (Qm rfl)<|lW hb0.at1<|Xe rfl<|Wt (col:=(Xl [qc0,af] col)) [an] 1 ?_;intro bw bi bj a0 bk;obtain ⟨a9,hm⟩:=Zx hm;refine Zak (col:=bj) (w:=bi) (r:=rI) (c:=441) (c2:=441) ((ap.gr a0).ex) (bk.srcN (NB.int (k:=.i64))) rfl underlying206 Z18 rfl rfl rfl a9.1 a9.2 (by decide) ?_;intro ba bb bx bm bc a1;refine lV (.pointer (some ⟨g0,0,none⟩)) (Qm rfl) ?_;refine W5 (v:=(.slice ba ((ao++[an]).length) bb)) ((hb0.gr a0).kpp bc) sizeOf206 rfl rfl (by intro u hu;simp only [Value.cells,aM,aO,or_false] at hu;subst hu;rfl) rfl rfl ?_;intro bn bd bo aa;replace aa:Ze 206 440 bm bn g0 #[.slice ba ((ao++[an]).length) bb]:=aa;have bp:=(a1.kp bd).new;refine go ?_;refine lV (.pointer (some ⟨g0,0,none⟩)) (Qm rfl)<|lW aa.at1<|go ?_;replace ab:=((ab.grow a0).kpp bc).kp bd bo;refine Zt [0,1000000] (fun n f au=>∃ ag ah ai aj ae al,al=n∧Zao N al aj ae=some r∧St w0 (Xl [qc0,af] col) ag au∧Zb rI 3 441 ag au ah ai aj∧Ze 206 440 ag au g0 #[.slice ah aj.length ai]∧[4].map f=[.int .i64 ae]) N ⟨_,_,_,_,_,_,rfl,hm,ab,bp,aa,rfl⟩ ?_;clear hm;intro n f au hI;obtain ⟨ag,ah,ai,aj,ae,al,hn,hm,ab,ac,aa,hs⟩:=hI;subst hn;refine .lL [4] hs ?_
 cases al with
 | zero=>rw [Zao.eq_1] at hm;cases hm
 | succ al=>
  rw [Zao.eq_2] at hm;refine Zw<|Zw ?_;refine Wp.cutK [0,4,1000000] (fun f av=>∃ ad a2,Zgf aj ae (Zao N al) a2=some r∧St w0 (Xl [qc0,af] col) ad av∧Zb rI 3 441 ad av ah ai aj∧Ze 206 440 ad av g0 #[.slice ah aj.length ai]∧[36].map f=[.bool a2]) ?_ ?_
  ·intro f av hJ;obtain ⟨ad,a2,hm,ab,ac,aa,hs⟩:=hJ;rw [Zgf.eq_1] at hm;refine .lL [36] hs ?_;refine Zl hm (fun hb hm=>go ?_) fun hb hm=>go ?_
   ·refine Wc (col:=ad) [(0,1),(1,1),(2,0),(3,1),(4,1),(5,1),(6,0),(7,1),(8,1),(9,1),(10,1),(11,1),(12,0),(13,1),(14,1),(15,1),(16,1),(17,0),(18,1),(19,1),(20,0),(21,1),(22,1),(23,0),(24,1),(25,2),(26,1),(27,2)] (by kernel_rfl) (by kernel_rfl)<|xu rfl rfl (fun _=>Zm4 rfl) ?_;refine xu (v:=(.pointer (some ⟨g0,0,none⟩))) rfl rfl (fun _=>Qm rfl) ?_;refine xW (fun _ hC=>aa.at1.gr (hC.bl ad)) ?_;refine xu rfl rfl (fun _=>Wb rfl) ?_;refine xu rfl rfl (fun _=>Zm4 rfl) ?_;refine xu (v:=(.pointer (some ⟨g0,0,none⟩))) rfl rfl (fun _=>Qm rfl) ?_;refine xW (fun _ hC=>aa.at1.gr (hC.bl ad)) ?_;refine xu rfl rfl (fun _=>Wb rfl) ?_;refine xu rfl rfl (fun _=>Zm5 _ _ rfl rfl) ?_;refine xu (v:=(.int .i64 (i64.wrap (aU (i64.wrap (ae - 1)) 2)))) rfl rfl (fun _=>Vm (i64.wrap (ae - 1)) 2 rfl rfl (by decide)) ?_;refine xu rfl rfl (fun _=>Zm4 rfl) ?_;refine xu (v:=(.pointer (some ⟨g0,0,none⟩))) rfl rfl (fun _=>Qm rfl) ?_;refine xW (fun _ hC=>aa.at1.gr (hC.bl ad)) ?_;refine xu rfl rfl (fun _=>Wb rfl) ?_;refine xu rfl rfl (fun _=>Zm5 _ _ rfl rfl) ?_;refine xu (v:=(.int .i64 (i64.wrap (aU (i64.wrap (ae - 1)) 2)))) rfl rfl (fun _=>Vm (i64.wrap (ae - 1)) 2 rfl rfl (by decide)) ?_;obtain ⟨be,aw,hm⟩:=bZ hm;refine xu rfl rfl (fun _=>Wa underlying206 sizeOf3 rfl rfl (Xm aw).1 (Xm aw).2.1 (ac.addr aw)) ?_;refine xW (fun _ hC=>(ac.gr (hC.bl ad)).atInt aw) ?_;refine xu rfl rfl (fun _=>Zm4 rfl) ?_;refine xu (v:=(.pointer (some ⟨g0,0,none⟩))) rfl rfl (fun _=>Qm rfl) ?_;refine xW (fun _ hC=>aa.at1.gr (hC.bl ad)) ?_;refine xu rfl rfl (fun _=>Wb rfl) ?_;obtain ⟨bf,ak,hm⟩:=bZ hm;refine xu rfl rfl (fun _=>Wa underlying206 sizeOf3 rfl rfl (Xm ak).1 (Xm ak).2.1 (ac.addr ak)) ?_;refine xW (fun _ hC=>(ac.gr (hC.bl ad)).atInt ak) ?_;refine xu rfl rfl (fun _=>Wa underlying206 sizeOf3 rfl rfl (Xm ak).1 (Xm ak).2.1 (ac.addr ak)) ?_;refine xe rfl rfl ?_;intro bz hC0;have hC:=hC0.bl ad;obtain ⟨am,aq,hm⟩:=bZ hm;have aq:am=aj.set (aA ae) be:=(Option.some.inj aq).symm;replace ac:=ac.gr hC;refine Yp (x1:=be) ac ak ?_;intro bq bg br ar;rw [← aq] at ar;refine .ld (d:=46) (v:=(.slice ah am.length ai)) (congrArg (fun n=>Value.slice ah n ai) (show aj.length=am.length by rw [aq,nS])) ?_;replace aa:=(aa.gr hC).kp bg;replace aa:Ze 206 440 ad bq g0 #[.slice ah am.length ai]:=by rw [← (show aj.length=am.length by rw [aq,nS])];exact aa
    refine Zj<|xk ad ?_;obtain ⟨b0,ax,hm⟩:=bZ hm;refine xu rfl rfl (fun _=>Wa underlying206 sizeOf3 rfl rfl (Xm ax).1 (Xm ax).2.1 (ar.addr ax)) ?_;refine xe rfl rfl ?_;intro b1 hC0;replace ab:=(ab.grow hC).kp bg br;have hC:=hC0.bl ad;obtain ⟨a3,ay,hm⟩:=bZ hm;have ay:a3=am.set (aA (i64.wrap (aU (i64.wrap (ae - 1)) 2))) bf:=(Option.some.inj ay).symm;refine Yp (x1:=bf) (ar.gr hC) ax ?_;intro bs bh bt az;rw [← ay] at az;replace aa:=(aa.gr hC).kp bh;replace aa:Ze 206 440 ad bs g0 #[.slice ah a3.length ai]:=by rw [← (show am.length=a3.length by rw [ay,nS])];exact aa
    refine Zj<|xk ad<|Y4 ?_;replace ab:=(ab.grow hC).kp bh bt;intro b2 hC;replace hC:=hC.bl ad;refine go ?_;refine lV (.int .i64 (i64.wrap (aU (i64.wrap (ae - 1)) 2))) (Vm (i64.wrap (ae - 1)) 2 rfl rfl (by decide))<|go ?_;replace aa:=aa.gr hC;replace ab:=ab.grow hC;exact ⟨al,by omega,rfl,⟨_,_,_,_,_,_,rfl,hm,ab,az.gr hC,aa,rfl⟩⟩
   cases hm;exact ⟨rfl,Sw w0.heap.size [qc0,af] col ad (fun n=>bif aC n 441 then af else bif aC n 440 then qc0 else 0),ah,ai,rfl,ab.finL rfl (fun n=>bif aC n 441 then af else bif aC n 440 then qc0 else 0),ab.finOwnL (g:=(fun n=>bif aC n 441 then af else bif aC n 440 then qc0 else 0)) rfl ac (by decide) (by decide) rfl,ab.finBoxL (g:=(fun n=>bif aC n 441 then af else bif aC n 440 then qc0 else 0)) aa (by decide) (by decide) rfl⟩
  refine Y0 (col:=ag) (by kernel_rfl) (by kernel_rfl)<|go ?_;refine Xo hm (fun a4 hm=>go ?_) fun a4 hm=>go ?_
  ·refine qv (v:=(.pointer (some ⟨g0,0,none⟩))) rfl (fun _ hC=>Qm rfl) ?_;refine go ?_;refine qW (fun _ hC=>aa.at1.gr (hC.bl ag)) ?_;refine go ?_;obtain ⟨bu,a5,hm⟩:=bZ hm;refine qI a5 (ac.addr a5) ?_;refine go ?_;refine qW (fun _ hC=>(ac.gr (hC.bl ag)).atInt a5) ?_;refine go ?_;refine qv (v:=(.pointer (some ⟨g0,0,none⟩))) rfl (fun _ hC=>Qm rfl) ?_;refine go ?_;refine qW (fun _ hC=>aa.at1.gr (hC.bl ag)) ?_;refine go ?_;refine qv (v:=(.int .i64 (i64.wrap (aU (i64.wrap (ae - 1)) 2)))) rfl (fun _ hC=>Vm (i64.wrap (ae - 1)) 2 rfl rfl (by decide)) ?_;refine go ?_;obtain ⟨bv,a6,hm⟩:=bZ hm;refine qI a6 (ac.addr a6) ?_;refine go ?_;refine qW (fun _ hC=>(ac.gr (hC.bl ag)).atInt a6) ?_;refine go ?_;refine qv (v:=(.bool (decide (bu<bv)))) rfl (fun _ hC=>Z5 (congrArg Value.bool a4) rfl) ?_;refine Xw ?_;intro b3 hC;replace hC:=hC.bl ag;replace ac:=ac.gr hC;replace aa:=aa.gr hC;replace ab:=ab.grow hC;exact ⟨rfl,_,_,hm,ab,ac,aa,rfl⟩
  refine qv (v:=(.bool false)) rfl (fun _ hC=>Xn (congrArg Value.bool a4) rfl) ?_;refine Xw ?_;intro b4 hC;replace hC:=hC.bl ag;exact ⟨rfl,_,_,hm,ab.grow hC,ac.gr hC,aa.gr hC,rfl⟩
def Zgh (kk_L3:(List Int→R2→Option R2)) (aa ab:List Int):Option R2:=
  kk_L3 aa ab
def Q0 (N:Nat) (ad:List Int) (kk_L2:(List Int→R2→R2→Option R2)) (ae:R9):List Int→R2→R2→Option R2
  | [],aa,ab=>kk_L2 aa ab (ad++[ae.1])
  | ac :: ag,aa,ab=>(Zi aa ac).bind fun ah=>(some (aa.set (aA ac) (i64.wrap (ah - 1)))).bind fun af=>(Zi af ac).bind fun ai=>if (decide (ai=0))=true then ((Zge N ab ac).bind fun aj=>Zgh (Q0 N ad kk_L2 ae ag) af aj) else (Zgh (Q0 N ad kk_L2 ae ag) af ab)
def Uq (N:Nat) (ac:Ra):Nat→R2→R2→R2→Option R2
  | 0,_,_,_=>none
  | ae+1,af,ad,ab=>if (decide (0<(ad.length:Int)))=true then ((Zi1 N ad).bind fun aa=>Zv ((ab.length+[aa.1].length) * 8≤140737488355328∧ab.length+[aa.1].length≤maxLen) ((Zi ac aa.1).bind fun ag=>Q0 N ab (Uq N ac ae) aa ag af aa.2)) else (some ab)
def Zgi (aa:Nat) (kk_L1:(Nat→R2→R2→Option R2)) (ab ac:List Int):Option R2:=
  kk_L1 (aa+1) ab ac
def Qz (N:Nat) (ad:Ra):List R2→Nat→R2→R2→Option R2
  | [],aa,ab,ac=>Uq N ad N ab ac ([]:List Int)
  | ae :: af,aa,ab,ac=>(Zi ab (aa:Int)).bind fun ai=>(some (ab.set (aA (aa:Int)) (ae.length:Int))).bind fun ag=>if (decide ((ae.length:Int)=0))=true then ((Zge N ac (aa:Int)).bind fun ah=>Zgi aa (Qz N ad af) ag ah) else (Zgi aa (Qz N ad af) ag ac)
def Zgg (N:Nat) (aa:Ra) (ab:Ra):Option R2:=
  Zv (aa.length * 8≤281474976710656∧aa.length≤maxLen) (Qz N ab aa 0 (aI aa.length (0:Int)) ([]:List Int))
theorem Zy7 {N cs ct:Nat} {a0 a1:Option Addr} {col:Zd} {w0:World} {af ag:Ra} {r:R2} (c1:Nat) (hm:Zgg N af ag=some r) (h0:Sl rP col w0 a0 cs af) (h1:Sl rP col w0 a1 ct ag):
    Calls prog 206 #[.slice a0 af.length cs,.slice a1 ag.length ct] w0 (W2 .i64 3 c1 col w0 r):=by
 refine Z7 4 (m:=66) func206 rfl rfl rfl rfl rfl ?_;rw [Zgg.eq_1] at hm;have aa:=St.start col w0;refine go ?_;obtain ⟨cu,hm⟩:=Zx hm;refine Ty (col:=(Zg col)) (w:=w0) (r:=rI) (n:=af.length) (x0:=0) 1 rfl underlying36 Tryz.t3 rfl rfl rfl rfl rfl rfl rfl cu.1 cu.2 (Zag .i64 0) ?_;intro d1 d2 c6 c7 bx;refine go ?_;refine S3 (col:=c6) (v:=(nI)) 2 rfl zeroValue206 ?_;intro aq c8 c9 cv ab;replace ab:Ze 206 2 c9 c8 aq #[(nI)]:=ab;refine go ?_;replace aa:=(aa.grow c7).grow cv;refine Zt [1,16,17,6,1000000] (fun n f az=>∃ a2 ah a3 a4 ar bz b0 bj a5,n=a5.length∧af.drop ah=a5∧Qz N ag a5 ah ar bj=some r∧St w0 (Zg col) a2 az∧Zb rI 3 1 a2 az a3 a4 ar∧Zb rI 3 3 a2 az bz b0 bj∧Ze 206 2 a2 az aq #[.slice bz bj.length b0]∧[18,5].map f=[.int .i64 ah,.slice a3 ar.length a4]) af.length ⟨_,0,_,_,_,none,0,_,_,rfl,rfl,hm,aa,bx.gr cv,Zb.nil,ab,rfl⟩ ?_;clear hm;intro n f az hI;obtain ⟨a2,ah,a3,a4,ar,bz,b0,bj,a5,hn,hl,hm,aa,b1,a6,ab,hs⟩:=hI;subst hn;refine .lL [18,5] hs ?_;replace h0:=h0.k0;replace h1:=h1.k0
 cases a5 with
 | nil=>
  have hk:¬ ((ah:Int)<(af.length:Int)):=by have:=aK.1 hl;omega
  have hkb:=decide_eq_false hk;rw [Qz.eq_1] at hm;refine go ?_;refine Yc (congrArg Value.bool hkb)<|go ?_;refine Zt [1,6,1000000] (fun n f au=>∃ av b2 b3 bk b4 b5 bm b6 b7 ai aj,aj=n∧Uq N ag aj bk bm ai=some r∧St w0 (Zg col) av au∧Zb rI 3 1 av au b2 b3 bk∧Zb rI 3 3 av au b4 b5 bm∧Ze 206 2 av au aq #[.slice b4 bm.length b5]∧Zb rI 3 4 av au b6 b7 ai∧[5,9].map f=[.slice b2 bk.length b3,.slice b6 ai.length b7]) N ⟨_,_,_,_,_,_,_,none,0,_,_,rfl,hm,aa,b1,a6,ab,Zb.nil,rfl⟩ ?_;clear hm;intro n f au hI;obtain ⟨av,b2,b3,bk,b4,b5,bm,b6,b7,ai,aj,hn,hm,aa,b8,da,ab,bn,hs⟩:=hI;subst hn;refine .lL [5,9] hs ?_
  cases aj with
  | zero=>rw [Uq.eq_1] at hm;cases hm
  | succ aj=>
   rw [Uq.eq_2] at hm;refine go ?_;refine lW ab.at1<|go ?_;refine Zl hm (fun hb hm=>go ?_) fun hb hm=>go ?_
   ·obtain ⟨a7,db,hm⟩:=bZ hm;refine Zh (Zy6 2 3 db rfl da ab) ?_;rintro _ d3 ⟨dc,d4,d5,rfl,b9,ca,ad⟩;refine ⟨_,rfl,go ?_⟩;refine Wt (col:=dc) [a7.1] 5 ?_;intro d6 d7 d8 a8 dd;obtain ⟨de,hm⟩:=Zx hm;replace bn:=(bn.kpp b9).gr a8;refine Y9 bn (dd.srcN (NB.int (k:=.i64))) de ?_;intro cw cx d9 ea bo ae;refine go ?_;obtain ⟨aw,cb,hm⟩:=bZ hm;replace aa:=((aa.kpp b9).grow a8).kpp bo;refine lI cb ((h1.ks aa).addr cb) ?_;obtain ⟨_,df,dg⟩:=(h1.ks aa).atN cb;obtain ⟨⟨cy,cz,rfl,ac⟩,_⟩:=df;refine lW dg.one<|go ?_;replace ad:=(ad.gr a8).kpp bo;refine Zt [1,45,46,6,9,1000000] (fun n f ak=>∃ al a9 ba bb ax cc cd bp bc,n=bc.length∧aw.drop a9=bc∧Q0 N ai (Uq N ag aj) a7 bc ax bp=some r∧St w0 (Zg col) al ak∧Sl rI al ak cy cz aw∧Zb rI 3 1 al ak ba bb ax∧Zb rI 3 3 al ak cc cd bp∧Ze 206 2 al ak aq #[.slice cc bp.length cd]∧Zb rI 3 4 al ak cw cx (ai++[a7.1])∧[47,5].map f=[.int .i64 a9,.slice ba ax.length bb]) aw.length ⟨_,0,_,_,_,_,_,_,_,rfl,rfl,hm,aa,ac,((b8.kpp b9).gr a8).kpp bo,(ca.gr a8).kpp bo,ad,ae,rfl⟩ ?_;clear hm;intro n f ak hI;obtain ⟨al,a9,ba,bb,ax,cc,cd,bp,bc,hn,hl,hm,aa,ac,bd,be,ad,ae,hs⟩:=hI;subst hn;refine .lL [47,5] hs ?_
    cases bc with
    | nil=>
     have hk:¬ ((a9:Int)<(aw.length:Int)):=by have:=aK.1 hl;omega
     have hkb:=decide_eq_false hk;rw [Q0.eq_1] at hm;refine go ?_;refine Yc (congrArg Value.bool hkb)<|go ?_;exact ⟨aj,by omega,rfl,⟨_,_,_,_,_,_,_,_,_,_,_,rfl,hm,aa,bd,be,ad,ae,rfl⟩⟩
    | cons dh c0=>
     obtain ⟨am,di,dj⟩:=Ys hl;have hk:(a9:Int)<(aw.length:Int):=by omega
     have hkb:=decide_eq_true hk;rw [Q0.eq_2] at hm;refine go ?_;refine Yd (congrArg Value.bool hkb)<|X7<|Zw ?_;refine Wp.cutK [1,45,46,47,6,9,1000000] (fun f an=>∃ ao ce cf bq cg ch br,Zgh (Q0 N ai (Uq N ag aj) a7 c0) bq br=some r∧St w0 (Zg col) ao an∧Sl rI ao an cy cz aw∧Zb rI 3 1 ao an ce cf bq∧Zb rI 3 3 ao an cg ch br∧Ze 206 2 ao an aq #[.slice cg br.length ch]∧Zb rI 3 4 ao an cw cx (ai++[a7.1])∧[5].map f=[.slice ce bq.length cf]) ?_ ?_
     ·intro f an hJ;obtain ⟨ao,ce,cf,bq,cg,ch,br,hm,aa,ac,dk,dl,ad,ae,hs⟩:=hJ;rw [Zgh.eq_1] at hm;refine .lL [5] hs<|go ?_;exact ⟨c0.length,by simp,rfl,⟨_,_,_,_,_,_,_,_,_,rfl,di,hm,aa,ac,dk,dl,ad,ae,(Yx (congrArg (Value.int .i64) (Yt (aJ dj ac.1.1))) rfl)⟩⟩
     refine go ?_;refine lI am (ac.addr am)<|lW (ac.atInt am) ?_;refine go ?_;obtain ⟨c2,ay,hm⟩:=bZ hm;refine lI ay (bd.addr ay)<|lW (bd.atInt ay) ?_;refine go ?_;refine lI ay (bd.addr ay) ?_;obtain ⟨ci,bs,hm⟩:=bZ hm;have bs:ci=ax.set (aA dh) (i64.wrap (c2 - 1)):=(Option.some.inj bs).symm;refine Yp (x1:=i64.wrap (c2 - 1)) bd ay ?_;intro eb bf dm ap;rw [← bs] at ap;refine .ld (d:=5) (v:=(.slice ba ci.length bb)) (congrArg (fun n=>Value.slice ba n bb) (show ax.length=ci.length by rw [bs,nS])) ?_;refine go ?_;obtain ⟨ec,cj,hm⟩:=bZ hm;refine lI cj (ap.addr cj)<|lW (ap.atInt cj) ?_;refine go ?_;replace ac:=ac.kp bf;replace be:=be.kp bf;replace ae:=ae.kp bf;replace ad:=ad.kp bf;replace aa:=aa.kp bf dm;refine Zl hm (fun hb hm=>go ?_) fun hb hm=>?_
     ·obtain ⟨ed,dn,hm⟩:=bZ hm;refine Zh (Zqj 2 3 dn rfl be ad) fun _ ee ⟨ef,eg,eh,e0,bt,dp,dq⟩=>⟨_,e0,?_⟩;refine Zj ?_;replace ac:=ac.kpp bt;replace ap:=ap.kpp bt;replace ae:=ae.kpp bt;replace aa:=aa.kpp bt;exact ⟨rfl,_,_,_,_,_,_,_,hm,aa,ac,ap,dp,dq,ae,rfl⟩
     refine X7 ?_;exact ⟨rfl,_,_,_,_,_,_,_,hm,aa,ac,ap,be,ad,ae,rfl⟩
   cases hm;exact ⟨rfl,_,_,_,rfl,aa.fin (cm [(4,c1)]),aa.fo bn⟩
 | cons c3 c4=>
  obtain ⟨am,dr,ds⟩:=Ys hl;have hk:(ah:Int)<(af.length:Int):=by omega
  have hkb:=decide_eq_true hk;rw [Qz.eq_2] at hm;refine go ?_;refine Yd (congrArg Value.bool hkb)<|X7<|Zw ?_;refine Wp.cutK [1,16,17,18,6,1000000] (fun f bg=>∃ bh ck cl bu cn co bv,Zgi ah (Qz N ag c4) bu bv=some r∧St w0 (Zg col) bh bg∧Zb rI 3 1 bh bg ck cl bu∧Zb rI 3 3 bh bg cn co bv∧Ze 206 2 bh bg aq #[.slice cn bv.length co]∧[5].map f=[.slice ck bu.length cl]) ?_ ?_
  ·intro f bg hJ;obtain ⟨bh,ck,cl,bu,cn,co,bv,hm,aa,dt,du,ab,hs⟩:=hJ;rw [Zgi.eq_1] at hm;refine .lL [5] hs<|go ?_;exact ⟨c4.length,by simp,rfl,⟨_,_,_,_,_,_,_,_,_,rfl,dr,hm,aa,dt,du,ab,(Yx (congrArg (Value.int .i64) (Yt (aJ ds (h0.ks aa).1.1))) rfl)⟩⟩
  refine go ?_;refine lI am ((h0.ks aa).addr am) ?_;obtain ⟨_,dv,dw⟩:=(h0.ks aa).atN am;obtain ⟨⟨ei,ej,rfl,ek⟩,_⟩:=dv;refine lW dw.one<|go ?_;obtain ⟨el,cp,hm⟩:=bZ hm;refine lI cp (b1.addr cp) ?_;obtain ⟨cq,bw,hm⟩:=bZ hm;have bw:cq=ar.set (aA (ah:Int)) (c3.length:Int):=(Option.some.inj bw).symm;refine Yp (x1:=(c3.length:Int)) b1 cp ?_;intro em cr dx bi;rw [← bw] at bi;refine .ld (d:=5) (v:=(.slice a3 cq.length a4)) (congrArg (fun n=>Value.slice a3 n a4) (show ar.length=cq.length by rw [bw,nS])) ?_;refine go ?_;replace a6:=a6.kp cr;replace ab:=ab.kp cr;replace aa:=aa.kp cr dx;refine Zl hm (fun hb hm=>go ?_) fun hb hm=>?_
  ·obtain ⟨en,dy,hm⟩:=bZ hm;refine Zh (Zqj 2 3 dy rfl a6 ab) fun _ eo ⟨ep,eq,er,e0,c5,dz,d0⟩=>⟨_,e0,?_⟩;refine Zj ?_;replace bi:=bi.kpp c5;replace aa:=aa.kpp c5;exact ⟨rfl,_,_,_,_,_,_,_,hm,aa,bi,dz,d0,rfl⟩
  refine X7 ?_;exact ⟨rfl,_,_,_,_,_,_,_,hm,aa,bi,a6,ab,rfl⟩
def Zan (N:Nat) (aa:Ra):Option Rf:=
  (Zgb aa).bind fun ab=>if (!decide (ab=0))=true then (some (([]:List Int),ab)) else ((Zga aa).bind fun ad=>(Zgg N aa ad).bind fun ac=>if (decide ((ac.length:Int)<(aa.length:Int)))=true then (some (([]:List Int),42)) else (some (ac,0)))
theorem Zy3 {N ad:Nat} {a0:Option Addr} {col:Zd} {w0:World} {ab:Ra} {r:Rf} (c1:Nat) (hm:Zan N ab=some r) (h0:Sl rP col w0 a0 ad ab):
    Calls prog 171 #[.slice a0 ab.length ad] w0 (fun e w'=>∃ col' ra1 rc2,e= .returned (.tuple #[.slice ra1 r.1.length rc2,.int .i64 r.2])∧Zk col w0 col' w'∧Zb rI 3 c1 col' w' ra1 rc2 r.1):=by
 refine Zdk 2 3 (m:=21) (args:=[.slice a0 ab.length ad]) func171 rfl rfl rfl rfl rfl ?_;rw [Zan.eq_1] at hm;have aa:=St.start col w0;refine go ?_;obtain ⟨ap,ah,hm⟩:=bZ hm;replace h0:=h0.k0;refine Zh (Zy5 ah (h0.ks aa)) fun _ ai ⟨e0,ae⟩=>⟨_,e0,?_⟩;replace ae:Zk (Zg col) w0 (Zg col) ai:=.of_below ae;refine go ?_;replace aa:=aa.grow ae;refine Zl hm (fun hb hm=>go ?_) fun hb hm=>go ?_
 ·cases hm;exact ⟨rfl,_,none,0,rfl,aa.fin (cm []),Zb.nil⟩
 obtain ⟨aq,aj,hm⟩:=bZ hm;refine Zh (Zy4 1 aj (h0.ks aa)) fun _ ak ⟨af,ar,au,e0,al,am⟩=>⟨_,e0,?_⟩;obtain ⟨av,an,hm⟩:=bZ hm;replace aa:=aa.grow al;refine Zh (Zy7 2 an ((h0.ks aa).froz 1) (am.toSlF (Zm.row (Zm.int .i64)))) fun _ aw ⟨ao,ax,ay,e0,ac,ag⟩=>⟨_,e0,?_⟩;replace ag:=ag.thaw (Z8 .i64) ac ((Fz.refl (col:=af)).froz 1);replace ac:=ac.thawR (col:=af);generalize Xb ak.heap.size af ao=az at *;refine go ?_;replace aa:=aa.grow ac;refine Zl hm (fun hb hm=>go ?_) fun hb hm=>go ?_
 ·cases hm;exact ⟨rfl,_,none,0,rfl,aa.fin (cm []),Zb.nil⟩
 cases hm;exact ⟨rfl,_,_,_,rfl,aa.fin (cm [(2,c1)]),aa.fo ag⟩
def S6 (N:Nat) (aa:Ra):Option Int:=
  (Zan N aa).bind fun ab=>some ab.2
theorem Zy2 {N ad:Nat} {a0:Option Addr} {col:Zd} {w0:World} {ac:Ra} {r:Int} (hm:S6 N ac=some r) (h0:Sl rP col w0 a0 ad ac):
    Calls prog 132 #[.slice a0 ac.length ad] w0 (Wq w0 r):=by
 refine Z7 2 (m:=11) func132 rfl rfl rfl rfl rfl ?_;rw [S6.eq_1] at hm;have aa:=St.start col w0;refine go ?_;obtain ⟨ab,ag,hm⟩:=bZ hm;refine Zh (Zy3 1 ag (h0.k0.ks aa)) fun _ ai ⟨aj,ae,af,e0,ah,ak⟩=>⟨_,e0,?_⟩;refine lM (.tuple #[.slice ae ab.1.length af,.int .i64 ab.2])<|lV (.slice ae ab.1.length af) (X6 rfl rfl)<|lV (.int .i64 ab.2) (X6 rfl rfl)<|go ?_;cases hm;exact ⟨rfl,rfl,(aa.grow ah).below⟩
def Zhs (aa:Int) (kk_L2:(Int→Option Bool)) (ab:Bool):Option Bool:=
  if ab=true then (some false) else (kk_L2 (i64.wrap (aa+1)))
def Za8 (N:Nat) (aa:Ra) (ab:Int) (kk_L1:(Int→Option Bool)):Nat→Int→Option Bool
  | 0,_=>none
  | ad+1,ac=>(Zi aa ab).bind fun ae=>if (decide (ac<(ae.length:Int)))=true then ((Zi ae ac).bind fun af=>if (decide (af<0))=true then (Zhs ac (Za8 N aa ab kk_L1 ad) true) else (Zhs ac (Za8 N aa ab kk_L1 ad) (decide ((aa.length:Int)≤af)))) else (kk_L1 (i64.wrap (ab+1)))
def Q5 (N:Nat) (aa:Ra):Nat→Int→Option Bool
  | 0,_=>none
  | ac+1,ab=>if (decide (ab<(aa.length:Int)))=true then (Za8 N aa ab (Q5 N aa ac) N 0) else (some true)
def Zhr (N:Nat) (aa:Ra):Option Bool:=
  Q5 N aa N 0
theorem Z0f {N ak:Nat} {a0:Option Addr} {col:Zd} {w0:World} {ab:Ra} {r:Bool} (hm:Zhr N ab=some r) (h0:Sl rP col w0 a0 ak ab):
    Calls prog 140 #[.slice a0 ab.length ak] w0 (W1 w0 r):=by
 refine Z7 2 (m:=36) func140 rfl rfl rfl rfl rfl ?_;rw [Zhr.eq_1] at hm;have aa:=St.start col w0;refine go ?_;refine Zt [0,1000000] (fun n f al=>∃ am af ac,ac=n∧Q5 N ab ac af=some r∧St w0 (Zg col) am al∧[3].map f=[.int .i64 af]) N ⟨_,0,_,rfl,hm,aa,rfl⟩ ?_;clear hm;intro n f al hI;obtain ⟨am,af,ac,hn,hm,aa,hs⟩:=hI;subst hn;refine .lL [3] hs ?_;replace h0:=h0.k0
 cases ac with
 | zero=>rw [Q5.eq_1] at hm;cases hm
 | succ ac=>
  rw [Q5.eq_2] at hm;refine go ?_;refine Zl hm (fun hb hm=>go ?_) fun hb hm=>go ?_
  ·refine Zt [0,3,1000000] (fun n f an=>∃ ao ag ad,ad=n∧Za8 N ab af (Q5 N ab ac) ad ag=some r∧St w0 (Zg col) ao an∧[4].map f=[.int .i64 ag]) N ⟨_,0,_,rfl,hm,aa,rfl⟩ ?_;clear hm;intro n f an hI;obtain ⟨ao,ag,ad,hn,hm,aa,hs⟩:=hI;subst hn;refine .lL [4] hs ?_
   cases ad with
   | zero=>rw [Za8.eq_1] at hm;cases hm
   | succ ad=>
    rw [Za8.eq_2] at hm;refine go ?_;obtain ⟨az,ae,hm⟩:=bZ hm;refine lI ae ((h0.ks aa).addr ae) ?_;obtain ⟨_,au,av⟩:=(h0.ks aa).atN ae;obtain ⟨⟨a1,a2,rfl,a3⟩,_⟩:=au;refine lW av.one<|go ?_;refine Zl hm (fun hb hm=>go ?_) fun hb hm=>go ?_
    ·refine lI ae ((h0.ks aa).addr ae) ?_;obtain ⟨_,aw,ax⟩:=(h0.ks aa).atN ae;obtain ⟨⟨a4,a5,rfl,ap⟩,_⟩:=aw;refine lW ax.one<|Xe rfl ?_;obtain ⟨ay,ah,hm⟩:=bZ hm;refine lI ah (ap.addr ah)<|lW (ap.atInt ah)<|Yz rfl<|Zj<|Zw ?_;refine Wp.cutK [0,3,4,1000000] (fun f aq=>∃ ar ai,Zhs ag (Za8 N ab af (Q5 N ab ac) ad) ai=some r∧St w0 (Zg col) ar aq∧[35].map f=[.bool ai]) ?_ ?_
     ·intro f aq hJ;obtain ⟨ar,ai,hm,aa,hs⟩:=hJ;rw [Zhs.eq_1] at hm;refine .lL [35] hs ?_;refine Zl hm (fun hb hm=>go ?_) fun hb hm=>go ?_
      ·cases hm;exact ⟨rfl,rfl,aa.below⟩
      exact ⟨ad,by omega,rfl,⟨_,_,_,rfl,hm,aa,rfl⟩⟩
     refine go ?_;refine Xo hm (fun aj hm=>go ?_) fun aj hm=>go ?_
     ·refine lV (.bool true) (Z5 (congrArg Value.bool aj) rfl)<|Zj ?_;exact ⟨rfl,_,_,hm,aa,rfl⟩
     refine lV (.bool (decide ((ab.length:Int)≤ay))) (Xn (congrArg Value.bool aj) rfl)<|Zj ?_;exact ⟨rfl,_,_,hm,aa,rfl⟩
    exact ⟨ac,by omega,rfl,⟨_,_,_,rfl,hm,aa,rfl⟩⟩
  cases hm;exact ⟨rfl,rfl,aa.below⟩
def Zes (N:Nat) (aa:List Int) (ac:Int):Nat→Int→Option Bool
  | 0,_=>none
  | ad+1,ab=>if (decide (ab<(aa.length:Int)))=true then ((Zi aa ab).bind fun ae=>if (decide (ae=ac))=true then (some true) else ((Zes N aa ac ad) (i64.wrap (ab+1)))) else (some false)
def Zer (N:Nat) (aa:List Int) (ab:Int):Option Bool:=
  Zes N aa ab N 0
theorem Zn3 {N ag:Nat} {a0:Option Addr} {col:Zd} {w0:World} {ac:R2} {ad:Int} {r:Bool} (hm:Zer N ac ad=some r) (h0:Sl rI col w0 a0 ag ac):
    Calls prog 176 #[.slice a0 ac.length ag,.int .i64 ad] w0 (W1 w0 r):=by
 refine Z7 4 (m:=18) func176 rfl rfl rfl rfl rfl ?_;rw [Zer.eq_1] at hm;have aa:=St.start col w0;refine go ?_;refine Zt [0,1,1000000] (fun n f ah=>∃ ai ae ab,ab=n∧Zes N ac ad ab ae=some r∧St w0 (Zg col) ai ah∧[5].map f=[.int .i64 ae]) N ⟨_,0,_,rfl,hm,aa,rfl⟩ ?_;clear hm;intro n f ah hI;obtain ⟨ai,ae,ab,hn,hm,aa,hs⟩:=hI;subst hn;refine .lL [5] hs ?_;replace h0:=h0.k0
 cases ab with
 | zero=>rw [Zes.eq_1] at hm;cases hm
 | succ ab=>
  rw [Zes.eq_2] at hm;refine go ?_;refine Zl hm (fun hb hm=>go ?_) fun hb hm=>go ?_
  ·obtain ⟨aj,af,hm⟩:=bZ hm;refine lI af ((h0.ks aa).addr af)<|lW ((h0.ks aa).atInt af) ?_;refine go ?_;refine Zl hm (fun hb hm=>go ?_) fun hb hm=>go ?_
   ·cases hm;exact ⟨rfl,rfl,aa.below⟩
   exact ⟨ab,by omega,rfl,⟨_,_,_,rfl,hm,aa,rfl⟩⟩
  cases hm;exact ⟨rfl,rfl,aa.below⟩
def Zet (N:Nat) (ad:Ra) (ac:Int) (kk_L1:(Int→Option Bool)):Nat→Int→Option Bool
  | 0,_=>none
  | ae+1,aa=>(Zi ad ac).bind fun ab=>if (decide (aa<(ab.length:Int)))=true then (Zv ((0:Int)≤aa∧aa≤(ab.length:Int)) ((Zi ab aa).bind fun af=>(Zer N (ab.take (aA aa)) af).bind fun ag=>if ag=true then (some true) else ((Zet N ad ac kk_L1 ae) (i64.wrap (aa+1))))) else (kk_L1 (i64.wrap (ac+1)))
def Zba (N:Nat) (aa:Ra):Nat→Int→Option Bool
  | 0,_=>none
  | ac+1,ab=>if (decide (ab<(aa.length:Int)))=true then (Zet N aa ab (Zba N aa ac) N 0) else (some false)
def Zhv (N:Nat) (aa:Ra):Option Bool:=
  Zba N aa N 0
theorem Z0h {N am:Nat} {a0:Option Addr} {col:Zd} {w0:World} {af:Ra} {r:Bool} (hm:Zhv N af=some r) (h0:Sl rP col w0 a0 am af):
    Calls prog 141 #[.slice a0 af.length am] w0 (W1 w0 r):=by
 refine Z7 2 (m:=34) func141 rfl rfl rfl rfl rfl ?_;rw [Zhv.eq_1] at hm;have aa:=St.start col w0;refine go ?_;refine Zt [0,1000000] (fun n f an=>∃ ao ah ad,ad=n∧Zba N af ad ah=some r∧St w0 (Zg col) ao an∧[3].map f=[.int .i64 ah]) N ⟨_,0,_,rfl,hm,aa,rfl⟩ ?_;clear hm;intro n f an hI;obtain ⟨ao,ah,ad,hn,hm,aa,hs⟩:=hI;subst hn;refine .lL [3] hs ?_;replace h0:=h0.k0
 cases ad with
 | zero=>rw [Zba.eq_1] at hm;cases hm
 | succ ad=>
  rw [Zba.eq_2] at hm;refine go ?_;refine Zl hm (fun hb hm=>go ?_) fun hb hm=>go ?_
  ·refine Zt [0,3,1000000] (fun n f ap=>∃ ac ae ag,ag=n∧Zet N af ah (Zba N af ad) ag ae=some r∧St w0 (Zg col) ac ap∧[4].map f=[.int .i64 ae]) N ⟨_,0,_,rfl,hm,aa,rfl⟩ ?_;clear hm;intro n f ap hI;obtain ⟨ac,ae,ag,hn,hm,aa,hs⟩:=hI;subst hn;refine .lL [4] hs ?_
   cases ag with
   | zero=>rw [Zet.eq_1] at hm;cases hm
   | succ ag=>
    rw [Zet.eq_2] at hm;refine go ?_;obtain ⟨aq,ab,hm⟩:=bZ hm;refine lI ab ((h0.ks aa).addr ab) ?_;obtain ⟨_,av,aw⟩:=(h0.ks aa).atN ab;obtain ⟨⟨a4,a5,rfl,a6⟩,_⟩:=av;refine lW aw.one<|go ?_;refine Zl hm (fun hb hm=>go ?_) fun hb hm=>go ?_
    ·refine Y0 (col:=ac) (by kernel_rfl) (by kernel_rfl)<|go ?_;refine qI ab ((h0.ks aa).addr ab) ?_;obtain ⟨_,ax,ay⟩:=(h0.ks aa).atN ab;obtain ⟨⟨ai,aj,rfl,ar⟩,_⟩:=ax;refine qW (fun _ hC=>ay.one.gr (hC.bl ac)) ?_;refine go ?_;obtain ⟨ak,hm⟩:=Zx hm;refine qv (v:=.slice ai (aA ae) aj) rfl (fun _ hC=>V8 underlying36 sizeOf3 rfl rfl ak.1 (by have:=ar.1.2;have:=ak.2;omega)) ?_;refine .ld (d:=25) (v:=(.slice ai ((aq.take (aA ae)).length) aj)) (congrArg (fun n=>Value.slice ai n aj) (bG (show (aA ae)≤aq.length by have:=ak.2;omega)).symm) ?_;refine go ?_;refine qI ab ((h0.ks aa).addr ab) ?_;obtain ⟨_,az,a1⟩:=(h0.ks aa).atN ab;obtain ⟨⟨a7,a8,rfl,au⟩,_⟩:=az;refine qW (fun _ hC=>a1.one.gr (hC.bl ac)) ?_;refine go ?_;obtain ⟨a9,al,hm⟩:=bZ hm;refine qI al (au.addr al)<|qW (fun _ hC=>(au.gr (hC.bl ac)).atInt al) ?_;obtain ⟨a2,a3,hm⟩:=bZ hm;refine qc (v:=(.bool a2)) rfl (fun _ hC=>⟨_,_,Sn call176 rfl rfl,(Zn3 a3 ((ar.take (aA ae)).gr (hC.bl ac)):).mono fun _ _ h=>⟨h.1,hC.trans (.of_below h.2)⟩⟩) ?_;refine Xw ?_;intro ba hC;replace aa:=aa.grow (hC.bl ac);refine Zl hm (fun hb hm=>go ?_) fun hb hm=>go ?_
     ·cases hm;exact ⟨rfl,rfl,aa.below⟩
     exact ⟨ag,by omega,rfl,⟨_,_,_,rfl,hm,aa,rfl⟩⟩
    exact ⟨ad,by omega,rfl,⟨_,_,_,rfl,hm,aa,rfl⟩⟩
  cases hm;exact ⟨rfl,rfl,aa.below⟩
def Zht (aa:Int) (kk_L2:(Int→Int→Option R2)) (ab:Int):Option R2:=
  kk_L2 ab (i64.wrap (aa+1))
def Zhu (aa:Int) (kk_L3:(Bool→Int→Option R2)) (ab:Bool):Option R2:=
  kk_L3 ab (i64.wrap (aa+1))
def Za9 (N:Nat) (ac:Ra) (ad:List Int) (ae aa:Int) (kk_L2:(Int→Int→Option R2)):Nat→Bool→Int→Option R2
  | 0,_,_=>none
  | af+1,ag,ab=>(Zi ac aa).bind fun ah=>if (decide (ab<(ah.length:Int)))=true then (if ag=true then ((Zi ah ab).bind fun ai=>(Zer N ad ai).bind fun aj=>Zhu ab (Za9 N ac ad ae aa kk_L2 af) aj) else (Zhu ab (Za9 N ac ad ae aa kk_L2 af) false)) else (if ag=true then (Zht aa kk_L2 aa) else (Zht aa kk_L2 ae))
def Zcm (N:Nat) (ad:Ra) (aa:List Int) (kk_L1:(List Int→Option R2)) (ab ac:Int) (kk_L2:(Int→Int→Option R2)) (ae:Bool):Option R2:=
  if ae=true then ((Zer N aa ac).bind fun af=>Za9 N ad aa ab ac kk_L2 N (!af) 0) else (if (decide (ab<0))=true then (some aa) else (Zv ((aa.length+[ab].length) * 8≤140737488355328∧aa.length+[ab].length≤maxLen) (kk_L1 (aa++[ab]))))
def U3 (N:Nat) (aa:Ra) (ab:List Int) (kk_L1:(List Int→Option R2)):Nat→Int→Int→Option R2
  | 0,_,_=>none
  | ae+1,ac,ad=>if (decide (ad<(aa.length:Int)))=true then (Zcm N aa ab kk_L1 ac ad (U3 N aa ab kk_L1 ae) (decide (ac<0))) else (Zcm N aa ab kk_L1 ac ad (U3 N aa ab kk_L1 ae) false)
def Uf (N:Nat) (aa:Ra):Nat→R2→Option R2
  | 0,_=>none
  | ab+1,ac=>U3 N aa ac (Uf N aa ab) N (-1) 0
def Qe (N:Nat) (aa:Ra):Option R2:=
  Uf N aa N ([]:List Int)
theorem Z0g {N bb:Nat} {a0:Option Addr} {col:Zd} {w0:World} {ac:Ra} {r:R2} (c1:Nat) (hm:Qe N ac=some r) (h0:Sl rP col w0 a0 bb ac):
    Calls prog 142 #[.slice a0 ac.length bb] w0 (W2 .i64 3 c1 col w0 r):=by
 refine Z7 2 (m:=52) func142 rfl rfl rfl rfl rfl ?_;rw [Qe.eq_1] at hm;have aa:=St.start col w0;refine go ?_;refine Zt [0,1000000] (fun n f av=>∃ aw ag ah ad ae,ae=n∧Uf N ac ae ad=some r∧St w0 (Zg col) aw av∧Zb rI 3 1 aw av ag ah ad∧[3].map f=[.slice ag ad.length ah]) N ⟨_,none,0,_,_,rfl,hm,aa,Zb.nil,rfl⟩ ?_;clear hm;intro n f av hI;obtain ⟨aw,ag,ah,ad,ae,hn,hm,aa,ab,hs⟩:=hI;subst hn;refine .lL [3] hs ?_;replace h0:=h0.k0
 cases ae with
 | zero=>rw [Uf.eq_1] at hm;cases hm
 | succ ae=>
  rw [Uf.eq_2] at hm;refine go ?_;refine Zt [0,3,1000000] (fun n f ax=>∃ ay ai aj af,af=n∧U3 N ac ad (Uf N ac ae) af ai aj=some r∧St w0 (Zg col) ay ax∧Zb rI 3 1 ay ax ag ah ad∧[4,5].map f=[.int .i64 ai,.int .i64 aj]) N ⟨_,_,0,_,rfl,hm,aa,ab,rfl⟩ ?_;clear hm;intro n f ax hI;obtain ⟨ay,ai,aj,af,hn,hm,aa,ab,hs⟩:=hI;subst hn;refine .lL [4,5] hs ?_
  cases af with
  | zero=>rw [U3.eq_1] at hm;cases hm
  | succ af=>
   rw [U3.eq_2] at hm;refine Zw<|Zw ?_;refine Wp.cutK [0,3,4,5,1000000] (fun f ao=>∃ al az,Zcm N ac ad (Uf N ac ae) ai aj (U3 N ac ad (Uf N ac ae) af) az=some r∧St w0 (Zg col) al ao∧Zb rI 3 1 al ao ag ah ad∧[15].map f=[.bool az]) ?_ ?_
   ·intro f ao hJ;obtain ⟨al,az,hm,aa,ab,hs⟩:=hJ;rw [Zcm.eq_1] at hm;refine .lL [15] hs ?_;refine Zl hm (fun hb hm=>?_) fun hb hm=>go ?_
    ·refine X7<|Zw ?_;refine Wp.cutK [0,3,5,1000000] (fun f a1=>∃ a2 a3,Zht aj (U3 N ac ad (Uf N ac ae) af) a3=some r∧St w0 (Zg col) a2 a1∧Zb rI 3 1 a2 a1 ag ah ad∧[4].map f=[.int .i64 a3]) ?_ ?_
     ·intro f a1 hJ;obtain ⟨a2,a3,hm,aa,ab,hs⟩:=hJ;rw [Zht.eq_1] at hm;refine .lL [4] hs<|go ?_;exact ⟨af,by omega,rfl,⟨_,_,_,_,rfl,hm,aa,ab,rfl⟩⟩
     refine go ?_;obtain ⟨bs,be,hm⟩:=bZ hm;refine Zh (Zn3 be (ab.toSlF (Zm.int .i64))) fun _ bf ⟨e0,ap⟩=>⟨_,e0,?_⟩;replace ap:Zk al ao al bf:=.of_below ap;refine go ?_;replace ab:=ab.gr ap;replace aa:=aa.grow ap;refine Zt [0,3,4,5,1000000] (fun n f aq=>∃ an a4 ar ak,ak=n∧Za9 N ac ad ai aj (U3 N ac ad (Uf N ac ae) af) ak a4 ar=some r∧St w0 (Zg col) an aq∧Zb rI 3 1 an aq ag ah ad∧[6,7].map f=[.bool a4,.int .i64 ar]) N ⟨_,_,0,_,rfl,hm,aa,ab,rfl⟩ ?_;clear hm;intro n f aq hI;obtain ⟨an,a4,ar,ak,hn,hm,aa,ab,hs⟩:=hI;subst hn;refine .lL [6,7] hs ?_
     cases ak with
     | zero=>rw [Za9.eq_1] at hm;cases hm
     | succ ak=>
      rw [Za9.eq_2] at hm;refine go ?_;obtain ⟨bt,am,hm⟩:=bZ hm;refine lI am ((h0.ks aa).addr am) ?_;obtain ⟨_,bg,bh⟩:=(h0.ks aa).atN am;obtain ⟨⟨bu,bv,rfl,bw⟩,_⟩:=bg;refine lW bh.one<|go ?_;refine Zl hm (fun hb hm=>?_) fun hb hm=>go ?_
      ·refine X7<|Zw ?_;refine Wp.cutK [0,3,4,5,7,1000000] (fun f a5=>∃ a6 a7,Zhu ar (Za9 N ac ad ai aj (U3 N ac ad (Uf N ac ae) af) ak) a7=some r∧St w0 (Zg col) a6 a5∧Zb rI 3 1 a6 a5 ag ah ad∧[6].map f=[.bool a7]) ?_ ?_
       ·intro f a5 hJ;obtain ⟨a6,a7,hm,aa,ab,hs⟩:=hJ;rw [Zhu.eq_1] at hm;refine .lL [6] hs<|go ?_;exact ⟨ak,by omega,rfl,⟨_,_,_,_,rfl,hm,aa,ab,rfl⟩⟩
       refine go ?_;refine Xo hm (fun a8 hm=>go ?_) fun a8 hm=>go ?_
       ·refine lI am ((h0.ks aa).addr am) ?_;refine go ?_;obtain ⟨_,bi,bj⟩:=(h0.ks aa).atN am;obtain ⟨⟨bx,bz,rfl,bc⟩,_⟩:=bi;refine lW bj.one<|go ?_;obtain ⟨b0,a9,hm⟩:=bZ hm;refine lI a9 (bc.addr a9) ?_;refine go ?_;refine lW (bc.atInt a9)<|go ?_;obtain ⟨bk,bm,hm⟩:=bZ hm;refine Zh (Zn3 bm (ab.toSlF (Zm.int .i64))) fun _ bn ⟨e0,au⟩=>⟨_,e0,?_⟩;replace au:Zk an aq an bn:=.of_below au;refine lV (.bool bk) (Z5 (congrArg Value.bool a8) rfl)<|go ?_;replace ab:=ab.gr au;replace aa:=aa.grow au;exact ⟨rfl,_,_,hm,aa,ab,rfl⟩
       refine lV (.bool false) (Xn (congrArg Value.bool a8) rfl)<|go ?_;exact ⟨rfl,_,_,hm,aa,ab,rfl⟩
      refine Zl hm (fun hb hm=>go ?_) fun hb hm=>?_
      ·exact ⟨rfl,_,_,hm,aa,ab,rfl⟩
      refine X7 ?_;exact ⟨rfl,_,_,hm,aa,ab,rfl⟩
    refine Zl hm (fun hb hm=>go ?_) fun hb hm=>go ?_
    ·cases hm;exact ⟨rfl,_,_,_,rfl,aa.fin (cm [(1,c1)]),aa.fo ab⟩
    refine Wt (col:=al) [ai] 2 ?_;intro b1 b2 b3 bd bo;obtain ⟨bp,hm⟩:=Zx hm;replace ab:=ab.gr bd;refine Y9 ab (bo.srcN (NB.int (k:=.i64))) bp ?_;intro b4 b5 b6 b7 bq br;refine go ?_;replace aa:=(aa.grow bd).kpp bq;exact ⟨ae,by omega,rfl,⟨_,_,_,_,_,rfl,hm,aa,br,rfl⟩⟩
   refine go ?_;refine Xo hm (fun ba hm=>go ?_) fun ba hm=>go ?_
   ·refine lV (.bool (decide (ai<0))) (Z5 (congrArg Value.bool ba) rfl)<|Zj ?_;exact ⟨rfl,_,_,hm,aa,ab,rfl⟩
   refine lV (.bool false) (Xn (congrArg Value.bool ba) rfl)<|Zj ?_;exact ⟨rfl,_,_,hm,aa,ab,rfl⟩
def Qd (N:Nat) (aa:Ra):Option Int:=
  (Zhr N aa).bind fun ab=>if (!ab)=true then (some 3) else ((Zhv N aa).bind fun ac=>if ac=true then (some 40) else ((Qe N aa).bind fun ad=>if (decide ((ad.length:Int)<(aa.length:Int)))=true then (some 42) else (some 0)))
theorem Z0e {N ae:Nat} {a0:Option Addr} {col:Zd} {w0:World} {ab:Ra} {r:Int} (hm:Qd N ab=some r) (h0:Sl rP col w0 a0 ae ab):
    Calls prog 97 #[.slice a0 ab.length ae] w0 (Wq w0 r):=by
 refine Z7 2 (m:=18) func97 rfl rfl rfl rfl rfl ?_;rw [Qd.eq_1] at hm;have aa:=St.start col w0;refine go ?_;obtain ⟨al,ag,hm⟩:=bZ hm;replace h0:=h0.k0;refine Zh (Z0f ag (h0.ks aa)) fun _ af ⟨e0,ac⟩=>⟨_,e0,?_⟩;replace ac:Zk (Zg col) w0 (Zg col) af:=.of_below ac;refine go ?_;replace aa:=aa.grow ac;refine Zl hm (fun hb hm=>go ?_) fun hb hm=>go ?_
 ·cases hm;exact ⟨rfl,rfl,aa.below⟩
 obtain ⟨am,ah,hm⟩:=bZ hm;refine Zh (Z0h ah (h0.ks aa)) fun _ ai ⟨e0,ad⟩=>⟨_,e0,?_⟩;replace ad:Zk (Zg col) af (Zg col) ai:=.of_below ad;refine go ?_;replace aa:=aa.grow ad;refine Zl hm (fun hb hm=>go ?_) fun hb hm=>go ?_
 ·cases hm;exact ⟨rfl,rfl,aa.below⟩
 obtain ⟨an,aj,hm⟩:=bZ hm;refine Zh (Z0g 1 aj (h0.ks aa)) ?_;rintro _ ao ⟨ap,aq,ar,rfl,ak,au⟩;refine ⟨_,rfl,go ?_⟩;replace aa:=aa.grow ak;refine Zl hm (fun hb hm=>go ?_) fun hb hm=>go ?_
 ·cases hm;exact ⟨rfl,rfl,aa.below⟩
 cases hm;exact ⟨rfl,rfl,aa.below⟩
theorem Zqa (N:Nat) (l:List Int) (x:Int) (hl:l.length≤1048576):∀ (n k:Nat),l.length<n+k→k≤l.length→Zes N l x n (k:Int)=some (decide (x ∈ l.drop k))
 | 0,k,h,a=>by omega
 | n+1,k,h,a=>by
  rw [Zes.eq_2]
  by_cases hlt:k<l.length
  ·rw [if_pos (by simpa using hlt),Zs hlt,oB,wS (by omega),Zqa N l x hl n (k+1) (by omega) (by omega),aL hlt]
   by_cases he:l[k]=x
   ·rw [if_pos (by simpa using he),decide_eq_true (by rw [he];exact aT)]
   ·rw [if_neg (by simpa using he)]
    exact congrArg some (decide_eq_decide.2 ⟨fun h=>aP _ h,fun h=>(aM.1 h).resolve_left (Ne.symm he)⟩)
  ·rw [if_neg (by simpa using hlt),aF (by omega)];simp
theorem Znm {N:Nat} {l:List Int} {x:Int} (hl:l.length≤1048576) (hN:1048576<N):Zer N l x=some (decide (x ∈ l)):=by
 rw [Zer];simpa using Zqa N l x hl N 0 (by omega) (by omega)
def V6 (m:Int) (P:List R2):Bool:=P.all fun l=>l.all fun p=>decide (0≤p∧p<m)
theorem Zsx (N:Nat) (P:List R2) (i:Nat) (hi:i<P.length) (hP:P.length≤1048576) (hl:P[i].length≤1048576) (kk:Int→Option Bool):∀ (n k:Nat),P[i].length<n+k→k≤P[i].length→
  Za8 N P (i:Int) kk n (k:Int)=if (P[i].drop k).all (fun p=>decide (0≤p∧p<(P.length:Int))) then kk ((i+1:Nat):Int) else some false
 | 0,k,h,a=>by omega
 | n+1,k,h,a=>by
  rw [Za8.eq_2,Zs hi,oB]
  by_cases hlt:k<P[i].length
  ·rw [if_pos (by simpa using hlt),Zs hlt,oB,Zhs,Zhs,wS (by omega),Zsx N P i hi hP hl kk n (k+1) (by omega) (by omega),aL hlt]
   by_cases h1:P[i][k]<0
   ·rw [if_pos (by simpa using h1),if_pos rfl,if_neg (fun h=>by rw [cP,Bool.and_eq_true,decide_eq_true_eq] at h;omega)]
   ·rw [if_neg (by simpa using h1)]
    by_cases h2:(P.length:Int)≤P[i][k]
    ·rw [if_pos (by simpa using h2),if_neg (fun h=>by rw [cP,Bool.and_eq_true,decide_eq_true_eq] at h;omega)]
    ·rw [if_neg (by simpa using h2)]
     simp only [cP,Bool.and_eq_true]
     have b:decide (0≤P[i][k]∧P[i][k]<(P.length:Int))=true:=by simp;omega
     simp only [b,true_and]
  ·rw [if_neg (by simpa using hlt),aF (by omega),wS (by omega)];simp
theorem Zsw (N:Nat) (P:List R2) (hP:P.length≤1048576) (hl:∀ l ∈ P,l.length≤1048576) (hN:1048576<N):∀ (n i:Nat),P.length<n+i→i≤P.length→
  Q5 N P n (i:Int)=some (V6 P.length (P.drop i))
 | 0,i,h,a=>by omega
 | n+1,i,h,a=>by
  rw [Q5.eq_2]
  by_cases hlt:i<P.length
  ·have b:=Zsx N P i hlt hP (hl _ (aD hlt)) (Q5 N P n) N 0 (by have:=hl _ (aD hlt);omega) (by omega)
   rw [if_pos (by simpa using hlt)]
   rw [show (0:Int)=((0:Nat):Int) from rfl,b,Zsw N P hP hl hN n (i+1) (by omega) (by omega),aL hlt]
   simp only [V6,cP,aX]
   by_cases h1:(P[i].all fun p=>decide (0≤p∧p<(P.length:Int)))=true
   ·rw [if_pos h1,h1,Bool.true_and]
   ·rw [if_neg h1,Bool.eq_false_iff.2 h1,Bool.false_and]
  ·rw [if_neg (by simpa using hlt),aF (by omega)];rfl
theorem Z2w {N:Nat} {P:List R2} (hP:P.length≤1048576) (hl:∀ l ∈ P,l.length≤1048576) (hN:1048576<N):Zhr N P=some (V6 P.length P):=by
 rw [Zhr];simpa using Zsw N P hP hl hN N 0 (by omega) (by omega)
def Ux (P:List R2):Bool:=P.any fun l=>!decide l.Nodup
theorem Zul (l:List Int) (k:Nat) (hk:k<l.length):(l.take (k+1)).Nodup↔(l.take k).Nodup∧l[k] ∉ l.take k:=by
 rw [cL hk,cD]
 simp only [cH,aO,not_false_eq_true,List.nodup_nil,and_self,bH,true_and]
 constructor
 ·rintro ⟨c,d⟩;exact ⟨c,fun h=>d _ h _ rfl rfl⟩
 ·rintro ⟨c,d⟩;exact ⟨c,fun a f b g e=>d (by rw [← g,← e];exact f)⟩
theorem Zyj (N:Nat) (P:List R2) (i:Nat) (hi:i<P.length) (hP:P.length≤1048576) (hl:P[i].length≤1048576) (hN:1048576<N) (kk:Int→Option Bool):∀ (n k:Nat),P[i].length<n+k→k≤P[i].length→(P[i].take k).Nodup→
  Zet N P (i:Int) kk n (k:Int)=if P[i].Nodup then kk ((i+1:Nat):Int) else some true
 | 0,k,h,b,_=>by omega
 | n+1,k,h,b,a=>by
  rw [Zet.eq_2,Zs hi,oB]
  by_cases hlt:k<P[i].length
  ·rw [if_pos (by simpa using hlt),Zz (by omega),Zs hlt,oB,Znm (by simp;omega) hN,oB,aB]
   by_cases h1:P[i][k] ∈ P[i].take k
   ·rw [if_pos (by simpa using h1),if_neg]
    intro c
    exact ((Zul _ k hlt).1 (c.sublist (List.take_sublist _ _))).2 h1
   ·rw [if_neg (by simpa using h1),wS (by omega)]
    exact Zyj N P i hi hP hl hN kk n (k+1) (by omega) (by omega) ((Zul _ k hlt).2 ⟨a,h1⟩)
  ·rw [if_neg (by simpa using hlt),wS (by omega)]
   rw [bJ (by omega)] at a
   rw [if_pos a]
theorem Zyi (N:Nat) (P:List R2) (hP:P.length≤1048576) (hl:∀ l ∈ P,l.length≤1048576) (hN:1048576<N):∀ (n i:Nat),P.length<n+i→i≤P.length→
  Zba N P n (i:Int)=some (Ux (P.drop i))
 | 0,i,h,a=>by omega
 | n+1,i,h,a=>by
  rw [Zba.eq_2]
  by_cases hlt:i<P.length
  ·have b:=Zyj N P i hlt hP (hl _ (aD hlt)) hN (Zba N P n) N 0 (by have:=hl _ (aD hlt);omega) (by omega) (by simp)
   rw [if_pos (by simpa using hlt)]
   rw [show (0:Int)=((0:Nat):Int) from rfl,b,Zyi N P hP hl hN n (i+1) (by omega) (by omega),aL hlt]
   simp only [Ux,dL]
   by_cases h1:P[i].Nodup
   ·rw [if_pos h1];simp [h1]
   ·rw [if_neg h1];simp [h1]
  ·rw [if_neg (by simpa using hlt),aF (by omega)];rfl
theorem Z5y {N:Nat} {P:List R2} (hP:P.length≤1048576) (hl:∀ l ∈ P,l.length≤1048576) (hN:1048576<N):Zhv N P=some (Ux P):=by
 rw [Zhv];simpa using Zyi N P hP hl hN N 0 (by omega) (by omega)
def Uw (P:List R2):Nat:=(P.map fX).sum
theorem Zkt (l:List Int) (P:List R2):Uw (l :: P)=l.length+Uw P:=by simp [Uw]
theorem Znd {l:List Int}:∀ {P:List R2},l ∈ P→l.length≤Uw P
 | x :: P,h=>by
  rw [Zkt]
  rcases aM.1 h with rfl | h
  ·omega
  ·have:=Znd h;omega
def Zof:Nat→List R2→List Rc
 | _,[]=>[]
 | k,l :: P=>l.map (fun p=>(p,(k:Int)))++Zof (k+1) P
theorem Z10:∀ (k:Nat) (P:List R2),(Zof k P).length=Uw P
 | _,[]=>rfl
 | k,l :: P=>by rw [Zof,nA,List.length_map,Z10,Zkt]
def U7 (P:List R2) (l:List Int) (i:Nat):Bool:=!decide ((i:Int) ∈ l)&&(P.getD i []).all fun p=>decide (p ∈ l)
def Vh (P:List R2) (l:List Int) (i:Nat):Option Nat:=(List.range' i (P.length - i)).find? (U7 P l)
theorem Z3z (P:List R2) (l:List Int) (i:Nat) (h:P.length≤i):Vh P l i=none:=by
 rw [Vh,Nat.sub_eq_zero_of_le h];rfl
theorem Z31 (P:List R2) (l:List Int) (i:Nat) (h:i<P.length):Vh P l i=if U7 P l i then some i else Vh P l (i+1):=by
 rw [Vh,Vh,show P.length - i=(P.length - (i+1))+1 by omega,List.range'_succ,List.find?_cons]
 cases U7 P l i <;> simp
section
variable (N:Nat) (P:List R2) (l:List Int)
theorem Zo7 (hP:P.length≤1048576) (hl:l.length≤1048576) (hN:1048576<N) (next:Int) (i:Nat) (hi:i<P.length) (hli:P[i].length≤1048576) (kk:Int→Int→Option R2):∀ (n:Nat) (b:Bool) (k:Nat),P[i].length<n+k→k≤P[i].length→
  Za9 N P l next (i:Int) kk n b (k:Int)=kk (if (b&&(P[i].drop k).all fun p=>decide (p ∈ l))=true then (i:Int) else next) ((i+1:Nat):Int)
 | 0,b,k,h,a=>by omega
 | n+1,b,k,h,a=>by
  rw [Za9.eq_2,Zs hi,oB]
  by_cases hlt:k<P[i].length
  ·rw [if_pos (by simpa using hlt),Zs hlt,oB,Znm hl hN,oB,Zhu,Zhu,wS (by omega),Zo7 hP hl hN next i hi hli kk n _ (k+1) (by omega) (by omega),Zo7 hP hl hN next i hi hli kk n _ (k+1) (by omega) (by omega),aL hlt,cP]
   cases b
   ·rw [if_neg (by decide),Bool.false_and,Bool.false_and]
   ·rw [if_pos rfl,Bool.true_and]
  ·rw [if_neg (by simpa using hlt),aF (by omega),Zht,Zht,wS (by omega),List.all_nil,Bool.and_true]
   cases b
   ·rw [if_neg (by decide),if_neg (by decide)]
   ·rw [if_pos rfl,if_pos rfl]
def Zvc (kk:List Int→Option R2):Option Nat→Option R2
 | none=>some l
 | some i=>kk (l++[(i:Int)])
theorem Zut (hl:l.length<1048576) (kk:List Int→Option R2) (i:Nat) (i':Int) (kk2:Int→Int→Option R2):Zcm N P l kk (i:Int) i' kk2 false=kk (l++[(i:Int)]):=by
 rw [Zcm,if_neg (by decide),if_neg (by rw [decide_eq_true_eq];omega),Zz (by simp only [nC,nN,maxLen];omega)]
theorem Zus (hP:P.length≤1048576) (hls:∀ x ∈ P,x.length≤1048576) (hl:l.length<1048576) (hN:1048576<N) (kk:List Int→Option R2):∀ (n i:Nat),P.length<n+i→i≤P.length→
  U3 N P l kk n (-1) (i:Int)=Zvc l kk (Vh P l i)
 | 0,i,h,a=>by omega
 | n+1,i,h,a=>by
  rw [U3.eq_2]
  by_cases hlt:i<P.length
  ·have b:=Zo7 N P l hP (by omega) hN (-1) i hlt (hls _ (aD hlt)) (U3 N P l kk n) N (!decide ((i:Int) ∈ l)) 0 (by have:=hls _ (aD hlt);omega) (by omega)
   rw [if_pos (by simpa using hlt),Zcm,if_pos (by decide),Znm (by omega) hN,oB]
   rw [show (0:Int)=((0:Nat):Int) from rfl,b,Z31 P l i hlt,aX]
   have c:(!decide ((i:Int) ∈ l)&&P[i].all fun p=>decide (p ∈ l))=U7 P l i:=by
    rw [U7,aE,aG hlt];rfl
   rw [c]
   by_cases hr:U7 P l i=true
   ·rw [if_pos hr,if_pos hr]
    match n,h with
    | 0,h=>omega
    | n+1,h=>
     rw [U3.eq_2]
     by_cases h2:i+1<P.length
     ·rw [if_pos (dT (by omega)),show decide ((i:Int)<0)=false from decide_eq_false (by omega)]
      exact Zut N P l hl kk i _ _
     ·rw [if_neg (by rw [decide_eq_true_eq];omega)]
      exact Zut N P l hl kk i _ _
   ·rw [if_neg hr,if_neg hr]
    exact Zus hP hls hl hN kk n (i+1) (by omega) (by omega)
  ·rw [if_neg (by simpa using hlt),Z3z P l i (by omega),Zcm,if_neg (by decide),if_pos (by decide)];rfl
end
theorem Zuu {N:Nat} {P:List R2} {l:List Int} (hP:P.length≤1048576) (hls:∀ x ∈ P,x.length≤1048576) (hl:l.length<1048576) (hN:1048576<N) (n:Nat):
  Uf N P (n+1) l=Zvc l (Uf N P n) (Vh P l 0):=by
 rw [Uf.eq_2]
 exact Zus N P l hP hls hl hN _ N 0 (by omega) (by omega)
theorem Zuj {P:List R2} {l:List Int} {i j:Nat} (h:Vh P l i=some j):i≤j∧j<P.length∧U7 P l j=true∧∀ k,i≤k→k<j→U7 P l k=false:=by
 rw [Vh,List.find?_range'_eq_some] at h
 obtain ⟨d,a,f⟩:=h
 rw [iR] at a
 obtain ⟨q,g,m⟩:=a
 refine ⟨by omega,by omega,d,fun k b c=>?_⟩
 have:=f k b c
 simpa using this
theorem Z30 {P:List R2} {l:List Int} {i:Nat} (h:Vh P l i=none):∀ k,i≤k→k<P.length→U7 P l k=false:=by
 rw [Vh,List.find?_eq_none] at h
 intro k a b
 have:=h k (by rw [iR];exact ⟨k - i,by omega,by omega⟩)
 simpa using this
theorem Z48 {P:List R2} {l:List Int} {i:Nat} (hi:i<P.length):U7 P l i=true↔(i:Int) ∉ l∧∀ p ∈ P[i],p ∈ l:=by
 rw [U7,aE,aG hi]
 simp
def Tc (P:List R2) (l:List Int):Prop:=l.Nodup∧(∀ x ∈ l,0≤x∧x<(P.length:Int))∧∀ (i:Nat) (hi:i<P.length),(i:Int) ∈ l→∀ p ∈ P[i],p ∈ l
theorem Tc.len {P:List R2} {l:List Int} (h:Tc P l):l.length≤P.length:=by
 have a:=Zke (r:=(cS P.length).map fun i:Nat=>(i:Int)) h.1 fun x b=>by
  have:=h.2.1 x b
  exact cE.2 ⟨x.toNat,fE.2 (by omega),by omega⟩
 simpa using a
theorem Tc.step {P:List R2} {l:List Int} {j:Nat} (h:Tc P l) (hn:Vh P l 0=some j):Tc P (l++[(j:Int)])∧l.length<P.length:=by
 obtain ⟨_,m,n,_⟩:=Zuj hn
 obtain ⟨o,q⟩:=(Z48 m).1 n
 have f:Tc P (l++[(j:Int)]):=by
  refine ⟨?_,?_,?_⟩
  ·rw [cD]
   refine ⟨h.1,by simp,fun a r b g e=>?_⟩
   rw [bH] at g;subst g;subst e;exact o r
  ·intro x c
   rcases aZ.1 c with c | c
   ·exact h.2.1 x c
   ·rw [bH] at c;omega
  ·intro i s d p k
   rcases aZ.1 d with d | d
   ·exact gY _ (h.2.2 i s d p k)
   ·rw [bH] at d
    have:i=j:=by omega
    subst this
    exact gY _ (q p k)
 exact ⟨f,by have:=f.len;rw [nA,nC,nN] at this;omega⟩
theorem Zuv {N:Nat} {P:List R2} (hP:P.length<1048576) (hls:∀ x ∈ P,x.length≤1048576) (hN:1048576<N):∀ (n:Nat) (l:List Int),Tc P l→P.length<n+l.length→
  ∃ r,Uf N P n l=some r∧Tc P r∧Vh P r 0=none
 | 0,l,h,a=>by have:=h.len;omega
 | n+1,l,h,a=>by
  have c:=h.len
  rw [Zuu (by omega) hls (by omega) hN]
  cases hnx:Vh P l 0 with
  | none=>exact ⟨l,rfl,h,hnx⟩
  | some j=>
   obtain ⟨b,d⟩:=h.step hnx
   exact Zuv hP hls hN n _ b (by simp;omega)
theorem Z4a {N:Nat} {P:List R2} (hP:P.length<1048576) (hls:∀ x ∈ P,x.length≤1048576) (hN:1048576<N):∃ r,Qe N P=some r∧Tc P r∧Vh P r 0=none:=by
 rw [Qe]
 exact Zuv hP hls hN N [] ⟨.nil,by simp,by simp⟩ (by simp;omega)
def gD (h:List Int) (j:Nat):Int:=h.getD j 0
theorem S1 {h:List Int} {j:Nat} (hj:j<h.length):gD h j=h[j]:=by rw [gD,aE,aG hj];rfl
theorem Qr {h:List Int} {j:Nat} (hj:j<h.length):Zi h (j:Int)=some (gD h j):=by rw [Zs hj,S1 hj]
def U8 (h:List Int) (i p:Nat):List Int:=(h.set i (gD h p)).set p (gD h i)
theorem Zks (h:List Int) (i p:Nat):(U8 h i p).length=h.length:=by simp [U8]
theorem Zx6 {h:List Int} {i p:Nat} (hi:i<h.length) (hp:p<h.length):(U8 h i p).Perm h:=by
 rw [U8,S1 hi,S1 hp];exact List.set_set_perm hi hp
theorem Zlp (h:List Int) (i j:Nat) (x:Int) (hi:i<h.length):gD (h.set i x) j=if j=i then x else gD h j:=by
 rw [gD,gD,aE,aE,iL]
 by_cases h1:i=j
 ·subst h1;rw [if_pos rfl,if_pos hi,if_pos rfl];rfl
 ·rw [if_neg h1,if_neg (Ne.symm h1)]
theorem Zbw {h:List Int} {i p:Nat} (hi:i<h.length) (hp:p<h.length) (j:Nat):gD (U8 h i p) j=if j=p then gD h i else if j=i then gD h p else gD h j:=by
 rw [U8,Zlp _ _ _ _ (by simpa using hp),Zlp _ _ _ _ hi]
def Tm (h:List Int) (n:Nat):Prop:=∀ j,0<j→j<n→gD h ((j - 1) / 2)≤gD h j
theorem Tm.min {h:List Int} {n:Nat} (hh:Tm h n):∀ j,j<n→gD h 0≤gD h j:=by
 intro j
 induction j using Nat.strongRecOn with
 | ind j a=>
  intro b
  by_cases h0:j=0
  ·subst h0;exact fU _
  ·exact Int.le_trans (a ((j - 1) / 2) (by omega) (by omega)) (hh j (by omega) b)
/-! ### push -/
def Zk3 (h:List Int) (i:Nat):Prop:=(∀ j,0<j→j<h.length→j≠i→gD h ((j - 1) / 2)≤gD h j)∧∀ j,0<j→j<h.length→(j - 1) / 2=i→0<i→gD h ((i - 1) / 2)≤gD h j
theorem Zk3.step {h:List Int} {i:Nat} (hu:Zk3 h i) (hi:i<h.length) (h0:0<i) (hlt:gD h i<gD h ((i - 1) / 2)):Zk3 (U8 h i ((i - 1) / 2)) ((i - 1) / 2):=by
 have c:(i - 1) / 2<h.length:=by omega
 refine ⟨fun j a b d=>?_,fun j a b d g=>?_⟩
 ·rw [Zks] at b
  rw [Zbw hi c,Zbw hi c,if_neg d]
  by_cases hji:j=i
  ·subst hji;rw [if_pos rfl,if_pos rfl];omega
  ·rw [if_neg hji]
   have f:=hu.1 j a b hji
   by_cases hq:(j - 1) / 2=(i - 1) / 2
   ·rw [if_pos hq];rw [hq] at f;omega
   ·rw [if_neg hq]
    by_cases hq2:(j - 1) / 2=i
    ·rw [if_pos hq2];exact hu.2 j a b hq2 h0
    ·rw [if_neg hq2];exact f
 ·rw [Zks] at b
  rw [Zbw hi c,Zbw hi c,if_neg (by omega),if_neg (by omega),if_neg (by omega)]
  have f:=hu.1 ((i - 1) / 2) g c (by omega)
  by_cases hji:j=i
  ·rw [if_pos hji];exact f
  ·rw [if_neg hji]
   have k:=hu.1 j a b hji
   rw [d] at k;omega
theorem Zu0 {i:Nat} (h0:0<i) (h1:i≤9000000):i64.wrap (aU (i64.wrap ((i:Int) - 1)) 2)=(((i - 1) / 2:Nat):Int):=by
 rw [Zp (x:=(i:Int) - 1) (by omega),Int.tdiv_eq_ediv_of_nonneg (by omega),Zp (by omega)];omega
theorem Zva (N:Nat):∀ (n:Nat) (h:List Int) (i:Nat),i<n→i<h.length→h.length≤9000000→Zk3 h i→
  ∃ h',Zao N n h (i:Int)=some h'∧h'.Perm h∧Tm h' h'.length
 | 0,h,i,g,_,_,_=>by omega
 | n+1,h,i,g,c,k,d=>by
  rw [Zao.eq_2]
  by_cases h0:0<i
  ·have a:(i - 1) / 2<h.length:=by omega
   rw [if_pos (dT (by omega)),Qr c,oB,Zu0 h0 (by omega),Qr a,oB,Zgf,Zu0 h0 (by omega)]
   by_cases hlt:gD h i<gD h ((i - 1) / 2)
   ·obtain ⟨h',m,o,p⟩:=Zva N n (U8 h i ((i - 1) / 2)) ((i - 1) / 2) (by omega) (by rw [Zks];exact a) (by rw [Zks];exact k) (d.step c h0 hlt)
    refine ⟨h',?_,o.trans (Zx6 c a),p⟩
    rw [if_pos (dT hlt),Qr a,oB,Qr c,oB,oB,aB,aB,Zs (by simpa using a),oB,oB]
    exact m
   ·refine ⟨h,by rw [if_neg (by simpa using hlt)],.refl _,fun j b f=>?_⟩
    by_cases hji:j=i
    ·subst hji;omega
    ·exact d.1 j b f hji
  ·have:i=0:=by omega
   subst this
   rw [if_neg (by decide),Zgf,if_neg (by decide)]
   exact ⟨h,rfl,.refl _,fun j b f=>d.1 j b f (by omega)⟩
theorem Zsp {h:List Int} {x:Int} {j:Nat} (hj:j<h.length):gD (h++[x]) j=gD h j:=by
 rw [S1 hj,S1 (by simp;omega),List.getElem_append_left hj]
theorem Zvb {N:Nat} {h:List Int} (x:Int) (hl:h.length<2000000) (hh:Tm h h.length) (hN:2000000<N):∃ h',Zge N h x=some h'∧h'.Perm (x :: h)∧Tm h' h'.length:=by
 rw [Zge,Zz (by simp only [nC,nN,maxLen];omega)]
 have i:(h++[x]).length=h.length+1:=by simp
 rw [Zp (by omega),show (((h++[x]).length:Int) - 1)=((h.length:Nat):Int) by omega]
 obtain ⟨h',c,d,f⟩:=Zva N N (h++[x]) h.length (by omega) (by omega) (by omega) ⟨fun j a g b=>by rw [Zsp (by omega),Zsp (by omega)];exact hh j a (by omega),fun j a g b k=>by omega⟩
 exact ⟨h',c,d.trans (gB x h),f⟩
/-! ### pop -/
def Zin (l:List Int) (n i:Nat):Prop:=(∀ j,0<j→j<n→(j - 1) / 2≠i→gD l ((j - 1) / 2)≤gD l j)∧∀ j,0<j→j<n→(j - 1) / 2=i→0<i→gD l ((i - 1) / 2)≤gD l j
theorem Zin.step {l:List Int} {n i q:Nat} (hu:Zin l n i) (hn:n≤l.length) (hi:i<n) (hq:q<n) (hqi:(q - 1) / 2=i) (hq0:0<q) (hlt:gD l q<gD l i) (hle:∀ j,0<j→j<n→(j - 1) / 2=i→gD l q≤gD l j):Zin (U8 l i q) n q:=by
 have b:i<l.length:=by omega
 have c:q<l.length:=by omega
 refine ⟨fun j a f d=>?_,fun j a f d _=>?_⟩
 ·rw [Zbw b c,Zbw b c,if_neg d]
  by_cases h1:(j - 1) / 2=i
  ·rw [if_pos h1]
   by_cases h2:j=q
   ·rw [if_pos h2];omega
   ·rw [if_neg h2,if_neg (by omega)];exact hle j a f h1
  ·rw [if_neg h1,if_neg (show j≠q by omega)]
   by_cases h2:j=i
   ·subst h2
    rw [if_pos rfl];exact hu.2 q hq0 hq hqi a
   ·rw [if_neg h2];exact hu.1 j a f h1
 ·rw [Zbw b c,Zbw b c,hqi,if_neg (by omega),if_pos rfl,if_neg (by omega),if_neg (by omega)]
  have:=hu.1 j a f (by omega)
  rwa [d] at this
theorem Z5w {l:List Int} {n i q:Nat} (hn:n≤l.length) (hi:i<n) (hq:q<n):(U8 l i q).take n=U8 (l.take n) i q:=by
 have a:∀ j,j<n→gD (l.take n) j=gD l j:=fun j b=>by rw [S1 (by simp;omega),S1 (by omega),eR]
 rw [U8,U8,jE,jE,a i hi,a q hq]
theorem Zu8 (N:Nat) (p0:List Int) (x0:Int) (n:Nat) (hp0:p0.length=n+1) (hn:n≤2000000) (hN:2000000<N):∀ (m:Nat) (l:List Int) (i:Nat),n<m+i→(i<n∨n=0∧i=0)→l.length=n+1→Zin l n i→
  ∃ t,T3 N p0 x0 m l (i:Int)=some (x0,t)∧t.Perm (l.take n)∧Tm t n
 | 0,l,i,K,L,C,w=>by omega
 | m+1,l,i,K,L,C,w=>by
  rw [T3.eq_2]
  obtain ⟨N,rfl⟩:∃ N',N=N'+1+1+1:=⟨N - 3,by omega⟩
  have D:i64.wrap ((p0.length:Int) - 1)=(n:Int):=by rw [Zp (by omega)];omega
  have M:i64.wrap (i64.wrap (2 * (i:Int))+1)=((2 * i+1:Nat):Int):=by rw [Zp (x:=2 * (i:Int)) (by omega),Zp (by omega)];omega
  have O:i64.wrap (i64.wrap (2 * (i:Int))+2)=((2 * i+2:Nat):Int):=by rw [Zp (x:=2 * (i:Int)) (by omega),Zp (by omega)];omega
  -- one child after the other
  have d:∀ (v:Nat) (k a:Nat),v<2→k=2 * i+1+v→(a<n∨n=0)→a<l.length→∀ f y,T4 (N+1+1+1) p0 x0 l (i:Int) y (f+1) (v:Int) (a:Int)=
    T4 (N+1+1+1) p0 x0 l (i:Int) y f ((v+1:Nat):Int) ((if k<n∧gD l k<gD l a then k else a:Nat):Int):=by
   intro v k a Q A X F f y
   rw [T4.eq_2,if_pos (dT (by omega)),M,O,D]
   have G:Zi [((2 * i+1:Nat):Int),((2 * i+2:Nat):Int)] (v:Int)=some (k:Int):=by
    rw [Uo]
    match v,Q with
    | 0,_=>simp [A]
    | 1,_=>simp [A];omega
   rw [G,oB]
   by_cases h1:k<n
   ·rw [if_pos (dT (by omega)),Qr (by omega),oB,Qr F,oB,Zgd,Zb1,Zb1,wS (by omega)]
    by_cases o:gD l k<gD l a
    ·rw [if_pos (dT o),if_pos ⟨h1,o⟩]
    ·rw [if_neg (by simpa using o),if_neg (fun h=>o h.2)]
   ·rw [if_neg (by rw [decide_eq_true_eq];omega),Zgd,Zb1,Zb1,if_neg (by decide),wS (by omega),if_neg (fun h=>h1 h.1)]
  have r:i<l.length:=by omega
  have H:=d 0 (2 * i+1) i (by omega) (by omega) (by omega) r (N+1+1) (T3 (N+1+1+1) p0 x0 m)
  generalize hq1:(if 2 * i+1<n∧gD l (2 * i+1)<gD l i then 2 * i+1 else i)=q1 at H
  have p:(q1=i∧(2 * i+1<n→gD l i≤gD l (2 * i+1)))∨(q1=2 * i+1∧q1<n∧gD l q1<gD l i):=by
   by_cases hc:2 * i+1<n∧gD l (2 * i+1)<gD l i
   ·rw [if_pos hc] at hq1;subst hq1;exact .inr ⟨rfl,hc.1,hc.2⟩
   ·rw [if_neg hc] at hq1;subst hq1;exact .inl ⟨rfl,fun h=>by omega⟩
  have I:=d 1 (2 * i+2) q1 (by omega) (by omega) (by omega) (by omega) (N+1) (T3 (N+1+1+1) p0 x0 m)
  generalize hq2:(if 2 * i+2<n∧gD l (2 * i+2)<gD l q1 then 2 * i+2 else q1)=q2 at I
  have B:(q2=i∧(2 * i+1<n→gD l i≤gD l (2 * i+1))∧(2 * i+2<n→gD l i≤gD l (2 * i+2)))∨((q2=2 * i+1∨q2=2 * i+2)∧q2<n∧gD l q2<gD l i∧(2 * i+1<n→gD l q2≤gD l (2 * i+1))∧(2 * i+2<n→gD l q2≤gD l (2 * i+2))):=by
   by_cases hc:2 * i+2<n∧gD l (2 * i+2)<gD l q1
   ·rw [if_pos hc] at hq2;subst hq2
    rcases p with ⟨rfl,b⟩ | ⟨rfl,b,g⟩
    ·exact .inr ⟨.inr rfl,hc.1,hc.2,fun h=>by have:=b h;omega,fun _=>fU _⟩
    ·exact .inr ⟨.inr rfl,hc.1,by omega,fun _=>by omega,fun _=>fU _⟩
   ·rw [if_neg hc] at hq2;subst hq2
    rcases p with ⟨rfl,b⟩ | ⟨rfl,b,g⟩
    ·exact .inl ⟨rfl,b,fun h=>by omega⟩
    ·exact .inr ⟨.inl rfl,b,g,fun _=>fU _,fun h=>by omega⟩
  rw [show (0:Int)=((0:Nat):Int) from rfl,H]
  rw [show ((0+1:Nat):Int)=((1:Nat):Int) from rfl,I,T4.eq_2,if_neg (by decide),D,aB]
  rcases B with ⟨rfl,b,g⟩ | ⟨o,b,g,R,S⟩
  ·rw [if_pos (by simp)]
   refine ⟨_,rfl,.refl _,fun j s c=>?_⟩
   have J:∀ k,k<n→gD (l.take n) k=gD l k:=fun k A=>by rw [S1 (by simp;omega),S1 (by omega),eR]
   rw [J _ (by omega),J _ c]
   by_cases hq:(j - 1) / 2=q2
   ·rw [hq]
    rcases (show j=2 * q2+1∨j=2 * q2+2 by omega) with rfl | rfl
    ·exact b c
    ·exact g c
   ·exact w.1 j s c hq
  ·have q:q2<l.length:=by omega
   have u:i<n:=by omega
   have T:=w.step (by omega) u b (by omega) (by omega) g (fun j s c Y=>by
    rcases (show j=2 * i+1∨j=2 * i+2 by omega) with rfl | rfl
    ·exact R c
    ·exact S c)
   obtain ⟨t,U,V,W⟩:=Zu8 (N+1+1+1) p0 x0 n hp0 hn hN m (U8 l i q2) q2 (by omega) (.inl b) (by rw [Zks];exact C) T
   refine ⟨t,?_,V.trans ?_,W⟩
   ·rw [if_neg (by simp;omega),Qr q,oB,Qr r,oB,oB,aB,aB,Zs (by simpa using q),oB,oB]
    exact U
   ·rw [Z5w (by omega) u b];exact Zx6 (by simp;omega) (by simp;omega)
theorem Z4c {N:Nat} {h:List Int} (hl:h.length≤2000000) (h0:0<h.length) (hh:Tm h h.length) (hN:2000000<N):∃ x t,Zi1 N h=some (x,t)∧h.Perm (x :: t)∧(∀ y ∈ h,x≤y)∧Tm t t.length:=by
 rw [Zi1]
 obtain ⟨n,a⟩:∃ n,h.length=n+1:=⟨h.length - 1,by omega⟩
 have i:i64.wrap ((h.length:Int) - 1)=(n:Int):=by rw [Zp (by omega)];omega
 rw [i,show (0:Int)=((0:Nat):Int) from rfl,Qr h0,oB,Qr (by omega),oB,oB,Zz (by simp;omega),aB]
 have k:Zin (h.set 0 (gD h n)) n 0:=by
  refine ⟨fun j f d s=>?_,fun j _ _ _ h=>by omega⟩
  rw [Zlp _ _ _ _ h0,Zlp _ _ _ _ h0,if_neg (by omega),if_neg (by omega)]
  exact hh j f (by omega)
 obtain ⟨t,m,o,p⟩:=Zu8 N h (gD h 0) n a (by omega) hN N (h.set 0 (gD h n)) 0 (by omega) (by omega) (by simpa using a) k
 have g:h.Perm (gD h 0 :: (h.set 0 (gD h n)).take n):=by
  match h,a with
  | x :: r,a=>
   have b:r.length=n:=by simpa using a
   match n,b with
   | 0,b=>rw [List.length_eq_zero_iff.1 b];exact .refl _
   | n+1,b=>
    have e:gD (x :: r) (n+1)=gD r n:=rfl
    rw [e,List.set_cons_zero,List.take_succ_cons]
    refine List.Perm.cons x ?_
    have:r=r.take n++[gD r n]:=by
     have:=cL (show n<r.length by omega)
     rw [bJ (by omega)] at this
     rw [S1 (by omega)];exact this
    conv=>lhs;rw [this]
    exact gB _ _
 have c:h.Perm (gD h 0 :: t):=g.trans (List.Perm.cons _ o.symm)
 refine ⟨gD h 0,t,m,c,fun y q=>?_,?_⟩
 ·obtain ⟨j,d,rfl⟩:=List.getElem_of_mem q
  rw [← S1 d];exact hh.min j d
 ·have:=c.length_eq
  rw [nC,a] at this
  rw [show t.length=n by omega];exact p
theorem Yb {α:Type} {l:List α} {d:α} {j:Nat} (hj:j<l.length):l.getD j d=l[j]:=by rw [aE,aG hj];rfl
theorem Vq {α:Type} {l:List α} (d:α) {j:Nat} (hj:j<l.length):Zi l (j:Int)=some (l.getD j d):=by rw [Zs hj,Yb hj]
theorem S5 {α:Type} (l:List α) (d:α) (i j:Nat) (x:α) (hi:i<l.length):(l.set i x).getD j d=if j=i then x else l.getD j d:=by
 rw [aE,aE,iL]
 by_cases h1:i=j
 ·subst h1;rw [if_pos rfl,if_pos hi,if_pos rfl];rfl
 ·rw [if_neg h1,if_neg (Ne.symm h1)]
def Vx:Nat→List R2→Int→List Int
 | _,[],_=>[]
 | k,l :: P,p=>aI (l.count p) (k:Int)++Vx (k+1) P p
def Zkx (n:Nat) (l:List Int):Prop:=∀ x ∈ l,0≤x∧x<(n:Int)
theorem Zri (k:Nat) (kk:Nat→List R2→Option Ra):∀ (l:List Int) (out:List R2),Zkx out.length l→(∀ p:Nat,(out.getD p []).length+l.length≤1048576)→
  ∃ out',Zbz k kk l out=kk (k+1) out'∧out'.length=out.length∧∀ p:Nat,p<out.length→out'.getD p []=out.getD p []++aI (l.count (p:Int)) (k:Int)
 | [],out,h,a=>⟨out,by rw [Zbz.eq_1],rfl,fun p c=>by simp⟩
 | x :: l,out,h,a=>by
  obtain ⟨f,n⟩:=h x aT
  obtain ⟨q,rfl⟩:=Int.eq_ofNat_of_zero_le f
  have b:q<out.length:=by omega
  have d:=a q
  simp only [nC] at d a
  rw [Zbz.eq_2,Vq [] b,oB,Zz (by simp only [nC,nN,maxLen];omega),aB]
  obtain ⟨out',g,i,j⟩:=Zri k kk l (out.set q (out.getD q []++[(k:Int)])) (by rw [nS];exact fun y m=>h y (aP _ m)) (fun p=>by
   rw [S5 _ _ _ _ _ b]
   have:=a p
   split
   ·simp only [nA,nC,nN];omega
   ·omega)
  refine ⟨out',g,by rw [i,nS],fun p c=>?_⟩
  rw [j p (by rw [nS];exact c),S5 _ _ _ _ _ b,eY]
  by_cases hpq:p=q
  ·subst hpq
   rw [if_pos rfl,if_pos (by simp),bK,show l.count (p:Int)+1=1+l.count (p:Int) by omega,show [(k:Int)]=aI 1 (k:Int) from rfl,List.replicate_append_replicate]
  ·rw [if_neg hpq,if_neg (by simp;omega),bQ]
theorem Zs8 (p:Int):∀ (k:Nat) (P:List R2),(Vx k P p).length≤Uw P
 | _,[]=>by simp [Vx]
 | k,l :: P=>by
  rw [Vx,nA,aQ,Zkt]
  have:=Zs8 p (k+1) P
  have:=fF (a:=p) (l:=l)
  omega
theorem Zrh (n:Nat):∀ (P:List R2) (k:Nat) (out:List R2),out.length=n→(∀ l ∈ P,Zkx n l)→(∀ p:Nat,(out.getD p []).length+Uw P≤1048576)→
  ∃ out',Qv P k out=some out'∧out'.length=n∧∀ p:Nat,p<n→out'.getD p []=out.getD p []++Vx k P p
 | [],k,out,c,_,_=>⟨out,by rw [Qv.eq_1],c,fun p b=>by simp [Vx]⟩
 | l :: P,k,out,c,h,d=>by
  simp only [Zkt] at d
  rw [Qv.eq_2]
  obtain ⟨f,i,r,g⟩:=Zri k (Qv P) l out (by rw [c];exact h l aT) (fun p=>by have:=d p;omega)
  obtain ⟨out',j,m,o⟩:=Zrh n P (k+1) f (by omega) (fun x q=>h x (aP _ q)) (fun p=>by
   have:=d p
   by_cases b:p<out.length
   ·rw [g p b,nA,aQ]
    have:=fF (a:=(p:Int)) (l:=l)
    omega
   ·rw [aE,List.getElem?_eq_none (by omega)];simp;omega)
  refine ⟨out',by rw [i,j],m,fun p b=>?_⟩
  rw [o p b,g p (by omega),bK,Vx]
theorem Z1g {P:List R2} (hP:P.length≤1048576) (ht:Uw P≤1048576) (h:∀ l ∈ P,Zkx P.length l):∃ D,Zga P=some D∧D.length=P.length∧∀ p:Nat,p<P.length→D.getD p []=Vx 0 P p:=by
 rw [Zga,Zz (by simp only [maxLen];omega)]
 have a:∀ p:Nat,(aI P.length ([]:List Int)).getD p []=[]:=fun p=>by
  rw [aE,List.getElem?_replicate];split <;> rfl
 obtain ⟨D,b,c,d⟩:=Zrh P.length P 0 (aI P.length []) (by simp) h (fun p=>by rw [a];simpa using ht)
 exact ⟨D,b,c,fun p f=>by rw [d p f,a];rfl⟩
theorem Zoo (p:Int):∀ (k:Nat) (P:List R2) (c:Nat),(Vx k P p).count (c:Int)=if k≤c then (P.getD (c - k) []).count p else 0
 | k,[],c=>by simp [Vx]
 | k,l :: P,c=>by
  rw [Vx,List.count_append,Zoo p (k+1) P c,List.count_replicate]
  by_cases h1:k=c
  ·subst h1
   rw [if_pos (by simp),if_neg (by omega),if_pos (Nat.le_refl _),Nat.sub_self];rfl
  ·rw [if_neg (by simp;omega)]
   by_cases h2:k≤c
   ·rw [if_pos (by omega),if_pos h2,show c - k=(c - (k+1))+1 by omega];simp
   ·rw [if_neg (by omega),if_neg h2]
theorem Zs9 (p:Int):∀ (k:Nat) (P:List R2) (x:Int),x ∈ Vx k P p→∃ c:Nat,x=(c:Int)∧k≤c∧c<k+P.length
 | k,[],x,h=>by simp [Vx] at h
 | k,l :: P,x,h=>by
  rw [Vx] at h
  rcases aZ.1 h with h | h
  ·exact ⟨k,(List.mem_replicate.1 h).2,Nat.le_refl _,by simp⟩
  ·obtain ⟨c,a,b,d⟩:=Zs9 p (k+1) P x h
   exact ⟨c,a,by omega,by rw [nC];omega⟩
def Td (P:List R2) (out:List Int) (c:Nat):Nat:=(P.getD c []).countP fun q=>!decide (q ∈ out)
theorem Zrq (out:List Int) (p:Int) (hp:p ∉ out):∀ l:List Int,(l.countP fun q=>!decide (q ∈ out))=(l.countP fun q=>!decide (q ∈ out++[p]))+l.count p
 | []=>rfl
 | x :: l=>by
  rw [iO,iO,eY,Zrq out p hp l]
  by_cases h1:x=p
  ·subst h1
   have b:(!decide (x ∈ out))=true:=by simp [hp]
   have a:(!decide (x ∈ out++[x]))=false:=by simp
   rw [b,a];simp;omega
  ·have a:(x ∈ out++[p])↔x ∈ out:=by simp [h1]
   rw [show (!decide (x ∈ out++[p]))=(!decide (x ∈ out)) from congrArg _ (decide_eq_decide.2 a),if_neg (show ¬ ((x==p)=true) by simpa using h1)];omega
theorem Zrm {P:List R2} {out:List Int} {p:Int} (hp:p ∉ out) (c:Nat):Td P out c=Td P (out++[p]) c+(P.getD c []).count p:=Zrq out p hp _
theorem Zwg (P:List R2) (out:List Int) (c:Nat):U7 P out c=true↔(c:Int) ∉ out∧Td P out c=0:=by
 rw [U7,Td,List.countP_eq_zero]
 simp
structure Zky (P:List R2) (out left ready:List Int):Prop where
 ok:Tc P out
 len:left.length=P.length
 cnt:∀ c:Nat,c<P.length→left.getD c 0=(Td P out c:Int)
 heap:Tm ready ready.length
 nd:ready.Nodup
 mem:∀ y:Int,y ∈ ready↔∃ c:Nat,c<P.length∧y=(c:Int)∧(c:Int) ∉ out∧left.getD c 0=0
theorem Zpz (N:Nat) (P:List R2) (hP:P.length≤1048576) (ht:Uw P≤1048576) (hN:2000000<N) (out:List Int) (p:Nat) (r2:List Int) (kk:List Int→List Int→List Int→Option R2):
  ∀ (rest left ready:List Int),rest.length≤9000000000000000000→left.length=P.length→(∀ c:Nat,c<P.length→left.getD c 0=((Td P (out++[(p:Int)]) c+rest.count (c:Int):Nat):Int))→
   Tm ready ready.length→ready.Nodup→(∀ y:Int,y ∈ ready↔∃ c:Nat,c<P.length∧y=(c:Int)∧(c:Int) ∉ out++[(p:Int)]∧left.getD c 0=0)→
   (∀ x ∈ rest,∃ c:Nat,c<P.length∧x=(c:Int)∧x ∉ out++[(p:Int)])→
   ∃ left' ready',Q0 N out kk ((p:Int),r2) rest left ready=kk left' ready' (out++[(p:Int)])∧left'.length=P.length∧(∀ c:Nat,c<P.length→left'.getD c 0=(Td P (out++[(p:Int)]) c:Int))∧
    Tm ready' ready'.length∧ready'.Nodup∧∀ y:Int,y ∈ ready'↔∃ c:Nat,c<P.length∧y=(c:Int)∧(c:Int) ∉ out++[(p:Int)]∧left'.getD c 0=0
 | [],left,ready,_,u,v,w,o,m,_=>⟨left,ready,by rw [Q0.eq_1],u,fun c F=>by rw [v c F];simp,w,o,m⟩
 | x :: rest,left,ready,n,u,v,w,o,m,J=>by
  obtain ⟨c0,k,rfl,G⟩:=J x aT
  have b:c0<left.length:=by omega
  have s:=v c0 k
  rw [eY,if_pos (by simp)] at s
  have R:Td P (out++[(p:Int)]) c0≤1048576:=by
   have H:=List.countP_le_length (p:=fun q=>!decide (q ∈ out++[(p:Int)])) (l:=P.getD c0 [])
   rw [Yb k] at H
   have j:=Znd (P:=P) (aD k)
   rw [Td,Yb k];omega
  have S:ready.length≤P.length:=by
   have H:=Zke (r:=(cS P.length).map fun i:Nat=>(i:Int)) o fun y I=>by
    obtain ⟨c,j,g,_⟩:=(m y).1 I
    exact cE.2 ⟨c,fE.2 j,g.symm⟩
   simpa using H
  have M:i64.wrap (left.getD c0 0 - 1)=((Td P (out++[(p:Int)]) c0+rest.count (c0:Int):Nat):Int):=by
   have g:=fF (a:=(c0:Int)) (l:=rest)
   rw [s,Zp]
   ·omega
   ·simp only [nC] at n
    omega
  have A:∀ c:Nat,c<P.length→(left.set c0 (i64.wrap (left.getD c0 0 - 1))).getD c 0=((Td P (out++[(p:Int)]) c+rest.count (c:Int):Nat):Int):=fun c F=>by
   rw [S5 _ _ _ _ _ b]
   by_cases hcc:c=c0
   ·subst hcc;rw [if_pos rfl,M]
   ·rw [if_neg hcc,v c F,eY,if_neg (by simp;omega),bQ]
  have B:left.getD c0 0≠0:=by rw [s];omega
  have K:(c0:Int) ∉ ready:=fun h=>by
   obtain ⟨c,j,g,_,f⟩:=(m _).1 h
   have:c=c0:=by omega
   subst this;exact B f
  have C:∀ x ∈ rest,∃ c:Nat,c<P.length∧x=(c:Int)∧x ∉ out++[(p:Int)]:=fun x G=>J x (aP _ G)
  have D:rest.length≤9000000000000000000:=by simp only [nC] at n;omega
  rw [Q0.eq_2,Vq 0 b,oB,oB,aB,Vq 0 (by rw [nS];exact b),oB,Zgh,S5 _ _ _ _ _ b,if_pos rfl]
  by_cases hz:i64.wrap (left.getD c0 0 - 1)=0
  ·obtain ⟨t,O,L,Q⟩:=Zvb (N:=N) (c0:Int) (by omega:ready.length<2000000) w hN
   rw [if_pos (by simpa using hz),O,oB,Zgh]
   refine Zpz N P hP ht hN out p r2 kk rest _ t D (by rw [nS];exact u) A Q (L.nodup_iff.2 (cH.2 ⟨K,o⟩)) (fun y=>?_) C
   rw [L.mem_iff,aM]
   constructor
   ·rintro (rfl | I)
    ·exact ⟨c0,k,rfl,G,by rw [S5 _ _ _ _ _ b,if_pos rfl,hz]⟩
    ·obtain ⟨c,j,g,f,d⟩:=(m y).1 I
     refine ⟨c,j,g,f,?_⟩
     rw [S5 _ _ _ _ _ b]
     split
     ·exact hz
     ·exact d
   ·rintro ⟨c,j,g,f,d⟩
    by_cases hcc:c=c0
    ·subst hcc;exact .inl g
    ·rw [S5 _ _ _ _ _ b,if_neg hcc] at d
     exact .inr ((m y).2 ⟨c,j,g,f,d⟩)
  ·rw [if_neg (by simpa using hz)]
   refine Zpz N P hP ht hN out p r2 kk rest _ ready D (by rw [nS];exact u) A w o (fun y=>?_) C
   rw [m y]
   constructor
   ·rintro ⟨c,j,g,f,d⟩
    refine ⟨c,j,g,f,?_⟩
    rw [S5 _ _ _ _ _ b,if_neg (fun h=>B (by rw [← h];exact d))];exact d
   ·rintro ⟨c,j,g,f,d⟩
    refine ⟨c,j,g,f,?_⟩
    rw [S5 _ _ _ _ _ b] at d
    split at d
    ·exact absurd d hz
    ·exact d
theorem Z5t {N:Nat} {P D:List R2} (hP:P.length≤1048576) (ht:Uw P≤1048576) (hN:2000000<N) (hD:D.length=P.length) (hDk:∀ p:Nat,p<P.length→D.getD p []=Vx 0 P p) {out left ready:List Int} (hi:Zky P out left ready) (n:Nat):
  (Vh P out 0=none→Uq N D (n+1) left ready out=some out)∧
  ∀ p,Vh P out 0=some p→∃ left' ready',Zky P (out++[(p:Int)]) left' ready'∧Uq N D (n+1) left ready out=Uq N D n left' ready' (out++[(p:Int)]):=by
 have Z:ready.length≤P.length:=by
  have k:=Zke (r:=(cS P.length).map fun i:Nat=>(i:Int)) hi.nd fun y U=>by
   obtain ⟨c,b,d,_⟩:=(hi.mem y).1 U
   exact cE.2 ⟨c,fE.2 b,d.symm⟩
  simpa using k
 have q:∀ c:Nat,c<P.length→(U7 P out c=true↔(c:Int) ∈ ready):=fun c v=>by
  rw [Zwg,hi.mem]
  constructor
  ·rintro ⟨f,g⟩;exact ⟨c,v,rfl,f,by rw [hi.cnt c v,g];rfl⟩
  ·rintro ⟨M,f,g,o,m⟩
   have:M=c:=by omega
   subst this
   rw [hi.cnt M f] at m
   exact ⟨o,by omega⟩
 refine ⟨fun w=>?_,fun p w=>?_⟩
 ·have V:ready=[]:=by
   cases s:ready with
   | nil=>rfl
   | cons y l=>
    obtain ⟨c,f,g,_⟩:=(hi.mem y).1 (by rw [s];exact aT)
    have o:=Z30 w c (bD _) f
    have m:=(q c f).2 (by rw [← g,s];exact aT)
    rw [o] at m;cases m
  rw [Uq.eq_2,V,if_neg (by decide)]
 ·obtain ⟨_,H,s,I⟩:=Zuj w
  have B:=(q p H).1 s
  have J:0<ready.length:=List.length_pos_of_mem B
  obtain ⟨x,t,W,K,X,Y⟩:=Z4c (N:=N) (by omega:ready.length≤2000000) J hi.heap hN
  have C:x ∈ ready:=K.mem_iff.2 aT
  have O:x=(p:Int):=by
   obtain ⟨c,f,g,_⟩:=(hi.mem x).1 C
   have o:=X _ B
   have m:¬ c<p:=fun F=>by
    have L:=I c (bD _) F
    have A:=(q c f).2 (by rw [← g];exact C)
    rw [L] at A;cases A
   omega
  subst O
  have G:((p:Int) :: t).Nodup:=K.nodup_iff.1 hi.nd
  obtain ⟨u,a0⟩:=(Zwg P out p).1 s
  obtain ⟨Q,F⟩:=hi.ok.step w
  have a1:=hi.ok.len
  have T:(P.getD p []).count (p:Int)=0:=by have:=Zrm (P:=P) u p;omega
  rw [Uq.eq_2,if_pos (dT (by omega)),W,oB,Zz (by simp only [nC,nN,maxLen];omega),Vq [] (by rw [hD];exact H),oB,hDk p H]
  have a2:=Zs8 (p:Int) 0 P
  obtain ⟨left',ready',f,g,o,m,L,A⟩:=Zpz N P hP ht hN out p t (Uq N D n) (Vx 0 P p) left t (by omega) hi.len (fun c v=>by
    rw [hi.cnt c v,Zrm u c,Zoo (p:Int) 0 P c,if_pos (bD _),jP]) Y (cH.1 G).2 (fun y=>by
    have k:y ∈ t↔y ∈ ready∧y≠(p:Int):=by
     rw [K.mem_iff,aM]
     exact ⟨fun h=>⟨.inr h,fun e=>(cH.1 G).1 (by rw [← e];exact h)⟩,fun h=>h.1.resolve_left h.2⟩
    rw [k,hi.mem]
    constructor
    ·rintro ⟨⟨c,b,d,a,j⟩,R⟩
     exact ⟨c,b,d,by rw [aZ,bH];exact fun h=>h.elim a fun h=>R (by rw [d,h]),j⟩
    ·rintro ⟨c,b,d,a,j⟩
     rw [aZ,bH] at a
     exact ⟨⟨c,b,d,fun h=>a (.inl h),j⟩,fun h=>a (.inr (by rw [← d,h]))⟩) (fun x S=>by
    obtain ⟨c,k,_,b⟩:=Zs9 (p:Int) 0 P x S
    have b:c<P.length:=by omega
    have d:=Zoo (p:Int) 0 P c
    rw [if_pos (bD _),jP] at d
    have a:0<(P.getD c []).count (p:Int):=by rw [← d,← k];exact iF.2 S
    refine ⟨c,b,k,fun h=>?_⟩
    rcases aZ.1 h with h | h
    ·rw [k] at h
     have j:=hi.ok.2.2 c b h (p:Int) (by rw [Yb b] at a;exact iF.1 a)
     exact u j
    ·rw [bH] at h
     have:c=p:=by omega
     subst this
     omega)
  exact ⟨left',ready',⟨Q,g,o,m,L,A⟩,f⟩
theorem Zxv {N:Nat} {P D:List R2} (hP:P.length<1048576) (hls:∀ x ∈ P,x.length≤1048576) (ht:Uw P≤1048576) (hN:2000000<N) (hD:D.length=P.length) (hDk:∀ p:Nat,p<P.length→D.getD p []=Vx 0 P p):∀ (n:Nat) (out left ready:List Int),Zky P out left ready→P.length<n+out.length→
  Uq N D n left ready out=Uf N P n out
 | 0,out,left,ready,a,d=>by have:=a.ok.len;omega
 | n+1,out,left,ready,a,d=>by
  have k:=a.ok.len
  obtain ⟨f,g⟩:=Z5t (N:=N) (by omega) ht hN hD hDk a n
  rw [Zuu (by omega) hls (by omega) (by omega)]
  cases hnx:Vh P out 0 with
  | none=>rw [f hnx];rfl
  | some p=>
   obtain ⟨c,b,i,j⟩:=g p hnx
   rw [j]
   exact Zxv hP hls ht hN hD hDk n _ _ _ i (by simp;omega)
theorem Zpy {N:Nat} (P D:List R2) (hP:P.length<1048576) (hN:2000000<N) (hl:∀ l ∈ P,l.length≤1048576):∀ (Q:List R2) (k:Nat) (left ready:List Int),P.drop k=Q→k≤P.length→left.length=P.length→
  (∀ c:Nat,c<k→left.getD c 0=((P.getD c []).length:Int))→Tm ready ready.length→ready.Nodup→(∀ y:Int,y ∈ ready↔∃ c:Nat,c<k∧y=(c:Int)∧(P.getD c []).length=0)→
  ∃ left' ready',Qz N D Q k left ready=Uq N D N left' ready' []∧Zky P [] left' ready'
 | [],k,left,ready,g,G,s,m,t,n,j=>by
  have w:k=P.length:=by have:=congrArg fX g;simp at this;omega
  subst w
  have A:∀ c,Td P [] c=(P.getD c []).length:=fun c=>by
   rw [Td,List.countP_eq_length.2 (fun a _=>by simp)]
  refine ⟨left,ready,by rw [Qz.eq_1],⟨⟨.nil,by simp,by simp⟩,s,fun c B=>by rw [m c B,A],t,n,fun y=>?_⟩⟩
  rw [j]
  constructor
  ·rintro ⟨c,f,b,d⟩;exact ⟨c,f,b,by simp,by rw [m c f,d];rfl⟩
  ·rintro ⟨c,f,b,_,d⟩;exact ⟨c,f,b,by rw [m c f] at d;omega⟩
 | x :: Q,k,left,ready,g,G,s,m,t,n,j=>by
  have u:k<P.length:=by
   rcases Nat.lt_or_ge k P.length with h | h
   ·exact h
   ·rw [aF h] at g;cases g
  rw [aL u] at g
  obtain ⟨H,g⟩:=List.cons.inj g
  have o:P.getD k []=x:=by rw [Yb u,H]
  have p:k<left.length:=by omega
  have M:ready.length≤k:=by
   have b:=Zke (r:=(cS k).map fun i:Nat=>(i:Int)) n fun y I=>by
    obtain ⟨c,d,J,_⟩:=(j y).1 I
    exact cE.2 ⟨c,fE.2 d,J.symm⟩
   simpa using b
  have v:∀ c:Nat,c<k+1→(left.set k (x.length:Int)).getD c 0=((P.getD c []).length:Int):=fun c B=>by
   rw [S5 _ _ _ _ _ p]
   by_cases hck:c=k
   ·subst hck;rw [if_pos rfl,o]
   ·rw [if_neg hck,m c (by omega)]
  have C:(k:Int) ∉ ready:=fun h=>by obtain ⟨c,f,b,_⟩:=(j _).1 h;omega
  rw [Qz.eq_2,Vq 0 p,oB,oB,aB]
  by_cases h0:x.length=0
  ·obtain ⟨q,K,F,L⟩:=Zvb (N:=N) (k:Int) (by omega:ready.length<2000000) t hN
   rw [if_pos (dT (by omega)),K,oB,Zgi]
   refine Zpy P D hP hN hl Q (k+1) _ q g (by omega) (by rw [nS];exact s) v L (F.nodup_iff.2 (cH.2 ⟨C,n⟩)) (fun y=>?_)
   rw [F.mem_iff,aM,j]
   constructor
   ·rintro (rfl | ⟨c,f,b,d⟩)
    ·exact ⟨k,by omega,rfl,by rw [o];exact h0⟩
    ·exact ⟨c,by omega,b,d⟩
   ·rintro ⟨c,f,b,d⟩
    by_cases hck:c=k
    ·subst hck;exact .inl b
    ·exact .inr ⟨c,by omega,b,d⟩
  ·rw [if_neg (by rw [decide_eq_true_eq];omega),Zgi]
   refine Zpy P D hP hN hl Q (k+1) _ ready g (by omega) (by rw [nS];exact s) v t n (fun y=>?_)
   rw [j]
   constructor
   ·rintro ⟨c,f,b,d⟩;exact ⟨c,by omega,b,d⟩
   ·rintro ⟨c,f,b,d⟩
    by_cases hck:c=k
    ·subst hck;rw [o] at d;exact absurd d h0
    ·exact ⟨c,by omega,b,d⟩
theorem Z5s {N:Nat} {P D:List R2} (hP:P.length<1048576) (hls:∀ x ∈ P,x.length≤1048576) (ht:Uw P≤1048576) (hN:2000000<N) (hD:D.length=P.length) (hDk:∀ p:Nat,p<P.length→D.getD p []=Vx 0 P p):Zgg N P D=Qe N P:=by
 rw [Zgg,Zz (by simp only [maxLen];omega),Qe]
 obtain ⟨left,a,b,d⟩:=Zpy (N:=N) P D hP hN hls P 0 (aI P.length 0) [] rfl (bD _) (by simp) (fun c g=>by omega) (fun j _ f=>by simp at f) .nil (fun y=>by simp)
 rw [b]
 exact Zxv hP hls ht hN hD hDk N [] _ _ d (by simp;omega)
theorem Zse (kk:Option Int):∀ (l:List Int) (seen:List Rc) (S:List Int),S.Nodup→(∀ k,Wf seen k=if k ∈ S then some 1 else none)→Zb0 kk l seen=if (S++l).Nodup then kk else some 40
 | [],seen,S,c,d=>by rw [Zb0.eq_1,List.append_nil,if_pos c]
 | x :: l,seen,S,c,d=>by
  rw [Zb0.eq_2,d x]
  by_cases hx:x ∈ S
  ·rw [if_pos hx,if_pos (by decide),if_neg]
   intro h
   exact (cD.1 h).2.2 x hx x aT rfl
  ·rw [if_neg hx,if_neg (by decide),oB,Zse kk l _ (S++[x]) (by
    rw [cD]
    refine ⟨c,by simp,fun a g b f e=>?_⟩
    rw [bH] at f;subst f;subst e;exact hx g) (fun k=>by
    rw [Zt5,d k]
    by_cases hk:k=x
    ·subst hk;rw [if_pos rfl,if_pos (by simp)]
    ·rw [if_neg hk]
     by_cases hs:k ∈ S
     ·rw [if_pos hs,if_pos (by simp [hs])]
     ·rw [if_neg hs,if_neg (by simp [hs,hk])])]
   rw [bK];rfl
theorem Zsd:∀ P:List R2,Qx P=if Ux P then some 40 else some 0
 | []=>by rw [Qx.eq_1];rfl
 | l :: P=>by
  rw [Qx.eq_2,Zse _ l [] [] .nil (fun k=>by simp [Wf]),Zsd P,List.nil_append]
  by_cases h:l.Nodup
  ·rw [if_pos h]
   have:Ux (l :: P)=Ux P:=by rw [Ux,Ux,dL,decide_eq_true h];rfl
   rw [this]
  ·rw [if_neg h]
   have:Ux (l :: P)=true:=by rw [Ux,dL,decide_eq_false h];rfl
   rw [this];rfl
theorem Zsf (P:List R2) (kk:Option Int):∀ l:List Int,Qy P kk l=if (l.all fun p=>decide (0≤p∧p<(P.length:Int)))=true then kk else some 3
 | []=>by rw [Qy.eq_1];rfl
 | x :: l=>by
  rw [Qy.eq_2,Zsf P kk l,Zgc,Zgc,cP]
  by_cases h1:x<0
  ·rw [if_pos (by simpa using h1),if_pos rfl,decide_eq_false (by omega),Bool.false_and,if_neg (by decide)]
  ·rw [if_neg (by simpa using h1)]
   by_cases h2:(P.length:Int)≤x
   ·rw [if_pos (by simpa using h2),decide_eq_false (by omega),Bool.false_and,if_neg (by decide)]
   ·rw [if_neg (by simpa using h2),decide_eq_true (by omega),Bool.true_and]
theorem Zsc (P:List R2):∀ Q:List R2,Qw P Q=if V6 P.length Q=true then Qx P else some 3
 | []=>by rw [Qw.eq_1];rfl
 | l :: Q=>by
  rw [Qw.eq_2,Zsf,Zsc P Q]
  by_cases h:(l.all fun p=>decide (0≤p∧p<(P.length:Int)))=true
  ·rw [if_pos h]
   have:V6 P.length (l :: Q)=V6 P.length Q:=by rw [V6,V6,cP,h,Bool.true_and]
   rw [this]
  ·rw [if_neg h]
   have:V6 P.length (l :: Q)=false:=by rw [V6,cP,Bool.eq_false_iff.2 h,Bool.false_and]
   rw [this,if_neg (by decide)]
theorem Z2j (P:List R2):Zgb P=if V6 P.length P=true then (if Ux P=true then some 40 else some 0) else some 3:=by
 rw [Zgb,Zsc,Zsd]
structure Zk1 (P:List R2):Prop where
 n:P.length≤1048575
 t:Uw P≤1048576
theorem Zk1.ls {P:List R2} (h:Zk1 P):∀ x ∈ P,x.length≤1048576:=fun x a=>bA (Znd a) h.t
theorem Zsv {P:List R2} {n:Nat} (h:V6 n P=true):∀ l ∈ P,Zkx n l:=by
 intro l a x b
 rw [V6,cX] at h
 have:=cX.1 (h l a) x b
 simpa using this
inductive Zk0 (N:Nat) (P:List R2):Prop
 | err (e:Int) (D:Zan N P=some ([],e)) (R:Qd N P=some e) (ne:e=3∨e=40):Zk0 N P
 | cyc (I:V6 P.length P=true) (T:Ux P=false) (l:List Int) (o:Qe N P=some l) (ok:Tc P l) (mx:Vh P l 0=none) (lt:l.length<P.length) (D:Zan N P=some ([],42)) (R:Qd N P=some 42):Zk0 N P
 | ord (I:V6 P.length P=true) (T:Ux P=false) (l:List Int) (o:Qe N P=some l) (ok:Tc P l) (mx:Vh P l 0=none) (eq:l.length=P.length) (D:Zan N P=some (l,0)) (R:Qd N P=some 0):Zk0 N P
theorem Zxr {N:Nat} {P:List R2} (h:Zk1 P) (hN:2000000<N):Zk0 N P:=by
 have v:=h.n
 have w:=h.t
 have k:=h.ls
 have c:∀ x ∈ P,x.length≤1048576:=fun x p=>by have:=k x p;omega
 have a:Zan N P=(Zgb P).bind fun r_1=>if (!decide (r_1=0))=true then (some (([]:List Int),r_1)) else ((Zga P).bind fun f=>(Zgg N P f).bind fun g=>if (decide ((g.length:Int)<(P.length:Int)))=true then (some (([]:List Int),42)) else (some (g,0))):=by rw [Zan]
 have b:Qd N P=(Zhr N P).bind fun r_1=>if (!r_1)=true then (some 3) else ((Zhv N P).bind fun f=>if f=true then (some 40) else ((Qe N P).bind fun m=>if (decide ((m.length:Int)<(P.length:Int)))=true then (some 42) else (some 0))):=by rw [Qd]
 rw [Z2j] at a
 rw [Z2w (by omega) c (by omega),oB] at b
 by_cases hI:V6 P.length P=true
 ·rw [hI,if_neg (by decide),Z5y (by omega) c (by omega),oB] at b
  rw [if_pos hI] at a
  by_cases d:Ux P=true
  ·rw [if_pos d] at a b
   exact .err 40 (by rw [a];rfl) b (.inr rfl)
  ·rw [if_neg d] at a b
   obtain ⟨l,i,j,o⟩:=Z4a (N:=N) (P:=P) (by omega) c (by omega)
   obtain ⟨D,q,r,s⟩:=Z1g (P:=P) (by omega) (by omega) (Zsv hI)
   rw [i,oB] at b
   rw [oB,if_neg (by decide),q,oB,Z5s (by omega) c (by omega) hN r s,i,oB] at a
   have d:=Bool.eq_false_iff.2 d
   have u:=j.len
   by_cases hlt:l.length<P.length
   ·rw [if_pos (dT (by omega))] at b a
    exact .cyc hI d l i j o hlt a b
   ·rw [if_neg (by rw [decide_eq_true_eq];omega)] at b a
    exact .ord hI d l i j o (by omega) a b
 ·rw [Bool.eq_false_iff.2 hI,if_pos (by decide)] at b
  rw [if_neg hI] at a
  exact .err 3 (by rw [a];rfl) b (.inl rfl)
def Zhe (ab:List Int) (aa:Int) (kk_L1:(Int→Option R2)) (ac:Bool):Option R2:=
  if ac=true then (kk_L1 (i64.wrap (aa - 1))) else (Zv ((0:Int)≤aa∧aa≤(ab.length:Int)) (Zv ((([]:List Int).length+(ab.take (aA aa)).length) * 4≤140737488355328∧([]:List Int).length+(ab.take (aA aa)).length≤maxLen) (some (([]:List Int)++(ab.take (aA aa))))))
def Za5 (N:Nat) (aa:List Int):Nat→Int→Option R2
  | 0,_=>none
  | ac+1,ab=>if (decide (0<ab))=true then ((Zi aa (i64.wrap (ab - 1))).bind fun ad=>Zhe aa ab (Za5 N aa ac) (decide (ad=0))) else (Zhe aa ab (Za5 N aa ac) false)
def Vl (N:Nat) (aa:List Int):Option R2:=
  Za5 N aa N (aa.length:Int)
theorem Uc {N ae:Nat} {a0:Option Addr} {col:Zd} {w0:World} {ab r:R2} (c1:Nat) (hm:Vl N ab=some r) (h0:Sl rU col w0 a0 ae ab):
    Calls prog 146 #[.slice a0 ab.length ae] w0 (W2 .u32 45 c1 col w0 r):=by
 refine Z7 2 (m:=24) func146 rfl rfl rfl rfl rfl ?_;rw [Vl.eq_1] at hm;have aa:=St.start col w0;refine go ?_;refine Zt [0,1000000] (fun n f aj=>∃ ak ac ad,ad=n∧Za5 N ab ad ac=some r∧St w0 (Zg col) ak aj∧[3].map f=[.int .i64 ac]) N ⟨_,_,_,rfl,hm,aa,rfl⟩ ?_;clear hm;intro n f aj hI;obtain ⟨ak,ac,ad,hn,hm,aa,hs⟩:=hI;subst hn;refine .lL [3] hs ?_;replace h0:=h0.k0
 cases ad with
 | zero=>rw [Za5.eq_1] at hm;cases hm
 | succ ad=>
  rw [Za5.eq_2] at hm;refine Zw<|Zw ?_;refine Wp.cutK [0,3,1000000] (fun f al=>∃ am af,Zhe ab ac (Za5 N ab ad) af=some r∧St w0 (Zg col) am al∧[16].map f=[.bool af]) ?_ ?_
  ·intro f al hJ;obtain ⟨am,af,hm,aa,hs⟩:=hJ;rw [Zhe.eq_1] at hm;refine .lL [16] hs ?_;refine Zl hm (fun hb hm=>go ?_) fun hb hm=>go ?_
   ·exact ⟨ad,by omega,rfl,⟨_,_,_,rfl,hm,aa,rfl⟩⟩
   obtain ⟨ag,hm⟩:=Zx hm;refine lv (v:=.slice a0 (aA ac) ae) rfl rfl (V8 underlying38 sizeOf45 rfl rfl ag.1 (by have:=(h0.ks aa).1.2;have:=ag.2;omega))<|.ld (d:=22) (v:=(.slice a0 ((ab.take (aA ac)).length) ae)) (congrArg (fun n=>Value.slice a0 n ae) (bG (show (aA ac)≤ab.length by have:=ag.2;omega)).symm) ?_;obtain ⟨an,hm⟩:=Zx hm;refine Y9 (c:=1) Zb.nil ((h0.ks aa).take (aA ac)).srcC an ?_;intro ar au av aw ao ap;refine go ?_;cases hm;replace aa:=aa.kpp ao;exact ⟨rfl,_,_,_,rfl,aa.fin (cm [(1,c1)]),aa.fo ap⟩
  refine go ?_;refine Xo hm (fun ah hm=>go ?_) fun ah hm=>go ?_
  ·obtain ⟨aq,ai,hm⟩:=bZ hm;refine lI ai ((h0.ks aa).addr ai) ?_;refine go ?_;refine lW ((h0.ks aa).atInt ai)<|go ?_;refine lV (.bool (decide (aq=0))) (Z5 (congrArg Value.bool ah) rfl)<|Zj ?_;exact ⟨rfl,_,_,hm,aa,rfl⟩
  refine lV (.bool false) (Xn (congrArg Value.bool ah) rfl)<|Zj ?_;exact ⟨rfl,_,_,hm,aa,rfl⟩
def Zee (N:Nat):Nat→Int→Int→Option Int
  | 0,_,_=>none
  | ac+1,aa,ab=>if (decide (0<ab))=true then ((Zee N ac) (i64.wrap (aa+1)) (u32.wrap (aU ab 2))) else (some aa)
def Zjn (N:Nat) (ab:List Int):Option Int:=
  (Vl N ab).bind fun aa=>if (decide ((aa.length:Int)=0))=true then (some 0) else ((Zi aa (i64.wrap ((aa.length:Int) - 1))).bind fun ac=>Zee N N (i64.wrap (32 * (i64.wrap ((aa.length:Int) - 1)))) ac)
theorem Zz1 {N ag:Nat} {a0:Option Addr} {col:Zd} {w0:World} {ad:R2} {r:Int} (hm:Zjn N ad=some r) (h0:Sl rU col w0 a0 ag ad):
    Calls prog 182 #[.slice a0 ad.length ag] w0 (Wq w0 r):=by
 refine Z7 2 (m:=28) func182 rfl rfl rfl rfl rfl ?_;rw [Zjn.eq_1] at hm;have aa:=St.start col w0;refine go ?_;obtain ⟨am,ak,hm⟩:=bZ hm;refine Zh (Uc 1 ak (h0.k0.ks aa)) ?_;rintro _ an ⟨ao,ap,aq,rfl,al,ah⟩;refine ⟨_,rfl,go ?_⟩;replace aa:=aa.grow al;refine Zl hm (fun hb hm=>go ?_) fun hb hm=>go ?_
 ·cases hm;exact ⟨rfl,rfl,aa.below⟩
 obtain ⟨ar,ae,hm⟩:=bZ hm;refine lI ae (ah.addr ae)<|lW (ah.atInt ae) ?_;refine go ?_;refine Zt [1000000] (fun n f ai=>∃ aj af ac ab,ab=n∧Zee N ab af ac=some r∧St w0 (Zg col) aj ai∧[4,5].map f=[.int .i64 af,.int .u32 ac]) N ⟨_,_,_,_,rfl,hm,aa,rfl⟩ ?_;clear hm;intro n f ai hI;obtain ⟨aj,af,ac,ab,hn,hm,aa,hs⟩:=hI;subst hn;refine .lL [4,5] hs ?_
 cases ab with
 | zero=>rw [Zee.eq_1] at hm;cases hm
 | succ ab=>
  rw [Zee.eq_2] at hm;refine go ?_;refine Zl hm (fun hb hm=>go ?_) fun hb hm=>go ?_
  ·refine lV (.int .u32 (u32.wrap (aU ac 2))) (Vm ac 2 rfl rfl (by decide))<|go ?_;exact ⟨ab,by omega,rfl,⟨_,_,_,_,rfl,hm,aa,rfl⟩⟩
  cases hm;exact ⟨rfl,rfl,aa.below⟩
def Qc (aa:List Int) (ab:Int):Option Int:=
  if (decide (ab<(aa.length:Int)))=true then ((Zi aa ab).bind fun ac=>some (u64.wrap ac)) else (some 0)
theorem Zdi {ad:Nat} {a0:Option Addr} {col:Zd} {w0:World} {ab:R2} {ae r:Int} (hm:Qc ab ae=some r) (h0:Sl rU col w0 a0 ad ab):
    Calls prog 184 #[.slice a0 ab.length ad,.int .i64 ae] w0 (fun e w'=>e= .returned ((.int .u64 r))∧Below w0.heap.size w0 w'):=by
 refine Z7 4 (m:=14) func184 rfl rfl rfl rfl rfl ?_;rw [Qc.eq_1] at hm;have aa:=St.start col w0;refine go ?_;replace h0:=h0.k0;refine Zl hm (fun hb hm=>go ?_) fun hb hm=>go ?_
 ·obtain ⟨af,ac,hm⟩:=bZ hm;refine lI ac ((h0.ks aa).addr ac)<|lW ((h0.ks aa).atInt ac) ?_;refine go ?_;cases hm;exact ⟨rfl,rfl,aa.below⟩
 cases hm;exact ⟨rfl,rfl,aa.below⟩
def Zjm (ab:List Int) (aa:Int):Option Int:=
  (Qc ab (i64.wrap (aU aa 32))).bind fun ac=>Zv (0≤(bC aa 32)) (some (bC (u32.wrap (Yi .u64 ac (bC aa 32))) 2))
theorem Zz0 {af:Nat} {a0:Option Addr} {col:Zd} {w0:World} {ad:R2} {aa r:Int} (hm:Zjm ad aa=some r) (h0:Sl rU col w0 a0 af ad):
    Calls prog 183 #[.slice a0 ad.length af,.int .i64 aa] w0 (fun e w'=>e= .returned ((.int .u32 r))∧Below w0.heap.size w0 w'):=by
 refine Z7 4 (m:=14) func183 rfl rfl rfl rfl rfl ?_;rw [Zjm.eq_1] at hm;have ab:=St.start col w0;refine go ?_;refine lV (.int .i64 (i64.wrap (aU aa 32))) (Vm aa 32 rfl rfl (by decide)) ?_;obtain ⟨ac,ag,hm⟩:=bZ hm;refine Zh (Zdi ag (h0.k0.ks ab)) fun _ ah ⟨e0,ae⟩=>⟨_,e0,?_⟩;replace ae:Zk (Zg col) w0 (Zg col) ah:=.of_below ae;refine Xe rfl<|lV (.int .i64 (bC aa 32)) (So aa 32 rfl rfl (by decide)) ?_;obtain ⟨ai,hm⟩:=Zx hm;refine lV (.int .u64 (Yi .u64 ac (bC aa 32))) (Sp ac (bC aa 32) rfl rfl ai)<|go ?_;refine lV (.int .u32 (bC (u32.wrap (Yi .u64 ac (bC aa 32))) 2)) (So (u32.wrap (Yi .u64 ac (bC aa 32))) 2 rfl rfl (by decide))<|go ?_;cases hm;exact ⟨rfl,rfl,(ab.grow ae).below⟩
def Zhj (aa:List Int):Option R2:=
  some aa
def Zel (N:Nat) (ad:List Int):Nat→R2→Int→Int→Option R2
  | 0,_,_,_=>none
  | af+1,ab,aa,ae=>if (decide (ae<(ad.length:Int)))=true then ((Zi ad ae).bind fun ac=>Zv ((ab.length+[u32.wrap (bC (u64.wrap (aa+(u64.wrap (2 * (u64.wrap ac))))) 4294967296)].length) * 4≤140737488355328∧ab.length+[u32.wrap (bC (u64.wrap (aa+(u64.wrap (2 * (u64.wrap ac))))) 4294967296)].length≤maxLen) ((Zel N ad af) (ab++[u32.wrap (bC (u64.wrap (aa+(u64.wrap (2 * (u64.wrap ac))))) 4294967296)]) (u64.wrap (aU (u64.wrap (aa+(u64.wrap (2 * (u64.wrap ac))))) 4294967296)) (i64.wrap (ae+1)))) else (if (decide (0<aa))=true then (Zv ((ab.length+[u32.wrap aa].length) * 4≤140737488355328∧ab.length+[u32.wrap aa].length≤maxLen) (Zhj (ab++[u32.wrap aa]))) else (Zhj ab))
def Zhi (N:Nat) (aa:List Int) (ab:Int):Option R2:=
  Zel N aa N ([]:List Int) (u64.wrap ab) 0
theorem Zqx {N au:Nat} {a0:Option Addr} {col:Zd} {w0:World} {ag:R2} {av:Int} {r:R2} (c1:Nat) (hm:Zhi N ag av=some r) (h0:Sl rU col w0 a0 au ag):
    Calls prog 181 #[.slice a0 ag.length au,.int .u32 av] w0 (W2 .u32 45 c1 col w0 r):=by
 refine Z7 4 (m:=40) func181 rfl rfl rfl rfl rfl ?_;rw [Zhi.eq_1] at hm;have aa:=St.start col w0;refine go ?_;refine Zt [0,1000000] (fun n f aj=>∃ ae ak al ah ab am ad,ad=n∧Zel N ag ad ah ab am=some r∧St w0 (Zg col) ae aj∧Zb rU 45 1 ae aj ak al ah∧[5,6,7].map f=[.slice ak ah.length al,.int .u64 ab,.int .i64 am]) N ⟨_,none,0,_,_,0,_,rfl,hm,aa,Zb.nil,rfl⟩ ?_;clear hm;intro n f aj hI;obtain ⟨ae,ak,al,ah,ab,am,ad,hn,hm,aa,ac,hs⟩:=hI;subst hn;refine .lL [5,6,7] hs ?_;replace h0:=h0.k0
 cases ad with
 | zero=>rw [Zel.eq_1] at hm;cases hm
 | succ ad=>
  rw [Zel.eq_2] at hm;refine go ?_;refine Zl hm (fun hb hm=>go ?_) fun hb hm=>?_
  ·obtain ⟨af,an,hm⟩:=bZ hm;refine lI an ((h0.ks aa).addr an)<|lW ((h0.ks aa).atInt an) ?_;refine go ?_;refine lV (.int .u64 (bC (u64.wrap (ab+(u64.wrap (2 * (u64.wrap af))))) 4294967296)) (So (u64.wrap (ab+(u64.wrap (2 * (u64.wrap af))))) 4294967296 rfl rfl (by decide))<|go ?_;refine Wt (col:=ae) [u32.wrap (bC (u64.wrap (ab+(u64.wrap (2 * (u64.wrap af))))) 4294967296)] 2 ?_;intro a8 a9 ba aw ay;obtain ⟨az,hm⟩:=Zx hm;replace ac:=ac.gr aw;refine Y9 ac (ay.srcN (NB.int (k:=.u32))) az ?_;intro bb bc bd be a1 a2;refine go ?_;refine lV (.int .u64 (u64.wrap (aU (u64.wrap (ab+(u64.wrap (2 * (u64.wrap af))))) 4294967296))) (Vm (u64.wrap (ab+(u64.wrap (2 * (u64.wrap af))))) 4294967296 rfl rfl (by decide))<|go ?_;replace aa:=(aa.grow aw).kpp a1;exact ⟨ad,by omega,rfl,⟨_,_,_,_,_,_,_,rfl,hm,aa,a2,rfl⟩⟩
  refine Zil (Ziz ?_);refine Zw ?_;refine Wp.cutK [1000000] (fun f ao=>∃ ap aq ar ai,Zhj ai=some r∧St w0 (Zg col) ap ao∧Zb rU 45 1 ap ao aq ar ai∧[5].map f=[.slice aq ai.length ar]) ?_ ?_
  ·intro f ao hJ;obtain ⟨ap,aq,ar,ai,hm,aa,a3,hs⟩:=hJ;rw [Zhj.eq_1] at hm;refine .lL [5] hs<|go ?_;cases hm;exact ⟨rfl,_,_,_,rfl,aa.fin (cm [(1,c1)]),aa.fo a3⟩
  refine go ?_;refine Zl hm (fun hb hm=>go ?_) fun hb hm=>?_
  ·refine Wt (col:=ae) [u32.wrap ab] 3 ?_;intro bf bg bh ax a4;obtain ⟨a5,hm⟩:=Zx hm;replace ac:=ac.gr ax;refine Y9 ac (a4.srcN (NB.int (k:=.u32))) a5 ?_;intro bi bj bk bm a6 a7;refine go ?_;replace aa:=(aa.grow ax).kpp a6;exact ⟨rfl,_,_,_,_,hm,aa,a7,rfl⟩
  refine X7 ?_;exact ⟨rfl,_,_,_,_,hm,aa,ac,rfl⟩
def Zeg (N:Nat) (ab ac:List Int):Nat→Int→Option Int
  | 0,_=>none
  | af+1,aa=>if (decide (0≤aa))=true then ((Qc ab aa).bind fun ad=>(Qc ac aa).bind fun ae=>if (decide (ad<ae))=true then (some (-1)) else (if (decide (ae<ad))=true then (some 1) else ((Zeg N ab ac af) (i64.wrap (aa - 1))))) else (some 0)
def Zg9 (N:Nat) (aa ab:List Int) (ac:Int):Option Int:=
  Zeg N aa ab N (i64.wrap (ac - 1))
def Zef (N:Nat) (aa ab:List Int):Option Int:=
  if (decide ((aa.length:Int)<(ab.length:Int)))=true then (Zg9 N aa ab (ab.length:Int)) else (Zg9 N aa ab (aa.length:Int))
theorem Zny {N ak al:Nat} {a0 a1:Option Addr} {col:Zd} {w0:World} {ad ae:R2} {r:Int} (hm:Zef N ad ae=some r) (h0:Sl rU col w0 a0 ak ad) (h1:Sl rU col w0 a1 al ae):
    Calls prog 180 #[.slice a0 ad.length ak,.slice a1 ae.length al] w0 (Wq w0 r):=by
 refine Z7 4 (m:=35) func180 rfl rfl rfl rfl rfl ?_;rw [Zef.eq_1] at hm;have aa:=St.start col w0;refine Zw<|Wk<|Yz rfl<|Zj<|Zw<|Wk<|Y8 rfl<|lV _ (Uv underlying38 rfl)<|Yz rfl<|Zj<|Zw ?_;refine Wp.cutK [0,1,1000000] (fun f am=>∃ an af,Zg9 N ad ae af=some r∧St w0 (Zg col) an am∧[5].map f=[.int .i64 af]) ?_ ?_
 ·intro f am hJ;obtain ⟨an,af,hm,aa,hs⟩:=hJ;rw [Zg9.eq_1] at hm;refine .lL [5] hs<|go ?_;refine Zt [0,1,1000000] (fun n f ag=>∃ ab ah ac,ac=n∧Zeg N ad ae ac ah=some r∧St w0 (Zg col) ab ag∧[6].map f=[.int .i64 ah]) N ⟨_,_,_,rfl,hm,aa,rfl⟩ ?_;clear hm;intro n f ag hI;obtain ⟨ab,ah,ac,hn,hm,aa,hs⟩:=hI;subst hn;refine .lL [6] hs ?_
  cases ac with
  | zero=>rw [Zeg.eq_1] at hm;cases hm
  | succ ac=>
   rw [Zeg.eq_2] at hm;refine go ?_;refine Zl hm (fun hb hm=>go ?_) fun hb hm=>go ?_
   ·obtain ⟨au,ap,hm⟩:=bZ hm;refine Zh (Zdi ap (h0.k0.ks aa)) fun _ ao ⟨e0,ai⟩=>⟨_,e0,?_⟩;replace ai:Zk ab ag ab ao:=.of_below ai;refine go ?_;obtain ⟨av,aq,hm⟩:=bZ hm;replace aa:=aa.grow ai;refine Zh (Zdi aq (h1.k0.ks aa)) fun _ ar ⟨e0,aj⟩=>⟨_,e0,?_⟩;replace aj:Zk ab ao ab ar:=.of_below aj;refine go ?_;replace aa:=aa.grow aj;refine Zl hm (fun hb hm=>go ?_) fun hb hm=>go ?_
    ·cases hm;exact ⟨rfl,rfl,aa.below⟩
    refine Zl hm (fun hb hm=>go ?_) fun hb hm=>go ?_
    ·cases hm;exact ⟨rfl,rfl,aa.below⟩
    exact ⟨ac,by omega,rfl,⟨_,_,_,rfl,hm,aa,rfl⟩⟩
   cases hm;exact ⟨rfl,rfl,aa.below⟩
 refine go ?_;refine Zl hm (fun hb hm=>go ?_) fun hb hm=>?_
 ·exact ⟨rfl,_,_,hm,aa,rfl⟩
 refine X7 ?_;exact ⟨rfl,_,_,hm,aa,rfl⟩
def Zl4 (aa:Int) (kk_L1:(List Int→Int→Int→Option Rg)) (ab:List Int) (ac:Int):Option Rg:=
  kk_L1 ab ac (i64.wrap (aa+1))
def Zhh (aa:List Int) (ab ae:Int) (kk_L1:(List Int→Int→Int→Option Rg)) (ac af ad:Int):Option Rg:=
  Zv ((aa.length+[u32.wrap (u64.wrap (ad - (u64.wrap (ac+ab))))].length) * 4≤140737488355328∧aa.length+[u32.wrap (u64.wrap (ad - (u64.wrap (ac+ab))))].length≤maxLen) (Zl4 ae kk_L1 (aa++[u32.wrap (u64.wrap (ad - (u64.wrap (ac+ab))))]) af)
def Qb (N:Nat) (ab ac:List Int):Nat→R2→Int→Int→Option Rg
  | 0,_,_,_=>none
  | ah+1,ad,ae,aa=>if (decide (aa<(ab.length:Int)))=true then ((Qc ab aa).bind fun af=>(Qc ac aa).bind fun ag=>if (decide (af<(u64.wrap (ag+ae))))=true then (Zhh ad ae aa (Qb N ab ac ah) ag 1 (u64.wrap (af+4294967296))) else (Zhh ad ae aa (Qb N ab ac ah) ag 0 af)) else ((Vl N ad).bind fun ai=>some (ai,true))
def Zcj (N:Nat) (aa ab:List Int):Option Rg:=
  (Zef N aa ab).bind fun ac=>if (decide (ac<0))=true then (some (([]:List Int),false)) else (Qb N aa ab N ([]:List Int) 0 0)
theorem Zle {N au av:Nat} {a0 a1:Option Addr} {col:Zd} {w0:World} {ae af:R2} {r:Rg} (c1:Nat) (hm:Zcj N ae af=some r) (h0:Sl rU col w0 a0 au ae) (h1:Sl rU col w0 a1 av af):
    Calls prog 152 #[.slice a0 ae.length au,.slice a1 af.length av] w0 (fun e w'=>∃ col' ra1 rc2,e= .returned (.tuple #[.slice ra1 r.1.length rc2,.bool r.2])∧Zk col w0 col' w'∧Zb rU 45 c1 col' w' ra1 rc2 r.1):=by
 refine Zdk 4 5 (m:=43) (args:=[.slice a0 ae.length au,.slice a1 af.length av]) func152 rfl rfl rfl rfl rfl ?_;rw [Zcj.eq_1] at hm;have aa:=St.start col w0;refine go ?_;obtain ⟨bn,ba,hm⟩:=bZ hm;replace h0:=h0.k0;replace h1:=h1.k0;refine Zh (Zny ba (h0.ks aa) (h1.ks aa)) fun _ bb ⟨e0,aw⟩=>⟨_,e0,?_⟩;replace aw:Zk (Zg col) w0 (Zg col) bb:=.of_below aw;refine go ?_;replace aa:=aa.grow aw;refine Zl hm (fun hb hm=>go ?_) fun hb hm=>go ?_
 ·cases hm;exact ⟨rfl,_,none,0,rfl,aa.fin (cm []),Zb.nil⟩
 refine Zt [0,1,1000000] (fun n f ah=>∃ ab ak al ag ai aj ad,ad=n∧Qb N ae af ad ag ai aj=some r∧St w0 (Zg col) ab ah∧Zb rU 45 1 ab ah ak al ag∧[6,7,8].map f=[.slice ak ag.length al,.int .u64 ai,.int .i64 aj]) N ⟨_,none,0,_,0,0,_,rfl,hm,aa,Zb.nil,rfl⟩ ?_;clear hm;intro n f ah hI;obtain ⟨ab,ak,al,ag,ai,aj,ad,hn,hm,aa,ac,hs⟩:=hI;subst hn;refine .lL [6,7,8] hs ?_
 cases ad with
 | zero=>rw [Qb.eq_1] at hm;cases hm
 | succ ad=>
  rw [Qb.eq_2] at hm;refine go ?_;refine Zl hm (fun hb hm=>?_) fun hb hm=>go ?_
  ·refine X7<|Zw ?_;refine Wp.cutK [0,1,8,1000000] (fun f ax=>∃ ay az a2 am a3,Zl4 aj (Qb N ae af ad) am a3=some r∧St w0 (Zg col) ay ax∧Zb rU 45 1 ay ax az a2 am∧[6,7].map f=[.slice az am.length a2,.int .u64 a3]) ?_ ?_
   ·intro f ax hJ;obtain ⟨ay,az,a2,am,a3,hm,aa,bc,hs⟩:=hJ;rw [Zl4.eq_1] at hm;refine .lL [6,7] hs<|go ?_;exact ⟨ad,by omega,rfl,⟨_,_,_,_,_,_,_,rfl,hm,aa,bc,rfl⟩⟩
   refine go ?_;obtain ⟨bo,bd,hm⟩:=bZ hm;refine Zh (Zdi bd (h0.ks aa)) fun _ a7 ⟨e0,an⟩=>⟨_,e0,?_⟩;replace an:Zk ab ah ab a7:=.of_below an;refine go ?_;obtain ⟨a8,be,hm⟩:=bZ hm;replace aa:=aa.grow an;refine Zh (Zdi be (h1.ks aa)) fun _ bf ⟨e0,ao⟩=>⟨_,e0,?_⟩;replace ao:Zk ab a7 ab bf:=.of_below ao;refine Xe rfl<|lV _ (Ql _ _ rfl rfl)<|Yz rfl<|Zj<|Zw<|Wk<|Yz rfl<|Zj<|Zw ?_;replace ac:=(ac.gr an).gr ao;replace aa:=aa.grow ao;refine Wp.cutK [0,1,10,6,8,1000000] (fun f a4=>∃ ap a5 aq,Zhh ag ai aj (Qb N ae af ad) a8 a5 aq=some r∧St w0 (Zg col) ap a4∧Zb rU 45 1 ap a4 ak al ag∧[7,9].map f=[.int .u64 a5,.int .u64 aq]) ?_ ?_
   ·intro f a4 hJ;obtain ⟨ap,a5,aq,hm,aa,ac,hs⟩:=hJ;rw [Zhh.eq_1] at hm;refine .lL [7,9] hs<|go ?_;refine Wt (col:=ap) [u32.wrap (u64.wrap (aq - (u64.wrap (a8+ai))))] 2 ?_;intro bp bq br a9 bg;obtain ⟨bh,hm⟩:=Zx hm;replace ac:=ac.gr a9;refine Y9 ac (bg.srcN (NB.int (k:=.u32))) bh ?_;intro bs bt bu bv bi bj;refine go ?_;replace aa:=(aa.grow a9).kpp bi;exact ⟨rfl,_,_,_,_,_,hm,aa,bj,rfl⟩
   refine go ?_;refine Zl hm (fun hb hm=>go ?_) fun hb hm=>?_
   ·exact ⟨rfl,_,1,_,hm,aa,ac,rfl⟩
   refine X7 ?_;exact ⟨rfl,_,0,_,hm,aa,ac,rfl⟩
  obtain ⟨bw,bk,hm⟩:=bZ hm;refine Zh (Uc 3 bk (ac.toSlF (Zm.int .u32))) fun _ bx ⟨bm,bz,b0,e0,ar,a6⟩=>⟨_,e0,?_⟩;replace a6:=a6.thaw (Z8 .u32) ar ((Fz.refl (col:=ab)).froz 1);replace ar:=ar.thawR (col:=ab);generalize Xb ah.heap.size ab bm=b1 at *;refine go ?_;cases hm;replace aa:=aa.grow ar;exact ⟨rfl,_,_,_,rfl,aa.fin (cm [(3,c1)]),aa.fo a6⟩
def Zhb (aa:Int) (kk_L1:(List Int→Int→R2→Option Rd)) (ab ac:List Int):Option Rd:=
  kk_L1 ab (i64.wrap (aa - 1)) ac
def Za2 (N:Nat) (ad ab:List Int):Nat→R2→Int→R2→Option Rd
  | 0,_,_,_=>none
  | af+1,ag,aa,ac=>if (decide (0≤aa))=true then ((Zjm ad aa).bind fun ah=>(Zhi N ag ah).bind fun ai=>(Vl N ai).bind fun ae=>(Zef N ae ab).bind fun aj=>if (decide (0≤aj))=true then ((Zcj N ae ab).bind fun ak=>(Zi ac (i64.wrap (aU aa 32))).bind fun al=>Zv (0≤(bC aa 32)) ((some (ac.set (aA (i64.wrap (aU aa 32))) (u32.wrap (al+(Xy .u32 1 (bC aa 32)))))).bind fun am=>Zhb aa (Za2 N ad ab af) ak.1 am)) else (Zhb aa (Za2 N ad ab af) ae ac)) else ((Vl N ac).bind fun an=>some (an,ag,0))
def Zha (N:Nat) (ab ad:List Int):Option Rd:=
  (Vl N ad).bind fun ac=>if (decide ((ac.length:Int)=0))=true then (some (([]:List Int),([]:List Int),11)) else ((Zjn N ab).bind fun aa=>Zv ((aA (i64.wrap (aU (i64.wrap (aa+31)) 32))) * 4≤281474976710656∧(aA (i64.wrap (aU (i64.wrap (aa+31)) 32)))≤maxLen∧0≤(i64.wrap (aU (i64.wrap (aa+31)) 32))) (Za2 N ab ac N ([]:List Int) (i64.wrap (aa - 1)) (aI (aA (i64.wrap (aU (i64.wrap (aa+31)) 32))) (0:Int))))
theorem Zqu {N bd be:Nat} {a0 a1:Option Addr} {col:Zd} {w0:World} {ak a4:R2} {r:Rd} (c1 c2:Nat) (hm:Zha N ak a4=some r) (h0:Sl rU col w0 a0 bd ak) (h1:Sl rU col w0 a1 be a4):
    Calls prog 150 #[.slice a0 ak.length bd,.slice a1 a4.length be] w0 (fun e w'=>∃ col' ra1 rc2 ra4 rc5,e= .returned (.tuple #[.slice ra1 r.1.length rc2,.slice ra4 r.2.1.length rc5,.int .i64 r.2.2])∧Zk col w0 col' w'∧Zb rU 45 c1 col' w' ra1 rc2 r.1∧Zb rU 45 c2 col' w' ra4 rc5 r.2.1):=by
 refine Zrb 4 5 6 (m:=61) (args:=[.slice a0 ak.length bd,.slice a1 a4.length be]) func150 rfl rfl rfl rfl rfl ?_;rw [Zha.eq_1] at hm;have aa:=St.start col w0;refine go ?_;obtain ⟨a5,b3,hm⟩:=bZ hm;refine Zh (Uc 1 b3 (h1.k0.ks aa)) ?_;rintro _ b4 ⟨bf,bt,bu,rfl,b5,ab⟩;refine ⟨_,rfl,go ?_⟩;replace h0:=h0.k0;replace aa:=aa.grow b5;refine Zl hm (fun hb hm=>go ?_) fun hb hm=>go ?_
 ·cases hm;exact ⟨rfl,_,none,0,none,0,rfl,aa.fin (cm []),Zb.nil,Zb.nil⟩
 obtain ⟨bg,b6,hm⟩:=bZ hm;refine Zh (Zz1 b6 (h0.ks aa)) fun _ bv ⟨e0,a6⟩=>⟨_,e0,?_⟩;replace a6:Zk bf b4 bf bv:=.of_below a6;refine go ?_;refine lV (.int .i64 (i64.wrap (aU (i64.wrap (bg+31)) 32))) (Vm (i64.wrap (bg+31)) 32 rfl rfl (by decide)) ?_;obtain ⟨a7,hm⟩:=Zx hm;refine Ty (col:=bf) (w:=bv) (r:=rU) (n:=(aA (i64.wrap (aU (i64.wrap (bg+31)) 32)))) (x0:=0) 2 rfl underlying38 Tryz.t45 rfl rfl rfl rfl rfl (congrArg (Value.int _) (bE a7.2.2).symm) (congrArg (Value.int _) (bE a7.2.2).symm) a7.1 a7.2.1 (Zag .u32 0) ?_;intro cp cq cr bw b7;refine go ?_;replace ab:=(ab.gr a6).gr bw;replace aa:=(aa.grow a6).grow bw;refine Zt [0,7,1000000] (fun n f ai=>∃ ae bh bi a8 ac av aw al aj,aj=n∧Za2 N ak a5 aj a8 ac al=some r∧St w0 (Zg col) ae ai∧Zb rU 45 3 ae ai bh bi a8∧Zb rU 45 1 ae ai bt bu a5∧Zb rU 45 2 ae ai av aw al∧[10,11,9].map f=[.slice bh a8.length bi,.int .i64 ac,.slice av al.length aw]) N ⟨_,none,0,_,_,_,_,_,_,rfl,hm,aa,Zb.nil,ab,b7,rfl⟩ ?_;clear hm;intro n f ai hI;obtain ⟨ae,bh,bi,a8,ac,av,aw,al,aj,hn,hm,aa,am,ab,ad,hs⟩:=hI;subst hn;refine .lL [10,11,9] hs ?_
 cases aj with
 | zero=>rw [Za2.eq_1] at hm;cases hm
 | succ aj=>
  rw [Za2.eq_2] at hm;refine go ?_;refine Zl hm (fun hb hm=>?_) fun hb hm=>go ?_
  ·refine X7<|Zw ?_;refine Wp.cutK [0,11,7,1000000] (fun f ax=>∃ ay bj bk a9 bm bn ba,Zhb ac (Za2 N ak a5 aj) a9 ba=some r∧St w0 (Zg col) ay ax∧Zb rU 45 3 ay ax bj bk a9∧Zb rU 45 1 ay ax bt bu a5∧Zb rU 45 2 ay ax bm bn ba∧[10,9].map f=[.slice bj a9.length bk,.slice bm ba.length bn]) ?_ ?_
   ·intro f ax hJ;obtain ⟨ay,bj,bk,a9,bm,bn,ba,hm,aa,b8,ab,b9,hs⟩:=hJ;rw [Zhb.eq_1] at hm;refine .lL [10,9] hs<|go ?_;exact ⟨aj,by omega,rfl,⟨_,_,_,_,_,_,_,_,_,rfl,hm,aa,b8,ab,b9,rfl⟩⟩
   refine go ?_;obtain ⟨cs,ca,hm⟩:=bZ hm;refine Zh (Zz0 ca (h0.ks aa)) fun _ bx ⟨e0,an⟩=>⟨_,e0,?_⟩;replace an:Zk ae ai ae bx:=.of_below an;obtain ⟨ct,cb,hm⟩:=bZ hm;replace am:=am.gr an;refine Zh (Zqx 4 cb (am.toSlF (Zm.int .u32))) fun _ cc ⟨cd,cu,cv,e0,ao,bo⟩=>⟨_,e0,?_⟩;replace bo:=bo.thaw (Z8 .u32) ao ((Fz.refl (col:=ae)).froz 3);replace ao:=ao.thawR (col:=ae);generalize Xb bx.heap.size ae cd=bp at *;obtain ⟨cw,ce,hm⟩:=bZ hm;refine Zh (Uc 5 ce (bo.toSlF (Zm.int .u32))) fun _ cf ⟨cg,cx,cy,e0,ap,af⟩=>⟨_,e0,?_⟩;replace af:=af.thaw (Z8 .u32) ap ((Fz.refl (col:=bp)).froz 4);replace ap:=ap.thawR (col:=bp);generalize Xb cc.heap.size bp cg=az at *;refine go ?_;obtain ⟨cz,ch,hm⟩:=bZ hm;replace ab:=((ab.gr an).gr ao).gr ap;refine Zh (Zny ch ((af.toSlF (Zm.int .u32)).froz 1) ((ab.froz 5).toSlF (Zm.int .u32))) fun _ bz ⟨e0,aq⟩=>⟨_,e0,?_⟩;replace aq:Zk az cf az bz:=.of_below aq;refine go ?_;replace ad:=(((ad.gr an).gr ao).gr ap).gr aq;replace aa:=(((aa.grow an).grow ao).grow ap).grow aq;replace ab:=ab.gr aq;replace af:=af.gr aq;refine Zl hm (fun hb hm=>go ?_) fun hb hm=>?_
   ·obtain ⟨bb,ci,hm⟩:=bZ hm;refine Zh (Zle 6 ci ((af.toSlF (Zm.int .u32)).froz 1) ((ab.froz 5).toSlF (Zm.int .u32))) fun _ c0 ⟨cj,b0,b1,e0,ar,ag⟩=>⟨_,e0,?_⟩;replace ag:=ag.thaw (Z8 .u32) ar (((Fz.refl (col:=az)).froz 5).froz 1);replace ar:=ar.thawR (col:=az);generalize Xb bz.heap.size az cj=a2 at *;refine lM (.tuple #[.slice b0 bb.1.length b1,.bool bb.2])<|lV (.slice b0 bb.1.length b1) (X6 rfl rfl)<|lV (.bool bb.2) (X6 rfl rfl)<|go ?_;refine Wc (col:=a2) [(0,1),(1,1),(2,1),(3,1),(4,1),(5,1),(6,1),(7,0),(8,1),(9,1),(10,1),(11,1),(12,1),(13,2)] (by kernel_rfl) (by kernel_rfl)<|xu rfl rfl (fun _=>Vi rfl) ?_;refine xu rfl rfl (fun _=>Wb rfl) ?_;refine xu (v:=(.int .i64 (i64.wrap (aU ac 32)))) rfl rfl (fun _=>Vm ac 32 rfl rfl (by decide)) ?_;refine xu rfl rfl (fun _=>Vi rfl) ?_;refine xu rfl rfl (fun _=>Wb rfl) ?_;refine xu (v:=(.int .i64 (i64.wrap (aU ac 32)))) rfl rfl (fun _=>Vm ac 32 rfl rfl (by decide)) ?_;obtain ⟨b2,ah,hm⟩:=bZ hm;replace ad:=ad.gr ar;refine xu rfl rfl (fun _=>Wa underlying38 sizeOf45 rfl rfl (Xm ah).1 (Xm ah).2.1 (ad.addr ah)) ?_;refine xW (fun _ hC=>(ad.gr (hC.bl a2)).atInt ah) ?_;refine xu rfl rfl (fun _=>Wb rfl) ?_;refine xu (v:=(.int .i64 (bC ac 32))) rfl rfl (fun _=>So ac 32 rfl rfl (by decide)) ?_;obtain ⟨ck,hm⟩:=Zx hm;refine xu (v:=(.int .u32 (Xy .u32 1 (bC ac 32)))) rfl rfl (fun _=>Zfs 1 (bC ac 32) rfl rfl ck) ?_;refine xu rfl rfl (fun _=>Ql _ _ rfl rfl) ?_;refine xu rfl rfl (fun _=>Wa underlying38 sizeOf45 rfl rfl (Xm ah).1 (Xm ah).2.1 (ad.addr ah)) ?_;refine xe rfl rfl ?_;intro c3 hC0;have hC:=hC0.bl a2;obtain ⟨bq,bc,hm⟩:=bZ hm;have bc:bq=al.set (aA (i64.wrap (aU ac 32))) (u32.wrap (b2+(Xy .u32 1 (bC ac 32)))):=(Option.some.inj bc).symm;replace ad:=ad.gr hC;refine Yp (x1:=u32.wrap (b2+(Xy .u32 1 (bC ac 32)))) ad ah ?_;intro c4 br cl au;rw [← bc] at au;refine .ld (d:=9) (v:=(.slice av bq.length aw)) (congrArg (fun n=>Value.slice av n aw) (show al.length=bq.length by rw [bc,nS])) ?_;refine Zj<|xk a2<|Y4 ?_;replace ab:=((ab.gr ar).gr hC).kp br;replace aa:=((aa.grow ar).grow hC).kp br cl;replace ag:=(ag.gr hC).kp br;intro c5 hC;replace hC:=hC.bl a2;replace ab:=ab.gr hC;replace ab:=ab.recol 6 3;replace au:=au.gr hC
    replace ag:=ag.gr hC;replace ag:=ag.recolSelf 3 (by decide);replace aa:=aa.grow hC;replace aa:=aa.recol 6 3 (by decide) (by decide);exact ⟨rfl,_,_,_,_,_,_,_,hm,aa,ag,ab,au.recol 6 3,rfl⟩
   refine X7 ?_;replace ad:=ad.recol 5 3;replace af:=af.recolSelf 3 (by decide);replace aa:=aa.recol 5 3 (by decide) (by decide);exact ⟨rfl,_,_,_,_,_,_,_,hm,aa,af,ab.recol 5 3,ad,rfl⟩
  obtain ⟨c6,cn,hm⟩:=bZ hm;refine Zh (Uc 7 cn (ad.toSlF (Zm.int .u32))) fun _ c7 ⟨co,c8,c9,e0,a3,bs⟩=>⟨_,e0,?_⟩;replace bs:=bs.thaw (Z8 .u32) a3 ((Fz.refl (col:=ae)).froz 2);replace a3:=a3.thawR (col:=ae);generalize Xb ai.heap.size ae co=da at *;refine go ?_;cases hm;replace aa:=aa.grow a3;exact ⟨rfl,_,_,_,_,_,rfl,aa.fin (cm [(7,c1),(3,c2)]),aa.fo bs,aa.fo (am.gr a3)⟩
def Zjq (aa:Bool):Option Bool:=
  some aa
def Zck (aa:List Int):Option Bool:=
  if (decide ((aa.length:Int)=0))=true then (Zjq true) else ((Zi aa 0).bind fun ab=>Zjq (decide ((bC ab 2)=0)))
theorem Zlf {ag:Nat} {a0:Option Addr} {col:Zd} {w0:World} {ab:R2} {r:Bool} (hm:Zck ab=some r) (h0:Sl rU col w0 a0 ag ab):
    Calls prog 178 #[.slice a0 ab.length ag] w0 (W1 w0 r):=by
 refine Z7 2 (m:=13) func178 rfl rfl rfl rfl rfl ?_;rw [Zck.eq_1] at hm;have aa:=St.start col w0;refine Zw<|Wk<|Qu rfl<|Zj<|Zw ?_;replace h0:=h0.k0;refine Wp.cutK [1000000] (fun f ah=>∃ ai ac,Zjq ac=some r∧St w0 (Zg col) ai ah∧[2].map f=[.bool ac]) ?_ ?_
 ·intro f ah hJ;obtain ⟨ai,ac,hm,aa,hs⟩:=hJ;rw [Zjq.eq_1] at hm;refine .lL [2] hs<|Y1 ?_;cases hm;exact ⟨rfl,rfl,aa.below⟩
 refine go ?_;refine Xo hm (fun ad hm=>go ?_) fun ad hm=>go ?_
 ·refine lV (.bool true) (Z5 (congrArg Value.bool ad) rfl)<|go ?_;exact ⟨rfl,_,_,hm,aa,rfl⟩
 obtain ⟨ae,af,hm⟩:=bZ hm;refine lI af ((h0.ks aa).addr af) ?_;refine go ?_;refine lW ((h0.ks aa).atInt af)<|go ?_;refine lV (.int .u32 (bC ae 2)) (So ae 2 rfl rfl (by decide))<|go ?_;refine lV (.bool (decide ((bC ae 2)=0))) (Xn (congrArg Value.bool ad) rfl)<|go ?_;exact ⟨rfl,_,_,hm,aa,rfl⟩
def Zem (N:Nat) (ac:List Int):Nat→R2→Int→Int→Option R2
  | 0,_,_,_=>none
  | af+1,ab,ad,aa=>if (decide (0≤aa))=true then ((Zi ac aa).bind fun ae=>(Zi ab aa).bind fun ai=>(some (ab.set (aA aa) (u32.wrap (u64.wrap (aU (u64.wrap ((u64.wrap (ad * 4294967296))+(u64.wrap ae))) 2))))).bind fun ag=>(Zem N ac af) ag (bC (u64.wrap ((u64.wrap (ad * 4294967296))+(u64.wrap ae))) 2) (i64.wrap (aa - 1))) else ((Vl N ab).bind fun ah=>some ah)
def Zcl (N:Nat) (aa:List Int):Option R2:=
  Zv (aa.length * 4≤281474976710656∧aa.length≤maxLen) (Zem N aa N (aI aa.length (0:Int)) 0 (i64.wrap ((aa.length:Int) - 1)))
theorem Zlg {N au:Nat} {a0:Option Addr} {col:Zd} {w0:World} {ag r:R2} (c1:Nat) (hm:Zcl N ag=some r) (h0:Sl rU col w0 a0 au ag):
    Calls prog 179 #[.slice a0 ag.length au] w0 (W2 .u32 45 c1 col w0 r):=by
 refine Z7 2 (m:=34) func179 rfl rfl rfl rfl rfl ?_;rw [Zcl.eq_1] at hm;have aa:=St.start col w0;refine go ?_;obtain ⟨av,hm⟩:=Zx hm;refine Ty (col:=(Zg col)) (w:=w0) (r:=rU) (n:=ag.length) (x0:=0) 1 rfl underlying38 Tryz.t45 rfl rfl rfl rfl rfl rfl rfl av.1 av.2 (Zag .u32 0) ?_;intro a4 a5 a6 ax ay;refine go ?_;replace aa:=aa.grow ax;refine Zt [0,1000000] (fun n f aj=>∃ ac ah ai ad ab ak ae,ae=n∧Zem N ag ae ad ab ak=some r∧St w0 (Zg col) ac aj∧Zb rU 45 1 ac aj ah ai ad∧[3,4,5].map f=[.slice ah ad.length ai,.int .u64 ab,.int .i64 ak]) N ⟨_,_,_,_,0,_,_,rfl,hm,aa,ay,rfl⟩ ?_;clear hm;intro n f aj hI;obtain ⟨ac,ah,ai,ad,ab,ak,ae,hn,hm,aa,an,hs⟩:=hI;subst hn;refine .lL [3,4,5] hs ?_;replace h0:=h0.k0
 cases ae with
 | zero=>rw [Zem.eq_1] at hm;cases hm
 | succ ae=>
  rw [Zem.eq_2] at hm;refine go ?_;refine Zl hm (fun hb hm=>go ?_) fun hb hm=>go ?_
  ·obtain ⟨af,ao,hm⟩:=bZ hm;refine lI ao ((h0.ks aa).addr ao)<|lW ((h0.ks aa).atInt ao) ?_;refine go ?_;refine lV (.int .u64 (u64.wrap (aU (u64.wrap ((u64.wrap (ab * 4294967296))+(u64.wrap af))) 2))) (Vm (u64.wrap ((u64.wrap (ab * 4294967296))+(u64.wrap af))) 2 rfl rfl (by decide))<|go ?_;obtain ⟨a7,ap,hm⟩:=bZ hm;refine lI ap (an.addr ap) ?_;obtain ⟨aq,al,hm⟩:=bZ hm;have al:aq=ad.set (aA ak) (u32.wrap (u64.wrap (aU (u64.wrap ((u64.wrap (ab * 4294967296))+(u64.wrap af))) 2))):=(Option.some.inj al).symm;refine Yp (x1:=u32.wrap (u64.wrap (aU (u64.wrap ((u64.wrap (ab * 4294967296))+(u64.wrap af))) 2))) an ap ?_;intro a8 az a1 aw;rw [← al] at aw;refine .ld (d:=3) (v:=(.slice ah aq.length ai)) (congrArg (fun n=>Value.slice ah n ai) (show ad.length=aq.length by rw [al,nS])) ?_;refine go ?_;refine lV (.int .u64 (bC (u64.wrap ((u64.wrap (ab * 4294967296))+(u64.wrap af))) 2)) (So (u64.wrap ((u64.wrap (ab * 4294967296))+(u64.wrap af))) 2 rfl rfl (by decide))<|go ?_;replace aa:=aa.kp az a1;exact ⟨ae,by omega,rfl,⟨_,_,_,_,_,_,_,rfl,hm,aa,aw,rfl⟩⟩
  obtain ⟨a9,a2,hm⟩:=bZ hm;refine Zh (Uc 2 a2 (an.toSlF (Zm.int .u32))) fun _ ba ⟨a3,bb,bc,e0,am,ar⟩=>⟨_,e0,?_⟩;replace ar:=ar.thaw (Z8 .u32) am ((Fz.refl (col:=ac)).froz 1);replace am:=am.thawR (col:=ac);generalize Xb aj.heap.size ac a3=bd at *;refine go ?_;cases hm;replace aa:=aa.grow am;exact ⟨rfl,_,_,_,rfl,aa.fin (cm [(2,c1)]),aa.fo ar⟩
def Zhd (N:Nat) (kk_L2:(List Int→R2→Option R2)) (aa ab:List Int):Option R2:=
  (Zcj N ab aa).bind fun ac=>kk_L2 aa ac.1
def Zjp (N:Nat) (kk_L2:(List Int→R2→Option R2)) (ab aa:List Int) (kk_L4:(List Int→Option R2)) (ac:Bool):Option R2:=
  if ac=true then ((Zcl N aa).bind fun ad=>kk_L4 ad) else ((Zef N ab aa).bind fun ae=>if (decide (0<ae))=true then (Zhd N kk_L2 aa ab) else (Zhd N kk_L2 ab aa))
def Q3 (N:Nat) (kk_L2:(List Int→R2→Option R2)) (aa:List Int):Nat→R2→Option R2
  | 0,_=>none
  | ac+1,ab=>if (decide (0<(ab.length:Int)))=true then ((Zck ab).bind fun ad=>Zjp N kk_L2 aa ab (Q3 N kk_L2 aa ac) ad) else (Zjp N kk_L2 aa ab (Q3 N kk_L2 aa ac) false)
def Zeh (N:Nat) (ab:List Int) (kk_L2:(List Int→R2→Option R2)):Nat→R2→Option R2
  | 0,_=>none
  | ac+1,aa=>(Zck aa).bind fun ad=>if ad=true then ((Zcl N aa).bind fun ae=>(Zeh N ab kk_L2 ac) ae) else (Q3 N kk_L2 aa N ab)
def Zei (N:Nat) (aa:Int):Nat→R2→Int→Option R2
  | 0,_,_=>none
  | ad+1,ab,ac=>if (decide (ac<aa))=true then ((Zhi N ab 0).bind fun ae=>(Zei N aa ad) ae (i64.wrap (ac+1))) else (some ab)
def V0 (N:Nat) (aa:Int):Nat→R2→R2→Option R2
  | 0,_,_=>none
  | ad+1,ab,ac=>if (decide (0<(ac.length:Int)))=true then (Zeh N ac (V0 N aa ad) N ab) else (Zei N aa N ab 0)
def Zhc (N:Nat) (aa ab:List Int) (ac:Int) (kk_L1:(List Int→R2→Int→Option R2)) (ad:Bool):Option R2:=
  if ad=true then ((Zcl N aa).bind fun ae=>(Zcl N ab).bind fun af=>kk_L1 ae af (i64.wrap (ac+1))) else (V0 N ac N aa ab)
def Za3 (N:Nat):Nat→R2→R2→Int→Option R2
  | 0,_,_,_=>none
  | ac+1,aa,ab,ad=>(Zck aa).bind fun ae=>if ae=true then ((Zck ab).bind fun af=>Zhc N aa ab ad (Za3 N ac) af) else (Zhc N aa ab ad (Za3 N ac) false)
def Zjo (N:Nat) (ac ad:List Int):Option R2:=
  (Vl N ac).bind fun aa=>(Vl N ad).bind fun ab=>if (decide ((aa.length:Int)=0))=true then (some ab) else (if (decide ((ab.length:Int)=0))=true then (some aa) else (Za3 N N aa ab 0))
theorem Zz2 {N cs ct:Nat} {a0 a1:Option Addr} {col:Zd} {w0:World} {cb cc r:R2} (c1:Nat) (hm:Zjo N cb cc=some r) (h0:Sl rU col w0 a0 cs cb) (h1:Sl rU col w0 a1 ct cc):
    Calls prog 149 #[.slice a0 cb.length cs,.slice a1 cc.length ct] w0 (W2 .u32 45 c1 col w0 r):=by
 refine Z7 4 (m:=69) func149 rfl rfl rfl rfl rfl ?_;rw [Zjo.eq_1] at hm;have aa:=St.start col w0;refine go ?_;obtain ⟨dv,c3,hm⟩:=bZ hm;refine Zh (Uc 1 c3 (h0.k0.ks aa)) ?_;rintro _ dw ⟨dx,dy,dz,rfl,c4,bs⟩;refine ⟨_,rfl,go ?_⟩;obtain ⟨d0,c5,hm⟩:=bZ hm;replace aa:=aa.grow c4;refine Zh (Uc 2 c5 (h1.k0.ks aa)) ?_;rintro _ d1 ⟨d2,d3,d4,rfl,cu,cv⟩;refine ⟨_,rfl,go ?_⟩;replace bs:=bs.gr cu;replace aa:=aa.grow cu;refine Zl hm (fun hb hm=>go ?_) fun hb hm=>go ?_
 ·cases hm;exact ⟨rfl,_,_,_,rfl,aa.fin (cm [(2,c1)]),aa.fo cv⟩
 refine Zl hm (fun hb hm=>go ?_) fun hb hm=>go ?_
 ·cases hm;exact ⟨rfl,_,_,_,rfl,aa.fin (cm [(1,c1)]),aa.fo bs⟩
 refine Zt [1000000] (fun n f a6=>∃ am bt bu au bv bw av ae an,an=n∧Za3 N an au av ae=some r∧St w0 (Zg col) am a6∧Zb rU 45 1 am a6 bt bu au∧Zb rU 45 2 am a6 bv bw av∧[5,6,7].map f=[.slice bt au.length bu,.slice bv av.length bw,.int .i64 ae]) N ⟨_,_,_,_,_,_,_,0,_,rfl,hm,aa,bs,cv,rfl⟩ ?_;clear hm;intro n f a6 hI;obtain ⟨am,bt,bu,au,bv,bw,av,ae,an,hn,hm,aa,ag,ad,hs⟩:=hI;subst hn;refine .lL [5,6,7] hs ?_
 cases an with
 | zero=>rw [Za3.eq_1] at hm;cases hm
 | succ an=>
  rw [Za3.eq_2] at hm;refine Zw<|Zw ?_;refine Wp.cutK [5,6,7,1000000] (fun f a7=>∃ ao cd,Zhc N au av ae (Za3 N an) cd=some r∧St w0 (Zg col) ao a7∧Zb rU 45 1 ao a7 bt bu au∧Zb rU 45 2 ao a7 bv bw av∧[26].map f=[.bool cd]) ?_ ?_
  ·intro f a7 hJ;obtain ⟨ao,cd,hm,aa,ag,ad,hs⟩:=hJ;rw [Zhc.eq_1] at hm;refine .lL [26] hs ?_;refine Zl hm (fun hb hm=>go ?_) fun hb hm=>go ?_
   ·obtain ⟨d5,c6,hm⟩:=bZ hm;refine Zh (Zlg 3 c6 (ag.toSlF (Zm.int .u32))) fun _ c7 ⟨c8,d6,d7,e0,a8,ai⟩=>⟨_,e0,?_⟩;replace ai:=ai.thaw (Z8 .u32) a8 ((Fz.refl (col:=ao)).froz 1);replace a8:=a8.thawR (col:=ao);generalize Xb a7.heap.size ao c8=ce at *;refine go ?_;obtain ⟨d8,c9,hm⟩:=bZ hm;replace ad:=ad.gr a8;refine Zh (Zlg 4 c9 (ad.toSlF (Zm.int .u32))) fun _ d9 ⟨da,ea,eb,e0,a9,ap⟩=>⟨_,e0,?_⟩;replace ap:=ap.thaw (Z8 .u32) a9 ((Fz.refl (col:=ce)).froz 2);replace a9:=a9.thawR (col:=ce);generalize Xb c7.heap.size ce da=ec at *;refine go ?_;replace ai:=ai.gr a9;replace ai:=ai.recolSelf 1 (by decide);replace ap:=ap.recol 3 1;replace aa:=(aa.grow a8).grow a9;replace aa:=aa.recol 3 1 (by decide) (by decide);replace ap:=ap.recolSelf 2 (by decide);replace aa:=aa.recol 4 2 (by decide) (by decide);exact ⟨an,by omega,rfl,⟨_,_,_,_,_,_,_,_,_,rfl,hm,aa,ai.recol 4 2,ap,rfl⟩⟩
   refine Zt [7,1000000] (fun n f bx=>∃ bz cf cg b0 b1 b2 aw af,af=n∧V0 N ae af b0 aw=some r∧St w0 (Zg col) bz bx∧Zb rU 45 1 bz bx cf cg b0∧Zb rU 45 2 bz bx b1 b2 aw∧[5,6].map f=[.slice cf b0.length cg,.slice b1 aw.length b2]) N ⟨_,_,_,_,_,_,_,_,rfl,hm,aa,ag,ad,rfl⟩ ?_;clear hm;intro n f bx hI;obtain ⟨bz,cf,cg,b0,b1,b2,aw,af,hn,hm,aa,cw,ah,hs⟩:=hI;subst hn;refine .lL [5,6] hs ?_
   cases af with
   | zero=>rw [V0.eq_1] at hm;cases hm
   | succ af=>
    rw [V0.eq_2] at hm;refine go ?_;refine Zl hm (fun hb hm=>go ?_) fun hb hm=>go ?_
    ·refine Zt [6,7,1000000] (fun n f ba=>∃ aj bb bc ak ax,ax=n∧Zeh N aw (V0 N ae af) ax ak=some r∧St w0 (Zg col) aj ba∧Zb rU 45 1 aj ba bb bc ak∧Zb rU 45 2 aj ba b1 b2 aw∧[5].map f=[.slice bb ak.length bc]) N ⟨_,_,_,_,_,rfl,hm,aa,cw,ah,rfl⟩ ?_;clear hm;intro n f ba hI;obtain ⟨aj,bb,bc,ak,ax,hn,hm,aa,ab,ah,hs⟩:=hI;subst hn;refine .lL [5] hs ?_
     cases ax with
     | zero=>rw [Zeh.eq_1] at hm;cases hm
     | succ ax=>
      rw [Zeh.eq_2] at hm;refine go ?_;obtain ⟨ed,db,hm⟩:=bZ hm;refine Zh (Zlf db (ab.toSlF (Zm.int .u32))) fun _ cx ⟨e0,bd⟩=>⟨_,e0,?_⟩;replace bd:Zk aj ba aj cx:=.of_below bd;refine Zj ?_;replace ab:=ab.gr bd;replace ah:=ah.gr bd;replace aa:=aa.grow bd;refine Zl hm (fun hb hm=>go ?_) fun hb hm=>go ?_
      ·obtain ⟨ee,dc,hm⟩:=bZ hm;refine Zh (Zlg 5 dc (ab.toSlF (Zm.int .u32))) fun _ ef ⟨dd,eg,eh,e0,be,bf⟩=>⟨_,e0,?_⟩;replace bf:=bf.thaw (Z8 .u32) be ((Fz.refl (col:=aj)).froz 1);replace be:=be.thawR (col:=aj);generalize Xb cx.heap.size aj dd=ei at *;refine go ?_;replace ah:=ah.gr be;replace ah:=ah.recol 5 1;replace bf:=bf.recolSelf 1 (by decide);replace aa:=aa.grow be;replace aa:=aa.recol 5 1 (by decide) (by decide);exact ⟨ax,by omega,rfl,⟨_,_,_,_,_,rfl,hm,aa,bf,ah,rfl⟩⟩
      refine Zt [5,7,1000000] (fun n f bg=>∃ ay b3 b4 az aq,aq=n∧Q3 N (V0 N ae af) ak aq az=some r∧St w0 (Zg col) ay bg∧Zb rU 45 1 ay bg bb bc ak∧Zb rU 45 2 ay bg b3 b4 az∧[6].map f=[.slice b3 az.length b4]) N ⟨_,_,_,_,_,rfl,hm,aa,ab,ah,rfl⟩ ?_;clear hm;intro n f bg hI;obtain ⟨ay,b3,b4,az,aq,hn,hm,aa,ab,ac,hs⟩:=hI;subst hn;refine .lL [6] hs ?_
      cases aq with
      | zero=>rw [Q3.eq_1] at hm;cases hm
      | succ aq=>
       rw [Q3.eq_2] at hm;refine Zw<|Zw ?_;refine Wp.cutK [5,6,7,1000000] (fun f a2=>∃ al ch,Zjp N (V0 N ae af) ak az (Q3 N (V0 N ae af) ak aq) ch=some r∧St w0 (Zg col) al a2∧Zb rU 45 1 al a2 bb bc ak∧Zb rU 45 2 al a2 b3 b4 az∧[46].map f=[.bool ch]) ?_ ?_
       ·intro f a2 hJ;obtain ⟨al,ch,hm,aa,ab,ac,hs⟩:=hJ;rw [Zjp.eq_1] at hm;refine .lL [46] hs ?_;refine Zl hm (fun hb hm=>go ?_) fun hb hm=>?_
        ·obtain ⟨ej,de,hm⟩:=bZ hm;refine Zh (Zlg 6 de (ac.toSlF (Zm.int .u32))) fun _ ek ⟨df,el,em,e0,bh,bi⟩=>⟨_,e0,?_⟩;replace bi:=bi.thaw (Z8 .u32) bh ((Fz.refl (col:=al)).froz 2);replace bh:=bh.thawR (col:=al);generalize Xb a2.heap.size al df=en at *;refine go ?_;replace ab:=ab.gr bh;replace ab:=ab.recol 6 2;replace bi:=bi.recolSelf 2 (by decide);replace aa:=aa.grow bh;replace aa:=aa.recol 6 2 (by decide) (by decide);exact ⟨aq,by omega,rfl,⟨_,_,_,_,_,rfl,hm,aa,ab,bi,rfl⟩⟩
        refine Zil (Ziz ?_);refine Zw ?_;refine Wp.cutK [7,1000000] (fun f bj=>∃ ar ci cj b5 ck cl b6,Zhd N (V0 N ae af) b5 b6=some r∧St w0 (Zg col) ar bj∧Zb rU 45 1 ar bj ci cj b5∧Zb rU 45 2 ar bj ck cl b6∧[5,6].map f=[.slice ci b5.length cj,.slice ck b6.length cl]) ?_ ?_
        ·intro f bj hJ;obtain ⟨ar,ci,cj,b5,ck,cl,b6,hm,aa,a3,dg,hs⟩:=hJ;rw [Zhd.eq_1] at hm;refine .lL [5,6] hs<|go ?_;obtain ⟨b7,dh,hm⟩:=bZ hm;refine Zh (Zle 7 dh ((dg.toSlF (Zm.int .u32)).froz 1) ((a3.froz 2).toSlF (Zm.int .u32))) fun _ eo ⟨di,cy,cz,e0,bk,bm⟩=>⟨_,e0,?_⟩;replace bm:=bm.thaw (Z8 .u32) bk (((Fz.refl (col:=ar)).froz 2).froz 1);replace bk:=bk.thawR (col:=ar);generalize Xb bj.heap.size ar di=ep at *;refine lM (.tuple #[.slice cy b7.1.length cz,.bool b7.2])<|lV (.slice cy b7.1.length cz) (X6 rfl rfl)<|lV (.bool b7.2) (X6 rfl rfl)<|go ?_;replace a3:=a3.gr bk;replace bm:=bm.recolSelf 2 (by decide);replace aa:=aa.grow bk;replace aa:=aa.recol 7 2 (by decide) (by decide);exact ⟨af,by omega,rfl,⟨_,_,_,_,_,_,_,_,rfl,hm,aa,a3.recol 7 2,bm,rfl⟩⟩
        refine go ?_;obtain ⟨eq,dj,hm⟩:=bZ hm;refine Zh (Zny dj ((ab.toSlF (Zm.int .u32)).froz 2) ((ac.froz 1).toSlF (Zm.int .u32))) fun _ dk ⟨e0,bn⟩=>⟨_,e0,?_⟩;replace bn:Zk al a2 al dk:=.of_below bn;refine go ?_;replace ab:=ab.gr bn;replace ac:=ac.gr bn;replace aa:=aa.grow bn;refine Zl hm (fun hb hm=>go ?_) fun hb hm=>?_
        ·replace ac:=ac.recol 1 8;replace ab:=ab.recolSelf 8 (by decide);replace aa:=aa.recol 1 8 (by decide) (by decide);replace ac:=ac.recolSelf 1 (by decide);replace ab:=ab.recol 2 1;replace aa:=aa.recol 2 1 (by decide) (by decide);replace ac:=ac.recol 8 2;replace ab:=ab.recolSelf 2 (by decide);replace aa:=aa.recol 8 2 (by decide) (by decide);exact ⟨rfl,_,_,_,_,_,_,_,hm,aa,ac,ab,rfl⟩
        refine X7 ?_;exact ⟨rfl,_,_,_,_,_,_,_,hm,aa,ab,ac,rfl⟩
       refine go ?_;refine Xo hm (fun cn hm=>go ?_) fun cn hm=>go ?_
       ·obtain ⟨dl,dm,hm⟩:=bZ hm;refine Zh (Zlf dm (ac.toSlF (Zm.int .u32))) fun _ dn ⟨e0,bo⟩=>⟨_,e0,?_⟩;replace bo:Zk ay bg ay dn:=.of_below bo;refine lV (.bool dl) (Z5 (congrArg Value.bool cn) rfl)<|Zj ?_;replace ab:=ab.gr bo;replace ac:=ac.gr bo;replace aa:=aa.grow bo;exact ⟨rfl,_,_,hm,aa,ab,ac,rfl⟩
       refine lV (.bool false) (Xn (congrArg Value.bool cn) rfl)<|Zj ?_;exact ⟨rfl,_,_,hm,aa,ab,ac,rfl⟩
    refine Zt [7,1000000] (fun n f b8=>∃ a4 co cp b9 cq a5,a5=n∧Zei N ae a5 b9 cq=some r∧St w0 (Zg col) a4 b8∧Zb rU 45 1 a4 b8 co cp b9∧[5,8].map f=[.slice co b9.length cp,.int .i64 cq]) N ⟨_,_,_,_,0,_,rfl,hm,aa,cw,rfl⟩ ?_;clear hm;intro n f b8 hI;obtain ⟨a4,co,cp,b9,cq,a5,hn,hm,aa,c0,hs⟩:=hI;subst hn;refine .lL [5,8] hs ?_
    cases a5 with
    | zero=>rw [Zei.eq_1] at hm;cases hm
    | succ a5=>
     rw [Zei.eq_2] at hm;refine go ?_;refine Zl hm (fun hb hm=>go ?_) fun hb hm=>go ?_
     ·obtain ⟨er,dp,hm⟩:=bZ hm;refine Zh (Zqx 9 dp (c0.toSlF (Zm.int .u32))) fun _ es ⟨dq,et,eu,e0,ca,bp⟩=>⟨_,e0,?_⟩;replace bp:=bp.thaw (Z8 .u32) ca ((Fz.refl (col:=a4)).froz 1);replace ca:=ca.thawR (col:=a4);generalize Xb b8.heap.size a4 dq=ew at *;refine go ?_;replace bp:=bp.recolSelf 1 (by decide);replace aa:=aa.grow ca;replace aa:=aa.recol 9 1 (by decide) (by decide);exact ⟨a5,by omega,rfl,⟨_,_,_,_,_,_,rfl,hm,aa,bp,rfl⟩⟩
     cases hm;exact ⟨rfl,_,_,_,rfl,aa.fin (cm [(1,c1)]),aa.fo c0⟩
  refine go ?_;obtain ⟨ey,dr,hm⟩:=bZ hm;refine Zh (Zlf dr (ag.toSlF (Zm.int .u32))) fun _ c2 ⟨e0,bq⟩=>⟨_,e0,?_⟩;replace bq:Zk am a6 am c2:=.of_below bq;refine Ws rfl ?_;replace ag:=ag.gr bq;replace ad:=ad.gr bq;replace aa:=aa.grow bq;refine Xo hm (fun cr hm=>go ?_) fun cr hm=>go ?_
  ·obtain ⟨ds,dt,hm⟩:=bZ hm;refine Zh (Zlf dt (ad.toSlF (Zm.int .u32))) fun _ du ⟨e0,br⟩=>⟨_,e0,?_⟩;replace br:Zk am c2 am du:=.of_below br;refine lV (.bool ds) (Z5 (congrArg Value.bool cr) rfl)<|Zj ?_;replace ag:=ag.gr br;replace ad:=ad.gr br;replace aa:=aa.grow br;exact ⟨rfl,_,_,hm,aa,ag,ad,rfl⟩
  refine lV (.bool false) (Xn (congrArg Value.bool cr) rfl)<|Zj ?_;exact ⟨rfl,_,_,hm,aa,ag,ad,rfl⟩

end Go.Proofs.YthclpfhncgpnmaaGreat
