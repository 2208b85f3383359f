/-
  What functions of the program compute, as plain Lean functions (m_..), and proofs that they compute it (c_..). Printed by a program of the author; no conditions.
-/
import Derived.Test.YthclpfhncgpnmaaGreatJointTableBFloat
import Derived.Test.YthclpfhncgpnmaaGreatProg
import Derived.Test.YthclpfhncgpnmaaGreatJointTableBArr
import Derived.Test.YthclpfhncgpnmaaGreatJointTableBBrief
import Derived.Test.YthclpfhncgpnmaaGreatJointTableBEqs
import Derived.Test.YthclpfhncgpnmaaGreatJointTableBView
import Derived.Test.YthclpfhncgpnmaaGreatJointTableBVrow
import Derived.Test.YthclpfhncgpnmaaGreatJointTableF5
set_option linter.unusedVariables false
set_option maxRecDepth 100000
set_option maxHeartbeats 2000000
namespace Go.Proofs.YthclpfhncgpnmaaGreat
open Go Go.RowKit
open Int renaming toNat→aA,toNat_natCast→aB
open List renaming length_take_of_le→bE,take_left→eP,map_map→gB,map_id→iI,map_congr_left→dW,length_map→aE,nil_append→bL,getElem_mem→aD,length_singleton→aH,take_add_one→dQ,getElem?_eq_getElem→aI,map_append→bV,take_length→dK,take_of_length_le→bD,getElem?_take→iU,getElem?_append_right→cU,getElem?_map→bT,replicate→aC,cons_append→cJ,getElem?_eq_some_iff→cN,take_succ_eq_append_getElem→bF,set_append_right→eJ,length_replicate→aN,getElem?_set_self→iA,set_set→kB,drop_eq_getElem_cons→aL,drop_eq_nil_of_le→aG,getElem_replicate→eA
open Option renaming toList_some→cV
open Nat renaming add_zero→bO,sub_self→fB,zero_le→aT,min_eq_left→aS,le_trans→aY
open Go.IntKind (i8 i16 i32 i64 u8 u16 u32 u64)
open Go.Proofs.Tryz

def Zll (aa:Int) (kk_L2:(Int→Option Bool)) (ab:Bool):Option Bool:=
  if ab=true then (some false) else (kk_L2 (i64.wrap (aa+1)))
def Zgj (N:Nat) (ad:R3) (af:R0) (ab:Int) (kk_L2:(Int→Option Bool)) (aa:List Int):Nat→Int→Option Bool
  | 0,_=>none
  | ah+1,ac=>if (decide (ac<(aa.length:Int)))=true then ((Zi ad.2.2.2.1 ab).bind fun ag=>(Zi (ag.2.take ag.1) ac).bind fun ai=>(Zi af.2.2.2.1 ab).bind fun aj=>(Zi aj ac).bind fun ak=>if (!decide (ai=ak))=true then (some false) else ((Zgj N ad af ab kk_L2 aa ah) (i64.wrap (ac+1)))) else ((Zi ad.2.2.2.1 ab).bind fun ae=>Zt ((0:Int)≤(i64.wrap ((aa.length:Int)+2))∧(i64.wrap ((aa.length:Int)+2))≤(ae.2.length:Int)) ((Zi (ae.2.take (aA (i64.wrap ((aa.length:Int)+2)))) (aa.length:Int)).bind fun al=>if (!decide (al=(-95)))=true then (Zll ab kk_L2 true) else ((Zi (ae.2.take (aA (i64.wrap ((aa.length:Int)+2)))) (i64.wrap ((aa.length:Int)+1))).bind fun am=>Zll ab kk_L2 (!decide (am=(-96))))))
def Zds (aa:Int) (kk_L5:(Int→Option Bool)) (ab:Bool):Option Bool:=
  if ab=true then (some false) else (kk_L5 (i64.wrap (aa+1)))
def Zgh (aa:Int) (kk_L4:(Int→Option Bool)) (ab:Bool):Option Bool:=
  if ab=true then (some false) else (kk_L4 (i64.wrap (aa+1)))
def S9 (N:Nat) (ae:R3) (af:R0) (ab:Int) (kk_L4:(Int→Option Bool)) (ac:R6):Nat→Int→Option Bool
  | 0,_=>none
  | ag+1,ad=>if (decide (ad<(ac.length:Int)))=true then ((Zi ae.2.2.2.2 ab).bind fun al=>(Zi (al.2.take al.1) ad).bind fun aa=>Zt ((0:Int)≤(i64.wrap (((aa.1.2.2.take aa.1.2.1).length:Int)+2))∧(i64.wrap (((aa.1.2.2.take aa.1.2.1).length:Int)+2))≤(aa.1.2.2.length:Int)) (Zt ((0:Int)≤(i64.wrap (((aa.2.2.take aa.2.1).length:Int)+2))∧(i64.wrap (((aa.2.2.take aa.2.1).length:Int)+2))≤(aa.2.2.length:Int)) ((Zi af.2.2.2.2 ab).bind fun am=>(Zi am ad).bind fun aj=>(Zji N ((aa.1.1,aa.1.2.2.take aa.1.2.1),aa.2.2.take aa.2.1) ((aj.1.1,aj.1.2),aj.2)).bind fun an=>if (!an)=true then (Zds ad (S9 N ae af ab kk_L4 ac ag) true) else ((Zi (aa.1.2.2.take (aA (i64.wrap (((aa.1.2.2.take aa.1.2.1).length:Int)+2)))) (i64.wrap (((aa.1.2.2.take (aA (i64.wrap (((aa.1.2.2.take aa.1.2.1).length:Int)+2)))).length:Int) - 1))).bind fun ao=>if (!decide (ao=902))=true then (Zds ad (S9 N ae af ab kk_L4 ac ag) true) else ((Zi (aa.1.2.2.take (aA (i64.wrap (((aa.1.2.2.take aa.1.2.1).length:Int)+2)))) (i64.wrap (((aa.1.2.2.take (aA (i64.wrap (((aa.1.2.2.take aa.1.2.1).length:Int)+2)))).length:Int) - 2))).bind fun ap=>if (!decide (ap=901))=true then (Zds ad (S9 N ae af ab kk_L4 ac ag) true) else ((Zi (aa.2.2.take (aA (i64.wrap (((aa.2.2.take aa.2.1).length:Int)+2)))) (i64.wrap (((aa.2.2.take (aA (i64.wrap (((aa.2.2.take aa.2.1).length:Int)+2)))).length:Int) - 1))).bind fun aq=>if (!decide (aq=904))=true then (Zds ad (S9 N ae af ab kk_L4 ac ag) true) else ((Zi (aa.2.2.take (aA (i64.wrap (((aa.2.2.take aa.2.1).length:Int)+2)))) (i64.wrap (((aa.2.2.take (aA (i64.wrap (((aa.2.2.take aa.2.1).length:Int)+2)))).length:Int) - 2))).bind fun ar=>Zds ad (S9 N ae af ab kk_L4 ac ag) (!decide (ar=903))))))))) else ((Zi ae.2.2.2.2 ab).bind fun ak=>Zt ((0:Int)≤(i64.wrap ((ac.length:Int)+2))∧(i64.wrap ((ac.length:Int)+2))≤(ak.2.length:Int)) ((Zi (ak.2.take (aA (i64.wrap ((ac.length:Int)+2)))) (ac.length:Int)).bind fun ah=>if (!decide (((ah.2.2.take ah.2.1).length:Int)=1))=true then (Zgh ab kk_L4 true) else ((Zi (ah.2.2.take ah.2.1) 0).bind fun au=>if (!decide (au=97))=true then (Zgh ab kk_L4 true) else ((Zi (ak.2.take (aA (i64.wrap ((ac.length:Int)+2)))) (i64.wrap ((ac.length:Int)+1))).bind fun ai=>if (!decide (((ai.2.2.take ai.2.1).length:Int)=1))=true then (Zgh ab kk_L4 true) else ((Zi (ai.2.2.take ai.2.1) 0).bind fun av=>Zgh ab kk_L4 (!decide (av=98)))))))
def Zaa (N:Nat) (ac:R3) (aa:R0):Nat→Int→Option Bool
  | 0,_=>none
  | af+1,ab=>if (decide (ab<(aa.2.2.2.2.length:Int)))=true then ((Zi aa.2.2.2.2 ab).bind fun ad=>(Zi ac.2.2.2.2 ab).bind fun ae=>if (!decide (((ae.2.take ae.1).length:Int)=(ad.length:Int)))=true then (some false) else (S9 N ac aa ab (Zaa N ac aa af) ad N 0)) else (some true)
def Za3 (N:Nat) (ab:R3) (aa:R0):Nat→Int→Option Bool
  | 0,_=>none
  | af+1,ac=>if (decide (ac<(aa.2.2.2.1.length:Int)))=true then ((Zi aa.2.2.2.1 ac).bind fun ad=>(Zi ab.2.2.2.1 ac).bind fun ae=>if (!decide (((ae.2.take ae.1).length:Int)=(ad.length:Int)))=true then (some false) else (Zgj N ab aa ac (Za3 N ab aa af) ad N 0)) else (Zaa N ab aa N 0)
def Zgi (N:Nat) (ac:R3) (aa:R0):Nat→Int→Option Bool
  | 0,_=>none
  | ae+1,ab=>if (decide (ab<(aa.2.2.1.length:Int)))=true then ((Zi ac.2.2.1 ab).bind fun ad=>(Zi aa.2.2.1 ab).bind fun af=>(Zgw N ad.1 ad.2 af (⟨#[35,51]⟩) (⟨#[35,52]⟩)).bind fun ag=>if (!ag)=true then (some false) else ((Zgi N ac aa ae) (i64.wrap (ab+1)))) else (Za3 N ac aa N 0)
def Zdr (N:Nat) (aa:R3) (ab:R0) (ac:Bool):Option Bool:=
  if ac=true then (some false) else (Zgi N aa ab N 0)
def Zgg (N:Nat) (aa:R3) (ab:R0):Option Bool:=
  if (!decide (aa.1=ab.1))=true then (Zdr N aa ab true) else (if (!decide ((aa.2.2.1.length:Int)=(ab.2.2.1.length:Int)))=true then (Zdr N aa ab true) else (if (!decide ((aa.2.2.2.1.length:Int)=(ab.2.2.2.1.length:Int)))=true then (Zdr N aa ab true) else (if (!decide ((aa.2.2.2.2.length:Int)=(ab.2.2.2.2.length:Int)))=true then (Zdr N aa ab true) else ((Zgw N aa.2.1.1 aa.2.1.2 ab.2.1 (⟨#[35,49]⟩) (⟨#[35,50]⟩)).bind fun ac=>Zdr N aa ab (!ac)))))
theorem Ztn {N al am an ao ap aq ar au:Nat} {av aw ax ay az a0 a1 a2:Option Addr} {col:Zd} {w0:World} {ab:R3} {ac:R0} {r:Bool} (hm:Zgg N ab ac=some r) (cp:Sl Za.str col w0 av al ab.2.1.2) (b1:Sl (Za.view Za.str) col w0 aw am ab.2.2.1) (ba:Sl (Za.view rI) col w0 ax an ab.2.2.2.1) (bb:Sl (Za.view (Za.pair (Za.pair Za.bool (Za.view rU)) (Za.view rU))) col w0 ay ao ab.2.2.2.2) (cq:Sl Za.str col w0 az ap ac.2.1) (b2:Sl rV col w0 a0 aq ac.2.2.1) (bi:Sl rP col w0 a1 ar ac.2.2.2.1) (bj:Sl (Za.slice rQ) col w0 a2 au ac.2.2.2.2):
    Calls prog 12 #[(.agg #[.string ab.1,.slice av ((ab.2.1.2.take ab.2.1.1).length) al,.slice aw ab.2.2.1.length am,.slice ax ab.2.2.2.1.length an,.slice ay ab.2.2.2.2.length ao]),(.agg #[.string ac.1,.slice az ac.2.1.length ap,.slice a0 ac.2.2.1.length aq,.slice a1 ac.2.2.2.1.length ar,.slice a2 ac.2.2.2.2.length au])] w0 (Wx w0 r):=by
 refine Z6 4 (m:=283) func12 rfl rfl rfl rfl rfl ?_;rw [Zgg.eq_1] at hm;have aa:=St.start col w0;refine go ?_;refine Xl (col:=(Zf col)) 1 rfl ?_;intro a7 ha ed ee ad;refine Xl (col:=ed) 2 rfl ?_;intro a8 ef d9 ea ae;refine Qt rfl<|Zl<|Z0<|Z0 ?_;replace b1:=b1.k0;replace ba:=ba.k0;replace bb:=bb.k0;replace b2:=b2.k0;replace bi:=bi.k0;replace bj:=bj.k0;replace aa:=(aa.grow ee).grow ea;replace ad:=ad.gr ea;refine Wp.cutK [2,3,1000000] (fun f b3=>∃ b4 cr,Zdr N ab ac cr=some r∧St w0 (Zf col) b4 b3∧Zj 27 1 b4 b3 a7 #[.string ab.1,.slice av ((ab.2.1.2.take ab.2.1.1).length) al,.slice aw ab.2.2.1.length am,.slice ax ab.2.2.2.1.length an,.slice ay ab.2.2.2.2.length ao]∧Zj 27 2 b4 b3 a8 #[.string ac.1,.slice az ac.2.1.length ap,.slice a0 ac.2.2.1.length aq,.slice a1 ac.2.2.2.1.length ar,.slice a2 ac.2.2.2.2.length au]∧[56].map f=[.bool cr]) ?_ ?_
 ·intro f b3 hJ;obtain ⟨b4,cr,hm,aa,ad,ae,hs⟩:=hJ;rw [Zdr.eq_1] at hm;refine .lL [56] hs ?_;refine Zm hm (fun hb hm=>go ?_) fun hb hm=>go ?_
  ·cases hm;exact ⟨rfl,rfl,aa.below⟩
  refine Zs [2,3,1000000] (fun n f bp=>∃ ak cs bk,bk=n∧Zgi N ab ac bk cs=some r∧St w0 (Zf col) ak bp∧Zj 27 1 ak bp a7 #[.string ab.1,.slice av ((ab.2.1.2.take ab.2.1.1).length) al,.slice aw ab.2.2.1.length am,.slice ax ab.2.2.2.1.length an,.slice ay ab.2.2.2.2.length ao]∧Zj 27 2 ak bp a8 #[.string ac.1,.slice az ac.2.1.length ap,.slice a0 ac.2.2.1.length aq,.slice a1 ac.2.2.2.1.length ar,.slice a2 ac.2.2.2.2.length au]∧[5].map f=[.int .i64 cs]) N ⟨_,0,_,rfl,hm,aa,ad,ae,rfl⟩ ?_;clear hm;intro n f bp hI;obtain ⟨ak,cs,bk,hn,hm,aa,ad,ae,hs⟩:=hI;subst hn;refine .lL [5] hs ?_
  cases bk with
  | zero=>rw [Zgi.eq_1] at hm;cases hm
  | succ bk=>
   rw [Zgi.eq_2] at hm;refine go ?_;refine Z1 ae ?_;refine go ?_;refine Zm hm (fun hb hm=>go ?_) fun hb hm=>go ?_
   ·refine Y7 (col:=ak) (by kernel_rfl) (by kernel_rfl)<|qF ⟨_,_,rfl⟩ ?_;refine qW (fun _ hC=>((ad.atN).nth (q:=2) rfl).gr (hC.bl ak)) ?_;refine go ?_;obtain ⟨eg,ct,hm⟩:=bZ hm;refine qI ct ((b1.ks aa).addr ct) ?_;obtain ⟨_,eh,ei⟩:=(b1.ks aa).atN ct;obtain ⟨⟨ej,ek,rfl,cu⟩,_⟩:=eh;replace cu:Sl Za.str ak bp ej ek eg.2:=cu;refine qW (fun _ hC=>ei.one.gr (hC.bl ak)) ?_;refine qF ⟨_,_,rfl⟩ ?_;refine qW (fun _ hC=>((ae.atN).nth (q:=2) rfl).gr (hC.bl ak)) ?_;refine go ?_;obtain ⟨hc,cv,hm⟩:=bZ hm;refine qI cv ((b2.ks aa).addr cv) ?_;obtain ⟨_,el,em⟩:=(b2.ks aa).atN cv;obtain ⟨⟨hd,he,rfl,en⟩,_⟩:=el;refine qW (fun _ hC=>em.one.gr (hC.bl ak)) ?_;obtain ⟨eo,ep,hm⟩:=bZ hm;refine qc (v:=(.bool eo)) rfl (fun _ hC=>⟨_,_,Zyz call45 rfl rfl rfl rfl,(Ztp ep (cu.gr (hC.bl ak)) (en.gr (hC.bl ak)):).mono fun _ _ h=>⟨h.1,hC.trans (.of_below h.2)⟩⟩) ?_;refine go ?_;refine X2 ?_;intro hf hC;replace hC:=hC.bl ak;replace ad:=ad.gr hC;replace ae:=ae.gr hC;replace aa:=aa.grow hC;refine Zm hm (fun hb hm=>go ?_) fun hb hm=>go ?_
    ·cases hm;exact ⟨rfl,rfl,aa.below⟩
    exact ⟨bk,by omega,rfl,⟨_,_,_,rfl,hm,aa,ad,ae,rfl⟩⟩
   refine Zs [2,3,1000000] (fun n f b5=>∃ b6 bq bc,bc=n∧Za3 N ab ac bc bq=some r∧St w0 (Zf col) b6 b5∧Zj 27 1 b6 b5 a7 #[.string ab.1,.slice av ((ab.2.1.2.take ab.2.1.1).length) al,.slice aw ab.2.2.1.length am,.slice ax ab.2.2.2.1.length an,.slice ay ab.2.2.2.2.length ao]∧Zj 27 2 b6 b5 a8 #[.string ac.1,.slice az ac.2.1.length ap,.slice a0 ac.2.2.1.length aq,.slice a1 ac.2.2.2.1.length ar,.slice a2 ac.2.2.2.2.length au]∧[6].map f=[.int .i64 bq]) N ⟨_,0,_,rfl,hm,aa,ad,ae,rfl⟩ ?_;clear hm;intro n f b5 hI;obtain ⟨b6,bq,bc,hn,hm,aa,ad,ae,hs⟩:=hI;subst hn;refine .lL [6] hs ?_
   cases bc with
   | zero=>rw [Za3.eq_1] at hm;cases hm
   | succ bc=>
    rw [Za3.eq_2] at hm;refine go ?_;refine Z1 ae ?_;refine go ?_;refine Zm hm (fun hb hm=>go ?_) fun hb hm=>go ?_
    ·refine Z1 ae<|Xr rfl ?_;obtain ⟨bd,cw,hm⟩:=bZ hm;refine lI cw ((bi.ks aa).addr cw) ?_;obtain ⟨_,eq,er⟩:=(bi.ks aa).atN cw;obtain ⟨⟨hg,hh,rfl,hi⟩,_⟩:=eq;refine lW er.one<|go ?_;refine Z1 ad<|Xr rfl ?_;obtain ⟨hj,cx,hm⟩:=bZ hm;refine lI cx ((ba.ks aa).addr cx) ?_;obtain ⟨_,es,et⟩:=(ba.ks aa).atN cx;obtain ⟨⟨hk,hl,rfl,ho⟩,_⟩:=es;refine lW et.one<|go ?_;refine Zm hm (fun hb hm=>go ?_) fun hb hm=>go ?_
     ·cases hm;exact ⟨rfl,rfl,aa.below⟩
     refine Zs [2,3,6,7,1000000] (fun n f bm=>∃ aj cy bn,bn=n∧Zgj N ab ac bq (Za3 N ab ac bc) bd bn cy=some r∧St w0 (Zf col) aj bm∧Zj 27 1 aj bm a7 #[.string ab.1,.slice av ((ab.2.1.2.take ab.2.1.1).length) al,.slice aw ab.2.2.1.length am,.slice ax ab.2.2.2.1.length an,.slice ay ab.2.2.2.2.length ao]∧Zj 27 2 aj bm a8 #[.string ac.1,.slice az ac.2.1.length ap,.slice a0 ac.2.2.1.length aq,.slice a1 ac.2.2.2.1.length ar,.slice a2 ac.2.2.2.2.length au]∧[8].map f=[.int .i64 cy]) N ⟨_,0,_,rfl,hm,aa,ad,ae,rfl⟩ ?_;clear hm;intro n f bm hI;obtain ⟨aj,cy,bn,hn,hm,aa,ad,ae,hs⟩:=hI;subst hn;refine .lL [8] hs ?_
     cases bn with
     | zero=>rw [Zgj.eq_1] at hm;cases hm
     | succ bn=>
      rw [Zgj.eq_2] at hm;refine go ?_;refine Zm hm (fun hb hm=>go ?_) fun hb hm=>go ?_
      ·refine Y7 (col:=aj) (by kernel_rfl) (by kernel_rfl)<|qF ⟨_,_,rfl⟩ ?_;refine qW (fun _ hC=>((ad.atN).nth (q:=3) rfl).gr (hC.bl aj)) ?_;refine go ?_;obtain ⟨cz,c0,hm⟩:=bZ hm;refine qI c0 ((ba.ks aa).addr c0) ?_;obtain ⟨_,eu,ew⟩:=(ba.ks aa).atN c0;obtain ⟨⟨ey,ez,rfl,b7⟩,_⟩:=eu;replace b7:Sl rI aj bm ey ez cz.2:=b7;refine qW (fun _ hC=>ew.one.gr (hC.bl aj)) ?_;refine go ?_;obtain ⟨hp,c1,hm⟩:=bZ hm;refine qI c1 ((b7.take cz.1).addr c1)<|qW (fun _ hC=>((b7.take cz.1).gr (hC.bl aj)).atInt c1) ?_;refine qF ⟨_,_,rfl⟩ ?_;refine qW (fun _ hC=>((ae.atN).nth (q:=3) rfl).gr (hC.bl aj)) ?_;refine go ?_;obtain ⟨hq,c2,hm⟩:=bZ hm;refine qI c2 ((bi.ks aa).addr c2) ?_;obtain ⟨_,e0,e1⟩:=(bi.ks aa).atN c2;obtain ⟨⟨hr,ht,rfl,eb⟩,_⟩:=e0;refine qW (fun _ hC=>e1.one.gr (hC.bl aj)) ?_;refine go ?_;obtain ⟨hu,c3,hm⟩:=bZ hm;refine qI c3 (eb.addr c3)<|qW (fun _ hC=>(eb.gr (hC.bl aj)).atInt c3) ?_;refine go ?_;refine X2 ?_;intro hv hC;replace hC:=hC.bl aj;replace ad:=ad.gr hC;replace ae:=ae.gr hC;replace aa:=aa.grow hC;refine Zm hm (fun hb hm=>go ?_) fun hb hm=>go ?_
       ·cases hm;exact ⟨rfl,rfl,aa.below⟩
       exact ⟨bn,by omega,rfl,⟨_,_,_,rfl,hm,aa,ad,ae,rfl⟩⟩
      refine Z1 ad<|Xr rfl ?_;obtain ⟨c4,c5,hm⟩:=bZ hm;refine lI c5 ((ba.ks aa).addr c5) ?_;obtain ⟨_,e2,e3⟩:=(ba.ks aa).atN c5;obtain ⟨⟨b8,b9,rfl,bg⟩,_⟩:=e2;replace bg:Sl rI aj bm b8 b9 c4.2:=bg;refine lW e3.one<|go ?_;obtain ⟨c6,hm⟩:=Zv hm;refine lv (v:=.slice b8 (aA (i64.wrap ((bd.length:Int)+2))) b9) rfl rfl (Vt underlying36 sizeOf3 rfl rfl c6.1 (by have:=bg.1.2;have:=c6.2;omega))<|.ld (d:=126) (v:=(.slice b8 ((c4.2.take (aA (i64.wrap ((bd.length:Int)+2)))).length) b9)) (congrArg (fun n=>Value.slice b8 n b9) (bE (show (aA (i64.wrap ((bd.length:Int)+2)))≤c4.2.length by have:=c6.2;omega)).symm) ?_;refine Zbe rfl<|Zl<|Z0 ?_;refine Wp.cutK [2,3,6,1000000] (fun f ca=>∃ cb c7,Zll bq (Za3 N ab ac bc) c7=some r∧St w0 (Zf col) cb ca∧Zj 27 1 cb ca a7 #[.string ab.1,.slice av ((ab.2.1.2.take ab.2.1.1).length) al,.slice aw ab.2.2.1.length am,.slice ax ab.2.2.2.1.length an,.slice ay ab.2.2.2.2.length ao]∧Zj 27 2 cb ca a8 #[.string ac.1,.slice az ac.2.1.length ap,.slice a0 ac.2.2.1.length aq,.slice a1 ac.2.2.2.1.length ar,.slice a2 ac.2.2.2.2.length au]∧[139].map f=[.bool c7]) ?_ ?_
      ·intro f ca hJ;obtain ⟨cb,c7,hm,aa,ad,ae,hs⟩:=hJ;rw [Zll.eq_1] at hm;refine .lL [139] hs ?_;refine Zm hm (fun hb hm=>go ?_) fun hb hm=>go ?_
       ·cases hm;exact ⟨rfl,rfl,aa.below⟩
       exact ⟨bc,by omega,rfl,⟨_,_,_,rfl,hm,aa,ad,ae,rfl⟩⟩
      refine go ?_;obtain ⟨hw,c8,hm⟩:=bZ hm;refine lI c8 ((bg.take (aA (i64.wrap ((bd.length:Int)+2)))).addr c8)<|lW ((bg.take (aA (i64.wrap ((bd.length:Int)+2)))).atInt c8) ?_;refine go ?_;refine Xn hm (fun c9 hm=>go ?_) fun c9 hm=>go ?_
      ·refine lV (.bool true) (Zw (congrArg Value.bool c9) rfl)<|Zl ?_;exact ⟨rfl,_,_,hm,aa,ad,ae,rfl⟩
      obtain ⟨e4,da,hm⟩:=bZ hm;refine lI da ((bg.take (aA (i64.wrap ((bd.length:Int)+2)))).addr da) ?_;refine go ?_;refine lW ((bg.take (aA (i64.wrap ((bd.length:Int)+2)))).atInt da)<|go ?_;refine lV (.bool (!decide (e4=(-96)))) (Xk (congrArg Value.bool c9) rfl)<|Zl ?_;exact ⟨rfl,_,_,hm,aa,ad,ae,rfl⟩
    refine Zs [2,3,1000000] (fun n f cc=>∃ cd bo a9,a9=n∧Zaa N ab ac a9 bo=some r∧St w0 (Zf col) cd cc∧Zj 27 1 cd cc a7 #[.string ab.1,.slice av ((ab.2.1.2.take ab.2.1.1).length) al,.slice aw ab.2.2.1.length am,.slice ax ab.2.2.2.1.length an,.slice ay ab.2.2.2.2.length ao]∧Zj 27 2 cd cc a8 #[.string ac.1,.slice az ac.2.1.length ap,.slice a0 ac.2.2.1.length aq,.slice a1 ac.2.2.2.1.length ar,.slice a2 ac.2.2.2.2.length au]∧[10].map f=[.int .i64 bo]) N ⟨_,0,_,rfl,hm,aa,ad,ae,rfl⟩ ?_;clear hm;intro n f cc hI;obtain ⟨cd,bo,a9,hn,hm,aa,ad,ae,hs⟩:=hI;subst hn;refine .lL [10] hs ?_
    cases a9 with
    | zero=>rw [Zaa.eq_1] at hm;cases hm
    | succ a9=>
     rw [Zaa.eq_2] at hm;refine go ?_;refine Z1 ae ?_;refine go ?_;refine Zm hm (fun hb hm=>go ?_) fun hb hm=>go ?_
     ·refine Z1 ae<|Xr rfl ?_;obtain ⟨ah,db,hm⟩:=bZ hm;refine lI db ((bj.ks aa).addr db) ?_;obtain ⟨_,e5,e6⟩:=(bj.ks aa).atN db;obtain ⟨⟨hx,hy,rfl,hz⟩,_⟩:=e5;refine lW e6.one<|go ?_;refine Z1 ad<|Xr rfl ?_;obtain ⟨h0,dc,hm⟩:=bZ hm;refine lI dc ((bb.ks aa).addr dc) ?_;obtain ⟨_,e7,e8⟩:=(bb.ks aa).atN dc;obtain ⟨⟨h1,h2,rfl,h3⟩,_⟩:=e7;refine lW e8.one<|go ?_;refine Zm hm (fun hb hm=>go ?_) fun hb hm=>go ?_
      ·cases hm;exact ⟨rfl,rfl,aa.below⟩
      refine Zs [10,11,2,3,1000000] (fun n f a4=>∃ a3 ce bh,bh=n∧S9 N ab ac bo (Zaa N ab ac a9) ah bh ce=some r∧St w0 (Zf col) a3 a4∧Zj 27 1 a3 a4 a7 #[.string ab.1,.slice av ((ab.2.1.2.take ab.2.1.1).length) al,.slice aw ab.2.2.1.length am,.slice ax ab.2.2.2.1.length an,.slice ay ab.2.2.2.2.length ao]∧Zj 27 2 a3 a4 a8 #[.string ac.1,.slice az ac.2.1.length ap,.slice a0 ac.2.2.1.length aq,.slice a1 ac.2.2.2.1.length ar,.slice a2 ac.2.2.2.2.length au]∧[12].map f=[.int .i64 ce]) N ⟨_,0,_,rfl,hm,aa,ad,ae,rfl⟩ ?_;clear hm;intro n f a4 hI;obtain ⟨a3,ce,bh,hn,hm,aa,ad,ae,hs⟩:=hI;subst hn;refine .lL [12] hs ?_
      cases bh with
      | zero=>rw [S9.eq_1] at hm;cases hm
      | succ bh=>
       rw [S9.eq_2] at hm;refine go ?_;refine Zm hm (fun hb hm=>go ?_) fun hb hm=>go ?_
       ·refine Z1 ad<|Xr rfl ?_;obtain ⟨dd,de,hm⟩:=bZ hm;refine lI de ((bb.ks aa).addr de) ?_;obtain ⟨_,e9,fa⟩:=(bb.ks aa).atN de;obtain ⟨⟨fb,fc,rfl,cf⟩,_⟩:=e9;replace cf:Sl (Za.pair (Za.pair Za.bool (Za.view rU)) (Za.view rU)) a3 a4 fb fc dd.2:=cf;refine lW fa.one<|Xr rfl ?_;obtain ⟨af,df,hm⟩:=bZ hm;refine lI df ((cf.take dd.1).addr df) ?_;obtain ⟨_,fd,fe⟩:=(cf.take dd.1).atN df;obtain ⟨_,_,rfl,ff,fg⟩:=Yb fd;obtain ⟨_,_,rfl,fh,fi⟩:=Yb ff;obtain ⟨rfl,_⟩:=fh;obtain ⟨⟨br,bs,rfl,a5⟩,_⟩:=fi;replace a5:Sl rU a3 a4 br bs af.1.2.2:=a5;obtain ⟨⟨bt,bu,rfl,a6⟩,_⟩:=fg;replace a6:Sl rU a3 a4 bt bu af.2.2:=a6;refine lV (.agg #[.bool af.1.1,.slice br ((af.1.2.2.take af.1.2.1).length) bs,.slice bt ((af.2.2.take af.2.1).length) bu]) (Ym isAgg42 sizeOf42 rfl rfl fe)<|Xx (col:=a3) #[.bool false,(nI),(nI)] 3 zeroValue42 ?_;intro h4 h5 ag bv fj;refine Xf fj ?_;intro h6 bw fk bx;refine go ?_;refine Z7 ⟨_,_,rfl⟩ ?_;refine Z7 (X8 ⟨_,_,rfl⟩) ?_;refine lW ((((bx.atN).part 0 2 _ rfl)).nth (q:=1) rfl)<|Z7 ⟨_,_,rfl⟩ ?_;refine Z7 (X8 ⟨_,_,rfl⟩) ?_;refine lW ((((bx.atN).part 0 2 _ rfl)).nth (q:=1) rfl)<|go ?_;obtain ⟨dg,hm⟩:=Zv hm;replace a5:=(a5.gr bv).kp bw;refine lv (v:=.slice br (aA (i64.wrap (((af.1.2.2.take af.1.2.1).length:Int)+2))) bs) rfl rfl (Vt underlying38 sizeOf45 rfl rfl dg.1 (by have:=a5.1.2;have:=dg.2;omega))<|.ld (d:=182) (v:=(.slice br ((af.1.2.2.take (aA (i64.wrap (((af.1.2.2.take af.1.2.1).length:Int)+2)))).length) bs)) (congrArg (fun n=>Value.slice br n bs) (bE (show (aA (i64.wrap (((af.1.2.2.take af.1.2.1).length:Int)+2)))≤af.1.2.2.length by have:=dg.2;omega)).symm) ?_;refine go ?_;refine Z1 bx<|Z1 bx ?_;refine go ?_;obtain ⟨dh,hm⟩:=Zv hm;replace a6:=(a6.gr bv).kp bw
        refine lv (v:=.slice bt (aA (i64.wrap (((af.2.2.take af.2.1).length:Int)+2))) bu) rfl rfl (Vt underlying38 sizeOf45 rfl rfl dh.1 (by have:=a6.1.2;have:=dh.2;omega))<|.ld (d:=189) (v:=(.slice bt ((af.2.2.take (aA (i64.wrap (((af.2.2.take af.2.1).length:Int)+2)))).length) bu)) (congrArg (fun n=>Value.slice bt n bu) (bE (show (aA (i64.wrap (((af.2.2.take af.2.1).length:Int)+2)))≤af.2.2.length by have:=dh.2;omega)).symm) ?_;refine Zbe rfl<|Zl<|Z0 ?_;replace ad:=(ad.gr bv).kp bw;replace ae:=(ae.gr bv).kp bw;replace aa:=(aa.grow bv).kp bw fk;refine Wp.cutK [10,11,12,2,3,1000000] (fun f cg=>∃ ch di,Zds ce (S9 N ab ac bo (Zaa N ab ac a9) ah bh) di=some r∧St w0 (Zf col) ch cg∧Zj 27 1 ch cg a7 #[.string ab.1,.slice av ((ab.2.1.2.take ab.2.1.1).length) al,.slice aw ab.2.2.1.length am,.slice ax ab.2.2.2.1.length an,.slice ay ab.2.2.2.2.length ao]∧Zj 27 2 ch cg a8 #[.string ac.1,.slice az ac.2.1.length ap,.slice a0 ac.2.2.1.length aq,.slice a1 ac.2.2.2.1.length ar,.slice a2 ac.2.2.2.2.length au]∧[236].map f=[.bool di]) ?_ ?_
        ·intro f cg hJ;obtain ⟨ch,di,hm,aa,ad,ae,hs⟩:=hJ;rw [Zds.eq_1] at hm;refine .lL [236] hs ?_;refine Zm hm (fun hb hm=>go ?_) fun hb hm=>go ?_
         ·cases hm;exact ⟨rfl,rfl,aa.below⟩
         exact ⟨bh,by omega,rfl,⟨_,_,_,rfl,hm,aa,ad,ae,rfl⟩⟩
        refine Y7 (col:=ag) (by kernel_rfl) (by kernel_rfl)<|qv rfl (fun _ hC=>Z9 isAgg42 sizeOf42 (bx.gr (hC.bl ag))) ?_;refine qF ⟨_,_,rfl⟩ ?_;refine qW (fun _ hC=>((ae.atN).nth (q:=4) rfl).gr (hC.bl ag)) ?_;refine go ?_;obtain ⟨h7,dj,hm⟩:=bZ hm;refine qI dj ((bj.ks aa).addr dj) ?_;obtain ⟨_,fl,fm⟩:=(bj.ks aa).atN dj;obtain ⟨⟨h8,h9,rfl,ec⟩,_⟩:=fl;refine qW (fun _ hC=>fm.one.gr (hC.bl ag)) ?_;refine go ?_;obtain ⟨dk,dl,hm⟩:=bZ hm;refine qI dl (ec.addr dl) ?_;obtain ⟨_,fn,fp⟩:=ec.atN dl;obtain ⟨_,_,rfl,fq,fr⟩:=Yb fn;obtain ⟨_,_,rfl,ft,fu⟩:=Yb fq;obtain ⟨rfl,_⟩:=ft;obtain ⟨⟨fv,fw,rfl,fx⟩,_⟩:=fu;obtain ⟨⟨fy,fz,rfl,f0⟩,_⟩:=fr;refine qv (v:=(.agg #[.bool dk.1.1,.slice fv dk.1.2.length fw,.slice fy dk.2.length fz])) rfl (fun _ hC=>Ym isAgg42 sizeOf42 rfl rfl (fp.gr (hC.bl ag))) ?_;obtain ⟨f1,f2,hm⟩:=bZ hm;refine qc (v:=(.bool f1)) rfl (fun _ hC=>⟨_,_,Zce call46 rfl rfl,(Z4i f2 ((a5.take af.1.2.1).gr (hC.bl ag)) ((a6.take af.2.1).gr (hC.bl ag)) (fx.gr (hC.bl ag)) (f0.gr (hC.bl ag)):).mono fun _ _ h=>⟨h.1,hC.trans (.of_below h.2)⟩⟩) ?_;refine go ?_;refine Xn hm (fun dm hm=>go ?_) fun dm hm=>go ?_
        ·refine qv (v:=(.bool true)) rfl (fun _ hC=>Zw (congrArg Value.bool dm) rfl) ?_;refine go ?_;refine qP 210 rfl rfl<|qP 210 rfl rfl<|qP 210 rfl rfl<|qP 210 rfl rfl<|qP 210 rfl rfl<|qP 210 rfl rfl<|qP 210 rfl rfl<|qv (v:=(.bool true)) rfl (fun _ hC=>Zw rfl rfl) ?_;refine go ?_;refine qP 219 rfl rfl<|qP 219 rfl rfl<|qP 219 rfl rfl<|qP 219 rfl rfl<|qP 219 rfl rfl<|qP 219 rfl rfl<|qP 219 rfl rfl<|qv (v:=(.bool true)) rfl (fun _ hC=>Zw rfl rfl) ?_;refine go ?_;refine qP 228 rfl rfl<|qP 228 rfl rfl<|qP 228 rfl rfl<|qP 228 rfl rfl<|qP 228 rfl rfl<|qP 228 rfl rfl<|qP 228 rfl rfl<|qv (v:=(.bool true)) rfl (fun _ hC=>Zw rfl rfl) ?_;refine X2 ?_;intro ia hC;replace hC:=hC.bl ag;replace ad:=ad.gr hC;replace ae:=ae.gr hC;replace aa:=aa.grow hC;exact ⟨rfl,_,_,hm,aa,ad,ae,rfl⟩
        obtain ⟨f3,dn,hm⟩:=bZ hm;refine qI dn ((a5.take (aA (i64.wrap (((af.1.2.2.take af.1.2.1).length:Int)+2)))).addr dn) ?_;refine go ?_;refine qW (fun _ hC=>((a5.take (aA (i64.wrap (((af.1.2.2.take af.1.2.1).length:Int)+2)))).gr (hC.bl ag)).atInt dn) ?_;refine go ?_;refine qv (v:=(.bool (!decide (f3=902)))) rfl (fun _ hC=>Xk (congrArg Value.bool dm) rfl) ?_;refine go ?_;refine Xn hm (fun dp hm=>go ?_) fun dp hm=>go ?_
        ·refine qv (v:=(.bool true)) rfl (fun _ hC=>Zw (congrArg Value.bool dp) rfl) ?_;refine go ?_;refine qP 219 rfl rfl<|qP 219 rfl rfl<|qP 219 rfl rfl<|qP 219 rfl rfl<|qP 219 rfl rfl<|qP 219 rfl rfl<|qP 219 rfl rfl<|qv (v:=(.bool true)) rfl (fun _ hC=>Zw rfl rfl) ?_;refine go ?_;refine qP 228 rfl rfl<|qP 228 rfl rfl<|qP 228 rfl rfl<|qP 228 rfl rfl<|qP 228 rfl rfl<|qP 228 rfl rfl<|qP 228 rfl rfl<|qv (v:=(.bool true)) rfl (fun _ hC=>Zw rfl rfl) ?_;refine X2 ?_;intro ib hC;replace hC:=hC.bl ag;replace ad:=ad.gr hC;replace ae:=ae.gr hC;replace aa:=aa.grow hC;exact ⟨rfl,_,_,hm,aa,ad,ae,rfl⟩
        obtain ⟨f4,dq,hm⟩:=bZ hm;refine qI dq ((a5.take (aA (i64.wrap (((af.1.2.2.take af.1.2.1).length:Int)+2)))).addr dq) ?_;refine go ?_;refine qW (fun _ hC=>((a5.take (aA (i64.wrap (((af.1.2.2.take af.1.2.1).length:Int)+2)))).gr (hC.bl ag)).atInt dq) ?_;refine go ?_;refine qv (v:=(.bool (!decide (f4=901)))) rfl (fun _ hC=>Xk (congrArg Value.bool dp) rfl) ?_;refine go ?_;refine Xn hm (fun dr hm=>go ?_) fun dr hm=>go ?_
        ·refine qv (v:=(.bool true)) rfl (fun _ hC=>Zw (congrArg Value.bool dr) rfl) ?_;refine go ?_;refine qP 228 rfl rfl<|qP 228 rfl rfl<|qP 228 rfl rfl<|qP 228 rfl rfl<|qP 228 rfl rfl<|qP 228 rfl rfl<|qP 228 rfl rfl<|qv (v:=(.bool true)) rfl (fun _ hC=>Zw rfl rfl) ?_;refine X2 ?_;intro ic hC;replace hC:=hC.bl ag;replace ad:=ad.gr hC;replace ae:=ae.gr hC;replace aa:=aa.grow hC;exact ⟨rfl,_,_,hm,aa,ad,ae,rfl⟩
        obtain ⟨f5,ds,hm⟩:=bZ hm;refine qI ds ((a6.take (aA (i64.wrap (((af.2.2.take af.2.1).length:Int)+2)))).addr ds) ?_;refine go ?_;refine qW (fun _ hC=>((a6.take (aA (i64.wrap (((af.2.2.take af.2.1).length:Int)+2)))).gr (hC.bl ag)).atInt ds) ?_;refine go ?_;refine qv (v:=(.bool (!decide (f5=904)))) rfl (fun _ hC=>Xk (congrArg Value.bool dr) rfl) ?_;refine go ?_;refine Xn hm (fun dt hm=>go ?_) fun dt hm=>go ?_
        ·refine qv (v:=(.bool true)) rfl (fun _ hC=>Zw (congrArg Value.bool dt) rfl) ?_;refine X2 ?_;intro id hC;replace hC:=hC.bl ag;replace ad:=ad.gr hC;replace ae:=ae.gr hC;replace aa:=aa.grow hC;exact ⟨rfl,_,_,hm,aa,ad,ae,rfl⟩
        obtain ⟨f6,du,hm⟩:=bZ hm;refine qI du ((a6.take (aA (i64.wrap (((af.2.2.take af.2.1).length:Int)+2)))).addr du) ?_;refine go ?_;refine qW (fun _ hC=>((a6.take (aA (i64.wrap (((af.2.2.take af.2.1).length:Int)+2)))).gr (hC.bl ag)).atInt du) ?_;refine go ?_;refine qv (v:=(.bool (!decide (f6=903)))) rfl (fun _ hC=>Xk (congrArg Value.bool dt) rfl) ?_;refine X2 ?_;intro ie hC;replace hC:=hC.bl ag;replace ad:=ad.gr hC;replace ae:=ae.gr hC;replace aa:=aa.grow hC;exact ⟨rfl,_,_,hm,aa,ad,ae,rfl⟩
       refine Z1 ad<|Xr rfl ?_;obtain ⟨dv,dw,hm⟩:=bZ hm;refine lI dw ((bb.ks aa).addr dw) ?_;obtain ⟨_,f7,f8⟩:=(bb.ks aa).atN dw;obtain ⟨⟨ci,cj,rfl,ai⟩,_⟩:=f7;replace ai:Sl (Za.pair (Za.pair Za.bool (Za.view rU)) (Za.view rU)) a3 a4 ci cj dv.2:=ai;refine lW f8.one<|go ?_;obtain ⟨dx,hm⟩:=Zv hm;refine lv (v:=.slice ci (aA (i64.wrap ((ah.length:Int)+2))) cj) rfl rfl (Vt underlying29 sizeOf42 rfl rfl dx.1 (by have:=ai.1.2;have:=dx.2;omega))<|.ld (d:=244) (v:=(.slice ci ((dv.2.take (aA (i64.wrap ((ah.length:Int)+2)))).length) cj)) (congrArg (fun n=>Value.slice ci n cj) (bE (show (aA (i64.wrap ((ah.length:Int)+2)))≤dv.2.length by have:=dx.2;omega)).symm) ?_;refine Zbe rfl<|Zl<|Z0 ?_;refine Wp.cutK [10,2,3,1000000] (fun f ck=>∃ cl dy,Zgh bo (Zaa N ab ac a9) dy=some r∧St w0 (Zf col) cl ck∧Zj 27 1 cl ck a7 #[.string ab.1,.slice av ((ab.2.1.2.take ab.2.1.1).length) al,.slice aw ab.2.2.1.length am,.slice ax ab.2.2.2.1.length an,.slice ay ab.2.2.2.2.length ao]∧Zj 27 2 cl ck a8 #[.string ac.1,.slice az ac.2.1.length ap,.slice a0 ac.2.2.1.length aq,.slice a1 ac.2.2.2.1.length ar,.slice a2 ac.2.2.2.2.length au]∧[282].map f=[.bool dy]) ?_ ?_
       ·intro f ck hJ;obtain ⟨cl,dy,hm,aa,ad,ae,hs⟩:=hJ;rw [Zgh.eq_1] at hm;refine .lL [282] hs ?_;refine Zm hm (fun hb hm=>go ?_) fun hb hm=>go ?_
        ·cases hm;exact ⟨rfl,rfl,aa.below⟩
        exact ⟨a9,by omega,rfl,⟨_,_,_,rfl,hm,aa,ad,ae,rfl⟩⟩
       refine go ?_;obtain ⟨dz,be,hm⟩:=bZ hm;refine lI be ((ai.take (aA (i64.wrap ((ah.length:Int)+2)))).addr be)<|Z7 (X8 ((ai.take (aA (i64.wrap ((ah.length:Int)+2)))).addr be)) ?_;obtain ⟨_,f9,ga⟩:=(ai.take (aA (i64.wrap ((ah.length:Int)+2)))).atN be;obtain ⟨_,_,rfl,gb,gc⟩:=Yb f9;obtain ⟨_,_,rfl,gd,ge⟩:=Yb gb;obtain ⟨rfl,_⟩:=gd;obtain ⟨⟨ig,ih,rfl,ii⟩,_⟩:=ge;obtain ⟨⟨ij,ik,rfl,il⟩,_⟩:=gc;refine lW ((ga).nth (q:=2) rfl)<|go ?_;refine Xn hm (fun d0 hm=>go ?_) fun d0 hm=>go ?_
       ·refine lV (.bool true) (Zw (congrArg Value.bool d0) rfl)<|Xq rfl<|lP 262 rfl rfl<|lP 262 rfl rfl<|lP 262 rfl rfl<|lP 262 rfl rfl<|lP 262 rfl rfl<|lP 262 rfl rfl<|lP 262 rfl rfl<|lP 262 rfl rfl<|lV (.bool true) (Zw rfl rfl)<|Xq rfl<|lP 272 rfl rfl<|lP 272 rfl rfl<|lP 272 rfl rfl<|lP 272 rfl rfl<|lP 272 rfl rfl<|lP 272 rfl rfl<|lP 272 rfl rfl<|lP 272 rfl rfl<|lP 272 rfl rfl<|lV (.bool true) (Zw rfl rfl)<|Zl ?_;exact ⟨rfl,_,_,hm,aa,ad,ae,rfl⟩
       refine lI be ((ai.take (aA (i64.wrap ((ah.length:Int)+2)))).addr be) ?_;refine go ?_;refine Z7 (X8 ((ai.take (aA (i64.wrap ((ah.length:Int)+2)))).addr be)) ?_;refine go ?_;obtain ⟨_,gf,gg⟩:=(ai.take (aA (i64.wrap ((ah.length:Int)+2)))).atN be;obtain ⟨_,_,rfl,gh,gi⟩:=Yb gf;obtain ⟨_,_,rfl,gj,gk⟩:=Yb gh;obtain ⟨rfl,_⟩:=gj;obtain ⟨⟨im,io,rfl,ip⟩,_⟩:=gk;obtain ⟨⟨gl,gm,rfl,cn⟩,_⟩:=gi;replace cn:Sl rU a3 a4 gl gm dz.2.2:=cn;refine lW ((gg).nth (q:=2) rfl)<|go ?_;obtain ⟨gp,d1,hm⟩:=bZ hm;refine lI d1 ((cn.take dz.2.1).addr d1) ?_;refine go ?_;refine lW ((cn.take dz.2.1).atInt d1)<|go ?_;refine lV (.bool (!decide (gp=97))) (Xk (congrArg Value.bool d0) rfl)<|Xq rfl ?_;refine Xn hm (fun d2 hm=>go ?_) fun d2 hm=>go ?_
       ·refine lV (.bool true) (Zw (congrArg Value.bool d2) rfl)<|Xq rfl<|lP 272 rfl rfl<|lP 272 rfl rfl<|lP 272 rfl rfl<|lP 272 rfl rfl<|lP 272 rfl rfl<|lP 272 rfl rfl<|lP 272 rfl rfl<|lP 272 rfl rfl<|lP 272 rfl rfl<|lV (.bool true) (Zw rfl rfl)<|Zl ?_;exact ⟨rfl,_,_,hm,aa,ad,ae,rfl⟩
       obtain ⟨bz,bf,hm⟩:=bZ hm;refine lI bf ((ai.take (aA (i64.wrap ((ah.length:Int)+2)))).addr bf) ?_;refine go ?_;refine Z7 (X8 ((ai.take (aA (i64.wrap ((ah.length:Int)+2)))).addr bf)) ?_;refine go ?_;obtain ⟨_,gs,gt⟩:=(ai.take (aA (i64.wrap ((ah.length:Int)+2)))).atN bf;obtain ⟨_,_,rfl,gu,gv⟩:=Yb gs;obtain ⟨_,_,rfl,gw,gx⟩:=Yb gu;obtain ⟨rfl,_⟩:=gw;obtain ⟨⟨iq,ir,rfl,it⟩,_⟩:=gx;obtain ⟨⟨iu,iv,rfl,iw⟩,_⟩:=gv;refine lW ((gt).nth (q:=2) rfl)<|go ?_;refine lV (.bool (!decide (((bz.2.2.take bz.2.1).length:Int)=1))) (Xk (congrArg Value.bool d2) rfl)<|Xq rfl ?_;refine Xn hm (fun d3 hm=>go ?_) fun d3 hm=>go ?_
       ·refine lV (.bool true) (Zw (congrArg Value.bool d3) rfl)<|Zl ?_;exact ⟨rfl,_,_,hm,aa,ad,ae,rfl⟩
       refine lI bf ((ai.take (aA (i64.wrap ((ah.length:Int)+2)))).addr bf) ?_;refine go ?_;refine Z7 (X8 ((ai.take (aA (i64.wrap ((ah.length:Int)+2)))).addr bf)) ?_;refine go ?_;obtain ⟨_,gy,gz⟩:=(ai.take (aA (i64.wrap ((ah.length:Int)+2)))).atN bf;obtain ⟨_,_,rfl,g0,g1⟩:=Yb gy;obtain ⟨_,_,rfl,g2,g3⟩:=Yb g0;obtain ⟨rfl,_⟩:=g2;obtain ⟨⟨ix,iy,rfl,iz⟩,_⟩:=g3;obtain ⟨⟨g4,g5,rfl,co⟩,_⟩:=g1;replace co:Sl rU a3 a4 g4 g5 bz.2.2:=co;refine lW ((gz).nth (q:=2) rfl)<|go ?_;obtain ⟨g6,d4,hm⟩:=bZ hm;refine lI d4 ((co.take bz.2.1).addr d4) ?_;refine go ?_;refine lW ((co.take bz.2.1).atInt d4)<|go ?_;refine lV (.bool (!decide (g6=98))) (Xk (congrArg Value.bool d3) rfl)<|Zl ?_;exact ⟨rfl,_,_,hm,aa,ad,ae,rfl⟩
     cases hm;exact ⟨rfl,rfl,aa.below⟩
 refine Wy<|Z1 ad<|Z1 ae ?_;refine go ?_;refine Xn hm (fun d5 hm=>go ?_) fun d5 hm=>go ?_
 ·refine lV (.bool true) (Zw (congrArg Value.bool d5) rfl)<|Xq rfl<|lP 31 rfl rfl<|lP 31 rfl rfl<|lP 31 rfl rfl<|lP 31 rfl rfl<|lP 31 rfl rfl<|lP 31 rfl rfl<|lP 31 rfl rfl<|lV (.bool true) (Zw rfl rfl)<|Xq rfl<|lP 40 rfl rfl<|lP 40 rfl rfl<|lP 40 rfl rfl<|lP 40 rfl rfl<|lP 40 rfl rfl<|lP 40 rfl rfl<|lP 40 rfl rfl<|lV (.bool true) (Zw rfl rfl)<|Xq rfl<|lP 49 rfl rfl<|lP 49 rfl rfl<|lP 49 rfl rfl<|lP 49 rfl rfl<|lP 49 rfl rfl<|lP 49 rfl rfl<|lV (.bool true) (Zw rfl rfl)<|Zl ?_;exact ⟨rfl,_,_,hm,aa,ad,ae,rfl⟩
 refine Z7 ⟨_,_,rfl⟩ ?_;refine go ?_;refine lW ((ad.atN).nth (q:=2) rfl)<|go ?_;refine Z7 ⟨_,_,rfl⟩ ?_;refine go ?_;refine lW ((ae.atN).nth (q:=2) rfl)<|go ?_;refine lV (.bool (!decide ((ab.2.2.1.length:Int)=(ac.2.2.1.length:Int)))) (Xk (congrArg Value.bool d5) rfl)<|Xq rfl ?_;refine Xn hm (fun d6 hm=>go ?_) fun d6 hm=>go ?_
 ·refine lV (.bool true) (Zw (congrArg Value.bool d6) rfl)<|Xq rfl<|lP 40 rfl rfl<|lP 40 rfl rfl<|lP 40 rfl rfl<|lP 40 rfl rfl<|lP 40 rfl rfl<|lP 40 rfl rfl<|lP 40 rfl rfl<|lV (.bool true) (Zw rfl rfl)<|Xq rfl<|lP 49 rfl rfl<|lP 49 rfl rfl<|lP 49 rfl rfl<|lP 49 rfl rfl<|lP 49 rfl rfl<|lP 49 rfl rfl<|lV (.bool true) (Zw rfl rfl)<|Zl ?_;exact ⟨rfl,_,_,hm,aa,ad,ae,rfl⟩
 refine Z7 ⟨_,_,rfl⟩ ?_;refine go ?_;refine lW ((ad.atN).nth (q:=3) rfl)<|go ?_;refine Z7 ⟨_,_,rfl⟩ ?_;refine go ?_;refine lW ((ae.atN).nth (q:=3) rfl)<|go ?_;refine lV (.bool (!decide ((ab.2.2.2.1.length:Int)=(ac.2.2.2.1.length:Int)))) (Xk (congrArg Value.bool d6) rfl)<|Xq rfl ?_;refine Xn hm (fun d7 hm=>go ?_) fun d7 hm=>go ?_
 ·refine lV (.bool true) (Zw (congrArg Value.bool d7) rfl)<|Xq rfl<|lP 49 rfl rfl<|lP 49 rfl rfl<|lP 49 rfl rfl<|lP 49 rfl rfl<|lP 49 rfl rfl<|lP 49 rfl rfl<|lV (.bool true) (Zw rfl rfl)<|Zl ?_;exact ⟨rfl,_,_,hm,aa,ad,ae,rfl⟩
 refine Z7 ⟨_,_,rfl⟩ ?_;refine go ?_;refine lW ((ad.atN).nth (q:=4) rfl)<|go ?_;refine Z7 ⟨_,_,rfl⟩ ?_;refine go ?_;refine lW ((ae.atN).nth (q:=4) rfl)<|go ?_;refine lV (.bool (!decide ((ab.2.2.2.2.length:Int)=(ac.2.2.2.2.length:Int)))) (Xk (congrArg Value.bool d7) rfl)<|Xq rfl ?_;refine Xn hm (fun d8 hm=>go ?_) fun d8 hm=>go ?_
 ·refine lV (.bool true) (Zw (congrArg Value.bool d8) rfl)<|Zl ?_;exact ⟨rfl,_,_,hm,aa,ad,ae,rfl⟩
 refine Z7 ⟨_,_,rfl⟩ ?_;refine go ?_;refine lW ((ad.atN).nth (q:=1) rfl)<|go ?_;refine Z7 ⟨_,_,rfl⟩ ?_;refine go ?_;refine lW ((ae.atN).nth (q:=1) rfl)<|go ?_;obtain ⟨g7,g8,hm⟩:=bZ hm;refine Zk (Ztp g8 (cp.k0.ks aa) (cq.k0.ks aa)) fun _ g9 ⟨e',b0⟩=>⟨_,e',?_⟩;replace b0:Zn d9 ef d9 g9:=.of_below b0;refine go ?_;refine lV (.bool (!g7)) (Xk (congrArg Value.bool d8) rfl)<|Zl ?_;exact ⟨rfl,_,_,hm,aa.grow b0,ad.gr b0,ae.gr b0,rfl⟩
abbrev Zj4:=ByteArray×List ByteArray×List R8×List R2×List (List QV)
abbrev VQ:=(Bool×R7)×R7
def Y6 {α:Type} (ms l:List α):Nat×List α:=(l.length,l++ms)
def Vr (x:QV):VQ:=((x.1.1,Y6 [901,902] x.1.2),Y6 [903,904] x.2)
def Za9 (k:Int):VQ:=((false,(0,[])),([k].length,[k]))
def Vj (t:List QV):Nat×List VQ:=(t.length,t.map Vr++[Za9 97,Za9 98])
def Wb (n:Zj4):ByteArray×R9×List R9×List R7×List (Nat×List VQ):=
 (n.1,Y6 [⟨#[35,49]⟩,⟨#[35,50]⟩] n.2.1,n.2.2.1.map (Y6 [⟨#[35,51]⟩,⟨#[35,52]⟩]),n.2.2.2.1.map (Y6 [-95,-96]),n.2.2.2.2.map Vj)
structure Zmr (n:Zj4):Prop where
 nm:n.2.1.length≤1048576
 vn:n.2.2.1.length≤1048576
 vl:∀ l ∈ n.2.2.1,l.length≤1048576
 pn:n.2.2.2.1.length≤1048576
 pl:∀ l ∈ n.2.2.2.1,l.length≤1048576
 tn:n.2.2.2.2.length≤1048576
 tl:∀ t ∈ n.2.2.2.2,t.length≤1048576
 tm:∀ t ∈ n.2.2.2.2,∀ x ∈ t,x.1.2.length≤1048576∧x.2.length≤1048576
theorem Zjx {α:Type} (ms l:List α):Z8 (Y6 ms l)=l:=by rw [Z8,Y6];exact eP
theorem Z7n {α:Type} (ms:List α) (L:List (List α)):(L.map (Y6 ms)).map Z8=L:=by
 rw [gB]
 conv=>rhs;rw [← iI L]
 exact dW fun l _=>Zjx ms l
theorem Z99 (x:QV):Prod.map (Prod.map id Z8) Z8 (Vr x)=x:=by
 rw [Vr];simp only [Prod.map,id,Zjx]
theorem Xaa (t:List QV):Vb (Prod.map (Prod.map id Z8) Z8) (Vj t)=t:=by
 rw [Vb,Vj]
 show List.map _ (List.take t.length (t.map Vr++_))=t
 rw [show t.length=(t.map Vr).length by rw [aE],eP,gB]
 conv=>rhs;rw [← iI t]
 exact dW fun x _=>Z99 x
theorem Z7o (T:List (List QV)):(T.map Vj).map (Vb (Prod.map (Prod.map id Z8) Z8))=T:=by
 rw [gB]
 conv=>rhs;rw [← iI T]
 exact dW fun t _=>Xaa t
theorem Zsk (n:Zj4):((Wb n).1,(Wb n).2.1.2.take (Wb n).2.1.1,(Wb n).2.2.1.map Z8,(Wb n).2.2.2.1.map Z8,(Wb n).2.2.2.2.map (Vb (Prod.map (Prod.map id Z8) Z8)))=n:=by
 rw [Wb]
 simp only [Z7n,Z7o]
 have:=Zjx [⟨#[35,49]⟩,⟨#[35,50]⟩] n.2.1
 rw [Z8] at this
 rw [this]
theorem Z5h {x:QV} (h1:x.1.2.length≤1048576) (h2:x.2.length≤1048576):Zjc x=some (Vr x):=by
 rw [Zjc,Zx (by simp only [nN,maxLen];omega),Zx (by simp only [nA,nN,nC,maxLen];omega),Zx (by simp only [nN,maxLen];omega),Zx (by simp only [nA,nN,nC,maxLen];omega),Zx (by simp only [nA,nN,nC];omega),Zx (by simp only [nA,nN,nC];omega),Vr,Y6,Y6,bL,bL,aB,aB]
section
variable {N:Nat} {n:Zj4} (hs:Zmr n) (hN:1048577<N)
include hs hN
omit hN in
theorem Zwh {m4:ByteArray} {m5:List ByteArray} {m9:List R9} {m13:List R7} {m17:List (Nat×List VQ)} {i:Nat} (hi:i<n.2.2.2.2.length) (hm:m17.length≤1048576) (hib:i≤1048576) (kk:ByteArray→List ByteArray→List R9→List R7→List (Nat×List VQ)→Int→Option (ByteArray×R9×List R9×List R7×List (Nat×List VQ))):∀ (f k:Nat) (l:List VQ),k≤n.2.2.2.2[i].length→n.2.2.2.2[i].length<f+k→l=(n.2.2.2.2[i].take k).map Vr→
  Zgm N n m4 m5 m9 m13 m17 (i:Int) kk f (k:Int) l=kk m4 m5 m9 m13 (m17++[Vj n.2.2.2.2[i]]) ((i:Int)+1)
 | 0,k,l,c,d,_=>by omega
 | f+1,k,l,c,d,a=>by
  have m:=hs.tl _ (aD hi)
  have o:l.length=k:=by rw [a,aE,nK];omega
  rw [Zgm.eq_2,Zu hi,oB]
  by_cases hk:k<n.2.2.2.2[i].length
  ·obtain ⟨e,g⟩:=hs.tm _ (aD hi) _ (aD hk)
   have j:Zjc (((n.2.2.2.2[i][k]).1.1,(n.2.2.2.2[i][k]).1.2),(n.2.2.2.2[i][k]).2)=some (Vr n.2.2.2.2[i][k]):=Z5h (x:=n.2.2.2.2[i][k]) e g
   rw [if_pos (dT (by omega)),Zu hk,oB,j,oB,Zx (by simp only [aH,maxLen];omega),Zr (by omega)]
   exact Zwh hi hm hib kk f (k+1) _ (by omega) (by omega) (by rw [a,dQ,aI hk,cV,bV];rfl)
  ·have b:k=n.2.2.2.2[i].length:=by omega
   rw [if_neg (dF (by omega)),Zx (by simp only [nC,nN,maxLen];omega),Zx (by simp only [nA,nC,nN];omega),Zx (by simp only [aH,maxLen];omega),Zr (by omega),aB,a,b,dK]
   rfl
theorem Zwg {m4:ByteArray} {m5:List ByteArray} {m9:List R9} {m13:List R7}:∀ (f i:Nat) (m17:List (Nat×List VQ)),i≤n.2.2.2.2.length→n.2.2.2.2.length<f+i→m17=(n.2.2.2.2.take i).map Vj→
  Zdt N n f m4 m5 m9 m13 m17 (i:Int)=some (m4,(n.2.1.length,m5),m9,m13,n.2.2.2.2.map Vj)
 | 0,i,m17,b,c,_=>by omega
 | f+1,i,m17,b,c,a=>by
  have d:=hs.tn
  have e:m17.length=i:=by rw [a,aE,nK];omega
  rw [Zdt.eq_2]
  by_cases hi:i<n.2.2.2.2.length
  ·have g:=hs.tl _ (aD hi)
   rw [if_pos (dT (by omega)),show (0:Int)=((0:Nat):Int) from rfl,Zwh hs hi (by omega) (by omega) _ N 0 [] (by omega) (by omega) (by simp)]
   exact Zwg f (i+1) _ (by omega) (by omega) (by rw [a,dQ,aI hi,cV,bV];rfl)
  ·rw [if_neg (dF (by omega)),a,bD (by omega),aB]
theorem Zwf {m4:ByteArray} {m5:List ByteArray} {m9:List R9}:∀ (f i:Nat) (m13:List R7),i≤n.2.2.2.1.length→n.2.2.2.1.length<f+i→m13=(n.2.2.2.1.take i).map (Y6 [-95,-96])→
  Zgl N n f m4 m5 m9 m13 [] (i:Int)=some (m4,(n.2.1.length,m5),m9,n.2.2.2.1.map (Y6 [-95,-96]),n.2.2.2.2.map Vj)
 | 0,i,m13,b,c,_=>by omega
 | f+1,i,m13,b,c,a=>by
  have d:=hs.pn;have e:=hs.tn
  have g:m13.length=i:=by rw [a,aE,nK];omega
  rw [Zgl.eq_2]
  by_cases hi:i<n.2.2.2.1.length
  ·have j:=hs.pl _ (aD hi)
   rw [if_pos (dT (by omega)),Zu hi,oB,Zx (by simp only [nN,maxLen];omega),Zx (by simp only [nA,nN,nC,maxLen];omega),Zx (by simp only [nA,nN,nC];omega),Zx (by simp only [aH,maxLen];omega),Zr (by omega)]
   exact Zwf f (i+1) _ (by omega) (by omega) (by rw [a,dQ,aI hi,cV,bV];rfl)
  ·rw [if_neg (dF (by omega)),show (0:Int)=((0:Nat):Int) from rfl,Zwg hs hN N 0 [] (by omega) (by omega) (by simp),a,bD (by omega)]
theorem Zwe {m4:ByteArray} {m5:List ByteArray}:∀ (f i:Nat) (m9:List R9),i≤n.2.2.1.length→n.2.2.1.length<f+i→m9=(n.2.2.1.take i).map (Y6 [⟨#[35,51]⟩,⟨#[35,52]⟩])→
  Zgk N n f m4 m5 m9 [] [] (i:Int)=some (m4,(n.2.1.length,m5),n.2.2.1.map (Y6 [⟨#[35,51]⟩,⟨#[35,52]⟩]),n.2.2.2.1.map (Y6 [-95,-96]),n.2.2.2.2.map Vj)
 | 0,i,m9,b,c,_=>by omega
 | f+1,i,m9,b,c,a=>by
  have d:=hs.vn;have e:=hs.pn
  have g:m9.length=i:=by rw [a,aE,nK];omega
  rw [Zgk.eq_2]
  by_cases hi:i<n.2.2.1.length
  ·have j:=hs.vl _ (aD hi)
   rw [if_pos (dT (by omega)),Zu hi,oB,Zx (by simp only [nN,maxLen];omega),Zx (by simp only [nA,nN,nC,maxLen];omega),Zx (by simp only [nA,nN,nC];omega),Zx (by simp only [aH,maxLen];omega),Zr (by omega)]
   exact Zwe f (i+1) _ (by omega) (by omega) (by rw [a,dQ,aI hi,cV,bV];rfl)
  ·rw [if_neg (dF (by omega)),show (0:Int)=((0:Nat):Int) from rfl,Zwf hs hN N 0 [] (by omega) (by omega) (by simp),a,bD (by omega)]
theorem Z7g:Zje N n=some (Wb n):=by
 have a:=hs.nm;have b:=hs.vn
 rw [Zje,Zx (by simp only [nN,maxLen];omega),Zx (by simp only [nA,nN,nC,maxLen];omega),Zx (by simp only [nA,nN,nC];omega),show (0:Int)=((0:Nat):Int) from rfl,Zwe hs hN N 0 [] (by omega) (by omega) (by simp)]
 rfl
end
theorem Zph {α:Type} (ms l:List α):(Y6 ms l).2.take (Y6 ms l).1=l:=Zjx ms l
theorem Zq4 {α:Type} (ms l:List α):(Y6 ms l).2.length=l.length+ms.length:=by rw [Y6];exact List.length_append
theorem Zck {α:Type} {ms l:List α} {j k:Nat} (hj:j<ms.length) (hk:l.length+j<k):Zi ((l++ms).take k) ((l.length+j:Nat):Int)=some ms[j]:=by
 rw [V6,iU,if_pos hk,cU (by omega),show l.length+j - l.length=j by omega,aI hj]
theorem Z1v {N:Nat} {l:List ByteArray} {one two:ByteArray} (hl:l.length≤1048576):∀ (f i:Nat),i≤l.length→l.length<f+i→Zgx N l.length (l++[one,two]) l one two f (i:Int)=some true
 | 0,i,b,c=>by omega
 | f+1,i,b,c=>by
  have e:(l++[one,two]).take l.length=l:=eP
  rw [Zgx.eq_2,e]
  by_cases hi:i<l.length
  ·rw [if_pos (dT (by omega)),Zu hi,oB,oB,if_neg (by rw [decide_eq_true rfl];decide),Zr (by omega)]
   exact Z1v hl f (i+1) (by omega) (by omega)
  ·have a:=Zck (ms:=[one,two]) (l:=l) (j:=0) (k:=l.length+2) (by simp) (by omega)
   have d:=Zck (ms:=[one,two]) (l:=l) (j:=1) (k:=l.length+2) (by simp) (by omega)
   rw [if_neg (dF (by omega)),Zr (x:=(l.length:Int)+2) (by omega),Zx (by simp only [nA,nC,nN];omega),show aA ((l.length:Int)+2)=l.length+2 by omega]
   simp only [bO] at a
   rw [a,oB,show [one,two][0]=one from rfl,if_pos (dT rfl),Zr (by omega),show (l.length:Int)+1=((l.length+1:Nat):Int) by omega,d,oB,Zln]
   simp
theorem Z1w {N:Nat} {l:List ByteArray} {one two:ByteArray} (hl:l.length≤1048576) (hN:1048577<N):Zgw N (Y6 [one,two] l).1 (Y6 [one,two] l).2 l one two=some true:=by
 have e:(l++[one,two]).take l.length=l:=eP
 rw [Zgw,Y6,e,if_neg (by rw [decide_eq_true rfl];decide)]
 exact Z1v hl N 0 (by omega) (by omega)
theorem Z1f {N:Nat} {x:QV} (h1:x.1.2.length≤1048576):∀ (f i:Nat),i≤x.1.2.length→x.1.2.length<f+i→Zgq N x x f (i:Int)=some true
 | 0,i,a,b=>by omega
 | f+1,i,a,b=>by
  rw [Zgq.eq_2]
  by_cases hi:i<x.1.2.length
  ·rw [if_pos (dT (by omega)),Zu hi,oB,oB,if_neg (by rw [decide_eq_true rfl];decide),Zr (by omega)]
   exact Z1f h1 f (i+1) (by omega) (by omega)
  ·rw [if_neg (dF (by omega))]
theorem Z1e {N:Nat} {x:QV} (h1:x.1.2.length≤1048576) (h2:x.2.length≤1048576) (hN:1048577<N):∀ (f i:Nat),i≤x.2.length→x.2.length<f+i→Zgp N x x f (i:Int)=some true
 | 0,i,a,b=>by omega
 | f+1,i,a,b=>by
  rw [Zgp.eq_2]
  by_cases hi:i<x.2.length
  ·rw [if_pos (dT (by omega)),Zu hi,oB,oB,if_neg (by rw [decide_eq_true rfl];decide),Zr (by omega)]
   exact Z1e h1 h2 hN f (i+1) (by omega) (by omega)
  ·rw [if_neg (dF (by omega))]
   exact Z1f h1 N 0 (by omega) (by omega)
theorem Z9t {N:Nat} {x:QV} (h1:x.1.2.length≤1048576) (h2:x.2.length≤1048576) (hN:1048577<N):Zji N x x=some true:=by
 rw [Zji,if_neg (by rw [decide_eq_true rfl];decide),if_neg (by rw [decide_eq_true rfl];decide),Zjk,if_neg (by rw [decide_eq_true rfl];decide)]
 exact Z1e h1 h2 hN N 0 (by omega) (by omega)
section
variable {N:Nat} {n:Zj4} (hs:Zmr n) (hN:1048577<N)
include hs hN
theorem Zv0 {i:Nat} (hi:i<n.2.2.2.2.length) (kk:Int→Option Bool):∀ (f j:Nat),j≤n.2.2.2.2[i].length→n.2.2.2.2[i].length<f+j→
  S9 N (Wb n) n (i:Int) kk n.2.2.2.2[i] f (j:Int)=kk ((i:Int)+1)
 | 0,j,v,w=>by omega
 | f+1,j,v,w=>by
  have J:=hs.tl _ (aD hi)
  have I:=hs.tn
  have y:Zi (Wb n).2.2.2.2 (i:Int)=some (Vj n.2.2.2.2[i]):=by
   rw [V6]
   show (n.2.2.2.2.map Vj)[i]?=_
   rw [bT,aI hi];rfl
  rw [S9.eq_2,y,oB,oB]
  generalize hT:n.2.2.2.2[i]=t at *
  by_cases hj:j<t.length
  ·have c:t ∈ n.2.2.2.2:=by rw [← hT];exact aD hi
   obtain ⟨d,e⟩:=hs.tm _ c _ (aD hj)
   have A:Zi ((Vj t).2.take (Vj t).1) (j:Int)=some (Vr t[j]):=by
    rw [V6,Vj,iU,if_pos hj,List.getElem?_append_left (by rw [aE];exact hj),bT,aI hj];rfl
   rw [if_pos (dT (by omega)),A,oB]
   obtain ⟨x,g⟩:∃ x,x=t[j]:=⟨_,rfl⟩
   rw [← g] at d e ⊢
   have B:(Vr x).1.2.2.take (Vr x).1.2.1=x.1.2:=Zjx _ _
   have C:(Vr x).2.2.take (Vr x).2.1=x.2:=Zjx _ _
   have m:(Vr x).1.2.2.length=x.1.2.length+2:=Zq4 _ _
   have o:(Vr x).2.2.length=x.2.length+2:=Zq4 _ _
   have p:Zi n.2.2.2.2 (i:Int)=some t:=by rw [Zu hi,hT]
   have D:Zji N (((Vr x).1.1,x.1.2),x.2) ((x.1.1,x.1.2),x.2)=some true:=Z9t (x:=x) d e hN
   have E:(Vr x).1.2.2.take (x.1.2.length+2)=x.1.2++[901,902]:=bD (by rw [m];omega)
   have F:(Vr x).2.2.take (x.2.length+2)=x.2++[903,904]:=bD (by rw [o];omega)
   have q:∀ (l:List Int) (a b:Int),Zi (l++[a,b]) ((l.length:Int)+2 - 1)=some b∧Zi (l++[a,b]) ((l.length:Int)+2 - 2)=some a:=fun l a b=>by
    constructor
    ·rw [show (l.length:Int)+2 - 1=((l.length+1:Nat):Int) by omega,V6,cU (by omega),show l.length+1 - l.length=1 by omega];rfl
    ·rw [show (l.length:Int)+2 - 2=((l.length:Nat):Int) by omega,V6,cU (by omega),show l.length - l.length=0 by omega];rfl
   have r:∀ (l:List Int) (a b:Int),((l++[a,b]).length:Int)=(l.length:Int)+2:=fun l a b=>by simp
   rw [B,C,m,o,Zr (x:=(x.1.2.length:Int)+2) (by omega),Zr (x:=(x.2.length:Int)+2) (by omega),Zx (by omega),Zx (by omega),p,oB,Zu hj,oB,← g,D,oB,if_neg (by decide),
    show aA ((x.1.2.length:Int)+2)=x.1.2.length+2 by omega,show aA ((x.2.length:Int)+2)=x.2.length+2 by omega,E,F,r,r,Zr (x:=(x.1.2.length:Int)+2 - 1) (by omega),Zr (x:=(x.1.2.length:Int)+2 - 2) (by omega),Zr (x:=(x.2.length:Int)+2 - 1) (by omega),Zr (x:=(x.2.length:Int)+2 - 2) (by omega),
    (q x.1.2 901 902).1,oB,if_neg (by decide),(q x.1.2 901 902).2,oB,if_neg (by decide),(q x.2 903 904).1,oB,if_neg (by decide),(q x.2 903 904).2,oB,Zds,if_neg (by decide),Zr (by omega)]
   have s:=Zv0 hi kk f (j+1) (by rw [hT];omega) (by rw [hT];omega)
   rw [hT] at s
   exact s
  ·have G:Zi ((Vj t).2.take (t.length+2)) (t.length:Int)=some (Za9 97):=by
    have:=Zck (ms:=[Za9 97,Za9 98]) (l:=t.map Vr) (j:=0) (k:=t.length+2) (by simp) (by rw [aE];omega)
    rw [aE,bO] at this
    exact this
   have H:Zi ((Vj t).2.take (t.length+2)) ((t.length:Int)+1)=some (Za9 98):=by
    have:=Zck (ms:=[Za9 97,Za9 98]) (l:=t.map Vr) (j:=1) (k:=t.length+2) (by simp) (by rw [aE];omega)
    rw [aE] at this
    exact this
   have bl:(Vj t).2.length=t.length+2:=by rw [Vj];simp
   have u:∀ k:Int,(Za9 k).2.2.take (Za9 k).2.1=[k]:=fun k=>rfl
   rw [if_neg (dF (by omega)),Zr (x:=(t.length:Int)+2) (by omega),Zx (by omega),show aA ((t.length:Int)+2)=t.length+2 by omega,G,oB,u,if_neg (by decide),show Zi [(97:Int)] 0=some 97 from rfl,oB,if_neg (by decide),Zr (x:=(t.length:Int)+1) (by omega),H,oB,u,if_neg (by decide),show Zi [(98:Int)] 0=some 98 from rfl,oB,Zgh,if_neg (by decide),Zr (by omega)]
theorem Zvz:∀ (f i:Nat),i≤n.2.2.2.2.length→n.2.2.2.2.length<f+i→Zaa N (Wb n) n f (i:Int)=some true
 | 0,i,b,c=>by omega
 | f+1,i,b,c=>by
  have g:=hs.tn
  rw [Zaa.eq_2]
  by_cases hi:i<n.2.2.2.2.length
  ·have j:=hs.tl _ (aD hi)
   have d:Zi (Wb n).2.2.2.2 (i:Int)=some (Vj n.2.2.2.2[i]):=by
    rw [V6]
    show (n.2.2.2.2.map Vj)[i]?=_
    rw [bT,aI hi];rfl
   have e:((Vj n.2.2.2.2[i]).2.take (Vj n.2.2.2.2[i]).1).length=n.2.2.2.2[i].length:=by rw [Vj,nK];simp
   have a:=Zv0 hs hN hi (Zaa N (Wb n) n f) N 0 (by omega) (by omega)
   rw [show ((0:Nat):Int)=0 from rfl] at a
   rw [if_pos (dT (by omega)),Zu hi,oB,d,oB,e,if_neg (by rw [decide_eq_true rfl];decide),a]
   exact Zvz f (i+1) (by omega) (by omega)
  ·rw [if_neg (dF (by omega))]
omit hN in
theorem Zvy {i:Nat} (hi:i<n.2.2.2.1.length) (kk:Int→Option Bool):∀ (f j:Nat),j≤n.2.2.2.1[i].length→n.2.2.2.1[i].length<f+j→Zgj N (Wb n) n (i:Int) kk n.2.2.2.1[i] f (j:Int)=kk ((i:Int)+1)
 | 0,j,b,c=>by omega
 | f+1,j,b,c=>by
  have o:=hs.pl _ (aD hi)
  have m:=hs.pn
  have d:Zi (Wb n).2.2.2.1 (i:Int)=some (Y6 [-95,-96] n.2.2.2.1[i]):=by
   rw [V6]
   show (n.2.2.2.1.map (Y6 [-95,-96]))[i]?=_
   rw [bT,aI hi];rfl
  rw [Zgj.eq_2,d,oB,oB,Zph]
  by_cases hj:j<n.2.2.2.1[i].length
  ·rw [if_pos (dT (by omega)),Zu hj,oB,Zu hi,oB,Zu hj,oB,if_neg (by rw [decide_eq_true rfl];decide),Zr (by omega)]
   exact Zvy hi kk f (j+1) (by omega) (by omega)
  ·have a:=Zck (ms:=[-95,-96]) (l:=n.2.2.2.1[i]) (j:=0) (k:=n.2.2.2.1[i].length+2) (by simp) (by omega)
   have e:=Zck (ms:=[-95,-96]) (l:=n.2.2.2.1[i]) (j:=1) (k:=n.2.2.2.1[i].length+2) (by simp) (by omega)
   simp only [bO] at a
   have g:(Y6 [-95,-96] n.2.2.2.1[i]).2=n.2.2.2.1[i]++[-95,-96]:=rfl
   rw [if_neg (dF (by omega)),Zr (x:=(n.2.2.2.1[i].length:Int)+2) (by omega),Zx (by rw [Zq4];simp only [nC,nN];omega),show aA ((n.2.2.2.1[i].length:Int)+2)=n.2.2.2.1[i].length+2 by omega,g,a,oB,if_neg (by decide),Zr (by omega),show (n.2.2.2.1[i].length:Int)+1=((n.2.2.2.1[i].length+1:Nat):Int) by omega,e,oB,Zll,if_neg (by decide),Zr (by omega)]
theorem Zvx:∀ (f i:Nat),i≤n.2.2.2.1.length→n.2.2.2.1.length<f+i→Za3 N (Wb n) n f (i:Int)=some true
 | 0,i,b,c=>by omega
 | f+1,i,b,c=>by
  have g:=hs.pn;have d:=hs.tn
  rw [Za3.eq_2]
  by_cases hi:i<n.2.2.2.1.length
  ·have j:=hs.pl _ (aD hi)
   have e:Zi (Wb n).2.2.2.1 (i:Int)=some (Y6 [-95,-96] n.2.2.2.1[i]):=by
    rw [V6]
    show (n.2.2.2.1.map (Y6 [-95,-96]))[i]?=_
    rw [bT,aI hi];rfl
   have a:=Zvy (N:=N) hs hi (Za3 N (Wb n) n f) N 0 (by omega) (by omega)
   rw [show ((0:Nat):Int)=0 from rfl] at a
   rw [if_pos (dT (by omega)),Zu hi,oB,e,oB,Zph,if_neg (by rw [decide_eq_true rfl];decide),a]
   exact Zvx f (i+1) (by omega) (by omega)
  ·rw [if_neg (dF (by omega))]
   exact Zvz hs hN N 0 (by omega) (by omega)
theorem Zvw:∀ (f i:Nat),i≤n.2.2.1.length→n.2.2.1.length<f+i→Zgi N (Wb n) n f (i:Int)=some true
 | 0,i,a,b=>by omega
 | f+1,i,a,b=>by
  have g:=hs.vn;have c:=hs.pn
  rw [Zgi.eq_2]
  by_cases hi:i<n.2.2.1.length
  ·have d:=hs.vl _ (aD hi)
   have e:Zi (Wb n).2.2.1 (i:Int)=some (Y6 [⟨#[35,51]⟩,⟨#[35,52]⟩] n.2.2.1[i]):=by
    rw [V6]
    show (n.2.2.1.map (Y6 [⟨#[35,51]⟩,⟨#[35,52]⟩]))[i]?=_
    rw [bT,aI hi];rfl
   rw [if_pos (dT (by omega)),e,oB,Zu hi,oB,Z1w d hN,oB,if_neg (by decide),Zr (by omega)]
   exact Zvw f (i+1) (by omega) (by omega)
  ·rw [if_neg (dF (by omega))]
   exact Zvx hs hN N 0 (by omega) (by omega)
theorem Z66:Zgg N (Wb n) n=some true:=by
 have a:=hs.nm;have f:=hs.vn
 have b:(Wb n).2.2.1.length=n.2.2.1.length:=by show (n.2.2.1.map _).length=_;rw [aE]
 have c:(Wb n).2.2.2.1.length=n.2.2.2.1.length:=by show (n.2.2.2.1.map _).length=_;rw [aE]
 have d:(Wb n).2.2.2.2.length=n.2.2.2.2.length:=by show (n.2.2.2.2.map _).length=_;rw [aE]
 have e:Zgw N (Wb n).2.1.1 (Wb n).2.1.2 n.2.1 (⟨#[35,49]⟩) (⟨#[35,50]⟩)=some true:=Z1w a hN
 rw [Zgg,b,c,d,if_neg (by rw [show (Wb n).1=n.1 from rfl,decide_eq_true rfl];decide),if_neg (by rw [decide_eq_true rfl];decide),if_neg (by rw [decide_eq_true rfl];decide),if_neg (by rw [decide_eq_true rfl];decide),e,oB,Zdr,if_neg (by decide)]
 exact Zvw hs hN N 0 (by omega) (by omega)
end
theorem Zus:Y1 prog 45 1 4:=⟨Tryz.t45,_,rfl,rfl,rfl,rfl,rfl⟩
def Zgb (N:Nat) (ad ab:Int) (kk_L1:(R6→Int→Int→Option Rg)):Nat→R6→Int→Option Rg
  | 0,_,_=>none
  | af+1,ae,ac=>(Zi ae ab).bind fun aa=>if (decide (ac<(aa.2.length:Int)))=true then ((Zi aa.2 ac).bind fun ah=>(some (aa.2.set (aA ac) (u32.wrap (ad+1)))).bind fun ag=>(Zgb N ad ab kk_L1 af) (ae.set (aA ab) ((aa.1.1,aa.1.2),ag)) (i64.wrap (ac+1))) else (kk_L1 ae (u32.wrap (ad+2)) (i64.wrap (ab+1)))
def Zga (N:Nat) (ad ab:Int) (kk_L1:(R6→Int→Int→Option Rg)):Nat→R6→Int→Option Rg
  | 0,_,_=>none
  | af+1,ae,ac=>(Zi ae ab).bind fun aa=>if (decide (ac<(aa.1.2.length:Int)))=true then ((Zi aa.1.2 ac).bind fun ah=>(some (aa.1.2.set (aA ac) ad)).bind fun ag=>(Zga N ad ab kk_L1 af) (ae.set (aA ab) ((aa.1.1,ag),aa.2)) (i64.wrap (ac+1))) else (Zgb N ad ab kk_L1 N ae 0)
def Zgd (N:Nat) (ab:Int) (kk_L4:(Int→Option Rg)):Nat→R2→Int→Option Rg
  | 0,_,_=>none
  | ad+1,aa,ac=>if (decide (ac<12))=true then (Zt ((aa.length+[8].length) * 4≤140737488355328∧aa.length+[8].length≤maxLen) ((Zgd N ab kk_L4 ad) (aa++[8]) (i64.wrap (ac+1)))) else (kk_L4 (i64.wrap (ab+1)))
def Zgc (N:Nat) (ab:Int) (kk_L4:(Int→Option Rg)) (ac:R1):Nat→R2→Int→Option Rg
  | 0,_,_=>none
  | ae+1,aa,ad=>if (decide (ad<12))=true then (Zt ((aa.length+[7].length) * 4≤140737488355328∧aa.length+[7].length≤maxLen) ((Zgc N ab kk_L4 ac ae) (aa++[7]) (i64.wrap (ad+1)))) else (Zgd N ab kk_L4 N ac.2 0)
def Zgf (N:Nat) (aa:List R1) (ab ac:Int) (kk_L7:(Int→Int→Option Rg)):Nat→Int→Option Rg
  | 0,_=>none
  | af+1,ad=>(Zi aa ab).bind fun ae=>if (decide (ad<(ae.2.length:Int)))=true then ((Zi ae.2 ad).bind fun ag=>if (!decide (ag=(u32.wrap (ac+1))))=true then (some (false,aa)) else ((Zgf N aa ab ac kk_L7 af) (i64.wrap (ad+1)))) else (kk_L7 (i64.wrap (ab+1)) (u32.wrap (ac+2)))
def Zge (N:Nat) (aa:List R1) (ab ac:Int) (kk_L7:(Int→Int→Option Rg)):Nat→Int→Option Rg
  | 0,_=>none
  | af+1,ad=>(Zi aa ab).bind fun ae=>if (decide (ad<(ae.1.2.length:Int)))=true then ((Zi ae.1.2 ad).bind fun ag=>if (!decide (ag=ac))=true then (some (false,aa)) else ((Zge N aa ab ac kk_L7 af) (i64.wrap (ad+1)))) else (Zgf N aa ab ac kk_L7 N 0)
def Q9 (N:Nat) (aa:List R1):Nat→Int→Int→Option Rg
  | 0,_,_=>none
  | ac+1,ab,ad=>if (decide (ab<(aa.length:Int)))=true then (Zge N aa ab ad (Q9 N aa ac) N 0) else (some (true,aa))
def Q8 (N:Nat) (aa:List R1):Nat→Int→Option Rg
  | 0,_=>none
  | ad+1,ab=>if (decide (ab<(aa.length:Int)))=true then ((Zi aa ab).bind fun ac=>Zgc N ab (Q8 N aa ad) ac N ac.1.2 0) else (Q9 N aa N 0 1000)
def Za2 (N:Nat):Nat→R6→Int→Int→Option Rg
  | 0,_,_,_=>none
  | ac+1,aa,ad,ab=>if (decide (ab<(aa.length:Int)))=true then (Zga N ad ab (Za2 N ac) N aa 0) else (Q8 N aa N 0)
def Zjd (N:Nat) (aa:R6):Option Rg:=
  Za2 N N aa 1000 0
theorem Z4d {N ac:Nat} {a0:Option Addr} {col:Zd} {w0:World} {aj:R6} {r:Rg} (qc0:Nat) (hm:Zjd N aj=some r) (hd:Tm [qc0]=true) (h0:Zc (rO 45) 42 qc0 col w0 a0 ac aj):
    Calls prog 85 #[.slice a0 aj.length ac] w0 (fun e w'=>∃ col',e= .returned ((.bool r.1))∧Z5 (pS [qc0]) col w0 col' w'∧Zc (rO 45) 42 qc0 col' w' a0 ac r.2∧r.2.length=aj.length):=by
 refine Z6 2 (m:=144) func85 rfl rfl rfl rfl rfl ?_;rw [Zjd.eq_1] at hm;have aa:=St.startL (l:=[qc0]) rfl col w0;refine go ?_;refine Zs [1000000] (fun n f b3=>∃ b4 ad aq af au,au=n∧Za2 N au ad aq af=some r∧St w0 (Xp [qc0] col) b4 b3∧Zc (rO 45) 42 440 b4 b3 a0 ac ad∧ad.length=aj.length∧ad.length=aj.length∧[0,3,4].map f=[.slice a0 ad.length ac,.int .u32 aq,.int .i64 af]) N ⟨_,_,1000,0,_,rfl,hm,aa,h0.startL (Sr hd 0 rfl) (Sq hd 0 rfl),rfl,rfl,rfl⟩ ?_;clear hm;intro n f b3 hI;obtain ⟨b4,ad,aq,af,au,hn,hm,aa,ab,dp,bo,hs⟩:=hI;subst hn;refine .lL [0,3,4] hs ?_
 cases au with
 | zero=>rw [Za2.eq_1] at hm;cases hm
 | succ au=>
  rw [Za2.eq_2] at hm;refine go ?_;refine Zm hm (fun hb hm=>go ?_) fun hb hm=>go ?_
  ·refine Zs [3,4,1000000] (fun n f bp=>∃ b5 ak bq a3,a3=n∧Zga N aq af (Za2 N au) a3 ak bq=some r∧St w0 (Xp [qc0] col) b5 bp∧Zc (rO 45) 42 440 b5 bp a0 ac ak∧ak.length=aj.length∧ak.length=aj.length∧[0,5].map f=[.slice a0 ak.length ac,.int .i64 bq]) N ⟨_,_,0,_,rfl,hm,aa,ab,dp,bo,rfl⟩ ?_;clear hm;intro n f bp hI;obtain ⟨b5,ak,bq,a3,hn,hm,aa,ar,cx,dq,hs⟩:=hI;subst hn;refine .lL [0,5] hs ?_
   cases a3 with
   | zero=>rw [Zga.eq_1] at hm;cases hm
   | succ a3=>
    rw [Zga.eq_2] at hm;refine go ?_;obtain ⟨ah,ao,hm⟩:=bZ hm;refine lI ao (ar.addr ao)<|Z7 (X8 (ar.addr ao)) ?_;refine Z7 (X8 (X8 (ar.addr ao))) ?_;obtain ⟨_,dr,ds⟩:=ar.atN ao;obtain ⟨_,_,rfl,dt,du⟩:=dr.parts;obtain ⟨_,_,rfl,dv,dw⟩:=dt.parts;obtain rfl:=dv.bool;obtain ⟨f0,f1,rfl,f2⟩:=dw.row;obtain ⟨f3,f4,rfl,f5⟩:=du.row;refine lW ((((ds).part 0 2 _ rfl)).nth (q:=1) rfl)<|go ?_;refine Zm hm (fun hb hm=>go ?_) fun hb hm=>go ?_
    ·refine lI ao (ar.addr ao)<|Z7 (X8 (ar.addr ao)) ?_;refine Z7 (X8 (X8 (ar.addr ao))) ?_;obtain ⟨_,f6,dx,al,dy⟩:=ar.open_ 1 (by decide) ao;obtain ⟨_,_,cy,rfl,cz,dz,d0⟩:=dy.split 2 (by decide);obtain ⟨_,_,rfl,d1,d2⟩:=dz.parts;obtain rfl:=d1.bool;obtain ⟨c0,c1,rfl,c3⟩:=d2.row;obtain ⟨c4,c5,rfl,b6⟩:=d0.row;replace al:=al.kpp cz;replace al:Yo (rO 45) 42 440 cy bp a0 ac ak (aA af) [.bool ah.1.1,.slice c0 ah.1.2.length c1,.slice c4 ah.2.length c5]:=al;refine lW ((((al.atN).part 0 2 _ rfl)).nth (q:=1) rfl)<|go ?_;obtain ⟨f7,b7,hm⟩:=bZ hm;refine lI b7 (c3.addr b7) ?_;obtain ⟨a4,br,hm⟩:=bZ hm;have br:a4=ah.1.2.set (aA bq) aq:=(Option.some.inj br).symm;refine Wa (x1:=aq) c3 b7 ?_;intro d3 b8 d4 c6;rw [← br] at c6;replace al:=al.kp b8;replace al:Yo (rO 45) 42 440 cy d3 a0 ac ak (aA af) [.bool ah.1.1,.slice c0 a4.length c1,.slice c4 ah.2.length c5]:=by rw [← (show ah.1.2.length=a4.length by rw [br,nS])];exact al
     have d5:=X0.join (X0.joinL (U0 ah.1.1) c6.has) (b6.kp b8).has (by decide) (by decide);replace aa:=((aa.kpp dx).kpp cz).kp b8 d4;replace aa:=aa.recol 2 1 (by decide) (by decide);have d6:=(al.recol 2 1).close d5 (by decide) (by decide);have c7:(ak.set (aA af) ((ah.1.1,a4),ah.2)).length=aj.length:=by rw [nS];exact cx
     replace aa:=aa.recol 1 440 (by decide) (by decide);refine .ld (d:=0) (v:=(.slice a0 ((ak.set (aA af) ((ah.1.1,a4),ah.2)).length) ac)) (congrArg (fun n=>Value.slice a0 n ac) (show ak.length=(ak.set (aA af) ((ah.1.1,a4),ah.2)).length by simp only [nS])) ?_;refine go ?_;exact ⟨a3,by omega,rfl,⟨_,_,_,_,rfl,hm,aa,d6,c7,c7,rfl⟩⟩
    refine Zs [3,4,1000000] (fun n f bs=>∃ b9 am bt a5,a5=n∧Zgb N aq af (Za2 N au) a5 am bt=some r∧St w0 (Xp [qc0] col) b9 bs∧Zc (rO 45) 42 440 b9 bs a0 ac am∧am.length=aj.length∧am.length=aj.length∧[0,6].map f=[.slice a0 am.length ac,.int .i64 bt]) N ⟨_,_,0,_,rfl,hm,aa,ar,cx,dq,rfl⟩ ?_;clear hm;intro n f bs hI;obtain ⟨b9,am,bt,a5,hn,hm,aa,a1,c8,d7,hs⟩:=hI;subst hn;refine .lL [0,6] hs ?_
    cases a5 with
    | zero=>rw [Zgb.eq_1] at hm;cases hm
    | succ a5=>
     rw [Zgb.eq_2] at hm;refine go ?_;obtain ⟨ai,av,hm⟩:=bZ hm;refine lI av (a1.addr av)<|Z7 (X8 (a1.addr av)) ?_;obtain ⟨_,d8,d9⟩:=a1.atN av;obtain ⟨_,_,rfl,ea,eb⟩:=d8.parts;obtain ⟨_,_,rfl,ec,ed⟩:=ea.parts;obtain rfl:=ec.bool;obtain ⟨f8,f9,rfl,ga⟩:=ed.row;obtain ⟨gb,gc,rfl,gd⟩:=eb.row;refine lW ((d9).nth (q:=2) rfl)<|go ?_;refine Zm hm (fun hb hm=>go ?_) fun hb hm=>go ?_
     ·refine lI av (a1.addr av)<|Z7 (X8 (a1.addr av)) ?_;obtain ⟨_,ge,ee,an,ef⟩:=a1.open_ 3 (by decide) av;obtain ⟨_,_,c9,rfl,da,eg,eh⟩:=ef.split 4 (by decide);obtain ⟨_,_,rfl,ei,ej⟩:=eg.parts;obtain rfl:=ei.bool;obtain ⟨db,dc,rfl,ca⟩:=ej.row;obtain ⟨dd,de,rfl,df⟩:=eh.row;replace an:=an.kpp da;replace an:Yo (rO 45) 42 440 c9 bs a0 ac am (aA af) [.bool ai.1.1,.slice db ai.1.2.length dc,.slice dd ai.2.length de]:=an;refine lW ((an.atN).nth (q:=2) rfl)<|go ?_;obtain ⟨gf,cb,hm⟩:=bZ hm;refine lI cb (df.addr cb) ?_;obtain ⟨a6,bu,hm⟩:=bZ hm;have bu:a6=ai.2.set (aA bt) (u32.wrap (aq+1)):=(Option.some.inj bu).symm;refine Wa (x1:=u32.wrap (aq+1)) df cb ?_;intro ek cc el dg;rw [← bu] at dg;replace an:=an.kp cc;replace an:Yo (rO 45) 42 440 c9 ek a0 ac am (aA af) [.bool ai.1.1,.slice db ai.1.2.length dc,.slice dd a6.length de]:=by rw [← (show ai.2.length=a6.length by rw [bu,nS])];exact an
      have em:=X0.join (X0.joinL (U0 ai.1.1) (ca.kp cc).has) dg.has (by decide) (by decide);replace aa:=((aa.kpp ee).kpp da).kp cc el;replace aa:=aa.recol 4 3 (by decide) (by decide);have en:=(an.recol 4 3).close em (by decide) (by decide);have dh:(am.set (aA af) ((ai.1.1,ai.1.2),a6)).length=aj.length:=by rw [nS];exact c8
      replace aa:=aa.recol 3 440 (by decide) (by decide);refine .ld (d:=0) (v:=(.slice a0 ((am.set (aA af) ((ai.1.1,ai.1.2),a6)).length) ac)) (congrArg (fun n=>Value.slice a0 n ac) (show am.length=(am.set (aA af) ((ai.1.1,ai.1.2),a6)).length by simp only [nS])) ?_;refine go ?_;exact ⟨a5,by omega,rfl,⟨_,_,_,_,rfl,hm,aa,en,dh,dh,rfl⟩⟩
     exact ⟨au,by omega,rfl,⟨_,_,_,_,_,rfl,hm,aa,a1,c8,d7,rfl⟩⟩
  refine Zs [0,1000000] (fun n f bv=>∃ cd aw ax,ax=n∧Q8 N ad ax aw=some r∧St w0 (Xp [qc0] col) cd bv∧Zc (rO 45) 42 440 cd bv a0 ac ad∧[7].map f=[.int .i64 aw]) N ⟨_,0,_,rfl,hm,aa,ab,rfl⟩ ?_;clear hm;intro n f bv hI;obtain ⟨cd,aw,ax,hn,hm,aa,ab,hs⟩:=hI;subst hn;refine .lL [7] hs ?_
  cases ax with
  | zero=>rw [Q8.eq_1] at hm;cases hm
  | succ ax=>
   rw [Q8.eq_2] at hm;refine go ?_;refine Zm hm (fun hb hm=>go ?_) fun hb hm=>go ?_
   ·obtain ⟨ag,a2,hm⟩:=bZ hm;refine lI a2 (ab.addr a2)<|Z7 (X8 (ab.addr a2)) ?_;refine Z7 (X8 (X8 (ab.addr a2))) ?_;obtain ⟨_,gg,eo,ae,ep⟩:=ab.open_ 5 (by decide) a2;obtain ⟨_,_,eq,rfl,di,er,es⟩:=ep.split 6 (by decide);obtain ⟨_,_,rfl,et,eu⟩:=er.parts;obtain rfl:=et.bool;obtain ⟨bf,bg,rfl,ew⟩:=eu.row;obtain ⟨bh,bi,rfl,a7⟩:=es.row;replace ae:=ae.kpp di;replace ae:Yo (rO 45) 42 440 eq bv a0 ac ad (aA aw) [.bool ag.1.1,.slice bf ag.1.2.length bg,.slice bh ag.2.length bi]:=ae;refine lW ((((ae.atN).part 0 2 _ rfl)).nth (q:=1) rfl)<|go ?_;refine lI a2 (ae.addr)<|Z7 (X8 (ae.addr)) ?_;refine lW ((ae.atN).nth (q:=2) rfl)<|go ?_;have ey:=ew.ex;replace aa:=(aa.kpp eo).kpp di;refine Zs [0,7,9,1000000] (fun n f bj=>∃ a8 ce cf bw cg a9,a9=n∧Zgc N aw (Q8 N ad ax) ag a9 bw cg=some r∧St w0 (Xp [qc0] col) a8 bj∧Ex rU 45 5 a8 bj bf bg ag.1.2 ce cf bw∧Zc rU 45 6 a8 bj bh bi ag.2∧Yo (rO 45) 42 440 a8 bj a0 ac ad (aA aw) [.bool ag.1.1,.slice bf ag.1.2.length bg,.slice bh ag.2.length bi]∧[10,8].map f=[.int .i64 cg,.slice ce bw.length cf]) N ⟨_,_,_,_,0,_,rfl,hm,aa,ey,a7,ae,rfl⟩ ?_;clear hm;intro n f bj hI;obtain ⟨a8,ce,cf,bw,cg,a9,hn,hm,aa,bx,a7,ae,hs⟩:=hI;subst hn;refine .lL [10,8] hs ?_
    cases a9 with
    | zero=>rw [Zgc.eq_1] at hm;cases hm
    | succ a9=>
     rw [Zgc.eq_2] at hm;refine go ?_;refine Zm hm (fun hb hm=>go ?_) fun hb hm=>go ?_
     ·refine Wj (col:=a8) [7] 7 ?_;intro gh ez e0 bz e1;obtain ⟨dj,hm⟩:=Zv hm;replace bx:=bx.gr bz;refine V8 (col:=e0) (w:=ez) (r:=rU) (c:=5) (c2:=5) bx (e1.srcN (NB.int (k:=.u32))) rfl underlying38 Zus rfl rfl rfl dj.1 dj.2 (by decide) ?_;intro gi gj gk gl ch e2;refine go ?_;replace ae:=(ae.gr bz).kpp ch;replace a7:=(a7.gr bz).kpp ch;replace aa:=(aa.grow bz).kpp ch;exact ⟨a9,by omega,rfl,⟨_,_,_,_,_,_,rfl,hm,aa,e2,a7,ae,rfl⟩⟩
     have ba:=bx.old;refine go ?_;have e3:=a7.ex;refine Zs [0,7,1000000] (fun n f bk=>∃ bb ci cj b0 ck bc,bc=n∧Zgd N aw (Q8 N ad ax) bc b0 ck=some r∧St w0 (Xp [qc0] col) bb bk∧Zc rU 45 5 bb bk bf bg ag.1.2∧Ex rU 45 6 bb bk bh bi ag.2 ci cj b0∧Yo (rO 45) 42 440 bb bk a0 ac ad (aA aw) [.bool ag.1.1,.slice bf ag.1.2.length bg,.slice bh ag.2.length bi]∧[11,9].map f=[.int .i64 ck,.slice ci b0.length cj]) N ⟨_,_,_,_,0,_,rfl,hm,aa,ba,e3,ae,rfl⟩ ?_;clear hm;intro n f bk hI;obtain ⟨bb,ci,cj,b0,ck,bc,hn,hm,aa,ba,b1,ae,hs⟩:=hI;subst hn;refine .lL [11,9] hs ?_
     cases bc with
     | zero=>rw [Zgd.eq_1] at hm;cases hm
     | succ bc=>
      rw [Zgd.eq_2] at hm;refine go ?_;refine Zm hm (fun hb hm=>go ?_) fun hb hm=>go ?_
      ·refine Wj (col:=bb) [8] 8 ?_;intro gm e4 e5 b2 e6;obtain ⟨dk,hm⟩:=Zv hm;replace b1:=b1.gr b2;refine V8 (col:=e5) (w:=e4) (r:=rU) (c:=6) (c2:=6) b1 (e6.srcN (NB.int (k:=.u32))) rfl underlying38 Zus rfl rfl rfl dk.1 dk.2 (by decide) ?_;intro gp gs gt gu cl e7;refine go ?_;replace ae:=(ae.gr b2).kpp cl;replace ba:=(ba.gr b2).kpp cl;replace aa:=(aa.grow b2).kpp cl;exact ⟨bc,by omega,rfl,⟨_,_,_,_,_,_,rfl,hm,aa,ba,e7,ae,rfl⟩⟩
      have e8:=b1.old;have e9:=X0.join (X0.joinL (U0 ag.1.1) ba.has) e8.has (by decide) (by decide);replace aa:=aa.recol 6 5 (by decide) (by decide);have dl:=(ae.recol 6 5).close e9 (by decide) (by decide);rw [Z9v a2] at dl;replace aa:=aa.recol 5 440 (by decide) (by decide);refine go ?_;exact ⟨ax,by omega,rfl,⟨_,_,_,rfl,hm,aa,dl,rfl⟩⟩
   refine Zs [0,1000000] (fun n f cn=>∃ co bm bn ay,ay=n∧Q9 N ad ay bm bn=some r∧St w0 (Xp [qc0] col) co cn∧Zc (rO 45) 42 440 co cn a0 ac ad∧[12,3].map f=[.int .i64 bm,.int .u32 bn]) N ⟨_,0,1000,_,rfl,hm,aa,ab,rfl⟩ ?_;clear hm;intro n f cn hI;obtain ⟨co,bm,bn,ay,hn,hm,aa,ab,hs⟩:=hI;subst hn;refine .lL [12,3] hs ?_
   cases ay with
   | zero=>rw [Q9.eq_1] at hm;cases hm
   | succ ay=>
    rw [Q9.eq_2] at hm;refine go ?_;refine Zm hm (fun hb hm=>go ?_) fun hb hm=>go ?_
    ·refine Zs [0,12,3,1000000] (fun n f cp=>∃ cq cr bd,bd=n∧Zge N ad bm bn (Q9 N ad ay) bd cr=some r∧St w0 (Xp [qc0] col) cq cp∧Zc (rO 45) 42 440 cq cp a0 ac ad∧[13].map f=[.int .i64 cr]) N ⟨_,0,_,rfl,hm,aa,ab,rfl⟩ ?_;clear hm;intro n f cp hI;obtain ⟨cq,cr,bd,hn,hm,aa,ab,hs⟩:=hI;subst hn;refine .lL [13] hs ?_
     cases bd with
     | zero=>rw [Zge.eq_1] at hm;cases hm
     | succ bd=>
      rw [Zge.eq_2] at hm;refine go ?_;obtain ⟨gv,ap,hm⟩:=bZ hm;refine lI ap (ab.addr ap)<|Z7 (X8 (ab.addr ap)) ?_;refine Z7 (X8 (X8 (ab.addr ap))) ?_;obtain ⟨_,fa,fb⟩:=ab.atN ap;obtain ⟨_,_,rfl,fc,fd⟩:=fa.parts;obtain ⟨_,_,rfl,fe,ff⟩:=fc.parts;obtain rfl:=fe.bool;obtain ⟨gw,gx,rfl,gy⟩:=ff.row;obtain ⟨gz,g0,rfl,g1⟩:=fd.row;refine lW ((((fb).part 0 2 _ rfl)).nth (q:=1) rfl)<|go ?_;refine Zm hm (fun hb hm=>go ?_) fun hb hm=>go ?_
      ·refine lI ap (ab.addr ap)<|Z7 (X8 (ab.addr ap)) ?_;refine Z7 (X8 (X8 (ab.addr ap))) ?_;obtain ⟨_,fg,fh⟩:=ab.atN ap;obtain ⟨_,_,rfl,fi,fj⟩:=fg.parts;obtain ⟨_,_,rfl,fk,fl⟩:=fi.parts;obtain rfl:=fk.bool;obtain ⟨g2,g3,rfl,dm⟩:=fl.row;obtain ⟨g4,g5,rfl,g6⟩:=fj.row;refine lW ((((fh).part 0 2 _ rfl)).nth (q:=1) rfl)<|Xr rfl ?_;obtain ⟨g7,cs,hm⟩:=bZ hm;refine lI cs (dm.addr cs)<|lW (dm.atInt cs) ?_;refine go ?_;refine Zm hm (fun hb hm=>go ?_) fun hb hm=>go ?_
       ·cases hm;exact ⟨rfl,_,rfl,aa.finL rfl (cm [(440,qc0)]),aa.foL ab,bo⟩
       exact ⟨bd,by omega,rfl,⟨_,_,_,rfl,hm,aa,ab,rfl⟩⟩
      refine Zs [0,12,3,1000000] (fun n f ct=>∃ cu cv be,be=n∧Zgf N ad bm bn (Q9 N ad ay) be cv=some r∧St w0 (Xp [qc0] col) cu ct∧Zc (rO 45) 42 440 cu ct a0 ac ad∧[14].map f=[.int .i64 cv]) N ⟨_,0,_,rfl,hm,aa,ab,rfl⟩ ?_;clear hm;intro n f ct hI;obtain ⟨cu,cv,be,hn,hm,aa,ab,hs⟩:=hI;subst hn;refine .lL [14] hs ?_
      cases be with
      | zero=>rw [Zgf.eq_1] at hm;cases hm
      | succ be=>
       rw [Zgf.eq_2] at hm;refine go ?_;obtain ⟨g8,az,hm⟩:=bZ hm;refine lI az (ab.addr az)<|Z7 (X8 (ab.addr az)) ?_;obtain ⟨_,fm,fn⟩:=ab.atN az;obtain ⟨_,_,rfl,fp,fq⟩:=fm.parts;obtain ⟨_,_,rfl,fr,ft⟩:=fp.parts;obtain rfl:=fr.bool;obtain ⟨g9,ha,rfl,hc⟩:=ft.row;obtain ⟨he,hf,rfl,hg⟩:=fq.row;refine lW ((fn).nth (q:=2) rfl)<|go ?_;refine Zm hm (fun hb hm=>go ?_) fun hb hm=>go ?_
       ·refine lI az (ab.addr az)<|Z7 (X8 (ab.addr az)) ?_;obtain ⟨_,fu,fv⟩:=ab.atN az;obtain ⟨_,_,rfl,fw,fx⟩:=fu.parts;obtain ⟨_,_,rfl,fy,fz⟩:=fw.parts;obtain rfl:=fy.bool;obtain ⟨hh,hi,rfl,hj⟩:=fz.row;obtain ⟨hk,hl,rfl,dn⟩:=fx.row;refine lW ((fv).nth (q:=2) rfl)<|Xr rfl ?_;obtain ⟨ho,cw,hm⟩:=bZ hm;refine lI cw (dn.addr cw)<|lW (dn.atInt cw) ?_;refine go ?_;refine Zm hm (fun hb hm=>go ?_) fun hb hm=>go ?_
        ·cases hm;exact ⟨rfl,_,rfl,aa.finL rfl (cm [(440,qc0)]),aa.foL ab,bo⟩
        exact ⟨be,by omega,rfl,⟨_,_,_,rfl,hm,aa,ab,rfl⟩⟩
       exact ⟨ay,by omega,rfl,⟨_,_,_,_,rfl,hm,aa,ab,rfl⟩⟩
    cases hm;exact ⟨rfl,_,rfl,aa.finL rfl (cm [(440,qc0)]),aa.foL ab,bo⟩
def Zcd (m:Int) (x:QV):QV:=((x.1.1,aC x.1.2.length m),aC x.2.length (m+1))
def Ww:Int→List QV→List QV
 | _,[]=>[]
 | m,x :: l=>Zcd m x :: Ww (m+2) l
theorem Zag:∀ (l:List QV) (m:Int),(Ww m l).length=l.length
 | [],_=>rfl
 | x :: l,m=>by rw [Ww,nC,Zag l,nC]
theorem Zrb:∀ (l:List QV) (m:Int) (i:Nat) (hi:i<l.length),(Ww m l)[i]?=some (Zcd (m+2 * i) l[i])
 | x :: l,m,0,_=>by simp [Ww]
 | x :: l,m,i+1,hi=>by
  rw [Ww,List.getElem?_cons_succ,Zrb l (m+2) i (by simpa using hi),List.getElem_cons_succ]
  congr 2;omega
theorem Zw4:∀ (a b:List QV) (m:Int),Ww m (a++b)=Ww m a++Ww (m+2 * (a.length:Int)) b
 | [],b,m=>by simp [Ww]
 | x :: a,b,m=>by
  rw [cJ,Ww,Zw4 a b,Ww,cJ,nC]
  congr 3;omega
theorem Zpm {x:Int} (h:0≤x∧x<4294967296):u32.wrap x=x:=by rw [IntKind.wrap_u32];omega
theorem Z9u {α:Type} {l:List α} {i:Nat} {x:α} (h:l[i]?=some x):l.set i x=l:=by
 obtain ⟨a,rfl⟩:=cN.1 h
 exact List.set_getElem_self a
theorem Zpi {l:List Int} {k:Nat} {m:Int} (hk:k<l.length) (h:l.take k=aC k m):(l.set k m).take (k+1)=aC (k+1) m:=by
 rw [List.take_set,bF hk,h,eJ _ _ (by simp),aN,fB,List.replicate_succ']
 rfl
theorem Zmu {l:List Int} {k:Nat} {m:Int} (h:l.take k=aC k m) (hk:l.length≤k):l=aC l.length m:=by
 rw [bD hk] at h
 have:=congrArg List.length h
 rw [aN] at this
 rw [this];exact h
abbrev Zg9:=Option (Bool×List QV)
section
variable {N:Nat} (hN:1099511627777<N)
include hN
omit hN in
theorem Zu8 {m:Int} (hm:0≤m∧m<4294967000) {i:Nat} (hi:i<4611686018427387904) (kk:List QV→Int→Int→Zg9) (b:Bool) (num:List Int) (c:Nat) (hc:c≤1099511627776):∀ (f k:Nat) (l:List QV) (den:List Int),l[i]?=some ((b,num),den)→den.length=c→den.take k=aC k (m+1)→k≤c→c<f+k→
  Zgb N m (i:Int) kk f l (k:Int)=kk (l.set i ((b,num),aC c (m+1))) (m+2) ((i+1:Nat):Int)
 | 0,k,l,den,_,_,_,p,q=>by omega
 | f+1,k,l,den,d,g,j,p,q=>by
  rw [Zgb.eq_2,V6,d,oB]
  by_cases hk:k<c
  ·have a:k<den.length:=by omega
   have n:=(cN.1 d).1
   rw [if_pos (dT (show (k:Int)<(den.length:Int) by omega)),show (((b,num),den):QV).2=den from rfl,Zu a,oB,oB,Zpm (by omega),aB,aB,wS (by omega)]
   have o:=Zu8 hm hi kk b num c hc f (k+1) (l.set i ((b,num),den.set k (m+1))) (den.set k (m+1)) (by rw [iA n]) (by rw [nS];exact g) (Zpi a j) (by omega) (by omega)
   rw [kB] at o
   exact o
  ·rw [if_neg (by rw [decide_eq_false (show ¬ (k:Int)<((((b,num),den):QV).2.length:Int) by simp only;omega)];decide),Zpm (by omega),Zr (by omega)]
   have e:=Zmu j (by omega)
   rw [g] at e
   rw [← e,Z9u d];rfl
theorem Zu7 {m:Int} (hm:0≤m∧m<4294967000) {i:Nat} (hi:i<4611686018427387904) (kk:List QV→Int→Int→Zg9) (b:Bool) (den:List Int) (hden:den.length≤1099511627776) (c:Nat) (hc:c≤1099511627776):∀ (f k:Nat) (l:List QV) (num:List Int),l[i]?=some ((b,num),den)→num.length=c→num.take k=aC k m→k≤c→c<f+k→
  Zga N m (i:Int) kk f l (k:Int)=kk (l.set i ((b,aC c m),aC den.length (m+1))) (m+2) ((i+1:Nat):Int)
 | 0,k,l,num,_,_,_,p,q=>by omega
 | f+1,k,l,num,d,g,j,p,q=>by
  rw [Zga.eq_2,V6,d,oB]
  by_cases hk:k<c
  ·have a:k<num.length:=by omega
   have n:=(cN.1 d).1
   rw [if_pos (dT (show (k:Int)<(num.length:Int) by omega)),show (((b,num),den):QV).1.2=num from rfl,Zu a,oB,oB,aB,aB,wS (by omega)]
   have o:=Zu7 hm hi kk b den hden c hc f (k+1) (l.set i ((b,num.set k m),den)) (num.set k m) (by rw [iA n]) (by rw [nS];exact g) (Zpi a j) (by omega) (by omega)
   rw [kB] at o
   exact o
  ·rw [if_neg (by rw [decide_eq_false (show ¬ (k:Int)<((((b,num),den):QV).1.2.length:Int) by simp only;omega)];decide)]
   have e:=Zmu j (by omega)
   rw [g] at e
   have:=Zu8 (N:=N) hm hi kk b num den.length hden N 0 l den d rfl rfl (aT _) (by omega)
   rw [show ((0:Nat):Int)=0 from rfl] at this
   rw [this,e]
theorem Zu6 {p:List QV} (hp:p.length≤1048576) (hl:∀ x ∈ p,x.1.2.length≤1099511627776∧x.2.length≤1099511627776):∀ (f i:Nat) (l:List QV),l=Ww 1000 (p.take i)++p.drop i→i≤p.length→p.length<f+i→
  Za2 N f l (1000+2 * (i:Int)) (i:Int)=Q8 N (Ww 1000 p) N 0
 | 0,i,l,_,d,e=>by omega
 | f+1,i,l,b,d,e=>by
  have j:l.length=p.length:=by
   rw [b,nA,Zag,nK,List.length_drop];omega
  rw [Za2.eq_2]
  by_cases hi:i<p.length
  ·have a:=hl _ (aD hi)
   have g:l[i]?=some ((p[i].1.1,p[i].1.2),p[i].2):=by
    rw [b,cU (by rw [Zag,nK];omega),Zag,nK,aS (by omega),fB,List.getElem?_drop,bO,aI hi]
   rw [if_pos (dT (by omega))]
   have c:=Zu7 hN (m:=1000+2 * (i:Int)) (by omega) (i:=i) (by omega) (Za2 N f) p[i].1.1 p[i].2 a.2 p[i].1.2.length a.1 N 0 l p[i].1.2 g rfl rfl (aT _) (by omega)
   rw [show ((0:Nat):Int)=0 from rfl] at c
   rw [c,show (1000+2 * (i:Int)+2)=1000+2 * ((i+1:Nat):Int) by omega]
   refine Zu6 hp hl f (i+1) _ ?_ (by omega) (by omega)
   rw [b,eJ _ _ (by rw [Zag,nK];omega),Zag,nK,aS (by omega),fB,aL hi,List.set_cons_zero,bF hi,Zw4,List.append_assoc,nK,aS (by omega)]
   rfl
  ·rw [if_neg (dF (by omega)),b,bD (by omega),aG (by omega),List.append_nil]
omit hN in
theorem Zvb (i:Nat) (hi:i<4611686018427387904) (kk:Int→Zg9):∀ (f k:Nat) (l:List Int),k≤12→12<f+k→l.length≤1099511627776+k→Zgd N (i:Int) kk f l (k:Int)=kk ((i+1:Nat):Int)
 | 0,k,l,a,b,_=>by omega
 | f+1,k,l,a,b,c=>by
  rw [Zgd.eq_2]
  by_cases hk:k<12
  ·rw [if_pos (dT (by omega)),Zx (by simp only [aH,maxLen];omega),wS (by omega)]
   exact Zvb i hi kk f (k+1) _ (by omega) (by omega) (by rw [nA,aH];omega)
  ·rw [if_neg (dF (by omega)),wS (by omega)]
theorem Zva (i:Nat) (hi:i<4611686018427387904) (kk:Int→Zg9) (e:QV) (he:e.2.length≤1099511627776):∀ (f k:Nat) (l:List Int),k≤12→12<f+k→l.length≤1099511627776+k→Zgc N (i:Int) kk e f l (k:Int)=kk ((i+1:Nat):Int)
 | 0,k,l,a,b,_=>by omega
 | f+1,k,l,a,b,c=>by
  rw [Zgc.eq_2]
  by_cases hk:k<12
  ·rw [if_pos (dT (by omega)),Zx (by simp only [aH,maxLen];omega),wS (by omega)]
   exact Zva i hi kk e he f (k+1) _ (by omega) (by omega) (by rw [nA,aH];omega)
  ·rw [if_neg (dF (by omega))]
   have:=Zvb (N:=N) i hi kk N 0 e.2 (aT _) (by omega) (by omega)
   exact this
theorem Zu9 {l:List QV} (hp:l.length≤1048576) (hl:∀ x ∈ l,x.1.2.length≤1099511627776∧x.2.length≤1099511627776):∀ (f i:Nat),i≤l.length→l.length<f+i→Q8 N l f (i:Int)=Q9 N l N 0 1000
 | 0,i,b,c=>by omega
 | f+1,i,b,c=>by
  rw [Q8.eq_2]
  by_cases hi:i<l.length
  ·have a:=hl _ (aD hi)
   rw [if_pos (dT (by omega)),Zu hi,oB]
   have:=Zva hN i (by omega) (Q8 N l f) l[i] a.2 N 0 l[i].1.2 (aT _) (by omega) (by omega)
   rw [show ((0:Nat):Int)=0 from rfl] at this
   rw [this]
   exact Zu9 hp hl f (i+1) (by omega) (by omega)
  ·rw [if_neg (dF (by omega))]
omit hN in
theorem Zve {l:List QV} {i:Nat} {m:Int} {x:QV} (hm:0≤m∧m<4294967000) (hi:i<4611686018427387904) (hx:l[i]?=some (Zcd m x)) (hc:x.2.length≤1099511627776) (kk:Int→Int→Zg9):∀ (f k:Nat),k≤x.2.length→x.2.length<f+k→Zgf N l (i:Int) m kk f (k:Int)=kk ((i+1:Nat):Int) (m+2)
 | 0,k,b,c=>by omega
 | f+1,k,b,c=>by
  have a:(Zcd m x).2.length=x.2.length:=aN
  rw [Zgf.eq_2,V6,hx,oB,a]
  by_cases hk:k<x.2.length
  ·rw [if_pos (dT (by omega)),Zu (by rw [a];exact hk),oB,show (Zcd m x).2[k]'(by rw [a];exact hk)=m+1 from eA _,Zpm (by omega),if_neg (by rw [decide_eq_true rfl];decide),wS (by omega)]
   exact Zve hm hi hx hc kk f (k+1) (by omega) (by omega)
  ·rw [if_neg (dF (by omega)),Zpm (by omega),wS (by omega)]
theorem Zvd {l:List QV} {i:Nat} {m:Int} {x:QV} (hm:0≤m∧m<4294967000) (hi:i<4611686018427387904) (hx:l[i]?=some (Zcd m x)) (hc:x.1.2.length≤1099511627776) (hd:x.2.length≤1099511627776) (kk:Int→Int→Zg9):∀ (f k:Nat),k≤x.1.2.length→x.1.2.length<f+k→Zge N l (i:Int) m kk f (k:Int)=kk ((i+1:Nat):Int) (m+2)
 | 0,k,b,c=>by omega
 | f+1,k,b,c=>by
  have a:(Zcd m x).1.2.length=x.1.2.length:=aN
  rw [Zge.eq_2,V6,hx,oB,a]
  by_cases hk:k<x.1.2.length
  ·rw [if_pos (dT (by omega)),Zu (by rw [a];exact hk),oB,show (Zcd m x).1.2[k]'(by rw [a];exact hk)=m from eA _,if_neg (by rw [decide_eq_true rfl];decide),wS (by omega)]
   exact Zvd hm hi hx hc hd kk f (k+1) (by omega) (by omega)
  ·rw [if_neg (dF (by omega))]
   have:=Zve (N:=N) hm hi hx hd kk N 0 (aT _) (by omega)
   exact this
theorem Zvc {p:List QV} (hp:p.length≤1048576) (hl:∀ x ∈ p,x.1.2.length≤1099511627776∧x.2.length≤1099511627776):∀ (f i:Nat),i≤p.length→p.length<f+i→Q9 N (Ww 1000 p) f (i:Int) (1000+2 * (i:Int))=some (true,Ww 1000 p)
 | 0,i,c,d=>by omega
 | f+1,i,c,d=>by
  rw [Q9.eq_2,Zag]
  by_cases hi:i<p.length
  ·have a:=hl _ (aD hi)
   have b:=Zvd hN (l:=Ww 1000 p) (i:=i) (m:=1000+2 * (i:Int)) (x:=p[i]) (by omega) (by omega) (Zrb p 1000 i hi) a.1 a.2 (Q9 N (Ww 1000 p) f) N 0 (aT _) (by omega)
   rw [show ((0:Nat):Int)=0 from rfl] at b
   rw [if_pos (dT (by omega)),b,show (1000+2 * (i:Int)+2)=1000+2 * ((i+1:Nat):Int) by omega]
   exact Zvc hp hl f (i+1) (by omega) (by omega)
  ·rw [if_neg (dF (by omega))]
theorem Z6s {p:List QV} (hp:p.length≤1048576) (hl:∀ x ∈ p,x.1.2.length≤1099511627776∧x.2.length≤1099511627776):Zjd N p=some (true,Ww 1000 p):=by
 have b:=Zu6 hN hp hl N 0 p (by simp [Ww]) (aT _) (by omega)
 have f:∀ x ∈ Ww 1000 p,x.1.2.length≤1099511627776∧x.2.length≤1099511627776:=fun x g=>by
  obtain ⟨i,c⟩:=List.getElem?_of_mem g
  have a:i<p.length:=by have:=(cN.1 c).1;rwa [Zag] at this
  rw [Zrb p 1000 i a] at c
  cases c
  have:=hl _ (aD a)
  simp only [Zcd,aN]
  exact this
 have e:=Zu9 hN (l:=Ww 1000 p) (by rw [Zag];exact hp) f N 0 (aT _) (by rw [Zag];omega)
 have d:=Zvc hN hp hl N 0 (aT _) (by omega)
 rw [show ((0:Nat):Int)=0 from rfl] at b e d
 rw [show (1000+2 * (0:Int))=1000 from rfl] at b d
 rw [Zjd,b,e,d]
end
def Zjf (ae:R0) (aa:Int) (kk_L1:(Int→Int→Option Int)) (ab ac:Int) (kk_L2:(Int→Int→Option Int)) (af:Bool):Option Int:=
  if af=true then ((Zi ae.2.2.2.2 aa).bind fun ag=>(Zi ag ac).bind fun ad=>kk_L2 (i64.wrap ((i64.wrap (ab+(ad.1.2.length:Int)))+(ad.2.length:Int))) (i64.wrap (ac+1))) else (kk_L1 ab (i64.wrap (aa+1)))
def Zcb (N:Nat) (aa:R0) (ab:Int) (kk_L1:(Int→Int→Option Int)):Nat→Int→Int→Option Int
  | 0,_,_=>none
  | ae+1,ac,ad=>(Zi aa.2.2.2.2 ab).bind fun af=>if (decide (ad<(af.length:Int)))=true then (Zjf aa ab kk_L1 ac ad (Zcb N aa ab kk_L1 ae) (decide (ac<10000))) else (Zjf aa ab kk_L1 ac ad (Zcb N aa ab kk_L1 ae) false)
def Zab (N:Nat) (aa:R0):Nat→Int→Int→Option Int
  | 0,_,_=>none
  | ad+1,ab,ac=>if (decide (ac<(aa.2.2.2.2.length:Int)))=true then (Zcb N aa ac (Zab N aa ad) N ab 0) else (some (if 10000<ab then 10000 else ab))
def Zn8 (N:Nat) (aa:R0):Option Int:=
  Zab N aa N 0 0
theorem Z4f {N al am an ao:Nat} {ap aq ar au:Option Addr} {col:Zd} {w0:World} {aa:R0} {r:Int} (hm:Zn8 N aa=some r) (bs:Sl Za.str col w0 ap al aa.2.1) (bt:Sl rV col w0 aq am aa.2.2.1) (bu:Sl rP col w0 ar an aa.2.2.2.1) (ag:Sl (Za.slice rQ) col w0 au ao aa.2.2.2.2):
    Calls prog 86 #[(.agg #[.string aa.1,.slice ap aa.2.1.length al,.slice aq aa.2.2.1.length am,.slice ar aa.2.2.2.1.length an,.slice au aa.2.2.2.2.length ao])] w0 (W5 w0 r):=by
 refine Z6 2 (m:=53) func86 rfl rfl rfl rfl rfl ?_;rw [Zn8.eq_1] at hm;have ab:=St.start col w0;refine go ?_;refine Xl (col:=(Zf col)) 1 rfl ?_;intro ay bv bw a8 ac;refine go ?_;replace ab:=ab.grow a8;refine Zs [1,1000000] (fun n f az=>∃ a0 ai aj ae,ae=n∧Zab N aa ae ai aj=some r∧St w0 (Zf col) a0 az∧Zj 27 1 a0 az ay #[.string aa.1,.slice ap aa.2.1.length al,.slice aq aa.2.2.1.length am,.slice ar aa.2.2.2.1.length an,.slice au aa.2.2.2.2.length ao]∧[3,4].map f=[.int .i64 ai,.int .i64 aj]) N ⟨_,0,0,_,rfl,hm,ab,ac,rfl⟩ ?_;clear hm;intro n f az hI;obtain ⟨a0,ai,aj,ae,hn,hm,ab,ac,hs⟩:=hI;subst hn;refine .lL [3,4] hs ?_;replace ag:=ag.k0
 cases ae with
 | zero=>rw [Zab.eq_1] at hm;cases hm
 | succ ae=>
  rw [Zab.eq_2] at hm;refine go ?_;refine Z1 ac ?_;refine go ?_;refine Zm hm (fun hb hm=>go ?_) fun hb hm=>go ?_
  ·refine Zs [1,4,1000000] (fun n f a1=>∃ a2 av aw ah,ah=n∧Zcb N aa aj (Zab N aa ae) ah av aw=some r∧St w0 (Zf col) a2 a1∧Zj 27 1 a2 a1 ay #[.string aa.1,.slice ap aa.2.1.length al,.slice aq aa.2.2.1.length am,.slice ar aa.2.2.2.1.length an,.slice au aa.2.2.2.2.length ao]∧[3,5].map f=[.int .i64 av,.int .i64 aw]) N ⟨_,_,0,_,rfl,hm,ab,ac,rfl⟩ ?_;clear hm;intro n f a1 hI;obtain ⟨a2,av,aw,ah,hn,hm,ab,ac,hs⟩:=hI;subst hn;refine .lL [3,5] hs ?_
   cases ah with
   | zero=>rw [Zcb.eq_1] at hm;cases hm
   | succ ah=>
    rw [Zcb.eq_2] at hm;refine Z0<|Z0 ?_;refine Wp.cutK [1,3,4,5,1000000] (fun f a3=>∃ ad a4,Zjf aa aj (Zab N aa ae) av aw (Zcb N aa aj (Zab N aa ae) ah) a4=some r∧St w0 (Zf col) ad a3∧Zj 27 1 ad a3 ay #[.string aa.1,.slice ap aa.2.1.length al,.slice aq aa.2.2.1.length am,.slice ar aa.2.2.2.1.length an,.slice au aa.2.2.2.2.length ao]∧[24].map f=[.bool a4]) ?_ ?_
    ·intro f a3 hJ;obtain ⟨ad,a4,hm,ab,ac,hs⟩:=hJ;rw [Zjf.eq_1] at hm;refine .lL [24] hs ?_;refine Zm hm (fun hb hm=>go ?_) fun hb hm=>go ?_
     ·refine Y7 (col:=ad) (by kernel_rfl) (by kernel_rfl)<|go ?_;refine qF ⟨_,_,rfl⟩ ?_;refine qW (fun _ hC=>((ac.atN).nth (q:=4) rfl).gr (hC.bl ad)) ?_;refine go ?_;obtain ⟨bx,ak,hm⟩:=bZ hm;refine qI ak ((ag.ks ab).addr ak) ?_;obtain ⟨_,a9,ba⟩:=(ag.ks ab).atN ak;obtain ⟨⟨bz,b0,rfl,ax⟩,_⟩:=a9;refine qW (fun _ hC=>ba.one.gr (hC.bl ad)) ?_;refine go ?_;obtain ⟨b1,af,hm⟩:=bZ hm;refine qI af (ax.addr af)<|qF (X8 (ax.addr af)) ?_;refine qF (X8 (X8 (ax.addr af))) ?_;obtain ⟨_,bb,bc⟩:=ax.atN af;obtain ⟨_,_,rfl,bd,be⟩:=Yb bb;obtain ⟨_,_,rfl,bf,bg⟩:=Yb bd;obtain ⟨rfl,_⟩:=bf;obtain ⟨⟨b2,b3,rfl,b4⟩,_⟩:=bg;obtain ⟨⟨b5,b6,rfl,b7⟩,_⟩:=be;refine qW (fun _ hC=>((((bc).part 0 2 _ rfl)).nth (q:=1) rfl).gr (hC.bl ad)) ?_;refine go ?_;refine qF ⟨_,_,rfl⟩ ?_;refine qW (fun _ hC=>((ac.atN).nth (q:=4) rfl).gr (hC.bl ad)) ?_;refine go ?_;refine qI ak ((ag.ks ab).addr ak) ?_;obtain ⟨_,bh,bi⟩:=(ag.ks ab).atN ak;obtain ⟨⟨b8,b9,rfl,a5⟩,_⟩:=bh;refine qW (fun _ hC=>bi.one.gr (hC.bl ad)) ?_;refine go ?_;refine qI af (a5.addr af)<|qF (X8 (a5.addr af)) ?_;obtain ⟨_,bj,bk⟩:=a5.atN af;obtain ⟨_,_,rfl,bm,bn⟩:=Yb bj;obtain ⟨_,_,rfl,bo,bp⟩:=Yb bm;obtain ⟨rfl,_⟩:=bo;obtain ⟨⟨ca,cb,rfl,cc⟩,_⟩:=bp;obtain ⟨⟨cd,ce,rfl,cf⟩,_⟩:=bn;refine qW (fun _ hC=>((bk).nth (q:=2) rfl).gr (hC.bl ad)) ?_;refine go ?_;refine X2 ?_;intro cg hC;replace hC:=hC.bl ad;refine go ?_;replace ac:=ac.gr hC;replace ab:=ab.grow hC;exact ⟨ah,by omega,rfl,⟨_,_,_,_,rfl,hm,ab,ac,rfl⟩⟩
     exact ⟨ae,by omega,rfl,⟨_,_,_,_,rfl,hm,ab,ac,rfl⟩⟩
    refine go ?_;refine Z1 ac<|Xr rfl ?_;obtain ⟨ch,a6,hm⟩:=bZ hm;refine lI a6 ((ag.ks ab).addr a6) ?_;obtain ⟨_,bq,br⟩:=(ag.ks ab).atN a6;obtain ⟨⟨ci,cj,rfl,ck⟩,_⟩:=bq;refine lW br.one<|go ?_;refine Xn hm (fun a7 hm=>go ?_) fun a7 hm=>go ?_
    ·refine lV (.bool (decide (av<10000))) (Zw (congrArg Value.bool a7) rfl)<|Zl ?_;exact ⟨rfl,_,_,hm,ab,ac,rfl⟩
    refine lV (.bool false) (Xk (congrArg Value.bool a7) rfl)<|Zl ?_;exact ⟨rfl,_,_,hm,ab,ac,rfl⟩
  refine lV (.int .i64 (if 10000<ai then 10000 else ai)) (Zrx ai 10000 rfl rfl)<|go ?_;cases hm;exact ⟨rfl,rfl,ab.below⟩
def Zgo (N:Nat) (ab ac:List Int):Nat→Int→Option Bool
  | 0,_=>none
  | ad+1,aa=>if (decide (aa<(ab.length:Int)))=true then ((Zi ab aa).bind fun ae=>(Zi ac aa).bind fun af=>if (!decide (ae=af))=true then (some false) else ((Zgo N ab ac ad) (i64.wrap (aa+1)))) else (some true)
def Zcc (N:Nat) (aa ab:List Int):Option Bool:=
  if (!decide ((aa.length:Int)=(ab.length:Int)))=true then (some false) else (Zgo N aa ab N 0)
theorem Zkc {N ai aj:Nat} {a0 a1:Option Addr} {col:Zd} {w0:World} {ad ae:R2} {r:Bool} (hm:Zcc N ad ae=some r) (h0:Sl rI col w0 a0 ai ad) (h1:Sl rI col w0 a1 aj ae):
    Calls prog 10 #[.slice a0 ad.length ai,.slice a1 ae.length aj] w0 (Wx w0 r):=by
 refine Z6 4 (m:=26) func10 rfl rfl rfl rfl rfl ?_;rw [Zcc.eq_1] at hm;have aa:=St.start col w0;refine go ?_;replace h0:=h0.k0;replace h1:=h1.k0;refine Zm hm (fun hb hm=>go ?_) fun hb hm=>go ?_
 ·cases hm;exact ⟨rfl,rfl,aa.below⟩
 refine Zs [0,1,1000000] (fun n f ak=>∃ ab af ac,ac=n∧Zgo N ad ae ac af=some r∧St w0 (Zf col) ab ak∧[5].map f=[.int .i64 af]) N ⟨_,0,_,rfl,hm,aa,rfl⟩ ?_;clear hm;intro n f ak hI;obtain ⟨ab,af,ac,hn,hm,aa,hs⟩:=hI;subst hn;refine .lL [5] hs ?_
 cases ac with
 | zero=>rw [Zgo.eq_1] at hm;cases hm
 | succ ac=>
  rw [Zgo.eq_2] at hm;refine go ?_;refine Zm hm (fun hb hm=>go ?_) fun hb hm=>go ?_
  ·refine Y7 (col:=ab) (by kernel_rfl) (by kernel_rfl)<|go ?_;obtain ⟨al,ag,hm⟩:=bZ hm;refine qI ag ((h0.ks aa).addr ag)<|qW (fun _ hC=>((h0.ks aa).gr (hC.bl ab)).atInt ag) ?_;refine go ?_;obtain ⟨am,ah,hm⟩:=bZ hm;refine qI ah ((h1.ks aa).addr ah)<|qW (fun _ hC=>((h1.ks aa).gr (hC.bl ab)).atInt ah) ?_;refine go ?_;refine X2 ?_;intro an hC;replace aa:=aa.grow (hC.bl ab);refine Zm hm (fun hb hm=>go ?_) fun hb hm=>go ?_
   ·cases hm;exact ⟨rfl,rfl,aa.below⟩
   exact ⟨ac,by omega,rfl,⟨_,_,_,rfl,hm,aa,rfl⟩⟩
  cases hm;exact ⟨rfl,rfl,aa.below⟩
theorem Z1h {N:Nat} {l:List Int} (hl:l.length≤1048576):∀ (f i:Nat),i≤l.length→l.length<f+i→Zgo N l l f (i:Int)=some true
 | 0,i,a,b=>by omega
 | f+1,i,a,b=>by
  rw [Zgo.eq_2]
  by_cases hi:i<l.length
  ·rw [if_pos (dT (by omega)),Zu hi,oB,oB,if_neg (by rw [decide_eq_true rfl];decide),wS (by omega)]
   exact Z1h hl f (i+1) (by omega) (by omega)
  ·rw [if_neg (dF (by omega))]
theorem Zpc {N:Nat} {l:List Int} (hl:l.length≤1048576) (hN:1048577<N):Zcc N l l=some true:=by
 rw [Zcc,if_neg (by rw [decide_eq_true rfl];decide)]
 exact Z1h hl N 0 (aT _) (by omega)
/-! which networks are gone through -/
theorem Zwn {N:Nat} {n:Xa} (hb:∀ t ∈ n.2.2.2.2,t.length≤1048576∧∀ x ∈ t,x.1.2.length≤1048576∧x.2.length≤1048576) {i:Nat} (hi:i<n.2.2.2.2.length) (hib:i<4611686018427387904) (kk:Int→Int→Option Int) (hkk:∀ s:Int,0≤s→s≤3000000→∃ r,kk s ((i+1:Nat):Int)=some r):∀ (f k:Nat) (s:Int),0≤s→s≤3000000→k≤n.2.2.2.2[i].length→n.2.2.2.2[i].length<f+k→∃ r,Zcb N n (i:Int) kk f s (k:Int)=some r
 | 0,k,s,_,_,c,d=>by omega
 | f+1,k,s,a,b,c,d=>by
  have e:=hb _ (aD hi)
  rw [Zcb.eq_2,Zu hi,oB]
  by_cases hk:k<n.2.2.2.2[i].length
  ·have g:=e.2 _ (aD hk)
   rw [if_pos (dT (by omega)),Zjf]
   by_cases hs:s<10000
   ·rw [decide_eq_true hs,if_pos rfl,Zu hi,oB,Zu hk,oB,Zr (x:=s+_) (by omega),Zr (by omega),wS (by omega)]
    exact Zwn hb hi hib kk hkk f (k+1) _ (by omega) (by omega) (by omega) (by omega)
   ·rw [decide_eq_false hs,if_neg (by decide),wS (by omega)]
    exact hkk s a b
  ·rw [if_neg (dF (by omega)),Zjf,if_neg (by decide),wS (by omega)]
   exact hkk s a b
theorem Zwm {N:Nat} {n:Xa} (hb:∀ t ∈ n.2.2.2.2,t.length≤1048576∧∀ x ∈ t,x.1.2.length≤1048576∧x.2.length≤1048576) (hl:n.2.2.2.2.length≤1048576) (hN:1048577<N):∀ (f i:Nat) (s:Int),0≤s→s≤3000000→i≤n.2.2.2.2.length→n.2.2.2.2.length<f+i→∃ r,Zab N n f s (i:Int)=some r
 | 0,i,s,_,_,c,d=>by omega
 | f+1,i,s,e,g,c,d=>by
  rw [Zab.eq_2]
  by_cases hi:i<n.2.2.2.2.length
  ·rw [if_pos (dT (by omega))]
   have k:=hb _ (aD hi)
   have:=Zwn (N:=N) hb hi (by omega) (Zab N n f) (fun j a b=>Zwm hb hl hN f (i+1) j a b (by omega) (by omega)) N 0 s e g (aT _) (by omega)
   exact this
  ·rw [if_neg (dF (by omega))]
   exact ⟨_,rfl⟩
def Zfo (N:Nat) (ab ac:List Int):Nat→Int→Option Bool
  | 0,_=>none
  | ad+1,aa=>if (decide (aa<(ab.length:Int)))=true then ((Zi ab aa).bind fun ae=>(Zi ac aa).bind fun af=>if (!decide (ae=af))=true then (some false) else ((Zfo N ab ac ad) (i64.wrap (aa+1)))) else (some true)
def Ziq (N:Nat) (aa ab:List Int):Option Bool:=
  if (!decide ((aa.length:Int)=(ab.length:Int)))=true then (some false) else (Zfo N aa ab N 0)
theorem Zte {N ai aj:Nat} {a0 a1:Option Addr} {col:Zd} {w0:World} {ad ae:R2} {r:Bool} (hm:Ziq N ad ae=some r) (h0:Sl rU col w0 a0 ai ad) (h1:Sl rU col w0 a1 aj ae):
    Calls prog 44 #[.slice a0 ad.length ai,.slice a1 ae.length aj] w0 (Wx w0 r):=by
 refine Z6 4 (m:=26) func44 rfl rfl rfl rfl rfl ?_;rw [Ziq.eq_1] at hm;have aa:=St.start col w0;refine go ?_;replace h0:=h0.k0;replace h1:=h1.k0;refine Zm hm (fun hb hm=>go ?_) fun hb hm=>go ?_
 ·cases hm;exact ⟨rfl,rfl,aa.below⟩
 refine Zs [0,1,1000000] (fun n f ak=>∃ ab af ac,ac=n∧Zfo N ad ae ac af=some r∧St w0 (Zf col) ab ak∧[5].map f=[.int .i64 af]) N ⟨_,0,_,rfl,hm,aa,rfl⟩ ?_;clear hm;intro n f ak hI;obtain ⟨ab,af,ac,hn,hm,aa,hs⟩:=hI;subst hn;refine .lL [5] hs ?_
 cases ac with
 | zero=>rw [Zfo.eq_1] at hm;cases hm
 | succ ac=>
  rw [Zfo.eq_2] at hm;refine go ?_;refine Zm hm (fun hb hm=>go ?_) fun hb hm=>go ?_
  ·refine Y7 (col:=ab) (by kernel_rfl) (by kernel_rfl)<|go ?_;obtain ⟨al,ag,hm⟩:=bZ hm;refine qI ag ((h0.ks aa).addr ag)<|qW (fun _ hC=>((h0.ks aa).gr (hC.bl ab)).atInt ag) ?_;refine go ?_;obtain ⟨am,ah,hm⟩:=bZ hm;refine qI ah ((h1.ks aa).addr ah)<|qW (fun _ hC=>((h1.ks aa).gr (hC.bl ab)).atInt ah) ?_;refine go ?_;refine X2 ?_;intro an hC;replace aa:=aa.grow (hC.bl ab);refine Zm hm (fun hb hm=>go ?_) fun hb hm=>go ?_
   ·cases hm;exact ⟨rfl,rfl,aa.below⟩
   exact ⟨ac,by omega,rfl,⟨_,_,_,rfl,hm,aa,rfl⟩⟩
  cases hm;exact ⟨rfl,rfl,aa.below⟩
def Zlb (aa:Bool):Option Bool:=
  some aa
def Zn3 (N:Nat) (aa:R4) (ab:R4):Option Bool:=
  if (decide (aa.1=ab.1))=true then ((Ziq N aa.2 ab.2).bind fun ac=>Zlb ac) else (Zlb false)
theorem Z3q {N aj ak:Nat} {al am:Option Addr} {col:Zd} {w0:World} {ab ac:R4} {r:Bool} (hm:Zn3 N ab ac=some r) (ae:Sl rU col w0 al aj ab.2) (af:Sl rU col w0 am ak ac.2):
    Calls prog 43 #[(.agg #[.bool ab.1,.slice al ab.2.length aj]),(.agg #[.bool ac.1,.slice am ac.2.length ak])] w0 (Wx w0 r):=by
 refine Z6 4 (m:=17) func43 rfl rfl rfl rfl rfl ?_;rw [Zn3.eq_1] at hm;have aa:=St.start col w0;refine go ?_;refine Xl (col:=(Zf col)) 1 rfl ?_;intro a0 a1 au av ad;refine Xl (col:=au) 2 rfl ?_;intro a2 aw an ao ap;refine Qt rfl<|Zl<|Z0 ?_;replace aa:=(aa.grow av).grow ao;replace ad:=ad.gr ao;refine Wp.cutK [1000000] (fun f aq=>∃ ar ag,Zlb ag=some r∧St w0 (Zf col) ar aq∧[4].map f=[.bool ag]) ?_ ?_
 ·intro f aq hJ;obtain ⟨ar,ag,hm,aa,hs⟩:=hJ;rw [Zlb.eq_1] at hm;refine .lL [4] hs<|Wh ?_;cases hm;exact ⟨rfl,rfl,aa.below⟩
 refine Wy<|Z1 ad<|Z1 ap ?_;refine go ?_;refine Xn hm (fun ah hm=>go ?_) fun ah hm=>go ?_
 ·refine Z7 ⟨_,_,rfl⟩ ?_;refine go ?_;refine lW ((ad.atN).nth (q:=1) rfl)<|go ?_;refine Z7 ⟨_,_,rfl⟩ ?_;refine go ?_;refine lW ((ap.atN).nth (q:=1) rfl)<|go ?_;obtain ⟨ax,ay,hm⟩:=bZ hm;refine Zk (Zte ay (ae.k0.ks aa) (af.k0.ks aa)) fun _ az ⟨e',ai⟩=>⟨_,e',?_⟩;replace ai:Zn an aw an az:=.of_below ai;refine lV (.bool ax) (Zw (congrArg Value.bool ah) rfl)<|go ?_;replace aa:=aa.grow ai;exact ⟨rfl,_,_,hm,aa,rfl⟩
 refine lV (.bool false) (Xk (congrArg Value.bool ah) rfl)<|go ?_;exact ⟨rfl,_,_,hm,aa,rfl⟩
def Zlf (aa:Bool):Option Bool:=
  some aa
def Zld (N:Nat) (aa:R1) (ab:R1):Option Bool:=
  (Zn3 N (aa.1.1,aa.1.2) (ab.1.1,ab.1.2)).bind fun ac=>if ac=true then ((Ziq N aa.2 ab.2).bind fun ad=>Zlf ad) else (Zlf false)
theorem Z3v {N ah au ai av:Nat} {aj aw ak ax:Option Addr} {col:Zd} {w0:World} {ab ac:R1} {r:Bool} (hm:Zld N ab ac=some r) (al:Sl rU col w0 aj ah ab.1.2) (am:Sl rU col w0 aw au ab.2) (an:Sl rU col w0 ak ai ac.1.2) (ao:Sl rU col w0 ax av ac.2):
    Calls prog 11 #[(.agg #[.bool ab.1.1,.slice aj ab.1.2.length ah,.slice aw ab.2.length au]),(.agg #[.bool ac.1.1,.slice ak ac.1.2.length ai,.slice ax ac.2.length av])] w0 (Wx w0 r):=by
 refine Z6 4 (m:=17) func11 rfl rfl rfl rfl rfl ?_;rw [Zld.eq_1] at hm;have aa:=St.start col w0;refine go ?_;refine Xl (col:=(Zf col)) 1 rfl ?_;intro a9 ba a2 a3 ad;refine Xl (col:=a2) 2 rfl ?_;intro bb a4 af ay ag;refine Qt rfl<|Zl<|Z0 ?_;replace aa:=(aa.grow a3).grow ay;replace ad:=ad.gr ay;refine Wp.cutK [1000000] (fun f az=>∃ a0 ap,Zlf ap=some r∧St w0 (Zf col) a0 az∧[4].map f=[.bool ap]) ?_ ?_
 ·intro f az hJ;obtain ⟨a0,ap,hm,aa,hs⟩:=hJ;rw [Zlf.eq_1] at hm;refine .lL [4] hs<|Wh ?_;cases hm;exact ⟨rfl,rfl,aa.below⟩
 refine Wy<|Z7 ⟨_,_,rfl⟩ ?_;refine lV (.agg #[.bool ab.1.1,.slice aj ab.1.2.length ah]) (Ym isAgg40 sizeOf40 rfl rfl ((ad.atN).part 0 2 _ rfl))<|Z7 ⟨_,_,rfl⟩ ?_;refine lV (.agg #[.bool ac.1.1,.slice ak ac.1.2.length ai]) (Ym isAgg40 sizeOf40 rfl rfl ((ag.atN).part 0 2 _ rfl)) ?_;obtain ⟨bc,a5,hm⟩:=bZ hm;refine Zk (Z3q a5 (al.k0.ks aa) (an.k0.ks aa)) fun _ a1 ⟨e',ae⟩=>⟨_,e',?_⟩;replace ae:Zn af a4 af a1:=.of_below ae;refine Xq rfl ?_;replace aa:=aa.grow ae;refine Xn hm (fun aq hm=>go ?_) fun aq hm=>go ?_
 ·refine Z7 ⟨_,_,rfl⟩ ?_;refine go ?_;refine lW (((ad.gr ae).atN).nth (q:=2) rfl)<|go ?_;refine Z7 ⟨_,_,rfl⟩ ?_;refine go ?_;refine lW (((ag.gr ae).atN).nth (q:=2) rfl)<|go ?_;obtain ⟨a6,a7,hm⟩:=bZ hm;refine Zk (Zte a7 (am.k0.ks aa) (ao.k0.ks aa)) fun _ a8 ⟨e',ar⟩=>⟨_,e',?_⟩;replace ar:Zn af a1 af a8:=.of_below ar;refine lV (.bool a6) (Zw (congrArg Value.bool aq) rfl)<|go ?_;replace aa:=aa.grow ar;exact ⟨rfl,_,_,hm,aa,rfl⟩
 refine lV (.bool false) (Xk (congrArg Value.bool aq) rfl)<|go ?_;exact ⟨rfl,_,_,hm,aa,rfl⟩
/-! fractions that are the same -/
theorem Z1c {N:Nat} {l:List Int} (hl:l.length≤1099511627776):∀ (f i:Nat),i≤l.length→l.length<f+i→Zfo N l l f (i:Int)=some true
 | 0,i,a,b=>by omega
 | f+1,i,a,b=>by
  rw [Zfo.eq_2]
  by_cases hi:i<l.length
  ·rw [if_pos (dT (by omega)),Zu hi,oB,oB,if_neg (by rw [decide_eq_true rfl];decide),wS (by omega)]
   exact Z1c hl f (i+1) (by omega) (by omega)
  ·rw [if_neg (dF (by omega))]
theorem Z1d {N:Nat} {l:List Int} (hl:l.length≤1099511627776) (hN:1099511627777<N):Ziq N l l=some true:=by
 rw [Ziq,if_neg (by rw [decide_eq_true rfl];decide)]
 exact Z1c hl N 0 (aT _) (by omega)
theorem Z9s {N:Nat} {x:QV} (h:x.1.2.length≤1099511627776∧x.2.length≤1099511627776) (hN:1099511627777<N):Zld N ((x.1.1,x.1.2),x.2) ((x.1.1,x.1.2),x.2)=some true:=by
 rw [Zld,Zn3,if_pos (dT rfl),Z1d h.1 hN,oB,Zlb,oB,if_pos rfl,Z1d h.2 hN,oB,Zlf]
def AnsQ (x:QV×Int):Prop:=x.1.1.2.length≤1099511627776∧x.1.2.length≤1099511627776
theorem Z8a {q:Rat} {K:Nat} (h:qs q≤K) (hK:K≤1099511627776) (e:Int):AnsQ (Z2 q,e):=
 ⟨aY (Nat.le_max_left _ _) (aY h hK),aY (Nat.le_max_right _ _) (aY h hK)⟩
theorem Zur:Y1 prog 3 1 8:=⟨Tryz.t3,_,rfl,rfl,rfl,rfl,rfl⟩
theorem Z6b:Y1 prog 42 3 56:=⟨Tryz.t42,_,rfl,rfl,rfl,rfl,rfl⟩
def Zlm (aa:Bool):Option Bool:=
  some aa
def Zd1 (N:Nat) (ac:Rg) (ad:List Unit):Nat→R2→R2→(List Unit)→Int→Option Bool
  | 0,_,_,_,_=>none
  | ae+1,af,ag,aa,ab=>if (decide (ab<(aa.length:Int)))=true then ((Zi aa ab).bind fun ai=>(some (aa.set (aA ab) ())).bind fun ah=>(Zd1 N ac ad ae) af ag ah (i64.wrap (ab+1))) else (if ac.1=true then (Zlm (decide ((ad.length:Int)=(i64.wrap ((aa.length:Int)+40))))) else (Zlm false))
def Zd0 (N:Nat) (ad aa:List Int) (ab:Rg) (ae:List Unit):Nat→Int→Option Bool
  | 0,_=>none
  | af+1,ac=>if (decide (ac<(aa.length:Int)))=true then ((Zi aa ac).bind fun ag=>if (!decide (ag=(-52)))=true then (some false) else ((Zd0 N ad aa ab ae af) (i64.wrap (ac+1)))) else (Zd1 N ab ae N ad aa (ab.2.map (fun _=>())) 0)
def Zdz (N:Nat) (aa ac:List Int) (ad:Rg) (ae:List Unit):Nat→Int→Option Bool
  | 0,_=>none
  | af+1,ab=>if (decide (ab<(aa.length:Int)))=true then ((Zi aa ab).bind fun ag=>if (!decide (ag=(-51)))=true then (some false) else ((Zdz N aa ac ad ae af) (i64.wrap (ab+1)))) else (Zd0 N aa ac ad ae N 0)
def Zdy (N:Nat) (ab ac:List Int) (ad:Rg):Nat→(List Unit)→Int→Option Bool
  | 0,_,_=>none
  | af+1,aa,ae=>if (decide (ae<40))=true then (Zt ((aa.length+([((false,([]:List Int)),[55])].map (fun _=>())).length) * 56≤140737488355328∧aa.length+([((false,([]:List Int)),[55])].map (fun _=>())).length≤maxLen) ((Zdy N ab ac ad af) (aa++([((false,([]:List Int)),[55])].map (fun _=>()))) (i64.wrap (ae+1)))) else (Zdz N ab ac ad aa N 0)
def Zdx (N:Nat) (ac ad:List Int) (aa:Rg):Nat→R2→Int→Option Bool
  | 0,_,_=>none
  | af+1,ab,ae=>if (decide (ae<40))=true then (Zt ((ab.length+[(-54)].length) * 8≤140737488355328∧ab.length+[(-54)].length≤maxLen) ((Zdx N ac ad aa af) (ab++[(-54)]) (i64.wrap (ae+1)))) else (Zdy N ac ad aa N (aa.2.map (fun _=>())) 0)
def Zdw (N:Nat) (ac aa:List Int) (ad:Rg):Nat→R2→Int→Option Bool
  | 0,_,_=>none
  | af+1,ab,ae=>if (decide (ae<40))=true then (Zt ((ab.length+[(-53)].length) * 8≤140737488355328∧ab.length+[(-53)].length≤maxLen) ((Zdw N ac aa ad af) (ab++[(-53)]) (i64.wrap (ae+1)))) else (Zdx N ac aa ad N aa 0)
def Zdv (N:Nat):Nat→R2→R2→R6→Int→Option Bool
  | 0,_,_,_,_=>none
  | ae+1,ac,aa,ad,ab=>if (decide (ab<(aa.length:Int)))=true then ((Zi aa ab).bind fun ah=>(some (aa.set (aA ab) (-52))).bind fun af=>(Zdv N ae) ac af ad (i64.wrap (ab+1))) else ((Zjd N ad).bind fun ag=>Zdw N ac aa ag N ac 0)
def Zgn (N:Nat):Nat→R2→R2→R6→Int→Option Bool
  | 0,_,_,_,_=>none
  | ae+1,aa,ac,ad,ab=>if (decide (ab<(aa.length:Int)))=true then ((Zi aa ab).bind fun ag=>(some (aa.set (aA ab) (-51))).bind fun af=>(Zgn N ae) af ac ad (i64.wrap (ab+1))) else (Zdv N N aa ac ad 0)
def Zjh (N:Nat) (aa:Rk):Option Bool:=
  Zgn N N aa.1 aa.2.1 aa.2.2 0
theorem Z4h {N dw dx dy:Nat} {dz d0 d1:Option Addr} {col:Zd} {w0:World} {ay:Rk} {r:Bool} (qc0 an ao:Nat) (hm:Zjh N ay=some r) (hd:Tm [qc0,an,ao]=true) (bs:Zc rI 3 qc0 col w0 dz dw ay.1) (bt:Zc rI 3 an col w0 d0 dx ay.2.1) (bu:Zc (rO 45) 42 ao col w0 d1 dy ay.2.2):
    Calls prog 29 #[(.agg #[.slice dz ay.1.length dw,.slice d0 ay.2.1.length dx,.slice d1 ay.2.2.length dy])] w0 (fun e w'=>∃ col',e= .returned ((.bool r))∧Z5 (pS [qc0,an,ao]) col w0 col' w'):=by
 refine Z6 2 (m:=117) func29 rfl rfl rfl rfl rfl ?_;rw [Zjh.eq_1] at hm;have ab:=St.startL (l:=[qc0,an,ao]) rfl col w0;replace bs:=bs.startL (Sr hd 0 rfl) (Sq hd 0 rfl);replace bt:=bt.startL (Sr hd 1 rfl) (Sq hd 1 rfl);replace bu:=bu.startL (Sr hd 2 rfl) (Sq hd 2 rfl);refine go ?_;refine Xl (col:=(Xp [qc0,an,ao] col)) 1 rfl ?_;intro ah e4 e5 b4 aa;refine go ?_;replace ab:=ab.grow b4;refine Zs [] (fun n f a7=>∃ az b5 b6 a8 b7 b8 bv b9 ca bw cb a9,a9=n∧Zgn N a9 a8 bv bw cb=some r∧St w0 (Xp [qc0,an,ao] col) az a7∧Zc rI 3 440 az a7 b5 b6 a8∧Zc rI 3 441 az a7 b7 b8 bv∧Zc (rO 45) 42 442 az a7 b9 ca bw∧Zj 58 1 az a7 ah #[.slice b5 a8.length b6,.slice b7 bv.length b8,.slice b9 bw.length ca]∧[1,3,1000000].map f=[.pointer (some ⟨ah,0,none⟩),.int .i64 cb,enc []]) N ⟨_,_,_,_,_,_,_,_,_,_,0,_,rfl,hm,ab,bs.gr b4,bt.gr b4,bu.gr b4,aa,rfl⟩ ?_;clear hm;intro n f a7 hI;obtain ⟨az,b5,b6,a8,b7,b8,bv,b9,ca,bw,cb,a9,hn,hm,ab,c4,cc,cd,aa,hs⟩:=hI;subst hn;refine .lL [1,3,1000000] hs ?_
 cases a9 with
 | zero=>rw [Zgn.eq_1] at hm;cases hm
 | succ a9=>
  rw [Zgn.eq_2] at hm;refine go ?_;refine Z1 aa ?_;refine go ?_;refine Zm hm (fun hb hm=>go ?_) fun hb hm=>go ?_
  ·refine Z1 aa<|Xr rfl ?_;obtain ⟨e6,c5,hm⟩:=bZ hm;refine lI c5 (c4.addr c5) ?_;obtain ⟨c6,ce,hm⟩:=bZ hm;have ce:c6=a8.set (aA cb) (-51):=(Option.some.inj ce).symm;refine Wa (x1:=(-51)) c4 c5 ?_;intro ee cf ef d2;rw [← ce] at d2;replace aa:=aa.kp cf;replace aa:Zj 58 1 az ee ah #[.slice b5 c6.length b6,.slice b7 bv.length b8,.slice b9 bw.length ca]:=by rw [← (show a8.length=c6.length by rw [ce,nS])];exact aa
   refine go ?_;replace cc:=cc.kp cf;replace cd:=cd.kp cf;replace ab:=ab.kp cf ef;exact ⟨a9,by omega,rfl,⟨_,_,_,_,_,_,_,_,_,_,_,_,rfl,hm,ab,d2,cc,cd,aa,rfl⟩⟩
  refine Zs [] (fun n f ba=>∃ a0 al am ag aj ak ad ae af a1 cg bb,bb=n∧Zdv N bb ag ad a1 cg=some r∧St w0 (Xp [qc0,an,ao] col) a0 ba∧Zc rI 3 440 a0 ba al am ag∧Zc rI 3 441 a0 ba aj ak ad∧Zc (rO 45) 42 442 a0 ba ae af a1∧Zj 58 1 a0 ba ah #[.slice al ag.length am,.slice aj ad.length ak,.slice ae a1.length af]∧[1,4,1000000].map f=[.pointer (some ⟨ah,0,none⟩),.int .i64 cg,enc []]) N ⟨_,_,_,_,_,_,_,_,_,_,0,_,rfl,hm,ab,c4,cc,cd,aa,rfl⟩ ?_;clear hm;intro n f ba hI;obtain ⟨a0,al,am,ag,aj,ak,ad,ae,af,a1,cg,bb,hn,hm,ab,bc,au,ch,aa,hs⟩:=hI;subst hn;refine .lL [1,4,1000000] hs ?_
  cases bb with
  | zero=>rw [Zdv.eq_1] at hm;cases hm
  | succ bb=>
   rw [Zdv.eq_2] at hm;refine go ?_;refine Z1 aa ?_;refine go ?_;refine Zm hm (fun hb hm=>go ?_) fun hb hm=>go ?_
   ·refine Z1 aa<|Xr rfl ?_;obtain ⟨e7,c7,hm⟩:=bZ hm;refine lI c7 (au.addr c7) ?_;obtain ⟨c8,ci,hm⟩:=bZ hm;have ci:c8=ad.set (aA cg) (-52):=(Option.some.inj ci).symm;refine Wa (x1:=(-52)) au c7 ?_;intro eg cj eh d3;rw [← ci] at d3;replace aa:=aa.kp cj;replace aa:Zj 58 1 a0 eg ah #[.slice al ag.length am,.slice aj c8.length ak,.slice ae a1.length af]:=by rw [← (show ad.length=c8.length by rw [ci,nS])];exact aa
    refine go ?_;replace bc:=bc.kp cj;replace ch:=ch.kp cj;replace ab:=ab.kp cj eh;exact ⟨bb,by omega,rfl,⟨_,_,_,_,_,_,_,_,_,_,_,_,rfl,hm,ab,bc,d3,ch,aa,rfl⟩⟩
   refine Z1 aa ?_;obtain ⟨ac,ei,hm⟩:=bZ hm;refine Zk (Z4d 442 ei rfl ch) fun _ c9 ⟨da,e',ck,ej,d4⟩=>⟨_,e',?_⟩;refine .ld (d:=38) (v:=(.slice ae ac.2.length af)) (congrArg (fun n=>Value.slice ae n af) (show a1.length=ac.2.length from d4.symm)) ?_;replace aa:=aa.kpp ck;replace aa:Zj 58 1 da c9 ah #[.slice al ag.length am,.slice aj ad.length ak,.slice ae ac.2.length af]:=by rw [← (show a1.length=ac.2.length from d4.symm)];exact aa
   have aq:=ej.weakO (Zem.any rfl);refine .ld (d:=38) (v:=(.slice ae ((ac.2.map (fun _=>())).length) af)) (congrArg (fun n=>Value.slice ae n af) (show ac.2.length=(ac.2.map (fun _=>())).length by rw [aE])) ?_;replace aa:Zj 58 1 da c9 ah #[.slice al ag.length am,.slice aj ad.length ak,(.slice ae ((ac.2.map (fun _=>())).length) af)]:=by rw [← (show ac.2.length=(ac.2.map (fun _=>())).length by rw [aE])];exact aa
   replace aq:Zc (Za.any 2) 42 442 da c9 ae af (ac.2.map (fun _=>())):=aq;refine go ?_;refine Z1 aa ?_;refine go ?_;refine Z1 aa ?_;refine go ?_;refine Z1 aa ?_;refine go ?_;have ek:=(bc.kpp ck).ex;replace au:=au.kpp ck;replace ab:=ab.kpp ck;refine Zs [] (fun n f bd=>∃ a2 db dc cl dd be,be=n∧Zdw N ag ad ac be cl dd=some r∧St w0 (Xp [qc0,an,ao] col) a2 bd∧Ex rI 3 440 a2 bd al am ag db dc cl∧Zc rI 3 441 a2 bd aj ak ad∧Zc (Za.any 2) 42 442 a2 bd ae af (ac.2.map (fun _=>()))∧Zj 58 1 a2 bd ah #[.slice al ag.length am,.slice aj ad.length ak,(.slice ae ((ac.2.map (fun _=>())).length) af)]∧[1,5,6,7,8,9,1000000].map f=[.pointer (some ⟨ah,0,none⟩),.bool ac.1,.slice db cl.length dc,.slice aj ad.length ak,.slice ae ((ac.2.map (fun _=>())).length) af,.int .i64 dd,enc []]) N ⟨_,_,_,_,0,_,rfl,hm,ab,ek,au,aq,aa,rfl⟩ ?_;clear hm;intro n f bd hI;obtain ⟨a2,db,dc,cl,dd,be,hn,hm,ab,cn,au,aq,aa,hs⟩:=hI;subst hn;refine .lL [1,5,6,7,8,9,1000000] hs ?_
   cases be with
   | zero=>rw [Zdw.eq_1] at hm;cases hm
   | succ be=>
    rw [Zdw.eq_2] at hm;refine go ?_;refine Zm hm (fun hb hm=>go ?_) fun hb hm=>go ?_
    ·refine Wj (col:=a2) [(-53)] 2 ?_;intro e8 el em bx en;obtain ⟨d5,hm⟩:=Zv hm;replace cn:=cn.gr bx;refine V8 (col:=em) (w:=el) (r:=rI) (c:=440) (c2:=440) cn (en.srcN (NB.int (k:=.i64))) rfl underlying36 Zur rfl rfl rfl d5.1 d5.2 (by decide) ?_;intro e9 fa fb fc co eo;refine go ?_;replace au:=(au.gr bx).kpp co;replace aq:=(aq.gr bx).kpp co;replace aa:=(aa.gr bx).kpp co;replace ab:=(ab.grow bx).kpp co;exact ⟨be,by omega,rfl,⟨_,_,_,_,_,_,rfl,hm,ab,eo,au,aq,aa,rfl⟩⟩
    have ai:=cn.old;refine go ?_;have ep:=au.ex;refine Zs [] (fun n f bf=>∃ a3 de df cp dg bg,bg=n∧Zdx N ag ad ac bg cp dg=some r∧St w0 (Xp [qc0,an,ao] col) a3 bf∧Zc rI 3 440 a3 bf al am ag∧Ex rI 3 441 a3 bf aj ak ad de df cp∧Zc (Za.any 2) 42 442 a3 bf ae af (ac.2.map (fun _=>()))∧Zj 58 1 a3 bf ah #[.slice al ag.length am,.slice aj ad.length ak,(.slice ae ((ac.2.map (fun _=>())).length) af)]∧[1,10,5,7,8,1000000].map f=[.pointer (some ⟨ah,0,none⟩),.int .i64 dg,.bool ac.1,.slice de cp.length df,.slice ae ((ac.2.map (fun _=>())).length) af,enc []]) N ⟨_,_,_,_,0,_,rfl,hm,ab,ai,ep,aq,aa,rfl⟩ ?_;clear hm;intro n f bf hI;obtain ⟨a3,de,df,cp,dg,bg,hn,hm,ab,ai,cq,aq,aa,hs⟩:=hI;subst hn;refine .lL [1,10,5,7,8,1000000] hs ?_
    cases bg with
    | zero=>rw [Zdx.eq_1] at hm;cases hm
    | succ bg=>
     rw [Zdx.eq_2] at hm;refine go ?_;refine Zm hm (fun hb hm=>go ?_) fun hb hm=>go ?_
     ·refine Wj (col:=a3) [(-54)] 3 ?_;intro fd eq er bz es;obtain ⟨d6,hm⟩:=Zv hm;replace cq:=cq.gr bz;refine V8 (col:=er) (w:=eq) (r:=rI) (c:=441) (c2:=441) cq (es.srcN (NB.int (k:=.i64))) rfl underlying36 Zur rfl rfl rfl d6.1 d6.2 (by decide) ?_;intro fe ff fg fh cr et;refine go ?_;replace ai:=(ai.gr bz).kpp cr;replace aq:=(aq.gr bz).kpp cr;replace aa:=(aa.gr bz).kpp cr;replace ab:=(ab.grow bz).kpp cr;exact ⟨bg,by omega,rfl,⟨_,_,_,_,_,_,rfl,hm,ab,ai,et,aq,aa,rfl⟩⟩
     have ap:=cq.old;refine go ?_;have eu:=aq.ex;refine Zs [] (fun n f bh=>∃ a4 aw ax ar dh bi,bi=n∧Zdy N ag ad ac bi ar dh=some r∧St w0 (Xp [qc0,an,ao] col) a4 bh∧Zc rI 3 440 a4 bh al am ag∧Zc rI 3 441 a4 bh aj ak ad∧Ex (Za.any 2) 42 442 a4 bh ae af (ac.2.map (fun _=>())) aw ax ar∧Zj 58 1 a4 bh ah #[.slice al ag.length am,.slice aj ad.length ak,(.slice ae ((ac.2.map (fun _=>())).length) af)]∧[1,11,5,8,1000000].map f=[.pointer (some ⟨ah,0,none⟩),.int .i64 dh,.bool ac.1,.slice aw ar.length ax,enc []]) N ⟨_,_,_,_,0,_,rfl,hm,ab,ai,ap,eu,aa,rfl⟩ ?_;clear hm;intro n f bh hI;obtain ⟨a4,aw,ax,ar,dh,bi,hn,hm,ab,ai,ap,av,aa,hs⟩:=hI;subst hn;refine .lL [1,11,5,8,1000000] hs ?_
     cases bi with
     | zero=>rw [Zdy.eq_1] at hm;cases hm
     | succ bi=>
      rw [Zdy.eq_2] at hm;refine go ?_;refine Zm hm (fun hb hm=>go ?_) fun hb hm=>go ?_
      ·refine Wj (col:=a4) [55] 4 ?_;intro di fi ew b0 ey;refine lV (.agg #[.bool false,(nI),.slice di ([55].length) 1]) (Wl (l:=[_,_]) (qs:=[(0,2),(2,1)]) underlying42 zeroValue42 ⟨rfl,sizeOf40,rfl,sizeOf38,trivial⟩ rfl)<|Uo (col:=ew) (r:=(rO 45)) (xs:=[((false,([]:List Int)),[55])]) [(.agg #[.bool false,(nI),.slice di ([55].length) 1])] 4 (W0.cons1 (cs:=[.bool false,(nI),.slice di ([55].length) 1]) (X0.joinL (Tg (U0 false) Zzo) ey.has) Rows.nil0) ?_;intro dj d7 d8 b1 ez;have dk:=ez.weakO (Zem.any rfl);refine .ld (d:=67) (v:=(.slice dj (([((false,([]:List Int)),[55])].map (fun _=>())).length) 1)) (congrArg (fun n=>Value.slice dj n 1) (aE ..).symm) ?_;replace dk:Zc (Za.any 2) 42 4 d8 d7 dj 1 ([((false,([]:List Int)),[55])].map (fun _=>())):=dk;obtain ⟨d9,hm⟩:=Zv hm;replace av:=(av.gr b0).gr b1;refine V8 (col:=d8) (w:=d7) (r:=(Za.any 2)) (c:=442) (c2:=442) av (dk.srcN NB.any) rfl underlying29 Z6b rfl rfl rfl d9.1 d9.2 (by decide) ?_;intro fj fk fl fm ct e0;refine go ?_;replace ai:=((ai.gr b0).gr b1).kpp ct;replace ap:=((ap.gr b0).gr b1).kpp ct;replace aa:=((aa.gr b0).gr b1).kpp ct;replace ab:=((ab.grow b0).grow b1).kpp ct;exact ⟨bi,by omega,rfl,⟨_,_,_,_,_,_,rfl,hm,ab,ai,ap,e0,aa,rfl⟩⟩
      refine Zs [] (fun n f bj=>∃ bk dl bm,bm=n∧Zdz N ag ad ac ar bm dl=some r∧St w0 (Xp [qc0,an,ao] col) bk bj∧Zc rI 3 440 bk bj al am ag∧Zc rI 3 441 bk bj aj ak ad∧Ex (Za.any 2) 42 442 bk bj ae af (ac.2.map (fun _=>())) aw ax ar∧Zj 58 1 bk bj ah #[.slice al ag.length am,.slice aj ad.length ak,(.slice ae ((ac.2.map (fun _=>())).length) af)]∧[1,12,5,8,1000000].map f=[.pointer (some ⟨ah,0,none⟩),.int .i64 dl,.bool ac.1,.slice aw ar.length ax,enc []]) N ⟨_,0,_,rfl,hm,ab,ai,ap,av,aa,rfl⟩ ?_;clear hm;intro n f bj hI;obtain ⟨bk,dl,bm,hn,hm,ab,ai,ap,av,aa,hs⟩:=hI;subst hn;refine .lL [1,12,5,8,1000000] hs ?_
      cases bm with
      | zero=>rw [Zdz.eq_1] at hm;cases hm
      | succ bm=>
       rw [Zdz.eq_2] at hm;refine go ?_;refine Z1 aa ?_;refine go ?_;refine Zm hm (fun hb hm=>go ?_) fun hb hm=>go ?_
       ·refine Z1 aa<|Xr rfl ?_;obtain ⟨fn,dm,hm⟩:=bZ hm;refine lI dm (ai.addr dm)<|lW (ai.atInt dm) ?_;refine go ?_;refine Zm hm (fun hb hm=>go ?_) fun hb hm=>go ?_
        ·cases hm;exact ⟨rfl,_,rfl,ab.finL rfl (cm [])⟩
        exact ⟨bm,by omega,rfl,⟨_,_,_,rfl,hm,ab,ai,ap,av,aa,rfl⟩⟩
       refine Zs [] (fun n f bn=>∃ bo dn bp,bp=n∧Zd0 N ag ad ac ar bp dn=some r∧St w0 (Xp [qc0,an,ao] col) bo bn∧Zc rI 3 440 bo bn al am ag∧Zc rI 3 441 bo bn aj ak ad∧Ex (Za.any 2) 42 442 bo bn ae af (ac.2.map (fun _=>())) aw ax ar∧Zj 58 1 bo bn ah #[.slice al ag.length am,.slice aj ad.length ak,(.slice ae ((ac.2.map (fun _=>())).length) af)]∧[1,13,5,8,1000000].map f=[.pointer (some ⟨ah,0,none⟩),.int .i64 dn,.bool ac.1,.slice aw ar.length ax,enc []]) N ⟨_,0,_,rfl,hm,ab,ai,ap,av,aa,rfl⟩ ?_;clear hm;intro n f bn hI;obtain ⟨bo,dn,bp,hn,hm,ab,ai,ap,av,aa,hs⟩:=hI;subst hn;refine .lL [1,13,5,8,1000000] hs ?_
       cases bp with
       | zero=>rw [Zd0.eq_1] at hm;cases hm
       | succ bp=>
        rw [Zd0.eq_2] at hm;refine go ?_;refine Z1 aa ?_;refine go ?_;refine Zm hm (fun hb hm=>go ?_) fun hb hm=>go ?_
        ·refine Z1 aa<|Xr rfl ?_;obtain ⟨fp,dp,hm⟩:=bZ hm;refine lI dp (ap.addr dp)<|lW (ap.atInt dp) ?_;refine go ?_;refine Zm hm (fun hb hm=>go ?_) fun hb hm=>go ?_
         ·cases hm;exact ⟨rfl,_,rfl,ab.finL rfl (cm [])⟩
         exact ⟨bp,by omega,rfl,⟨_,_,_,rfl,hm,ab,ai,ap,av,aa,rfl⟩⟩
        have e1:=av.old;refine Zs [] (fun n f bq=>∃ a5 cu cv b2 cw cx b3 cy cz a6 c0 br,br=n∧Zd1 N ac ar br b2 b3 a6 c0=some r∧St w0 (Xp [qc0,an,ao] col) a5 bq∧Zc rI 3 440 a5 bq cu cv b2∧Zc rI 3 441 a5 bq cw cx b3∧Zc (Za.any 2) 42 442 a5 bq cy cz a6∧Zj 58 1 a5 bq ah #[.slice cu b2.length cv,.slice cw b3.length cx,.slice cy a6.length cz]∧[1,14,5,8,1000000].map f=[.pointer (some ⟨ah,0,none⟩),.int .i64 c0,.bool ac.1,.slice aw ar.length ax,enc []]) N ⟨_,_,_,_,_,_,_,_,_,_,0,_,rfl,hm,ab,ai,ap,e1,aa,rfl⟩ ?_;clear hm;intro n f bq hI;obtain ⟨a5,cu,cv,b2,cw,cx,b3,cy,cz,a6,c0,br,hn,hm,ab,dq,dr,ea,aa,hs⟩:=hI;subst hn;refine .lL [1,14,5,8,1000000] hs ?_
        cases br with
        | zero=>rw [Zd1.eq_1] at hm;cases hm
        | succ br=>
         rw [Zd1.eq_2] at hm;refine go ?_;refine Z1 aa ?_;refine go ?_;refine Zm hm (fun hb hm=>go ?_) fun hb hm=>?_
         ·refine Z1 aa<|Xr rfl<|lV (.agg #[.bool false,(nI),(nI)]) (Wl (l:=[_,_]) (qs:=[(0,2),(2,1)]) underlying42 zeroValue42 ⟨rfl,sizeOf40,rfl,sizeOf38,trivial⟩ rfl) ?_;obtain ⟨fq,ds,hm⟩:=bZ hm;refine lI ds (ea.addr ds) ?_;obtain ⟨dt,c1,hm⟩:=bZ hm;have c1:dt=a6.set (aA c0) ():=(Option.some.inj c1).symm;refine Znm (x1:=()) (v:=(.agg #[.bool false,(nI),(nI)])) ea ds rfl sizeOf42 (Z9c (cs:=[.bool false,(nI),(nI)]) rfl rfl) rfl rfl (by decide) ?_;intro e2 c3 e3 eb;rw [← c1] at eb;replace aa:=aa.kp c3;replace aa:Zj 58 1 a5 e2 ah #[.slice cu b2.length cv,.slice cw b3.length cx,.slice cy dt.length cz]:=by rw [← (show a6.length=dt.length by rw [c1,nS])];exact aa
          refine go ?_;replace ab:=ab.kp c3 e3;exact ⟨br,by omega,rfl,⟨_,_,_,_,_,_,_,_,_,_,_,_,rfl,hm,ab,dq.kp c3,dr.kp c3,eb,aa,rfl⟩⟩
         refine Zjz (Zhh ?_);refine Z0 ?_;refine Wp.cutK [] (fun f ec=>∃ ed du,Zlm du=some r∧St w0 (Xp [qc0,an,ao] col) ed ec∧[2,1000000].map f=[.bool du,enc []]) ?_ ?_
         ·intro f ec hJ;obtain ⟨ed,du,hm,ab,hs⟩:=hJ;rw [Zlm.eq_1] at hm;refine .lL [2,1000000] hs<|Wh ?_;cases hm;exact ⟨rfl,_,rfl,ab.finL rfl (cm [])⟩
         refine go ?_;refine Xn hm (fun dv hm=>go ?_) fun dv hm=>go ?_
         ·refine Z7 ⟨_,_,rfl⟩ ?_;refine go ?_;refine lW ((aa.atN).nth (q:=2) rfl)<|go ?_;refine lV (.bool (decide ((ar.length:Int)=(i64.wrap ((a6.length:Int)+40))))) (Zw (congrArg Value.bool dv) rfl)<|go ?_;exact ⟨rfl,_,_,hm,ab,rfl⟩
         refine lV (.bool false) (Xk (congrArg Value.bool dv) rfl)<|go ?_;exact ⟨rfl,_,_,hm,ab,rfl⟩
def Zfu (N:Nat) (ab:R6) (ae:R6):Nat→Int→Option Bool
  | 0,_=>none
  | af+1,aa=>if (decide (aa<(ab.length:Int)))=true then ((Zi ab aa).bind fun ac=>(Zi ae aa).bind fun ad=>(Zld N ((ac.1.1,ac.1.2),ac.2) ((ad.1.1,ad.1.2),ad.2)).bind fun ag=>if (!ag)=true then (some false) else ((Zfu N ab ae af) (i64.wrap (aa+1)))) else (some true)
def Zle (N:Nat) (aa:R6) (ab:R6):Option Bool:=
  if (!decide ((aa.length:Int)=(ab.length:Int)))=true then (some false) else (Zfu N aa ab N 0)
theorem Z3w {N ak al:Nat} {a0 a1:Option Addr} {col:Zd} {w0:World} {ad ae:R6} {r:Bool} (hm:Zle N ad ae=some r) (h0:Sl rQ col w0 a0 ak ad) (h1:Sl rQ col w0 a1 al ae):
    Calls prog 75 #[.slice a0 ad.length ak,.slice a1 ae.length al] w0 (Wx w0 r):=by
 refine Z6 4 (m:=29) func75 rfl rfl rfl rfl rfl ?_;rw [Zle.eq_1] at hm;have aa:=St.start col w0;refine go ?_;replace h0:=h0.k0;replace h1:=h1.k0;refine Zm hm (fun hb hm=>go ?_) fun hb hm=>go ?_
 ·cases hm;exact ⟨rfl,rfl,aa.below⟩
 refine Zs [0,1,1000000] (fun n f am=>∃ ab af ac,ac=n∧Zfu N ad ae ac af=some r∧St w0 (Zf col) ab am∧[5].map f=[.int .i64 af]) N ⟨_,0,_,rfl,hm,aa,rfl⟩ ?_;clear hm;intro n f am hI;obtain ⟨ab,af,ac,hn,hm,aa,hs⟩:=hI;subst hn;refine .lL [5] hs ?_
 cases ac with
 | zero=>rw [Zfu.eq_1] at hm;cases hm
 | succ ac=>
  rw [Zfu.eq_2] at hm;refine go ?_;refine Zm hm (fun hb hm=>go ?_) fun hb hm=>go ?_
  ·refine Y7 (col:=ab) (by kernel_rfl) (by kernel_rfl)<|go ?_;obtain ⟨ag,ah,hm⟩:=bZ hm;refine qI ah ((h0.ks aa).addr ah) ?_;obtain ⟨_,an,ao⟩:=(h0.ks aa).atN ah;obtain ⟨_,_,rfl,ap,aq⟩:=Yb an;obtain ⟨_,_,rfl,ar,au⟩:=Yb ap;obtain ⟨rfl,_⟩:=ar;obtain ⟨⟨av,aw,rfl,ax⟩,_⟩:=au;obtain ⟨⟨ay,az,rfl,a2⟩,_⟩:=aq;refine qv (v:=(.agg #[.bool ag.1.1,.slice av ag.1.2.length aw,.slice ay ag.2.length az])) rfl (fun _ hC=>Ym isAgg42 sizeOf42 rfl rfl (ao.gr (hC.bl ab))) ?_;refine go ?_;obtain ⟨ai,aj,hm⟩:=bZ hm;refine qI aj ((h1.ks aa).addr aj) ?_;obtain ⟨_,a3,a4⟩:=(h1.ks aa).atN aj;obtain ⟨_,_,rfl,a5,a6⟩:=Yb a3;obtain ⟨_,_,rfl,a7,a8⟩:=Yb a5;obtain ⟨rfl,_⟩:=a7;obtain ⟨⟨a9,ba,rfl,bb⟩,_⟩:=a8;obtain ⟨⟨bc,bd,rfl,be⟩,_⟩:=a6;refine qv (v:=(.agg #[.bool ai.1.1,.slice a9 ai.1.2.length ba,.slice bc ai.2.length bd])) rfl (fun _ hC=>Ym isAgg42 sizeOf42 rfl rfl (a4.gr (hC.bl ab))) ?_;obtain ⟨bf,bg,hm⟩:=bZ hm;refine qc (v:=(.bool bf)) rfl (fun _ hC=>⟨_,_,Zce call11 rfl rfl,(Z3v bg (ax.gr (hC.bl ab)) (a2.gr (hC.bl ab)) (bb.gr (hC.bl ab)) (be.gr (hC.bl ab)):).mono fun _ _ h=>⟨h.1,hC.trans (.of_below h.2)⟩⟩) ?_;refine go ?_;refine X2 ?_;intro bh hC;refine go ?_;replace aa:=aa.grow (hC.bl ab);refine Zm hm (fun hb hm=>go ?_) fun hb hm=>go ?_
   ·cases hm;exact ⟨rfl,rfl,aa.below⟩
   exact ⟨ac,by omega,rfl,⟨_,_,_,rfl,hm,aa,rfl⟩⟩
  cases hm;exact ⟨rfl,rfl,aa.below⟩
def Zjj (aa:Bool):Option Bool:=
  some aa
def Zac (N:Nat) (aa:Rk) (ab:Rk):Option Bool:=
  (Zcc N aa.1 ab.1).bind fun ac=>if ac=true then ((Zcc N aa.2.1 ab.2.1).bind fun ad=>if ad=true then ((Zle N aa.2.2 ab.2.2).bind fun ae=>Zjj ae) else (Zjj false)) else (Zjj false)
theorem Zkb {N au av aw ax ay az:Nat} {a0 a1 a2 a3 a4 a5:Option Addr} {col:Zd} {w0:World} {ac ad:Rk} {r:Bool} (hm:Zac N ac ad=some r) (ai:Sl rI col w0 a0 au ac.1) (aj:Sl rI col w0 a1 av ac.2.1) (ak:Sl rQ col w0 a2 aw ac.2.2) (al:Sl rI col w0 a3 ax ad.1) (am:Sl rI col w0 a4 ay ad.2.1) (an:Sl rQ col w0 a5 az ad.2.2):
    Calls prog 27 #[(.agg #[.slice a0 ac.1.length au,.slice a1 ac.2.1.length av,.slice a2 ac.2.2.length aw]),(.agg #[.slice a3 ad.1.length ax,.slice a4 ad.2.1.length ay,.slice a5 ad.2.2.length az])] w0 (Wx w0 r):=by
 refine Z6 4 (m:=24) func27 rfl rfl rfl rfl rfl ?_;rw [Zac.eq_1] at hm;have aa:=St.start col w0;refine go ?_;refine Xl (col:=(Zf col)) 1 rfl ?_;intro bk bm bb bc ab;refine Xl (col:=bb) 2 rfl ?_;intro bn bd af a6 ae;refine Qt rfl<|Zl<|Z0 ?_;replace aa:=(aa.grow bc).grow a6;replace ab:=ab.gr a6;refine Wp.cutK [1000000] (fun f a7=>∃ a8 ao,Zjj ao=some r∧St w0 (Zf col) a8 a7∧[4].map f=[.bool ao]) ?_ ?_
 ·intro f a7 hJ;obtain ⟨a8,ao,hm,aa,hs⟩:=hJ;rw [Zjj.eq_1] at hm;refine .lL [4] hs<|Wh ?_;cases hm;exact ⟨rfl,rfl,aa.below⟩
 refine Wy<|Z1 ab<|Z1 ae ?_;obtain ⟨bo,be,hm⟩:=bZ hm;refine Zk (Zkc be (ai.k0.ks aa) (al.k0.ks aa)) fun _ a9 ⟨e',ag⟩=>⟨_,e',?_⟩;replace ag:Zn af bd af a9:=.of_below ag;refine Xq rfl ?_;replace ab:=ab.gr ag;replace ae:=ae.gr ag;replace aa:=aa.grow ag;refine Xn hm (fun ap hm=>go ?_) fun ap hm=>go ?_
 ·refine Z7 ⟨_,_,rfl⟩ ?_;refine go ?_;refine lW ((ab.atN).nth (q:=1) rfl)<|go ?_;refine Z7 ⟨_,_,rfl⟩ ?_;refine go ?_;refine lW ((ae.atN).nth (q:=1) rfl)<|go ?_;obtain ⟨bf,bg,hm⟩:=bZ hm;refine Zk (Zkc bg (aj.k0.ks aa) (am.k0.ks aa)) fun _ ba ⟨e',ah⟩=>⟨_,e',?_⟩;replace ah:Zn af a9 af ba:=.of_below ah;refine lV (.bool bf) (Zw (congrArg Value.bool ap) rfl)<|Xq rfl ?_;replace aa:=aa.grow ah;refine Xn hm (fun aq hm=>go ?_) fun aq hm=>go ?_
  ·refine Z7 ⟨_,_,rfl⟩ ?_;refine go ?_;refine lW (((ab.gr ah).atN).nth (q:=2) rfl)<|go ?_;refine Z7 ⟨_,_,rfl⟩ ?_;refine go ?_;refine lW (((ae.gr ah).atN).nth (q:=2) rfl)<|go ?_;obtain ⟨bh,bi,hm⟩:=bZ hm;refine Zk (Z3w bi (ak.k0.ks aa) (an.k0.ks aa)) fun _ bj ⟨e',ar⟩=>⟨_,e',?_⟩;replace ar:Zn af ba af bj:=.of_below ar;refine lV (.bool bh) (Zw (congrArg Value.bool aq) rfl)<|go ?_;replace aa:=aa.grow ar;exact ⟨rfl,_,_,hm,aa,rfl⟩
  refine lV (.bool false) (Xk (congrArg Value.bool aq) rfl)<|go ?_;exact ⟨rfl,_,_,hm,aa,rfl⟩
 refine lV (.bool false) (Xk (congrArg Value.bool ap) rfl)<|Xq rfl<|lP 17 rfl rfl<|lP 17 rfl rfl<|lP 17 rfl rfl<|lP 17 rfl rfl<|lP 17 rfl rfl<|lV (.bool false) (Xk rfl rfl)<|go ?_;exact ⟨rfl,_,_,hm,aa,rfl⟩
/-! a list written full,in its place -/
theorem Zxj {N:Nat} {s z:List Int} {c:List QV} (hs:s.length≤1048576):∀ (f i:Nat) (l:List Int),l.length=s.length→l.take i=aC i (-51)→i≤s.length→s.length<f+i→Zgn N f l z c (i:Int)=Zdv N N (aC s.length (-51)) z c 0
 | 0,i,l,_,_,g,j=>by omega
 | f+1,i,l,d,e,g,j=>by
  rw [Zgn.eq_2]
  by_cases hi:i<l.length
  ·rw [if_pos (dT (by omega)),Zu hi,oB,oB,aB,wS (by omega)]
   exact Zxj hs f (i+1) _ (by rw [nS,d]) (Zpi hi e) (by omega) (by omega)
  ·rw [if_neg (dF (by omega)),Zmu e (by omega),d]
theorem Zxk {N:Nat} {a z:List Int} {c:List QV} (hs:z.length≤1048576):∀ (f i:Nat) (l:List Int),l.length=z.length→l.take i=aC i (-52)→i≤z.length→z.length<f+i→Zdv N f a l c (i:Int)=(Zjd N c).bind fun r=>Zdw N a (aC z.length (-52)) r N a 0
 | 0,i,l,_,_,g,j=>by omega
 | f+1,i,l,d,e,g,j=>by
  rw [Zdv.eq_2]
  by_cases hi:i<l.length
  ·rw [if_pos (dT (by omega)),Zu hi,oB,oB,aB,wS (by omega)]
   exact Zxk hs f (i+1) _ (by rw [nS,d]) (Zpi hi e) (by omega) (by omega)
  ·rw [if_neg (dF (by omega)),Zmu e (by omega),d]
section
variable {N:Nat} {a b:List Int} {r:Bool×List QV}
theorem Zxl:∀ (f k:Nat) (l:List Int),k≤40→40<f+k→l.length≤1048576+k→Zdw N a b r f l (k:Int)=Zdx N a b r N b 0
 | 0,k,l,c,d,_=>by omega
 | f+1,k,l,c,d,e=>by
  rw [Zdw.eq_2]
  by_cases hk:k<40
  ·rw [if_pos (dT (by omega)),Zx (by simp only [aH,maxLen];omega),wS (by omega)]
   exact Zxl f (k+1) _ (by omega) (by omega) (by rw [nA,aH];omega)
  ·rw [if_neg (dF (by omega))]
theorem Zxm:∀ (f k:Nat) (l:List Int),k≤40→40<f+k→l.length≤1048576+k→Zdx N a b r f l (k:Int)=Zdy N a b r N (r.2.map fun _=>()) 0
 | 0,k,l,c,d,_=>by omega
 | f+1,k,l,c,d,e=>by
  rw [Zdx.eq_2]
  by_cases hk:k<40
  ·rw [if_pos (dT (by omega)),Zx (by simp only [aH,maxLen];omega),wS (by omega)]
   exact Zxm f (k+1) _ (by omega) (by omega) (by rw [nA,aH];omega)
  ·rw [if_neg (dF (by omega))]
theorem Zxn {c:Nat} (hc:c≤1048576):∀ (f k:Nat) (l:List Unit),k≤40→40<f+k→l.length=c+k→∃ l':List Unit,l'.length=c+40∧Zdy N a b r f l (k:Int)=Zdz N a b r l' N 0
 | 0,k,l,d,e,_=>by omega
 | f+1,k,l,d,e,g=>by
  rw [Zdy.eq_2]
  by_cases hk:k<40
  ·rw [if_pos (dT (by omega)),Zx (by simp only [aE,aH,maxLen];omega),wS (by omega)]
   exact Zxn hc f (k+1) _ (by omega) (by omega) (by rw [nA,aE,aH];omega)
  ·rw [if_neg (dF (by omega))]
   exact ⟨l,by omega,rfl⟩
theorem Zxq {u:List Unit} {c:Nat} (hc:c≤1048576) (hu:u.length=c+40) (hr:r.1=true):∀ (f i:Nat) (l:List Unit),l.length=c→i≤c→c<f+i→Zd1 N r u f a b l (i:Int)=some true
 | 0,i,l,_,d,e=>by omega
 | f+1,i,l,g,d,e=>by
  rw [Zd1.eq_2]
  by_cases hi:i<l.length
  ·rw [if_pos (dT (by omega)),Zu hi,oB,oB,wS (by omega)]
   exact Zxq hc hu hr f (i+1) _ (by rw [nS,g]) (by omega) (by omega)
  ·rw [if_neg (dF (by omega)),hr,if_pos rfl,Zlm,Zr (by omega),decide_eq_true (by omega)]
theorem Zxp {u:List Unit} {c:Nat} (hb:b=aC c (-52)) (hc:c≤1048576):∀ (f i:Nat),i≤c→c<f+i→Zd0 N a b r u f (i:Int)=Zd1 N r u N a b (r.2.map fun _=>()) 0
 | 0,i,d,g=>by omega
 | f+1,i,d,g=>by
  have j:b.length=c:=by rw [hb,aN]
  rw [Zd0.eq_2]
  by_cases hi:i<b.length
  ·have e:b[i]= -52:=by subst hb;rw [eA]
   rw [if_pos (dT (by omega)),Zu hi,e,oB,if_neg (by decide),wS (by omega)]
   exact Zxp hb hc f (i+1) (by omega) (by omega)
  ·rw [if_neg (dF (by omega))]
theorem Zxo {u:List Unit} {c:Nat} (hb:a=aC c (-51)) (hc:c≤1048576):∀ (f i:Nat),i≤c→c<f+i→Zdz N a b r u f (i:Int)=Zd0 N a b r u N 0
 | 0,i,d,g=>by omega
 | f+1,i,d,g=>by
  have j:a.length=c:=by rw [hb,aN]
  rw [Zdz.eq_2]
  by_cases hi:i<a.length
  ·have e:a[i]= -51:=by subst hb;rw [eA]
   rw [if_pos (dT (by omega)),Zu hi,e,oB,if_neg (by decide),wS (by omega)]
   exact Zxo hb hc f (i+1) (by omega) (by omega)
  ·rw [if_neg (dF (by omega))]
end
/-! tables -/
def Zj1 (x:List Int×List Int×List QV):Prop:=x.1.length≤1048576∧x.2.1.length≤1048576∧x.2.2.length≤1048576∧∀ q ∈ x.2.2,q.1.2.length≤1099511627776∧q.2.length≤1099511627776
theorem Z8g {N:Nat} {x:List Int×List Int×List QV} (hx:Zj1 x) (hN:4611686018427387903<N):Zjh N x=some true:=by
 obtain ⟨e,f,d,i⟩:=hx
 have j:=Z6s (N:=N) (by omega) d i
 have k:=Zxj (N:=N) (z:=x.2.1) (c:=x.2.2) e N 0 x.1 rfl rfl (aT _) (by omega)
 have l:=Zxk (N:=N) (a:=aC x.1.length (-51)) (c:=x.2.2) f N 0 x.2.1 rfl rfl (aT _) (by omega)
 have g:((Ww 1000 x.2.2).map fun _=>()).length=x.2.2.length:=by rw [aE,Zag]
 have m:=Zxl (N:=N) (a:=aC x.1.length (-51)) (b:=aC x.2.1.length (-52)) (r:=(true,Ww 1000 x.2.2)) N 0 (aC x.1.length (-51)) (by omega) (by omega) (by rw [aN];omega)
 have n:=Zxm (N:=N) (a:=aC x.1.length (-51)) (b:=aC x.2.1.length (-52)) (r:=(true,Ww 1000 x.2.2)) N 0 (aC x.2.1.length (-52)) (by omega) (by omega) (by rw [aN];omega)
 obtain ⟨u,o,p⟩:=Zxn (N:=N) (a:=aC x.1.length (-51)) (b:=aC x.2.1.length (-52)) (r:=(true,Ww 1000 x.2.2)) d N 0 _ (by omega) (by omega) (show _=x.2.2.length+0 from g)
 have q:=Zxo (N:=N) (a:=aC x.1.length (-51)) (b:=aC x.2.1.length (-52)) (r:=(true,Ww 1000 x.2.2)) (u:=u) rfl e N 0 (aT _) (by omega)
 have s:=Zxp (N:=N) (a:=aC x.1.length (-51)) (b:=aC x.2.1.length (-52)) (r:=(true,Ww 1000 x.2.2)) (u:=u) rfl f N 0 (aT _) (by omega)
 have t:=Zxq (N:=N) (a:=aC x.1.length (-51)) (b:=aC x.2.1.length (-52)) (r:=(true,Ww 1000 x.2.2)) d o rfl N 0 _ g (aT _) (by omega)
 rw [Zjh]
 refine k.trans (l.trans ?_)
 rw [j,oB]
 exact m.trans (n.trans (p.trans (q.trans (s.trans t))))
theorem Z9z {N:Nat} {t:List QV} (ht:t.length≤1048576) (hx:∀ x ∈ t,x.1.2.length≤1099511627776∧x.2.length≤1099511627776) (hN:1099511627777<N):Zle N t t=some true:=by
 have L:∀ (f i:Nat),i≤t.length→t.length<f+i→Zfu N t t f (i:Int)=some true:=by
  intro f
  induction f with
  | zero=>intro i c d;omega
  | succ f e=>
   intro i c d
   rw [Zfu.eq_2]
   by_cases hi:i<t.length
   ·rw [if_pos (dT (by omega)),Zu hi,oB,oB,Z9s (hx _ (aD hi)) hN,oB,if_neg (by decide),wS (by omega)]
    exact e (i+1) (by omega) (by omega)
   ·rw [if_neg (dF (by omega))]
 rw [Zle,if_neg (by rw [decide_eq_true rfl];decide)]
 exact L N 0 (aT _) (by omega)
theorem Z1g {N:Nat} {x:List Int×List Int×List QV} (hx:Zj1 x) (hN:4611686018427387903<N):Zac N x x=some true:=by
 obtain ⟨c,d,e,f⟩:=hx
 rw [Zac,Zpc c (by omega),oB,if_pos rfl,Zpc d (by omega),oB,if_pos rfl,Z9z e f (by omega),oB,Zjj]
def Znw (aa:Bool):Option Bool:=
  some aa
def Ze2 (N:Nat) (aa:R0):Nat→Int→Int→Option Bool
  | 0,_,_=>none
  | ad+1,ac,ab=>if (decide (ab<(aa.2.2.2.2.length:Int)))=true then ((Zi aa.2.2.2.2 ab).bind fun ae=>(Ze2 N aa ad) (i64.wrap (ac+(ae.length:Int))) (i64.wrap (ab+1))) else (if (decide (3000<ac))=true then (Znw true) else ((Zn8 N (aa.1,aa.2.1,aa.2.2.1,aa.2.2.2.1,aa.2.2.2.2)).bind fun af=>Znw (decide (6000<af))))
def Ze1 (N:Nat) (aa:R0):Nat→Int→Int→Option Bool
  | 0,_,_=>none
  | ae+1,ad,ac=>if (decide (ac<(aa.2.2.1.length:Int)))=true then ((Zi aa.2.2.1 ac).bind fun ab=>if (decide (600<(i64.wrap (ad * (if (ab.length:Int)>1 then (ab.length:Int) else 1)))))=true then (some true) else ((Ze1 N aa ae) (i64.wrap (ad * (if (ab.length:Int)>1 then (ab.length:Int) else 1))) (i64.wrap (ac+1)))) else (Ze2 N aa N 0 0)
def Znv (N:Nat) (aa:R0):Option Bool:=
  Ze1 N aa N 1 0
theorem Z26 {N ai aj ak al:Nat} {am an ao ap:Option Addr} {col:Zd} {w0:World} {ab:R0} {r:Bool} (hm:Znv N ab=some r) (ar:Sl Za.str col w0 am ai ab.2.1) (af:Sl rV col w0 an aj ab.2.2.1) (au:Sl rP col w0 ao ak ab.2.2.2.1) (ag:Sl (Za.slice rQ) col w0 ap al ab.2.2.2.2):
    Calls prog 30 #[(.agg #[.string ab.1,.slice am ab.2.1.length ai,.slice an ab.2.2.1.length aj,.slice ao ab.2.2.2.1.length ak,.slice ap ab.2.2.2.2.length al])] w0 (Wx w0 r):=by
 refine Z6 2 (m:=47) func30 rfl rfl rfl rfl rfl ?_;rw [Znv.eq_1] at hm;have aa:=St.start col w0;refine go ?_;refine Xl (col:=(Zf col)) 1 rfl ?_;intro a7 bi bj ba ac;refine go ?_;replace aa:=aa.grow ba;refine Zs [1,1000000] (fun n f av=>∃ aw ax ay ad,ad=n∧Ze1 N ab ad ax ay=some r∧St w0 (Zf col) aw av∧Zj 27 1 aw av a7 #[.string ab.1,.slice am ab.2.1.length ai,.slice an ab.2.2.1.length aj,.slice ao ab.2.2.2.1.length ak,.slice ap ab.2.2.2.2.length al]∧[3,4].map f=[.int .i64 ax,.int .i64 ay]) N ⟨_,1,0,_,rfl,hm,aa,ac,rfl⟩ ?_;clear hm;intro n f av hI;obtain ⟨aw,ax,ay,ad,hn,hm,aa,ac,hs⟩:=hI;subst hn;refine .lL [3,4] hs ?_;replace af:=af.k0;replace ag:=ag.k0
 cases ad with
 | zero=>rw [Ze1.eq_1] at hm;cases hm
 | succ ad=>
  rw [Ze1.eq_2] at hm;refine go ?_;refine Z1 ac ?_;refine go ?_;refine Zm hm (fun hb hm=>go ?_) fun hb hm=>go ?_
  ·refine Z1 ac<|Xr rfl ?_;obtain ⟨az,a0,hm⟩:=bZ hm;refine lI a0 ((af.ks aa).addr a0) ?_;obtain ⟨_,bb,bc⟩:=(af.ks aa).atN a0;obtain ⟨⟨bk,bm,rfl,bn⟩,_⟩:=bb;refine lW bc.one<|go ?_;refine lV (.int .i64 (if (az.length:Int)>1 then (az.length:Int) else 1)) (Z8z 1 (az.length:Int) rfl rfl)<|go ?_;refine Zm hm (fun hb hm=>go ?_) fun hb hm=>go ?_
   ·cases hm;exact ⟨rfl,rfl,aa.below⟩
   exact ⟨ad,by omega,rfl,⟨_,_,_,_,rfl,hm,aa,ac,rfl⟩⟩
  refine Zs [1,1000000] (fun n f aq=>∃ ah a1 a2 ae,ae=n∧Ze2 N ab ae a1 a2=some r∧St w0 (Zf col) ah aq∧Zj 27 1 ah aq a7 #[.string ab.1,.slice am ab.2.1.length ai,.slice an ab.2.2.1.length aj,.slice ao ab.2.2.2.1.length ak,.slice ap ab.2.2.2.2.length al]∧[5,6].map f=[.int .i64 a1,.int .i64 a2]) N ⟨_,0,0,_,rfl,hm,aa,ac,rfl⟩ ?_;clear hm;intro n f aq hI;obtain ⟨ah,a1,a2,ae,hn,hm,aa,ac,hs⟩:=hI;subst hn;refine .lL [5,6] hs ?_
  cases ae with
  | zero=>rw [Ze2.eq_1] at hm;cases hm
  | succ ae=>
   rw [Ze2.eq_2] at hm;refine go ?_;refine Z1 ac ?_;refine go ?_;refine Zm hm (fun hb hm=>go ?_) fun hb hm=>?_
   ·refine Z1 ac<|Xr rfl ?_;obtain ⟨bo,a3,hm⟩:=bZ hm;refine lI a3 ((ag.ks aa).addr a3) ?_;obtain ⟨_,bd,be⟩:=(ag.ks aa).atN a3;obtain ⟨⟨bp,bq,rfl,br⟩,_⟩:=bd;refine lW be.one<|go ?_;exact ⟨ae,by omega,rfl,⟨_,_,_,_,rfl,hm,aa,ac,rfl⟩⟩
   refine Zjz (Zhh ?_);refine Z0 ?_;refine Wp.cutK [1000000] (fun f a8=>∃ a9 a4,Znw a4=some r∧St w0 (Zf col) a9 a8∧[2].map f=[.bool a4]) ?_ ?_
   ·intro f a8 hJ;obtain ⟨a9,a4,hm,aa,hs⟩:=hJ;rw [Znw.eq_1] at hm;refine .lL [2] hs<|Wh ?_;cases hm;exact ⟨rfl,rfl,aa.below⟩
   refine go ?_;refine Xn hm (fun a5 hm=>go ?_) fun a5 hm=>go ?_
   ·refine lV (.bool true) (Zw (congrArg Value.bool a5) rfl)<|go ?_;exact ⟨rfl,_,_,hm,aa,rfl⟩
   refine lV _ (Z9 isAgg27 sizeOf27 ac)<|go ?_;obtain ⟨bf,bg,hm⟩:=bZ hm;refine Zk (Z4f bg (ar.k0.ks aa) (af.ks aa) (au.k0.ks aa) (ag.ks aa)) fun _ bh ⟨e',a6⟩=>⟨_,e',?_⟩;replace a6:Zn ah aq ah bh:=.of_below a6;refine go ?_;refine lV (.bool (decide (6000<bf))) (Xk (congrArg Value.bool a5) rfl)<|go ?_;exact ⟨rfl,_,_,hm,aa.grow a6,rfl⟩
def Znt (aa:Bool):Option Bool:=
  some aa
def Ze0 (N n0:Nat) (ab:Re) (aa:Re):Nat→Int→Option Bool
  | 0,_=>none
  | af+1,ac=>if (decide (ac<(aa.length:Int)))=true then ((Zi (ab.take n0) ac).bind fun ad=>(Zi aa ac).bind fun ae=>if (!(decide (ad.1=ae.1)&&decide (ad.2=ae.2)))=true then (some false) else ((Ze0 N n0 ab aa af) (i64.wrap (ac+1)))) else (Zt ((0:Int)≤(i64.wrap ((aa.length:Int)+4))∧(i64.wrap ((aa.length:Int)+4))≤(ab.length:Int)) ((Zi (ab.take (aA (i64.wrap ((aa.length:Int)+4)))) (aa.length:Int)).bind fun ag=>if (decide (ag.1=(-71)))=true then ((Zi (ab.take (aA (i64.wrap ((aa.length:Int)+4)))) (i64.wrap ((aa.length:Int)+3))).bind fun ah=>Znt (decide (ah.1=(-74)))) else (Znt false)))
def Zkn (N n0:Nat) (aa:Re) (ab:Re):Option Bool:=
  if (!decide (((aa.take n0).length:Int)=(ab.length:Int)))=true then (some false) else (Ze0 N n0 aa ab N 0)
theorem Z22 {N ah n0 aq:Nat} {a0 a1:Option Addr} {col:Zd} {w0:World} {ac ab:Re} {r:Bool} (hm:Zkn N n0 ac ab=some r) (h0:Sl (Za.pair rI rI) col w0 a0 ah ac) (h1:Sl (Za.pair rI rI) col w0 a1 aq ab):
    Calls prog 28 #[.slice a0 ((ac.take n0).length) ah,.slice a1 ab.length aq] w0 (Wx w0 r):=by
 refine Z6 4 (m:=49) func28 rfl rfl rfl rfl rfl ?_;rw [Zkn.eq_1] at hm;have aa:=St.start col w0;refine go ?_;replace h0:=h0.k0;replace h1:=h1.k0;refine Zm hm (fun hb hm=>go ?_) fun hb hm=>go ?_
 ·cases hm;exact ⟨rfl,rfl,aa.below⟩
 refine Zs [0,1,1000000] (fun n f ar=>∃ ad ak ae,ae=n∧Ze0 N n0 ac ab ae ak=some r∧St w0 (Zf col) ad ar∧[5].map f=[.int .i64 ak]) N ⟨_,0,_,rfl,hm,aa,rfl⟩ ?_;clear hm;intro n f ar hI;obtain ⟨ad,ak,ae,hn,hm,aa,hs⟩:=hI;subst hn;refine .lL [5] hs ?_
 cases ae with
 | zero=>rw [Ze0.eq_1] at hm;cases hm
 | succ ae=>
  rw [Ze0.eq_2] at hm;refine go ?_;refine Zm hm (fun hb hm=>go ?_) fun hb hm=>go ?_
  ·refine Y7 (col:=ad) (by kernel_rfl) (by kernel_rfl)<|go ?_;obtain ⟨af,al,hm⟩:=bZ hm;refine qI al (((h0.ks aa).take n0).addr al) ?_;obtain ⟨_,aw,ax⟩:=((h0.ks aa).take n0).atN al;obtain ⟨_,_,rfl,ay,az⟩:=Yb aw;obtain ⟨rfl,_⟩:=ay;obtain ⟨rfl,_⟩:=az;refine qv (v:=(.agg #[.int .i64 af.1,.int .i64 af.2])) rfl (fun _ hC=>Ym isAgg66 sizeOf66 rfl rfl (ax.gr (hC.bl ad))) ?_;refine go ?_;obtain ⟨ag,am,hm⟩:=bZ hm;refine qI am ((h1.ks aa).addr am) ?_;obtain ⟨_,a2,a3⟩:=(h1.ks aa).atN am;obtain ⟨_,_,rfl,a4,a5⟩:=Yb a2;obtain ⟨rfl,_⟩:=a4;obtain ⟨rfl,_⟩:=a5;refine qv (v:=(.agg #[.int .i64 ag.1,.int .i64 ag.2])) rfl (fun _ hC=>Ym isAgg66 sizeOf66 rfl rfl (a3.gr (hC.bl ad))) ?_;refine qv (v:=(.bool (!(decide (af.1=ag.1)&&decide (af.2=ag.2))))) rfl (fun _ hC=>Z80 rfl rfl (by decide+kernel) (Z6f underlying66 (by decide+kernel) (by decide) (by decide) (Zo6 isAgg3 rfl) (Zo6 isAgg3 rfl) (Zo6 isAgg3 rfl) (Zo6 isAgg3 rfl) (Zya af.1 ag.1 underlying3) (Zya af.2 ag.2 underlying3))) ?_;refine X2 ?_;intro bf hC;replace aa:=aa.grow (hC.bl ad);refine Zm hm (fun hb hm=>go ?_) fun hb hm=>go ?_
   ·cases hm;exact ⟨rfl,rfl,aa.below⟩
   exact ⟨ae,by omega,rfl,⟨_,_,_,rfl,hm,aa,rfl⟩⟩
  obtain ⟨an,hm⟩:=Zv hm;refine lv (v:=.slice a0 (aA (i64.wrap ((ab.length:Int)+4))) ah) rfl rfl (Vt underlying56 sizeOf66 rfl rfl an.1 (by have:=(h0.ks aa).1.2;have:=an.2;omega))<|.ld (d:=31) (v:=(.slice a0 ((ac.take (aA (i64.wrap ((ab.length:Int)+4)))).length) ah)) (congrArg (fun n=>Value.slice a0 n ah) (bE (show (aA (i64.wrap ((ab.length:Int)+4)))≤ac.length by have:=an.2;omega)).symm) ?_;refine Zbe rfl<|Zl<|Z0 ?_;refine Wp.cutK [1000000] (fun f au=>∃ av ao,Znt ao=some r∧St w0 (Zf col) av au∧[4].map f=[.bool ao]) ?_ ?_
  ·intro f au hJ;obtain ⟨av,ao,hm,aa,hs⟩:=hJ;rw [Znt.eq_1] at hm;refine .lL [4] hs<|Wh ?_;cases hm;exact ⟨rfl,rfl,aa.below⟩
  refine go ?_;obtain ⟨bg,ai,hm⟩:=bZ hm;refine lI ai (((h0.ks aa).take (aA (i64.wrap ((ab.length:Int)+4)))).addr ai)<|Z7 (X8 (((h0.ks aa).take (aA (i64.wrap ((ab.length:Int)+4)))).addr ai)) ?_;obtain ⟨_,a6,a7⟩:=((h0.ks aa).take (aA (i64.wrap ((ab.length:Int)+4)))).atN ai;obtain ⟨_,_,rfl,a8,a9⟩:=Yb a6;obtain ⟨rfl,_⟩:=a8;obtain ⟨rfl,_⟩:=a9;refine lW ((a7).nth (q:=0) rfl)<|go ?_;refine Xn hm (fun ap hm=>go ?_) fun ap hm=>go ?_
  ·obtain ⟨ba,aj,hm⟩:=bZ hm;refine lI aj (((h0.ks aa).take (aA (i64.wrap ((ab.length:Int)+4)))).addr aj) ?_;refine go ?_;refine Z7 (X8 (((h0.ks aa).take (aA (i64.wrap ((ab.length:Int)+4)))).addr aj)) ?_;refine go ?_;obtain ⟨_,bb,bc⟩:=((h0.ks aa).take (aA (i64.wrap ((ab.length:Int)+4)))).atN aj;obtain ⟨_,_,rfl,bd,be⟩:=Yb bb;obtain ⟨rfl,_⟩:=bd;obtain ⟨rfl,_⟩:=be;refine lW ((bc).nth (q:=0) rfl)<|go ?_;refine lV (.bool (decide (ba.1=(-74)))) (Zw (congrArg Value.bool ap) rfl)<|go ?_;exact ⟨rfl,_,_,hm,aa,rfl⟩
  refine lV (.bool false) (Xk (congrArg Value.bool ap) rfl)<|go ?_;exact ⟨rfl,_,_,hm,aa,rfl⟩
def Zko (aa:Re):Option (Nat×Re):=
  Zt ((([]:List R5).length+aa.length) * 16≤140737488355328∧([]:List R5).length+aa.length≤maxLen) (Zt (((([]:List R5)++aa).length+[((-71),0),((-72),0),((-73),0),((-74),0)].length) * 16≤140737488355328∧(([]:List R5)++aa).length+[((-71),0),((-72),0),((-73),0),((-74),0)].length≤maxLen) (Zt ((0:Int)≤(aa.length:Int)∧(aa.length:Int)≤(((([]:List R5)++aa)++[((-71),0),((-72),0),((-73),0),((-74),0)]).length:Int)) (some ((aA (aa.length:Int)),(([]:List R5)++aa)++[((-71),0),((-72),0),((-73),0),((-74),0)]))))
theorem Z23 {ag:Nat} {a0:Option Addr} {col:Zd} {w0:World} {aa:Re} {r:(Nat×Re)} (c1:Nat) (hm:Zko aa=some r) (h0:Sl (Za.pair rI rI) col w0 a0 ag aa):
    Calls prog 25 #[.slice a0 aa.length ag] w0 (fun e w'=>∃ col' ra1 rc2,e= .returned ((.slice ra1 ((r.2.take r.1).length) rc2))∧Zn col w0 col' w'∧Zc (Za.pair rI rI) 66 c1 col' w' ra1 rc2 r.2):=by
 refine Z6 2 (m:=18) func25 rfl rfl rfl rfl rfl ?_;rw [Zko.eq_1] at hm;have ab:=St.start col w0;refine go ?_;obtain ⟨aj,hm⟩:=Zv hm;refine Yy (c:=1) Zc.nil (h0.k0.ks ab).srcC aj ?_;intro ap aq ar ak al ac;refine go ?_;refine lV (.agg #[.int .i64 (-71),.int .i64 0]) (Wl (l:=[_,_]) (qs:=[(0,1),(1,1)]) underlying66 zeroValue66 ⟨rfl,sizeOf3,rfl,sizeOf3,trivial⟩ rfl)<|lV (.agg #[.int .i64 (-72),.int .i64 0]) (Wl (l:=[_,_]) (qs:=[(0,1),(1,1)]) underlying66 zeroValue66 ⟨rfl,sizeOf3,rfl,sizeOf3,trivial⟩ rfl)<|lV (.agg #[.int .i64 (-73),.int .i64 0]) (Wl (l:=[_,_]) (qs:=[(0,1),(1,1)]) underlying66 zeroValue66 ⟨rfl,sizeOf3,rfl,sizeOf3,trivial⟩ rfl)<|lV (.agg #[.int .i64 (-74),.int .i64 0]) (Wl (l:=[_,_]) (qs:=[(0,1),(1,1)]) underlying66 zeroValue66 ⟨rfl,sizeOf3,rfl,sizeOf3,trivial⟩ rfl)<|Uo (col:=ak) (r:=(Za.pair rI rI)) (xs:=[((-71),0),((-72),0),((-73),0),((-74),0)]) [(.agg #[.int .i64 (-71),.int .i64 0]),(.agg #[.int .i64 (-72),.int .i64 0]),(.agg #[.int .i64 (-73),.int .i64 0]),(.agg #[.int .i64 (-74),.int .i64 0])] 2 (W0.ofF (Rows.consF (r:=(Za.pair rI rI)) (x:=((-71),0)) (cs:=[.int .i64 (-71),.int .i64 0]) (Tg (Vn .i64 (-71)) (Vn .i64 0)) (Rows.consF (r:=(Za.pair rI rI)) (x:=((-72),0)) (cs:=[.int .i64 (-72),.int .i64 0]) (Tg (Vn .i64 (-72)) (Vn .i64 0)) (Rows.consF (r:=(Za.pair rI rI)) (x:=((-73),0)) (cs:=[.int .i64 (-73),.int .i64 0]) (Tg (Vn .i64 (-73)) (Vn .i64 0)) (Rows.consF (r:=(Za.pair rI rI)) (x:=((-74),0)) (cs:=[.int .i64 (-74),.int .i64 0]) (Tg (Vn .i64 (-74)) (Vn .i64 0)) Rows.nil0))))) ?_;intro au av aw ah am;obtain ⟨an,hm⟩:=Zv hm;refine Yy (ac.gr ah) (am.srcN (NB.pair (NB.int (k:=.i64)) (NB.int (k:=.i64)))) an ?_;intro ad ae ax ay ao ai;refine go ?_;obtain ⟨af,hm⟩:=Zv hm;refine lv (v:=.slice ad (aA (aa.length:Int)) ae) rfl rfl (Vt underlying56 sizeOf66 rfl rfl af.1 (by have:=ai.lecap;have:=af.2;omega))<|.ld (d:=17) (v:=(.slice ad ((((([]:List R5)++aa)++[((-71),0),((-72),0),((-73),0),((-74),0)]).take (aA (aa.length:Int))).length) ae)) (congrArg (fun n=>Value.slice ad n ae) (bE (show (aA (aa.length:Int))≤((([]:List R5)++aa)++[((-71),0),((-72),0),((-73),0),((-74),0)]).length by have:=af.2;omega)).symm) ?_;refine go ?_;cases hm
 replace ab:=((ab.kpp al).grow ah).kpp ao;exact ⟨rfl,_,_,_,rfl,ab.fin (cm [(1,c1)]),ab.fo ai⟩
/-! fixes with Za8 behind them -/
abbrev T6:List R5:=[(-71,0),(-72,0),(-73,0),(-74,0)]
theorem Z6m {l:List R5} (hl:l.length≤1048576):Zko l=some (Y6 T6 l):=by
 rw [Zko,Zx (by simp only [nN,maxLen];omega),Zx (by simp only [nA,nC,nN,maxLen];omega),Zx (by simp only [nA,nC,nN];omega),bL,aB]
 rfl
theorem Zu5 {N:Nat} {l:List R5} (hl:l.length≤1048576):∀ (f i:Nat),i≤l.length→l.length<f+i→Ze0 N l.length (l++T6) l f (i:Int)=some true
 | 0,i,b,c=>by omega
 | f+1,i,b,c=>by
  have d:(l++T6).take l.length=l:=eP
  rw [Ze0.eq_2,d]
  by_cases hi:i<l.length
  ·rw [if_pos (dT (by omega)),Zu hi,oB,oB,if_neg (by rw [decide_eq_true rfl,decide_eq_true rfl];decide),wS (by omega)]
   exact Zu5 hl f (i+1) (by omega) (by omega)
  ·have a:=Zck (ms:=T6) (l:=l) (j:=0) (k:=l.length+4) (by simp) (by omega)
   have e:=Zck (ms:=T6) (l:=l) (j:=3) (k:=l.length+4) (by simp) (by omega)
   simp only [bO] at a
   rw [if_neg (dF (by omega)),Zr (x:=(l.length:Int)+4) (by omega),Zx (by simp only [nA,nC,nN];omega),show aA ((l.length:Int)+4)=l.length+4 by omega,a,oB,if_pos (by decide),Zr (x:=(l.length:Int)+3) (by omega),show (l.length:Int)+3=((l.length+3:Nat):Int) by omega,e,oB]
   rfl
theorem Z6l {N:Nat} {l:List R5} (hl:l.length≤1048576) (hN:1048577<N):Zkn N (Y6 T6 l).1 (Y6 T6 l).2 l=some true:=by
 have a:(Y6 T6 l).2.take (Y6 T6 l).1=l:=Zph _ _
 rw [Zkn,a,if_neg (by rw [decide_eq_true rfl];decide)]
 exact Zu5 hl N 0 (aT _) (by omega)
/-! which networks are gone through -/
theorem Zwt {N:Nat} {n:Xa} (hb:∀ t ∈ n.2.2.2.2,t.length≤1048576∧∀ x ∈ t,x.1.2.length≤1048576∧x.2.length≤1048576) (hl:n.2.2.2.2.length≤1048576) (hN:1048577<N):∀ (f i:Nat) (s:Int),0≤s→s≤1048576 * (i:Int)→i≤n.2.2.2.2.length→n.2.2.2.2.length<f+i→∃ r,Ze2 N n f s (i:Int)=some r
 | 0,i,s,_,_,b,c=>by omega
 | f+1,i,s,e,g,b,c=>by
  rw [Ze2.eq_2]
  by_cases hi:i<n.2.2.2.2.length
  ·have j:=hb _ (aD hi)
   rw [if_pos (dT (by omega)),Zu hi,oB,Zr (x:=s+_) (by omega),wS (by omega)]
   exact Zwt hb hl hN f (i+1) _ (by omega) (by omega) (by omega) (by omega)
  ·rw [if_neg (dF (by omega))]
   by_cases h3:3000<s
   ·rw [if_pos (dT h3)];exact ⟨_,rfl⟩
   ·rw [if_neg (dF h3)]
    obtain ⟨r,d⟩:=Zwm (N:=N) hb hl hN N 0 0 (by omega) (by omega) (aT _) (by omega)
    have a:Zn8 N (n.1,n.2.1,n.2.2.1,n.2.2.2.1,n.2.2.2.2)=some r:=d
    rw [a,oB];exact ⟨_,rfl⟩
theorem Zws {N:Nat} {n:Xa} (hvl:∀ l ∈ n.2.2.1,l.length≤1048576) (hvn:n.2.2.1.length≤1048576) (hb:∀ t ∈ n.2.2.2.2,t.length≤1048576∧∀ x ∈ t,x.1.2.length≤1048576∧x.2.length≤1048576) (hl:n.2.2.2.2.length≤1048576) (hN:1048577<N):∀ (f v c:Nat),v≤n.2.2.1.length→c≤600→n.2.2.1.length<f+v→∃ r,Ze1 N n f (c:Int) (v:Int)=some r∧(r=false→c * Zp ((n.2.2.1.drop v).map fun l=>max l.length 1)≤600)
 | 0,v,c,b,a,d=>by omega
 | f+1,v,c,b,a,d=>by
  rw [Ze1.eq_2]
  by_cases hk:v<n.2.2.1.length
  ·have o:=hvl _ (aD hk)
   have g:(if (n.2.2.1[v].length:Int)>1 then (n.2.2.1[v].length:Int) else 1)=((max n.2.2.1[v].length 1:Nat):Int):=by
    split <;> omega
   have i:c * max n.2.2.1[v].length 1≤600 * 1048576:=Nat.mul_le_mul a (by omega)
   have e:(c:Int) * ((max n.2.2.1[v].length 1:Nat):Int)=((c * max n.2.2.1[v].length 1:Nat):Int):=(Int.natCast_mul _ _).symm
   rw [if_pos (dT (by omega)),Zu hk,oB,g,e]
   generalize hz:c * max n.2.2.1[v].length 1=z at i ⊢
   rw [Zr (by omega)]
   by_cases h4:600<(z:Int)
   ·rw [if_pos (dT h4)];exact ⟨_,rfl,fun h=>Bool.noConfusion h⟩
   ·rw [if_neg (dF h4),wS (by omega)]
    obtain ⟨r,j,k⟩:=Zws hvl hvn hb hl hN f (v+1) z (by omega) (by omega) (by omega)
    exact ⟨r,j,fun h=>by rw [aL hk,List.map_cons,Zp,← Nat.mul_assoc,hz];exact k h⟩
  ·rw [if_neg (dF (by omega))]
   obtain ⟨r,m⟩:=Zwt (N:=N) hb hl hN N 0 0 (by omega) (by omega) (aT _) (by omega)
   exact ⟨r,m,fun _=>by rw [aG (by omega),List.map_nil,Zp,Nat.mul_one];exact a⟩
def Zkq (N:Nat) (aa:R0):Option Bool:=
  (V9 N (aa.1,aa.2.1,aa.2.2.1,aa.2.2.2.1,aa.2.2.2.2) ([]:List R5) ([]:List Int)).bind fun ab=>some (decide (ab=4))
theorem Z25 {N ah ai aj ak:Nat} {al am an ao:Option Addr} {col:Zd} {w0:World} {aa:R0} {r:Bool} (hm:Zkq N aa=some r) (ac:Sl Za.str col w0 al ah aa.2.1) (ad:Sl rV col w0 am ai aa.2.2.1) (ae:Sl rP col w0 an aj aa.2.2.2.1) (af:Sl (Za.slice rQ) col w0 ao ak aa.2.2.2.2):
    Calls prog 31 #[(.agg #[.string aa.1,.slice al aa.2.1.length ah,.slice am aa.2.2.1.length ai,.slice an aa.2.2.2.1.length aj,.slice ao aa.2.2.2.2.length ak])] w0 (Wx w0 r):=by
 refine Z6 2 (m:=6) func31 rfl rfl rfl rfl rfl ?_;rw [Zkq.eq_1] at hm;have ab:=St.start col w0;refine go ?_;refine Xl (col:=(Zf col)) 1 rfl ?_;intro ax aq ap ar au;refine go ?_;refine lV _ (Z9 isAgg27 sizeOf27 au) ?_;obtain ⟨ay,av,hm⟩:=bZ hm;replace ab:=ab.grow ar;refine Zk (Zqb av (ac.k0.ks ab) (ad.k0.ks ab) (ae.k0.ks ab) (af.k0.ks ab) Sl.nil Sl.nil) fun _ aw ⟨e',ag⟩=>⟨_,e',?_⟩;replace ag:Zn ap aq ap aw:=.of_below ag;refine go ?_;cases hm;exact ⟨rfl,rfl,(ab.grow ag).below⟩
def Znu (aa:Bool):Option Bool:=
  some aa
def Zkp (N:Nat) (aa:R0):Option Bool:=
  (Znv N (aa.1,aa.2.1,aa.2.2.1,aa.2.2.2.1,aa.2.2.2.2)).bind fun ab=>(Zkq N (aa.1,aa.2.1,aa.2.2.1,aa.2.2.2.1,aa.2.2.2.2)).bind fun ac=>if ab=true then (Znu (!ac)) else (Znu false)
theorem Z24 {N am an ao ap:Nat} {aq ar au av:Option Addr} {col:Zd} {w0:World} {ab:R0} {r:Bool} (hm:Zkp N ab=some r) (ac:Sl Za.str col w0 aq am ab.2.1) (ad:Sl rV col w0 ar an ab.2.2.1) (ae:Sl rP col w0 au ao ab.2.2.2.1) (af:Sl (Za.slice rQ) col w0 av ap ab.2.2.2.2):
    Calls prog 6 #[(.agg #[.string ab.1,.slice aq ab.2.1.length am,.slice ar ab.2.2.1.length an,.slice au ab.2.2.2.1.length ao,.slice av ab.2.2.2.2.length ap])] w0 (Wx w0 r):=by
 refine Z6 2 (m:=14) func6 rfl rfl rfl rfl rfl ?_;rw [Zkp.eq_1] at hm;have aa:=St.start col w0;refine go ?_;refine Xl (col:=(Zf col)) 1 rfl ?_;intro a5 az ag a0 ah;refine go ?_;refine lV _ (Z9 isAgg27 sizeOf27 ah) ?_;obtain ⟨a6,a1,hm⟩:=bZ hm;replace ac:=ac.k0;replace ad:=ad.k0;replace ae:=ae.k0;replace af:=af.k0;replace aa:=aa.grow a0;refine Zk (Z26 a1 (ac.ks aa) (ad.ks aa) (ae.ks aa) (af.ks aa)) fun _ aw ⟨e',ai⟩=>⟨_,e',?_⟩;replace ai:Zn ag az ag aw:=.of_below ai;refine go ?_;refine lV _ (Z9 isAgg27 sizeOf27 (ah.gr ai)) ?_;obtain ⟨a2,a3,hm⟩:=bZ hm;replace aa:=aa.grow ai;refine Zk (Z25 a3 (ac.ks aa) (ad.ks aa) (ae.ks aa) (af.ks aa)) fun _ a4 ⟨e',aj⟩=>⟨_,e',?_⟩;replace aj:Zn ag aw ag a4:=.of_below aj;refine Qt rfl<|Zl<|Z0 ?_;replace aa:=aa.grow aj;refine Wp.cutK [1000000] (fun f ax=>∃ ay ak,Znu ak=some r∧St w0 (Zf col) ay ax∧[2].map f=[.bool ak]) ?_ ?_
 ·intro f ax hJ;obtain ⟨ay,ak,hm,aa,hs⟩:=hJ;rw [Znu.eq_1] at hm;refine .lL [2] hs<|Wh ?_;cases hm;exact ⟨rfl,rfl,aa.below⟩
 refine go ?_;refine Xn hm (fun al hm=>go ?_) fun al hm=>go ?_
 ·refine lV (.bool (!a2)) (Zw (congrArg Value.bool al) rfl)<|go ?_;exact ⟨rfl,_,_,hm,aa,rfl⟩
 refine lV (.bool false) (Xk (congrArg Value.bool al) rfl)<|go ?_;exact ⟨rfl,_,_,hm,aa,rfl⟩
def Zhz (aa:Bool):Option Bool:=
  some aa
def Zav (N:Nat) (ab:R0) (aa:R3) (ai aj:List Int):Nat→Re→Re→Int→Option Bool
  | 0,_,_,_=>none
  | am+1,ae,af,ad=>if (decide (ad<(ae.length:Int)))=true then ((Zi ae ad).bind fun ak=>(some (ae.set (aA ad) (ak.1,U8 .i64 ak.2 1))).bind fun al=>(Zi al ad).bind fun ac=>Zt ((af.length+[(ac.1,ac.2)].length) * 16≤140737488355328∧af.length+[(ac.1,ac.2)].length≤maxLen) ((Zav N ab aa ai aj am) al (af++[(ac.1,ac.2)]) (i64.wrap (ad+1)))) else ((Zad N (ab.1,ab.2.1,ab.2.2.1,ab.2.2.2.1,ab.2.2.2.2) aj af).bind fun ag=>(Qz N (aa.1,aa.2.1.2.take aa.2.1.1,aa.2.2.1.map Z8,aa.2.2.2.1.map Z8,aa.2.2.2.2.map (Vb (Prod.map (Prod.map id Z8) Z8))) ai ae).bind fun ah=>if (decide (ah.2=ag.2))=true then ((Zac N (ah.1.1,ah.1.2.1,ah.1.2.2) (ag.1.1,ag.1.2.1,ag.1.2.2)).bind fun an=>if an=true then ((Zcc N ai aj).bind fun ao=>Zhz ao) else (Zhz false)) else (Zhz false))
def Zc7 (N:Nat) (af:R0) (ag:R3) (ad:(Nat×Re)):Nat→R2→R2→Int→Option Bool
  | 0,_,_,_=>none
  | ai+1,ab,ac,aa=>if (decide (aa<(ab.length:Int)))=true then ((Zi ab aa).bind fun aj=>(some (ab.set (aA aa) (U8 .i64 aj 1))).bind fun ah=>(Zi ah aa).bind fun ae=>Zt ((ac.length+[ae].length) * 8≤140737488355328∧ac.length+[ae].length≤maxLen) ((Zc7 N af ag ad ai) ah (ac++[ae]) (i64.wrap (aa+1)))) else (Zav N af ag ab ac N (ad.2.take ad.1) ([]:List R5) 0)
def Zc6 (N:Nat) (ab:R0) (aa:List Int) (ac:R3) (ad:(Nat×Re)) (ae:Bool):Option Bool:=
  if ae=true then (some false) else (Zc7 N ab ac ad N (((([]:List Int)++aa)++[(-81),(-82),(-83)]).take (aA (aa.length:Int))) ([]:List Int) 0)
def S0 (N:Nat) (ab:R0) (ac:List Int) (ae:Rb) (aa:R3) (ad:(Nat×Re)) (af:Rb) (ag:Rb) (ai:Bool):Option Bool:=
  if ai=true then (some false) else ((Zjh N (af.1.1,af.1.2.1,af.1.2.2)).bind fun aj=>(Qz N (aa.1,aa.2.1.2.take aa.2.1.1,aa.2.2.1.map Z8,aa.2.2.2.1.map Z8,aa.2.2.2.2.map (Vb (Prod.map (Prod.map id Z8) Z8))) (((([]:List Int)++ac)++[(-81),(-82),(-83)]).take (aA (ac.length:Int))) (ad.2.take ad.1)).bind fun ah=>if (!aj)=true then (Zc6 N ab ac aa ad true) else ((Zac N (ag.1.1,ag.1.2.1,ag.1.2.2) (ae.1.1,ae.1.2.1,ae.1.2.2)).bind fun ak=>if (!ak)=true then (Zc6 N ab ac aa ad true) else ((Zac N (ah.1.1,ah.1.2.1,ah.1.2.2) (ae.1.1,ae.1.2.1,ae.1.2.2)).bind fun al=>if (!al)=true then (Zc6 N ab ac aa ad true) else ((Zgg N (aa.1,(aa.2.1.1,aa.2.1.2),aa.2.2.1,aa.2.2.2.1,aa.2.2.2.2) (ab.1,ab.2.1,ab.2.2.1,ab.2.2.2.1,ab.2.2.2.2)).bind fun am=>if (!am)=true then (Zc6 N ab ac aa ad true) else ((Zcc N (((([]:List Int)++ac)++[(-81),(-82),(-83)]).take (aA (ac.length:Int))) ac).bind fun an=>Zc6 N ab ac aa ad (!an))))))
def Zns (N:Nat) (aa:R0) (ab:List Int) (ah:Re):Option Bool:=
  (Zkp N (aa.1,aa.2.1,aa.2.2.1,aa.2.2.2.1,aa.2.2.2.2)).bind fun ai=>if ai=true then (some true) else ((Zad N (aa.1,aa.2.1,aa.2.2.1,aa.2.2.2.1,aa.2.2.2.2) ab ah).bind fun ad=>(Zje N (aa.1,aa.2.1,aa.2.2.1,aa.2.2.2.1,aa.2.2.2.2)).bind fun ac=>(Zko ah).bind fun ae=>Zt ((([]:List Int).length+ab.length) * 8≤140737488355328∧([]:List Int).length+ab.length≤maxLen) (Zt (((([]:List Int)++ab).length+[(-81),(-82),(-83)].length) * 8≤140737488355328∧(([]:List Int)++ab).length+[(-81),(-82),(-83)].length≤maxLen) (Zt ((0:Int)≤(ab.length:Int)∧(ab.length:Int)≤(((([]:List Int)++ab)++[(-81),(-82),(-83)]).length:Int)) ((Qz N (ac.1,ac.2.1.2.take ac.2.1.1,ac.2.2.1.map Z8,ac.2.2.2.1.map Z8,ac.2.2.2.2.map (Vb (Prod.map (Prod.map id Z8) Z8))) (((([]:List Int)++ab)++[(-81),(-82),(-83)]).take (aA (ab.length:Int))) (ae.2.take ae.1)).bind fun af=>(Qz N (ac.1,ac.2.1.2.take ac.2.1.1,ac.2.2.1.map Z8,ac.2.2.2.1.map Z8,ac.2.2.2.2.map (Vb (Prod.map (Prod.map id Z8) Z8))) (((([]:List Int)++ab)++[(-81),(-82),(-83)]).take (aA (ab.length:Int))) (ae.2.take ae.1)).bind fun ag=>if (!decide (af.2=ad.2))=true then (S0 N aa ab ad ac ae af ag true) else (if (!decide (ag.2=ad.2))=true then (S0 N aa ab ad ac ae af ag true) else ((Zac N (af.1.1,af.1.2.1,af.1.2.2) (ad.1.1,ad.1.2.1,ad.1.2.2)).bind fun aj=>if (!aj)=true then (S0 N aa ab ad ac ae af ag true) else ((Zac N (ag.1.1,ag.1.2.1,ag.1.2.2) (ad.1.1,ad.1.2.1,ad.1.2.2)).bind fun ak=>if (!ak)=true then (S0 N aa ab ad ac ae af ag true) else ((Zgg N (ac.1,(ac.2.1.1,ac.2.1.2),ac.2.2.1,ac.2.2.2.1,ac.2.2.2.2) (aa.1,aa.2.1,aa.2.2.1,aa.2.2.2.1,aa.2.2.2.2)).bind fun al=>if (!al)=true then (S0 N aa ab ad ac ae af ag true) else ((Zkn N ae.1 ae.2 ah).bind fun am=>if (!am)=true then (S0 N aa ab ad ac ae af ag true) else ((Zcc N (((([]:List Int)++ab)++[(-81),(-82),(-83)]).take (aA (ab.length:Int))) ab).bind fun an=>if (!an)=true then (S0 N aa ab ad ac ae af ag true) else ((Zi ((([]:List Int)++ab)++[(-81),(-82),(-83)]) (ab.length:Int)).bind fun ao=>if (!decide (ao=(-81)))=true then (S0 N aa ab ad ac ae af ag true) else ((Zi ((([]:List Int)++ab)++[(-81),(-82),(-83)]) (i64.wrap ((ab.length:Int)+2))).bind fun ap=>S0 N aa ab ad ac ae af ag (!decide (ap=(-83)))))))))))))))
theorem Z21 (N:Nat) (col:Zd) (w0:World) (dp:Option Addr) (dq:Nat) (dr:Option Addr) (ds:Nat) (dt:Option Addr) (du:Nat) (dv:Option Addr) (dw:Nat) (ao:R0) (a1:Option Addr) (e9:Nat) (a3:List Int) (a2:Option Addr) (f7:Nat) (fa:Re) (c4:Sl Za.str col w0 dp dq ao.2.1) (c5:Sl rV col w0 dr ds ao.2.2.1) (c6:Sl rP col w0 dt du ao.2.2.2.1) (c7:Sl (Za.slice rQ) col w0 dv dw ao.2.2.2.2) (h1:Sl rI col w0 a1 e9 a3) (h2:Sl (Za.pair rI rI) col w0 a2 f7 fa) (r:Bool) (hm:Zns N ao a3 fa=some r):
    Calls prog 5 #[(.agg #[.string ao.1,.slice dp ao.2.1.length dq,.slice dr ao.2.2.1.length ds,.slice dt ao.2.2.2.1.length du,.slice dv ao.2.2.2.2.length dw]),.slice a1 a3.length e9,.slice a2 fa.length f7] w0 (Wx w0 r):=by
 refine Z6 6 (m:=228) func5 rfl rfl rfl rfl rfl ?_;rw [Zns.eq_1] at hm;have ab:=St.start col w0;refine go ?_;refine Xl (col:=(Zf col)) 1 rfl ?_;intro c8 g8 f8 g9 ah;refine go ?_;refine lV _ (Z9 isAgg27 sizeOf27 ah) ?_;obtain ⟨kb,ha,hm⟩:=bZ hm;replace c4:=c4.k0;replace c5:=c5.k0;replace c6:=c6.k0;replace c7:=c7.k0;replace ab:=ab.grow g9;refine Zk (Z24 ha (c4.ks ab) (c5.ks ab) (c6.ks ab) (c7.ks ab)) fun _ hc ⟨e',en⟩=>⟨_,e',?_⟩;replace en:Zn f8 g8 f8 hc:=.of_below en;refine Zl ?_;replace h1:=h1.k0;replace h2:=h2.k0;replace ah:=ah.gr en;replace ab:=ab.grow en;refine Zm hm (fun hb hm=>go ?_) fun hb hm=>go ?_
 ·cases hm;exact ⟨rfl,rfl,ab.below⟩
 refine lV _ (Z9 isAgg27 sizeOf27 ah)<|go ?_;obtain ⟨ap,hd,hm⟩:=bZ hm;refine Zk (Zto 2 3 4 hd (c4.ks ab) (c5.ks ab) (c6.ks ab) (c7.ks ab) (h1.ks ab) (h2.ks ab)) fun _ kc ⟨he,cr,ct,cu,cv,cw,cx,e',f9,aj,ak,al⟩=>⟨_,e',?_⟩;refine lM (.tuple #[(.agg #[.slice cr ap.1.1.length ct,.slice cu ap.1.2.1.length cv,.slice cw ap.1.2.2.length cx]),.int .i64 ap.2])<|lV (.agg #[.slice cr ap.1.1.length ct,.slice cu ap.1.2.1.length cv,.slice cw ap.1.2.2.length cx]) (Xu rfl rfl)<|lV (.int .i64 ap.2) (Xu rfl rfl)<|Xx (col:=he) #[(nI),(nI),(.slice none (([]:List R1).length) 0)] 5 zeroValue58 ?_;intro c9 kd ke d6 hf;refine Xf hf ?_;intro kg d7 hg ai;refine go ?_;replace ah:=((ah.gr f9).gr d6).kp d7;refine lV _ (Z9 isAgg27 sizeOf27 ah) ?_;obtain ⟨aa,hh,hm⟩:=bZ hm;replace ab:=((ab.grow f9).grow d6).kp d7 hg;refine Zk (Z4e hh (c4.ks ab) (c5.ks ab) (c6.ks ab) (c7.ks ab)) fun _ kh ⟨hi,bn,bo,bp,bq,br,bs,bt,bu,e',dx,ac,ad,ae,af⟩=>⟨_,e',?_⟩;refine Xx (col:=hi) #[.string (⟨#[]⟩),.slice none (([]:List ByteArray).length) 0,.slice none (([]:List R8).length) 0,.slice none (([]:List R2).length) 0,(.slice none (([]:List R6).length) 0)] 6 zeroValue27 ?_;intro da ki kj cy hj;refine Xf hj ?_;intro kk cz hk ag;refine go ?_;obtain ⟨bv,hl,hm⟩:=bZ hm;replace ab:=((ab.grow dx).grow cy).kp cz hk;refine Zk (Z23 7 hl (h2.ks ab)) ?_;rintro _ kl ⟨km,dy,dz,rfl,cq,am⟩;refine ⟨_,rfl,go ?_⟩;obtain ⟨ho,hm⟩:=Zv hm;replace ab:=ab.grow cq;refine Yy (c:=8) Zc.nil (h1.ks ab).srcC ho ?_;intro kn ko kq hp cj fb;refine go ?_;refine Wj (col:=hp) [(-81),(-82),(-83)] 9 ?_;intro kr kt ku cf hq;obtain ⟨hr,hm⟩:=Zv hm;refine Yy (fb.gr cf) (hq.srcN (NB.int (k:=.i64))) hr ?_;intro dg dh ht d8 ck an;refine go ?_;obtain ⟨fc,hm⟩:=Zv hm
 refine lv (v:=.slice dg (aA (a3.length:Int)) dh) rfl rfl (Vt underlying36 sizeOf3 rfl rfl fc.1 (by have:=an.lecap;have:=fc.2;omega))<|.ld (d:=47) (v:=(.slice dg ((((([]:List Int)++a3)++[(-81),(-82),(-83)]).take (aA (a3.length:Int))).length) dh)) (congrArg (fun n=>Value.slice dg n dh) (bE (show (aA (a3.length:Int))≤((([]:List Int)++a3)++[(-81),(-82),(-83)]).length by have:=fc.2;omega)).symm) ?_;refine go ?_;replace ag:=(((ag.gr cq).kpp cj).gr cf).kpp ck;refine lV _ (Z9 isAgg27 sizeOf27 ag)<|go ?_;have hu:((.agg #[.string aa.1,.slice bn ((aa.2.1.2.take aa.2.1.1).length) bo,.slice bp aa.2.2.1.length bq,.slice br aa.2.2.2.1.length bs,.slice bt aa.2.2.2.2.length bu]):Value)=(.agg #[.string aa.1,(.slice bn (aa.1,aa.2.1.2.take aa.2.1.1,aa.2.2.1.map Z8,aa.2.2.2.1.map Z8,aa.2.2.2.2.map (Vb (Prod.map (Prod.map id Z8) Z8))).2.1.length bo),(.slice bp (aa.1,aa.2.1.2.take aa.2.1.1,aa.2.2.1.map Z8,aa.2.2.2.1.map Z8,aa.2.2.2.2.map (Vb (Prod.map (Prod.map id Z8) Z8))).2.2.1.length bq),(.slice br (aa.1,aa.2.1.2.take aa.2.1.1,aa.2.2.1.map Z8,aa.2.2.2.1.map Z8,aa.2.2.2.2.map (Vb (Prod.map (Prod.map id Z8) Z8))).2.2.2.1.length bs),(.slice bt (aa.1,aa.2.1.2.take aa.2.1.1,aa.2.2.1.map Z8,aa.2.2.2.1.map Z8,aa.2.2.2.2.map (Vb (Prod.map (Prod.map id Z8) Z8))).2.2.2.2.length bu)]):=by first | (simp only [aE];done) | simp only [aE,dK]
 obtain ⟨b2,hv,hm⟩:=bZ hm;replace ac:=(((((ac.gr cy).kp cz).gr cq).kpp cj).gr cf).kpp ck;replace ad:=(((((ad.gr cy).kp cz).gr cq).kpp cj).gr cf).kpp ck;replace ae:=(((((ae.gr cy).kp cz).gr cq).kpp cj).gr cf).kpp ck;replace af:=(((((af.gr cy).kp cz).gr cq).kpp cj).gr cf).kpp ck;replace am:=((am.kpp cj).gr cf).kpp ck;refine lc rfl rfl (Zma call26 hu rfl rfl) (Zm4 10 11 12 hv (((ac.take aa.2.1.1).froz 8).froz 7) (((ad.froz 8).froz 7).weak Yk.view0) (((ae.froz 8).froz 7).weak Yk.view0) (((af.froz 8).froz 7).weak (Yk.view (Yk.pair (Yk.pair Yk.rfl Yk.view0) Yk.view0))) (((an.take (aA (a3.length:Int))).toSlF (Zh.int .i64)).froz 7) (((am.take bv.1).froz 8).toSlF (Zh.pair (Zh.int .i64) (Zh.int .i64))):) fun _ kv ⟨hw,eo,ep,eq,er,es,et,e',bj,aw,ax,ay⟩=>⟨_,e',?_⟩;replace aw:=aw.thaw (Z3 .i64) bj (((Fz.refl (col:=d8)).froz 8).froz 7);replace ax:=ax.thaw (Z3 .i64) bj (((Fz.refl (col:=d8)).froz 8).froz 7);replace ay:=ay.thaw (Zam (Zam Zkg (Zan (Z3 .u32))) (Zan (Z3 .u32))) bj (((Fz.refl (col:=d8)).froz 8).froz 7);replace bj:=bj.thawR (col:=d8);generalize Xj ht.heap.size d8 hw=hx at *;refine lM (.tuple #[(.agg #[.slice eo b2.1.1.length ep,.slice eq b2.1.2.1.length er,.slice es b2.1.2.2.length et]),.int .i64 b2.2])<|lV (.agg #[.slice eo b2.1.1.length ep,.slice eq b2.1.2.1.length er,.slice es b2.1.2.2.length et]) (Xu rfl rfl)<|lV (.int .i64 b2.2) (Xu rfl rfl)<|Xx (col:=hx) #[(nI),(nI),(.slice none (([]:List R1).length) 0)] 13 zeroValue58 ?_;intro ga kw d9 bw hy;refine Xf hy ?_;intro hz bx h0 az;refine go ?_;replace ag:=((ag.gr bj).gr bw).kp bx;refine lV _ (Z9 isAgg27 sizeOf27 ag)<|go ?_
 have h3:((.agg #[.string aa.1,.slice bn ((aa.2.1.2.take aa.2.1.1).length) bo,.slice bp aa.2.2.1.length bq,.slice br aa.2.2.2.1.length bs,.slice bt aa.2.2.2.2.length bu]):Value)=(.agg #[.string aa.1,(.slice bn (aa.1,aa.2.1.2.take aa.2.1.1,aa.2.2.1.map Z8,aa.2.2.2.1.map Z8,aa.2.2.2.2.map (Vb (Prod.map (Prod.map id Z8) Z8))).2.1.length bo),(.slice bp (aa.1,aa.2.1.2.take aa.2.1.1,aa.2.2.1.map Z8,aa.2.2.2.1.map Z8,aa.2.2.2.2.map (Vb (Prod.map (Prod.map id Z8) Z8))).2.2.1.length bq),(.slice br (aa.1,aa.2.1.2.take aa.2.1.1,aa.2.2.1.map Z8,aa.2.2.2.1.map Z8,aa.2.2.2.2.map (Vb (Prod.map (Prod.map id Z8) Z8))).2.2.2.1.length bs),(.slice bt (aa.1,aa.2.1.2.take aa.2.1.1,aa.2.2.1.map Z8,aa.2.2.2.1.map Z8,aa.2.2.2.2.map (Vb (Prod.map (Prod.map id Z8) Z8))).2.2.2.2.length bu)]):=by first | (simp only [aE];done) | simp only [aE,dK]
 obtain ⟨bz,h4,hm⟩:=bZ hm;replace ac:=((ac.gr bj).gr bw).kp bx;replace ad:=((ad.gr bj).gr bw).kp bx;replace ae:=((ae.gr bj).gr bw).kp bx;replace af:=((af.gr bj).gr bw).kp bx;replace am:=((am.gr bj).gr bw).kp bx;replace an:=((an.gr bj).gr bw).kp bx;refine lc rfl rfl (Zma call26 h3 rfl rfl) (Zm4 14 15 16 h4 (((ac.take aa.2.1.1).froz 8).froz 7) (((ad.froz 8).froz 7).weak Yk.view0) (((ae.froz 8).froz 7).weak Yk.view0) (((af.froz 8).froz 7).weak (Yk.view (Yk.pair (Yk.pair Yk.rfl Yk.view0) Yk.view0))) (((an.take (aA (a3.length:Int))).toSlF (Zh.int .i64)).froz 7) (((am.take bv.1).froz 8).toSlF (Zh.pair (Zh.int .i64) (Zh.int .i64))):) fun _ kx ⟨h5,eu,ew,ey,ez,e0,e1,e',a9,aq,ar,au⟩=>⟨_,e',?_⟩;replace aq:=aq.thaw (Z3 .i64) a9 (((Fz.refl (col:=d9)).froz 8).froz 7);replace ar:=ar.thaw (Z3 .i64) a9 (((Fz.refl (col:=d9)).froz 8).froz 7);replace au:=au.thaw (Zam (Zam Zkg (Zan (Z3 .u32))) (Zan (Z3 .u32))) a9 (((Fz.refl (col:=d9)).froz 8).froz 7);replace a9:=a9.thawR (col:=d9);generalize Xj hz.heap.size d9 h5=h6 at *;refine lM (.tuple #[(.agg #[.slice eu bz.1.1.length ew,.slice ey bz.1.2.1.length ez,.slice e0 bz.1.2.2.length e1]),.int .i64 bz.2])<|lV (.agg #[.slice eu bz.1.1.length ew,.slice ey bz.1.2.1.length ez,.slice e0 bz.1.2.2.length e1]) (Xu rfl rfl)<|lV (.int .i64 bz.2) (Xu rfl rfl)<|Xx (col:=h6) #[(nI),(nI),(.slice none (([]:List R1).length) 0)] 17 zeroValue58 ?_;intro gb ky c0 bd h7;refine Xf h7 ?_;intro h8 be h9 a0;refine Y4 rfl<|Zl<|Z0<|Z0 ?_;replace aj:=((((((((((((((aj.gr d6).kp d7).gr dx).gr cy).kp cz).gr cq).kpp cj).gr cf).kpp ck).gr bj).gr bw).kp bx).gr a9).gr bd).kp be;replace ak:=((((((((((((((ak.gr d6).kp d7).gr dx).gr cy).kp cz).gr cq).kpp cj).gr cf).kpp ck).gr bj).gr bw).kp bx).gr a9).gr bd).kp be
 replace al:=((((((((((((((al.gr d6).kp d7).gr dx).gr cy).kp cz).gr cq).kpp cj).gr cf).kpp ck).gr bj).gr bw).kp bx).gr a9).gr bd).kp be;replace ah:=((((((((((((ah.gr dx).gr cy).kp cz).gr cq).kpp cj).gr cf).kpp ck).gr bj).gr bw).kp bx).gr a9).gr bd).kp be;replace ai:=((((((((((((ai.gr dx).gr cy).kp cz).gr cq).kpp cj).gr cf).kpp ck).gr bj).gr bw).kp bx).gr a9).gr bd).kp be;replace ab:=((((((((ab.kpp cj).grow cf).kpp ck).grow bj).grow bw).kp bx h0).grow a9).grow bd).kp be h9;replace aw:=((((aw.gr bw).kp bx).gr a9).gr bd).kp be;replace ax:=((((ax.gr bw).kp bx).gr a9).gr bd).kp be;replace ay:=((((ay.gr bw).kp bx).gr a9).gr bd).kp be;replace ac:=((ac.gr a9).gr bd).kp be;replace ad:=((ad.gr a9).gr bd).kp be;replace ae:=((ae.gr a9).gr bd).kp be;replace af:=((af.gr a9).gr bd).kp be;replace am:=((am.gr a9).gr bd).kp be;replace an:=((an.gr a9).gr bd).kp be;replace ag:=((ag.gr a9).gr bd).kp be;replace az:=((az.gr a9).gr bd).kp be;replace aq:=(aq.gr bd).kp be;replace ar:=(ar.gr bd).kp be;replace au:=(au.gr bd).kp be
 refine Wp.cutK [] (fun f ba=>∃ bb fd,S0 N ao a3 ap aa bv b2 bz fd=some r∧St w0 (Zf col) bb ba∧Zc (Za.pair rI rI) 66 7 bb ba dy dz bv.2∧Zc rI 3 8 bb ba dg dh ((([]:List Int)++a3)++[(-81),(-82),(-83)])∧Zc rI 3 10 bb ba eo ep b2.1.1∧Zc rI 3 11 bb ba eq er b2.1.2.1∧Zc (rO 45) 42 12 bb ba es et b2.1.2.2∧Zj 58 13 bb ba ga #[.slice eo b2.1.1.length ep,.slice eq b2.1.2.1.length er,.slice es b2.1.2.2.length et]∧Zc rI 3 14 bb ba eu ew bz.1.1∧Zc rI 3 15 bb ba ey ez bz.1.2.1∧Zc (rO 45) 42 16 bb ba e0 e1 bz.1.2.2∧Zj 58 17 bb ba gb #[.slice eu bz.1.1.length ew,.slice ey bz.1.2.1.length ez,.slice e0 bz.1.2.2.length e1]∧Zj 27 1 bb ba c8 #[.string ao.1,.slice dp ao.2.1.length dq,.slice dr ao.2.2.1.length ds,.slice dt ao.2.2.2.1.length du,.slice dv ao.2.2.2.2.length dw]∧Zc rI 3 2 bb ba cr ct ap.1.1∧Zc rI 3 3 bb ba cu cv ap.1.2.1∧Zc (rO 45) 42 4 bb ba cw cx ap.1.2.2∧Zj 58 5 bb ba c9 #[.slice cr ap.1.1.length ct,.slice cu ap.1.2.1.length cv,.slice cw ap.1.2.2.length cx]∧Sl Za.str bb ba bn bo aa.2.1.2∧Sl (Za.view Za.str) bb ba bp bq aa.2.2.1∧Sl (Za.view rI) bb ba br bs aa.2.2.2.1∧Sl (Za.view (Za.pair (Za.pair Za.bool (Za.view rU)) (Za.view rU))) bb ba bt bu aa.2.2.2.2∧Zj 27 6 bb ba da #[.string aa.1,.slice bn ((aa.2.1.2.take aa.2.1.1).length) bo,.slice bp aa.2.2.1.length bq,.slice br aa.2.2.2.1.length bs,.slice bt aa.2.2.2.2.length bu]∧[1,10,116,12,13,15,3,7,9,1000000].map f=[.slice a1 a3.length e9,.slice dy ((bv.2.take bv.1).length) dz,.bool fd,.slice dg ((((([]:List Int)++a3)++[(-81),(-82),(-83)]).take (aA (a3.length:Int))).length) dh,.pointer (some ⟨ga,0,none⟩),.pointer (some ⟨gb,0,none⟩),.pointer (some ⟨c8,0,none⟩),.pointer (some ⟨c9,0,none⟩),.pointer (some ⟨da,0,none⟩),enc []]) ?_ ?_
 ·intro f ba hJ;obtain ⟨bb,fd,hm,ab,am,an,aw,ax,ay,az,aq,ar,au,a0,ah,aj,ak,al,ai,ac,ad,ae,af,ag,hs⟩:=hJ;rw [S0.eq_1] at hm;refine .lL [1,10,116,12,13,15,3,7,9,1000000] hs ?_;refine Zm hm (fun hb hm=>go ?_) fun hb hm=>go ?_
  ·cases hm;exact ⟨rfl,rfl,ab.below⟩
  refine lV _ (Z9 isAgg58 sizeOf58 az) ?_;obtain ⟨kz,ia,hm⟩:=bZ hm;refine Zk (Z4h 10 11 12 ia rfl aw ax ay) ?_;rintro _ ib ⟨ea,rfl,bk⟩;refine ⟨_,rfl,go ?_⟩;replace ag:=ag.kpp bk;refine lV _ (Z9 isAgg27 sizeOf27 ag)<|go ?_;have ic:((.agg #[.string aa.1,.slice bn ((aa.2.1.2.take aa.2.1.1).length) bo,.slice bp aa.2.2.1.length bq,.slice br aa.2.2.2.1.length bs,.slice bt aa.2.2.2.2.length bu]):Value)=(.agg #[.string aa.1,(.slice bn (aa.1,aa.2.1.2.take aa.2.1.1,aa.2.2.1.map Z8,aa.2.2.2.1.map Z8,aa.2.2.2.2.map (Vb (Prod.map (Prod.map id Z8) Z8))).2.1.length bo),(.slice bp (aa.1,aa.2.1.2.take aa.2.1.1,aa.2.2.1.map Z8,aa.2.2.2.1.map Z8,aa.2.2.2.2.map (Vb (Prod.map (Prod.map id Z8) Z8))).2.2.1.length bq),(.slice br (aa.1,aa.2.1.2.take aa.2.1.1,aa.2.2.1.map Z8,aa.2.2.2.1.map Z8,aa.2.2.2.2.map (Vb (Prod.map (Prod.map id Z8) Z8))).2.2.2.1.length bs),(.slice bt (aa.1,aa.2.1.2.take aa.2.1.1,aa.2.2.1.map Z8,aa.2.2.2.1.map Z8,aa.2.2.2.2.map (Vb (Prod.map (Prod.map id Z8) Z8))).2.2.2.2.length bu)]):=by first | (simp only [aE];done) | simp only [aE,dK]
  obtain ⟨db,ie,hm⟩:=bZ hm;replace am:=am.kpp bk;replace an:=an.kpp bk;replace ac:=ac.kpp bk;replace ad:=ad.kpp bk;replace ae:=ae.kpp bk;replace af:=af.kpp bk;refine lc rfl rfl (Zma call26 ic rfl rfl) (Zm4 18 19 20 ie (((ac.take aa.2.1.1).froz 8).froz 7) (((ad.froz 8).froz 7).weak Yk.view0) (((ae.froz 8).froz 7).weak Yk.view0) (((af.froz 8).froz 7).weak (Yk.view (Yk.pair (Yk.pair Yk.rfl Yk.view0) Yk.view0))) (((an.take (aA (a3.length:Int))).toSlF (Zh.int .i64)).froz 7) (((am.take bv.1).froz 8).toSlF (Zh.pair (Zh.int .i64) (Zh.int .i64))):) fun _ k0 ⟨ig,gc,gd,ge,gf,gg,gh,e',bc,di,dj,dk⟩=>⟨_,e',?_⟩;replace di:=di.thaw (Z3 .i64) bc (((Fz.refl (col:=ea)).froz 8).froz 7);replace dj:=dj.thaw (Z3 .i64) bc (((Fz.refl (col:=ea)).froz 8).froz 7);replace dk:=dk.thaw (Zam (Zam Zkg (Zan (Z3 .u32))) (Zan (Z3 .u32))) bc (((Fz.refl (col:=ea)).froz 8).froz 7);replace bc:=bc.thawR (col:=ea);generalize Xj ib.heap.size ea ig=ih at *;refine lM (.tuple #[(.agg #[.slice gc db.1.1.length gd,.slice ge db.1.2.1.length gf,.slice gg db.1.2.2.length gh]),.int .i64 db.2])<|lV (.agg #[.slice gc db.1.1.length gd,.slice ge db.1.2.1.length gf,.slice gg db.1.2.2.length gh]) (Xu rfl rfl)<|lV (.int .i64 db.2) (Xu rfl rfl)<|Xx (col:=ih) #[(nI),(nI),(.slice none (([]:List R1).length) 0)] 21 zeroValue58 ?_;intro k1 k2 dc bf ii;refine Xf ii ?_;intro ij bg ik fe;refine Y4 rfl<|Zl<|Z0<|Z0 ?_;replace aq:=(((aq.kpp bk).gr bc).gr bf).kp bg;replace ar:=(((ar.kpp bk).gr bc).gr bf).kp bg;replace au:=(((au.kpp bk).gr bc).gr bf).kp bg;replace aj:=(((aj.kpp bk).gr bc).gr bf).kp bg;replace ak:=(((ak.kpp bk).gr bc).gr bf).kp bg;replace al:=(((al.kpp bk).gr bc).gr bf).kp bg;replace a0:=(((a0.kpp bk).gr bc).gr bf).kp bg
  replace ah:=(((ah.kpp bk).gr bc).gr bf).kp bg;replace ai:=(((ai.kpp bk).gr bc).gr bf).kp bg;replace ab:=(((ab.kpp bk).grow bc).grow bf).kp bg ik;replace am:=((am.gr bc).gr bf).kp bg;replace an:=((an.gr bc).gr bf).kp bg;replace ac:=((ac.gr bc).gr bf).kp bg;replace ad:=((ad.gr bc).gr bf).kp bg;replace ae:=((ae.gr bc).gr bf).kp bg;replace af:=((af.gr bc).gr bf).kp bg;replace ag:=((ag.gr bc).gr bf).kp bg;replace di:=(di.gr bf).kp bg;replace dj:=(dj.gr bf).kp bg;replace dk:=(dk.gr bf).kp bg;refine Wp.cutK [] (fun f b9=>∃ ca ff,Zc6 N ao a3 aa bv ff=some r∧St w0 (Zf col) ca b9∧Zc (Za.pair rI rI) 66 7 ca b9 dy dz bv.2∧Zc rI 3 8 ca b9 dg dh ((([]:List Int)++a3)++[(-81),(-82),(-83)])∧Zj 27 1 ca b9 c8 #[.string ao.1,.slice dp ao.2.1.length dq,.slice dr ao.2.2.1.length ds,.slice dt ao.2.2.2.1.length du,.slice dv ao.2.2.2.2.length dw]∧Zc rI 3 2 ca b9 cr ct ap.1.1∧Zc rI 3 3 ca b9 cu cv ap.1.2.1∧Zc (rO 45) 42 4 ca b9 cw cx ap.1.2.2∧Zj 58 5 ca b9 c9 #[.slice cr ap.1.1.length ct,.slice cu ap.1.2.1.length cv,.slice cw ap.1.2.2.length cx]∧Sl Za.str ca b9 bn bo aa.2.1.2∧Sl (Za.view Za.str) ca b9 bp bq aa.2.2.1∧Sl (Za.view rI) ca b9 br bs aa.2.2.2.1∧Sl (Za.view (Za.pair (Za.pair Za.bool (Za.view rU)) (Za.view rU))) ca b9 bt bu aa.2.2.2.2∧Zj 27 6 ca b9 da #[.string aa.1,.slice bn ((aa.2.1.2.take aa.2.1.1).length) bo,.slice bp aa.2.2.1.length bq,.slice br aa.2.2.2.1.length bs,.slice bt aa.2.2.2.2.length bu]∧[10,12,151,3,7,9,1000000].map f=[.slice dy ((bv.2.take bv.1).length) dz,.slice dg ((((([]:List Int)++a3)++[(-81),(-82),(-83)]).take (aA (a3.length:Int))).length) dh,.bool ff,.pointer (some ⟨c8,0,none⟩),.pointer (some ⟨c9,0,none⟩),.pointer (some ⟨da,0,none⟩),enc []]) ?_ ?_
  ·intro f b9 hJ;obtain ⟨ca,ff,hm,ab,am,an,ah,aj,ak,al,ai,ac,ad,ae,af,ag,hs⟩:=hJ;rw [Zc6.eq_1] at hm;refine .lL [10,12,151,3,7,9,1000000] hs ?_;refine Zm hm (fun hb hm=>go ?_) fun hb hm=>go ?_
   ·cases hm;exact ⟨rfl,rfl,ab.below⟩
   refine Zs [] (fun n f b3=>∃ b0 dl dm c3 eb ec dn e2 d0,d0=n∧Zc7 N ao aa bv d0 c3 dn e2=some r∧St w0 (Zf col) b0 b3∧Zc (Za.pair rI rI) 66 7 b0 b3 dy dz bv.2∧Zc rI 3 8 b0 b3 dl dm c3∧Zc rI 3 22 b0 b3 eb ec dn∧Zj 27 1 b0 b3 c8 #[.string ao.1,.slice dp ao.2.1.length dq,.slice dr ao.2.2.1.length ds,.slice dt ao.2.2.2.1.length du,.slice dv ao.2.2.2.2.length dw]∧Zc rI 3 2 b0 b3 cr ct ap.1.1∧Zc rI 3 3 b0 b3 cu cv ap.1.2.1∧Zc (rO 45) 42 4 b0 b3 cw cx ap.1.2.2∧Zj 58 5 b0 b3 c9 #[.slice cr ap.1.1.length ct,.slice cu ap.1.2.1.length cv,.slice cw ap.1.2.2.length cx]∧Sl Za.str b0 b3 bn bo aa.2.1.2∧Sl (Za.view Za.str) b0 b3 bp bq aa.2.2.1∧Sl (Za.view rI) b0 b3 br bs aa.2.2.2.1∧Sl (Za.view (Za.pair (Za.pair Za.bool (Za.view rU)) (Za.view rU))) b0 b3 bt bu aa.2.2.2.2∧Zj 27 6 b0 b3 da #[.string aa.1,.slice bn ((aa.2.1.2.take aa.2.1.1).length) bo,.slice bp aa.2.2.1.length bq,.slice br aa.2.2.2.1.length bs,.slice bt aa.2.2.2.2.length bu]∧[10,12,20,21,3,7,9,1000000].map f=[.slice dy ((bv.2.take bv.1).length) dz,.slice dl c3.length dm,.slice eb dn.length ec,.int .i64 e2,.pointer (some ⟨c8,0,none⟩),.pointer (some ⟨c9,0,none⟩),.pointer (some ⟨da,0,none⟩),enc []]) N ⟨_,_,_,_,none,0,_,0,_,rfl,hm,ab,am,(an.take (aA (a3.length:Int))),Zc.nil,ah,aj,ak,al,ai,ac,ad,ae,af,ag,rfl⟩ ?_;clear hm;intro n f b3 hI;obtain ⟨b0,dl,dm,c3,eb,ec,dn,e2,d0,hn,hm,ab,am,bh,b1,ah,aj,ak,al,ai,ac,ad,ae,af,ag,hs⟩:=hI;subst hn;refine .lL [10,12,20,21,3,7,9,1000000] hs ?_
   cases d0 with
   | zero=>rw [Zc7.eq_1] at hm;cases hm
   | succ d0=>
    rw [Zc7.eq_2] at hm;refine go ?_;refine Zm hm (fun hb hm=>go ?_) fun hb hm=>go ?_
    ·obtain ⟨e3,d1,hm⟩:=bZ hm;refine lI d1 (bh.addr d1)<|lW (bh.atInt d1)<|lV (.int .i64 (U8 .i64 e3 1)) (Zzd e3 1 rfl rfl)<|lI d1 (bh.addr d1) ?_;obtain ⟨fg,e4,hm⟩:=bZ hm;have e4:fg=c3.set (aA e2) (U8 .i64 e3 1):=(Option.some.inj e4).symm;refine Wa (x1:=U8 .i64 e3 1) bh d1 ?_;intro k3 cg il d2;rw [← e4] at d2;refine .ld (d:=12) (v:=(.slice dl fg.length dm)) (congrArg (fun n=>Value.slice dl n dm) (show c3.length=fg.length by rw [e4,nS])) ?_;refine go ?_;obtain ⟨im,fh,hm⟩:=bZ hm;refine lI fh (d2.addr fh)<|lW (d2.atInt fh)<|Wj (col:=b0) [im] 23 ?_;intro k4 k5 k6 cb io;obtain ⟨ip,hm⟩:=Zv hm;replace b1:=(b1.kp cg).gr cb;refine Yy b1 (io.srcN (NB.int (k:=.i64))) ip ?_;intro k7 k8 k9 la ch iq;refine go ?_;replace am:=((am.kp cg).gr cb).kpp ch;replace aj:=((aj.kp cg).gr cb).kpp ch;replace ak:=((ak.kp cg).gr cb).kpp ch;replace al:=((al.kp cg).gr cb).kpp ch;replace ac:=((ac.kp cg).gr cb).kpp ch;replace ad:=((ad.kp cg).gr cb).kpp ch;replace ae:=((ae.kp cg).gr cb).kpp ch;replace af:=((af.kp cg).gr cb).kpp ch;replace ah:=((ah.kp cg).gr cb).kpp ch;replace ai:=((ai.kp cg).gr cb).kpp ch;replace ag:=((ag.kp cg).gr cb).kpp ch;replace ab:=((ab.kp cg il).grow cb).kpp ch;exact ⟨d0,by omega,rfl,⟨_,_,_,_,_,_,_,_,_,rfl,hm,ab,am,(d2.gr cb).kpp ch,iq,ah,aj,ak,al,ai,ac,ad,ae,af,ag,rfl⟩⟩
    refine Zs [] (fun n f bm=>∃ av ed ee d3 fi fj e5 e6 d4,d4=n∧Zav N ao aa c3 dn d4 d3 e5 e6=some r∧St w0 (Zf col) av bm∧Zc (Za.pair rI rI) 66 7 av bm ed ee d3∧Zc rI 3 8 av bm dl dm c3∧Zc rI 3 22 av bm eb ec dn∧Zc (Za.pair rI rI) 66 24 av bm fi fj e5∧Zj 27 1 av bm c8 #[.string ao.1,.slice dp ao.2.1.length dq,.slice dr ao.2.2.1.length ds,.slice dt ao.2.2.2.1.length du,.slice dv ao.2.2.2.2.length dw]∧Zc rI 3 2 av bm cr ct ap.1.1∧Zc rI 3 3 av bm cu cv ap.1.2.1∧Zc (rO 45) 42 4 av bm cw cx ap.1.2.2∧Zj 58 5 av bm c9 #[.slice cr ap.1.1.length ct,.slice cu ap.1.2.1.length cv,.slice cw ap.1.2.2.length cx]∧Sl Za.str av bm bn bo aa.2.1.2∧Sl (Za.view Za.str) av bm bp bq aa.2.2.1∧Sl (Za.view rI) av bm br bs aa.2.2.2.1∧Sl (Za.view (Za.pair (Za.pair Za.bool (Za.view rU)) (Za.view rU))) av bm bt bu aa.2.2.2.2∧Zj 27 6 av bm da #[.string aa.1,.slice bn ((aa.2.1.2.take aa.2.1.1).length) bo,.slice bp aa.2.2.1.length bq,.slice br aa.2.2.2.1.length bs,.slice bt aa.2.2.2.2.length bu]∧[10,12,20,22,23,3,7,9,1000000].map f=[.slice ed d3.length ee,.slice dl c3.length dm,.slice eb dn.length ec,.slice fi e5.length fj,.int .i64 e6,.pointer (some ⟨c8,0,none⟩),.pointer (some ⟨c9,0,none⟩),.pointer (some ⟨da,0,none⟩),enc []]) N ⟨_,_,_,_,none,0,_,0,_,rfl,hm,ab,(am.take bv.1),bh,b1,Zc.nil,ah,aj,ak,al,ai,ac,ad,ae,af,ag,rfl⟩ ?_;clear hm;intro n f bm hI;obtain ⟨av,ed,ee,d3,fi,fj,e5,e6,d4,hn,hm,ab,ci,bh,b1,d5,ah,aj,ak,al,ai,ac,ad,ae,af,ag,hs⟩:=hI;subst hn;refine .lL [10,12,20,22,23,3,7,9,1000000] hs ?_
    cases d4 with
    | zero=>rw [Zav.eq_1] at hm;cases hm
    | succ d4=>
     rw [Zav.eq_2] at hm;refine go ?_;refine Zm hm (fun hb hm=>go ?_) fun hb hm=>go ?_
     ·refine Wc (col:=av) [(0,1),(1,1),(2,1),(3,1),(4,1),(5,1),(6,0),(7,1),(8,1),(9,1),(10,1),(11,0),(12,1),(13,1),(14,1),(15,2)] (by kernel_rfl) (by kernel_rfl)<|xu rfl rfl (fun _=>Va rfl) ?_;refine xu rfl rfl (fun _=>Yz rfl) ?_;refine xu rfl rfl (fun _=>Va rfl) ?_;refine xu rfl rfl (fun _=>Yz rfl) ?_;obtain ⟨cl,cc,hm⟩:=bZ hm;refine xu rfl rfl (fun _=>Yv underlying56 sizeOf66 rfl rfl (Xe cc).1 (Xe cc).2.1 (ci.addr cc)) ?_;refine xF (X8 (ci.addr cc)) ?_;obtain ⟨_,ir,it⟩:=ci.atN cc;obtain ⟨_,_,rfl,iu,iv⟩:=ir.parts;obtain rfl:=iu.int;obtain rfl:=iv.int;refine xW (fun _ hC=>((it).nth (q:=0) rfl).gr (hC.bl av)) ?_;refine xu rfl rfl (fun _=>Va rfl) ?_;refine xu rfl rfl (fun _=>Yz rfl) ?_;refine xu rfl rfl (fun _=>Yv underlying56 sizeOf66 rfl rfl (Xe cc).1 (Xe cc).2.1 (ci.addr cc)) ?_;refine xF (X8 (ci.addr cc)) ?_;obtain ⟨_,iw,ix⟩:=ci.atN cc;obtain ⟨_,_,rfl,iy,iz⟩:=iw.parts;obtain rfl:=iy.int;obtain rfl:=iz.int;refine xW (fun _ hC=>((ix).nth (q:=1) rfl).gr (hC.bl av)) ?_;refine xu (v:=(.int .i64 (U8 .i64 cl.2 1))) rfl rfl (fun _=>Zzd cl.2 1 rfl rfl) ?_;refine xu (v:=(.agg #[.int .i64 cl.1,.int .i64 (U8 .i64 cl.2 1)])) rfl rfl (fun _=>Wl (l:=[_,_]) (qs:=[(0,1),(1,1)]) underlying66 zeroValue66 ⟨rfl,sizeOf3,rfl,sizeOf3,trivial⟩ rfl) ?_;refine xu rfl rfl (fun _=>Yv underlying56 sizeOf66 rfl rfl (Xe cc).1 (Xe cc).2.1 (ci.addr cc)) ?_;refine xe rfl rfl ?_;intro lb hC0;have hC:=hC0.bl av;obtain ⟨fk,e7,hm⟩:=bZ hm;have e7:fk=d3.set (aA e6) (cl.1,U8 .i64 cl.2 1):=(Option.some.inj e7).symm;replace ci:=ci.gr hC;refine Znm (x1:=(cl.1,U8 .i64 cl.2 1)) (v:=(.agg #[.int .i64 cl.1,.int .i64 (U8 .i64 cl.2 1)])) ci cc rfl sizeOf66 (Tg (Vn .i64 cl.1) (Vn .i64 (U8 .i64 cl.2 1))) rfl rfl (by decide) ?_;intro le cd i0 dd;rw [← e7] at dd;refine .ld (d:=10) (v:=(.slice ed fk.length ee)) (congrArg (fun n=>Value.slice ed n ee) (show d3.length=fk.length by rw [e7,nS])) ?_;refine Zl<|xk av<|Y0 ?_;replace bh:=(bh.gr hC).kp cd;replace b1:=(b1.gr hC).kp cd;replace d5:=(d5.gr hC).kp cd;replace aj:=(aj.gr hC).kp cd;replace ak:=(ak.gr hC).kp cd;replace al:=(al.gr hC).kp cd;replace ac:=(ac.gr hC).kp cd;replace ad:=(ad.gr hC).kp cd;replace ae:=(ae.gr hC).kp cd;replace af:=(af.gr hC).kp cd;replace ah:=(ah.gr hC).kp cd
      replace ai:=(ai.gr hC).kp cd;replace ag:=(ag.gr hC).kp cd;replace ab:=(ab.grow hC).kp cd i0;intro lf hC;replace hC:=hC.bl av;refine go ?_;obtain ⟨cn,fl,hm⟩:=bZ hm;replace dd:=dd.gr hC;refine lI fl (dd.addr fl) ?_;obtain ⟨_,i1,i2⟩:=dd.atN fl;obtain ⟨_,_,rfl,i3,i4⟩:=i1.parts;obtain rfl:=i3.int;obtain rfl:=i4.int;refine lV (.agg #[.int .i64 cn.1,.int .i64 cn.2]) (Ym isAgg66 sizeOf66 rfl rfl i2)<|Uo (col:=av) (r:=(Za.pair rI rI)) (xs:=[(cn.1,cn.2)]) [(.agg #[.int .i64 cn.1,.int .i64 cn.2])] 25 (W0.ofF (Rows.consF (r:=(Za.pair rI rI)) (x:=(cn.1,cn.2)) (cs:=[.int .i64 cn.1,.int .i64 cn.2]) (Tg (Vn .i64 cn.1) (Vn .i64 cn.2)) Rows.nil0)) ?_;intro lh li lj b4 i5;obtain ⟨i6,hm⟩:=Zv hm;replace d5:=(d5.gr hC).gr b4;refine Yy d5 (i5.srcN (NB.pair (NB.int (k:=.i64)) (NB.int (k:=.i64)))) i6 ?_;intro lk ll lm ln ce i7;refine go ?_;replace bh:=((bh.gr hC).gr b4).kpp ce;replace b1:=((b1.gr hC).gr b4).kpp ce;replace aj:=((aj.gr hC).gr b4).kpp ce;replace ak:=((ak.gr hC).gr b4).kpp ce;replace al:=((al.gr hC).gr b4).kpp ce;replace ac:=((ac.gr hC).gr b4).kpp ce;replace ad:=((ad.gr hC).gr b4).kpp ce;replace ae:=((ae.gr hC).gr b4).kpp ce;replace af:=((af.gr hC).gr b4).kpp ce;replace ah:=((ah.gr hC).gr b4).kpp ce;replace ai:=((ai.gr hC).gr b4).kpp ce;replace ag:=((ag.gr hC).gr b4).kpp ce;replace ab:=((ab.grow hC).grow b4).kpp ce;exact ⟨d4,by omega,rfl,⟨_,_,_,_,_,_,_,_,_,rfl,hm,ab,(dd.gr b4).kpp ce,bh,b1,i7,ah,aj,ak,al,ai,ac,ad,ae,af,ag,rfl⟩⟩
     refine lV _ (Z9 isAgg27 sizeOf27 ah)<|go ?_;obtain ⟨de,i8,hm⟩:=bZ hm;refine Zk (Zto 26 27 28 i8 (((c4.ks ab).froz 22).froz 24) (((c5.ks ab).froz 22).froz 24) (((c6.ks ab).froz 22).froz 24) (((c7.ks ab).froz 22).froz 24) ((b1.toSlF (Zh.int .i64)).froz 24) ((d5.froz 22).toSlF (Zh.pair (Zh.int .i64) (Zh.int .i64)))) fun _ lo ⟨i9,gi,gj,gk,gl,gm,gp,e',b5,ef,eg,eh⟩=>⟨_,e',?_⟩;replace ef:=ef.thaw (Z3 .i64) b5 (((Fz.refl (col:=av)).froz 22).froz 24);replace eg:=eg.thaw (Z3 .i64) b5 (((Fz.refl (col:=av)).froz 22).froz 24);replace eh:=eh.thaw (Zam (Zam Zkg (Zan (Z3 .u32))) (Zan (Z3 .u32))) b5 (((Fz.refl (col:=av)).froz 22).froz 24);replace b5:=b5.thawR (col:=av);generalize Xj bm.heap.size av i9=ei at *;refine lM (.tuple #[(.agg #[.slice gi de.1.1.length gj,.slice gk de.1.2.1.length gl,.slice gm de.1.2.2.length gp]),.int .i64 de.2])<|lV (.agg #[.slice gi de.1.1.length gj,.slice gk de.1.2.1.length gl,.slice gm de.1.2.2.length gp]) (Xu rfl rfl)<|lV (.int .i64 de.2) (Xu rfl rfl) ?_;replace ai:=ai.gr b5;refine Xf ai ?_;intro ja co jb fm;refine go ?_;replace ag:=(ag.gr b5).kp co;refine lV _ (Z9 isAgg27 sizeOf27 ag)<|go ?_;have jc:((.agg #[.string aa.1,.slice bn ((aa.2.1.2.take aa.2.1.1).length) bo,.slice bp aa.2.2.1.length bq,.slice br aa.2.2.2.1.length bs,.slice bt aa.2.2.2.2.length bu]):Value)=(.agg #[.string aa.1,(.slice bn (aa.1,aa.2.1.2.take aa.2.1.1,aa.2.2.1.map Z8,aa.2.2.2.1.map Z8,aa.2.2.2.2.map (Vb (Prod.map (Prod.map id Z8) Z8))).2.1.length bo),(.slice bp (aa.1,aa.2.1.2.take aa.2.1.1,aa.2.2.1.map Z8,aa.2.2.2.1.map Z8,aa.2.2.2.2.map (Vb (Prod.map (Prod.map id Z8) Z8))).2.2.1.length bq),(.slice br (aa.1,aa.2.1.2.take aa.2.1.1,aa.2.2.1.map Z8,aa.2.2.2.1.map Z8,aa.2.2.2.2.map (Vb (Prod.map (Prod.map id Z8) Z8))).2.2.2.1.length bs),(.slice bt (aa.1,aa.2.1.2.take aa.2.1.1,aa.2.2.1.map Z8,aa.2.2.2.1.map Z8,aa.2.2.2.2.map (Vb (Prod.map (Prod.map id Z8) Z8))).2.2.2.2.length bu)]):=by first | (simp only [aE];done) | simp only [aE,dK]
     obtain ⟨df,jd,hm⟩:=bZ hm;replace bh:=(bh.gr b5).kp co;replace ac:=(ac.gr b5).kp co;replace ad:=(ad.gr b5).kp co;replace ae:=(ae.gr b5).kp co;replace af:=(af.gr b5).kp co;refine lc rfl rfl (Zma call26 jc rfl rfl) (Zm4 29 30 31 jd (((ac.take aa.2.1.1).froz 8).froz 7) (((ad.froz 8).froz 7).weak Yk.view0) (((ae.froz 8).froz 7).weak Yk.view0) (((af.froz 8).froz 7).weak (Yk.view (Yk.pair (Yk.pair Yk.rfl Yk.view0) Yk.view0))) ((bh.toSlF (Zh.int .i64)).froz 7) ((((ci.gr b5).kp co).froz 8).toSlF (Zh.pair (Zh.int .i64) (Zh.int .i64))):) fun _ lq ⟨je,gs,gt,gu,gv,gw,gx,e',cp,ej,ek,el⟩=>⟨_,e',?_⟩;replace ej:=ej.thaw (Z3 .i64) cp (((Fz.refl (col:=ei)).froz 8).froz 7);replace ek:=ek.thaw (Z3 .i64) cp (((Fz.refl (col:=ei)).froz 8).froz 7);replace el:=el.thaw (Zam (Zam Zkg (Zan (Z3 .u32))) (Zan (Z3 .u32))) cp (((Fz.refl (col:=ei)).froz 8).froz 7);replace cp:=cp.thawR (col:=ei);generalize Xj ja.heap.size ei je=jf at *;refine lM (.tuple #[(.agg #[.slice gs df.1.1.length gt,.slice gu df.1.2.1.length gv,.slice gw df.1.2.2.length gx]),.int .i64 df.2])<|lV (.agg #[.slice gs df.1.1.length gt,.slice gu df.1.2.1.length gv,.slice gw df.1.2.2.length gx]) (Xu rfl rfl)<|lV (.int .i64 df.2) (Xu rfl rfl)<|Xx (col:=jf) #[(nI),(nI),(.slice none (([]:List R1).length) 0)] 32 zeroValue58 ?_;intro lr lw e8 c1 jg;refine Xf jg ?_;intro jh c2 ji jj;refine Y4 rfl<|Zl<|Z0 ?_;replace b1:=((((b1.gr b5).kp co).gr cp).gr c1).kp c2;replace ab:=((((ab.grow b5).kp co jb).grow cp).grow c1).kp c2 ji;replace bh:=((bh.gr cp).gr c1).kp c2;replace ek:=(ek.gr c1).kp c2
     refine Wp.cutK [1000000] (fun f gy=>∃ gz fn,Zhz fn=some r∧St w0 (Zf col) gz gy∧[6].map f=[.bool fn]) ?_ ?_
     ·intro f gy hJ;obtain ⟨gz,fn,hm,ab,hs⟩:=hJ;rw [Zhz.eq_1] at hm;refine .lL [6] hs<|Wh ?_;cases hm;exact ⟨rfl,rfl,ab.below⟩
     refine go ?_;refine Xn hm (fun fp hm=>go ?_) fun fp hm=>go ?_
     ·refine lV _ (Z9 isAgg58 sizeOf58 jj)<|go ?_;refine lV _ (Z9 isAgg58 sizeOf58 (((fm.gr cp).gr c1).kp c2))<|go ?_;obtain ⟨jk,jl,hm⟩:=bZ hm;refine Zk (Zkb jl ((((((((ej.gr c1).kp c2).toSlF (Zh.int .i64)).froz 30).froz 31).froz 26).froz 27).froz 28) ((((((ek.froz 29).toSlF (Zh.int .i64)).froz 31).froz 26).froz 27).froz 28) ((((((((el.gr c1).kp c2).froz 29).froz 30).toSlF (Zh.pair (Zh.pair Zh.bool (Zh.row (Zh.int .u32))) (Zh.row (Zh.int .u32)))).froz 26).froz 27).froz 28) ((((((((((ef.kp co).gr cp).gr c1).kp c2).froz 29).froz 30).froz 31).toSlF (Zh.int .i64)).froz 27).froz 28) ((((((((((eg.kp co).gr cp).gr c1).kp c2).froz 29).froz 30).froz 31).froz 26).toSlF (Zh.int .i64)).froz 28) ((((((((((eh.kp co).gr cp).gr c1).kp c2).froz 29).froz 30).froz 31).froz 26).froz 27).toSlF (Zh.pair (Zh.pair Zh.bool (Zh.row (Zh.int .u32))) (Zh.row (Zh.int .u32))))) fun _ g0 ⟨e',em⟩=>⟨_,e',?_⟩;replace em:Zn e8 jh e8 g0:=.of_below em;refine lV (.bool jk) (Zw (congrArg Value.bool fp) rfl)<|Xq rfl ?_;replace ab:=ab.grow em;refine Xn hm (fun fq hm=>go ?_) fun fq hm=>go ?_
      ·obtain ⟨jm,jn,hm⟩:=bZ hm;refine Zk (Zkc jn (((bh.gr em).toSlF (Zh.int .i64)).froz 22) (((b1.gr em).froz 8).toSlF (Zh.int .i64))) fun _ jo ⟨e',fr⟩=>⟨_,e',?_⟩;replace fr:Zn e8 g0 e8 jo:=.of_below fr;refine lV (.bool jm) (Zw (congrArg Value.bool fq) rfl)<|go ?_;replace ab:=ab.grow fr;exact ⟨rfl,_,_,hm,ab,rfl⟩
      refine lV (.bool false) (Xk (congrArg Value.bool fq) rfl)<|go ?_;exact ⟨rfl,_,_,hm,ab,rfl⟩
     refine lV (.bool false) (Xk (congrArg Value.bool fp) rfl)<|Xq rfl<|lP 223 rfl rfl<|lP 223 rfl rfl<|lP 223 rfl rfl<|lV (.bool false) (Xk rfl rfl)<|go ?_;exact ⟨rfl,_,_,hm,ab,rfl⟩
  refine go ?_;refine Xn hm (fun ft hm=>go ?_) fun ft hm=>go ?_
  ·refine lV (.bool true) (Zw (congrArg Value.bool ft) rfl)<|Xq rfl<|lP 134 rfl rfl<|lP 134 rfl rfl<|lP 134 rfl rfl<|lP 134 rfl rfl<|lV (.bool true) (Zw rfl rfl)<|Xq rfl<|lP 140 rfl rfl<|lP 140 rfl rfl<|lP 140 rfl rfl<|lP 140 rfl rfl<|lV (.bool true) (Zw rfl rfl)<|Xq rfl<|lP 146 rfl rfl<|lP 146 rfl rfl<|lP 146 rfl rfl<|lP 146 rfl rfl<|lV (.bool true) (Zw rfl rfl)<|Zl ?_;exact ⟨rfl,_,_,hm,ab,am,an,ah,aj,ak,al,ai,ac,ad,ae,af,ag,rfl⟩
  refine lV _ (Z9 isAgg58 sizeOf58 a0)<|go ?_;refine lV _ (Z9 isAgg58 sizeOf58 ai)<|go ?_;obtain ⟨jp,jq,hm⟩:=bZ hm;refine Zk (Zkb jq ((((((aq.toSlF (Zh.int .i64)).froz 15).froz 16).froz 2).froz 3).froz 4) ((((((ar.froz 14).toSlF (Zh.int .i64)).froz 16).froz 2).froz 3).froz 4) ((((((au.froz 14).froz 15).toSlF (Zh.pair (Zh.pair Zh.bool (Zh.row (Zh.int .u32))) (Zh.row (Zh.int .u32)))).froz 2).froz 3).froz 4) ((((((aj.froz 14).froz 15).froz 16).toSlF (Zh.int .i64)).froz 3).froz 4) ((((((ak.froz 14).froz 15).froz 16).froz 2).toSlF (Zh.int .i64)).froz 4) ((((((al.froz 14).froz 15).froz 16).froz 2).froz 3).toSlF (Zh.pair (Zh.pair Zh.bool (Zh.row (Zh.int .u32))) (Zh.row (Zh.int .u32))))) fun _ g1 ⟨e',bi⟩=>⟨_,e',?_⟩;replace bi:Zn dc ij dc g1:=.of_below bi;refine go ?_;refine lV (.bool (!jp)) (Xk (congrArg Value.bool ft) rfl)<|Xq rfl ?_;replace am:=am.gr bi;replace an:=an.gr bi;replace aj:=aj.gr bi;replace ak:=ak.gr bi;replace al:=al.gr bi;replace ac:=ac.gr bi;replace ad:=ad.gr bi;replace ae:=ae.gr bi;replace af:=af.gr bi;replace ah:=ah.gr bi;replace ai:=ai.gr bi;replace ag:=ag.gr bi;replace ab:=ab.grow bi;refine Xn hm (fun fu hm=>go ?_) fun fu hm=>go ?_
  ·refine lV (.bool true) (Zw (congrArg Value.bool fu) rfl)<|Xq rfl<|lP 140 rfl rfl<|lP 140 rfl rfl<|lP 140 rfl rfl<|lP 140 rfl rfl<|lV (.bool true) (Zw rfl rfl)<|Xq rfl<|lP 146 rfl rfl<|lP 146 rfl rfl<|lP 146 rfl rfl<|lP 146 rfl rfl<|lV (.bool true) (Zw rfl rfl)<|Zl ?_;exact ⟨rfl,_,_,hm,ab,am,an,ah,aj,ak,al,ai,ac,ad,ae,af,ag,rfl⟩
  refine lV _ (Z9 isAgg58 sizeOf58 (fe.gr bi))<|go ?_;refine lV _ (Z9 isAgg58 sizeOf58 ai)<|go ?_;obtain ⟨jr,js,hm⟩:=bZ hm;refine Zk (Zkb js (((((((di.gr bi).toSlF (Zh.int .i64)).froz 19).froz 20).froz 2).froz 3).froz 4) (((((((dj.gr bi).froz 18).toSlF (Zh.int .i64)).froz 20).froz 2).froz 3).froz 4) (((((((dk.gr bi).froz 18).froz 19).toSlF (Zh.pair (Zh.pair Zh.bool (Zh.row (Zh.int .u32))) (Zh.row (Zh.int .u32)))).froz 2).froz 3).froz 4) ((((((aj.froz 18).froz 19).froz 20).toSlF (Zh.int .i64)).froz 3).froz 4) ((((((ak.froz 18).froz 19).froz 20).froz 2).toSlF (Zh.int .i64)).froz 4) ((((((al.froz 18).froz 19).froz 20).froz 2).froz 3).toSlF (Zh.pair (Zh.pair Zh.bool (Zh.row (Zh.int .u32))) (Zh.row (Zh.int .u32))))) fun _ g2 ⟨e',b6⟩=>⟨_,e',?_⟩;replace b6:Zn dc g1 dc g2:=.of_below b6;refine go ?_;refine lV (.bool (!jr)) (Xk (congrArg Value.bool fu) rfl)<|Xq rfl ?_;replace am:=am.gr b6;replace an:=an.gr b6;replace aj:=aj.gr b6;replace ak:=ak.gr b6;replace al:=al.gr b6;replace ac:=ac.gr b6;replace ad:=ad.gr b6;replace ae:=ae.gr b6;replace af:=af.gr b6;replace ah:=ah.gr b6;replace ai:=ai.gr b6;replace ag:=ag.gr b6;replace ab:=ab.grow b6;refine Xn hm (fun fv hm=>go ?_) fun fv hm=>go ?_
  ·refine lV (.bool true) (Zw (congrArg Value.bool fv) rfl)<|Xq rfl<|lP 146 rfl rfl<|lP 146 rfl rfl<|lP 146 rfl rfl<|lP 146 rfl rfl<|lV (.bool true) (Zw rfl rfl)<|Zl ?_;exact ⟨rfl,_,_,hm,ab,am,an,ah,aj,ak,al,ai,ac,ad,ae,af,ag,rfl⟩
  refine lV _ (Z9 isAgg27 sizeOf27 ag)<|go ?_;refine lV _ (Z9 isAgg27 sizeOf27 ah)<|go ?_;obtain ⟨jt,ju,hm⟩:=bZ hm;refine Zk (Ztn ju ac ad ae af (c4.ks ab) (c5.ks ab) (c6.ks ab) (c7.ks ab)) fun _ g3 ⟨e',b7⟩=>⟨_,e',?_⟩;replace b7:Zn dc g2 dc g3:=.of_below b7;refine go ?_;refine lV (.bool (!jt)) (Xk (congrArg Value.bool fv) rfl)<|Xq rfl ?_;replace am:=am.gr b7;replace an:=an.gr b7;replace aj:=aj.gr b7;replace ak:=ak.gr b7;replace al:=al.gr b7;replace ac:=ac.gr b7;replace ad:=ad.gr b7;replace ae:=ae.gr b7;replace af:=af.gr b7;replace ah:=ah.gr b7;replace ai:=ai.gr b7;replace ag:=ag.gr b7;replace ab:=ab.grow b7;refine Xn hm (fun fw hm=>go ?_) fun fw hm=>go ?_
  ·refine lV (.bool true) (Zw (congrArg Value.bool fw) rfl)<|Zl ?_;exact ⟨rfl,_,_,hm,ab,am,an,ah,aj,ak,al,ai,ac,ad,ae,af,ag,rfl⟩
  obtain ⟨jv,jw,hm⟩:=bZ hm;refine Zk (Zkc jw ((an.take (aA (a3.length:Int))).toSlF (Zh.int .i64)) ((h1.ks ab).froz 8)) fun _ jx ⟨e',b8⟩=>⟨_,e',?_⟩;replace b8:Zn dc g3 dc jx:=.of_below b8;refine go ?_;refine lV (.bool (!jv)) (Xk (congrArg Value.bool fw) rfl)<|Zl ?_;replace am:=am.gr b8;replace an:=an.gr b8;replace aj:=aj.gr b8;replace ak:=ak.gr b8;replace al:=al.gr b8;replace ac:=ac.gr b8;replace ad:=ad.gr b8;replace ae:=ae.gr b8;replace af:=af.gr b8;replace ah:=ah.gr b8;replace ai:=ai.gr b8;replace ag:=ag.gr b8;replace ab:=ab.grow b8;exact ⟨rfl,_,_,hm,ab,am,an,ah,aj,ak,al,ai,ac,ad,ae,af,ag,rfl⟩
 refine go ?_;refine Xn hm (fun fx hm=>go ?_) fun fx hm=>go ?_
 ·refine lV (.bool true) (Zw (congrArg Value.bool fx) rfl)<|Xq rfl<|lP 70 rfl rfl<|lP 70 rfl rfl<|lP 70 rfl rfl<|lP 70 rfl rfl<|lV (.bool true) (Zw rfl rfl)<|Xq rfl<|lP 76 rfl rfl<|lP 76 rfl rfl<|lP 76 rfl rfl<|lP 76 rfl rfl<|lV (.bool true) (Zw rfl rfl)<|Xq rfl<|lP 82 rfl rfl<|lP 82 rfl rfl<|lP 82 rfl rfl<|lP 82 rfl rfl<|lV (.bool true) (Zw rfl rfl)<|Xq rfl<|lP 88 rfl rfl<|lP 88 rfl rfl<|lP 88 rfl rfl<|lP 88 rfl rfl<|lV (.bool true) (Zw rfl rfl)<|Xq rfl<|lP 94 rfl rfl<|lP 94 rfl rfl<|lP 94 rfl rfl<|lP 94 rfl rfl ?_;refine lV (.bool true) (Zw rfl rfl)<|Xq rfl<|lP 100 rfl rfl<|lP 100 rfl rfl<|lP 100 rfl rfl<|lP 100 rfl rfl<|lP 100 rfl rfl<|lP 100 rfl rfl<|lV (.bool true) (Zw rfl rfl)<|Xq rfl<|lP 108 rfl rfl<|lP 108 rfl rfl<|lP 108 rfl rfl<|lP 108 rfl rfl<|lP 108 rfl rfl<|lP 108 rfl rfl<|lP 108 rfl rfl<|lV (.bool true) (Zw rfl rfl)<|Zl ?_;exact ⟨rfl,_,_,hm,ab,am,an,aw,ax,ay,az,aq,ar,au,a0,ah,aj,ak,al,ai,ac,ad,ae,af,ag,rfl⟩
 refine lV (.bool (!decide (bz.2=ap.2))) (Xk (congrArg Value.bool fx) rfl)<|Xq rfl ?_;refine Xn hm (fun fy hm=>go ?_) fun fy hm=>go ?_
 ·refine lV (.bool true) (Zw (congrArg Value.bool fy) rfl)<|Xq rfl<|lP 76 rfl rfl<|lP 76 rfl rfl<|lP 76 rfl rfl<|lP 76 rfl rfl<|lV (.bool true) (Zw rfl rfl)<|Xq rfl<|lP 82 rfl rfl<|lP 82 rfl rfl<|lP 82 rfl rfl<|lP 82 rfl rfl<|lV (.bool true) (Zw rfl rfl)<|Xq rfl<|lP 88 rfl rfl<|lP 88 rfl rfl<|lP 88 rfl rfl<|lP 88 rfl rfl<|lV (.bool true) (Zw rfl rfl)<|Xq rfl<|lP 94 rfl rfl<|lP 94 rfl rfl<|lP 94 rfl rfl<|lP 94 rfl rfl<|lV (.bool true) (Zw rfl rfl)<|Xq rfl<|lP 100 rfl rfl<|lP 100 rfl rfl<|lP 100 rfl rfl<|lP 100 rfl rfl ?_;refine lP 100 rfl rfl<|lP 100 rfl rfl<|lV (.bool true) (Zw rfl rfl)<|Xq rfl<|lP 108 rfl rfl<|lP 108 rfl rfl<|lP 108 rfl rfl<|lP 108 rfl rfl<|lP 108 rfl rfl<|lP 108 rfl rfl<|lP 108 rfl rfl<|lV (.bool true) (Zw rfl rfl)<|Zl ?_;exact ⟨rfl,_,_,hm,ab,am,an,aw,ax,ay,az,aq,ar,au,a0,ah,aj,ak,al,ai,ac,ad,ae,af,ag,rfl⟩
 refine lV _ (Z9 isAgg58 sizeOf58 az)<|go ?_;refine lV _ (Z9 isAgg58 sizeOf58 ai)<|go ?_;obtain ⟨jy,jz,hm⟩:=bZ hm;refine Zk (Zkb jz ((((((aw.toSlF (Zh.int .i64)).froz 11).froz 12).froz 2).froz 3).froz 4) ((((((ax.froz 10).toSlF (Zh.int .i64)).froz 12).froz 2).froz 3).froz 4) ((((((ay.froz 10).froz 11).toSlF (Zh.pair (Zh.pair Zh.bool (Zh.row (Zh.int .u32))) (Zh.row (Zh.int .u32)))).froz 2).froz 3).froz 4) ((((((aj.froz 10).froz 11).froz 12).toSlF (Zh.int .i64)).froz 3).froz 4) ((((((ak.froz 10).froz 11).froz 12).froz 2).toSlF (Zh.int .i64)).froz 4) ((((((al.froz 10).froz 11).froz 12).froz 2).froz 3).toSlF (Zh.pair (Zh.pair Zh.bool (Zh.row (Zh.int .u32))) (Zh.row (Zh.int .u32))))) fun _ g4 ⟨e',a4⟩=>⟨_,e',?_⟩;replace a4:Zn c0 h8 c0 g4:=.of_below a4;refine go ?_;refine lV (.bool (!jy)) (Xk (congrArg Value.bool fy) rfl)<|Xq rfl ?_;replace aj:=aj.gr a4;replace ak:=ak.gr a4;replace al:=al.gr a4;replace ac:=ac.gr a4;replace ad:=ad.gr a4;replace ae:=ae.gr a4;replace af:=af.gr a4;replace am:=am.gr a4;replace an:=an.gr a4;replace aw:=aw.gr a4;replace ax:=ax.gr a4;replace ay:=ay.gr a4;replace aq:=aq.gr a4;replace ar:=ar.gr a4;replace au:=au.gr a4;replace ah:=ah.gr a4;replace ai:=ai.gr a4;replace ag:=ag.gr a4;replace az:=az.gr a4;replace a0:=a0.gr a4;replace ab:=ab.grow a4;refine Xn hm (fun fz hm=>go ?_) fun fz hm=>go ?_
 ·refine lV (.bool true) (Zw (congrArg Value.bool fz) rfl)<|Xq rfl<|lP 82 rfl rfl<|lP 82 rfl rfl<|lP 82 rfl rfl<|lP 82 rfl rfl<|lV (.bool true) (Zw rfl rfl)<|Xq rfl<|lP 88 rfl rfl<|lP 88 rfl rfl<|lP 88 rfl rfl<|lP 88 rfl rfl<|lV (.bool true) (Zw rfl rfl)<|Xq rfl<|lP 94 rfl rfl<|lP 94 rfl rfl<|lP 94 rfl rfl<|lP 94 rfl rfl<|lV (.bool true) (Zw rfl rfl)<|Xq rfl<|lP 100 rfl rfl<|lP 100 rfl rfl<|lP 100 rfl rfl<|lP 100 rfl rfl<|lP 100 rfl rfl<|lP 100 rfl rfl<|lV (.bool true) (Zw rfl rfl)<|Xq rfl<|lP 108 rfl rfl<|lP 108 rfl rfl ?_;refine lP 108 rfl rfl<|lP 108 rfl rfl<|lP 108 rfl rfl<|lP 108 rfl rfl<|lP 108 rfl rfl<|lV (.bool true) (Zw rfl rfl)<|Zl ?_;exact ⟨rfl,_,_,hm,ab,am,an,aw,ax,ay,az,aq,ar,au,a0,ah,aj,ak,al,ai,ac,ad,ae,af,ag,rfl⟩
 refine lV _ (Z9 isAgg58 sizeOf58 a0)<|go ?_;refine lV _ (Z9 isAgg58 sizeOf58 ai)<|go ?_;obtain ⟨j0,j1,hm⟩:=bZ hm;refine Zk (Zkb j1 ((((((aq.toSlF (Zh.int .i64)).froz 15).froz 16).froz 2).froz 3).froz 4) ((((((ar.froz 14).toSlF (Zh.int .i64)).froz 16).froz 2).froz 3).froz 4) ((((((au.froz 14).froz 15).toSlF (Zh.pair (Zh.pair Zh.bool (Zh.row (Zh.int .u32))) (Zh.row (Zh.int .u32)))).froz 2).froz 3).froz 4) ((((((aj.froz 14).froz 15).froz 16).toSlF (Zh.int .i64)).froz 3).froz 4) ((((((ak.froz 14).froz 15).froz 16).froz 2).toSlF (Zh.int .i64)).froz 4) ((((((al.froz 14).froz 15).froz 16).froz 2).froz 3).toSlF (Zh.pair (Zh.pair Zh.bool (Zh.row (Zh.int .u32))) (Zh.row (Zh.int .u32))))) fun _ g5 ⟨e',a5⟩=>⟨_,e',?_⟩;replace a5:Zn c0 g4 c0 g5:=.of_below a5;refine go ?_;refine lV (.bool (!j0)) (Xk (congrArg Value.bool fz) rfl)<|Xq rfl ?_;replace aj:=aj.gr a5;replace ak:=ak.gr a5;replace al:=al.gr a5;replace ac:=ac.gr a5;replace ad:=ad.gr a5;replace ae:=ae.gr a5;replace af:=af.gr a5;replace am:=am.gr a5;replace an:=an.gr a5;replace aw:=aw.gr a5;replace ax:=ax.gr a5;replace ay:=ay.gr a5;replace aq:=aq.gr a5;replace ar:=ar.gr a5;replace au:=au.gr a5;replace ah:=ah.gr a5;replace ai:=ai.gr a5;replace ag:=ag.gr a5;replace az:=az.gr a5;replace a0:=a0.gr a5;replace ab:=ab.grow a5;refine Xn hm (fun f0 hm=>go ?_) fun f0 hm=>go ?_
 ·refine lV (.bool true) (Zw (congrArg Value.bool f0) rfl)<|Xq rfl<|lP 88 rfl rfl<|lP 88 rfl rfl<|lP 88 rfl rfl<|lP 88 rfl rfl<|lV (.bool true) (Zw rfl rfl)<|Xq rfl<|lP 94 rfl rfl<|lP 94 rfl rfl<|lP 94 rfl rfl<|lP 94 rfl rfl<|lV (.bool true) (Zw rfl rfl)<|Xq rfl<|lP 100 rfl rfl<|lP 100 rfl rfl<|lP 100 rfl rfl<|lP 100 rfl rfl<|lP 100 rfl rfl<|lP 100 rfl rfl<|lV (.bool true) (Zw rfl rfl)<|Xq rfl<|lP 108 rfl rfl<|lP 108 rfl rfl<|lP 108 rfl rfl<|lP 108 rfl rfl<|lP 108 rfl rfl<|lP 108 rfl rfl<|lP 108 rfl rfl<|lV (.bool true) (Zw rfl rfl) ?_;refine Zl ?_;exact ⟨rfl,_,_,hm,ab,am,an,aw,ax,ay,az,aq,ar,au,a0,ah,aj,ak,al,ai,ac,ad,ae,af,ag,rfl⟩
 refine lV _ (Z9 isAgg27 sizeOf27 ag)<|go ?_;refine lV _ (Z9 isAgg27 sizeOf27 ah)<|go ?_;obtain ⟨j2,j3,hm⟩:=bZ hm;refine Zk (Ztn j3 ac ad ae af (c4.ks ab) (c5.ks ab) (c6.ks ab) (c7.ks ab)) fun _ g6 ⟨e',a6⟩=>⟨_,e',?_⟩;replace a6:Zn c0 g5 c0 g6:=.of_below a6;refine go ?_;refine lV (.bool (!j2)) (Xk (congrArg Value.bool f0) rfl)<|Xq rfl ?_;replace aj:=aj.gr a6;replace ak:=ak.gr a6;replace al:=al.gr a6;replace ac:=ac.gr a6;replace ad:=ad.gr a6;replace ae:=ae.gr a6;replace af:=af.gr a6;replace am:=am.gr a6;replace an:=an.gr a6;replace aw:=aw.gr a6;replace ax:=ax.gr a6;replace ay:=ay.gr a6;replace aq:=aq.gr a6;replace ar:=ar.gr a6;replace au:=au.gr a6;replace ah:=ah.gr a6;replace ai:=ai.gr a6;replace ag:=ag.gr a6;replace az:=az.gr a6;replace a0:=a0.gr a6;replace ab:=ab.grow a6;refine Xn hm (fun f1 hm=>go ?_) fun f1 hm=>go ?_
 ·refine lV (.bool true) (Zw (congrArg Value.bool f1) rfl)<|Xq rfl<|lP 94 rfl rfl<|lP 94 rfl rfl<|lP 94 rfl rfl<|lP 94 rfl rfl<|lV (.bool true) (Zw rfl rfl)<|Xq rfl<|lP 100 rfl rfl<|lP 100 rfl rfl<|lP 100 rfl rfl<|lP 100 rfl rfl<|lP 100 rfl rfl<|lP 100 rfl rfl<|lV (.bool true) (Zw rfl rfl)<|Xq rfl<|lP 108 rfl rfl<|lP 108 rfl rfl<|lP 108 rfl rfl<|lP 108 rfl rfl<|lP 108 rfl rfl<|lP 108 rfl rfl<|lP 108 rfl rfl<|lV (.bool true) (Zw rfl rfl)<|Zl ?_;exact ⟨rfl,_,_,hm,ab,am,an,aw,ax,ay,az,aq,ar,au,a0,ah,aj,ak,al,ai,ac,ad,ae,af,ag,rfl⟩
 obtain ⟨j4,j5,hm⟩:=bZ hm;refine Zk (Z22 j5 (am.toSlF (Zh.pair (Zh.int .i64) (Zh.int .i64))) ((h2.ks ab).froz 7)) fun _ g7 ⟨e',a7⟩=>⟨_,e',?_⟩;replace a7:Zn c0 g6 c0 g7:=.of_below a7;refine go ?_;refine lV (.bool (!j4)) (Xk (congrArg Value.bool f1) rfl)<|Xq rfl ?_;replace aj:=aj.gr a7;replace ak:=ak.gr a7;replace al:=al.gr a7;replace ac:=ac.gr a7;replace ad:=ad.gr a7;replace ae:=ae.gr a7;replace af:=af.gr a7;replace am:=am.gr a7;replace an:=an.gr a7;replace aw:=aw.gr a7;replace ax:=ax.gr a7;replace ay:=ay.gr a7;replace aq:=aq.gr a7;replace ar:=ar.gr a7;replace au:=au.gr a7;replace ah:=ah.gr a7;replace ai:=ai.gr a7;replace ag:=ag.gr a7;replace az:=az.gr a7;replace a0:=a0.gr a7;replace ab:=ab.grow a7;refine Xn hm (fun f2 hm=>go ?_) fun f2 hm=>go ?_
 ·refine lV (.bool true) (Zw (congrArg Value.bool f2) rfl)<|Xq rfl<|lP 100 rfl rfl<|lP 100 rfl rfl<|lP 100 rfl rfl<|lP 100 rfl rfl<|lP 100 rfl rfl<|lP 100 rfl rfl<|lV (.bool true) (Zw rfl rfl)<|Xq rfl<|lP 108 rfl rfl<|lP 108 rfl rfl<|lP 108 rfl rfl<|lP 108 rfl rfl<|lP 108 rfl rfl<|lP 108 rfl rfl<|lP 108 rfl rfl<|lV (.bool true) (Zw rfl rfl)<|Zl ?_;exact ⟨rfl,_,_,hm,ab,am,an,aw,ax,ay,az,aq,ar,au,a0,ah,aj,ak,al,ai,ac,ad,ae,af,ag,rfl⟩
 obtain ⟨j6,j7,hm⟩:=bZ hm;refine Zk (Zkc j7 ((an.take (aA (a3.length:Int))).toSlF (Zh.int .i64)) ((h1.ks ab).froz 8)) fun _ j8 ⟨e',a8⟩=>⟨_,e',?_⟩;replace a8:Zn c0 g7 c0 j8:=.of_below a8;refine go ?_;refine lV (.bool (!j6)) (Xk (congrArg Value.bool f2) rfl)<|Xq rfl ?_;replace aj:=aj.gr a8;replace ak:=ak.gr a8;replace al:=al.gr a8;replace ac:=ac.gr a8;replace ad:=ad.gr a8;replace ae:=ae.gr a8;replace af:=af.gr a8;replace am:=am.gr a8;replace an:=an.gr a8;replace aw:=aw.gr a8;replace ax:=ax.gr a8;replace ay:=ay.gr a8;replace aq:=aq.gr a8;replace ar:=ar.gr a8;replace au:=au.gr a8;replace ah:=ah.gr a8;replace ai:=ai.gr a8;replace ag:=ag.gr a8;replace az:=az.gr a8;replace a0:=a0.gr a8;replace ab:=ab.grow a8;refine Xn hm (fun f3 hm=>go ?_) fun f3 hm=>go ?_
 ·refine lV (.bool true) (Zw (congrArg Value.bool f3) rfl)<|Xq rfl<|lP 108 rfl rfl<|lP 108 rfl rfl<|lP 108 rfl rfl<|lP 108 rfl rfl<|lP 108 rfl rfl<|lP 108 rfl rfl<|lP 108 rfl rfl<|lV (.bool true) (Zw rfl rfl)<|Zl ?_;exact ⟨rfl,_,_,hm,ab,am,an,aw,ax,ay,az,aq,ar,au,a0,ah,aj,ak,al,ai,ac,ad,ae,af,ag,rfl⟩
 obtain ⟨j9,f4,hm⟩:=bZ hm;refine lI f4 (an.addr f4) ?_;refine go ?_;refine lW (an.atInt f4)<|go ?_;refine lV (.bool (!decide (j9=(-81)))) (Xk (congrArg Value.bool f3) rfl)<|Xq rfl ?_;refine Xn hm (fun f5 hm=>go ?_) fun f5 hm=>go ?_
 ·refine lV (.bool true) (Zw (congrArg Value.bool f5) rfl)<|Zl ?_;exact ⟨rfl,_,_,hm,ab,am,an,aw,ax,ay,az,aq,ar,au,a0,ah,aj,ak,al,ai,ac,ad,ae,af,ag,rfl⟩
 obtain ⟨ka,f6,hm⟩:=bZ hm;refine lI f6 (an.addr f6) ?_;refine go ?_;refine lW (an.atInt f6)<|go ?_;refine lV (.bool (!decide (ka=(-83)))) (Xk (congrArg Value.bool f5) rfl)<|Zl ?_;exact ⟨rfl,_,_,hm,ab,am,an,aw,ax,ay,az,aq,ar,au,a0,ah,aj,ak,al,ai,ac,ad,ae,af,ag,rfl⟩

end Go.Proofs.YthclpfhncgpnmaaGreat
