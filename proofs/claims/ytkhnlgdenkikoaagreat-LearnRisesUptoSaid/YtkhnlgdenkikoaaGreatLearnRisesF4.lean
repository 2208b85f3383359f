/-
  What functions of the program compute, as plain Lean functions (m_..), and proofs that they compute it (c_..). Printed by a program of the author; no conditions.
-/
import Derived.Test.YtkhnlgdenkikoaaGreatLearnRisesBFloat
import Derived.Test.YtkhnlgdenkikoaaGreatProg
import Derived.Test.YtkhnlgdenkikoaaGreatLearnRisesBBrief
import Derived.Test.YtkhnlgdenkikoaaGreatLearnRisesBMixD
import Derived.Test.YtkhnlgdenkikoaaGreatLearnRisesBThree
import Derived.Test.YtkhnlgdenkikoaaGreatLearnRisesBView
import Derived.Test.YtkhnlgdenkikoaaGreatLearnRisesF3
set_option linter.unusedVariables false
set_option maxRecDepth 100000
set_option maxHeartbeats 2000000
namespace Go.Proofs.YtkhnlgdenkikoaaGreat
open Go Go.RowKit
open List renaming drop_eq_nil_iff→aH,replicate→aM,all_cons→eA,mem_cons→aP,ext_getElem→kO,length_replicate→bD,length_map→aI,length_range→bW,getElem_map→cC,getElem_range→eT,nil_append→aV,mem_cons_self→aC,cons_append→bY,mem_cons_of_mem→aB,append_nil→dD,countP_le_length→jQ,length_singleton→aL,append_assoc→bG,singleton_append→dS,length_drop→bI,length_take→cX,not_mem_nil→bL,mem_map→bO,replicate_succ→iA,map_nil→bN,map→eL,getElem_mem→aG,take_succ_eq_append_getElem→cA,take_of_length_le→bP,take_zero→eX,map_cons→aQ,mem_of_mem_drop→cM,mem_of_mem_take→cR,drop_zero→aT,map_take→iE,map_drop→iF,perm_cons_erase→jV,length_erase_of_mem→jC,mem_of_mem_erase→jR,mem_append→bE,map_congr_left→eQ,take_append_drop→dM,length_eq_zero_iff→eV,drop_drop→dR
open Nat renaming lt_of_lt_of_le→aF,add_zero→bQ,beq→aJ,zero_le→bK,sub_self→fO,le_mul_of_pos_left→eF,add_assoc→dW,zero_mul→cT,add_mul→aZ,one_mul→aX,add_comm→eW
open Int renaming toNat→aA,natCast_mul→bU,natCast_add→eB,toNat_natCast→aD
open Rat renaming add_zero→gY,not_le→gB,lt_irrefl→dO,div_def→bS,zero_mul→dC,natCast_add→hH,add_mul→gM,not_lt→fI,mul_inv_cancel→cN,mul_nonneg→bV,le_refl→cS,mul_one→bR,mul_le_mul_of_nonneg_right→cD,mul_assoc→bH,le_trans→eO,mul_le_mul_of_nonneg_left→fF,add_nonneg→jJ,natCast_le_natCast→gQ,mul_comm→iN,one_mul→cZ,inv_mul_cancel→iG,natCast_inj→eH
open Go.IntKind (i8 i16 i32 i64 u8 u16 u32 u64)
open Go.Proofs.Tryz

def Zg3 (aa:Nat) (kk_L2:(Nat→Option Int)) (ab:Bool):Option Int:=
  if ab=true then (some 71) else (kk_L2 (aa+1))
def Za7 (ab:R0) (kk_L1:(Option Int)):List Int→Nat→Option Int
  | [],aa=>kk_L1
  | ac :: ad,aa=>if (decide (ac<(-1)))=true then (Zg3 aa (Za7 ab kk_L1 ad) true) else ((Zm ab.2.2.1 (aa:Int)).bind fun ae=>Zg3 aa (Za7 ab kk_L1 ad) (decide ((ae.length:Int)≤ac)))
termination_by structural x=>x
def Za6 (aa:R0):List R2→Option Int
  | []=>some 0
  | ab :: ac=>if (!decide ((ab.length:Int)=(aa.2.1.length:Int)))=true then (some 71) else (Za7 aa (Za6 aa ac) ab 0)
termination_by structural x=>x
def Zc7 (N:Nat) (aa:R0) (ac:R6):Option Int:=
  (W1 N (aa.1,aa.2.1,aa.2.2.1,aa.2.2.2.1,aa.2.2.2.2)).bind fun ab=>if (!decide (ab=0))=true then (some ab) else (Za6 aa ac)
theorem Ztx {N ai aj ak al bc:Nat} {am an ao ap a1:Option Addr} {col:Ze} {w0:World} {aa:R0} {ae:R6} {r:Int} (hm:Zc7 N aa ae=some r) (a2:Sl Za.str col w0 am ai aa.2.1) (aq:Sl (Za.slice Za.str) col w0 an aj aa.2.2.1) (a3:Sl (Za.slice (Za.int .i64)) col w0 ao ak aa.2.2.2.1) (a4:Sl (Za.slice (Za.pair (Za.pair Za.bool (Za.slice (Za.int .u32))) (Za.slice (Za.int .u32)))) col w0 ap al aa.2.2.2.2) (h1:Sl (Za.slice (Za.int .i64)) col w0 a1 bc ae):
    Calls prog 106 #[(.agg #[.string aa.1,.slice am aa.2.1.length ai,.slice an aa.2.2.1.length aj,.slice ao aa.2.2.2.1.length ak,.slice ap aa.2.2.2.2.length al]),.slice a1 ae.length bc] w0 (fun e w'=>e= .returned ((.int .i64 r))∧Below w0.heap.size w0 w'):=by
 refine Xl 4 (m:=48) func106 rfl rfl rfl rfl rfl ?_;rw [Zc7.eq_1] at hm;have ab:=St.start col w0;refine go ?_;refine Xs (col:=(Zk col)) 1 rfl ?_;intro a5 bh bd bi ac;refine go ?_;refine lV _ (Xd isAgg27 sizeOf27 ac) ?_;obtain ⟨bw,bj,hm⟩:=bZ hm;replace a2:=a2.keep (Zi.start col w0);replace aq:=aq.keep (Zi.start col w0);replace a3:=a3.keep (Zi.start col w0);replace a4:=a4.keep (Zi.start col w0);replace ab:=ab.grow bi;refine Zj (Zjc bj (a2.ks ab) (aq.ks ab) (a3.ks ab) (a4.ks ab)) ?_;rintro _ bk ⟨rfl,aw⟩;refine ⟨_,rfl,?_⟩;replace aw:Zh bd bh bd bk:=.of_below aw;refine go ?_;replace h1:=h1.keep (Zi.start col w0);replace ac:=ac.gr aw;replace ab:=ab.grow aw;refine Zq hm (fun hb hm=>go ?_) fun hb hm=>go ?_
 ·cases hm;exact ⟨rfl,rfl,ab.below⟩
 refine Z4 [15,16,2,1000000] (fun n f a6=>∃ a7 ar au,n=au.length∧ae.drop ar=au∧Za6 aa au=some r∧St w0 (Zk col) a7 a6∧Zf 27 1 a7 a6 a5 #[.string aa.1,.slice am aa.2.1.length ai,.slice an aa.2.2.1.length aj,.slice ao aa.2.2.2.1.length ak,.slice ap aa.2.2.2.2.length al]∧[17].map f=[.int .i64 ar]) ae.length ⟨_,0,_,rfl,rfl,hm,ab,ac,rfl⟩ ?_;clear hm;intro n f a6 hI;obtain ⟨a7,ar,au,hn,hl,hm,ab,ac,hs⟩:=hI;subst hn;refine .lL [17] hs ?_
 cases au with
 | nil=>
  have hk:¬ ((ar:Int)<(ae.length:Int)):=by have:=aH.1 hl;omega
  have hkb:=decide_eq_false hk;rw [Za6.eq_1] at hm;refine go ?_;refine X2 (congrArg Value.bool hkb)<|go ?_;cases hm;exact ⟨rfl,rfl,ab.below⟩
 | cons ah a8=>
  obtain ⟨af,bm,bn⟩:=Yd hl;have hk:(ar:Int)<(ae.length:Int):=by omega
  have hkb:=decide_eq_true hk;rw [Za6.eq_2] at hm;refine go ?_;refine X3 (congrArg Value.bool hkb)<|go ?_;refine lI af ((h1.ks ab).addr af) ?_;obtain ⟨_,bo,bp⟩:=(h1.ks ab).atN af;obtain ⟨⟨be,bf,rfl,ad⟩,_⟩:=bo;refine lW bp.one<|go ?_;refine Xk ac ?_;refine go ?_;refine Zq hm (fun hb hm=>go ?_) fun hb hm=>go ?_
  ·cases hm;exact ⟨rfl,rfl,ab.below⟩
  refine Z4 [15,16,17,2,27,28,1000000] (fun n f ax=>∃ ay ag av,n=av.length∧ah.drop ag=av∧Za7 aa (Za6 aa a8) av ag=some r∧St w0 (Zk col) ay ax∧Zf 27 1 ay ax a5 #[.string aa.1,.slice am aa.2.1.length ai,.slice an aa.2.2.1.length aj,.slice ao aa.2.2.2.1.length ak,.slice ap aa.2.2.2.2.length al]∧Sl (Za.int .i64) ay ax be bf ah∧[29].map f=[.int .i64 ag]) ah.length ⟨_,0,_,rfl,rfl,hm,ab,ac,ad,rfl⟩ ?_;clear hm;intro n f ax hI;obtain ⟨ay,ag,av,hn,hl,hm,ab,ac,ad,hs⟩:=hI;subst hn;refine .lL [29] hs ?_
  cases av with
  | nil=>
   have hk:¬ ((ag:Int)<(ah.length:Int)):=by have:=aH.1 hl;omega
   have hkb:=decide_eq_false hk;rw [Za7.eq_1] at hm;refine go ?_;refine X2 (congrArg Value.bool hkb)<|go ?_;exact ⟨a8.length,by simp,rfl,⟨_,_,_,rfl,bm,hm,ab,ac,(Yg (congrArg (Value.int .i64) (Yb (aF bn (h1.ks ab).1.1))) rfl)⟩⟩
  | cons bq bg=>
   obtain ⟨af,br,bs⟩:=Yd hl;have hk:(ag:Int)<(ah.length:Int):=by omega
   have hkb:=decide_eq_true hk;rw [Za7.eq_2] at hm;refine go ?_;refine X3 (congrArg Value.bool hkb)<|go ?_;refine lI af (ad.addr af)<|lW (ad.atInt af)<|Y7 rfl<|Y7 rfl<|Zl<|Z0 ?_;refine Wp.cutK [15,16,17,2,27,28,29,1000000] (fun f az=>∃ a0 a9,Zg3 ag (Za7 aa (Za6 aa a8) bg) a9=some r∧St w0 (Zk col) a0 az∧Zf 27 1 a0 az a5 #[.string aa.1,.slice am aa.2.1.length ai,.slice an aa.2.2.1.length aj,.slice ao aa.2.2.2.1.length ak,.slice ap aa.2.2.2.2.length al]∧Sl (Za.int .i64) a0 az be bf ah∧[45].map f=[.bool a9]) ?_ ?_
   ·intro f az hJ;obtain ⟨a0,a9,hm,ab,ac,ad,hs⟩:=hJ;rw [Zg3.eq_1] at hm;refine .lL [45] hs ?_;refine Zq hm (fun hb hm=>go ?_) fun hb hm=>go ?_
    ·cases hm;exact ⟨rfl,rfl,ab.below⟩
    exact ⟨bg.length,by simp,rfl,⟨_,_,_,rfl,br,hm,ab,ac,ad,(Yg (congrArg (Value.int .i64) (Yb (aF bs ad.1.1))) rfl)⟩⟩
   refine go ?_;refine Yt hm (fun ba hm=>go ?_) fun ba hm=>go ?_
   ·refine lV (.bool true) (Yf (congrArg Value.bool ba) rfl)<|Zl ?_;exact ⟨rfl,_,_,hm,ab,ac,ad,rfl⟩
   refine Yk ⟨_,_,rfl⟩ ?_;refine go ?_;refine lW ((ac.atN).nth (q:=2) rfl)<|go ?_;obtain ⟨bt,bb,hm⟩:=bZ hm;refine lI bb ((aq.ks ab).addr bb) ?_;refine go ?_;obtain ⟨_,bu,bv⟩:=(aq.ks ab).atN bb;obtain ⟨⟨bx,bz,rfl,b0⟩,_⟩:=bu;refine lW bv.one<|go ?_;refine lV (.bool (decide ((bt.length:Int)≤bq))) (X8 (congrArg Value.bool ba) rfl)<|Zl ?_;exact ⟨rfl,_,_,hm,ab,ac,ad,rfl⟩
def Zbq (ac:R0) (aa:List Int) (kk_L1:(List Int→Option Re)) (ad:List Int):List Int→Int→Option Re
  | [],ab=>(Zm aa ab).bind fun ag=>(some (aa.set (aA ab) (i64.wrap (ag+1)))).bind fun ah=>kk_L1 ah
  | ae :: ai,ab=>(Zm ad ae).bind fun af=>if (decide (af<0))=true then (kk_L1 aa) else ((Zm ac.2.2.1 ae).bind fun aj=>(Zbq ac aa kk_L1 ad ai) (i64.wrap ((i64.wrap (ab * (aj.length:Int)))+af)))
termination_by structural x=>x
def Za3 (ab:R0) (aa:Int):List R2→R2→Option Re
  | [],ac=>some (ac,0)
  | ae :: af,ac=>(Zm ab.2.2.2.1 aa).bind fun ag=>(Qq ag).bind fun ad=>Z2 ((ad.length+[aa].length) * 8≤140737488355328∧ad.length+[aa].length≤maxLen) (Zbq ab ac (Za3 ab aa af) ae (ad++[aa]) 0)
termination_by structural x=>x
def Zjo (ab:R0) (ad:R6) (ac:Int) (ae:Bool):Option Re:=
  if ae=true then (some (([]:List Int),3)) else ((Zm ab.2.2.2.2 ac).bind fun aa=>Z2 (aa.length * 8≤281474976710656∧aa.length≤maxLen) (Za3 ab ac ad (aM aa.length (0:Int))))
def Zew (N:Nat) (aa:R0) (ac:R6) (ab:Int):Option Re:=
  (Zc7 N (aa.1,aa.2.1,aa.2.2.1,aa.2.2.2.1,aa.2.2.2.2) ac).bind fun ad=>if (!decide (ad=0))=true then (some (([]:List Int),ad)) else (if (decide (ab<0))=true then (Zjo aa ac ab true) else (Zjo aa ac ab (decide ((aa.2.1.length:Int)≤ab))))
theorem Ztw {N al am an ao bj:Nat} {ap aq ar au a1:Option Addr} {col:Ze} {w0:World} {ab:R0} {ah:R6} {ad:Int} {r:Re} (c1:Nat) (hm:Zew N ab ah ad=some r) (bk:Sl Za.str col w0 ap al ab.2.1) (a0:Sl (Za.slice Za.str) col w0 aq am ab.2.2.1) (a2:Sl (Za.slice (Za.int .i64)) col w0 ar an ab.2.2.2.1) (a3:Sl (Za.slice (Za.pair (Za.pair Za.bool (Za.slice (Za.int .u32))) (Za.slice (Za.int .u32)))) col w0 au ao ab.2.2.2.2) (h1:Sl (Za.slice (Za.int .i64)) col w0 a1 bj ah):
    Calls prog 98 #[(.agg #[.string ab.1,.slice ap ab.2.1.length al,.slice aq ab.2.2.1.length am,.slice ar ab.2.2.2.1.length an,.slice au ab.2.2.2.2.length ao]),.slice a1 ah.length bj,.int .i64 ad] w0 (fun e w'=>∃ (col':Ze) (ra1:Option Addr) (rc2:Nat),e= .returned (.tuple #[.slice ra1 r.1.length rc2,.int .i64 r.2])∧Zh col w0 col' w'∧Zb (Za.int .i64) 3 c1 col' w' ra1 rc2 r.1):=by
 refine Zje 6 7 (m:=84) (args:=[(.agg #[.string ab.1,.slice ap ab.2.1.length al,.slice aq ab.2.2.1.length am,.slice ar ab.2.2.2.1.length an,.slice au ab.2.2.2.2.length ao]),.slice a1 ah.length bj,.int .i64 ad]) func98 rfl rfl rfl rfl rfl ?_;rw [Zew.eq_1] at hm;have aa:=St.start col w0;refine go ?_;refine Xs (col:=(Zk col)) 1 rfl ?_;intro bm b5 bv b6 ac;refine go ?_;refine Xbc<|go ?_;refine lV _ (Xd isAgg27 sizeOf27 ac)<|Y2 rfl ?_;obtain ⟨cx,b7,hm⟩:=bZ hm;replace bk:=bk.keep (Zi.start col w0);replace a0:=a0.keep (Zi.start col w0);replace a2:=a2.keep (Zi.start col w0);replace a3:=a3.keep (Zi.start col w0);replace h1:=h1.keep (Zi.start col w0);replace aa:=aa.grow b6;refine Zj (Ztx b7 (bk.ks aa) (a0.ks aa) (a2.ks aa) (a3.ks aa) (h1.ks aa)) ?_;rintro _ b8 ⟨rfl,ba⟩;refine ⟨_,rfl,?_⟩;replace ba:Zh bv b5 bv b8:=.of_below ba;refine go ?_;replace ac:=ac.gr ba;replace aa:=aa.grow ba;refine Zq hm (fun hb hm=>go ?_) fun hb hm=>?_
 ·cases hm;exact ⟨rfl,_,none,0,rfl,aa.fin (cm []),Zb.nil⟩
 refine Yl<|Z0<|Z0 ?_;refine Wp.cutK [1,2,3,1000000] (fun f bb=>∃ bc bn,Zjo ab ah ad bn=some r∧St w0 (Zk col) bc bb∧Zf 27 1 bc bb bm #[.string ab.1,.slice ap ab.2.1.length al,.slice aq ab.2.2.1.length am,.slice ar ab.2.2.2.1.length an,.slice au ab.2.2.2.2.length ao]∧[29].map f=[.bool bn]) ?_ ?_
 ·intro f bb hJ;obtain ⟨bc,bn,hm,aa,ac,hs⟩:=hJ;rw [Zjo.eq_1] at hm;refine .lL [29] hs ?_;refine Zq hm (fun hb hm=>go ?_) fun hb hm=>go ?_
  ·cases hm;exact ⟨rfl,_,none,0,rfl,aa.fin (cm []),Zb.nil⟩
  refine Xk ac<|X1 rfl ?_;obtain ⟨b9,bo,hm⟩:=bZ hm;refine lI bo ((a3.ks aa).addr bo) ?_;obtain ⟨_,ca,cb⟩:=(a3.ks aa).atN bo;obtain ⟨⟨cy,cz,rfl,c0⟩,_⟩:=ca;refine lW cb.one<|go ?_;obtain ⟨bw,hm⟩:=Z8 hm;refine Q3 (col:=bc) (w:=bb) (r:=(Za.int .i64)) (n:=b9.length) (x0:=0) 2 rfl underlying33 Tryz.t3 rfl rfl rfl rfl rfl rfl rfl bw.1 bw.2 (Zd9 .i64 0) ?_;intro c2 c3 c4 bx cc;refine go ?_;refine Xa7<|go ?_;replace ac:=ac.gr bx;replace aa:=aa.grow bx;refine Z4 [2,3,37,38,1000000] (fun n f bd=>∃ be a4 av aw ai a5,n=a5.length∧ah.drop a4=a5∧Za3 ab ad a5 ai=some r∧St w0 (Zk col) be bd∧Zf 27 1 be bd bm #[.string ab.1,.slice ap ab.2.1.length al,.slice aq ab.2.2.1.length am,.slice ar ab.2.2.2.1.length an,.slice au ab.2.2.2.2.length ao]∧Zb (Za.int .i64) 3 2 be bd av aw ai∧[39,9].map f=[.int .i64 a4,.slice av ai.length aw]) ah.length ⟨_,0,_,_,_,_,rfl,rfl,hm,aa,ac,cc,rfl⟩ ?_;clear hm;intro n f bd hI;obtain ⟨be,a4,av,aw,ai,a5,hn,hl,hm,aa,ac,ae,hs⟩:=hI;subst hn;refine .lL [39,9] hs ?_
  cases a5 with
  | nil=>
   have hk:¬ ((a4:Int)<(ah.length:Int)):=by have:=aH.1 hl;omega
   have hkb:=decide_eq_false hk;rw [Za3.eq_1] at hm;refine go ?_;refine X2 (congrArg Value.bool hkb)<|go ?_;cases hm;exact ⟨rfl,_,_,_,rfl,aa.fin (cm [(2,c1)]),aa.fo ae⟩
  | cons bz bp=>
   obtain ⟨ak,b0,b1⟩:=Yd hl;have hk:(a4:Int)<(ah.length:Int):=by omega
   have hkb:=decide_eq_true hk;rw [Za3.eq_2] at hm;refine go ?_;refine X3 (congrArg Value.bool hkb)<|go ?_;refine lI ak ((h1.ks aa).addr ak) ?_;obtain ⟨_,cd,ce⟩:=(h1.ks aa).atN ak;obtain ⟨⟨cf,cg,rfl,af⟩,_⟩:=cd;refine lW ce.one<|go ?_;refine Xk ac<|X1 rfl ?_;obtain ⟨c5,bq,hm⟩:=bZ hm;refine lI bq ((a2.ks aa).addr bq) ?_;obtain ⟨_,ch,ci⟩:=(a2.ks aa).atN bq;obtain ⟨⟨c6,c7,rfl,cj⟩,_⟩:=ch;refine lW ci.one ?_;obtain ⟨a6,ck,hm⟩:=bZ hm;refine Zj (Zjd 3 ck cj) ?_;rintro _ c8 ⟨cl,c9,da,rfl,bf,br⟩;refine ⟨_,rfl,?_⟩;refine X1 rfl<|V7 (col:=cl) [ad] 4 ?_;intro db dc dd a7 cn;obtain ⟨co,hm⟩:=Z8 hm;replace br:=br.gr a7;refine V1 br (cn.srcN (NB.int (k:=.i64))) co ?_;intro cp cq de df bg aj;refine go ?_;replace ae:=((ae.gr bf).gr a7).kpp bg;replace af:=((af.gr bf).gr a7).kpp bg;replace ac:=((ac.gr bf).gr a7).kpp bg;replace aa:=((aa.grow bf).grow a7).kpp bg;refine Z4 [11,2,3,37,38,39,51,52,9,1000000] (fun n f ax=>∃ ag bh a8 a9,n=a9.length∧(a6++[ad]).drop a8=a9∧Zbq ab ai (Za3 ab ad bp) bz a9 bh=some r∧St w0 (Zk col) ag ax∧Sl (Za.int .i64) ag ax cf cg bz∧Zf 27 1 ag ax bm #[.string ab.1,.slice ap ab.2.1.length al,.slice aq ab.2.2.1.length am,.slice ar ab.2.2.2.1.length an,.slice au ab.2.2.2.2.length ao]∧Zb (Za.int .i64) 3 3 ag ax cp cq (a6++[ad])∧Zb (Za.int .i64) 3 2 ag ax av aw ai∧[53,12].map f=[.int .i64 a8,.int .i64 bh]) (a6++[ad]).length ⟨_,0,0,_,rfl,rfl,hm,aa,af,ac,aj,ae,rfl⟩ ?_;clear hm;intro n f ax hI;obtain ⟨ag,bh,a8,a9,hn,hl,hm,aa,af,ac,aj,ae,hs⟩:=hI;subst hn;refine .lL [53,12] hs ?_
   cases a9 with
   | nil=>
    have hk:¬ ((a8:Int)<((a6++[ad]).length:Int)):=by have:=aH.1 hl;omega
    have hkb:=decide_eq_false hk;rw [Zbq.eq_1] at hm;refine go ?_;refine X2 (congrArg Value.bool hkb)<|go ?_;obtain ⟨b2,ay,hm⟩:=bZ hm;refine lI ay (ae.addr ay)<|lW (ae.atInt ay) ?_;refine go ?_;refine lI ay (ae.addr ay) ?_;obtain ⟨bs,bi,hm⟩:=bZ hm;have bi:bs=ai.set (aA bh) (i64.wrap (b2+1)):=(Option.some.inj bi).symm;refine Wr (x1:=i64.wrap (b2+1)) ae ay ?_;intro dg b3 cr b4;rw [← bi] at b4;refine .ld (d:=9) (v:=(.slice av bs.length aw)) (congrArg (fun n=>Value.slice av n aw) (show ai.length=bs.length by rw [bi,nS])) ?_;refine go ?_;replace ac:=ac.kp b3;replace aa:=aa.kp b3 cr;exact ⟨bp.length,by simp,rfl,⟨_,_,_,_,_,_,rfl,b0,hm,aa,ac,b4,(Yg (congrArg (Value.int .i64) (Yb (aF b1 (h1.ks aa).1.1))) rfl)⟩⟩
   | cons dh cs=>
    obtain ⟨ak,ct,cu⟩:=Yd hl;have hk:(a8:Int)<((a6++[ad]).length:Int):=by omega
    have hkb:=decide_eq_true hk;rw [Zbq.eq_2] at hm;refine go ?_;refine X3 (congrArg Value.bool hkb)<|go ?_;refine lI ak (aj.addr ak)<|lW (aj.atInt ak) ?_;refine go ?_;obtain ⟨di,az,hm⟩:=bZ hm;refine lI az (af.addr az)<|lW (af.atInt az) ?_;refine go ?_;refine Zq hm (fun hb hm=>?_) fun hb hm=>?_
    ·refine Zs8 (Zqn rfl (Zqn rfl (Zqm ?_)));refine go ?_;exact ⟨bp.length,by simp,rfl,⟨_,_,_,_,_,_,rfl,b0,hm,aa,ac,ae,(Yg (congrArg (Value.int .i64) (Yb (aF b1 (h1.ks aa).1.1))) rfl)⟩⟩
    refine Yl<|V4 (col:=ag) (by kernel_rfl) (by kernel_rfl)<|go ?_;refine qF ⟨_,_,rfl⟩ ?_;refine qW (fun _ hC=>((ac.atN).nth (q:=2) rfl).gr (hC.bl ag)) ?_;refine go ?_;obtain ⟨dj,bt,hm⟩:=bZ hm;refine qI bt ((a0.ks aa).addr bt) ?_;obtain ⟨_,cv,cw⟩:=(a0.ks aa).atN bt;obtain ⟨⟨dl,dm,rfl,dn⟩,_⟩:=cv;refine qW (fun _ hC=>cw.one.gr (hC.bl ag)) ?_;refine go ?_;refine qI az (af.addr az)<|qW (fun _ hC=>(af.gr (hC.bl ag)).atInt az) ?_;refine go ?_;refine Vc ?_;intro dp hC;replace hC:=hC.bl ag;refine go ?_;replace af:=af.gr hC;replace aj:=aj.gr hC;replace ae:=ae.gr hC;replace ac:=ac.gr hC;replace aa:=aa.grow hC;exact ⟨cs.length,by simp,rfl,⟨_,_,_,_,rfl,ct,hm,aa,af,ac,aj,ae,(Yg (congrArg (Value.int .i64) (Yb (aF cu aj.len))) rfl)⟩⟩
 refine go ?_;refine Yt hm (fun bu hm=>go ?_) fun bu hm=>go ?_
 ·refine lV (.bool true) (Yf (congrArg Value.bool bu) rfl)<|Zl ?_;exact ⟨rfl,_,_,hm,aa,ac,rfl⟩
 refine Yk ⟨_,_,rfl⟩ ?_;refine go ?_;refine lW ((ac.atN).nth (q:=1) rfl)<|go ?_;refine lV (.bool (decide ((ab.2.1.length:Int)≤ad))) (X8 (congrArg Value.bool bu) rfl)<|Zl ?_;exact ⟨rfl,_,_,hm,aa,ac,rfl⟩
def Zk4 (ab:Int):List Int→Nat→Option Int
  | [],aa=>some (-1)
  | ac :: ad,aa=>if (decide (ab=ac))=true then (some (aa:Int)) else ((Zk4 ab ad) (aa+1))
termination_by structural x=>x
def Zq5 (aa:List Int) (ab:Int):Option Int:=
  Zk4 ab aa 0
theorem Z47 {ag:Nat} {a0:Option Addr} {col:Ze} {w0:World} {ab:R2} {ae r:Int} (hm:Zq5 ab ae=some r) (h0:Sl (Za.int .i64) col w0 a0 ag ab):
    Calls prog 163 #[.slice a0 ab.length ag,.int .i64 ae] w0 (fun e w'=>e= .returned ((.int .i64 r))∧Below w0.heap.size w0 w'):=by
 refine Xl 4 (m:=19) func163 rfl rfl rfl rfl rfl ?_;rw [Zq5.eq_1] at hm;have aa:=St.start col w0;refine go ?_;refine Z4 [0,1,7,1000000] (fun n f ah=>∃ ai ac ad,n=ad.length∧ab.drop ac=ad∧Zk4 ae ad ac=some r∧St w0 (Zk col) ai ah∧[8].map f=[.int .i64 ac]) ab.length ⟨_,0,_,rfl,rfl,hm,aa,rfl⟩ ?_;clear hm;intro n f ah hI;obtain ⟨ai,ac,ad,hn,hl,hm,aa,hs⟩:=hI;subst hn;refine .lL [8] hs ?_;replace h0:=h0.keep (Zi.start col w0)
 cases ad with
 | nil=>
  have hk:¬ ((ac:Int)<(ab.length:Int)):=by have:=aH.1 hl;omega
  have hkb:=decide_eq_false hk;rw [Zk4.eq_1] at hm;refine go ?_;refine X2 (congrArg Value.bool hkb)<|go ?_;cases hm;exact ⟨rfl,rfl,aa.below⟩
 | cons am aj=>
  obtain ⟨af,ak,al⟩:=Yd hl;have hk:(ac:Int)<(ab.length:Int):=by omega
  have hkb:=decide_eq_true hk;rw [Zk4.eq_2] at hm;refine go ?_;refine X3 (congrArg Value.bool hkb)<|go ?_;refine lI af ((h0.ks aa).addr af)<|lW ((h0.ks aa).atInt af) ?_;refine go ?_;refine Zq hm (fun hb hm=>go ?_) fun hb hm=>go ?_
  ·cases hm;exact ⟨rfl,rfl,aa.below⟩
  exact ⟨aj.length,by simp,rfl,⟨_,_,_,rfl,ak,hm,aa,(Yg (congrArg (Value.int .i64) (Yb (aF al (h0.ks aa).1.1))) rfl)⟩⟩
def Zq4 (aa:List Int) (ab:Int):Option Bool:=
  (Zq5 aa ab).bind fun ac=>some (decide (0≤ac))
theorem Z44 {ad:Nat} {a0:Option Addr} {col:Ze} {w0:World} {ab:R2} {ae:Int} {r:Bool} (hm:Zq4 ab ae=some r) (h0:Sl (Za.int .i64) col w0 a0 ad ab):
    Calls prog 96 #[.slice a0 ab.length ad,.int .i64 ae] w0 (fun e w'=>e= .returned ((.bool r))∧Below w0.heap.size w0 w'):=by
 refine Xl 4 (m:=9) func96 rfl rfl rfl rfl rfl ?_;rw [Zq4.eq_1] at hm;have aa:=St.start col w0;refine go ?_;obtain ⟨ah,af,hm⟩:=bZ hm;replace h0:=h0.keep (Zi.start col w0);refine Zj (Z47 af (h0.ks aa)) ?_;rintro _ ag ⟨rfl,ac⟩;refine ⟨_,rfl,?_⟩;replace ac:Zh (Zk col) w0 (Zk col) ag:=.of_below ac;refine go ?_;cases hm;replace aa:=aa.grow ac;exact ⟨rfl,rfl,aa.below⟩
/-! which observations may be -/
def U4 (n:Zp):List Int→Nat→Bool
 | [],_=>true
 | x :: l,k=>decide (-1≤x)&&(decide (x<(cnt n k:Int))&&U4 n l (k+1))
def Ti (n:Zp) (r:List R2):Bool:=r.all fun row=>decide (row.length=n.2.1.length)&&U4 n row 0
theorem Zxc {n:Zp} (kk:Option Int):∀ (l:List Int) (k:Nat),k+l.length≤n.2.2.1.length→Zbb n kk l k=if U4 n l k=true then kk else some 71
 | [],k,_=>by rw [Zbb.eq_1,U4,if_pos rfl]
 | x :: l,k,h=>by
  simp only [nC] at h
  have b:=Zxc (n:=n) kk l (k+1) (by omega)
  have a:Zm n.2.2.1 (k:Int)=some (n.2.2.1.getD k []):=Wf (l:=n.2.2.1) [] (j:=k) (by omega)
  have c:cnt n k=(n.2.2.1.getD k []).length:=rfl
  rw [Zbb.eq_2,U4]
  by_cases h1:x< -1
  ·rw [if_pos (dT h1),Zhd,if_pos rfl,decide_eq_false (show ¬ -1≤x by omega)];rfl
  ·rw [if_neg (dF h1),a,oB,decide_eq_true (show -1≤x by omega),Bool.true_and,Zhd]
   by_cases h2:x<(cnt n k:Int)
   ·rw [decide_eq_true h2,decide_eq_false (by omega),if_neg (by decide),Bool.true_and];exact b
   ·rw [decide_eq_false h2,decide_eq_true (by omega),if_pos rfl];rfl
theorem Zmr {n:Zp} (hv:n.2.2.1.length=n.2.1.length):∀ r:List R2,Zba n r=some (if Ti n r=true then 0 else 71)
 | []=>by rw [Zba.eq_1];rfl
 | row :: r=>by
  have a:=Zmr hv r
  rw [Zba.eq_2,Ti,eA]
  by_cases h:row.length=n.2.1.length
  ·rw [if_neg (by rw [decide_eq_true (by omega)];decide),Zxc _ row 0 (by omega),decide_eq_true h,Bool.true_and]
   by_cases h2:U4 n row 0=true
   ·rw [if_pos h2,h2,Bool.true_and];exact a
   ·rw [if_neg h2,Bool.eq_false_iff.2 h2];rfl
  ·rw [if_pos (by rw [decide_eq_false (by omega)];rfl),decide_eq_false h];rfl
theorem Zvb {n:Zp} (kk:Option Int):∀ (l:List Int) (k:Nat),k+l.length≤n.2.2.1.length→Za7 n kk l k=if U4 n l k=true then kk else some 71
 | [],k,_=>by rw [Za7.eq_1,U4,if_pos rfl]
 | x :: l,k,h=>by
  simp only [nC] at h
  have b:=Zvb (n:=n) kk l (k+1) (by omega)
  have a:Zm n.2.2.1 (k:Int)=some (n.2.2.1.getD k []):=Wf (l:=n.2.2.1) [] (j:=k) (by omega)
  have c:cnt n k=(n.2.2.1.getD k []).length:=rfl
  rw [Za7.eq_2,U4]
  by_cases h1:x< -1
  ·rw [if_pos (dT h1),Zg3,if_pos rfl,decide_eq_false (show ¬ -1≤x by omega)];rfl
  ·rw [if_neg (dF h1),a,oB,decide_eq_true (show -1≤x by omega),Bool.true_and,Zg3]
   by_cases h2:x<(cnt n k:Int)
   ·rw [decide_eq_true h2,decide_eq_false (by omega),if_neg (by decide),Bool.true_and];exact b
   ·rw [decide_eq_false h2,decide_eq_true (by omega),if_pos rfl];rfl
theorem Zp8 {n:Zp} (hv:n.2.2.1.length=n.2.1.length):∀ r:List R2,Za6 n r=some (if Ti n r=true then 0 else 71)
 | []=>by rw [Za6.eq_1];rfl
 | row :: r=>by
  have a:=Zp8 hv r
  rw [Za6.eq_2,Ti,eA]
  by_cases h:row.length=n.2.1.length
  ·rw [if_neg (by rw [decide_eq_true (by omega)];decide),Zvb _ row 0 (by omega),decide_eq_true h,Bool.true_and]
   by_cases h2:U4 n row 0=true
   ·rw [if_pos h2,h2,Bool.true_and];exact a
   ·rw [if_neg h2,Bool.eq_false_iff.2 h2];rfl
  ·rw [if_pos (by rw [decide_eq_false (by omega)];rfl),decide_eq_false h];rfl
/-! observations of which all is known -/
theorem Z0g {n:Zp}:∀ {l:List Int} {k:Nat},U4 n l k=true→∀ x ∈ l,-1≤x
 | x :: l,k,h,y,a=>by
  rw [U4,Bool.and_eq_true,Bool.and_eq_true,decide_eq_true_eq] at h
  rcases aP.1 a with rfl | a
  ·exact h.1
  ·exact Z0g h.2.2 y a
theorem Z0h {n:Zp}:∀ {l:List Int} {k:Nat},U4 n l k=true→∀ i,i<l.length→l.getD i 0<(cnt n (k+i):Int)
 | x :: l,k,h,0,_=>by
  rw [U4,Bool.and_eq_true,Bool.and_eq_true,decide_eq_true_eq,decide_eq_true_eq] at h
  exact h.2.1
 | x :: l,k,h,i+1,a=>by
  rw [U4,Bool.and_eq_true,Bool.and_eq_true] at h
  have:=Z0h h.2.2 i (by simpa using a)
  rw [show k+1+i=k+(i+1) by omega] at this
  exact this
def Xt (n:Zp) (v:Nat) (row:List Int):Nat:=Wz n row v * cnt n v+(row.getD v 0).toNat
def Y5 (n:Zp) (v:Nat) (r:List R2):List Int:=(List.range (n.2.2.2.2.getD v []).length).map fun i=>((r.countP fun row=>decide (Xt n v row=i):Nat):Int)
theorem Zuq (n:Zp) (v:Nat):aM (n.2.2.2.2.getD v []).length (0:Int)=Y5 n v []:=by
 refine kO (by simp only [Y5,bD,aI,bW]) fun i a b=>?_
 simp only [Y5,List.getElem_replicate,cC,List.countP_nil];rfl
theorem Zur (n:Zp) (v:Nat) (pre:List R2) (row:List Int) (h:Xt n v row<(n.2.2.2.2.getD v []).length):(Y5 n v pre).set (Xt n v row) (((pre.countP fun q=>decide (Xt n v q=Xt n v row):Nat):Int)+1)=Y5 n v (pre++[row]):=by
 refine kO (by simp only [Y5,nS,aI]) fun i a b=>?_
 simp only [Y5,List.getElem_set,cC,eT,List.countP_append,List.countP_singleton]
 by_cases hi:Xt n v row=i
 ·subst hi;rw [if_pos rfl,if_pos (dT rfl)];rfl
 ·rw [if_neg hi,if_neg (dF hi),bQ]
theorem Z5n (n:Zp) (v:Nat) (r:List R2) {i:Nat} (h:i<(n.2.2.2.2.getD v []).length):Zm (Y5 n v r) (i:Int)=some ((r.countP fun q=>decide (Xt n v q=i):Nat):Int):=by
 rw [Z1 (by rw [Y5,aI,bW];exact h)]
 simp only [Y5,cC,eT]
section
variable {N:Nat} {n:Zp} (hf:Xu N n)
include hf
theorem Zd6 {v:Nat} (hv:v<n.2.1.length) {row:List Int} (hw:Xn n row):Xt n v row<(n.2.2.2.2.getD v []).length:=by
 have a:=hf.row hw hv
 have b:=hw.ok v (by rw [hw.len];exact hv)
 rw [Xt];omega
theorem Zyr {v:Nat} (hv:v<n.2.1.length) {row:List Int} (hw:Xn n row) {c:List Int} {x:Int} (hx:Zm c ((Xt n v row:Nat):Int)=some x) (hx2:0≤x∧x≤1048576) (kk:List Int→Option Re):∀ (ps:List Int) (r k:Nat),(∀ q ∈ ps,0≤q∧q<(n.2.1.length:Int))→r<k→k≤65536→Yn n.2.2.1 ps k≤65536→T3 n row ps r=Wz n row v→
  Zbq n c kk row (ps++[(v:Int)]) (r:Int)=kk (c.set (Xt n v row) (x+1))
 | [],r,k,_,_,_,_,e=>by
  rw [T3] at e
  subst e
  have d:=hf.row hw hv
  have b:=hf.rows hv
  have C:=hw.ok v (by rw [hw.len];exact hv)
  have f:i64.wrap ((Wz n row v:Int) * ((n.2.2.1.getD v []).length:Int))=((Wz n row v * cnt n v:Nat):Int):=by
   rw [show ((n.2.2.1.getD v []).length:Int)=((cnt n v:Nat):Int) from rfl,← bU]
   exact Zv (by omega)
  have g:i64.wrap (((Wz n row v * cnt n v:Nat):Int)+row.getD v 0)=((Xt n v row:Nat):Int):=by
   rw [Xt,eB,show (((row.getD v 0).toNat:Nat):Int)=row.getD v 0 by omega]
   exact Zv (by omega)
  rw [aV,Zbq.eq_2,Wf 0 (by rw [hw.len];exact hv),oB,if_neg (dF (by omega)),Wf [] (by rw [hf.ev.v];exact hv),oB,f,g,Zbq.eq_1,hx,oB,oB,Zv (by omega),aD]
 | p :: ps,r,k,a,i,m,o,e=>by
  obtain ⟨s,t,u⟩:=Zos hf.ev hw a i m o
  rw [T3] at e
  have D:=a p aC
  have E:=hw.ok p.toNat (by rw [hw.len];omega)
  have F:r * cnt n p.toNat≤k * cnt n p.toNat:=Nat.mul_le_mul_right _ (by omega)
  have q1:Zm n.2.2.1 p=some (n.2.2.1.getD p.toNat []):=by
   have:=Wf (l:=n.2.2.1) [] (j:=p.toNat) (by rw [hf.ev.v];omega)
   rwa [show ((p.toNat:Nat):Int)=p by omega] at this
  have w:Zm row p=some (row.getD p.toNat 0):=by
   have:=Wf (l:=row) 0 (j:=p.toNat) (by rw [hw.len];omega)
   rwa [show ((p.toNat:Nat):Int)=p by omega] at this
  have y:i64.wrap ((r:Int) * ((n.2.2.1.getD p.toNat []).length:Int))=((r * cnt n p.toNat:Nat):Int):=by
   rw [show ((n.2.2.1.getD p.toNat []).length:Int)=((cnt n p.toNat:Nat):Int) from rfl,← bU]
   exact Zv (by omega)
  have A:i64.wrap (((r * cnt n p.toNat:Nat):Int)+row.getD p.toNat 0)=((r * cnt n p.toNat+(row.getD p.toNat 0).toNat:Nat):Int):=by
   rw [eB,show (((row.getD p.toNat 0).toNat:Nat):Int)=row.getD p.toNat 0 by omega]
   exact Zv (by omega)
  rw [bY,Zbq.eq_2,w,oB,if_neg (dF (by omega)),q1,oB,y,A]
  exact Zyr hv hw hx hx2 kk ps _ _ (fun q B=>a q (aB _ B)) s t u e
theorem Zyq {v:Nat} (hv:v<n.2.1.length) (hps:(n.2.2.2.1.getD v []).length≤1048576):∀ (l pre:List R2),(∀ row ∈ l,Xn n row)→pre.length+l.length≤1048576→Za3 n (v:Int) l (Y5 n v pre)=some (Y5 n v (pre++l),0)
 | [],pre,_,_=>by rw [Za3.eq_1,dD]
 | row :: l,pre,h,e=>by
  rw [nC] at e
  have b:=h row aC
  have a:=Zd6 hf hv b
  have i:=jQ (p:=fun q=>decide (Xt n v q=Xt n v row)) (l:=pre)
  have c:=Zyq hv hps l (pre++[row]) (fun q f=>h q (aB _ f)) (by rw [nA,aL];omega)
  rw [bG,dS] at c
  obtain ⟨j,k,g⟩:=hf.rows hv
  have d:=Zyr hf hv b (Z5n n v pre a) ⟨by omega,by omega⟩ (Za3 n (v:Int) l) (n.2.2.2.1.getD v []) 0 1 (hf.pars hv) (by omega) (by omega) g rfl
  rw [Zur n v pre row a] at d
  rw [Za3.eq_2,Wf [] (by rw [hf.ev.p];exact hv),oB,Zjg (by omega),oB,Z6 (by simp only [aL,maxLen];omega)]
  exact d.trans c
theorem Z8n {v:Nat} (hv:v<n.2.1.length) (hps:(n.2.2.2.1.getD v []).length≤1048576) {r:List R2} (hC:W1 N n=some 0) (hw:Ti n r=true) (hr:∀ row ∈ r,Xn n row) (hl:r.length≤1048576):Zew N n r (v:Int)=some (Y5 n v r,0):=by
 have a:W1 N (n.1,n.2.1,n.2.2.1,n.2.2.2.1,n.2.2.2.2)=some 0:=hC
 have b:Zc7 N (n.1,n.2.1,n.2.2.1,n.2.2.2.1,n.2.2.2.2) r=some 0:=by
  rw [Zc7,a,oB,if_neg (by decide)]
  have:=Zp8 (n:=n) hf.ev.v r
  rw [if_pos hw] at this
  exact this
 have c:=(hf.rows hv).2.1
 rw [Zew,b,oB,if_neg (by decide),if_neg (dF (by omega)),decide_eq_false (by omega),Zjo,if_neg (by decide),Wf [] (by rw [hf.ev.t];exact hv),oB,Z6 (by simp only [maxLen];omega),Zuq]
 have:=Zyq hf hv hps r [] hr (by simpa using hl)
 rwa [aV] at this
/-! the document -/
end
def Zjw (N:Nat) (ab:Int):Nat→R2→Int→Option R2
  | 0,_,_=>none
  | ad+1,ac,aa=>if (decide (aa≤ab))=true then ((Q9 N (u64.wrap aa)).bind fun ae=>(Sw N ac ae).bind fun af=>(Zjw N ab ad) af (i64.wrap (aa+1))) else (some ac)
termination_by structural x=>x
def Zjv (N:Nat) (aa:Int):Option R2:=
  (Q9 N 1).bind fun ab=>Zjw N aa N ab 2
theorem Zpo {N:Nat} {col:Ze} {w0:World} {ah:Int} {r:R2} (c1:Nat) (hm:Zjv N ah=some r):
    Calls prog 100 #[.int .i64 ah] w0 (fun e w'=>∃ (col':Ze) (ra1:Option Addr) (rc2:Nat),e= .returned ((.slice ra1 r.length rc2))∧Zh col w0 col' w'∧Zb (Za.int .u32) 95 c1 col' w' ra1 rc2 r):=by
 refine Xl 2 (m:=17) func100 rfl rfl rfl rfl rfl ?_;rw [Zjv.eq_1] at hm;have aa:=St.start col w0;refine go ?_;obtain ⟨ay,ao,hm⟩:=bZ hm;refine Zj (Zej (col:=(Zk col)) 1 ao) ?_;rintro _ az ⟨a0,a1,a2,rfl,ap,aq⟩;refine ⟨_,rfl,go ?_⟩;replace aa:=aa.grow ap;refine Z4 [0,1000000] (fun n f ai=>∃ ad aj ak ae al ab,ab=n∧Zjw N ah ab ae al=some r∧St w0 (Zk col) ad ai∧Zb (Za.int .u32) 95 1 ad ai aj ak ae∧[3,4].map f=[.slice aj ae.length ak,.int .i64 al]) N ⟨_,_,_,_,2,_,rfl,hm,aa,aq,rfl⟩ ?_;clear hm;intro n f ai hI;obtain ⟨ad,aj,ak,ae,al,ab,hn,hm,aa,af,hs⟩:=hI;subst hn;refine .lL [3,4] hs ?_
 cases ab with
 | zero=>rw [Zjw.eq_1] at hm;cases hm
 | succ ab=>
  rw [Zjw.eq_2] at hm;refine go ?_;refine Zq hm (fun hb hm=>go ?_) fun hb hm=>go ?_
  ·obtain ⟨a3,ar,hm⟩:=bZ hm;refine Zj (Zej (col:=ad) 2 ar) ?_;rintro _ au ⟨am,a4,a5,rfl,an,av⟩;refine ⟨_,rfl,?_⟩;obtain ⟨a6,aw,hm⟩:=bZ hm;replace af:=af.gr an;refine Zj (Zcq 3 aw ((af.toSlF (Zd.int .u32)).froz 2) ((av.froz 1 (by decide)).toSlF (Zd.int .u32))) ?_;rintro _ a7 ⟨ax,a8,a9,rfl,ag,ac⟩;refine ⟨_,rfl,?_⟩;replace ac:=ac.thaw (Z7 .u32) ag (((Fz.refl (col:=am)).froz 1).froz 2) (by decide);replace ag:=ag.thawR (col:=am);generalize Xj au.heap.size am ax=ba at *;refine go ?_;replace ac:=ac.recolSelf 1 (by decide);replace aa:=(aa.grow an).grow ag;replace aa:=aa.recol 3 1 (by decide) (by decide);exact ⟨ab,by omega,rfl,⟨_,_,_,_,_,_,rfl,hm,aa,ac,rfl⟩⟩
  cases hm;exact ⟨rfl,_,_,_,rfl,aa.fin (cm [(1,c1)]),aa.fo af⟩
def Zmf:Nat→Nat
 | 0=>1
 | n+1=>(n+1) * Zmf n
def Zbz (N:Nat) (ab:Int):Option R1:=
  (Zbt N ab 1).bind fun aa=>some ((aa.1.1.1,aa.1.1.2),aa.1.2)
theorem Zpp {N:Nat} {col:Ze} {w0:World} {ai:Int} {r:R1} (c1 c2:Nat) (hm:Zbz N ai=some r):
    Calls prog 97 #[.int .i64 ai] w0 (fun e w'=>∃ (col':Ze) (ra1:Option Addr) (rc2:Nat) (ra4:Option Addr) (rc5:Nat),e= .returned ((.agg #[.bool r.1.1,.slice ra1 r.1.2.length rc2,.slice ra4 r.2.length rc5]))∧Zh col w0 col' w'∧Zb (Za.int .u32) 95 c1 col' w' ra1 rc2 r.1.2∧Zb (Za.int .u32) 95 c2 col' w' ra4 rc5 r.2):=by
 refine Wq (m:=11) func97 rfl rfl rfl ?_;rw [Zbz.eq_1] at hm;have ab:=St.start col w0;refine go ?_;refine Xr (col:=(Zk col)) #[.bool false,.slice none (([]:List Int).length) 0,.slice none (([]:List Int).length) 0] 1 zeroValue39 ?_;intro az a0 ao ap ae;refine go ?_;obtain ⟨aa,aq,hm⟩:=bZ hm;refine Zj (Zl8 (col:=ao) 2 3 aq) ?_;rintro _ a1 ⟨ar,aj,ak,al,am,rfl,an,af,ag⟩;refine ⟨_,rfl,?_⟩;refine lM (.tuple #[(.agg #[.bool aa.1.1.1,.slice aj aa.1.1.2.length ak,.slice al aa.1.2.length am]),.int .i64 aa.2])<|lV (.agg #[.bool aa.1.1.1,.slice aj aa.1.1.2.length ak,.slice al aa.1.2.length am]) (Xx rfl rfl)<|lV (.int .i64 aa.2) (Xx rfl rfl)<|Xr (col:=ar) #[.bool false,.slice none (([]:List Int).length) 0,.slice none (([]:List Int).length) 0] 4 zeroValue39 ?_;intro a2 a3 a4 ac au;refine Z5 au ?_;intro a5 ad av aw;refine go ?_;refine lV _ (Xd isAgg39 sizeOf39 aw) ?_;replace ae:=((ae.gr an).gr ac).kp ad;refine Z5 ae ?_;intro a6 ah ax ay;refine go ?_;cases hm;replace ab:=((((ab.grow ap).grow an).grow ac).kp ad av).kp ah ax;replace af:=((af.gr ac).kp ad).kp ah;replace ag:=((ag.gr ac).kp ad).kp ah;exact ⟨rfl,_,ra ay.atN,_,_,_,_,_,rfl,ab.fin (cm [(2,c1),(3,c2)]),ab.fo af,ab.fo ag⟩
def Zk2 (N:Nat) (ab:List Int) (ac:Int):Nat→Int→Option R6
  | 0,_=>none
  | ad+1,aa=>if (decide (aa<(ab.length:Int)))=true then (Z2 ((0:Int)≤aa∧aa≤(ab.length:Int)) (Z2 ((0:Int)≤aa∧aa≤(i64.wrap (aa+(if ((ab.drop (aA aa)).length:Int)<ac then ((ab.drop (aA aa)).length:Int) else ac)))∧(i64.wrap (aa+(if ((ab.drop (aA aa)).length:Int)<ac then ((ab.drop (aA aa)).length:Int) else ac)))≤(i64.wrap (aa+(if ((ab.drop (aA aa)).length:Int)<ac then ((ab.drop (aA aa)).length:Int) else ac)))∧(i64.wrap (aa+(if ((ab.drop (aA aa)).length:Int)<ac then ((ab.drop (aA aa)).length:Int) else ac)))≤(ab.length:Int)) (((Zk2 N ab ac ad) (i64.wrap (aa+ac))).bind fun ae=>some ((ab.take (aA (i64.wrap (aa+(if ((ab.drop (aA aa)).length:Int)<ac then ((ab.drop (aA aa)).length:Int) else ac))))).drop (aA aa) :: ae)))) else (some [])
termination_by structural x=>x
def Zq2 (N:Nat) (aa:List Int) (ab:Int):Option R6:=
  Zk2 N aa ab N 0
theorem Z42 (N:Nat) (col:Ze) (w0:World) (g0:Nat) (af0:Option Addr) (capf0:Nat) (ab:List Int) (hf0:Sl (Za.int .i64) col w0 af0 capf0 ab) (hb0:Zf 33 450 col w0 g0 #[.slice af0 ab.length capf0]) (g1:Nat) (ac:Int) (hb1:Zf 3 450 col w0 g1 #[.int .i64 ac]) (r:List R2) (hm:Zq2 N ab ac=some r):
    Zi4 prog 1 164 [.pointer (some ⟨g0,0,none⟩),.pointer (some ⟨g1,0,none⟩)] (fun (y:List Int) (col:Ze) (w:World) (args:List Value)=>∃ (a0:Option Addr) (ak:Nat),args=[.slice a0 y.length ak]∧Sl (Za.int .i64) col w a0 ak y) r col w0:=by
 intro l J X hjs hxs hy ad;refine Zcs (m:=31) (args:=[.func (.yield l) #[] #[],.pointer (some ⟨g0,0,none⟩),.pointer (some ⟨g1,0,none⟩)]) func164 rfl rfl rfl rfl ?_;rw [Zq2.eq_1] at hm;refine go ?_;refine Z4 [0,1,2,1000000] (fun n f ah=>∃ ae r aa af,af=n∧Zk2 N ab ac af aa=some r∧J r ae ah∧Sl (Za.int .i64) ae ah af0 capf0 ab∧Zf 33 450 ae ah g0 #[.slice af0 ab.length capf0]∧Zf 3 450 ae ah g1 #[.int .i64 ac]∧[4].map f=[.int .i64 aa]) N ⟨_,_,0,_,rfl,hm,ad,hf0,hb0,hb1,rfl⟩ ?_;clear hm;intro n f ah hI;obtain ⟨ae,r,aa,af,hn,hm,ad,hf0,hb0,hb1,hs⟩:=hI;subst hn;refine .lL [4] hs ?_
 cases af with
 | zero=>rw [Zk2.eq_1] at hm;cases hm
 | succ af=>
  rw [Zk2.eq_2] at hm;refine go ?_;refine lW hb0.at1<|go ?_;refine Zq hm (fun hb hm=>go ?_) fun hb hm=>go ?_
  ·refine V4 (col:=ae) (by kernel_rfl) (by kernel_rfl)<|qW (fun _ hC=>hb1.at1.gr (hC.bl ae)) ?_;refine qW (fun _ hC=>hb0.at1.gr (hC.bl ae)) ?_;refine go ?_;obtain ⟨al,hm⟩:=Z8 hm;have ap:=hf0.drop (sz:=1) rfl (aA aa);refine qv (v:=.slice (if capf0=(aA aa) then af0 else af0.map (·.add ((aA aa) * 1))) (ab.length - (aA aa)) (capf0 - (aA aa))) rfl (fun _ hC=>Zzp underlying33 sizeOf3 rfl rfl al.1 al.2) ?_;generalize (if capf0=(aA aa) then af0 else af0.map (·.add ((aA aa) * 1)))=am at *;refine .ld (d:=16) (v:=(.slice am ((ab.drop (aA aa)).length) (capf0 - (aA aa)))) (congrArg (fun n=>Value.slice am n (capf0 - (aA aa))) (bI (i:=(aA aa)) (l:=ab)).symm) ?_;refine go ?_;refine qv (v:=(.int .i64 (if ((ab.drop (aA aa)).length:Int)<ac then ((ab.drop (aA aa)).length:Int) else ac))) rfl (fun _ hC=>Zlj ac ((ab.drop (aA aa)).length:Int) rfl rfl) ?_;refine go ?_;refine Vc ?_;intro aq hC;replace hC:=hC.bl ae;replace hf0:=hf0.gr hC;replace hb0:=hb0.gr hC;replace hb1:=hb1.gr hC;replace ad:=hjs _ _ _ _ _ ad hC.toP;refine go ?_;refine lM (.func (.yield l) #[] #[])<|lW hb0.at1<|go ?_;obtain ⟨ag,hm⟩:=Z8 hm;have an:=((hf0.take (aA (i64.wrap (aa+(if ((ab.drop (aA aa)).length:Int)<ac then ((ab.drop (aA aa)).length:Int) else ac))))).recap (show (ab.take (aA (i64.wrap (aa+(if ((ab.drop (aA aa)).length:Int)<ac then ((ab.drop (aA aa)).length:Int) else ac))))).length≤(aA (i64.wrap (aa+(if ((ab.drop (aA aa)).length:Int)<ac then ((ab.drop (aA aa)).length:Int) else ac)))) by rw [cX (i:=(aA (i64.wrap (aa+(if ((ab.drop (aA aa)).length:Int)<ac then ((ab.drop (aA aa)).length:Int) else ac))))) (l:=ab)];have:=ag.2;omega)).drop (sz:=1) rfl (aA aa);refine lv (v:=.slice (if (aA (i64.wrap (aa+(if ((ab.drop (aA aa)).length:Int)<ac then ((ab.drop (aA aa)).length:Int) else ac))))=(aA aa) then af0 else af0.map (·.add ((aA aa) * 1))) ((aA (i64.wrap (aa+(if ((ab.drop (aA aa)).length:Int)<ac then ((ab.drop (aA aa)).length:Int) else ac)))) - (aA aa)) ((aA (i64.wrap (aa+(if ((ab.drop (aA aa)).length:Int)<ac then ((ab.drop (aA aa)).length:Int) else ac)))) - (aA aa))) rfl rfl (Zzr underlying33 sizeOf3 rfl rfl rfl rfl ag.1 ag.2.1 ag.2.2.1 (by have:=hf0.1.2;have:=ag.2.2.2;omega)) ?_
   generalize (if (aA (i64.wrap (aa+(if ((ab.drop (aA aa)).length:Int)<ac then ((ab.drop (aA aa)).length:Int) else ac))))=(aA aa) then af0 else af0.map (·.add ((aA aa) * 1)))=ai at *;refine .ld (d:=28) (v:=(.slice ai (((ab.take (aA (i64.wrap (aa+(if ((ab.drop (aA aa)).length:Int)<ac then ((ab.drop (aA aa)).length:Int) else ac))))).drop (aA aa)).length) ((aA (i64.wrap (aa+(if ((ab.drop (aA aa)).length:Int)<ac then ((ab.drop (aA aa)).length:Int) else ac)))) - (aA aa)))) (congrArg (fun n=>Value.slice ai n ((aA (i64.wrap (aa+(if ((ab.drop (aA aa)).length:Int)<ac then ((ab.drop (aA aa)).length:Int) else ac)))) - (aA aa))) (show (aA (i64.wrap (aa+(if ((ab.drop (aA aa)).length:Int)<ac then ((ab.drop (aA aa)).length:Int) else ac)))) - (aA aa)=((ab.take (aA (i64.wrap (aa+(if ((ab.drop (aA aa)).length:Int)<ac then ((ab.drop (aA aa)).length:Int) else ac))))).drop (aA aa)).length by rw [bI (i:=(aA aa)) (l:=ab.take (aA (i64.wrap (aa+(if ((ab.drop (aA aa)).length:Int)<ac then ((ab.drop (aA aa)).length:Int) else ac))))),cX (i:=(aA (i64.wrap (aa+(if ((ab.drop (aA aa)).length:Int)<ac then ((ab.drop (aA aa)).length:Int) else ac))))) (l:=ab)];have:=ag.2;omega)) ?_;obtain ⟨ar,hc_14m,ao⟩:=bZ hm;cases ao;have hm:=hc_14m;refine ly1 rfl rfl rfl (hy _ _ _ _ [(.slice ai (((ab.take (aA (i64.wrap (aa+(if ((ab.drop (aA aa)).length:Int)<ac then ((ab.drop (aA aa)).length:Int) else ac))))).drop (aA aa)).length) ((aA (i64.wrap (aa+(if ((ab.drop (aA aa)).length:Int)<ac then ((ab.drop (aA aa)).length:Int) else ac)))) - (aA aa)))] ad ⟨ai,((aA (i64.wrap (aa+(if ((ab.drop (aA aa)).length:Int)<ac then ((ab.drop (aA aa)).length:Int) else ac)))) - (aA aa)),rfl,an⟩) ?_;rintro _ au ⟨av,aj,⟨rfl,hJ⟩ | ⟨rfl,hX⟩⟩
   ·refine ⟨_,rfl,?_⟩;have ad:=hJ;refine go ?_;refine X2 rfl<|go ?_;replace hb1:=hb1.kpp aj;refine lW hb1.at1<|go ?_;replace hf0:=hf0.kpp aj;replace hb0:=hb0.kpp aj;exact ⟨af,by omega,rfl,⟨_,_,_,_,rfl,hm,ad,hf0,hb0,hb1,rfl⟩⟩
   refine ⟨_,rfl,?_⟩;have ad:=hX;refine go ?_;refine X3 rfl<|Vv ?_;exact ⟨rfl,⟨_,rfl⟩,_,.inr ad⟩
  cases hm;exact ⟨rfl,⟨_,rfl⟩,_,.inl ad⟩
def Zq3 (N:Nat) (aa:List Int) (ab:Int):Option R6:=
  Zq2 N aa ab
def Zq1 (N:Nat) (ab:List Int) (aa:Int):Option R6:=
  if (decide (aa<1))=true then none else (Zq3 N ab aa)
theorem Z41 {N aa:Nat} {a0:Option Addr} {col:Ze} {w0:World} {ac:R2} {ad:Int} {r:R6} (hm:Zq1 N ac ad=some r) (h0:Sl (Za.int .i64) col w0 a0 aa ac):
    Calls prog 99 #[.slice a0 ac.length aa,.int .i64 ad] w0 (fun e w'=>∃ (col':Ze) (rv1:Value),e= .returned (rv1)∧Zh col w0 col' w'∧It prog 1 rv1 (fun (y:List Int) (col:Ze) (w:World) (args:List Value)=>∃ (a0:Option Addr) (aa:Nat),args=[.slice a0 y.length aa]∧Sl (Za.int .i64) col w a0 aa y) r q0 col' w'):=by
 refine Xl 4 (m:=9) func99 rfl rfl rfl rfl rfl ?_;rw [Zq1.eq_1] at hm;have ab:=St.start col w0;refine go ?_;refine Zc0 (col:=(Zk col)) (v:=(.slice a0 ac.length aa)) 1 rfl rfl ?_;intro af ap an aq ae;replace ae:Zf 33 1 an ap af #[.slice a0 ac.length aa]:=ae;refine Zc0 (col:=an) (v:=(.int .i64 ad)) 2 rfl rfl ?_;intro ag ar au ao ah;replace ah:Zf 3 2 au ar ag #[.int .i64 ad]:=ah;refine lv (v:=_) rfl rfl (Sg rfl)<|Zl<|Z0 ?_;replace h0:=h0.keep (Zi.start col w0);replace ab:=(ab.grow aq).grow ao;replace ae:=ae.gr ao;refine Wp.cutK [2,3,1000000] (fun f aj=>∃ ai,Zq3 N ac ad=some r∧St w0 (Zk col) ai aj∧Zf 33 1 ai aj af #[.slice a0 ac.length aa]∧Zf 3 2 ai aj ag #[.int .i64 ad]) ?_ ?_
 ·intro f aj hJ;obtain ⟨ai,hm,ab,ae,ah⟩:=hJ;rw [Zq3.eq_1] at hm;refine go ?_;refine lV (.func (.func 164) #[] #[.pointer (some ⟨af,0,none⟩),.pointer (some ⟨ag,0,none⟩)]) (Zr7 rfl rfl)<|lA (.func (.func 164) #[] #[.pointer (some ⟨af,0,none⟩),.pointer (some ⟨ag,0,none⟩)])<|go ?_;have ak:=ab.finBox (G:=(fun n=>bif aJ n 1 then 450 else bif aJ n 2 then 450 else 0)) ae (by decide) (by decide) (show (fun n=>bif aJ n 1 then 450 else bif aJ n 2 then 450 else 0) 1=450 from rfl);have h0f:=ab.finSl (g:=(fun n=>bif aJ n 1 then 450 else bif aJ n 2 then 450 else 0)) rfl (h0.ks ab);have al:=ab.finBox (G:=(fun n=>bif aJ n 1 then 450 else bif aJ n 2 then 450 else 0)) ah (by decide) (by decide) (show (fun n=>bif aJ n 1 then 450 else bif aJ n 2 then 450 else 0) 2=450 from rfl);refine ⟨rfl,Vz w0.heap.size col ai (fun n=>bif aJ n 1 then 450 else bif aJ n 2 then 450 else 0),_,rfl,ab.fin (fun n=>bif aJ n 1 then 450 else bif aJ n 2 then 450 else 0),164,[.pointer (some ⟨af,0,none⟩),.pointer (some ⟨ag,0,none⟩)],rfl,call164,?_⟩;intro col9 w9 am hk9;replace ak:=ak.itk am hk9 rfl;replace h0f:=h0f.itk am hk9 rfl;replace al:=al.itk am hk9 rfl;exact Z42 N col9 w9 af a0 aa ac h0f ak ag ad al r hm
 refine go ?_;refine lW ah.at1<|go ?_;refine Zq hm (fun hb hm=>?_) fun hb hm=>?_
 ·cases hm
 refine Yl ?_;exact ⟨rfl,_,hm,ab,ae,ah⟩
def Zju (N:Nat) (ae:List ByteArray) (af:Bool) (ag:List Int) (ah:List Int) (kk_L3:(Bool→R2→R2→Option (R1×Int))):List Int→Int→R2→Option (R1×Int)
  | [],aa,ab=>(Zjv N (i64.wrap ((i64.wrap (aa+(ae.length:Int))) - 1))).bind fun aj=>(Zg4 N (false,ab) (false,aj)).bind fun ac=>(Qg N ((af,ag),ah) ((ac.1.1.1,ac.1.1.2),ac.1.2)).bind fun ad=>kk_L3 ad.1.1 ad.1.2 ad.2
  | ai :: ak,aa,ab=>(Zjv N ai).bind fun al=>(Sw N ab al).bind fun am=>(Zju N ae af ag ah kk_L3 ak) (i64.wrap (aa+ai)) am
termination_by structural x=>x
def Zg8 (N:Nat) (ae:Int) (kk_L2:(Int→Bool→R2→R2→Option (R1×Int))) (aa:List ByteArray):List R2→Bool→R2→R2→Option (R1×Int)
  | [],ab,ac,ad=>kk_L2 (i64.wrap (ae+1)) ab ac ad
  | af :: ag,ab,ac,ad=>(Zjv N (i64.wrap ((aa.length:Int) - 1))).bind fun ah=>Zju N aa ab ac ad (Zg8 N ae kk_L2 aa ag) af 0 ah
termination_by structural x=>x
def Ze1 (N:Nat) (aa:R0) (ac:R6):Nat→Int→Bool→R2→R2→Option (R1×Int)
  | 0,_,_,_,_=>none
  | ah+1,ab,ad,ae,af=>if (decide (ab<(aa.2.1.length:Int)))=true then ((Zew N (aa.1,aa.2.1,aa.2.2.1,aa.2.2.2.1,aa.2.2.2.2) ac ab).bind fun ai=>(Zm aa.2.2.1 ab).bind fun ag=>(Zq1 N ai.1 (ag.length:Int)).bind fun aj=>Zg8 N ab (Ze1 N aa ac ah) ag aj ad ae af) else (some (((ad,ae),af),0))
termination_by structural x=>x
def Zjt (N:Nat) (ab:R0) (ac:R6):List R2→Bool→R2→R2→Option (R1×Int)
  | [],ad,ae,af=>(Zbz N 1).bind fun aa=>Ze1 N ab ac N 0 aa.1.1 aa.1.2 aa.2
  | ag :: ah,ad,ae,af=>(Zq4 ag (-1)).bind fun ai=>if ai=true then (some (((false,([]:List Int)),([]:List Int)),72)) else ((Zjt N ab ac ah) ad ae af)
termination_by structural x=>x
def Zqt (N:Nat) (aa:R0) (ab:R6):Option (R1×Int):=
  (Q8 N (aa.1,aa.2.1,aa.2.2.1,aa.2.2.2.1,aa.2.2.2.2) ab).bind fun ac=>if (!decide (ac=0))=true then (some (((false,([]:List Int)),([]:List Int)),ac)) else (Zjt N aa ab ab false ([]:List Int) ([]:List Int))
theorem Z3t {N bj bk bm bn cf:Nat} {bo bp bq br a1:Option Addr} {col:Ze} {w0:World} {aa:R0} {a3:R6} {r:(R1×Int)} (c1 c2:Nat) (hm:Zqt N aa a3=some r) (ae:Sl Za.str col w0 bo bj aa.2.1) (ac:Sl (Za.slice Za.str) col w0 bp bk aa.2.2.1) (af:Sl (Za.slice (Za.int .i64)) col w0 bq bm aa.2.2.2.1) (ag:Sl (Za.slice (Za.pair (Za.pair Za.bool (Za.slice (Za.int .u32))) (Za.slice (Za.int .u32)))) col w0 br bn aa.2.2.2.2) (h1:Sl (Za.slice (Za.int .i64)) col w0 a1 cf a3):
    Calls prog 23 #[(.agg #[.string aa.1,.slice bo aa.2.1.length bj,.slice bp aa.2.2.1.length bk,.slice bq aa.2.2.2.1.length bm,.slice br aa.2.2.2.2.length bn]),.slice a1 a3.length cf] w0 (fun e w'=>∃ (col':Ze) (ra1:Option Addr) (rc2:Nat) (ra4:Option Addr) (rc5:Nat),e= .returned (.tuple #[(.agg #[.bool r.1.1.1,.slice ra1 r.1.1.2.length rc2,.slice ra4 r.1.2.length rc5]),.int .i64 r.2])∧Zh col w0 col' w'∧Zb (Za.int .u32) 95 c1 col' w' ra1 rc2 r.1.1.2∧Zb (Za.int .u32) 95 c2 col' w' ra4 rc5 r.1.2):=by
 refine Zuh (m:=96) (args:=[(.agg #[.string aa.1,.slice bo aa.2.1.length bj,.slice bp aa.2.2.1.length bk,.slice bq aa.2.2.2.1.length bm,.slice br aa.2.2.2.2.length bn]),.slice a1 a3.length cf]) func23 rfl rfl rfl ?_;rw [Zqt.eq_1] at hm;have ab:=St.start col w0;replace ae:=ae.keep (Zi.start col w0);replace ac:=ac.keep (Zi.start col w0);replace af:=af.keep (Zi.start col w0);replace ag:=ag.keep (Zi.start col w0);replace h1:=h1.keep (Zi.start col w0);have hmk:Yy 499 (Zk col) w0 []:=.nil;refine go ?_;refine Xs (col:=(Zk col)) 1 rfl ?_;intro c6 ga eb cg ad;refine Xr (col:=eb) #[.bool false,.slice none (([]:List Int).length) 0,.slice none (([]:List Int).length) 0] 2 zeroValue39 ?_;intro c7 ec di b7 ah;refine go ?_;replace ad:=ad.gr b7;refine lV _ (Xd isAgg27 sizeOf27 ad)<|Y2 rfl ?_;obtain ⟨gb,ed,hm⟩:=bZ hm;replace ae:=(ae.gr cg).gr b7;replace ac:=(ac.gr cg).gr b7;replace af:=(af.gr cg).gr b7;replace ag:=(ag.gr cg).gr b7;replace h1:=(h1.gr cg).gr b7;refine Zj (Zpq ed ae ac af ag h1) ?_;rintro _ ee ⟨rfl,bs⟩;refine ⟨_,rfl,?_⟩;replace bs:Zh di ec di ee:=.of_below bs;refine go ?_;replace hmk:=((hmk.gr cg).gr b7).gr bs;replace ab:=((ab.grow cg).grow b7).grow bs;replace h1:=h1.gr bs;replace ae:=ae.gr bs;replace ac:=ac.gr bs;replace af:=af.gr bs;replace ag:=ag.gr bs;replace ad:=ad.gr bs;replace ah:=ah.gr bs;refine Zq hm (fun hb hm=>go ?_) fun hb hm=>go ?_
 ·refine lV (.agg #[.bool false,.slice none (([]:List Int).length) 0,.slice none (([]:List Int).length) 0]) (Wy (l:=[_,_]) (qs:=[(0,2),(2,1)]) underlying39 zeroValue39 ⟨rfl,sizeOf37,rfl,sizeOf35,trivial⟩ rfl)<|X1 rfl<|Z5 ah ?_;intro gc dw ef dj;refine go ?_;cases hm;replace hmk:=hmk.kp dw;refine ⟨_,[],rfl,hmk,?_⟩;intro gd dx eg;replace ab:=(ab.kp dw ef).kp dx eg;replace dj:=dj.kp dx;exact ⟨_,Zop rfl rfl isAgg39 sizeOf39 rfl rfl dj.atN rfl rfl,Vz w0.heap.size col di (fun n=>0),none,0,none,0,rfl,ab.fin (fun n=>0),Zb.nil,Zb.nil⟩
 refine Z4 [1,2,28,29,4,1000000] (fun n f be=>∃ a4 cl cj b1 b2 bu b3 b4 bv cn,n=cn.length∧a3.drop cl=cn∧Zjt N aa a3 cn cj bu bv=some r∧St w0 (Zk col) a4 be∧Sl (Za.slice (Za.int .i64)) a4 be a1 cf a3∧Sl Za.str a4 be bo bj aa.2.1∧Sl (Za.slice Za.str) a4 be bp bk aa.2.2.1∧Sl (Za.slice (Za.int .i64)) a4 be bq bm aa.2.2.2.1∧Sl (Za.slice (Za.pair (Za.pair Za.bool (Za.slice (Za.int .u32))) (Za.slice (Za.int .u32)))) a4 be br bn aa.2.2.2.2∧Zf 27 1 a4 be c6 #[.string aa.1,.slice bo aa.2.1.length bj,.slice bp aa.2.2.1.length bk,.slice bq aa.2.2.2.1.length bm,.slice br aa.2.2.2.2.length bn]∧Zb (Za.int .u32) 95 3 a4 be b1 b2 bu∧Zb (Za.int .u32) 95 4 a4 be b3 b4 bv∧Zf 39 2 a4 be c7 #[.bool cj,.slice b1 bu.length b2,.slice b3 bv.length b4]∧Yy 499 a4 be []∧[30].map f=[.int .i64 cl]) a3.length ⟨_,0,_,none,0,_,none,0,_,_,rfl,rfl,hm,ab,h1,ae,ac,af,ag,ad,Zb.nil,Zb.nil,ah,hmk,rfl⟩ ?_;clear hm;intro n f be hI;obtain ⟨a4,cl,cj,b1,b2,bu,b3,b4,bv,cn,hn,hl,hm,ab,h1,ae,ac,af,ag,ad,ai,aj,ah,hmk,hs⟩:=hI;subst hn;refine .lL [30] hs ?_
 cases cn with
 | nil=>
  have hk:¬ ((cl:Int)<(a3.length:Int)):=by have:=aH.1 hl;omega
  have hkb:=decide_eq_false hk;rw [Zjt.eq_1] at hm;refine go ?_;refine X2 (congrArg Value.bool hkb)<|go ?_;obtain ⟨ge,eh,hm⟩:=bZ hm;refine Zj (Zpp (col:=a4) 5 6 eh) ?_;rintro _ gf ⟨ei,gg,gh,gi,gj,rfl,bt,dl,dm⟩;refine ⟨_,rfl,?_⟩;refine Xr (col:=ei) #[.bool false,.slice none (([]:List Int).length) 0,.slice none (([]:List Int).length) 0] 7 zeroValue39 ?_;intro dn gk gl bf ej;refine Z5 ej ?_;intro gm bg ek al;refine go ?_;refine Yk ⟨_,_,rfl⟩ ?_;replace ad:=((ad.gr bt).gr bf).kp bg;refine lW ((ad.atN).nth (q:=1) rfl)<|go ?_;replace h1:=((h1.gr bt).gr bf).kp bg;replace ae:=((ae.gr bt).gr bf).kp bg;replace ac:=((ac.gr bt).gr bf).kp bg;replace af:=((af.gr bt).gr bf).kp bg;replace ag:=((ag.gr bt).gr bf).kp bg;replace ai:=((ai.gr bt).gr bf).kp bg;replace aj:=((aj.gr bt).gr bf).kp bg;replace ah:=((ah.gr bt).gr bf).kp bg;replace hmk:=((hmk.gr bt).gr bf).kp bg;replace ab:=((ab.grow bt).grow bf).kp bg ek;replace dl:=(dl.gr bf).kp bg;replace dm:=(dm.gr bf).kp bg;refine Z4 [1,2,4,41,9] (fun n f a9=>∃ a5 co c8 cp cq cr cs ct cu c9 b8,b8=n∧Ze1 N aa a3 b8 co c8 cr cu=some r∧St w0 (Zk col) a5 a9∧Sl (Za.slice (Za.int .i64)) a5 a9 a1 cf a3∧Sl Za.str a5 a9 bo bj aa.2.1∧Sl (Za.slice Za.str) a5 a9 bp bk aa.2.2.1∧Sl (Za.slice (Za.int .i64)) a5 a9 bq bm aa.2.2.2.1∧Sl (Za.slice (Za.pair (Za.pair Za.bool (Za.slice (Za.int .u32))) (Za.slice (Za.int .u32)))) a5 a9 br bn aa.2.2.2.2∧Zf 27 1 a5 a9 c6 #[.string aa.1,.slice bo aa.2.1.length bj,.slice bp aa.2.2.1.length bk,.slice bq aa.2.2.2.1.length bm,.slice br aa.2.2.2.2.length bn]∧Zb (Za.int .u32) 95 3 a5 a9 b1 b2 bu∧Zb (Za.int .u32) 95 4 a5 a9 b3 b4 bv∧Zf 39 2 a5 a9 c7 #[.bool cj,.slice b1 bu.length b2,.slice b3 bv.length b4]∧Zb (Za.int .u32) 95 5 a5 a9 cp cq cr∧Zb (Za.int .u32) 95 6 a5 a9 cs ct cu∧Zf 39 7 a5 a9 dn #[.bool c8,.slice cp cr.length cq,.slice cs cu.length ct]∧Yy 499 a5 a9 c9∧[42,1000000].map f=[.int .i64 co,enc c9]) N ⟨_,0,_,_,_,_,_,_,_,_,_,rfl,hm,ab,h1,ae,ac,af,ag,ad,ai,aj,ah,dl,dm,al,hmk,rfl⟩ ?_;clear hm;intro n f a9 hI
  obtain ⟨a5,co,c8,cp,cq,cr,cs,ct,cu,c9,b8,hn,hm,ab,h1,ae,ac,af,ag,ad,ai,aj,ah,bw,bx,al,hmk,hs⟩:=hI;subst hn;refine .lL [42,1000000] hs ?_
  cases b8 with
  | zero=>rw [Ze1.eq_1] at hm;cases hm
  | succ b8=>
   rw [Ze1.eq_2] at hm;refine go ?_;refine Zq hm (fun hb hm=>go ?_) fun hb hm=>go ?_
   ·refine lV _ (Xd isAgg27 sizeOf27 ad)<|go ?_;obtain ⟨da,el,hm⟩:=bZ hm;refine Zj (Ztw 8 el ae ac af ag h1) ?_;rintro _ gp ⟨em,dy,dz,rfl,bd,cv⟩;refine ⟨_,rfl,?_⟩;refine lM (.tuple #[.slice dy da.1.length dz,.int .i64 da.2])<|lV (.slice dy da.1.length dz) (Xx rfl rfl)<|lV (.int .i64 da.2) (Xx rfl rfl)<|go ?_;refine Yk ⟨_,_,rfl⟩ ?_;replace ad:=ad.gr bd;refine lW ((ad.atN).nth (q:=2) rfl)<|X1 rfl ?_;obtain ⟨ch,dp,hm⟩:=bZ hm;replace ac:=ac.gr bd;refine lI dp (ac.addr dp) ?_;obtain ⟨_,en,eo⟩:=ac.atN dp;obtain ⟨⟨gs,gt,rfl,gu⟩,_⟩:=en;refine lW eo.one<|go ?_;refine Zav (col:=em) (v:=(.int .i64 0)) 9 rfl zeroValue3 ?_;intro db ep d0 ba dq;replace dq:Zf 3 9 d0 ep db #[.int .i64 0]:=dq;refine Sr (v:=(.int .i64 ch.length)) dq sizeOf3 rfl rfl (by intro u hu;simp only [Value.cells,aP,bL,or_false] at hu;subst hu;rfl) rfl rfl ?_;intro eq bb er ak;replace ak:Zf 3 9 d0 eq db #[.int .i64 ch.length]:=ak;refine go ?_;refine lW ak.at1 ?_;replace h1:=((h1.gr bd).gr ba).kp bb;replace h1:=h1.froz 8;replace ae:=((ae.gr bd).gr ba).kp bb;replace ae:=ae.froz 8;replace ac:=(ac.gr ba).kp bb;replace ac:=ac.froz 8;replace af:=((af.gr bd).gr ba).kp bb;replace af:=af.froz 8;replace ag:=((ag.gr bd).gr ba).kp bb;replace ag:=ag.froz 8;replace ai:=((ai.gr bd).gr ba).kp bb;replace ai:=ai.froz 8 (by decide);replace aj:=((aj.gr bd).gr ba).kp bb;replace aj:=aj.froz 8 (by decide);replace bw:=((bw.gr bd).gr ba).kp bb;replace bw:=bw.froz 8 (by decide);replace bx:=((bx.gr bd).gr ba).kp bb;replace bx:=bx.froz 8 (by decide);replace cv:=(cv.gr ba).kp bb;replace cv:=(cv).toSlF (Zd.int .i64);replace ad:=(ad.gr ba).kp bb;replace ad:=ad.froz 8 (by decide);replace ah:=((ah.gr bd).gr ba).kp bb;replace ah:=ah.froz 8 (by decide);replace al:=((al.gr bd).gr ba).kp bb;replace al:=al.froz 8 (by decide);replace ak:=ak.froz 8 (by decide);replace hmk:=((hmk.gr bd).gr ba).kp bb;replace hmk:=hmk.froz 8 (by decide);replace ab:=((ab.grow bd).grow ba).kp bb er;replace ab:=ab.froz 8 (by decide) (by decide);obtain ⟨es,et,hm⟩:=bZ hm;refine Zj (Z41 et cv) ?_;rintro _ gv ⟨eu,gw,rfl,bc,ew⟩
    refine ⟨_,rfl,go ?_⟩;replace h1:=h1.gr bc;replace ae:=ae.gr bc;replace ac:=ac.gr bc;replace af:=af.gr bc;replace ag:=ag.gr bc;replace ai:=ai.gr bc;replace aj:=aj.gr bc;replace bw:=bw.gr bc;replace bx:=bx.gr bc;replace ad:=ad.gr bc;replace ah:=ah.gr bc;replace al:=al.gr bc;replace ak:=ak.gr bc;replace hmk:=hmk.gr bc;replace ab:=ab.grow bc;refine Zo3 (psl:=[61]) (arr:=(fun (y:List Int) (col:Ze) (w:World) (args:List Value)=>∃ (a0:Option Addr) (d1:Nat),args=[.slice a0 y.length d1]∧Sl (Za.int .i64) col w a0 d1 y)) (ys:=es) (col:=eu) 498 rfl ew rfl hmk rfl rfl (by rintro _ _ _ _ ⟨_,_,rfl,_⟩;rfl) (fun ys_ ap ar=>∃ (b9:Bool) (ca:Option Addr) (cb:Nat) (bz:List Int) (cc:Option Addr) (cd:Nat) (b0:List Int),Zg8 N co (Ze1 N aa a3 b8) ch ys_ b9 bz b0=some r∧St w0 (Zk col) ap ar∧Sl (Za.slice (Za.int .i64)) ap ar a1 cf a3∧Zf 3 9 ap ar db #[.int .i64 ch.length]∧Sl Za.str ap ar bo bj aa.2.1∧Sl (Za.slice Za.str) ap ar bp bk aa.2.2.1∧Sl (Za.slice (Za.int .i64)) ap ar bq bm aa.2.2.2.1∧Sl (Za.slice (Za.pair (Za.pair Za.bool (Za.slice (Za.int .u32))) (Za.slice (Za.int .u32)))) ap ar br bn aa.2.2.2.2∧Zf 27 1 ap ar c6 #[.string aa.1,.slice bo aa.2.1.length bj,.slice bp aa.2.2.1.length bk,.slice bq aa.2.2.2.1.length bm,.slice br aa.2.2.2.2.length bn]∧Zb (Za.int .u32) 95 3 ap ar b1 b2 bu∧Zb (Za.int .u32) 95 4 ap ar b3 b4 bv∧Zf 39 2 ap ar c7 #[.bool cj,.slice b1 bu.length b2,.slice b3 bv.length b4]∧Zb (Za.int .u32) 95 5 ap ar ca cb bz∧Zb (Za.int .u32) 95 6 ap ar cc cd b0∧Zf 39 7 ap ar dn #[.bool b9,.slice ca bz.length cb,.slice cc b0.length cd]) (fun _ _ _=>False) ?_ ?_ ⟨c8,cp,cq,cr,cs,ct,cu,hm,ab,h1,ak,ae,ac,af,ag,ad,ai,aj,ah,bw,bx,al⟩ ?_ ?_ ?_
    ·intro ys_ ap ar col2_ w2_ hJ hk;obtain ⟨b9,ca,cb,bz,cc,cd,b0,hm,ab,h1,ak,ae,ac,af,ag,ad,ai,aj,ah,a6,a7,al⟩:=hJ;exact ⟨b9,ca,cb,bz,cc,cd,b0,hm,ab.kpp hk rfl rfl,h1.kpp hk rfl,ak.kpp hk rfl,ae.kpp hk rfl,ac.kpp hk rfl,af.kpp hk rfl,ag.kpp hk rfl,ad.kpp hk rfl,ai.kpp hk rfl rfl,aj.kpp hk rfl rfl,ah.kpp hk rfl,a6.kpp hk rfl rfl,a7.kpp hk rfl rfl,al.kpp hk rfl⟩
    ·intro _ _ _ _ _ h _;exact h
    ·intro ey gx ez cw e0 ap ar args hJ hrec hmk harr;obtain ⟨b9,ca,cb,bz,cc,cd,b0,hm,ab,h1,ak,ae,ac,af,ag,ad,ai,aj,ah,a6,a7,al⟩:=hJ;rw [Zg8.eq_2] at hm;have hki:=Zu.refl (pC 1) ap ar;obtain ⟨e1,e2,rfl,bi⟩:=harr;refine go ?_;refine ⟨_,hrec,?_⟩;intro gy e3 a2 d2 hrec2;have hrec:=hrec2;refine go ?_;replace ak:=ak.kp a2;refine lW ak.at1<|go ?_;obtain ⟨gz,e4,hm⟩:=bZ hm;refine Zj (Zpo (col:=ap) 10 e4) ?_;rintro _ g0 ⟨g1,g2,g3,rfl,ay,e5⟩;refine ⟨_,rfl,go ?_⟩;replace h1:=(h1.kp a2).gr ay;replace ae:=(ae.kp a2).gr ay;replace ac:=(ac.kp a2).gr ay;replace af:=(af.kp a2).gr ay;replace ag:=(ag.kp a2).gr ay;replace ai:=(ai.kp a2).gr ay;replace aj:=(aj.kp a2).gr ay;replace a6:=(a6.kp a2).gr ay;replace a7:=(a7.kp a2).gr ay;replace bi:=(bi.kp a2).gr ay;replace ad:=(ad.kp a2).gr ay;replace ah:=(ah.kp a2).gr ay;replace al:=(al.kp a2).gr ay;replace hmk:=(hmk.kp a2).gr ay;replace hki:=(hki.kp a2 d2 rfl).gr ay;replace ab:=(ab.kp a2 d2).grow ay;replace ak:=ak.gr ay;replace hrec:=hrec.gr ay
     refine Z4 [1,13,2,4,41,42,65,66,9,1000000] (fun n f aq=>∃ am dr dc dd cx cy cz,n=cz.length∧cw.drop cy=cz∧Zju N ch b9 bz b0 (Zg8 N co (Ze1 N aa a3 b8) ch e0) cz dr cx=some r∧St w0 (Zk col) am aq∧Sl (Za.slice (Za.int .i64)) am aq a1 cf a3∧Zf 3 9 am aq db #[.int .i64 ch.length]∧Zb (Za.int .u32) 95 10 am aq dc dd cx∧Sl Za.str am aq bo bj aa.2.1∧Sl (Za.slice Za.str) am aq bp bk aa.2.2.1∧Sl (Za.slice (Za.int .i64)) am aq bq bm aa.2.2.2.1∧Sl (Za.slice (Za.pair (Za.pair Za.bool (Za.slice (Za.int .u32))) (Za.slice (Za.int .u32)))) am aq br bn aa.2.2.2.2∧Zf 27 1 am aq c6 #[.string aa.1,.slice bo aa.2.1.length bj,.slice bp aa.2.2.1.length bk,.slice bq aa.2.2.2.1.length bm,.slice br aa.2.2.2.2.length bn]∧Zb (Za.int .u32) 95 3 am aq b1 b2 bu∧Zb (Za.int .u32) 95 4 am aq b3 b4 bv∧Zf 39 2 am aq c7 #[.bool cj,.slice b1 bu.length b2,.slice b3 bv.length b4]∧Sl (Za.int .i64) am aq e1 e2 cw∧Zb (Za.int .u32) 95 5 am aq ca cb bz∧Zb (Za.int .u32) 95 6 am aq cc cd b0∧Zf 39 7 am aq dn #[.bool b9,.slice ca bz.length cb,.slice cc b0.length cd]∧W9 498 am aq ey e3∧Yy 499 am aq ez∧Zu (pC 1) ap ar am aq∧[67,15,16].map f=[.int .i64 cy,.int .i64 dr,.slice dc cx.length dd]) cw.length ⟨_,0,_,_,_,0,_,rfl,rfl,hm,ab,h1,ak,e5,ae,ac,af,ag,ad,ai,aj,ah,bi,a6,a7,al,hrec,hmk,hki,rfl⟩ ?_;clear hm;intro n f aq hI;obtain ⟨am,dr,dc,dd,cx,cy,cz,hn,hl,hm,ab,h1,ak,ck,ae,ac,af,ag,ad,ai,aj,ah,bi,a6,a7,al,hrec,hmk,hki,hs⟩:=hI;subst hn;refine .lL [67,15,16] hs ?_
     cases cz with
     | nil=>
      have hk:¬ ((cy:Int)<(cw.length:Int)):=by have:=aH.1 hl;omega
      have hkb:=decide_eq_false hk;rw [Zju.eq_1] at hm;refine go ?_;refine X2 (congrArg Value.bool hkb)<|go ?_;refine lV (.agg #[.bool false,.slice dc cx.length dd]) (Wy (l:=[_,_]) (qs:=[(0,1),(1,1)]) underlying37 zeroValue37 ⟨rfl,sizeOf4,rfl,sizeOf35,trivial⟩ rfl)<|X1 rfl<|lW ak.at1<|go ?_;obtain ⟨e6,e7,hm⟩:=bZ hm;refine Zj (Zpo (col:=am) 11 e7) ?_;rintro _ e8 ⟨de,e9,fa,rfl,az,fb⟩;refine ⟨_,rfl,?_⟩;refine lV (.agg #[.bool false,.slice e9 e6.length fa]) (Wy (l:=[_,_]) (qs:=[(0,1),(1,1)]) underlying37 zeroValue37 ⟨rfl,sizeOf4,rfl,sizeOf35,trivial⟩ rfl) ?_;obtain ⟨ce,fc,hm⟩:=bZ hm;replace ck:=ck.gr az;refine Zj (Ztz 12 13 fc ((ck.toSlF (Zd.int .u32)).froz 11) ((fb.froz 10 (by decide)).toSlF (Zd.int .u32))) ?_;rintro _ g4 ⟨fd,d3,d4,d5,d6,rfl,an,c0,c3⟩;refine ⟨_,rfl,?_⟩;replace c0:=c0.thaw (Z7 .u32) an (((Fz.refl (col:=de)).froz 10).froz 11) (by decide);replace c3:=c3.thaw (Z7 .u32) an (((Fz.refl (col:=de)).froz 10).froz 11) (by decide);replace an:=an.thawR (col:=de);generalize Xj e8.heap.size de fd=fe at *;refine lM (.tuple #[(.agg #[.bool ce.1.1.1,.slice d3 ce.1.1.2.length d4,.slice d5 ce.1.2.length d6]),.int .i64 ce.2])<|lV (.agg #[.bool ce.1.1.1,.slice d3 ce.1.1.2.length d4,.slice d5 ce.1.2.length d6]) (Xx rfl rfl)<|lV (.int .i64 ce.2) (Xx rfl rfl)<|Xr (col:=fe) #[.bool false,.slice none (([]:List Int).length) 0,.slice none (([]:List Int).length) 0] 14 zeroValue39 ?_;intro g5 g6 df au ff;refine Z5 ff ?_;intro fg av d7 fh;refine go ?_;replace al:=(((al.gr az).gr an).gr au).kp av;refine lV _ (Xd isAgg39 sizeOf39 al)<|lV _ (Xd isAgg39 sizeOf39 fh) ?_;obtain ⟨ds,fi,hm⟩:=bZ hm;replace a6:=(((a6.gr az).gr an).gr au).kp av;replace a7:=(((a7.gr az).gr an).gr au).kp av;replace c0:=(c0.gr au).kp av;replace c3:=(c3.gr au).kp av
      refine Zj (Zl7 15 16 fi ((((a6.toSlF (Zd.int .u32)).froz 6).froz 12).froz 13) ((((a7.froz 5 (by decide)).toSlF (Zd.int .u32)).froz 12).froz 13) ((((c0.froz 5 (by decide)).froz 6 (by decide)).toSlF (Zd.int .u32)).froz 13) ((((c3.froz 5 (by decide)).froz 6 (by decide)).froz 12 (by decide)).toSlF (Zd.int .u32))) ?_;rintro _ g7 ⟨fj,fk,fl,fm,fn,rfl,aw,b5,b6⟩;refine ⟨_,rfl,?_⟩;replace b5:=b5.thaw (Z7 .u32) aw (((((Fz.refl (col:=df)).froz 5).froz 6).froz 12).froz 13) (by decide);replace b6:=b6.thaw (Z7 .u32) aw (((((Fz.refl (col:=df)).froz 5).froz 6).froz 12).froz 13) (by decide);replace aw:=aw.thawR (col:=df);generalize Xj fg.heap.size df fj=g8 at *;replace al:=al.gr aw;refine Z5 al ?_;intro g9 a8 d8 c4;refine Zl ?_;replace h1:=(((((h1.gr az).gr an).gr au).kp av).gr aw).kp a8;replace h1:=h1.recol 15 5 (by decide);replace ae:=(((((ae.gr az).gr an).gr au).kp av).gr aw).kp a8;replace ae:=ae.recol 15 5 (by decide);replace ac:=(((((ac.gr az).gr an).gr au).kp av).gr aw).kp a8;replace ac:=ac.recol 15 5 (by decide);replace af:=(((((af.gr az).gr an).gr au).kp av).gr aw).kp a8;replace af:=af.recol 15 5 (by decide);replace ag:=(((((ag.gr az).gr an).gr au).kp av).gr aw).kp a8;replace ag:=ag.recol 15 5 (by decide);replace ai:=(((((ai.gr az).gr an).gr au).kp av).gr aw).kp a8;replace ai:=ai.recol 15 5 (by decide);replace aj:=(((((aj.gr az).gr an).gr au).kp av).gr aw).kp a8;replace aj:=aj.recol 15 5 (by decide);replace b5:=b5.kp a8;replace b5:=b5.recolSelf 5 (by decide);replace b6:=b6.kp a8;replace b6:=b6.recol 15 5 (by decide);replace ak:=(((((ak.gr az).gr an).gr au).kp av).gr aw).kp a8;replace ak:=ak.recol 15 5 (by decide);replace ad:=(((((ad.gr az).gr an).gr au).kp av).gr aw).kp a8;replace ad:=ad.recol 15 5 (by decide);replace ah:=(((((ah.gr az).gr an).gr au).kp av).gr aw).kp a8;replace ah:=ah.recol 15 5 (by decide);replace c4:=c4.recol 15 5 (by decide);replace hrec:=(((((hrec.gr az).gr an).gr au).kp av).gr aw).kp a8;replace hrec:=hrec.recol 15 5 (by decide);replace hmk:=(((((hmk.gr az).gr an).gr au).kp av).gr aw).kp a8;replace hmk:=hmk.recol 15 5 (by decide)
      replace hki:=(((((hki.gr az).gr an).gr au).kp av d7 rfl).gr aw).kp a8 d8 rfl;replace hki:=hki.recol 15 5 rfl;replace ab:=(((((ab.grow az).grow an).grow au).kp av d7).grow aw).kp a8 d8;replace ab:=ab.recol 15 5 (by decide) (by decide);replace h1:=h1.recol 16 6 (by decide);replace ae:=ae.recol 16 6 (by decide);replace ac:=ac.recol 16 6 (by decide);replace af:=af.recol 16 6 (by decide);replace ag:=ag.recol 16 6 (by decide);replace ai:=ai.recol 16 6 (by decide);replace aj:=aj.recol 16 6 (by decide);replace b5:=b5.recol 16 6 (by decide);replace b6:=b6.recolSelf 6 (by decide);replace ak:=ak.recol 16 6 (by decide);replace ad:=ad.recol 16 6 (by decide);replace ah:=ah.recol 16 6 (by decide);replace c4:=c4.recol 16 6 (by decide);replace hrec:=hrec.recol 16 6 (by decide);replace hmk:=hmk.recol 16 6 (by decide);replace hki:=hki.recol 16 6 rfl;replace ab:=ab.recol 16 6 (by decide) (by decide);exact ⟨_,hki,⟨ds.1.1,fk,fl,ds.1.2,fm,fn,ds.2,hm,ab,h1,ak,ae,ac,af,ag,ad,ai,aj,ah,b5,b6,c4⟩,hrec,hmk⟩
     | cons ha fp=>
      obtain ⟨ci,fq,fr⟩:=Yd hl;have hk:(cy:Int)<(cw.length:Int):=by omega
      have hkb:=decide_eq_true hk;rw [Zju.eq_2] at hm;refine go ?_;refine X3 (congrArg Value.bool hkb)<|go ?_;refine lI ci (bi.addr ci)<|lW (bi.atInt ci) ?_;refine go ?_;obtain ⟨hc,ft,hm⟩:=bZ hm;refine Zj (Zpo (col:=am) 17 ft) ?_;rintro _ fu ⟨dt,hd,he,rfl,ax,fv⟩;refine ⟨_,rfl,?_⟩;obtain ⟨hf,fw,hm⟩:=bZ hm;replace ck:=ck.gr ax;refine Zj (Zcq 18 fw ((ck.toSlF (Zd.int .u32)).froz 17) ((fv.froz 10 (by decide)).toSlF (Zd.int .u32))) ?_;rintro _ hg ⟨fx,hh,hi,rfl,ao,c5⟩;refine ⟨_,rfl,?_⟩;replace c5:=c5.thaw (Z7 .u32) ao (((Fz.refl (col:=dt)).froz 10).froz 17) (by decide);replace ao:=ao.thawR (col:=dt);generalize Xj fu.heap.size dt fx=hj at *;refine go ?_;replace h1:=(h1.gr ax).gr ao;replace h1:=h1.recol 18 10 (by decide);replace ae:=(ae.gr ax).gr ao;replace ae:=ae.recol 18 10 (by decide);replace ac:=(ac.gr ax).gr ao;replace ac:=ac.recol 18 10 (by decide);replace af:=(af.gr ax).gr ao;replace af:=af.recol 18 10 (by decide);replace ag:=(ag.gr ax).gr ao;replace ag:=ag.recol 18 10 (by decide);replace ai:=(ai.gr ax).gr ao;replace ai:=ai.recol 18 10 (by decide);replace aj:=(aj.gr ax).gr ao;replace aj:=aj.recol 18 10 (by decide);replace bi:=(bi.gr ax).gr ao;replace bi:=bi.recol 18 10 (by decide);replace a6:=(a6.gr ax).gr ao;replace a6:=a6.recol 18 10 (by decide);replace a7:=(a7.gr ax).gr ao;replace a7:=a7.recol 18 10 (by decide);replace c5:=c5.recolSelf 10 (by decide);replace ak:=(ak.gr ax).gr ao;replace ak:=ak.recol 18 10 (by decide);replace ad:=(ad.gr ax).gr ao;replace ad:=ad.recol 18 10 (by decide);replace ah:=(ah.gr ax).gr ao;replace ah:=ah.recol 18 10 (by decide);replace al:=(al.gr ax).gr ao;replace al:=al.recol 18 10 (by decide);replace hrec:=(hrec.gr ax).gr ao;replace hrec:=hrec.recol 18 10 (by decide);replace hmk:=(hmk.gr ax).gr ao;replace hmk:=hmk.recol 18 10 (by decide);replace hki:=(hki.gr ax).gr ao;replace hki:=hki.recol 18 10 rfl;replace ab:=(ab.grow ax).grow ao;replace ab:=ab.recol 18 10 (by decide) (by decide);exact ⟨fp.length,by simp,rfl,⟨_,_,_,_,_,_,_,rfl,fq,hm,ab,h1,ak,c5,ae,ac,af,ag,ad,ai,aj,ah,bi,a6,a7,al,hrec,hmk,hki,(Yg (congrArg (Value.int .i64) (Yb (aF fr bi.1.1))) rfl)⟩⟩
    ·intro ho ap ar hJ hmk;obtain ⟨b9,ca,cb,bz,cc,cd,b0,hm,ab,h1,ak,ae,ac,af,ag,ad,ai,aj,ah,a6,a7,al⟩:=hJ;rw [Zg8.eq_1] at hm;refine go ?_;exact ⟨b8,by omega,rfl,⟨_,_,_,_,_,_,_,_,_,_,_,rfl,hm,ab,h1,ae,ac,af,ag,ad,ai,aj,ah,a6,a7,al,hmk,rfl⟩⟩
    intro _ _ _ _ h;exact h.elim
   refine lV _ (Xd isAgg39 sizeOf39 al)<|Z5 ah ?_;intro hp dg fy du;refine go ?_;cases hm;replace hmk:=hmk.kp dg;refine ⟨_,c9,rfl,hmk,?_⟩;intro hq dh fz;replace bw:=(bw.kp dg).kp dh;replace bx:=(bx.kp dg).kp dh;replace ab:=(ab.kp dg fy).kp dh fz;replace du:=du.kp dh;exact ⟨_,Zop rfl rfl isAgg39 sizeOf39 rfl rfl du.atN rfl rfl,Vz w0.heap.size col a5 (fun n=>bif aJ n 5 then c1 else bif aJ n 6 then c2 else 0),cp,cq,cs,ct,rfl,ab.fin (fun n=>bif aJ n 5 then c1 else bif aJ n 6 then c2 else 0),ab.finOwn (g:=(fun n=>bif aJ n 5 then c1 else bif aJ n 6 then c2 else 0)) rfl bw (by decide) (by decide) rfl,ab.finOwn (g:=(fun n=>bif aJ n 5 then c1 else bif aJ n 6 then c2 else 0)) rfl bx (by decide) (by decide) rfl⟩
 | cons hr f0=>
  obtain ⟨ci,f1,f2⟩:=Yd hl;have hk:(cl:Int)<(a3.length:Int):=by omega
  have hkb:=decide_eq_true hk;rw [Zjt.eq_2] at hm;refine go ?_;refine X3 (congrArg Value.bool hkb)<|go ?_;refine lI ci (h1.addr ci) ?_;obtain ⟨_,f3,f4⟩:=h1.atN ci;obtain ⟨⟨ht,hv,rfl,f5⟩,_⟩:=f3;refine lW f4.one<|go ?_;obtain ⟨hw,f6,hm⟩:=bZ hm;refine Zj (Z44 f6 f5) ?_;rintro _ f7 ⟨rfl,bh⟩;refine ⟨_,rfl,?_⟩;replace bh:Zh a4 be a4 f7:=.of_below bh;refine Zl ?_;replace h1:=h1.gr bh;replace ae:=ae.gr bh;replace ac:=ac.gr bh;replace af:=af.gr bh;replace ag:=ag.gr bh;replace ai:=ai.gr bh;replace aj:=aj.gr bh;replace ad:=ad.gr bh;replace ah:=ah.gr bh;replace hmk:=hmk.gr bh;replace ab:=ab.grow bh;refine Zq hm (fun hb hm=>go ?_) fun hb hm=>go ?_
  ·refine lV (.agg #[.bool false,.slice none (([]:List Int).length) 0,.slice none (([]:List Int).length) 0]) (Wy (l:=[_,_]) (qs:=[(0,2),(2,1)]) underlying39 zeroValue39 ⟨rfl,sizeOf37,rfl,sizeOf35,trivial⟩ rfl)<|Z5 ah ?_;intro hx d9 f8 dv;refine go ?_;cases hm;replace hmk:=hmk.kp d9;refine ⟨_,[],rfl,hmk,?_⟩;intro hy ea f9;replace ab:=(ab.kp d9 f8).kp ea f9;replace dv:=dv.kp ea;exact ⟨_,Zop rfl rfl isAgg39 sizeOf39 rfl rfl dv.atN rfl rfl,Vz w0.heap.size col a4 (fun n=>0),none,0,none,0,rfl,ab.fin (fun n=>0),Zb.nil,Zb.nil⟩
  exact ⟨f0.length,by simp,rfl,⟨_,_,_,_,_,_,_,_,_,_,rfl,f1,hm,ab,h1,ae,ac,af,ag,ad,ai,aj,ah,hmk,(Yg (congrArg (Value.int .i64) (Yb (aF f2 h1.1.1))) rfl)⟩⟩
def Zvi:List Int→Nat
 | []=>1
 | x :: l=>Zmf x.toNat * Zvi l
def Xa:List Int→Nat
 | []=>0
 | x :: l=>x.toNat+Xa l
def Wu (n:Zp) (v:Nat):Nat:=Yn n.2.2.1 (n.2.2.2.1.getD v []) 1
theorem Z1t {c:Nat}:∀ l:List Int,(∀ x ∈ l,x≤(c:Int))→Xa l≤c * l.length
 | [],_=>by simp [Xa]
 | x :: l,h=>by
  have b:=h x aC
  have d:=Z1t l fun y a=>h y (aB _ a)
  rw [Xa,nC,Nat.mul_add,Nat.mul_one];omega
section
variable {N:Nat} {n:Zp} (hf:Xu N n) (hr:Z9 N 4294967296) {r:List R2} (hR:∀ row ∈ r,Xn n row) (hl:r.length≤12)
include hf hR hl
omit hf hR in
theorem Zup {v:Nat}:∀ x ∈ Y5 n v r,0≤x∧x≤12:=fun x a=>by
 obtain ⟨i,_,rfl⟩:=bO.1 a
 have:=jQ (p:=fun q=>decide (Xt n v q=i)) (l:=r)
 omega
include hr
variable (hC:W1 N n=some 0) (hw:Ti n r=true) (hps:∀ v,(n.2.2.2.1.getD v []).length≤1048576)
include hC hw hps
end
def gC (k:Nat):List R2→Nat
 | []=>1
 | q :: l=>Zmf (k - 1) * Zvi q * gC k l
def hC (k:Nat):List R2→Nat
 | []=>1
 | q :: l=>Zmf (Xa q+k - 1) * hC k l
theorem Xas (m:Nat):Xa (aM m 0)=0:=by
 induction m with
 | zero=>rfl
 | succ m a=>rw [iA,Xa,a];rfl
theorem Z56:Wv prog 22 1 24:=⟨Tryz.t22,_,rfl,rfl,rfl,rfl,rfl⟩
theorem Z58:Wv prog 33 1 24:=⟨Tryz.t33,_,rfl,rfl,rfl,rfl,rfl⟩
theorem Z6a:Wv prog 39 3 56:=⟨Tryz.t39,_,rfl,rfl,rfl,rfl,rfl⟩
theorem Z54:Wv prog 114 1 24:=⟨Tryz.t114,_,rfl,rfl,rfl,rfl,rfl⟩
def Zdk (N:Nat) (ae:Int) (af:ByteArray) (ag:List ByteArray) (ah:List R3) (ai:List R2) (ac:List R4) (kk_L1:(Int→ByteArray→R3→Rf→R6→R9→Option R0)) (aj:List ByteArray) (ak:List Int):List R1→R4→Option R0
  | [],ab=>Z2 ((ac.length+[ab].length) * 24≤140737488355328∧ac.length+[ab].length≤maxLen) (kk_L1 (i64.wrap (ae+1)) af ag (ah++[aj]) (ai++[ak]) (ac++[ab]))
  | ad :: al,ab=>(Su N ((ad.1.1,ad.1.2),ad.2) ((false,([]:List Int)),([]:List Int))).bind fun aa=>Z2 ((ab.length+[((aa.1.1,aa.1.2),aa.2)].length) * 56≤140737488355328∧ab.length+[((aa.1.1,aa.1.2),aa.2)].length≤maxLen) ((Zdk N ae af ag ah ai ac kk_L1 aj ak al) (ab++[((aa.1.1,aa.1.2),aa.2)]))
termination_by structural x=>x
def Zby (N:Nat) (aa:R0):Nat→Int→ByteArray→R3→Rf→R6→R9→Option R0
  | 0,_,_,_,_,_,_=>none
  | ak+1,ab,ah,ai,ac,ad,aj=>if (decide (ab<(aa.2.1.length:Int)))=true then ((Zm aa.2.2.1 ab).bind fun al=>(Zfv al).bind fun ae=>Z2 ((ac.length+[ae].length) * 24≤140737488355328∧ac.length+[ae].length≤maxLen) ((Zm aa.2.2.2.1 ab).bind fun am=>(Qq am).bind fun af=>Z2 ((ad.length+[af].length) * 24≤140737488355328∧ad.length+[af].length≤maxLen) ((Zm aa.2.2.2.2 ab).bind fun ag=>Z2 (ag.length * 56≤281474976710656∧ag.length≤maxLen) (Zdk N ab ah ai ac ad aj (Zby N aa ak) ae af ag ([]:List R1))))) else (some (ah,ai,ac,ad,aj))
termination_by structural x=>x
def Zdj (N:Nat) (aa:R0):Option R0:=
  (Zfv aa.2.1).bind fun ab=>Zby N aa N 0 aa.1 ab ([]:List R3) ([]:List R2) ([]:List R4)
theorem Zt2 {N bw cg ch ci:Nat} {bx cj ck cl:Option Addr} {col:Ze} {w0:World} {af r:R0} (c1 c2 c3 c4:Nat) (hm:Zdj N af=some r) (c0:Sl Za.str col w0 bx bw af.2.1) (cn:Sl (Za.slice Za.str) col w0 cj cg af.2.2.1) (co:Sl (Za.slice (Za.int .i64)) col w0 ck ch af.2.2.2.1) (bz:Sl (Za.slice (Za.pair (Za.pair Za.bool (Za.slice (Za.int .u32))) (Za.slice (Za.int .u32)))) col w0 cl ci af.2.2.2.2):
    Calls prog 101 #[(.agg #[.string af.1,.slice bx af.2.1.length bw,.slice cj af.2.2.1.length cg,.slice ck af.2.2.2.1.length ch,.slice cl af.2.2.2.2.length ci])] w0 (fun e w'=>∃ (col':Ze) (ra1:Option Addr) (rc2:Nat) (ra4:Option Addr) (rc5:Nat) (ra7:Option Addr) (rc8:Nat) (ra10:Option Addr) (rc11:Nat),e= .returned ((.agg #[.string r.1,.slice ra1 r.2.1.length rc2,.slice ra4 r.2.2.1.length rc5,.slice ra7 r.2.2.2.1.length rc8,.slice ra10 r.2.2.2.2.length rc11]))∧Zh col w0 col' w'∧Zb Za.str 9 c1 col' w' ra1 rc2 r.2.1∧Zb (Za.row 9 Za.str) 22 c2 col' w' ra4 rc5 r.2.2.1∧Zb (Za.row 3 (Za.int .i64)) 33 c3 col' w' ra7 rc8 r.2.2.2.1∧Zb (Za.row 39 (Za.pair (Za.pair Za.bool (Za.row 95 (Za.int .u32))) (Za.row 95 (Za.int .u32)))) 114 c4 col' w' ra10 rc11 r.2.2.2.2):=by
 refine Wq (m:=74) func101 rfl rfl rfl ?_;rw [Zdj.eq_1] at hm;have aa:=St.start col w0;refine go ?_;refine Xs (col:=(Zk col)) 1 rfl ?_;intro cp f4 d9 ea ab;refine Xr (col:=d9) #[.string (⟨#[]⟩),.slice none (([]:List ByteArray).length) 0,.slice none (([]:List R3).length) 0,.slice none (([]:List R2).length) 0,(.slice none (([]:List R4).length) 0)] 2 zeroValue27 ?_;intro dt cq b6 du ac;refine go ?_;have c5:=Zu.clip (fun _=>false) b6 cq;refine Z2u (col:=b6) [(0,1),(1,0),(2,1),(3,0),(4,3),(5,1),(6,4),(7,2)] (by kernel_rfl) (by kernel_rfl) ⟨fun h=>absurd h (by decide),fun h=>absurd h (by decide),fun h=>absurd h (by decide),fun h=>absurd h (by decide),fun h=>absurd h (by decide),fun h=>absurd h (by decide),fun _=>⟨_,_,_,rfl,Zmk zeroValue27⟩,fun h=>absurd h (by decide),trivial⟩<|Zlu (v:=(.pointer ((some (⟨cp,0,none⟩:Addr)).map (·.add 0)))) rfl rfl (fun _=>Sh (sz:=1) (off:=0) underlying27 rfl sizeOf9 (by decide) rfl rfl ⟨_,_,rfl⟩) ?_;replace ab:=(ab.gr du).kpp c5;refine Zi0 (v:=(.string af.1)) rfl rfl (fun _ hC=>Qw isAgg9 rfl (((ab.atN).nth (q:=0) (v:=(.string af.1)) rfl).gr (hC.bl (Xb cq b6)))) ?_;refine Zlu (v:=(.pointer ((some (⟨cp,0,none⟩:Addr)).map (·.add 1)))) rfl rfl (fun _=>Sh (sz:=1) (off:=1) underlying27 rfl sizeOf22 (by decide) rfl rfl ⟨_,_,rfl⟩) ?_;refine Zi0 (v:=(.slice bx af.2.1.length bw)) rfl rfl (fun _ hC=>Qw isAgg22 rfl (((ab.atN).nth (q:=1) (v:=(.slice bx af.2.1.length bw)) rfl).gr (hC.bl (Xb cq b6)))) ?_;refine Zeg rfl rfl ?_;intro f5 hC0;have hC:=hC0.bl (Xb cq b6);obtain ⟨eb,ec,hm⟩:=bZ hm;replace c0:=c0.keep (Zi.start col w0);replace aa:=(((aa.grow ea).grow du).kpp c5).grow hC;refine Zj (Zuf 3 ec (c0.ks aa)) ?_;rintro _ ak ⟨ao,ed,ee,rfl,b0,b7⟩;refine ⟨_,rfl,?_⟩;refine Zl ?_;refine ⟨fun w'=>Zh (Xb ak ao) ak (Xb ak ao) w',fun g=>(Xb ak ao) g=497,Zh.refl _ _,Zbm,fun _=>⟨fun _ h=>Qc hC0 b0 h,fun b hb=>b0.below.block b hb,fun g x1 x2=>Zgm b0 g x1 (by first | exact x2 | (simp only [Y0,x2];rfl) | (simp only [Y0,Xy,x2];rfl))⟩,?_⟩;have cr:=Zu.clip (fun _=>false) ao ak
 refine Zlu (v:=(.agg #[.string af.1,.slice ed eb.length ee,.slice none (([]:List R3).length) 0,.slice none (([]:List R2).length) 0,(.slice none (([]:List R4).length) 0)])) rfl rfl (fun _=>Wy (l:=[_,_,_,_,_]) (qs:=[(0,1),(1,1),(2,1),(3,1),(4,1)]) underlying27 zeroValue27 ⟨rfl,sizeOf9,rfl,sizeOf22,rfl,sizeOf23,rfl,sizeOf24,rfl,sizeOf25,trivial⟩ rfl) ?_;refine xaF rfl rfl (Zmk zeroValue27) ?_;intro ap ef;refine Zeg rfl rfl ?_;intro eg ⟨hC0,hZ0⟩;replace ac:=(((ac.kpp c5).gr hC).gr b0).kpp cr;replace ab:=((ab.gr hC).gr b0).kpp cr;have hC:=hC0.bl (Xb ak ao);replace cn:=cn.keep (Zi.start col w0);replace co:=co.keep (Zi.start col w0);replace bz:=bz.keep (Zi.start col w0);obtain ⟨ct,c6⟩:=Ztt (col:=(Xb ak ao)) 4 hZ0 ef;replace c6:Zf 27 4 (Vt ap 4 (Xb ak ao)) eg ap #[.string (⟨#[]⟩),.slice none (([]:List ByteArray).length) 0,.slice none (([]:List R3).length) 0,.slice none (([]:List R2).length) 0,(.slice none (([]:List R4).length) 0)]:=c6;refine Z5 c6 ?_;intro bf cu eh aj;refine Zl ?_;refine ⟨fun w'=>Zh (Xb bf (Vt ap 4 (Xb ak ao))) bf (Xb bf (Vt ap 4 (Xb ak ao))) w',fun g=>(Xb bf (Vt ap 4 (Xb ak ao))) g=497,Zh.refl _ _,Zbm,fun h=>absurd h (by decide),?_⟩;have b8:=Zu.clip (fun _=>false) (Vt ap 4 (Xb ak ao)) bf;refine Z2z ?_;replace aa:=(((((aa.grow b0).kpp cr).grow hC).kpp ct).kp cu eh).kpp b8;replace b7:=((((b7.kpp cr).gr hC).kpp ct).kp cu).kpp b8;replace ab:=(((ab.gr hC).kpp ct).kp cu).kpp b8;replace ac:=(((ac.gr hC).kpp ct).kp cu).kpp b8;intro ei hC;replace hC:Zh (Xb bf (Vt ap 4 (Xb ak ao))) bf (Xb bf (Vt ap 4 (Xb ak ao))) ei:=.of_below hC.below;refine go ?_;refine Yk ⟨_,_,rfl⟩ ?_;replace ab:=ab.gr hC;refine lW ((ab.atN).nth (q:=1) rfl)<|go ?_;replace aj:=(aj.kpp b8).gr hC;replace b7:=b7.gr hC;replace ac:=ac.gr hC;replace aa:=aa.grow hC
 refine Z4 [1,16,2,3,1000000] (fun n f a7=>∃ al cv bg bh bi a0 c7 c8 aw cw cx ax bn bo ay bp,bp=n∧Zby N af bp cv bg a0 aw ax ay=some r∧St w0 (Zk col) al a7∧Zf 27 1 al a7 cp #[.string af.1,.slice bx af.2.1.length bw,.slice cj af.2.2.1.length cg,.slice ck af.2.2.2.1.length ch,.slice cl af.2.2.2.2.length ci]∧Zf 27 2 al a7 dt #[.string (⟨#[]⟩),.slice none (([]:List ByteArray).length) 0,.slice none (([]:List R3).length) 0,.slice none (([]:List R2).length) 0,(.slice none (([]:List R4).length) 0)]∧Zb Za.str 9 3 al a7 bh bi a0∧Zb (Za.row 9 Za.str) 22 5 al a7 c7 c8 aw∧Zb (Za.row 3 (Za.int .i64)) 33 6 al a7 cw cx ax∧Zb (Za.row 39 (Za.pair (Za.pair Za.bool (Za.row 95 (Za.int .u32))) (Za.row 95 (Za.int .u32)))) 114 7 al a7 bn bo ay∧Zf 27 4 al a7 ap #[.string bg,.slice bh a0.length bi,.slice c7 aw.length c8,.slice cw ax.length cx,.slice bn ay.length bo]∧[17].map f=[.int .i64 cv]) N ⟨_,0,_,_,_,_,none,0,_,none,0,_,none,0,_,_,rfl,hm,aa,ab,ac,b7,Zb.nil,Zb.nil,Zb.nil,aj,rfl⟩ ?_;clear hm;intro n f a7 hI;obtain ⟨al,cv,bg,bh,bi,a0,c7,c8,aw,cw,cx,ax,bn,bo,ay,bp,hn,hm,aa,ab,ac,ad,a1,ah,ae,aj,hs⟩:=hI;subst hn;refine .lL [17] hs ?_
 cases bp with
 | zero=>rw [Zby.eq_1] at hm;cases hm
 | succ bp=>
  rw [Zby.eq_2] at hm;refine go ?_;refine Zq hm (fun hb hm=>go ?_) fun hb hm=>go ?_
  ·refine W7 (col:=al) [(0,1),(1,0),(2,1),(3,0),(4,1),(5,1),(6,0),(7,3),(8,3),(9,2),(10,1),(11,2)] (by kernel_rfl) (by kernel_rfl)<|xF ⟨_,_,rfl⟩ ?_;refine xW (fun _ hC=>((aj.atN).nth (q:=2) rfl).gr (hC.bl al)) ?_;refine xF ⟨_,_,rfl⟩ ?_;refine xW (fun _ hC=>((ab.atN).nth (q:=2) rfl).gr (hC.bl al)) ?_;refine xu rfl rfl (fun _=>Y4 rfl) ?_;obtain ⟨f6,cy,hm⟩:=bZ hm;refine xu rfl rfl (fun _=>Y3 underlying23 sizeOf22 rfl rfl (Xe cy).1 (Xe cy).2.1 ((cn.ks aa).addr cy)) ?_;obtain ⟨_,ej,ek⟩:=(cn.ks aa).atN cy;obtain ⟨⟨f7,f8,rfl,c9⟩,_⟩:=ej;refine xW (fun _ hC=>ek.one.gr (hC.bl al)) ?_;refine xe rfl rfl ?_;intro f9 hC0;have hC:=hC0.bl al;obtain ⟨a2,el,hm⟩:=bZ hm;replace c9:=c9.gr hC;refine Zj (Zuf 8 el c9) ?_;rintro _ ga ⟨da,dv,dw,rfl,a8,db⟩;refine ⟨_,rfl,?_⟩;refine Zl<|Xz da hC0 a8<|xe rfl rfl ?_;intro gb hC0;replace ad:=(ad.gr hC).gr a8;replace a1:=(a1.gr hC).gr a8;replace ah:=(ah.gr hC).gr a8;replace ae:=(ae.gr hC).gr a8;replace ab:=(ab.gr hC).gr a8;replace ac:=(ac.gr hC).gr a8;replace aj:=(aj.gr hC).gr a8;replace aa:=(aa.grow hC).grow a8;have hC:=hC0.bl da;replace db:=db.gr hC;refine Ur (col:=da) (r:=(Za.row 9 Za.str)) (xs:=[a2]) [.slice dv a2.length dw] 8 (Wa.cons1 (cs:=[.slice dv a2.length dw]) db.has Rows.nil0) ?_;intro gc gd dc a9 dd;refine Zl<|Xz dc hC0 a9<|xe rfl rfl ?_;intro em hC0;replace ad:=(ad.gr hC).gr a9;replace a1:=(a1.gr hC).gr a9;replace ah:=(ah.gr hC).gr a9;replace ae:=(ae.gr hC).gr a9;replace ab:=(ab.gr hC).gr a9;replace ac:=(ac.gr hC).gr a9;replace aj:=(aj.gr hC).gr a9;replace aa:=(aa.grow hC).grow a9;have hC:=hC0.bl dc;obtain ⟨dx,hm⟩:=Z8 hm;replace a1:=a1.gr hC;replace dd:=dd.gr hC;refine Q2 (col:=dc) (w:=em) (r:=(Za.row 9 Za.str)) (c:=5) (c2:=8) (a1.ex) (dd.srcC (by decide)) rfl underlying23 Z56 rfl rfl rfl dx.1 dx.2 (by decide) ?_;intro b1 b2 ge a3 bq de;refine Zl<|xk a3<|xF ⟨_,_,rfl⟩ ?_;refine xe rfl rfl ?_;intro gf hC0;replace ad:=(ad.gr hC).kpp bq;replace ah:=(ah.gr hC).kpp bq;replace ae:=(ae.gr hC).kpp bq;replace ab:=(ab.gr hC).kpp bq;replace ac:=(ac.gr hC).kpp bq;replace aj:=(aj.gr hC).kpp bq;replace aa:=(aa.grow hC).kpp bq;have hC:=hC0.bl a3;replace aj:=aj.gr hC
   refine Zaw (off:=2) (v:=(.slice b1 ((aw++[a2]).length) b2)) aj sizeOf23 rfl rfl (by intro u hu;simp only [Value.cells,aP,bL,or_false] at hu;subst hu;rfl) rfl rfl ?_;intro en br eo am;replace am:Zf 27 4 a3 en ap #[.string bg,.slice bh a0.length bi,.slice b1 ((aw++[a2]).length) b2,.slice cw ax.length cx,.slice bn ay.length bo]:=am;refine Zl<|xk a3 ?_;replace de:=(de.gr hC).kp br;have ag:=de.new;refine Wi ?_;replace ad:=(ad.gr hC).kp br;replace ah:=(ah.gr hC).kp br;replace ae:=(ae.gr hC).kp br;replace ab:=(ab.gr hC).kp br;replace ac:=(ac.gr hC).kp br;replace aa:=(aa.grow hC).kp br eo;intro gg hC;replace hC:=hC.bl a3;refine Z0<|W7 (col:=a3) [(0,1),(1,0),(2,1),(3,0),(4,1),(5,1),(6,0),(7,3),(8,3),(9,2),(10,1),(11,2)] (by kernel_rfl) (by kernel_rfl)<|xF ⟨_,_,rfl⟩ ?_;replace am:=am.gr hC;refine xW (fun _ hC=>((am.atN).nth (q:=3) rfl).gr (hC.bl a3)) ?_;refine xF ⟨_,_,rfl⟩ ?_;replace ab:=ab.gr hC;refine xW (fun _ hC=>((ab.atN).nth (q:=3) rfl).gr (hC.bl a3)) ?_;refine xu rfl rfl (fun _=>Y4 rfl) ?_;obtain ⟨gh,cz,hm⟩:=bZ hm;replace aa:=aa.grow hC;refine xu rfl rfl (fun _=>Y3 underlying24 sizeOf33 rfl rfl (Xe cz).1 (Xe cz).2.1 ((co.ks aa).addr cz)) ?_;obtain ⟨_,ep,eq⟩:=(co.ks aa).atN cz;obtain ⟨⟨gi,gj,rfl,df⟩,_⟩:=ep;refine xW (fun _ hC=>eq.one.gr (hC.bl a3)) ?_;refine xe rfl rfl ?_;intro gk hC0;replace ad:=ad.gr hC;replace ag:=ag.gr hC;replace ah:=ah.gr hC;replace ae:=ae.gr hC;replace ac:=ac.gr hC;have hC:=hC0.bl a3;obtain ⟨ba,er,hm⟩:=bZ hm;replace df:=df.gr hC;refine Zj (Zjd 9 er df) ?_;rintro _ gl ⟨dg,dy,dz,rfl,bb,dh⟩;refine ⟨_,rfl,?_⟩;refine Zl<|Xz dg hC0 bb<|xe rfl rfl ?_;intro gm hC0;replace ad:=(ad.gr hC).gr bb;replace ag:=(ag.gr hC).gr bb;replace ah:=(ah.gr hC).gr bb;replace ae:=(ae.gr hC).gr bb;replace ab:=(ab.gr hC).gr bb;replace ac:=(ac.gr hC).gr bb;replace am:=(am.gr hC).gr bb;replace aa:=(aa.grow hC).grow bb;have hC:=hC0.bl dg;replace dh:=dh.gr hC;refine Ur (col:=dg) (r:=(Za.row 3 (Za.int .i64))) (xs:=[ba]) [.slice dy ba.length dz] 9 (Wa.cons1 (cs:=[.slice dy ba.length dz]) dh.has Rows.nil0) ?_;intro gp gs di bc dj;refine Zl<|Xz di hC0 bc<|xe rfl rfl ?_;intro es hC0;replace ad:=(ad.gr hC).gr bc;replace ag:=(ag.gr hC).gr bc;replace ah:=(ah.gr hC).gr bc
   replace ae:=(ae.gr hC).gr bc;replace ab:=(ab.gr hC).gr bc;replace ac:=(ac.gr hC).gr bc;replace am:=(am.gr hC).gr bc;replace aa:=(aa.grow hC).grow bc;have hC:=hC0.bl di;obtain ⟨d0,hm⟩:=Z8 hm;replace ah:=ah.gr hC;replace dj:=dj.gr hC;refine Q2 (col:=di) (w:=es) (r:=(Za.row 3 (Za.int .i64))) (c:=6) (c2:=9) (ah.ex) (dj.srcC (by decide)) rfl underlying24 Z58 rfl rfl rfl d0.1 d0.2 (by decide) ?_;intro b9 ca gt b3 bs dl;refine Zl<|xk b3<|xF ⟨_,_,rfl⟩ ?_;refine xe rfl rfl ?_;intro gu hC0;replace ad:=(ad.gr hC).kpp bs;replace ag:=(ag.gr hC).kpp bs;replace ae:=(ae.gr hC).kpp bs;replace ab:=(ab.gr hC).kpp bs;replace ac:=(ac.gr hC).kpp bs;replace am:=(am.gr hC).kpp bs;replace aa:=(aa.grow hC).kpp bs;have hC:=hC0.bl b3;replace am:=am.gr hC;refine Zaw (off:=3) (v:=(.slice b9 ((ax++[ba]).length) ca)) am sizeOf24 rfl rfl (by intro u hu;simp only [Value.cells,aP,bL,or_false] at hu;subst hu;rfl) rfl rfl ?_;intro et bt eu ai;replace ai:Zf 27 4 b3 et ap #[.string bg,.slice bh a0.length bi,.slice b1 ((aw++[a2]).length) b2,.slice b9 ((ax++[ba]).length) ca,.slice bn ay.length bo]:=ai;refine Zl<|xk b3 ?_;replace dl:=(dl.gr hC).kp bt;have an:=dl.new;refine Wi ?_;replace ad:=(ad.gr hC).kp bt;replace ag:=(ag.gr hC).kp bt;replace ae:=(ae.gr hC).kp bt;replace ab:=(ab.gr hC).kp bt;replace ac:=(ac.gr hC).kp bt;replace aa:=(aa.grow hC).kp bt eu;intro ew hC;replace hC:=hC.bl b3;refine go ?_;refine Yk ⟨_,_,rfl⟩ ?_;replace ab:=ab.gr hC;refine lW ((ab.atN).nth (q:=4) rfl)<|X1 rfl ?_;obtain ⟨b4,b5,hm⟩:=bZ hm;replace aa:=aa.grow hC;refine lI b5 ((bz.ks aa).addr b5) ?_;obtain ⟨_,ey,ez⟩:=(bz.ks aa).atN b5;obtain ⟨⟨gv,gw,rfl,gx⟩,_⟩:=ey;refine lW ez.one<|go ?_;obtain ⟨d1,hm⟩:=Z8 hm;refine Zwl (col:=b3) (w:=ew) (r:=(Za.pair (Za.pair Za.bool (Za.row 95 (Za.int .u32))) (Za.row 95 (Za.int .u32)))) (n:=b4.length) 10 rfl underlying114 Z6a rfl rfl rfl d1.1 d1.2 ?_;intro gy gz g0 bj e0;refine go ?_;refine Yk ⟨_,_,rfl⟩ ?_;replace ab:=ab.gr bj;refine lW ((ab.atN).nth (q:=4) rfl)<|X1 rfl ?_;replace aa:=aa.grow bj;refine lI b5 ((bz.ks aa).addr b5) ?_;obtain ⟨_,e1,e2⟩:=(bz.ks aa).atN b5;obtain ⟨⟨e3,e4,rfl,ar⟩,_⟩:=e1;refine lW e2.one<|go ?_;replace ad:=(ad.gr hC).gr bj;replace ag:=(ag.gr hC).gr bj
   replace an:=(an.gr hC).gr bj;replace ae:=(ae.gr hC).gr bj;replace ac:=(ac.gr hC).gr bj;replace ai:=(ai.gr hC).gr bj;refine Z4 [1,16,17,2,3,53,54,1000000] (fun n f az=>∃ aq cb cc bd cd ce,n=ce.length∧b4.drop cd=ce∧Zdk N cv bg a0 aw ax ay (Zby N af bp) a2 ba ce bd=some r∧St w0 (Zk col) aq az∧Zf 27 1 aq az cp #[.string af.1,.slice bx af.2.1.length bw,.slice cj af.2.2.1.length cg,.slice ck af.2.2.2.1.length ch,.slice cl af.2.2.2.2.length ci]∧Zf 27 2 aq az dt #[.string (⟨#[]⟩),.slice none (([]:List ByteArray).length) 0,.slice none (([]:List R3).length) 0,.slice none (([]:List R2).length) 0,(.slice none (([]:List R4).length) 0)]∧Zb Za.str 9 3 aq az bh bi a0∧Zb (Za.row 9 Za.str) 22 5 aq az b1 b2 (aw++[a2])∧Zb (Za.row 3 (Za.int .i64)) 33 6 aq az b9 ca (ax++[ba])∧Zb (Za.row 39 (Za.pair (Za.pair Za.bool (Za.row 95 (Za.int .u32))) (Za.row 95 (Za.int .u32)))) 114 7 aq az bn bo ay∧Zf 27 4 aq az ap #[.string bg,.slice bh a0.length bi,.slice b1 ((aw++[a2]).length) b2,.slice b9 ((ax++[ba]).length) ca,.slice bn ay.length bo]∧Zb (Za.pair (Za.pair Za.bool (Za.row 95 (Za.int .u32))) (Za.row 95 (Za.int .u32))) 39 10 aq az cb cc bd∧Sl (Za.pair (Za.pair Za.bool (Za.slice (Za.int .u32))) (Za.slice (Za.int .u32))) aq az e3 e4 b4∧[55,5].map f=[.int .i64 cd,.slice cb bd.length cc]) b4.length ⟨_,_,_,_,0,_,rfl,rfl,hm,aa,ab,ac,ad,ag,an,ae,ai,e0,ar,rfl⟩ ?_;clear hm;intro n f az hI;obtain ⟨aq,cb,cc,bd,cd,ce,hn,hl,hm,aa,ab,ac,ad,ag,an,ae,ai,bk,ar,hs⟩:=hI;subst hn;refine .lL [55,5] hs ?_
   cases ce with
   | nil=>
    have hk:¬ ((cd:Int)<(b4.length:Int)):=by have:=aH.1 hl;omega
    have hkb:=decide_eq_false hk;rw [Zdk.eq_1] at hm;refine go ?_;refine X2 (congrArg Value.bool hkb)<|go ?_;refine Xk ai<|Y2 rfl<|Ur (col:=aq) (r:=(Za.row 39 (Za.pair (Za.pair Za.bool (Za.row 95 (Za.int .u32))) (Za.row 95 (Za.int .u32))))) (xs:=[bd]) [.slice cb bd.length cc] 10 (Wa.cons1 (cs:=[.slice cb bd.length cc]) bk.has Rows.nil0) ?_;intro g1 e5 e6 bm e7;obtain ⟨d2,hm⟩:=Z8 hm;replace ae:=ae.gr bm;refine Q2 (col:=e6) (w:=e5) (r:=(Za.row 39 (Za.pair (Za.pair Za.bool (Za.row 95 (Za.int .u32))) (Za.row 95 (Za.int .u32))))) (c:=7) (c2:=10) (ae.ex) (e7.srcC (by decide)) rfl underlying25 Z54 rfl rfl rfl d2.1 d2.2 (by decide) ?_;intro d3 d4 g2 e8 bu dm;refine Yk ⟨_,_,rfl⟩ ?_;replace ai:=(ai.gr bm).kpp bu;refine Zaw (off:=4) (v:=(.slice d3 ((ay++[bd]).length) d4)) ai sizeOf25 rfl rfl (by intro u hu;simp only [Value.cells,aP,bL,or_false] at hu;subst hu;rfl) rfl rfl ?_;intro e9 bv fa dn;replace dn:Zf 27 4 e8 e9 ap #[.string bg,.slice bh a0.length bi,.slice b1 ((aw++[a2]).length) b2,.slice b9 ((ax++[ba]).length) ca,.slice d3 ((ay++[bd]).length) d4]:=dn;replace dm:=dm.kp bv;have fb:=dm.new;refine go ?_;replace ad:=((ad.gr bm).kpp bu).kp bv;replace ag:=((ag.gr bm).kpp bu).kp bv;replace an:=((an.gr bm).kpp bu).kp bv;replace ab:=((ab.gr bm).kpp bu).kp bv;replace ac:=((ac.gr bm).kpp bu).kp bv;replace aa:=((aa.grow bm).kpp bu).kp bv fa;exact ⟨bp,by omega,rfl,⟨_,_,_,_,_,_,_,_,_,_,_,_,_,_,_,_,rfl,hm,aa,ab,ac,ad,ag,an,fb,dn,rfl⟩⟩
   | cons dp fc=>
    obtain ⟨dq,fd,fe⟩:=Yd hl;have hk:(cd:Int)<(b4.length:Int):=by omega
    have hkb:=decide_eq_true hk;rw [Zdk.eq_2] at hm;refine go ?_;refine X3 (congrArg Value.bool hkb)<|go ?_;refine lI dq (ar.addr dq) ?_;obtain ⟨_,ff,fg⟩:=ar.atN dq;obtain ⟨_,_,rfl,fh,fi⟩:=Uw ff;obtain ⟨_,_,rfl,fj,fk⟩:=Uw fh;obtain ⟨rfl,_⟩:=fj;obtain ⟨⟨fl,fm,rfl,dr⟩,_⟩:=fk;obtain ⟨⟨fn,fp,rfl,ds⟩,_⟩:=fi;refine lV (.agg #[.bool dp.1.1,.slice fl dp.1.2.length fm,.slice fn dp.2.length fp]) (W4 isAgg39 sizeOf39 rfl rfl fg)<|Xr (col:=aq) #[.bool false,.slice none (([]:List Int).length) 0,.slice none (([]:List Int).length) 0] 11 zeroValue39 ?_;intro g3 g4 g5 au fq;refine Z5 fq ?_;intro g6 av fr ft;refine go ?_;refine lV _ (Xd isAgg39 sizeOf39 ft)<|lV (.agg #[.bool false,.slice none (([]:List Int).length) 0,.slice none (([]:List Int).length) 0]) (Wy (l:=[_,_]) (qs:=[(0,2),(2,1)]) underlying39 zeroValue39 ⟨rfl,sizeOf37,rfl,sizeOf35,trivial⟩ rfl) ?_;obtain ⟨a4,fu,hm⟩:=bZ hm;replace dr:=(dr.gr au).kp av;replace ds:=(ds.gr au).kp av;refine Zj (Zja 12 13 fu dr ds Sl.nil Sl.nil) ?_;rintro _ g7 ⟨fv,d5,d6,d7,d8,rfl,a5,fw,fx⟩;refine ⟨_,rfl,?_⟩;have fy:=X7.join (X7.joinL (Zcl a4.1.1) fw.has) fx.has (by decide) (by decide);replace ad:=((ad.gr au).kp av).gr a5;replace ad:=ad.recol 13 12 (by decide);replace ag:=((ag.gr au).kp av).gr a5;replace ag:=ag.recol 13 12 (by decide);replace an:=((an.gr au).kp av).gr a5;replace an:=an.recol 13 12 (by decide);replace ae:=((ae.gr au).kp av).gr a5;replace ae:=ae.recol 13 12 (by decide);replace ar:=((ar.gr au).kp av).gr a5;replace ar:=ar.recol 13 12 (by decide);replace bk:=((bk.gr au).kp av).gr a5;replace bk:=bk.recol 13 12 (by decide);replace ab:=((ab.gr au).kp av).gr a5;replace ab:=ab.recol 13 12 (by decide);replace ac:=((ac.gr au).kp av).gr a5;replace ac:=ac.recol 13 12 (by decide);replace ai:=((ai.gr au).kp av).gr a5;replace ai:=ai.recol 13 12 (by decide);replace aa:=((aa.grow au).kp av fr).grow a5;replace aa:=aa.recol 13 12 (by decide) (by decide)
    refine Ur (col:=(Xy 13 12 fv)) (r:=(Za.pair (Za.pair Za.bool (Za.row 95 (Za.int .u32))) (Za.row 95 (Za.int .u32)))) (xs:=[((a4.1.1,a4.1.2),a4.2)]) [(.agg #[.bool a4.1.1,.slice d5 a4.1.2.length d6,.slice d7 a4.2.length d8])] 12 (Wa.cons1 (cs:=[.bool a4.1.1,.slice d5 a4.1.2.length d6,.slice d7 a4.2.length d8]) fy Rows.nil0) ?_;intro g8 g9 ha a6 fz;obtain ⟨f0,hm⟩:=Z8 hm;replace bk:=bk.gr a6;refine V1 (c:=10) (c2:=12) bk (fz.srcC (by decide)) f0 ?_;intro hc hd he hf be f1;refine go ?_;replace ad:=(ad.gr a6).kpp be;replace ag:=(ag.gr a6).kpp be;replace an:=(an.gr a6).kpp be;replace ae:=(ae.gr a6).kpp be;replace ar:=(ar.gr a6).kpp be;replace ab:=(ab.gr a6).kpp be;replace ac:=(ac.gr a6).kpp be;replace ai:=(ai.gr a6).kpp be;replace aa:=(aa.grow a6).kpp be;exact ⟨fc.length,by simp,rfl,⟨_,_,_,_,_,_,rfl,fd,hm,aa,ab,ac,ad,ag,an,ae,ai,f1,ar,(Yg (congrArg (Value.int .i64) (Yb (aF fe ar.1.1))) rfl)⟩⟩
  refine lV _ (Xd isAgg27 sizeOf27 aj)<|Z5 ac ?_;intro hg cf f2 f3;refine go ?_;cases hm;replace ad:=ad.kp cf;replace a1:=a1.kp cf;replace ah:=ah.kp cf;replace ae:=ae.kp cf;replace aa:=aa.kp cf f2;exact ⟨rfl,_,ra f3.atN,_,_,_,_,_,_,_,_,_,rfl,aa.fin (cm [(3,c1),(5,c2),(6,c3),(7,c4)]),aa.fo ad,aa.fo a1,aa.fo ah,aa.fo ae⟩
theorem Z6b:Wv prog 39 3 56:=⟨Tryz.t39,_,rfl,rfl,rfl,rfl,rfl⟩
def Zdg (N:Nat) (ag:R0) (ad:R1) (ab:Int) (ah:ByteArray) (ai:List ByteArray) (aj:List R3) (ak:List R2) (ae:List R4) (kk_L1:(Int→ByteArray→R3→Rf→R6→R9→Option (R0×Int))):List Int→R4→Option (R0×Int)
  | [],ac=>(Zm ae ab).bind fun al=>(Zm ag.2.2.1 ab).bind fun am=>(Ze3 N al ac (am.length:Int)).bind fun an=>kk_L1 (i64.wrap (ab+1)) ah ai aj ak (ae.set (aA ab) an)
  | ao :: ap,ac=>(Zbz N ao).bind fun af=>(Su N ((af.1.1,af.1.2),af.2) ((ad.1.1,ad.1.2),ad.2)).bind fun aa=>Z2 ((ac.length+[((aa.1.1,aa.1.2),aa.2)].length) * 56≤140737488355328∧ac.length+[((aa.1.1,aa.1.2),aa.2)].length≤maxLen) ((Zdg N ag ad ab ah ai aj ak ae kk_L1 ap) (ac++[((aa.1.1,aa.1.2),aa.2)]))
termination_by structural x=>x
def Zbv (N:Nat) (aa:R0) (ac:R6) (ad:R1):Nat→Int→ByteArray→R3→Rf→R6→R9→Option (R0×Int)
  | 0,_,_,_,_,_,_=>none
  | aj+1,ab,ae,af,ag,ah,ai=>if (decide (ab<(aa.2.1.length:Int)))=true then ((Zew N (aa.1,aa.2.1,aa.2.2.1,aa.2.2.2.1,aa.2.2.2.2) ac ab).bind fun ak=>Zdg N aa ad ab ae af ag ah ai (Zbv N aa ac ad aj) ak.1 ([]:List R1)) else (some ((ae,af,ag,ah,ai),0))
termination_by structural x=>x
def Ze0 (N:Nat) (aa:R0) (ad:R6) (ac:R1):Option (R0×Int):=
  (Q8 N (aa.1,aa.2.1,aa.2.2.1,aa.2.2.2.1,aa.2.2.2.2) ad).bind fun ae=>if (!decide (ae=0))=true then (some ((⟨#[]⟩,([]:List ByteArray),([]:List R3),([]:List R2),([]:List R4)),ae)) else ((Ta N ((ac.1.1,ac.1.2),ac.2)).bind fun af=>if (decide (af<0))=true then (some ((⟨#[]⟩,([]:List ByteArray),([]:List R3),([]:List R2),([]:List R4)),3)) else ((Zdj N (aa.1,aa.2.1,aa.2.2.1,aa.2.2.2.1,aa.2.2.2.2)).bind fun ab=>Zbv N aa ad ac N 0 ab.1 ab.2.1 ab.2.2.1 ab.2.2.2.1 ab.2.2.2.2))
theorem Zt0 {N b4 b5 b6 b7 df b8 b9:Nat} {ca cb cc cd a1 ce cf:Option Addr} {col:Ze} {w0:World} {ai:R0} {br:R6} {ao:R1} {r:(R0×Int)} (c1 c2 c3 c4:Nat) (hm:Ze0 N ai br ao=some r) (bs:Sl Za.str col w0 ca b4 ai.2.1) (bd:Sl (Za.slice Za.str) col w0 cb b5 ai.2.2.1) (bt:Sl (Za.slice (Za.int .i64)) col w0 cc b6 ai.2.2.2.1) (bu:Sl (Za.slice (Za.pair (Za.pair Za.bool (Za.slice (Za.int .u32))) (Za.slice (Za.int .u32)))) col w0 cd b7 ai.2.2.2.2) (h1:Sl (Za.slice (Za.int .i64)) col w0 a1 df br) (cg:Sl (Za.int .u32) col w0 ce b8 ao.1.2) (ch:Sl (Za.int .u32) col w0 cf b9 ao.2):
    Calls prog 25 #[(.agg #[.string ai.1,.slice ca ai.2.1.length b4,.slice cb ai.2.2.1.length b5,.slice cc ai.2.2.2.1.length b6,.slice cd ai.2.2.2.2.length b7]),.slice a1 br.length df,(.agg #[.bool ao.1.1,.slice ce ao.1.2.length b8,.slice cf ao.2.length b9])] w0 (fun e w'=>∃ (col':Ze) (ra1:Option Addr) (rc2:Nat) (ra4:Option Addr) (rc5:Nat) (ra7:Option Addr) (rc8:Nat) (ra10:Option Addr) (rc11:Nat),e= .returned (.tuple #[(.agg #[.string r.1.1,.slice ra1 r.1.2.1.length rc2,.slice ra4 r.1.2.2.1.length rc5,.slice ra7 r.1.2.2.2.1.length rc8,.slice ra10 r.1.2.2.2.2.length rc11]),.int .i64 r.2])∧Zh col w0 col' w'∧Zb Za.str 9 c1 col' w' ra1 rc2 r.1.2.1∧Zb (Za.row 9 Za.str) 22 c2 col' w' ra4 rc5 r.1.2.2.1∧Zb (Za.row 3 (Za.int .i64)) 33 c3 col' w' ra7 rc8 r.1.2.2.2.1∧Zb (Za.row 39 (Za.pair (Za.pair Za.bool (Za.row 95 (Za.int .u32))) (Za.row 95 (Za.int .u32)))) 114 c4 col' w' ra10 rc11 r.1.2.2.2.2):=by
 refine Wq (m:=71) func25 rfl rfl rfl ?_;rw [Ze0.eq_1] at hm;have aa:=St.start col w0;refine go ?_;refine Xs (col:=(Zk col)) 1 rfl ?_;intro dg et du dv ab;refine Xs (col:=du) 2 rfl ?_;intro dh eu dw di ad;refine Xr (col:=dw) #[.string (⟨#[]⟩),.slice none (([]:List ByteArray).length) 0,.slice none (([]:List R3).length) 0,.slice none (([]:List R2).length) 0,(.slice none (([]:List R4).length) 0)] 3 zeroValue27 ?_;intro dj dx ci cr ac;refine go ?_;replace ab:=(ab.gr di).gr cr;refine lV _ (Xd isAgg27 sizeOf27 ab)<|Y2 rfl ?_;obtain ⟨ew,dy,hm⟩:=bZ hm;replace bs:=bs.keep (Zi.start col w0);replace bd:=bd.keep (Zi.start col w0);replace bt:=bt.keep (Zi.start col w0);replace bu:=bu.keep (Zi.start col w0);replace h1:=h1.keep (Zi.start col w0);replace aa:=((aa.grow dv).grow di).grow cr;refine Zj (Zpq dy (bs.ks aa) (bd.ks aa) (bt.ks aa) (bu.ks aa) (h1.ks aa)) ?_;rintro _ dl ⟨rfl,bn⟩;refine ⟨_,rfl,?_⟩;replace bn:Zh ci dx ci dl:=.of_below bn;refine go ?_;replace cg:=cg.keep (Zi.start col w0);replace ch:=ch.keep (Zi.start col w0);replace ad:=(ad.gr cr).gr bn;replace ab:=ab.gr bn;replace ac:=ac.gr bn;replace aa:=aa.grow bn;refine Zq hm (fun hb hm=>go ?_) fun hb hm=>go ?_
 ·refine lV (.agg #[.string (⟨#[]⟩),.slice none (([]:List ByteArray).length) 0,.slice none (([]:List R3).length) 0,.slice none (([]:List R2).length) 0,(.slice none (([]:List R4).length) 0)]) (Wy (l:=[_,_,_,_,_]) (qs:=[(0,1),(1,1),(2,1),(3,1),(4,1)]) underlying27 zeroValue27 ⟨rfl,sizeOf9,rfl,sizeOf22,rfl,sizeOf23,rfl,sizeOf24,rfl,sizeOf25,trivial⟩ rfl)<|X1 rfl<|Z5 ac ?_;intro ey dz d0 d1;refine go ?_;cases hm;replace aa:=aa.kp dz d0;exact ⟨rfl,_,Uj d1.atN,_,none,0,none,0,none,0,none,0,rfl,aa.fin (cm []),Zb.nil,Zb.nil,Zb.nil,Zb.nil⟩
 refine lV _ (Xd isAgg39 sizeOf39 ad) ?_;obtain ⟨ez,d2,hm⟩:=bZ hm;refine Zj (Zgg d2 (cg.ks aa) (ch.ks aa)) ?_;rintro _ d3 ⟨rfl,bo⟩;refine ⟨_,rfl,?_⟩;replace bo:Zh ci dl ci d3:=.of_below bo;refine go ?_;replace ab:=ab.gr bo;replace ad:=ad.gr bo;replace ac:=ac.gr bo;replace aa:=aa.grow bo;refine Zq hm (fun hb hm=>go ?_) fun hb hm=>go ?_
 ·refine lV (.agg #[.string (⟨#[]⟩),.slice none (([]:List ByteArray).length) 0,.slice none (([]:List R3).length) 0,.slice none (([]:List R2).length) 0,(.slice none (([]:List R4).length) 0)]) (Wy (l:=[_,_,_,_,_]) (qs:=[(0,1),(1,1),(2,1),(3,1),(4,1)]) underlying27 zeroValue27 ⟨rfl,sizeOf9,rfl,sizeOf22,rfl,sizeOf23,rfl,sizeOf24,rfl,sizeOf25,trivial⟩ rfl)<|Z5 ac ?_;intro e0 d4 d5 d6;refine go ?_;cases hm;replace aa:=aa.kp d4 d5;exact ⟨rfl,_,Uj d6.atN,_,none,0,none,0,none,0,none,0,rfl,aa.fin (cm []),Zb.nil,Zb.nil,Zb.nil,Zb.nil⟩
 refine lV _ (Xd isAgg27 sizeOf27 ab) ?_;obtain ⟨e1,d7,hm⟩:=bZ hm;refine Zj (Zt2 4 5 6 7 d7 (bs.ks aa) (bd.ks aa) (bt.ks aa) (bu.ks aa)) ?_;rintro _ e2 ⟨d8,e3,e4,e5,e6,e7,e8,e9,fa,rfl,cj,ct,cu,cv,cw⟩;refine ⟨_,rfl,?_⟩;refine Xr (col:=d8) #[.string (⟨#[]⟩),.slice none (([]:List ByteArray).length) 0,.slice none (([]:List R3).length) 0,.slice none (([]:List R2).length) 0,(.slice none (([]:List R4).length) 0)] 8 zeroValue27 ?_;intro ck fb fc ba d9;refine Z5 d9 ?_;intro fd bb ea ae;refine go ?_;refine Yk ⟨_,_,rfl⟩ ?_;replace ab:=((ab.gr cj).gr ba).kp bb;refine lW ((ab.atN).nth (q:=1) rfl)<|go ?_;replace ad:=((ad.gr cj).gr ba).kp bb;replace ac:=((ac.gr cj).gr ba).kp bb;replace aa:=((aa.grow cj).grow ba).kp bb ea;replace ct:=(ct.gr ba).kp bb;replace cu:=(cu.gr ba).kp bb;replace cv:=(cv.gr ba).kp bb;replace cw:=(cw.gr ba).kp bb;refine Z4 [1,3,31,5,6,9,1000000] (fun n f aw=>∃ ax bc be bf bg a0 bh bi a2 bj bk a3 a4 a5 ap bm,bm=n∧Zbv N ai br ao bm bc be a0 a2 a3 ap=some r∧St w0 (Zk col) ax aw∧Zf 27 1 ax aw dg #[.string ai.1,.slice ca ai.2.1.length b4,.slice cb ai.2.2.1.length b5,.slice cc ai.2.2.2.1.length b6,.slice cd ai.2.2.2.2.length b7]∧Zf 39 2 ax aw dh #[.bool ao.1.1,.slice ce ao.1.2.length b8,.slice cf ao.2.length b9]∧Zf 27 3 ax aw dj #[.string (⟨#[]⟩),.slice none (([]:List ByteArray).length) 0,.slice none (([]:List R3).length) 0,.slice none (([]:List R2).length) 0,(.slice none (([]:List R4).length) 0)]∧Zb Za.str 9 4 ax aw bf bg a0∧Zb (Za.row 9 Za.str) 22 5 ax aw bh bi a2∧Zb (Za.row 3 (Za.int .i64)) 33 6 ax aw bj bk a3∧Zb (Za.row 39 (Za.pair (Za.pair Za.bool (Za.row 95 (Za.int .u32))) (Za.row 95 (Za.int .u32)))) 114 7 ax aw a4 a5 ap∧Zf 27 8 ax aw ck #[.string be,.slice bf a0.length bg,.slice bh a2.length bi,.slice bj a3.length bk,.slice a4 ap.length a5]∧[32].map f=[.int .i64 bc]) N ⟨_,0,_,_,_,_,_,_,_,_,_,_,_,_,_,_,rfl,hm,aa,ab,ad,ac,ct,cu,cv,cw,ae,rfl⟩ ?_;clear hm;intro n f aw hI
 obtain ⟨ax,bc,be,bf,bg,a0,bh,bi,a2,bj,bk,a3,a4,a5,ap,bm,hn,hm,aa,ab,ad,ac,af,ag,ah,aj,ae,hs⟩:=hI;subst hn;refine .lL [32] hs ?_
 cases bm with
 | zero=>rw [Zbv.eq_1] at hm;cases hm
 | succ bm=>
  rw [Zbv.eq_2] at hm;refine go ?_;refine Zq hm (fun hb hm=>go ?_) fun hb hm=>go ?_
  ·refine lV _ (Xd isAgg27 sizeOf27 ab)<|go ?_;obtain ⟨a6,eb,hm⟩:=bZ hm;refine Zj (Ztw 9 eb (bs.ks aa) (bd.ks aa) (bt.ks aa) (bu.ks aa) (h1.ks aa)) ?_;rintro _ fe ⟨ff,cx,cy,rfl,a7,ak⟩;refine ⟨_,rfl,?_⟩;refine lM (.tuple #[.slice cx a6.1.length cy,.int .i64 a6.2])<|lV (.slice cx a6.1.length cy) (Xx rfl rfl)<|lV (.int .i64 a6.2) (Xx rfl rfl)<|go ?_;replace af:=af.gr a7;replace ag:=ag.gr a7;replace ah:=ah.gr a7;replace aj:=aj.gr a7;replace ab:=ab.gr a7;replace ad:=ad.gr a7;replace ac:=ac.gr a7;replace ae:=ae.gr a7;replace aa:=aa.grow a7;refine Z4 [1,10,3,31,32,42,43,5,6,9,1000000] (fun n f aq=>∃ al cz c0 cl bv bw,n=bw.length∧a6.1.drop bv=bw∧Zdg N ai ao bc be a0 a2 a3 ap (Zbv N ai br ao bm) bw cl=some r∧St w0 (Zk col) al aq∧Zb (Za.pair (Za.pair Za.bool (Za.row 95 (Za.int .u32))) (Za.row 95 (Za.int .u32))) 39 10 al aq cz c0 cl∧Zf 27 1 al aq dg #[.string ai.1,.slice ca ai.2.1.length b4,.slice cb ai.2.2.1.length b5,.slice cc ai.2.2.2.1.length b6,.slice cd ai.2.2.2.2.length b7]∧Zb (Za.int .i64) 3 9 al aq cx cy a6.1∧Zf 39 2 al aq dh #[.bool ao.1.1,.slice ce ao.1.2.length b8,.slice cf ao.2.length b9]∧Zf 27 3 al aq dj #[.string (⟨#[]⟩),.slice none (([]:List ByteArray).length) 0,.slice none (([]:List R3).length) 0,.slice none (([]:List R2).length) 0,(.slice none (([]:List R4).length) 0)]∧Zb Za.str 9 4 al aq bf bg a0∧Zb (Za.row 9 Za.str) 22 5 al aq bh bi a2∧Zb (Za.row 3 (Za.int .i64)) 33 6 al aq bj bk a3∧Zb (Za.row 39 (Za.pair (Za.pair Za.bool (Za.row 95 (Za.int .u32))) (Za.row 95 (Za.int .u32)))) 114 7 al aq a4 a5 ap∧Zf 27 8 al aq ck #[.string be,.slice bf a0.length bg,.slice bh a2.length bi,.slice bj a3.length bk,.slice a4 ap.length a5]∧[44,13].map f=[.int .i64 bv,.slice cz cl.length c0]) a6.1.length ⟨_,none,0,_,0,_,rfl,rfl,hm,aa,Zb.nil,ab,ak,ad,ac,af,ag,ah,aj,ae,rfl⟩ ?_;clear hm;intro n f aq hI;obtain ⟨al,cz,c0,cl,bv,bw,hn,hl,hm,aa,am,ab,ak,ad,ac,af,ag,ah,aj,ae,hs⟩:=hI;subst hn;refine .lL [44,13] hs ?_
   cases bw with
   | nil=>
    have hk:¬ ((bv:Int)<(a6.1.length:Int)):=by have:=aH.1 hl;omega
    have hkb:=decide_eq_false hk;rw [Zdg.eq_1] at hm;refine go ?_;refine X2 (congrArg Value.bool hkb)<|go ?_;refine W7 (col:=al) [(0,1),(1,0),(2,1),(3,1),(4,0),(5,1),(6,1),(7,0),(8,1),(9,1),(10,0),(11,1),(12,2)] (by kernel_rfl) (by kernel_rfl)<|xF ⟨_,_,rfl⟩ ?_;refine xW (fun _ hC=>((ae.atN).nth (q:=4) rfl).gr (hC.bl al)) ?_;refine xu rfl rfl (fun _=>Y4 rfl) ?_;obtain ⟨c5,cn,hm⟩:=bZ hm;refine xu rfl rfl (fun _=>Y3 underlying25 sizeOf114 rfl rfl (Xe cn).1 (Xe cn).2.1 (aj.addr cn)) ?_;obtain ⟨_,bx,a8,ar,ec⟩:=aj.open_ 11 (by decide) cn;obtain ⟨co,cp,rfl,bz⟩:=ec.row;replace ar:Y1 (Za.row 39 (Za.pair (Za.pair Za.bool (Za.row 95 (Za.int .u32))) (Za.row 95 (Za.int .u32)))) 114 7 bx aq a4 a5 ap (aA bc) [.slice co c5.length cp]:=ar;refine xW (fun _ hC=>ar.atN.one.gr (hC.bl bx)) ?_;refine xu rfl rfl (fun _=>T0 rfl) ?_;refine xF ⟨_,_,rfl⟩ ?_;replace ab:=ab.kpp a8;refine xW (fun _ hC=>((ab.atN).nth (q:=2) rfl).gr (hC.bl bx)) ?_;refine xu rfl rfl (fun _=>Y4 rfl) ?_;obtain ⟨fg,cq,hm⟩:=bZ hm;replace aa:=aa.kpp a8;refine xu rfl rfl (fun _=>Y3 underlying23 sizeOf22 rfl rfl (Xe cq).1 (Xe cq).2.1 ((bd.ks aa).addr cq)) ?_;obtain ⟨_,ed,ee⟩:=(bd.ks aa).atN cq;obtain ⟨⟨fh,fi,rfl,fj⟩,_⟩:=ed;refine xW (fun _ hC=>ee.one.gr (hC.bl bx)) ?_;refine xu rfl rfl (fun _=>Zaj underlying22 rfl) ?_;refine xe rfl rfl ?_;intro fk hC0;have hC:=hC0.bl bx;replace af:=(af.kpp a8).gr hC;replace af:=af.froz 10 (by decide);replace ag:=(ag.kpp a8).gr hC;replace ag:=ag.froz 10 (by decide);replace ah:=(ah.kpp a8).gr hC;replace ah:=ah.froz 10 (by decide);replace ar:=ar.gr hC;replace ar:=ar.froz 10 (by decide);replace bz:=bz.gr hC;replace bz:=bz.froz 10 (by decide);replace am:=(am.kpp a8).gr hC;replace am:=(am).toSlF (Zd.pair (Zd.pair Zd.bool (Zd.row (Zd.int .u32))) (Zd.row (Zd.int .u32)));replace ab:=ab.gr hC;replace ab:=ab.froz 10 (by decide);replace ad:=(ad.kpp a8).gr hC;replace ad:=ad.froz 10 (by decide);replace ac:=(ac.kpp a8).gr hC;replace ac:=ac.froz 10 (by decide);replace ae:=(ae.kpp a8).gr hC;replace ae:=ae.froz 10 (by decide);replace aa:=aa.grow hC;replace aa:=aa.froz 10 (by decide) (by decide);obtain ⟨bp,ef,hm⟩:=bZ hm;refine Zj (Zt3 11 ef rfl bz am) ?_;rintro _ c6 ⟨b0,rfl,a9,eg,dm⟩;refine ⟨_,rfl,?_⟩
    refine .ld (d:=60) (v:=(.slice co bp.length cp)) (congrArg (fun n=>Value.slice co n cp) (show c5.length=bp.length from dm.symm)) ?_;replace ae:=ae.kpp a9;replace ae:Zf 27 8 b0 c6 ck #[.string be,.slice bf a0.length bg,.slice bh a2.length bi,.slice bj a3.length bk,.slice a4 ap.length a5]:=by rw [];exact ae
    replace ar:=ar.kpp a9;replace ar:Y1 (Za.row 39 (Za.pair (Za.pair Za.bool (Za.row 95 (Za.int .u32))) (Za.row 95 (Za.int .u32)))) 114 7 b0 c6 a4 a5 ap (aA bc) [.slice co bp.length cp]:=by rw [← (show c5.length=bp.length from dm.symm)];exact ar
    refine Zl<|xk b0 ?_;have c7:=ar.close eg.has (by decide) (by decide);replace af:=af.kpp a9;replace af:=af.recol 11 7 (by decide);replace ag:=ag.kpp a9;replace ag:=ag.recol 11 7 (by decide);replace ah:=ah.kpp a9;replace ah:=ah.recol 11 7 (by decide);replace ab:=ab.kpp a9;replace ab:=ab.recol 11 7 (by decide);replace ad:=ad.kpp a9;replace ad:=ad.recol 11 7 (by decide);replace ac:=ac.kpp a9;replace ac:=ac.recol 11 7 (by decide);replace ae:=ae.recol 11 7 (by decide);replace aa:=aa.kpp a9;replace aa:=aa.recol 11 7 (by decide) (by decide);replace ae:Zf 27 8 (Xy 11 7 b0) c6 ck #[.string be,.slice bf a0.length bg,.slice bh a2.length bi,.slice bj a3.length bk,.slice a4 ((ap.set (aA bc) bp).length) a5]:=by rw [← (show ap.length=(ap.set (aA bc) bp).length by simp only [nS])];exact ae
    refine Wi ?_;intro fl hC;replace hC:=hC.bl (Xy 11 7 b0);refine go ?_;replace af:=af.gr hC;replace ag:=ag.gr hC;replace ah:=ah.gr hC;replace c7:=c7.gr hC;replace ab:=ab.gr hC;replace ad:=ad.gr hC;replace ac:=ac.gr hC;replace ae:=ae.gr hC;replace aa:=aa.grow hC;exact ⟨bm,by omega,rfl,⟨_,_,_,_,_,_,_,_,_,_,_,_,_,_,_,_,rfl,hm,aa,ab,ad,ac,af,ag,ah,c7,ae,rfl⟩⟩
   | cons fm eh=>
    obtain ⟨c8,ei,ej⟩:=Yd hl;have hk:(bv:Int)<(a6.1.length:Int):=by omega
    have hkb:=decide_eq_true hk;rw [Zdg.eq_2] at hm;refine go ?_;refine X3 (congrArg Value.bool hkb)<|go ?_;refine lI c8 (ak.addr c8)<|lW (ak.atInt c8) ?_;refine go ?_;refine W7 (col:=al) [(0,1),(1,1),(3,0),(2,3),(4,3),(5,3),(6,2),(7,1)] (by kernel_rfl) (by kernel_rfl)<|xu rfl rfl (fun _=>T0 rfl) ?_;refine xu rfl rfl (fun _=>Y4 rfl) ?_;refine xv rfl rfl (fun _ hC=>Xd isAgg39 sizeOf39 (ad.gr (hC.bl al))) ?_;refine xe rfl rfl ?_;intro fn hC0;have hC:=hC0.bl al;obtain ⟨fp,ek,hm⟩:=bZ hm;refine Zj (Zpp (col:=al) 12 13 ek) ?_;rintro _ fq ⟨bq,fr,ft,fu,fv,rfl,au,c9,da⟩;refine ⟨_,rfl,?_⟩;refine Zl<|Xz bq hC0 au<|xe rfl rfl ?_;intro el hC0;replace am:=(am.gr hC).gr au;replace ak:=(ak.gr hC).gr au;replace af:=(af.gr hC).gr au;replace ag:=(ag.gr hC).gr au;replace ah:=(ah.gr hC).gr au;replace aj:=(aj.gr hC).gr au;replace ab:=(ab.gr hC).gr au;replace ad:=(ad.gr hC).gr au;replace ac:=(ac.gr hC).gr au;replace ae:=(ae.gr hC).gr au;replace aa:=(aa.grow hC).grow au;have hC:=hC0.bl bq;obtain ⟨ay,em,hm⟩:=bZ hm;replace c9:=c9.gr hC;replace da:=da.gr hC;replace aa:=aa.grow hC;refine Zj (Zja 14 15 em ((c9.toSlF (Zd.int .u32)).froz 13) ((da.froz 12 (by decide)).toSlF (Zd.int .u32)) (((cg.ks aa).froz 12).froz 13) (((ch.ks aa).froz 12).froz 13)) ?_;rintro _ fw ⟨en,dn,dp,dq,dr,rfl,an,b1,b2⟩;refine ⟨_,rfl,?_⟩;replace b1:=b1.thaw (Z7 .u32) an (((Fz.refl (col:=bq)).froz 12).froz 13) (by decide);replace b2:=b2.thaw (Z7 .u32) an (((Fz.refl (col:=bq)).froz 12).froz 13) (by decide);replace an:=an.thawR (col:=bq);generalize Xj el.heap.size bq en=db at *;refine Zl<|Xz db hC0 an<|xe rfl rfl ?_;intro fx hC0;replace am:=(am.gr hC).gr an;replace ak:=(ak.gr hC).gr an;replace af:=(af.gr hC).gr an;replace ag:=(ag.gr hC).gr an;replace ah:=(ah.gr hC).gr an;replace aj:=(aj.gr hC).gr an;replace ab:=(ab.gr hC).gr an;replace ad:=(ad.gr hC).gr an;replace ac:=(ac.gr hC).gr an;replace ae:=(ae.gr hC).gr an;have hC:=hC0.bl db;replace b1:=b1.gr hC;replace b2:=b2.gr hC;have eo:=X7.join (X7.joinL (Zcl ay.1.1) b1.has) b2.has (by decide) (by decide);replace am:=am.gr hC;replace am:=am.recol 15 14 (by decide);replace ak:=ak.gr hC
    replace ak:=ak.recol 15 14 (by decide);replace af:=af.gr hC;replace af:=af.recol 15 14 (by decide);replace ag:=ag.gr hC;replace ag:=ag.recol 15 14 (by decide);replace ah:=ah.gr hC;replace ah:=ah.recol 15 14 (by decide);replace aj:=aj.gr hC;replace aj:=aj.recol 15 14 (by decide);replace ab:=ab.gr hC;replace ab:=ab.recol 15 14 (by decide);replace ad:=ad.gr hC;replace ad:=ad.recol 15 14 (by decide);replace ac:=ac.gr hC;replace ac:=ac.recol 15 14 (by decide);replace ae:=ae.gr hC;replace ae:=ae.recol 15 14 (by decide);replace aa:=(aa.grow an).grow hC;replace aa:=aa.recol 15 14 (by decide) (by decide);refine Ur (col:=(Xy 15 14 db)) (r:=(Za.pair (Za.pair Za.bool (Za.row 95 (Za.int .u32))) (Za.row 95 (Za.int .u32)))) (xs:=[((ay.1.1,ay.1.2),ay.2)]) [(.agg #[.bool ay.1.1,.slice dn ay.1.2.length dp,.slice dq ay.2.length dr])] 14 (Wa.cons1 (cs:=[.bool ay.1.1,.slice dn ay.1.2.length dp,.slice dq ay.2.length dr]) eo Rows.nil0) ?_;intro fy fz dc av dd;refine Zl<|Xz dc hC0 av<|xe rfl rfl ?_;intro ep hC0;have hC:=hC0.bl dc;obtain ⟨ds,hm⟩:=Z8 hm;replace am:=(am.gr av).gr hC;replace dd:=dd.gr hC;refine Q2 (col:=dc) (w:=ep) (r:=(Za.pair (Za.pair Za.bool (Za.row 95 (Za.int .u32))) (Za.row 95 (Za.int .u32)))) (c:=10) (c2:=14) (am.ex) (dd.srcC (by decide)) rfl underlying114 Z6b rfl rfl rfl ds.1 ds.2 (by decide) ?_;intro f0 f1 f2 dt az eq;refine Zl<|xk dt<|xu rfl rfl (fun _=>Zze rfl) ?_;have de:=eq.new;refine Wi ?_;replace ak:=((ak.gr av).gr hC).kpp az;replace af:=((af.gr av).gr hC).kpp az;replace ag:=((ag.gr av).gr hC).kpp az;replace ah:=((ah.gr av).gr hC).kpp az;replace aj:=((aj.gr av).gr hC).kpp az;replace ab:=((ab.gr av).gr hC).kpp az;replace ad:=((ad.gr av).gr hC).kpp az;replace ac:=((ac.gr av).gr hC).kpp az;replace ae:=((ae.gr av).gr hC).kpp az;replace aa:=((aa.grow av).grow hC).kpp az;intro f3 hC;replace hC:=hC.bl dt;refine go ?_;replace de:=de.gr hC;replace ak:=ak.gr hC;replace af:=af.gr hC;replace ag:=ag.gr hC;replace ah:=ah.gr hC;replace aj:=aj.gr hC;replace ab:=ab.gr hC;replace ad:=ad.gr hC;replace ac:=ac.gr hC;replace ae:=ae.gr hC;replace aa:=aa.grow hC;exact ⟨eh.length,by simp,rfl,⟨_,_,_,_,_,_,rfl,ei,hm,aa,de,ab,ak,ad,ac,af,ag,ah,aj,ae,(Yg (congrArg (Value.int .i64) (Yb (aF ej ak.len))) rfl)⟩⟩
  refine lV _ (Xd isAgg27 sizeOf27 ae)<|Z5 ac ?_;intro f4 b3 er es;refine go ?_;cases hm;replace af:=af.kp b3;replace ag:=ag.kp b3;replace ah:=ah.kp b3;replace aj:=aj.kp b3;replace aa:=aa.kp b3 er;exact ⟨rfl,_,Uj es.atN,_,_,_,_,_,_,_,_,_,rfl,aa.fin (cm [(4,c1),(5,c2),(6,c3),(7,c4)]),aa.fo af,aa.fo ag,aa.fo ah,aa.fo aj⟩
section
variable {N W K:Nat} {n:Zp} (hf:Xu N n) (hs:Ve n W) (hr:Z9 N (8 * K+40)) (hWK:1025 * (W+2)+4≤K) (hN:2000000<N)
include hf hs hr hWK hN
omit hf hs hN in
theorem Zwr (v:Int) (m1:ByteArray) (m2:List ByteArray) (m3:List R3) (m4:List R2) (m5:List (List QV)) (h5:m5.length≤1048576) (kk:Int→ByteArray→List ByteArray→List R3→List R2→List (List QV)→Option Zp) (r1:List ByteArray) (r2:List Int):∀ (l out:List QV),(∀ x ∈ l,Vx x∧max x.1.2.length x.2.length≤W)→out.length+l.length≤1048576→
  Zdk N v m1 m2 m3 m4 m5 kk r1 r2 l out=kk (i64.wrap (v+1)) m1 m2 (m3++[r1]) (m4++[r2]) (m5++[out++l.map Yp])
 | [],out,_,a=>by
  rw [Zdk.eq_1,Z6 (by simp only [aL,maxLen];omega),bN,dD]
 | x :: l,out,b,a=>by
  obtain ⟨c,f⟩:=b x aC
  have g:RV 0 ((false,([]:List Int)),([]:List Int)):=⟨by simp [Zn],by simp [Zn],by simp,by simp⟩
  have d:Zr ((false,([]:List Int)),([]:List Int))=0:=by rw [Zr];simp [Zt,Zc]
  have i:Su N ((x.1.1,x.1.2),x.2) ((false,([]:List Int)),([]:List Int))=some (Yp x):=by
   have:=Zjk ((Zcm c.1 c.2).mono f) g (hr.mono (by omega))
   rwa [d,gY] at this
  rw [nC] at a
  rw [Zdk.eq_2,i,oB,Z6 (by simp only [aL,maxLen];omega)]
  have e:=Zwr v m1 m2 m3 m4 m5 h5 kk r1 r2 l (out++[Yp x]) (fun y j=>b y (aB _ j)) (by rw [nA,aL];omega)
  rw [bG] at e
  exact e
omit hN in
theorem Zwq:∀ (f v:Nat),v≤n.2.1.length→n.2.1.length<f+v→Zby N n f (v:Int) n.1 n.2.1 (n.2.2.1.take v) (n.2.2.2.1.take v) ((n.2.2.2.2.take v).map (eL Yp))=some (Wl n)
 | 0,v,g,i=>by omega
 | f+1,v,g,i=>by
  have q:=hf.ev.v;have s:=hf.ev.p;have u:=hf.ev.t;have o:=hf.le
  rw [Zby.eq_2]
  by_cases hk:v<n.2.1.length
  ·have b:v<n.2.2.1.length:=by omega
   have c:v<n.2.2.2.1.length:=by omega
   have a:v<n.2.2.2.2.length:=by omega
   have j:Zfv n.2.2.1[v]=some n.2.2.1[v]:=by
    have:=hs.vl _ (aG b)
    rw [Zfv,Z6 (by simp only [nN,maxLen];omega),aV]
   have k:Qq n.2.2.2.1[v]=some n.2.2.2.1[v]:=Zjg (by have:=hs.pn.ls _ (aG c);omega)
   have d:=fun x l=>Zeq hf hs hk x (by rw [Xi a];exact l)
   have m:=Zwr hr hWK (v:Int) n.1 n.2.1 (n.2.2.1.take v) (n.2.2.2.1.take v) ((n.2.2.2.2.take v).map (eL Yp)) (by rw [aI,nK];omega) (Zby N n f) n.2.2.1[v] n.2.2.2.1[v] n.2.2.2.2[v] [] d (by have:=hs.tl _ (aG a);simpa using this)
   have e:=Zwq f (v+1) (by omega) (by omega)
   rw [cA b,cA c,cA a,List.map_append,List.map_singleton] at e
   rw [if_pos (dT (by omega)),Z1 b,oB,j,oB,Z6 (by simp only [nK,aL,maxLen];omega),Z1 c,oB,k,oB,Z6 (by simp only [nK,aL,maxLen];omega),Z1 a,oB,Z6 (by have:=hs.tl _ (aG a);simp only [maxLen];omega),m,wS (by omega),aV]
   exact e
  ·rw [if_neg (dF (by omega)),bP (by omega),bP (by omega),bP (by omega)];rfl
theorem Zws:Zdj N n=some (Wl n):=by
 have a:=hf.le
 have h:=Zwq hf hs hr hWK N 0 (bK _) (by omega)
 rw [eX,eX,eX,bN] at h
 rw [Zdj,Zfv,Z6 (by simp only [nN,maxLen];omega),oB,aV]
 exact h
end
theorem Zoj {b:Nat}:∀ l:List QV,(∀ x ∈ l,RV b x)→X6 l≤(b+2) * l.length
 | [],_=>by rw [X6];omega
 | x :: l,h=>by
  have a:=h x aC
  have d:=a.lm;have e:=a.ld
  have f:=Zoj l fun y c=>h y (aB _ c)
  rw [X6,nC,Nat.mul_add,Nat.mul_one];omega
def Yj (M:Rat) (c:List Int):List QV:=c.map fun x:Int=>Zo ((x:Rat)+M)
def Wn (n:Zp) (r:List R2) (M:Rat):List (List QV):=(List.range n.2.1.length).map fun v=>Wb (cnt n v) (Wu n v) ((n.2.2.2.2.getD v []).map Yp) (Yj M (Y5 n v r))
theorem Zvl {n:Zp} {r:List R2} {M:Rat} {v:Nat} (hv:v<n.2.1.length):(Wn n r M).getD v []=Wb (cnt n v) (Wu n v) ((n.2.2.2.2.getD v []).map Yp) (Yj M (Y5 n v r)):=by
 rw [Xi (by rw [Wn,aI,bW];exact hv)]
 simp only [Wn,cC,eT]
section
variable {N:Nat} (hr:Z9 N 4294967296)
include hr
theorem Xa6 {x:Int} (h0:0≤x) (h1:x≤1048576):Zbz N x=some (Zo (x:Rat)):=by
 obtain ⟨c,d⟩:=hr
 have:=Zmj (N:=N) (a:=x) (b:=1) (by omega) (by omega) ⟨by omega,by omega⟩
 rw [if_neg (by decide)] at this
 have e:((x:Rat) / ((1:Int):Rat))=(x:Rat):=by rw [show ((1:Int):Rat)=1 from rfl];grind
 rw [Zbz,this,oB,e]
omit hr in
theorem Zx0 {x:Int} (h0:0≤x) (h1:x≤1048576):qs (x:Rat)≤1:=by
 have e:(x:Rat)=mkRat x 1:=by rw [Rat.mkRat_one]
 rw [e]
 refine Zd7 ?_ (by rw [Ss];simp) (Nat.le_refl _)
 rw [W0];omega
variable {more:QV} {M:Rat} (hm:RV 1 more) (hM:Zr more=M)
include hm hM
theorem Zvn {n:Zp} {v:Nat} (hv:v<n.2.2.1.length) (m1:ByteArray) (m2:List ByteArray) (m3:List R3) (m4:List R2) (m5:List (List QV)) (kk:Int→ByteArray→List ByteArray→List R3→List R2→List (List QV)→Option (Zp×Int)) (h5:v<m5.length):∀ (c:List Int) (out:List QV),(∀ x ∈ c,0≤x∧x≤1048576)→out.length+c.length≤1048576→
  Zdg N n more (v:Int) m1 m2 m3 m4 m5 kk c out=(Ze3 N m5[v] (out++Yj M c) (n.2.2.1[v].length:Int)).bind fun t=>kk (i64.wrap ((v:Int)+1)) m1 m2 m3 m4 (m5.set v t)
 | [],out,_,_=>by
  rw [Zdg.eq_1,Z1 h5,oB,Z1 hv,oB,Yj,bN,dD,aD]
 | x :: c,out,a,e=>by
  obtain ⟨b,d⟩:=a x aC
  obtain ⟨j,k⟩:=id hr
  rw [nC] at e
  have f:Su N (((Zo (x:Rat)).1.1,(Zo (x:Rat)).1.2),(Zo (x:Rat)).2) ((more.1.1,more.1.2),more.2)=some (Zo ((x:Rat)+M)):=by
   have:=Zjk (N:=N) (Vo (Zx0 b d)) hm ⟨by omega,by omega⟩
   rwa [Wt,hM] at this
  have g:=Zvn hv m1 m2 m3 m4 m5 kk h5 c (out++[Zo ((x:Rat)+M)]) (fun y i=>a y (aB _ i)) (by rw [nA,aL];omega)
  rw [Zdg.eq_2,Xa6 hr b d,oB,f,oB,Z6 (by simp only [aL,maxLen];omega)]
  refine g.trans ?_
  rw [Yj,Yj,aQ,bG];rfl
end
section
variable {N W K:Nat} {n:Zp} (hf:Xu N n) (hs:Ve n W) (hr:Z9 N (8 * K+40)) (hWK:1025 * (W+2)+4≤K) (hK:536870907≤K)
variable {more:QV} {M:Rat} (hm:RV 1 more) (hM:Zr more=M) (hMq:qs M≤1) (hM0:0≤M)
variable {r:List R2} (hR:∀ row ∈ r,Xn n row) (hl:r.length≤12) (hC:W1 N n=some 0) (hw:Ti n r=true)
include hf hs hr hWK hK hm hM hMq hM0 hR hl hC hw
omit hM0 in
theorem Zvm:∀ (f v:Nat) (A:List (List QV)),v≤n.2.1.length→n.2.1.length<f+v→A=(Wn n r M).take v→
  Zbv N n r more f (v:Int) n.1 n.2.1 n.2.2.1 n.2.2.2.1 (A++((n.2.2.2.2.map (eL Yp)).drop v))=some (Xp n (Wn n r M),0)
 | 0,v,A,J,L,_=>by omega
 | f+1,v,A,J,L,u=>by
  have V:=hf.le
  have X:=hf.ev.v;have Y:=hf.ev.t;have Z:=hf.ev.p
  have a0:(Wn n r M).length=n.2.1.length:=by rw [Wn,aI,bW]
  have g:A.length=v:=by rw [u,nK];omega
  obtain ⟨r1,r2⟩:=id hr
  rw [Zbv.eq_2]
  by_cases hv:v<n.2.1.length
  ·have i:v<n.2.2.1.length:=by omega
   have l:v<n.2.2.2.1.length:=by omega
   have C:v<n.2.2.2.2.length:=by omega
   have O:Zew N (n.1,n.2.1,n.2.2.1,n.2.2.2.1,n.2.2.2.2) r (v:Int)=some (Y5 n v r,0):=Z8n hf hv (by rw [Xi l];have:=hs.pn.ls _ (aG l);omega) hC hw hR (by omega)
   have D:Z9 N 4294967296:=hr.mono (by omega)
   obtain ⟨e,P,Q⟩:=hf.rows hv
   have E:=Uo hf.ev hv
   have m:(Y5 n v r).length=(n.2.2.2.2.getD v []).length:=by rw [Y5,aI,bW]
   have a:∀ x ∈ Y5 n v r,0≤x∧x≤1048576:=fun x d=>by have:=Zup hl x d;omega
   have a1:(A++(n.2.2.2.2.map (eL Yp)).drop v).length=n.2.1.length:=by
    rw [nA,bI,aI];omega
   have w:(A++(n.2.2.2.2.map (eL Yp)).drop v)[v]'(by omega)=(n.2.2.2.2.getD v []).map Yp:=by
    rw [List.getElem_append_right (by omega)]
    simp only [g,fO,List.getElem_drop,bQ,cC,Xi C]
   have S:=Zvn D hm hM i n.1 n.2.1 n.2.2.1 n.2.2.2.1 (A++(n.2.2.2.2.map (eL Yp)).drop v) (Zbv N n r more f) (by omega) (Y5 n v r) [] a (by rw [nN,m];omega)
   have o:∀ x ∈ Yj M (Y5 n v r),RV 3 x:=fun x d=>by
    obtain ⟨c,F,rfl⟩:=bO.1 d
    have h3:=Zx0 (a c F).1 (a c F).2
    have h4:=Zr2 (c:Rat) M
    exact Vo (by omega)
   have s:(Yj M (Y5 n v r)).length=Wu n v * cnt n v:=by rw [Yj,aI,m];exact e.symm
   have T:cnt n v≤65536:=by
    have G:0<Wu n v:=by
     have:=Zf3 hf.ev (n.2.2.2.1.getD v []) 1 (hf.pars hv) (by omega)
     exact this
    have:=eF (cnt n v) G
    have:Wu n v * cnt n v≤65536:=by rw [Wu,e];exact P
    omega
   have U:=Zxa (N:=N) (B:=524288) (hr.mono (by omega)) (k:=cnt n v) (q:=Yj M (Y5 n v r)) E (fun x d=>(o x d).mono (by omega)) (by rw [s,Wu,e];omega) (R:=Wu n v) (t:=(n.2.2.2.2.getD v []).map Yp) (by rw [aI];exact e.symm) s (fun j=>by
    have h5:=Zoj (b:=3) (((Yj M (Y5 n v r)).drop (j * cnt n v)).take (cnt n v)) fun x d=>o x (cM (cR d))
    have h6:(((Yj M (Y5 n v r)).drop (j * cnt n v)).take (cnt n v)).length≤65536:=by rw [nK];omega
    omega) (by omega) (by have:Wu n v≤65536:=Q;omega)
   have H:(n.2.2.1[v].length:Int)=(cnt n v:Int):=by rw [cnt,Xi i]
   rw [if_pos (dT (by omega)),O,oB]
   refine S.trans ?_
   rw [w,aV,H,U,oB,wS (by omega)]
   have y:(A++(n.2.2.2.2.map (eL Yp)).drop v).set v (Wb (cnt n v) (Wu n v) ((n.2.2.2.2.getD v []).map Yp) (Yj M (Y5 n v r)))=(A++[Wb (cnt n v) (Wu n v) ((n.2.2.2.2.getD v []).map Yp) (Yj M (Y5 n v r))])++(n.2.2.2.2.map (eL Yp)).drop (v+1):=by
    rw [List.set_append_right _ _ (by omega),g,fO,List.drop_eq_getElem_cons (by rw [aI];omega),List.set_cons_zero,bG,dS]
   have I:(Wn n r M).take (v+1)=A++[Wb (cnt n v) (Wu n v) ((n.2.2.2.2.getD v []).map Yp) (Yj M (Y5 n v r))]:=by
    rw [List.take_add_one,List.getElem?_eq_getElem (by omega),Option.toList_some,← u,← Zvl hv,Xi (by omega)]
   rw [y]
   exact Zvm f (v+1) _ (by omega) (by omega) I.symm
  ·rw [if_neg (dF (by omega)),List.drop_of_length_le (by rw [aI];omega),dD,u,bP (by omega)];rfl
theorem Z6q:Ze0 N n r more=some (Xp n (Wn n r M),0):=by
 obtain ⟨f,g⟩:=id hr
 have a:W1 N (n.1,n.2.1,n.2.2.1,n.2.2.2.1,n.2.2.2.2)=some 0:=hC
 have c:Q8 N (n.1,n.2.1,n.2.2.1,n.2.2.2.1,n.2.2.2.2) r=some 0:=by
  rw [Q8,a,oB,if_neg (by decide)]
  have:=Zmr (n:=n) hf.ev.v r
  rw [if_pos hw] at this
  exact this
 have d:Ta N ((more.1.1,more.1.2),more.2)=some (S1 M):=by
  have:=Zer (N:=N) hm (hr.mono (by omega))
  rwa [hM] at this
 have e:Zdj N (n.1,n.2.1,n.2.2.1,n.2.2.2.1,n.2.2.2.2)=some (Wl n):=Zws hf hs hr hWK (by omega)
 have b:=Zvm hf hs hr hWK hK hm hM hMq hR hl hC hw N 0 [] (bK _) (by have:=hf.le;omega) (by rw [eX])
 rw [aV,aT] at b
 rw [Ze0,c,oB,if_neg (by decide),d,oB,if_neg (by rw [decide_eq_false (fun h=>absurd hM0 (gB.2 (Zr3.1 h)))];decide),e,oB]
 exact b
end
abbrev Zpd:=ByteArray×List ByteArray×List R3×List R2×List (List QV)
structure Zf9 (n:Zpd):Prop where
 nm:n.2.1.length≤1048576
 vn:n.2.2.1.length≤1048576
 vl:∀ l ∈ n.2.2.1,l.length≤1048576
 pn:n.2.2.2.1.length≤1048576
 pl:∀ l ∈ n.2.2.2.1,l.length≤1048576
 tn:n.2.2.2.2.length≤1048576
 tl:∀ t ∈ n.2.2.2.2,t.length≤1048576
 tm:∀ t ∈ n.2.2.2.2,∀ x ∈ t,x.1.2.length≤1048576∧x.2.length≤1048576
/-! fractions that are the same -/
theorem Z57:Wv prog 22 1 24:=⟨Tryz.t22,_,rfl,rfl,rfl,rfl,rfl⟩
theorem Z59:Wv prog 33 1 24:=⟨Tryz.t33,_,rfl,rfl,rfl,rfl,rfl⟩
theorem Z55:Wv prog 114 1 24:=⟨Tryz.t114,_,rfl,rfl,rfl,rfl,rfl⟩
def Zfs (N:Nat) (af:R0) (ag:ByteArray) (ah:List ByteArray) (ai:List R3) (aj:List R2) (ac:List R4) (ad:Int) (kk_L3:(ByteArray→R3→Rf→R6→R9→Int→Option R0)):Nat→Int→R4→Option R0
  | 0,_,_=>none
  | al+1,ae,ab=>(Zm af.2.2.2.2 ad).bind fun ak=>if (decide (ae<(ak.length:Int)))=true then ((Zm ak ae).bind fun aa=>Z2 ((([]:List Int).length+aa.1.2.length) * 4≤140737488355328∧([]:List Int).length+aa.1.2.length≤maxLen) (Z2 ((([]:List Int).length+aa.2.length) * 4≤140737488355328∧([]:List Int).length+aa.2.length≤maxLen) (Z2 ((ab.length+[((aa.1.1,([]:List Int)++aa.1.2),([]:List Int)++aa.2)].length) * 56≤140737488355328∧ab.length+[((aa.1.1,([]:List Int)++aa.1.2),([]:List Int)++aa.2)].length≤maxLen) ((Zfs N af ag ah ai aj ac ad kk_L3 al) (i64.wrap (ae+1)) (ab++[((aa.1.1,([]:List Int)++aa.1.2),([]:List Int)++aa.2)]))))) else (Z2 ((ac.length+[ab].length) * 24≤140737488355328∧ac.length+[ab].length≤maxLen) (kk_L3 ag ah ai aj (ac++[ab]) (i64.wrap (ad+1))))
termination_by structural x=>x
def Zcf (N:Nat) (aa:R0):Nat→ByteArray→R3→Rf→R6→R9→Int→Option R0
  | 0,_,_,_,_,_,_=>none
  | ah+1,ab,ac,ad,ae,af,ag=>if (decide (ag<(aa.2.2.2.2.length:Int)))=true then (Zfs N aa ab ac ad ae af ag (Zcf N aa ah) N 0 ([]:List R1)) else (some (ab,ac,ad,ae,af))
termination_by structural x=>x
def Zfr (N:Nat) (ab:R0):Nat→ByteArray→R3→Rf→R6→R9→Int→Option R0
  | 0,_,_,_,_,_,_=>none
  | ai+1,ae,af,ag,ac,ah,ad=>if (decide (ad<(ab.2.2.2.1.length:Int)))=true then ((Zm ab.2.2.2.1 ad).bind fun aa=>Z2 ((([]:List Int).length+aa.length) * 8≤140737488355328∧([]:List Int).length+aa.length≤maxLen) (Z2 ((ac.length+[([]:List Int)++aa].length) * 24≤140737488355328∧ac.length+[([]:List Int)++aa].length≤maxLen) ((Zfr N ab ai) ae af ag (ac++[([]:List Int)++aa]) ah (i64.wrap (ad+1))))) else (Zcf N ab N ae af ag ac ah 0)
termination_by structural x=>x
def Zfq (N:Nat) (ab:R0):Nat→ByteArray→R3→Rf→R6→R9→Int→Option R0
  | 0,_,_,_,_,_,_=>none
  | ai+1,ae,af,ac,ag,ah,ad=>if (decide (ad<(ab.2.2.1.length:Int)))=true then ((Zm ab.2.2.1 ad).bind fun aa=>Z2 ((([]:List ByteArray).length+aa.length) * 16≤140737488355328∧([]:List ByteArray).length+aa.length≤maxLen) (Z2 ((ac.length+[([]:List ByteArray)++aa].length) * 24≤140737488355328∧ac.length+[([]:List ByteArray)++aa].length≤maxLen) ((Zfq N ab ai) ae af (ac++[([]:List ByteArray)++aa]) ag ah (i64.wrap (ad+1))))) else (Zfr N ab N ae af ac ag ah 0)
termination_by structural x=>x
def Zii (N:Nat) (aa:R0):Option R0:=
  Z2 ((([]:List ByteArray).length+aa.2.1.length) * 16≤140737488355328∧([]:List ByteArray).length+aa.2.1.length≤maxLen) (Zfq N aa N aa.1 (([]:List ByteArray)++aa.2.1) ([]:List R3) ([]:List R2) ([]:List R4) 0)
theorem Z4r {N b5 bk bm b6:Nat} {b7 a9 ba b8:Option Addr} {col:Ze} {w0:World} {ae r:R0} (c1 c2 c3 c4:Nat) (hm:Zii N ae=some r) (eb:Sl Za.str col w0 b7 b5 ae.2.1) (dj:Sl (Za.slice Za.str) col w0 a9 bk ae.2.2.1) (dl:Sl (Za.slice (Za.int .i64)) col w0 ba bm ae.2.2.2.1) (b9:Sl (Za.slice (Za.pair (Za.pair Za.bool (Za.slice (Za.int .u32))) (Za.slice (Za.int .u32)))) col w0 b8 b6 ae.2.2.2.2):
    Calls prog 19 #[(.agg #[.string ae.1,.slice b7 ae.2.1.length b5,.slice a9 ae.2.2.1.length bk,.slice ba ae.2.2.2.1.length bm,.slice b8 ae.2.2.2.2.length b6])] w0 (fun e w'=>∃ (col':Ze) (ra1:Option Addr) (rc2:Nat) (ra4:Option Addr) (rc5:Nat) (ra7:Option Addr) (rc8:Nat) (ra10:Option Addr) (rc11:Nat),e= .returned ((.agg #[.string r.1,.slice ra1 r.2.1.length rc2,.slice ra4 r.2.2.1.length rc5,.slice ra7 r.2.2.2.1.length rc8,.slice ra10 r.2.2.2.2.length rc11]))∧Zh col w0 col' w'∧Zb Za.str 9 c1 col' w' ra1 rc2 r.2.1∧Zb (Za.row 9 Za.str) 22 c2 col' w' ra4 rc5 r.2.2.1∧Zb (Za.row 3 (Za.int .i64)) 33 c3 col' w' ra7 rc8 r.2.2.2.1∧Zb (Za.row 39 (Za.pair (Za.pair Za.bool (Za.row 95 (Za.int .u32))) (Za.row 95 (Za.int .u32)))) 114 c4 col' w' ra10 rc11 r.2.2.2.2):=by
 refine Wq (m:=109) func19 rfl rfl rfl ?_;rw [Zii.eq_1] at hm;have aa:=St.start col w0;refine go ?_;refine Xs (col:=(Zk col)) 1 rfl ?_;intro ca hx fz f0 ab;refine Xr (col:=fz) #[.string (⟨#[]⟩),.slice none (([]:List ByteArray).length) 0,.slice none (([]:List R3).length) 0,.slice none (([]:List R2).length) 0,(.slice none (([]:List R4).length) 0)] 2 zeroValue27 ?_;intro dm hy f1 e8 ac;refine go ?_;refine Yk ⟨_,_,rfl⟩ ?_;replace ab:=ab.gr e8;refine lW ((ab.atN).nth (q:=0) rfl)<|lV (.agg #[.string ae.1,.slice none (([]:List ByteArray).length) 0,.slice none (([]:List R3).length) 0,.slice none (([]:List R2).length) 0,(.slice none (([]:List R4).length) 0)]) (Wy (l:=[_,_,_,_,_]) (qs:=[(0,1),(1,1),(2,1),(3,1),(4,1)]) underlying27 zeroValue27 ⟨rfl,sizeOf9,rfl,sizeOf22,rfl,sizeOf23,rfl,sizeOf24,rfl,sizeOf25,trivial⟩ rfl)<|Xr (col:=f1) #[.string (⟨#[]⟩),.slice none (([]:List ByteArray).length) 0,.slice none (([]:List R3).length) 0,.slice none (([]:List R2).length) 0,(.slice none (([]:List R4).length) 0)] 3 zeroValue27 ?_;intro au hz h0 ec f2;refine Z5 f2 ?_;intro h1 ed f3 dn;refine go ?_;refine Xk dn<|Yk ⟨_,_,rfl⟩ ?_;replace ab:=(ab.gr ec).kp ed;refine lW ((ab.atN).nth (q:=1) rfl) ?_;obtain ⟨f4,hm⟩:=Z8 hm;replace eb:=eb.keep (Zi.start col w0);replace aa:=(((aa.grow f0).grow e8).grow ec).kp ed f3;refine V1 (c:=4) Zb.nil (eb.ks aa).srcC f4 ?_;intro e9 fa h2 f5 dp ee;refine Yk ⟨_,_,rfl⟩ ?_;replace dn:=dn.kpp dp;refine Zaw (off:=1) (v:=(.slice e9 ((([]:List ByteArray)++ae.2.1).length) fa)) dn sizeOf22 rfl rfl (by intro u hu;simp only [Value.cells,aP,bL,or_false] at hu;subst hu;rfl) rfl rfl ?_;intro f6 dq f7 ad;replace ad:Zf 27 3 f5 f6 au #[.string ae.1,.slice e9 ((([]:List ByteArray)++ae.2.1).length) fa,.slice none (([]:List R3).length) 0,.slice none (([]:List R2).length) 0,(.slice none (([]:List R4).length) 0)]:=ad;refine go ?_;replace ac:=(((ac.gr ec).kp ed).kpp dp).kp dq;replace ab:=(ab.kpp dp).kp dq;replace aa:=(aa.kpp dp).kp dq f7;replace ee:=ee.kp dq
 refine Z4 [1,2,3,1000000] (fun n f a2=>∃ ag dr ds dt cq cr ct bn du dv cu dw dx cv cw cb,cb=n∧Zfq N ae cb dr cq bn cu cv cw=some r∧St w0 (Zk col) ag a2∧Zf 27 1 ag a2 ca #[.string ae.1,.slice b7 ae.2.1.length b5,.slice a9 ae.2.2.1.length bk,.slice ba ae.2.2.2.1.length bm,.slice b8 ae.2.2.2.2.length b6]∧Zf 27 2 ag a2 dm #[.string (⟨#[]⟩),.slice none (([]:List ByteArray).length) 0,.slice none (([]:List R3).length) 0,.slice none (([]:List R2).length) 0,(.slice none (([]:List R4).length) 0)]∧Zb Za.str 9 4 ag a2 ds dt cq∧Zb (Za.row 9 Za.str) 22 5 ag a2 cr ct bn∧Zb (Za.row 3 (Za.int .i64)) 33 6 ag a2 du dv cu∧Zb (Za.row 39 (Za.pair (Za.pair Za.bool (Za.row 95 (Za.int .u32))) (Za.row 95 (Za.int .u32)))) 114 7 ag a2 dw dx cv∧Zf 27 3 ag a2 au #[.string dr,.slice ds cq.length dt,.slice cr bn.length ct,.slice du cu.length dv,.slice dw cv.length dx]∧[4].map f=[.int .i64 cw]) N ⟨_,_,_,_,_,none,0,_,none,0,_,none,0,_,0,_,rfl,hm,aa,ab,ac,ee,Zb.nil,Zb.nil,Zb.nil,ad,rfl⟩ ?_;clear hm;intro n f a2 hI;obtain ⟨ag,dr,ds,dt,cq,cr,ct,bn,du,dv,cu,dw,dx,cv,cw,cb,hn,hm,aa,ab,ac,am,a3,an,ao,ad,hs⟩:=hI;subst hn;refine .lL [4] hs ?_;replace dj:=dj.keep (Zi.start col w0);replace dl:=dl.keep (Zi.start col w0);replace b9:=b9.keep (Zi.start col w0)
 cases cb with
 | zero=>rw [Zfq.eq_1] at hm;cases hm
 | succ cb=>
  rw [Zfq.eq_2] at hm;refine go ?_;refine Xk ab ?_;refine go ?_;refine Zq hm (fun hb hm=>go ?_) fun hb hm=>go ?_
  ·refine Zo2 (col:=ag) (pS [8]) [(0,1),(1,5),(2,1),(3,1),(4,0),(5,1),(6,1),(7,0),(8,4),(9,3),(10,2),(11,1),(12,2)] (by kernel_rfl) (by kernel_rfl)<|Tl (v:=(.pointer ((some (⟨au,0,none⟩:Addr)).map (·.add 2)))) rfl rfl (fun _=>Sh (sz:=1) (off:=2) underlying27 rfl sizeOf23 (by decide) rfl rfl ⟨_,_,rfl⟩) ?_;refine Zo8 (v:=(.slice cr bn.length ct)) rfl rfl (fun _ hC=>Qw isAgg23 rfl (((ad.dk hC rfl rfl).atN).nth (q:=2) (v:=(.slice cr bn.length ct)) rfl)) ?_;refine Tl (v:=(.slice none (([]:List ByteArray).length) 0)) rfl rfl (fun _=>V3 rfl) ?_;refine Tl (v:=(.pointer ((some (⟨ca,0,none⟩:Addr)).map (·.add 2)))) rfl rfl (fun _=>Sh (sz:=1) (off:=2) underlying27 rfl sizeOf23 (by decide) rfl rfl ⟨_,_,rfl⟩) ?_;refine Ziz (v:=(.slice a9 ae.2.2.1.length bk)) rfl rfl (fun _ hC=>Qw isAgg23 rfl (((ab.atN).nth (q:=2) (v:=(.slice a9 ae.2.2.1.length bk)) rfl).gr (hC.bl ag))) ?_;refine Tl (v:=(.int .i64 cw)) rfl rfl (fun _=>V3 rfl) ?_;obtain ⟨cc,dy,hm⟩:=bZ hm;refine Tl (v:=(Yh a9 (aA cw * 1))) rfl rfl (fun _=>Y3 underlying23 sizeOf22 rfl rfl (Xe dy).1 (Xe dy).2.1 ((dj.ks aa).addr dy)) ?_;obtain ⟨_,f8,f9⟩:=(dj.ks aa).atN dy;obtain ⟨⟨ga,gb,rfl,ef⟩,_⟩:=f8;refine Ziz (v:=(.slice ga cc.length gb)) rfl rfl (fun _ hC=>Qw isAgg22 rfl (f9.one.gr (hC.bl ag))) ?_;refine T5 rfl rfl ?_;intro gc hC0;have hC:=hC0.bl ag;replace am:=am.gr hC;replace a3:=a3.gr hC;replace an:=an.gr hC;replace ao:=ao.gr hC;replace ef:=ef.gr hC;replace ab:=ab.gr hC;replace ac:=ac.gr hC;replace ad:=ad.gr hC;replace aa:=aa.grow hC;have eg:Zu (pS [8]) ag a2 ag gc:=hC.toP;obtain ⟨gd,hm⟩:=Z8 hm;refine V1 (c:=8) Zb.nil ef.srcC gd ?_;intro fb fc eh bv bb ei;replace am:=am.kpp bb;replace a3:=a3.kpp bb;replace an:=an.kpp bb;replace ao:=ao.kpp bb;replace ab:=ab.kpp bb;replace ac:=ac.kpp bb;replace ad:=ad.kpp bb;replace eg:=eg.trans (bb.mono (by first | exact Zoe rfl | exact pS_p1 rfl | exact Zof rfl));refine Zl ?_;refine ⟨fun w'=>Zh bv eh bv w',fun w'=>∃ c',Zu (pS [8]) bv eh c' w',Zh.refl _ _,fun _ h=>⟨_,h.toP⟩,fun h=>absurd h (by decide),fun _ _ ⟨c9,h⟩=>⟨c9,eg.trans h⟩,?_⟩;refine T5 rfl rfl ?_;intro ge hC0;have hC:=hC0.bl bv;replace aa:=(aa.kpp bb).grow hC;replace am:=am.gr hC;replace a3:=a3.gr hC;replace an:=an.gr hC;replace ao:=ao.gr hC;replace ei:=ei.gr hC;replace ab:=ab.gr hC;replace ac:=ac.gr hC;replace ad:=ad.gr hC
   have ej:Zu (pS [8]) bv eh bv ge:=hC.toP;refine Ur (col:=bv) (r:=(Za.row 9 Za.str)) (xs:=[([]:List ByteArray)++cc]) [.slice fb ((([]:List ByteArray)++cc).length) fc] 8 (Wa.cons1 (cs:=[.slice fb ((([]:List ByteArray)++cc).length) fc]) ei.has Rows.nil0) ?_;intro h3 fd cx a4 ek;replace ej:=ej.gr a4;refine Zl ?_;refine ⟨fun w'=>Zh cx fd cx w',fun w'=>∃ c',Zu (pS [8]) cx fd c' w',Zh.refl _ _,fun _ h=>⟨_,h.toP⟩,fun _ _ h=>Qc hC0 a4 h,fun _ _ ⟨c9,h⟩=>⟨c9,ej.trans h⟩,?_⟩;refine T5 rfl rfl ?_;intro gf hC0;have hC:=hC0.bl cx;obtain ⟨fe,hm⟩:=Z8 hm;replace a3:=(a3.gr a4).gr hC;replace ek:=ek.gr hC;refine Q2 (col:=cx) (w:=gf) (r:=(Za.row 9 Za.str)) (c:=5) (c2:=8) (a3.ex) (ek.srcC (by decide)) rfl underlying23 Z57 rfl rfl rfl fe.1 fe.2 (by decide) ?_;intro ff fg fh bc bw el;refine Zl ?_;refine ⟨fun w'=>Zh bc fh bc w',fun w'=>∃ c',Zu (pS [8]) bc fh c' w',Zh.refl _ _,fun _ h=>⟨_,h.toP⟩,fun h=>absurd h (by decide),fun h=>absurd h (by decide),?_⟩;refine Tl (v:=(.pointer ((some (⟨au,0,none⟩:Addr)).map (·.add 2)))) rfl rfl (fun _=>Sh (sz:=1) (off:=2) underlying27 rfl sizeOf23 (by decide) rfl rfl ⟨_,_,rfl⟩) ?_;refine T5 rfl rfl ?_;intro h4 hC0;replace am:=((am.gr a4).gr hC).kpp bw;replace an:=((an.gr a4).gr hC).kpp bw;replace ao:=((ao.gr a4).gr hC).kpp bw;replace ab:=((ab.gr a4).gr hC).kpp bw;replace ac:=((ac.gr a4).gr hC).kpp bw;replace ad:=((ad.gr a4).gr hC).kpp bw;replace aa:=((aa.grow a4).grow hC).kpp bw;have hC:=hC0.bl bc;replace ad:=ad.gr hC;refine Zaw (off:=2) (v:=(.slice ff ((bn++[([]:List ByteArray)++cc]).length) fg)) ad sizeOf23 rfl rfl (by intro u hu;simp only [Value.cells,aP,bL,or_false] at hu;subst hu;rfl) rfl rfl ?_;intro em bx gg cy;replace cy:Zf 27 3 bc em au #[.string dr,.slice ds cq.length dt,.slice ff ((bn++[([]:List ByteArray)++cc]).length) fg,.slice du cu.length dv,.slice dw cv.length dx]:=cy;refine Zl ?_;refine ⟨fun w'=>Zh bc em bc w',fun w'=>∃ c',Zu (pS [8]) bc em c' w',Zh.refl _ _,fun _ h=>⟨_,h.toP⟩,fun h=>absurd h (by decide),fun h=>absurd h (by decide),?_⟩;replace el:=(el.gr hC).kp bx;have en:=el.new;refine Zo7 ?_;replace am:=(am.gr hC).kp bx;replace an:=(an.gr hC).kp bx;replace ao:=(ao.gr hC).kp bx;replace ab:=(ab.gr hC).kp bx;replace ac:=(ac.gr hC).kp bx;replace aa:=(aa.grow hC).kp bx gg;intro h5 hC;replace hC:=hC.bl bc;refine go ?_
   replace am:=am.gr hC;replace en:=en.gr hC;replace an:=an.gr hC;replace ao:=ao.gr hC;replace ab:=ab.gr hC;replace ac:=ac.gr hC;replace cy:=cy.gr hC;replace aa:=aa.grow hC;exact ⟨cb,by omega,rfl,⟨_,_,_,_,_,_,_,_,_,_,_,_,_,_,_,_,rfl,hm,aa,ab,ac,am,en,an,ao,cy,rfl⟩⟩
  refine Z4 [1,2,3,1000000] (fun n f a5=>∃ ah dz d0 d1 cz d2 d3 c0 c5 c6 bo d4 d5 c7 c8 cd,cd=n∧Zfr N ae cd dz cz c0 bo c7 c8=some r∧St w0 (Zk col) ah a5∧Zf 27 1 ah a5 ca #[.string ae.1,.slice b7 ae.2.1.length b5,.slice a9 ae.2.2.1.length bk,.slice ba ae.2.2.2.1.length bm,.slice b8 ae.2.2.2.2.length b6]∧Zf 27 2 ah a5 dm #[.string (⟨#[]⟩),.slice none (([]:List ByteArray).length) 0,.slice none (([]:List R3).length) 0,.slice none (([]:List R2).length) 0,(.slice none (([]:List R4).length) 0)]∧Zb Za.str 9 4 ah a5 d0 d1 cz∧Zb (Za.row 9 Za.str) 22 5 ah a5 d2 d3 c0∧Zb (Za.row 3 (Za.int .i64)) 33 6 ah a5 c5 c6 bo∧Zb (Za.row 39 (Za.pair (Za.pair Za.bool (Za.row 95 (Za.int .u32))) (Za.row 95 (Za.int .u32)))) 114 7 ah a5 d4 d5 c7∧Zf 27 3 ah a5 au #[.string dz,.slice d0 cz.length d1,.slice d2 c0.length d3,.slice c5 bo.length c6,.slice d4 c7.length d5]∧[6].map f=[.int .i64 c8]) N ⟨_,_,_,_,_,_,_,_,_,_,_,_,_,_,0,_,rfl,hm,aa,ab,ac,am,a3,an,ao,ad,rfl⟩ ?_;clear hm;intro n f a5 hI;obtain ⟨ah,dz,d0,d1,cz,d2,d3,c0,c5,c6,bo,d4,d5,c7,c8,cd,hn,hm,aa,ab,ac,ap,aq,a6,ar,ad,hs⟩:=hI;subst hn;refine .lL [6] hs ?_
  cases cd with
  | zero=>rw [Zfr.eq_1] at hm;cases hm
  | succ cd=>
   rw [Zfr.eq_2] at hm;refine go ?_;refine Xk ab ?_;refine go ?_;refine Zq hm (fun hb hm=>go ?_) fun hb hm=>go ?_
   ·refine Zo2 (col:=ah) (pS [9]) [(0,1),(1,5),(2,1),(3,1),(4,0),(5,1),(6,1),(7,0),(8,4),(9,3),(10,2),(11,1),(12,2)] (by kernel_rfl) (by kernel_rfl)<|Tl (v:=(.pointer ((some (⟨au,0,none⟩:Addr)).map (·.add 3)))) rfl rfl (fun _=>Sh (sz:=1) (off:=3) underlying27 rfl sizeOf24 (by decide) rfl rfl ⟨_,_,rfl⟩) ?_;refine Zo8 (v:=(.slice c5 bo.length c6)) rfl rfl (fun _ hC=>Qw isAgg24 rfl (((ad.dk hC rfl rfl).atN).nth (q:=3) (v:=(.slice c5 bo.length c6)) rfl)) ?_;refine Tl (v:=(.slice none (([]:List Int).length) 0)) rfl rfl (fun _=>V3 rfl) ?_;refine Tl (v:=(.pointer ((some (⟨ca,0,none⟩:Addr)).map (·.add 3)))) rfl rfl (fun _=>Sh (sz:=1) (off:=3) underlying27 rfl sizeOf24 (by decide) rfl rfl ⟨_,_,rfl⟩) ?_;refine Ziz (v:=(.slice ba ae.2.2.2.1.length bm)) rfl rfl (fun _ hC=>Qw isAgg24 rfl (((ab.atN).nth (q:=3) (v:=(.slice ba ae.2.2.2.1.length bm)) rfl).gr (hC.bl ah))) ?_;refine Tl (v:=(.int .i64 c8)) rfl rfl (fun _=>V3 rfl) ?_;obtain ⟨ce,d6,hm⟩:=bZ hm;refine Tl (v:=(Yh ba (aA c8 * 1))) rfl rfl (fun _=>Y3 underlying24 sizeOf33 rfl rfl (Xe d6).1 (Xe d6).2.1 ((dl.ks aa).addr d6)) ?_;obtain ⟨_,gh,gi⟩:=(dl.ks aa).atN d6;obtain ⟨⟨gj,gk,rfl,eo⟩,_⟩:=gh;refine Ziz (v:=(.slice gj ce.length gk)) rfl rfl (fun _ hC=>Qw isAgg33 rfl (gi.one.gr (hC.bl ah))) ?_;refine T5 rfl rfl ?_;intro gl hC0;have hC:=hC0.bl ah;replace ap:=ap.gr hC;replace aq:=aq.gr hC;replace a6:=a6.gr hC;replace ar:=ar.gr hC;replace eo:=eo.gr hC;replace ab:=ab.gr hC;replace ac:=ac.gr hC;replace ad:=ad.gr hC;replace aa:=aa.grow hC;have ep:Zu (pS [9]) ah a5 ah gl:=hC.toP;obtain ⟨gm,hm⟩:=Z8 hm;refine V1 (c:=9) Zb.nil eo.srcC gm ?_;intro fi fj eq bz bd er;replace ap:=ap.kpp bd;replace aq:=aq.kpp bd;replace a6:=a6.kpp bd;replace ar:=ar.kpp bd;replace ab:=ab.kpp bd;replace ac:=ac.kpp bd;replace ad:=ad.kpp bd;replace ep:=ep.trans (bd.mono (by first | exact Zoe rfl | exact pS_p1 rfl | exact Zof rfl));refine Zl ?_;refine ⟨fun w'=>Zh bz eq bz w',fun w'=>∃ c',Zu (pS [9]) bz eq c' w',Zh.refl _ _,fun _ h=>⟨_,h.toP⟩,fun h=>absurd h (by decide),fun _ _ ⟨c9,h⟩=>⟨c9,ep.trans h⟩,?_⟩;refine T5 rfl rfl ?_;intro gp hC0;have hC:=hC0.bl bz;replace aa:=(aa.kpp bd).grow hC;replace ap:=ap.gr hC;replace aq:=aq.gr hC;replace a6:=a6.gr hC;replace ar:=ar.gr hC;replace er:=er.gr hC;replace ab:=ab.gr hC;replace ac:=ac.gr hC
    replace ad:=ad.gr hC;have es:Zu (pS [9]) bz eq bz gp:=hC.toP;refine Ur (col:=bz) (r:=(Za.row 3 (Za.int .i64))) (xs:=[([]:List Int)++ce]) [.slice fi ((([]:List Int)++ce).length) fj] 9 (Wa.cons1 (cs:=[.slice fi ((([]:List Int)++ce).length) fj]) er.has Rows.nil0) ?_;intro h6 fk da a7 et;replace es:=es.gr a7;refine Zl ?_;refine ⟨fun w'=>Zh da fk da w',fun w'=>∃ c',Zu (pS [9]) da fk c' w',Zh.refl _ _,fun _ h=>⟨_,h.toP⟩,fun _ _ h=>Qc hC0 a7 h,fun _ _ ⟨c9,h⟩=>⟨c9,es.trans h⟩,?_⟩;refine T5 rfl rfl ?_;intro gs hC0;have hC:=hC0.bl da;obtain ⟨fl,hm⟩:=Z8 hm;replace a6:=(a6.gr a7).gr hC;replace et:=et.gr hC;refine Q2 (col:=da) (w:=gs) (r:=(Za.row 3 (Za.int .i64))) (c:=6) (c2:=9) (a6.ex) (et.srcC (by decide)) rfl underlying24 Z59 rfl rfl rfl fl.1 fl.2 (by decide) ?_;intro fm fn fp be b0 eu;refine Zl ?_;refine ⟨fun w'=>Zh be fp be w',fun w'=>∃ c',Zu (pS [9]) be fp c' w',Zh.refl _ _,fun _ h=>⟨_,h.toP⟩,fun h=>absurd h (by decide),fun h=>absurd h (by decide),?_⟩;refine Tl (v:=(.pointer ((some (⟨au,0,none⟩:Addr)).map (·.add 3)))) rfl rfl (fun _=>Sh (sz:=1) (off:=3) underlying27 rfl sizeOf24 (by decide) rfl rfl ⟨_,_,rfl⟩) ?_;refine T5 rfl rfl ?_;intro h7 hC0;replace ap:=((ap.gr a7).gr hC).kpp b0;replace aq:=((aq.gr a7).gr hC).kpp b0;replace ar:=((ar.gr a7).gr hC).kpp b0;replace ab:=((ab.gr a7).gr hC).kpp b0;replace ac:=((ac.gr a7).gr hC).kpp b0;replace ad:=((ad.gr a7).gr hC).kpp b0;replace aa:=((aa.grow a7).grow hC).kpp b0;have hC:=hC0.bl be;replace ad:=ad.gr hC;refine Zaw (off:=3) (v:=(.slice fm ((bo++[([]:List Int)++ce]).length) fn)) ad sizeOf24 rfl rfl (by intro u hu;simp only [Value.cells,aP,bL,or_false] at hu;subst hu;rfl) rfl rfl ?_;intro ew b1 gt db;replace db:Zf 27 3 be ew au #[.string dz,.slice d0 cz.length d1,.slice d2 c0.length d3,.slice fm ((bo++[([]:List Int)++ce]).length) fn,.slice d4 c7.length d5]:=db;refine Zl ?_;refine ⟨fun w'=>Zh be ew be w',fun w'=>∃ c',Zu (pS [9]) be ew c' w',Zh.refl _ _,fun _ h=>⟨_,h.toP⟩,fun h=>absurd h (by decide),fun h=>absurd h (by decide),?_⟩;replace eu:=(eu.gr hC).kp b1;have ey:=eu.new;refine Zo7 ?_;replace ap:=(ap.gr hC).kp b1;replace aq:=(aq.gr hC).kp b1;replace ar:=(ar.gr hC).kp b1;replace ab:=(ab.gr hC).kp b1
    replace ac:=(ac.gr hC).kp b1;replace aa:=(aa.grow hC).kp b1 gt;intro h8 hC;replace hC:=hC.bl be;refine go ?_;replace ap:=ap.gr hC;replace aq:=aq.gr hC;replace ey:=ey.gr hC;replace ar:=ar.gr hC;replace ab:=ab.gr hC;replace ac:=ac.gr hC;replace db:=db.gr hC;replace aa:=aa.grow hC;exact ⟨cd,by omega,rfl,⟨_,_,_,_,_,_,_,_,_,_,_,_,_,_,_,_,rfl,hm,aa,ab,ac,ap,aq,ey,ar,db,rfl⟩⟩
   refine Z4 [1,2,3,1000000] (fun n f bf=>∃ bg cf cg ch bp ci cj bq ck cl br dc dd bh d7 b2,b2=n∧Zcf N ae b2 cf bp bq br bh d7=some r∧St w0 (Zk col) bg bf∧Zf 27 1 bg bf ca #[.string ae.1,.slice b7 ae.2.1.length b5,.slice a9 ae.2.2.1.length bk,.slice ba ae.2.2.2.1.length bm,.slice b8 ae.2.2.2.2.length b6]∧Zf 27 2 bg bf dm #[.string (⟨#[]⟩),.slice none (([]:List ByteArray).length) 0,.slice none (([]:List R3).length) 0,.slice none (([]:List R2).length) 0,(.slice none (([]:List R4).length) 0)]∧Zb Za.str 9 4 bg bf cg ch bp∧Zb (Za.row 9 Za.str) 22 5 bg bf ci cj bq∧Zb (Za.row 3 (Za.int .i64)) 33 6 bg bf ck cl br∧Zb (Za.row 39 (Za.pair (Za.pair Za.bool (Za.row 95 (Za.int .u32))) (Za.row 95 (Za.int .u32)))) 114 7 bg bf dc dd bh∧Zf 27 3 bg bf au #[.string cf,.slice cg bp.length ch,.slice ci bq.length cj,.slice ck br.length cl,.slice dc bh.length dd]∧[8].map f=[.int .i64 d7]) N ⟨_,_,_,_,_,_,_,_,_,_,_,_,_,_,0,_,rfl,hm,aa,ab,ac,ap,aq,a6,ar,ad,rfl⟩ ?_;clear hm;intro n f bf hI;obtain ⟨bg,cf,cg,ch,bp,ci,cj,bq,ck,cl,br,dc,dd,bh,d7,b2,hn,hm,aa,ab,ac,ai,aj,ak,al,ad,hs⟩:=hI;subst hn;refine .lL [8] hs ?_
   cases b2 with
   | zero=>rw [Zcf.eq_1] at hm;cases hm
   | succ b2=>
    rw [Zcf.eq_2] at hm;refine go ?_;refine Xk ab ?_;refine go ?_;refine Zq hm (fun hb hm=>go ?_) fun hb hm=>go ?_
    ·refine Z4 [1,2,3,8,1000000] (fun n f a8=>∃ av ez de df bi cn,cn=n∧Zfs N ae cf bp bq br bh d7 (Zcf N ae b2) cn ez bi=some r∧St w0 (Zk col) av a8∧Zf 27 1 av a8 ca #[.string ae.1,.slice b7 ae.2.1.length b5,.slice a9 ae.2.2.1.length bk,.slice ba ae.2.2.2.1.length bm,.slice b8 ae.2.2.2.2.length b6]∧Zf 27 2 av a8 dm #[.string (⟨#[]⟩),.slice none (([]:List ByteArray).length) 0,.slice none (([]:List R3).length) 0,.slice none (([]:List R2).length) 0,(.slice none (([]:List R4).length) 0)]∧Zb Za.str 9 4 av a8 cg ch bp∧Zb (Za.row 9 Za.str) 22 5 av a8 ci cj bq∧Zb (Za.row 3 (Za.int .i64)) 33 6 av a8 ck cl br∧Zb (Za.row 39 (Za.pair (Za.pair Za.bool (Za.row 95 (Za.int .u32))) (Za.row 95 (Za.int .u32)))) 114 7 av a8 dc dd bh∧Zf 27 3 av a8 au #[.string cf,.slice cg bp.length ch,.slice ci bq.length cj,.slice ck br.length cl,.slice dc bh.length dd]∧Zb (Za.pair (Za.pair Za.bool (Za.row 95 (Za.int .u32))) (Za.row 95 (Za.int .u32))) 39 10 av a8 de df bi∧[10,9].map f=[.int .i64 ez,.slice de bi.length df]) N ⟨_,0,none,0,_,_,rfl,hm,aa,ab,ac,ai,aj,ak,al,ad,Zb.nil,rfl⟩ ?_;clear hm;intro n f a8 hI;obtain ⟨av,ez,de,df,bi,cn,hn,hm,aa,ab,ac,ai,aj,ak,al,ad,bs,hs⟩:=hI;subst hn;refine .lL [10,9] hs ?_
     cases cn with
     | zero=>rw [Zfs.eq_1] at hm;cases hm
     | succ cn=>
      rw [Zfs.eq_2] at hm;refine go ?_;refine Xk ab<|X1 rfl ?_;obtain ⟨h9,co,hm⟩:=bZ hm;refine lI co ((b9.ks aa).addr co) ?_;obtain ⟨_,gu,gv⟩:=(b9.ks aa).atN co;obtain ⟨⟨ia,ib,rfl,ic⟩,_⟩:=gu;refine lW gv.one<|go ?_;refine Zq hm (fun hb hm=>go ?_) fun hb hm=>go ?_
      ·refine Xk ab<|X1 rfl<|lI co ((b9.ks aa).addr co) ?_;obtain ⟨_,gw,gx⟩:=(b9.ks aa).atN co;obtain ⟨⟨id,ie,rfl,fq⟩,_⟩:=gw;refine lW gx.one<|X1 rfl ?_;obtain ⟨af,e0,hm⟩:=bZ hm;refine lI e0 (fq.addr e0) ?_;obtain ⟨_,gy,gz⟩:=fq.atN e0;obtain ⟨_,_,rfl,g0,g1⟩:=Uw gy;obtain ⟨_,_,rfl,g2,g3⟩:=Uw g0;obtain ⟨rfl,_⟩:=g2;obtain ⟨⟨g4,g5,rfl,e1⟩,_⟩:=g3;obtain ⟨⟨fr,ft,rfl,e2⟩,_⟩:=g1;refine lV (.agg #[.bool af.1.1,.slice g4 af.1.2.length g5,.slice fr af.2.length ft]) (W4 isAgg39 sizeOf39 rfl rfl gz)<|Xr (col:=av) #[.bool false,.slice none (([]:List Int).length) 0,.slice none (([]:List Int).length) 0] 11 zeroValue39 ?_;intro fu ig ih aw g6;refine Z5 g6 ?_;intro ii ax g7 d8;refine go ?_;refine Yk ⟨_,_,rfl⟩ ?_;refine Yk (Zbj ⟨_,_,rfl⟩) ?_;refine lW ((((d8.atN).part 0 2 _ rfl)).nth (q:=1) rfl) ?_;obtain ⟨g8,hm⟩:=Z8 hm;replace e1:=(e1.gr aw).kp ax;refine V1 (c:=12) Zb.nil e1.srcC g8 ?_;intro dg dh ij g9 ay e3;refine Yk ⟨_,_,rfl⟩ ?_;refine Yk (Zbj ⟨_,_,rfl⟩) ?_;replace d8:=d8.kpp ay;refine Zaw (off:=1) (v:=(.slice dg ((([]:List Int)++af.1.2).length) dh)) d8 sizeOf35 rfl rfl (by intro u hu;simp only [Value.cells,aP,bL,or_false] at hu;subst hu;rfl) rfl rfl ?_;intro ha az hc cp;replace cp:Zf 39 11 g9 ha fu #[.bool af.1.1,.slice dg ((([]:List Int)++af.1.2).length) dh,.slice fr af.2.length ft]:=cp;refine go ?_;refine Xk cp ?_;obtain ⟨hd,hm⟩:=Z8 hm;replace e2:=(((e2.gr aw).kp ax).kpp ay).kp az;refine V1 (c:=13) Zb.nil e2.srcC hd ?_;intro d9 ea ik fv a0 e4;refine Yk ⟨_,_,rfl⟩ ?_;replace cp:=cp.kpp a0;refine Zaw (off:=2) (v:=(.slice d9 ((([]:List Int)++af.2).length) ea)) cp sizeOf35 rfl rfl (by intro u hu;simp only [Value.cells,aP,bL,or_false] at hu;subst hu;rfl) rfl rfl ?_;intro he a1 hf e5;replace e5:Zf 39 11 fv he fu #[.bool af.1.1,.slice dg ((([]:List Int)++af.1.2).length) dh,.slice d9 ((([]:List Int)++af.2).length) ea]:=e5;refine go ?_;refine lV _ (Xd isAgg39 sizeOf39 e5) ?_;replace e3:=((e3.kp az).kpp a0).kp a1;replace e4:=e4.kp a1;have hg:=X7.join (X7.joinL (Zcl af.1.1) e3.has) e4.has (by decide) (by decide)
       replace ai:=(((((ai.gr aw).kp ax).kpp ay).kp az).kpp a0).kp a1;replace ai:=ai.recol 13 12 (by decide);replace aj:=(((((aj.gr aw).kp ax).kpp ay).kp az).kpp a0).kp a1;replace aj:=aj.recol 13 12 (by decide);replace ak:=(((((ak.gr aw).kp ax).kpp ay).kp az).kpp a0).kp a1;replace ak:=ak.recol 13 12 (by decide);replace al:=(((((al.gr aw).kp ax).kpp ay).kp az).kpp a0).kp a1;replace al:=al.recol 13 12 (by decide);replace bs:=(((((bs.gr aw).kp ax).kpp ay).kp az).kpp a0).kp a1;replace bs:=bs.recol 13 12 (by decide);replace ab:=(((((ab.gr aw).kp ax).kpp ay).kp az).kpp a0).kp a1;replace ab:=ab.recol 13 12 (by decide);replace ac:=(((((ac.gr aw).kp ax).kpp ay).kp az).kpp a0).kp a1;replace ac:=ac.recol 13 12 (by decide);replace ad:=(((((ad.gr aw).kp ax).kpp ay).kp az).kpp a0).kp a1;replace ad:=ad.recol 13 12 (by decide);replace aa:=(((((aa.grow aw).kp ax g7).kpp ay).kp az hc).kpp a0).kp a1 hf;replace aa:=aa.recol 13 12 (by decide) (by decide);refine Ur (col:=(Xy 13 12 fv)) (r:=(Za.pair (Za.pair Za.bool (Za.row 95 (Za.int .u32))) (Za.row 95 (Za.int .u32)))) (xs:=[((af.1.1,([]:List Int)++af.1.2),([]:List Int)++af.2)]) [(.agg #[.bool af.1.1,.slice dg ((([]:List Int)++af.1.2).length) dh,.slice d9 ((([]:List Int)++af.2).length) ea])] 12 (Wa.cons1 (cs:=[.bool af.1.1,.slice dg ((([]:List Int)++af.1.2).length) dh,.slice d9 ((([]:List Int)++af.2).length) ea]) hg Rows.nil0) ?_;intro il im io bj hh;obtain ⟨hi,hm⟩:=Z8 hm;replace bs:=bs.gr bj;refine V1 (c:=10) (c2:=12) bs (hh.srcC (by decide)) hi ?_;intro ip iq ir it bt hj;refine go ?_;replace ai:=(ai.gr bj).kpp bt;replace aj:=(aj.gr bj).kpp bt;replace ak:=(ak.gr bj).kpp bt;replace al:=(al.gr bj).kpp bt;replace ab:=(ab.gr bj).kpp bt;replace ac:=(ac.gr bj).kpp bt;replace ad:=(ad.gr bj).kpp bt;replace aa:=(aa.grow bj).kpp bt;exact ⟨cn,by omega,rfl,⟨_,_,_,_,_,_,rfl,hm,aa,ab,ac,ai,aj,ak,al,ad,hj,rfl⟩⟩
      refine Xk ad<|Y2 rfl<|Ur (col:=av) (r:=(Za.row 39 (Za.pair (Za.pair Za.bool (Za.row 95 (Za.int .u32))) (Za.row 95 (Za.int .u32))))) (xs:=[bi]) [.slice de bi.length df] 10 (Wa.cons1 (cs:=[.slice de bi.length df]) bs.has Rows.nil0) ?_;intro iu hk hl bu ho;obtain ⟨fw,hm⟩:=Z8 hm;replace al:=al.gr bu;refine Q2 (col:=hl) (w:=hk) (r:=(Za.row 39 (Za.pair (Za.pair Za.bool (Za.row 95 (Za.int .u32))) (Za.row 95 (Za.int .u32))))) (c:=7) (c2:=10) (al.ex) (ho.srcC (by decide)) rfl underlying25 Z55 rfl rfl rfl fw.1 fw.2 (by decide) ?_;intro fx fy iv hp b3 e6;refine Yk ⟨_,_,rfl⟩ ?_;replace ad:=(ad.gr bu).kpp b3;refine Zaw (off:=4) (v:=(.slice fx ((bh++[bi]).length) fy)) ad sizeOf25 rfl rfl (by intro u hu;simp only [Value.cells,aP,bL,or_false] at hu;subst hu;rfl) rfl rfl ?_;intro hq b4 hr e7;replace e7:Zf 27 3 hp hq au #[.string cf,.slice cg bp.length ch,.slice ci bq.length cj,.slice ck br.length cl,.slice fx ((bh++[bi]).length) fy]:=e7;replace e6:=e6.kp b4;have ht:=e6.new;refine go ?_;replace ai:=((ai.gr bu).kpp b3).kp b4;replace aj:=((aj.gr bu).kpp b3).kp b4;replace ak:=((ak.gr bu).kpp b3).kp b4;replace ab:=((ab.gr bu).kpp b3).kp b4;replace ac:=((ac.gr bu).kpp b3).kp b4;replace aa:=((aa.grow bu).kpp b3).kp b4 hr;exact ⟨b2,by omega,rfl,⟨_,_,_,_,_,_,_,_,_,_,_,_,_,_,_,_,rfl,hm,aa,ab,ac,ai,aj,ak,ht,e7,rfl⟩⟩
    refine lV _ (Xd isAgg27 sizeOf27 ad)<|Z5 ac ?_;intro iw di hv hw;refine go ?_;cases hm;replace ai:=ai.kp di;replace aj:=aj.kp di;replace ak:=ak.kp di;replace al:=al.kp di;replace aa:=aa.kp di hv;exact ⟨rfl,_,ra hw.atN,_,_,_,_,_,_,_,_,_,rfl,aa.fin (cm [(4,c1),(5,c2),(6,c3),(7,c4)]),aa.fo ai,aa.fo aj,aa.fo ak,aa.fo al⟩
def Zfl (N:Nat) (ab:List ByteArray) (ac:List ByteArray):Nat→Int→Option Bool
  | 0,_=>none
  | ad+1,aa=>if (decide (aa<(ab.length:Int)))=true then ((Zm ab aa).bind fun ae=>(Zm ac aa).bind fun af=>if (!decide (ae=af))=true then (some false) else ((Zfl N ab ac ad) (i64.wrap (aa+1)))) else (some true)
termination_by structural x=>x
def Zh9 (N:Nat) (aa:List ByteArray) (ab:List ByteArray):Option Bool:=
  if (!decide ((aa.length:Int)=(ab.length:Int)))=true then (some false) else (Zfl N aa ab N 0)
theorem Zue {N ai aj:Nat} {a0 a1:Option Addr} {col:Ze} {w0:World} {ad ae:R3} {r:Bool} (hm:Zh9 N ad ae=some r) (h0:Sl Za.str col w0 a0 ai ad) (h1:Sl Za.str col w0 a1 aj ae):
    Calls prog 113 #[.slice a0 ad.length ai,.slice a1 ae.length aj] w0 (fun e w'=>e= .returned ((.bool r))∧Below w0.heap.size w0 w'):=by
 refine Xl 4 (m:=26) func113 rfl rfl rfl rfl rfl ?_;rw [Zh9.eq_1] at hm;have aa:=St.start col w0;refine go ?_;replace h0:=h0.keep (Zi.start col w0);replace h1:=h1.keep (Zi.start col w0);refine Zq hm (fun hb hm=>go ?_) fun hb hm=>go ?_
 ·cases hm;exact ⟨rfl,rfl,aa.below⟩
 refine Z4 [0,1,1000000] (fun n f ak=>∃ ab af ac,ac=n∧Zfl N ad ae ac af=some r∧St w0 (Zk col) ab ak∧[5].map f=[.int .i64 af]) N ⟨_,0,_,rfl,hm,aa,rfl⟩ ?_;clear hm;intro n f ak hI;obtain ⟨ab,af,ac,hn,hm,aa,hs⟩:=hI;subst hn;refine .lL [5] hs ?_
 cases ac with
 | zero=>rw [Zfl.eq_1] at hm;cases hm
 | succ ac=>
  rw [Zfl.eq_2] at hm;refine go ?_;refine Zq hm (fun hb hm=>go ?_) fun hb hm=>go ?_
  ·refine V4 (col:=ab) (by kernel_rfl) (by kernel_rfl)<|go ?_;obtain ⟨al,ag,hm⟩:=bZ hm;refine qI ag ((h0.ks aa).addr ag)<|qW (fun _ hC=>((h0.ks aa).gr (hC.bl ab)).atStr ag) ?_;refine go ?_;obtain ⟨am,ah,hm⟩:=bZ hm;refine qI ah ((h1.ks aa).addr ah)<|qW (fun _ hC=>((h1.ks aa).gr (hC.bl ab)).atStr ah) ?_;refine go ?_;refine Vc ?_;intro an hC;replace hC:=hC.bl ab;replace aa:=aa.grow hC;refine Zq hm (fun hb hm=>go ?_) fun hb hm=>go ?_
   ·cases hm;exact ⟨rfl,rfl,aa.below⟩
   exact ⟨ac,by omega,rfl,⟨_,_,_,rfl,hm,aa,rfl⟩⟩
  cases hm;exact ⟨rfl,rfl,aa.below⟩
def Zft (N:Nat) (ab:R6) (ac:R6):Nat→Int→Option Bool
  | 0,_=>none
  | ad+1,aa=>if (decide (aa<(ab.length:Int)))=true then ((Zm ab aa).bind fun ae=>(Zm ac aa).bind fun af=>(Zkk N ae af).bind fun ag=>if (!ag)=true then (some false) else ((Zft N ab ac ad) (i64.wrap (aa+1)))) else (some true)
termination_by structural x=>x
def Zkx (N:Nat) (aa:R6) (ab:R6):Option Bool:=
  if (!decide ((aa.length:Int)=(ab.length:Int)))=true then (some false) else (Zft N aa ab N 0)
theorem Z4s {N ai aj:Nat} {a0 a1:Option Addr} {col:Ze} {w0:World} {ad ae:R6} {r:Bool} (hm:Zkx N ad ae=some r) (h0:Sl (Za.slice (Za.int .i64)) col w0 a0 ai ad) (h1:Sl (Za.slice (Za.int .i64)) col w0 a1 aj ae):
    Calls prog 114 #[.slice a0 ad.length ai,.slice a1 ae.length aj] w0 (fun e w'=>e= .returned ((.bool r))∧Below w0.heap.size w0 w'):=by
 refine Xl 4 (m:=29) func114 rfl rfl rfl rfl rfl ?_;rw [Zkx.eq_1] at hm;have aa:=St.start col w0;refine go ?_;replace h0:=h0.keep (Zi.start col w0);replace h1:=h1.keep (Zi.start col w0);refine Zq hm (fun hb hm=>go ?_) fun hb hm=>go ?_
 ·cases hm;exact ⟨rfl,rfl,aa.below⟩
 refine Z4 [0,1,1000000] (fun n f ak=>∃ ab af ac,ac=n∧Zft N ad ae ac af=some r∧St w0 (Zk col) ab ak∧[5].map f=[.int .i64 af]) N ⟨_,0,_,rfl,hm,aa,rfl⟩ ?_;clear hm;intro n f ak hI;obtain ⟨ab,af,ac,hn,hm,aa,hs⟩:=hI;subst hn;refine .lL [5] hs ?_
 cases ac with
 | zero=>rw [Zft.eq_1] at hm;cases hm
 | succ ac=>
  rw [Zft.eq_2] at hm;refine go ?_;refine Zq hm (fun hb hm=>go ?_) fun hb hm=>go ?_
  ·refine V4 (col:=ab) (by kernel_rfl) (by kernel_rfl)<|go ?_;obtain ⟨av,ag,hm⟩:=bZ hm;refine qI ag ((h0.ks aa).addr ag) ?_;obtain ⟨_,al,am⟩:=(h0.ks aa).atN ag;obtain ⟨⟨aw,ax,rfl,an⟩,_⟩:=al;refine qW (fun _ hC=>am.one.gr (hC.bl ab)) ?_;refine go ?_;obtain ⟨ay,ah,hm⟩:=bZ hm;refine qI ah ((h1.ks aa).addr ah) ?_;obtain ⟨_,ao,ap⟩:=(h1.ks aa).atN ah;obtain ⟨⟨az,a2,rfl,aq⟩,_⟩:=ao;refine qW (fun _ hC=>ap.one.gr (hC.bl ab)) ?_;obtain ⟨ar,au,hm⟩:=bZ hm;refine qc (v:=(.bool ar)) rfl (fun _ hC=>⟨_,_,Zlh call165 rfl rfl,(Z4m au (an.gr (hC.bl ab)) (aq.gr (hC.bl ab)):).mono fun _ _ h=>⟨h.1,hC.trans (.of_below h.2)⟩⟩) ?_;refine go ?_;refine Vc ?_;intro a3 hC;replace hC:=hC.bl ab;refine go ?_;replace aa:=aa.grow hC;refine Zq hm (fun hb hm=>go ?_) fun hb hm=>go ?_
   ·cases hm;exact ⟨rfl,rfl,aa.below⟩
   exact ⟨ac,by omega,rfl,⟨_,_,_,rfl,hm,aa,rfl⟩⟩
  cases hm;exact ⟨rfl,rfl,aa.below⟩
def Zkt (aa:Int) (kk_L1:(Bool→Int→Option Bool)) (ab:Bool):Option Bool:=
  kk_L1 ab (i64.wrap (aa+1))
def Znn (aa:Int) (kk_L2:(Bool→Int→Option Bool)) (ab:Bool):Option Bool:=
  kk_L2 ab (i64.wrap (aa+1))
def Zie (N:Nat) (ae:R0) (af:R0) (aa:Int) (kk_L2:(Bool→Int→Option Bool)) (ag:Bool) (ab:Int) (kk_L3:(Bool→Int→Option Bool)) (ah:Bool):Option Bool:=
  if ah=true then ((Zm ae.2.2.2.2 aa).bind fun ai=>(Zm ai ab).bind fun ac=>(Zm af.2.2.2.2 aa).bind fun aj=>(Zm aj ab).bind fun ad=>(Zh6 N ((ac.1.1,ac.1.2),ac.2) ((ad.1.1,ad.1.2),ad.2)).bind fun ak=>kk_L3 (decide (ak=0)) (i64.wrap (ab+1))) else (Znn aa kk_L2 ag)
def Zcc (N:Nat) (aa:R0) (ac:R0) (ab:Int) (kk_L2:(Bool→Int→Option Bool)):Nat→Bool→Int→Option Bool
  | 0,_,_=>none
  | af+1,ad,ae=>if ad=true then ((Zm aa.2.2.2.2 ab).bind fun ag=>Zie N aa ac ab kk_L2 ad ae (Zcc N aa ac ab kk_L2 af) (decide (ae<(ag.length:Int)))) else (Zie N aa ac ab kk_L2 ad ae (Zcc N aa ac ab kk_L2 af) false)
termination_by structural x=>x
def Zku (N:Nat) (aa:R0) (ab:R0) (ac:Int) (kk_L2:(Bool→Int→Option Bool)) (ad:Bool):Option Bool:=
  Zcc N aa ab ac kk_L2 N ad 0
def Se (N:Nat) (aa:R0) (ab:R0):Nat→Bool→Int→Option Bool
  | 0,_,_=>none
  | ad+1,ae,ac=>if (decide (ac<(aa.2.2.2.2.length:Int)))=true then (if ae=true then ((Zm aa.2.2.2.2 ac).bind fun af=>(Zm ab.2.2.2.2 ac).bind fun ag=>Zku N aa ab ac (Se N aa ab ad) (decide ((af.length:Int)=(ag.length:Int)))) else (Zku N aa ab ac (Se N aa ab ad) false)) else (some ae)
termination_by structural x=>x
def Zcb (N:Nat) (aa:R0) (ac:R0):Nat→Bool→Int→Option Bool
  | 0,_,_=>none
  | ad+1,ae,ab=>if (decide (ab<(aa.2.2.1.length:Int)))=true then (if ae=true then ((Zm aa.2.2.1 ab).bind fun af=>(Zm ac.2.2.1 ab).bind fun ag=>(Zh9 N af ag).bind fun ah=>Zkt ab (Zcb N aa ac ad) ah) else (Zkt ab (Zcb N aa ac ad) false)) else (Se N aa ac N ae 0)
termination_by structural x=>x
def Zks (N:Nat) (aa:R0) (ab:R0) (ac:Bool):Option Bool:=
  Zcb N aa ab N ac 0
def Zid (N:Nat) (aa:R0) (ab:R0) (ac:Bool):Option Bool:=
  if ac=true then (some false) else ((Zh9 N aa.2.1 ab.2.1).bind fun ad=>if ad=true then ((Zkx N aa.2.2.2.1 ab.2.2.2.1).bind fun ae=>Zks N aa ab ae) else (Zks N aa ab false))
def Zdy (N:Nat) (aa:R0) (ab:R0):Option Bool:=
  if (!decide (aa.1=ab.1))=true then (Zid N aa ab true) else (if (!decide ((aa.2.2.1.length:Int)=(ab.2.2.1.length:Int)))=true then (Zid N aa ab true) else (Zid N aa ab (!decide ((aa.2.2.2.2.length:Int)=(ab.2.2.2.2.length:Int)))))
theorem Zpv {N ah ai aj ak al am an ao:Nat} {ap aq ar au av aw ax ay:Option Addr} {col:Ze} {w0:World} {aa ab:R0} {r:Bool} (hm:Zdy N aa ab=some r) (bv:Sl Za.str col w0 ap ah aa.2.1) (bd:Sl (Za.slice Za.str) col w0 aq ai aa.2.2.1) (bw:Sl (Za.slice (Za.int .i64)) col w0 ar aj aa.2.2.2.1) (a3:Sl (Za.slice (Za.pair (Za.pair Za.bool (Za.slice (Za.int .u32))) (Za.slice (Za.int .u32)))) col w0 au ak aa.2.2.2.2) (bx:Sl Za.str col w0 av al ab.2.1) (be:Sl (Za.slice Za.str) col w0 aw am ab.2.2.1) (bz:Sl (Za.slice (Za.int .i64)) col w0 ax an ab.2.2.2.1) (a8:Sl (Za.slice (Za.pair (Za.pair Za.bool (Za.slice (Za.int .u32))) (Za.slice (Za.int .u32)))) col w0 ay ao ab.2.2.2.2):
    Calls prog 32 #[(.agg #[.string aa.1,.slice ap aa.2.1.length ah,.slice aq aa.2.2.1.length ai,.slice ar aa.2.2.2.1.length aj,.slice au aa.2.2.2.2.length ak]),(.agg #[.string ab.1,.slice av ab.2.1.length al,.slice aw ab.2.2.1.length am,.slice ax ab.2.2.2.1.length an,.slice ay ab.2.2.2.2.length ao])] w0 (fun e w'=>e= .returned ((.bool r))∧Below w0.heap.size w0 w'):=by
 refine Xl 4 (m:=120) func32 rfl rfl rfl rfl rfl ?_;rw [Zdy.eq_1] at hm;have ac:=St.start col w0;refine go ?_;refine Xs (col:=(Zk col)) 1 rfl ?_;intro a1 ed cv cw ad;refine Xs (col:=cv) 2 rfl ?_;intro a2 ee ef cq ae;refine Zmm rfl<|Zl<|Z0<|Z0 ?_;replace bv:=bv.keep (Zi.start col w0);replace bd:=bd.keep (Zi.start col w0);replace bw:=bw.keep (Zi.start col w0);replace a3:=a3.keep (Zi.start col w0);replace bx:=bx.keep (Zi.start col w0);replace be:=be.keep (Zi.start col w0);replace bz:=bz.keep (Zi.start col w0);replace a8:=a8.keep (Zi.start col w0);replace ac:=(ac.grow cw).grow cq;replace ad:=ad.gr cq;refine Wp.cutK [2,3,1000000] (fun f a9=>∃ a4 b0,Zid N aa ab b0=some r∧St w0 (Zk col) a4 a9∧Zf 27 1 a4 a9 a1 #[.string aa.1,.slice ap aa.2.1.length ah,.slice aq aa.2.2.1.length ai,.slice ar aa.2.2.2.1.length aj,.slice au aa.2.2.2.2.length ak]∧Zf 27 2 a4 a9 a2 #[.string ab.1,.slice av ab.2.1.length al,.slice aw ab.2.2.1.length am,.slice ax ab.2.2.2.1.length an,.slice ay ab.2.2.2.2.length ao]∧[31].map f=[.bool b0]) ?_ ?_
 ·intro f a9 hJ;obtain ⟨a4,b0,hm,ac,ad,ae,hs⟩:=hJ;rw [Zid.eq_1] at hm;refine .lL [31] hs ?_;refine Zq hm (fun hb hm=>go ?_) fun hb hm=>?_
  ·cases hm;exact ⟨rfl,rfl,ac.below⟩
  refine Yl<|Z0 ?_;refine Wp.cutK [2,3,1000000] (fun f bf=>∃ bg b1,Zks N aa ab b1=some r∧St w0 (Zk col) bg bf∧Zf 27 1 bg bf a1 #[.string aa.1,.slice ap aa.2.1.length ah,.slice aq aa.2.2.1.length ai,.slice ar aa.2.2.2.1.length aj,.slice au aa.2.2.2.2.length ak]∧Zf 27 2 bg bf a2 #[.string ab.1,.slice av ab.2.1.length al,.slice aw ab.2.2.1.length am,.slice ax ab.2.2.2.1.length an,.slice ay ab.2.2.2.2.length ao]∧[5].map f=[.bool b1]) ?_ ?_
  ·intro f bf hJ;obtain ⟨bg,b1,hm,ac,ad,ae,hs⟩:=hJ;rw [Zks.eq_1] at hm;refine .lL [5] hs<|go ?_;refine Z4 [2,3,1000000] (fun n f bh=>∃ ag b2 bi a6,a6=n∧Zcb N aa ab a6 b2 bi=some r∧St w0 (Zk col) ag bh∧Zf 27 1 ag bh a1 #[.string aa.1,.slice ap aa.2.1.length ah,.slice aq aa.2.2.1.length ai,.slice ar aa.2.2.2.1.length aj,.slice au aa.2.2.2.2.length ak]∧Zf 27 2 ag bh a2 #[.string ab.1,.slice av ab.2.1.length al,.slice aw ab.2.2.1.length am,.slice ax ab.2.2.2.1.length an,.slice ay ab.2.2.2.2.length ao]∧[5,6].map f=[.bool b2,.int .i64 bi]) N ⟨_,_,0,_,rfl,hm,ac,ad,ae,rfl⟩ ?_;clear hm;intro n f bh hI;obtain ⟨ag,b2,bi,a6,hn,hm,ac,ad,ae,hs⟩:=hI;subst hn;refine .lL [5,6] hs ?_
   cases a6 with
   | zero=>rw [Zcb.eq_1] at hm;cases hm
   | succ a6=>
    rw [Zcb.eq_2] at hm;refine go ?_;refine Xk ad ?_;refine go ?_;refine Zq hm (fun hb hm=>?_) fun hb hm=>go ?_
    ·refine Yl<|Z0 ?_;refine Wp.cutK [2,3,6,1000000] (fun f bj=>∃ bk b3,Zkt bi (Zcb N aa ab a6) b3=some r∧St w0 (Zk col) bk bj∧Zf 27 1 bk bj a1 #[.string aa.1,.slice ap aa.2.1.length ah,.slice aq aa.2.2.1.length ai,.slice ar aa.2.2.2.1.length aj,.slice au aa.2.2.2.2.length ak]∧Zf 27 2 bk bj a2 #[.string ab.1,.slice av ab.2.1.length al,.slice aw ab.2.2.1.length am,.slice ax ab.2.2.2.1.length an,.slice ay ab.2.2.2.2.length ao]∧[5].map f=[.bool b3]) ?_ ?_
     ·intro f bj hJ;obtain ⟨bk,b3,hm,ac,ad,ae,hs⟩:=hJ;rw [Zkt.eq_1] at hm;refine .lL [5] hs<|go ?_;exact ⟨a6,by omega,rfl,⟨_,_,_,_,rfl,hm,ac,ad,ae,rfl⟩⟩
     refine Zef<|V4 (col:=ag) (by kernel_rfl) (by kernel_rfl)<|go ?_;refine Yt hm (fun b4 hm=>go ?_) fun b4 hm=>go ?_
     ·refine qF ⟨_,_,rfl⟩ ?_;refine go ?_;refine qW (fun _ hC=>((ad.atN).nth (q:=2) rfl).gr (hC.bl ag)) ?_;refine go ?_;obtain ⟨eg,b5,hm⟩:=bZ hm;refine qI b5 ((bd.ks ac).addr b5) ?_;refine go ?_;obtain ⟨_,cx,cy⟩:=(bd.ks ac).atN b5;obtain ⟨⟨eh,ei,rfl,cz⟩,_⟩:=cx;refine qW (fun _ hC=>cy.one.gr (hC.bl ag)) ?_;refine go ?_;refine qF ⟨_,_,rfl⟩ ?_;refine go ?_;refine qW (fun _ hC=>((ae.atN).nth (q:=2) rfl).gr (hC.bl ag)) ?_;refine go ?_;obtain ⟨ej,b6,hm⟩:=bZ hm;refine qI b6 ((be.ks ac).addr b6) ?_;refine go ?_;obtain ⟨_,c0,c1⟩:=(be.ks ac).atN b6;obtain ⟨⟨ek,el,rfl,c2⟩,_⟩:=c0;refine qW (fun _ hC=>c1.one.gr (hC.bl ag)) ?_;refine go ?_;obtain ⟨cr,c3,hm⟩:=bZ hm;refine qc (v:=(.bool cr)) rfl (fun _ hC=>⟨_,_,Zlh call113 rfl rfl,(Zue c3 (cz.gr (hC.bl ag)) (c2.gr (hC.bl ag)):).mono fun _ _ h=>⟨h.1,hC.trans (.of_below h.2)⟩⟩) ?_;refine qv (v:=(.bool cr)) rfl (fun _ hC=>Yf (congrArg Value.bool b4) rfl) ?_;refine go ?_;refine Vc ?_;intro em hC;replace hC:=hC.bl ag;replace ad:=ad.gr hC;replace ae:=ae.gr hC;replace ac:=ac.grow hC;exact ⟨rfl,_,_,hm,ac,ad,ae,rfl⟩
     refine qv (v:=(.bool false)) rfl (fun _ hC=>X8 (congrArg Value.bool b4) rfl) ?_;refine go ?_;refine Vc ?_;intro en hC;replace hC:=hC.bl ag;replace ad:=ad.gr hC;replace ae:=ae.gr hC;replace ac:=ac.grow hC;exact ⟨rfl,_,_,hm,ac,ad,ae,rfl⟩
    refine Z4 [2,3,1000000] (fun n f bm=>∃ az b7 a5 a0,a0=n∧Se N aa ab a0 b7 a5=some r∧St w0 (Zk col) az bm∧Zf 27 1 az bm a1 #[.string aa.1,.slice ap aa.2.1.length ah,.slice aq aa.2.2.1.length ai,.slice ar aa.2.2.2.1.length aj,.slice au aa.2.2.2.2.length ak]∧Zf 27 2 az bm a2 #[.string ab.1,.slice av ab.2.1.length al,.slice aw ab.2.2.1.length am,.slice ax ab.2.2.2.1.length an,.slice ay ab.2.2.2.2.length ao]∧[5,7].map f=[.bool b7,.int .i64 a5]) N ⟨_,_,0,_,rfl,hm,ac,ad,ae,rfl⟩ ?_;clear hm;intro n f bm hI;obtain ⟨az,b7,a5,a0,hn,hm,ac,ad,ae,hs⟩:=hI;subst hn;refine .lL [5,7] hs ?_
    cases a0 with
    | zero=>rw [Se.eq_1] at hm;cases hm
    | succ a0=>
     rw [Se.eq_2] at hm;refine go ?_;refine Xk ad ?_;refine go ?_;refine Zq hm (fun hb hm=>?_) fun hb hm=>go ?_
     ·refine Yl<|Z0 ?_;refine Wp.cutK [2,3,7,1000000] (fun f bn=>∃ bo b8,Znn a5 (Se N aa ab a0) b8=some r∧St w0 (Zk col) bo bn∧Zf 27 1 bo bn a1 #[.string aa.1,.slice ap aa.2.1.length ah,.slice aq aa.2.2.1.length ai,.slice ar aa.2.2.2.1.length aj,.slice au aa.2.2.2.2.length ak]∧Zf 27 2 bo bn a2 #[.string ab.1,.slice av ab.2.1.length al,.slice aw ab.2.2.1.length am,.slice ax ab.2.2.2.1.length an,.slice ay ab.2.2.2.2.length ao]∧[5].map f=[.bool b8]) ?_ ?_
      ·intro f bn hJ;obtain ⟨bo,b8,hm,ac,ad,ae,hs⟩:=hJ;rw [Znn.eq_1] at hm;refine .lL [5] hs<|go ?_;exact ⟨a0,by omega,rfl,⟨_,_,_,_,rfl,hm,ac,ad,ae,rfl⟩⟩
      refine Zef<|Z0 ?_;refine Wp.cutK [2,3,7,1000000] (fun f bp=>∃ bq b9,Zku N aa ab a5 (Se N aa ab a0) b9=some r∧St w0 (Zk col) bq bp∧Zf 27 1 bq bp a1 #[.string aa.1,.slice ap aa.2.1.length ah,.slice aq aa.2.2.1.length ai,.slice ar aa.2.2.2.1.length aj,.slice au aa.2.2.2.2.length ak]∧Zf 27 2 bq bp a2 #[.string ab.1,.slice av ab.2.1.length al,.slice aw ab.2.2.1.length am,.slice ax ab.2.2.2.1.length an,.slice ay ab.2.2.2.2.length ao]∧[5].map f=[.bool b9]) ?_ ?_
      ·intro f bp hJ;obtain ⟨bq,b9,hm,ac,ad,ae,hs⟩:=hJ;rw [Zku.eq_1] at hm;refine .lL [5] hs<|go ?_;refine Z4 [2,3,7,1000000] (fun n f br=>∃ bs bt ba a7,a7=n∧Zcc N aa ab a5 (Se N aa ab a0) a7 bt ba=some r∧St w0 (Zk col) bs br∧Zf 27 1 bs br a1 #[.string aa.1,.slice ap aa.2.1.length ah,.slice aq aa.2.2.1.length ai,.slice ar aa.2.2.2.1.length aj,.slice au aa.2.2.2.2.length ak]∧Zf 27 2 bs br a2 #[.string ab.1,.slice av ab.2.1.length al,.slice aw ab.2.2.1.length am,.slice ax ab.2.2.2.1.length an,.slice ay ab.2.2.2.2.length ao]∧[5,8].map f=[.bool bt,.int .i64 ba]) N ⟨_,_,0,_,rfl,hm,ac,ad,ae,rfl⟩ ?_;clear hm;intro n f br hI;obtain ⟨bs,bt,ba,a7,hn,hm,ac,ad,ae,hs⟩:=hI;subst hn;refine .lL [5,8] hs ?_
       cases a7 with
       | zero=>rw [Zcc.eq_1] at hm;cases hm
       | succ a7=>
        rw [Zcc.eq_2] at hm;refine Z0<|Z0 ?_;refine Wp.cutK [2,3,5,7,8,1000000] (fun f bu=>∃ af ca,Zie N aa ab a5 (Se N aa ab a0) bt ba (Zcc N aa ab a5 (Se N aa ab a0) a7) ca=some r∧St w0 (Zk col) af bu∧Zf 27 1 af bu a1 #[.string aa.1,.slice ap aa.2.1.length ah,.slice aq aa.2.2.1.length ai,.slice ar aa.2.2.2.1.length aj,.slice au aa.2.2.2.2.length ak]∧Zf 27 2 af bu a2 #[.string ab.1,.slice av ab.2.1.length al,.slice aw ab.2.2.1.length am,.slice ax ab.2.2.2.1.length an,.slice ay ab.2.2.2.2.length ao]∧[98].map f=[.bool ca]) ?_ ?_
        ·intro f bu hJ;obtain ⟨af,ca,hm,ac,ad,ae,hs⟩:=hJ;rw [Zie.eq_1] at hm;refine .lL [98] hs ?_;refine Zq hm (fun hb hm=>go ?_) fun hb hm=>go ?_
         ·refine V4 (col:=af) (by kernel_rfl) (by kernel_rfl)<|qF ⟨_,_,rfl⟩ ?_;refine qW (fun _ hC=>((ad.atN).nth (q:=4) rfl).gr (hC.bl af)) ?_;refine go ?_;obtain ⟨eo,cb,hm⟩:=bZ hm;refine qI cb ((a3.ks ac).addr cb) ?_;obtain ⟨_,c4,c5⟩:=(a3.ks ac).atN cb;obtain ⟨⟨ep,eq,rfl,cs⟩,_⟩:=c4;refine qW (fun _ hC=>c5.one.gr (hC.bl af)) ?_;refine go ?_;obtain ⟨cc,cd,hm⟩:=bZ hm;refine qI cd (cs.addr cd) ?_;obtain ⟨_,c6,c7⟩:=cs.atN cd;obtain ⟨_,_,rfl,c8,c9⟩:=Uw c6;obtain ⟨_,_,rfl,da,db⟩:=Uw c8;obtain ⟨rfl,_⟩:=da;obtain ⟨⟨dc,dd,rfl,de⟩,_⟩:=db;obtain ⟨⟨df,dg,rfl,dh⟩,_⟩:=c9;refine qv (v:=(.agg #[.bool cc.1.1,.slice dc cc.1.2.length dd,.slice df cc.2.length dg])) rfl (fun _ hC=>W4 isAgg39 sizeOf39 rfl rfl (c7.gr (hC.bl af))) ?_;refine qF ⟨_,_,rfl⟩ ?_;refine qW (fun _ hC=>((ae.atN).nth (q:=4) rfl).gr (hC.bl af)) ?_;refine go ?_;obtain ⟨er,ce,hm⟩:=bZ hm;refine qI ce ((a8.ks ac).addr ce) ?_;obtain ⟨_,di,dj⟩:=(a8.ks ac).atN ce;obtain ⟨⟨es,et,rfl,ct⟩,_⟩:=di;refine qW (fun _ hC=>dj.one.gr (hC.bl af)) ?_;refine go ?_;obtain ⟨cf,cg,hm⟩:=bZ hm;refine qI cg (ct.addr cg) ?_;obtain ⟨_,dl,dm⟩:=ct.atN cg;obtain ⟨_,_,rfl,dn,dp⟩:=Uw dl;obtain ⟨_,_,rfl,dq,dr⟩:=Uw dn;obtain ⟨rfl,_⟩:=dq;obtain ⟨⟨ds,dt,rfl,du⟩,_⟩:=dr;obtain ⟨⟨dv,dw,rfl,dx⟩,_⟩:=dp;refine qv (v:=(.agg #[.bool cf.1.1,.slice ds cf.1.2.length dt,.slice dv cf.2.length dw])) rfl (fun _ hC=>W4 isAgg39 sizeOf39 rfl rfl (dm.gr (hC.bl af))) ?_;obtain ⟨dy,dz,hm⟩:=bZ hm;refine qc (v:=(.int .i64 dy)) rfl (fun _ hC=>⟨_,_,Zlh call115 rfl rfl,(Z4k dz (de.gr (hC.bl af)) (dh.gr (hC.bl af)) (du.gr (hC.bl af)) (dx.gr (hC.bl af)):).mono fun _ _ h=>⟨h.1,hC.trans (.of_below h.2)⟩⟩) ?_;refine go ?_;refine Vc ?_;intro eu hC;replace hC:=hC.bl af;refine go ?_;replace ad:=ad.gr hC;replace ae:=ae.gr hC;replace ac:=ac.grow hC;exact ⟨a7,by omega,rfl,⟨_,_,_,_,rfl,hm,ac,ad,ae,rfl⟩⟩
         exact ⟨rfl,_,_,hm,ac,ad,ae,rfl⟩
        refine go ?_;refine Yt hm (fun ch hm=>go ?_) fun ch hm=>go ?_
        ·refine Yk ⟨_,_,rfl⟩ ?_;refine go ?_;refine lW ((ad.atN).nth (q:=4) rfl)<|go ?_;obtain ⟨d0,ci,hm⟩:=bZ hm;refine lI ci ((a3.ks ac).addr ci) ?_;refine go ?_;obtain ⟨_,d1,d2⟩:=(a3.ks ac).atN ci;obtain ⟨⟨ew,ey,rfl,ez⟩,_⟩:=d1;refine lW d2.one<|go ?_;refine lV (.bool (decide (ba<(d0.length:Int)))) (Yf (congrArg Value.bool ch) rfl)<|Zl ?_;exact ⟨rfl,_,_,hm,ac,ad,ae,rfl⟩
        refine lV (.bool false) (X8 (congrArg Value.bool ch) rfl)<|Zl ?_;exact ⟨rfl,_,_,hm,ac,ad,ae,rfl⟩
      refine V4 (col:=az) (by kernel_rfl) (by kernel_rfl)<|go ?_;refine Yt hm (fun cj hm=>go ?_) fun cj hm=>go ?_
      ·refine qF ⟨_,_,rfl⟩ ?_;refine go ?_;refine qW (fun _ hC=>((ad.atN).nth (q:=4) rfl).gr (hC.bl az)) ?_;refine go ?_;obtain ⟨d3,ck,hm⟩:=bZ hm;refine qI ck ((a3.ks ac).addr ck) ?_;refine go ?_;obtain ⟨_,d4,d5⟩:=(a3.ks ac).atN ck;obtain ⟨⟨e0,e1,rfl,e2⟩,_⟩:=d4;refine qW (fun _ hC=>d5.one.gr (hC.bl az)) ?_;refine go ?_;refine qF ⟨_,_,rfl⟩ ?_;refine go ?_;refine qW (fun _ hC=>((ae.atN).nth (q:=4) rfl).gr (hC.bl az)) ?_;refine go ?_;obtain ⟨d6,cl,hm⟩:=bZ hm;refine qI cl ((a8.ks ac).addr cl) ?_;refine go ?_;obtain ⟨_,d7,d8⟩:=(a8.ks ac).atN cl;obtain ⟨⟨e3,e4,rfl,e5⟩,_⟩:=d7;refine qW (fun _ hC=>d8.one.gr (hC.bl az)) ?_;refine go ?_;refine qv (v:=(.bool (decide ((d3.length:Int)=(d6.length:Int))))) rfl (fun _ hC=>Yf (congrArg Value.bool cj) rfl) ?_;refine go ?_;refine Vc ?_;intro e6 hC;replace hC:=hC.bl az;replace ad:=ad.gr hC;replace ae:=ae.gr hC;replace ac:=ac.grow hC;exact ⟨rfl,_,_,hm,ac,ad,ae,rfl⟩
      refine qv (v:=(.bool false)) rfl (fun _ hC=>X8 (congrArg Value.bool cj) rfl) ?_;refine go ?_;refine Vc ?_;intro e7 hC;replace hC:=hC.bl az;replace ad:=ad.gr hC;replace ae:=ae.gr hC;replace ac:=ac.grow hC;exact ⟨rfl,_,_,hm,ac,ad,ae,rfl⟩
     cases hm;exact ⟨rfl,rfl,ac.below⟩
  refine Vd<|Xk ad<|Xk ae ?_;obtain ⟨e8,d9,hm⟩:=bZ hm;refine Zj (Zue d9 (bv.ks ac) (bx.ks ac)) ?_;rintro _ cu ⟨rfl,bb⟩;refine ⟨_,rfl,?_⟩;replace bb:Zh a4 a9 a4 cu:=.of_below bb;refine Ts rfl ?_;replace ad:=ad.gr bb;replace ae:=ae.gr bb;replace ac:=ac.grow bb;refine Yt hm (fun cn hm=>go ?_) fun cn hm=>go ?_
  ·refine Yk ⟨_,_,rfl⟩ ?_;refine go ?_;refine lW ((ad.atN).nth (q:=3) rfl)<|go ?_;refine Yk ⟨_,_,rfl⟩ ?_;refine go ?_;refine lW ((ae.atN).nth (q:=3) rfl)<|go ?_;obtain ⟨ea,eb,hm⟩:=bZ hm;refine Zj (Z4s eb (bw.ks ac) (bz.ks ac)) ?_;rintro _ ec ⟨rfl,bc⟩;refine ⟨_,rfl,?_⟩;replace bc:Zh a4 cu a4 ec:=.of_below bc;refine lV (.bool ea) (Yf (congrArg Value.bool cn) rfl)<|go ?_;replace ad:=ad.gr bc;replace ae:=ae.gr bc;replace ac:=ac.grow bc;exact ⟨rfl,_,_,hm,ac,ad,ae,rfl⟩
  refine lV (.bool false) (X8 (congrArg Value.bool cn) rfl)<|go ?_;exact ⟨rfl,_,_,hm,ac,ad,ae,rfl⟩
 refine Vd<|Xk ad<|Xk ae ?_;refine go ?_;refine Yt hm (fun co hm=>go ?_) fun co hm=>go ?_
 ·refine lV (.bool true) (Yf (congrArg Value.bool co) rfl)<|Ts rfl<|lP 23 rfl rfl<|lP 23 rfl rfl<|lP 23 rfl rfl<|lP 23 rfl rfl<|lP 23 rfl rfl<|lP 23 rfl rfl<|lP 23 rfl rfl<|lV (.bool true) (Yf rfl rfl)<|Zl ?_;exact ⟨rfl,_,_,hm,ac,ad,ae,rfl⟩
 refine Yk ⟨_,_,rfl⟩ ?_;refine go ?_;refine lW ((ad.atN).nth (q:=2) rfl)<|go ?_;refine Yk ⟨_,_,rfl⟩ ?_;refine go ?_;refine lW ((ae.atN).nth (q:=2) rfl)<|go ?_;refine lV (.bool (!decide ((aa.2.2.1.length:Int)=(ab.2.2.1.length:Int)))) (X8 (congrArg Value.bool co) rfl)<|Ts rfl ?_;refine Yt hm (fun cp hm=>go ?_) fun cp hm=>go ?_
 ·refine lV (.bool true) (Yf (congrArg Value.bool cp) rfl)<|Zl ?_;exact ⟨rfl,_,_,hm,ac,ad,ae,rfl⟩
 refine Yk ⟨_,_,rfl⟩ ?_;refine go ?_;refine lW ((ad.atN).nth (q:=4) rfl)<|go ?_;refine Yk ⟨_,_,rfl⟩ ?_;refine go ?_;refine lW ((ae.atN).nth (q:=4) rfl)<|go ?_;refine lV (.bool (!decide ((aa.2.2.2.2.length:Int)=(ab.2.2.2.2.length:Int)))) (X8 (congrArg Value.bool cp) rfl)<|Zl ?_;exact ⟨rfl,_,_,hm,ac,ad,ae,rfl⟩
section
variable {N:Nat} {n:Zp} (hb:Zf9 n) (hN:1099511627777<N)
include hb hN
omit hN in
theorem Z2n {i:Nat} (hi:i<n.2.2.2.2.length) (m1:ByteArray) (m2:List ByteArray) (m3:List R3) (m4:List R2) (m5:List (List QV)) (h5:m5.length≤1048576) (kk:ByteArray→List ByteArray→List R3→List R2→List (List QV)→Int→Option Zp):∀ (f k:Nat),k≤n.2.2.2.2[i].length→n.2.2.2.2[i].length<f+k→Zfs N n m1 m2 m3 m4 m5 (i:Int) kk f (k:Int) (n.2.2.2.2[i].take k)=kk m1 m2 m3 m4 (m5++[n.2.2.2.2[i]]) ((i+1:Nat):Int)
 | 0,k,b,c=>by omega
 | f+1,k,b,c=>by
  have d:=hb.tn
  have e:=hb.tl _ (aG hi)
  rw [Zfs.eq_2,Z1 hi,oB]
  by_cases hk:k<n.2.2.2.2[i].length
  ·have j:=hb.tm _ (aG hi) _ (aG hk)
   have a:=Z2n hi m1 m2 m3 m4 m5 h5 kk f (k+1) (by omega) (by omega)
   have g:(n.2.2.2.2[i].take k).length≤1048576:=by rw [nK];omega
   rw [cA hk] at a
   rw [if_pos (dT (by omega)),Z1 hk,oB,Z6 (by simp only [nN,maxLen];omega),Z6 (by simp only [nN,maxLen];omega),Z6 (by simp only [aL,maxLen];omega),aV,aV,wS (by omega)]
   exact a
  ·rw [if_neg (dF (by omega)),bP (by omega),Z6 (by simp only [aL,maxLen];omega),wS (by omega)]
theorem Z2m:∀ (f i:Nat),i≤n.2.2.2.2.length→n.2.2.2.2.length<f+i→Zcf N n f n.1 n.2.1 n.2.2.1 n.2.2.2.1 (n.2.2.2.2.take i) (i:Int)=some n
 | 0,i,b,c=>by omega
 | f+1,i,b,c=>by
  have d:=hb.tn
  rw [Zcf.eq_2]
  by_cases hi:i<n.2.2.2.2.length
  ·have e:=hb.tl _ (aG hi)
   have a:=Z2n (N:=N) hb hi n.1 n.2.1 n.2.2.1 n.2.2.2.1 (n.2.2.2.2.take i) (by rw [nK];omega) (Zcf N n f) N 0 (bK _) (by omega)
   rw [eX,← cA hi] at a
   rw [if_pos (dT (by omega))]
   exact a.trans (Z2m f (i+1) (by omega) (by omega))
  ·rw [if_neg (dF (by omega)),bP (by omega)]
theorem Z2l:∀ (f i:Nat),i≤n.2.2.2.1.length→n.2.2.2.1.length<f+i→Zfr N n f n.1 n.2.1 n.2.2.1 (n.2.2.2.1.take i) [] (i:Int)=some n
 | 0,i,b,c=>by omega
 | f+1,i,b,c=>by
  have d:=hb.pn
  rw [Zfr.eq_2]
  by_cases hi:i<n.2.2.2.1.length
  ·have e:=hb.pl _ (aG hi)
   have a:=Z2l f (i+1) (by omega) (by omega)
   rw [cA hi] at a
   rw [if_pos (dT (by omega)),Z1 hi,oB,Z6 (by simp only [nN,maxLen];omega),Z6 (by simp only [nK,aL,maxLen];omega),aV,wS (by omega)]
   exact a
  ·have g:=hb.tn
   rw [if_neg (dF (by omega)),bP (by omega)]
   exact Z2m hb hN N 0 (bK _) (by omega)
theorem Z2k:∀ (f i:Nat),i≤n.2.2.1.length→n.2.2.1.length<f+i→Zfq N n f n.1 n.2.1 (n.2.2.1.take i) [] [] (i:Int)=some n
 | 0,i,b,c=>by omega
 | f+1,i,b,c=>by
  have d:=hb.vn
  rw [Zfq.eq_2]
  by_cases hi:i<n.2.2.1.length
  ·have e:=hb.vl _ (aG hi)
   have a:=Z2k f (i+1) (by omega) (by omega)
   rw [cA hi] at a
   rw [if_pos (dT (by omega)),Z1 hi,oB,Z6 (by simp only [nN,maxLen];omega),Z6 (by simp only [nK,aL,maxLen];omega),aV,wS (by omega)]
   exact a
  ·have g:=hb.pn
   rw [if_neg (dF (by omega)),bP (by omega)]
   exact Z2l hb hN N 0 (bK _) (by omega)
theorem Xa0:Zii N n=some n:=by
 have a:=hb.nm;have b:=hb.vn
 rw [Zii,Z6 (by simp only [nN,maxLen];omega),aV]
 exact Z2k hb hN N 0 (bK _) (by omega)
omit hb in
theorem Z1n {l:List ByteArray} (hl:l.length≤1048576):Zh9 N l l=some true:=by
 have L:∀ (f i:Nat),i≤l.length→l.length<f+i→Zfl N l l f (i:Int)=some true:=by
  intro f
  induction f with
  | zero=>intro i a b;omega
  | succ f c=>
   intro i a b
   rw [Zfl.eq_2]
   by_cases hi:i<l.length
   ·rw [if_pos (dT (by omega)),Z1 hi,oB,oB,if_neg (by rw [decide_eq_true rfl];decide),wS (by omega)]
    exact c (i+1) (by omega) (by omega)
   ·rw [if_neg (dF (by omega))]
 rw [Zh9,if_neg (by rw [decide_eq_true rfl];decide)]
 exact L N 0 (bK _) (by omega)
omit hb in
theorem Z91 {l:List Int} (hl:l.length≤1048576):Zkk N l l=some true:=by
 have L:∀ (f i:Nat),i≤l.length→l.length<f+i→Zfm N l l f (i:Int)=some true:=by
  intro f
  induction f with
  | zero=>intro i a b;omega
  | succ f c=>
   intro i a b
   rw [Zfm.eq_2]
   by_cases hi:i<l.length
   ·rw [if_pos (dT (by omega)),Z1 hi,oB,oB,if_neg (by rw [decide_eq_true rfl];decide),wS (by omega)]
    exact c (i+1) (by omega) (by omega)
   ·rw [if_neg (dF (by omega))]
 rw [Zkk,if_neg (by rw [decide_eq_true rfl];decide)]
 exact L N 0 (bK _) (by omega)
omit hb in
theorem Z7k {P:List R2} (hP:P.length≤1048576) (hl:∀ l ∈ P,l.length≤1048576):Zkx N P P=some true:=by
 have L:∀ (f i:Nat),i≤P.length→P.length<f+i→Zft N P P f (i:Int)=some true:=by
  intro f
  induction f with
  | zero=>intro i a b;omega
  | succ f c=>
   intro i a b
   rw [Zft.eq_2]
   by_cases hi:i<P.length
   ·rw [if_pos (dT (by omega)),Z1 hi,oB,oB,Z91 hN (hl _ (aG hi)),oB,if_neg (by decide),wS (by omega)]
    exact c (i+1) (by omega) (by omega)
   ·rw [if_neg (dF (by omega))]
 rw [Zkx,if_neg (by rw [decide_eq_true rfl];decide)]
 exact L N 0 (bK _) (by omega)
variable (hlim:∀ t ∈ n.2.2.2.2,∀ x ∈ t,Vx x) (hr:Z9 N 8388608)
include hlim hr
omit hN in
theorem Z06 {i:Nat} (hi:i<n.2.2.2.2.length) (kk:Bool→Int→Option Bool):∀ (f k:Nat),k≤n.2.2.2.2[i].length→n.2.2.2.2[i].length<f+k→Zcc N n n (i:Int) kk f true (k:Int)=kk true ((i+1:Nat):Int)
 | 0,k,c,d=>by omega
 | f+1,k,c,d=>by
  have g:=hb.tn
  have j:=hb.tl _ (aG hi)
  rw [Zcc.eq_2,if_pos rfl,Z1 hi,oB]
  by_cases hk:k<n.2.2.2.2[i].length
  ·have l:=hb.tm _ (aG hi) _ (aG hk)
   have a:=hlim _ (aG hi) _ (aG hk)
   have e:=Z06 hi kk f (k+1) (by omega) (by omega)
   have cm:=Z9p (N:=N) (Zcm a.1 a.2) (Zcm a.1 a.2) (hr.mono (by omega))
   have z:Tf (Zr n.2.2.2.2[i][k]) (Zr n.2.2.2.2[i][k])=0:=by rw [Tf,if_neg dO,if_neg dO]
   rw [z] at cm
   have b:Zh6 N ((n.2.2.2.2[i][k].1.1,n.2.2.2.2[i][k].1.2),n.2.2.2.2[i][k].2) ((n.2.2.2.2[i][k].1.1,n.2.2.2.2[i][k].1.2),n.2.2.2.2[i][k].2)=some 0:=cm
   rw [decide_eq_true (by omega),Zie,if_pos rfl,Z1 hi,oB,Z1 hk,oB,oB,Z1 hk,oB,b,oB,wS (by omega)]
   exact e
  ·rw [decide_eq_false (by omega),Zie,if_neg (by decide),Znn,wS (by omega)]
theorem Z05:∀ (f i:Nat),i≤n.2.2.2.2.length→n.2.2.2.2.length<f+i→Se N n n f true (i:Int)=some true
 | 0,i,a,b=>by omega
 | f+1,i,a,b=>by
  have c:=hb.tn
  rw [Se.eq_2]
  by_cases hi:i<n.2.2.2.2.length
  ·have d:=hb.tl _ (aG hi)
   rw [if_pos (dT (by omega)),if_pos rfl,Z1 hi,oB,oB,decide_eq_true rfl,Zku]
   exact (Z06 hb hlim hr hi (Se N n n f) N 0 (bK _) (by omega)).trans (Z05 f (i+1) (by omega) (by omega))
  ·rw [if_neg (dF (by omega))]
theorem Z04:∀ (f i:Nat),i≤n.2.2.1.length→n.2.2.1.length<f+i→Zcb N n n f true (i:Int)=some true
 | 0,i,b,c=>by omega
 | f+1,i,b,c=>by
  have d:=hb.vn
  rw [Zcb.eq_2]
  by_cases hi:i<n.2.2.1.length
  ·have a:=hb.vl _ (aG hi)
   rw [if_pos (dT (by omega)),if_pos rfl,Z1 hi,oB,oB,Z1n hN a,oB,Zkt,wS (by omega)]
   exact Z04 f (i+1) (by omega) (by omega)
  ·have e:=hb.tn
   rw [if_neg (dF (by omega))]
   exact Z05 hb hN hlim hr N 0 (bK _) (by omega)
theorem Z92:Zdy N n n=some true:=by
 have d:=hb.vn
 have a:=Z1n (N:=N) hN hb.nm
 have b:=Z7k (N:=N) hN hb.pn hb.pl
 have c:=Z04 hb hN hlim hr N 0 (bK _) (by omega)
 rw [Zdy,if_neg (by rw [decide_eq_true rfl];decide),if_neg (by rw [decide_eq_true rfl];decide),decide_eq_true rfl,Zid,if_neg (by decide),a,oB,if_pos rfl,b,oB,Zks]
 exact c
end
def Zjr (N:Nat) (ab:Int) (ac:Int):Option R1:=
  (Zbt N ab ac).bind fun aa=>some ((aa.1.1.1,aa.1.1.2),aa.1.2)
theorem Zpn {N:Nat} {col:Ze} {w0:World} {ai aj:Int} {r:R1} (c1 c2:Nat) (hm:Zjr N ai aj=some r):
    Calls prog 24 #[.int .i64 ai,.int .i64 aj] w0 (fun e w'=>∃ (col':Ze) (ra1:Option Addr) (rc2:Nat) (ra4:Option Addr) (rc5:Nat),e= .returned ((.agg #[.bool r.1.1,.slice ra1 r.1.2.length rc2,.slice ra4 r.2.length rc5]))∧Zh col w0 col' w'∧Zb (Za.int .u32) 95 c1 col' w' ra1 rc2 r.1.2∧Zb (Za.int .u32) 95 c2 col' w' ra4 rc5 r.2):=by
 refine Wq (m:=14) func24 rfl rfl rfl ?_;rw [Zjr.eq_1] at hm;have ab:=St.start col w0;refine go ?_;refine Xr (col:=(Zk col)) #[.bool false,.slice none (([]:List Int).length) 0,.slice none (([]:List Int).length) 0] 1 zeroValue39 ?_;intro a0 a1 ap aq ae;refine go ?_;obtain ⟨aa,ar,hm⟩:=bZ hm;refine Zj (Zl8 (col:=ap) 2 3 ar) ?_;rintro _ a2 ⟨au,ak,al,am,an,rfl,ao,af,ag⟩;refine ⟨_,rfl,?_⟩;refine lM (.tuple #[(.agg #[.bool aa.1.1.1,.slice ak aa.1.1.2.length al,.slice am aa.1.2.length an]),.int .i64 aa.2])<|lV (.agg #[.bool aa.1.1.1,.slice ak aa.1.1.2.length al,.slice am aa.1.2.length an]) (Xx rfl rfl)<|lV (.int .i64 aa.2) (Xx rfl rfl)<|Xr (col:=au) #[.bool false,.slice none (([]:List Int).length) 0,.slice none (([]:List Int).length) 0] 4 zeroValue39 ?_;intro a3 a4 a5 ac av;refine Z5 av ?_;intro a6 ad aw ax;refine go ?_;refine lV _ (Xd isAgg39 sizeOf39 ax) ?_;replace ae:=((ae.gr ao).gr ac).kp ad;refine Z5 ae ?_;intro a7 ah ay az;refine go ?_;cases hm;replace ab:=((((ab.grow aq).grow ao).grow ac).kp ad aw).kp ah ay;replace af:=((af.gr ac).kp ad).kp ah;replace ag:=((ag.gr ac).kp ad).kp ah;exact ⟨rfl,_,ra az.atN,_,_,_,_,_,rfl,ab.fin (cm [(2,c1),(3,c2)]),ab.fo af,ab.fo ag⟩
theorem Zf2 (a:QV) (l:List QV):Yu (a :: l)=Zr a+Yu l:=by rw [Yu,aQ,List.sum_cons,Yu]
def Sj (s:Int) (l:List Int):List QV:=l.map fun w:Int=>Zo ((w:Rat) / (s:Rat))
theorem Zsj (s:Int):∀ l:List Int,(∀ x ∈ l,0≤x)→Yu (Sj s l)=((Xa l:Nat):Rat) / (s:Rat)
 | [],_=>by rw [Xa,bS];show (0:Rat)=0 * _;rw [dC]
 | x :: l,h=>by
  have c:=h x aC
  have a:=Zsj s l fun y b=>h y (aB _ b)
  obtain ⟨d,rfl⟩:∃ d:Nat,x=(d:Int):=⟨x.toNat,by omega⟩
  rw [Sj] at a
  rw [Sj,aQ,Zf2,Wt,a,Xa,aD,hH,bS,bS,bS,gM]
  rfl
theorem Zss:∀ a b:List Int,Xa (a++b)=Xa a+Xa b
 | [],b=>by rw [aV,Xa,Nat.zero_add]
 | x :: a,b=>by rw [bY,Xa,Xa,Zss a b,dW]
theorem Zst:∀ {l:List Int} {x:Int},x ∈ l→x.toNat≤Xa l
 | y :: l,x,h=>by
  rw [Xa]
  rcases aP.1 h with rfl | h
  ·omega
  ·have:=Zst h;omega
structure Z23 (l:List QV):Prop where
 ent:∀ x ∈ l,0≤Zr x∧Zr x≤1∧RV 1 x
 sum:Yu l=1
theorem Z9v {s:Int} {l:List Int} (hl:∀ x ∈ l,0≤x) (hs:(Xa l:Int)=s) (h1:1≤s) (h2:s≤4294967295):Z23 (Sj s l) where
 ent:=fun x hx=>by
  obtain ⟨w,hw,rfl⟩:=bO.1 hx
  have h3:=hl w hw
  have h4:=Zst hw
  obtain ⟨d,rfl⟩:∃ d:Nat,w=(d:Int):=⟨w.toNat,by omega⟩
  obtain ⟨t,rfl⟩:∃ t:Nat,s=(t:Int):=⟨s.toNat,by omega⟩
  have e:(((d:Int):Rat) / ((t:Int):Rat))=mkRat (d:Int) t:=(Rat.mkRat_eq_div _ _).symm
  rw [e,Wt]
  refine ⟨?_,?_,Vo (Zd7 (W0.2 (by simp;omega)) (W0.2 (by simp;omega)) (Nat.le_refl _))⟩
  ·rw [← fI,show (0:Rat)=mkRat 0 1 from rfl,Zci (by omega) (by decide)];omega
  ·rw [← fI,show (1:Rat)=mkRat 1 1 from rfl,Zci (by decide) (by omega)];omega
 sum:=by
  rw [Zsj s l hl]
  have e:((Xa l:Nat):Rat)=(s:Rat):=by rw [← hs];rfl
  rw [e,bS]
  exact cN _ (by intro h;have:=Rat.intCast_inj.1 (show ((s:Int):Rat)=((0:Int):Rat) from h);omega)
def Zrl (c:List Int):List Int:=c.map (· +1)
theorem Xar:∀ c:List Int,(∀ x ∈ c,0≤x)→Xa (Zrl c)=Xa c+c.length
 | [],_=>rfl
 | x :: c,h=>by
  have d:=h x aC
  have a:=Xar c fun y b=>h y (aB _ b)
  rw [Zrl] at a
  rw [Zrl,aQ,Xa,Xa,a,nC];omega
theorem Zzd:∀ l:List Int,(∀ x ∈ l,0≤x)→Yu (l.map fun y:Int=>Zo (y:Rat))=((Xa l:Nat):Rat)
 | [],_=>rfl
 | x :: l,h=>by
  have c:=h x aC
  have a:=Zzd l fun y b=>h y (aB _ b)
  obtain ⟨d,rfl⟩:∃ d:Nat,x=(d:Int):=⟨x.toNat,by omega⟩
  rw [aQ,Zf2,Wt,a,Xa,aD,hH];rfl
theorem Zio (M:Rat) (c:List Int) (k:Nat):(Yj M c).take k=Yj M (c.take k):=by rw [Yj,Yj,iE]
theorem Zin (M:Rat) (c:List Int) (k:Nat):(Yj M c).drop k=Yj M (c.drop k):=by rw [Yj,Yj,iF]
def Wk:List Rat→Rat
 | []=>1
 | x :: l=>x * Wk l
def Xq:List Rat→Rat
 | []=>0
 | x :: l=>x+Xq l
theorem Zy0 {l r:List Rat} (h:l.Perm r):Wk l=Wk r:=by
 induction h with
 | nil=>rfl
 | cons x _ c=>rw [Wk,Wk,c]
 | swap x y l=>simp only [Wk];grind
 | trans _ _ a b=>exact a.trans b
theorem Z1y {l r:List Rat} (h:l.Perm r):Xq l=Xq r:=by
 induction h with
 | nil=>rfl
 | cons x _ c=>rw [Xq,Xq,c]
 | swap x y l=>simp only [Xq];grind
 | trans _ _ a b=>exact a.trans b
theorem Zyz:∀ l:List Rat,(∀ x ∈ l,0≤x)→0≤Wk l
 | [],_=>by rw [Wk];decide
 | x :: l,h=>bV (h x aC) (Zyz l fun y a=>h y (aB _ a))
theorem Zgj (n:Nat):((n+1:Nat):Rat)=(n:Rat)+1:=by rw [hH];rfl
theorem Zti:∀ l:List Rat,(∀ x ∈ l,1<x)→(l.length:Rat)≤Xq l
 | [],_=>by simp only [Xq,nN];decide
 | x :: l,h=>by
  have b:=h x aC
  have c:=Zti l fun y a=>h y (aB _ a)
  rw [nC,Zgj,Xq]
  grind
theorem Ztj:∀ l:List Rat,(∀ x ∈ l,x<1)→Xq l≤(l.length:Rat)
 | [],_=>by simp only [Xq,nN];decide
 | x :: l,h=>by
  have b:=h x aC
  have c:=Ztj l fun y a=>h y (aB _ a)
  rw [nC,Zgj,Xq]
  grind
theorem Ztk:∀ (n:Nat) (l:List Rat),l.length=n→(∀ x ∈ l,0≤x)→Xq l=(n:Rat)→Wk l≤1
 | 0,[],_,_,_=>by rw [Wk];exact cS
 | 1,[x],_,_,b=>by
  have:x=1:=by
   simp only [Xq] at b
   rw [gY] at b
   exact b
  rw [this,Wk,Wk,bR];exact cS
 | n+2,l,m,r,b=>by
  -- one of at most 1
  have o:∃ x ∈ l,x≤1:=by
   by_cases h:∃ x ∈ l,x≤1
   ·exact h
   ·exfalso
    have c:∀ x ∈ l,1<x:=fun x o=>gB.1 fun d=>h ⟨x,o,d⟩
    cases l with
    | nil=>simp at m
    | cons y t=>
     have J:=c y aC
     have p:=Zti t fun z a=>c z (aB _ a)
     rw [nC] at m
     have f:t.length=n+1:=by omega
     rw [f] at p
     rw [Xq,show ((n+2:Nat):Rat)=((n+1:Nat):Rat)+1 from Zgj (n+1)] at b
     grind
  obtain ⟨x,g,L⟩:=o
  have s:=jV g
  have i:(l.erase x).length=n+1:=by rw [jC g,m];rfl
  have v:=Z1y s
  have M:=r x g
  have w:∀ z ∈ l.erase x,0≤z:=fun z a=>r z (jR a)
  have A:=Zy0 s
  rw [A,Wk]
  rw [v,Xq,show ((n+2:Nat):Rat)=((n+1:Nat):Rat)+1 from Zgj (n+1)] at b
  generalize l.erase x=t at *
  -- one of at least 1
  have q:∃ y ∈ t,1≤y:=by
   by_cases h:∃ y ∈ t,1≤y
   ·exact h
   ·exfalso
    have c:∀ y ∈ t,y<1:=fun y q=>gB.1 fun d=>h ⟨y,q,d⟩
    cases t with
    | nil=>simp at i
    | cons y t=>
     have J:=c y aC
     have p:=Ztj t fun z a=>c z (aB _ a)
     rw [nC] at i
     have f:t.length=n:=by omega
     rw [f] at p
     rw [Xq,Zgj] at b
     grind
  obtain ⟨y,j,N⟩:=q
  have B:=jV j
  have C:(t.erase y).length=n:=by rw [jC j,i];rfl
  have D:=Z1y B
  have E:=Zy0 B
  have k:∀ z ∈ t.erase y,0≤z:=fun z a=>w z (jR a)
  rw [E,Wk]
  rw [D,Xq] at b
  generalize t.erase y=u at *
  have F:0≤x+y - 1:=by grind
  have G:=Ztk (n+1) ((x+y - 1) :: u) (by rw [nC,C]) (fun z a=>by
   rcases aP.1 a with rfl | a
   ·exact F
   ·exact k z a) (by rw [Xq];grind)
  rw [Wk] at G
  have K:=Zyz u k
  have O:0≤(1 - x) * (y - 1):=bV (by grind) (by grind)
  have H:x * y≤x+y - 1:=by grind
  have I:=cD H K
  have e:x * (y * Wk u)=x * y * Wk u:=(bH _ _ _).symm
  rw [e]
  exact eO I G
theorem Zqo {a:Rat} (h:0≤a):0≤a⁻¹:=by
 by_cases h0:a=0
 ·rw [h0,Rat.inv_zero];exact cS
 ·by_cases hn:a⁻¹<0
  ·exfalso
   have b:=fF (Rat.le_of_lt hn) h
   rw [cN _ h0,Rat.mul_zero] at b
   exact absurd b (by decide)
  ·exact fI.1 hn
/-! powers -/
def Zw (q:Rat):Nat→Rat
 | 0=>1
 | n+1=>Zw q n * q
theorem Qv {q:Rat} (h:0≤q):∀ n,0≤Zw q n
 | 0=>by rw [Zw];decide
 | n+1=>bV (Qv h n) h
theorem Zlf {q:Rat} (h:0<q):∀ n,0<Zw q n
 | 0=>by rw [Zw];decide
 | n+1=>Rat.mul_pos (Zlf h n) h
theorem Zah (a b:Rat):∀ n,Zw (a * b) n=Zw a n * Zw b n
 | 0=>by rw [Zw,Zw,Zw,bR]
 | n+1=>by rw [Zw,Zw,Zw,Zah a b n];grind
theorem Zle:∀ n,Zw 1 n=1
 | 0=>rfl
 | n+1=>by rw [Zw,Zle n,bR]
theorem Zrr (q:Rat) (m:Nat):∀ n,Zw q (m+n)=Zw q m * Zw q n
 | 0=>by rw [Zw,bQ,bR]
 | n+1=>by rw [← dW,Zw,Zrr q m n,Zw,bH]
theorem Zrs {a b:Rat} (ha:0≤a) (h:a≤b):∀ n,Zw a n≤Zw b n
 | 0=>cS
 | n+1=>by
  rw [Zw,Zw]
  exact eO (cD (Zrs ha h n) ha) (fF h (Qv (eO ha h) n))
theorem Zyy (k:Rat):∀ l:List Rat,Wk (l.map (· * k))=Wk l * Zw k l.length
 | []=>by rw [bN,Wk,nN,Zw,bR]
 | x :: l=>by rw [aQ,Wk,Zyy k l,Wk,nC,Zw];grind
theorem Z1x (k:Rat):∀ l:List Rat,Xq (l.map (· * k))=Xq l * k
 | []=>by rw [bN,Xq,dC]
 | x :: l=>by rw [aQ,Xq,Z1x k l,Xq,gM]
theorem Zsw:∀ l:List Rat,(∀ x ∈ l,0≤x)→0≤Xq l
 | [],_=>by rw [Xq];decide
 | x :: l,h=>jJ (h x aC) (Zsw l fun y a=>h y (aB _ a))
theorem Z10:∀ l:List Rat,(∀ x ∈ l,0≤x)→Xq l=0→∀ x ∈ l,x=0
 | y :: l,h,hs,x,a=>by
  have c:=h y aC
  have d:=Zsw l fun z b=>h z (aB _ b)
  rw [Xq] at hs
  rcases aP.1 a with rfl | a
  ·grind
  ·exact Z10 l (fun z b=>h z (aB _ b)) (by grind) x a
theorem amgm (l:List Rat) (h:∀ x ∈ l,0≤x):Wk l * Zw (l.length:Rat) l.length≤Zw (Xq l) l.length:=by
 by_cases hs:Xq l=0
 ·cases l with
  | nil=>simp only [Wk,nN,Zw,bR];exact cS
  | cons x t=>
   have b:=Z10 _ h hs x aC
   rw [Wk,hs,b,dC,dC]
   exact Qv (cS (a:=0)) _
 ·have c:=Zsw l h
  have i:0<Xq l:=by
   rcases Rat.le_iff_lt_or_eq.1 c with h | h
   ·exact h
   ·exact absurd h.symm hs
  have d:0≤(Xq l)⁻¹:=Zqo c
  have e:(0:Rat)≤(l.length:Rat):=by
   have:((0:Nat):Rat)≤(l.length:Rat):=gQ.2 (bK _)
   exact this
  have j:0≤(l.length:Rat) * (Xq l)⁻¹:=bV e d
  have f:=Ztk l.length (l.map (· * ((l.length:Rat) * (Xq l)⁻¹))) (aI ..) (fun z k=>by
   obtain ⟨x,b,rfl⟩:=bO.1 k
   exact bV (h x b) j) (by
   rw [Z1x,iN (l.length:Rat),← bH,cN _ hs,cZ])
  rw [Zyy,Zah,← bH] at f
  have g:=cD f (Qv c l.length)
  rw [cZ,bH,← Zah,iG _ hs,Zle,bR] at g
  exact g
/-! weights -/
def Wh:List (Nat×Rat)→Nat
 | []=>0
 | p :: l=>p.1+Wh l
def U6:List (Nat×Rat)→Rat
 | []=>0
 | p :: l=>(p.1:Rat) * p.2+U6 l
def Vh:List (Nat×Rat)→Rat
 | []=>1
 | p :: l=>Zw p.2 p.1 * Vh l
def Zau:List (Nat×Rat)→List Rat
 | []=>[]
 | p :: l=>aM p.1 p.2++Zau l
theorem Zvv:∀ l,(Zau l).length=Wh l
 | []=>rfl
 | p :: l=>by rw [Zau,Wh,nA,bD,Zvv l]
theorem Zyx:∀ a b:List Rat,Wk (a++b)=Wk a * Wk b
 | [],b=>by rw [aV,Wk,cZ]
 | x :: a,b=>by rw [bY,Wk,Wk,Zyx a b,bH]
theorem Zsv:∀ a b:List Rat,Xq (a++b)=Xq a+Xq b
 | [],b=>by rw [aV,Xq,Rat.zero_add]
 | x :: a,b=>by rw [bY,Xq,Xq,Zsv a b,Rat.add_assoc]
theorem Zy1 (x:Rat):∀ n,Wk (aM n x)=Zw x n
 | 0=>rfl
 | n+1=>by rw [iA,Wk,Zy1 x n,Zw,iN]
theorem Z1z (x:Rat):∀ n:Nat,Xq (aM n x)=(n:Rat) * x
 | 0=>by rw [List.replicate_zero,Xq];exact (dC x).symm
 | n+1=>by rw [iA,Xq,Z1z x n,Zgj,gM,cZ,Rat.add_comm]
theorem Zvx:∀ l,Wk (Zau l)=Vh l
 | []=>rfl
 | p :: l=>by rw [Zau,Vh,Zyx,Zy1,Zvx l]
theorem Zvy:∀ l,Xq (Zau l)=U6 l
 | []=>rfl
 | p :: l=>by rw [Zau,U6,Zsv,Z1z,Zvy l]
theorem Zvw:∀ l:List (Nat×Rat),(∀ p ∈ l,0≤p.2)→∀ x ∈ Zau l,0≤x
 | p :: l,h,x,a=>by
  rw [Zau,bE] at a
  rcases a with a | a
  ·rw [(List.mem_replicate.1 a).2];exact h p aC
  ·exact Zvw l (fun q b=>h q (aB _ b)) x a
theorem Ztl (l:List (Nat×Rat)) (h:∀ p ∈ l,0≤p.2):Vh l * Zw (Wh l:Rat) (Wh l)≤Zw (U6 l) (Wh l):=by
 have:=amgm (Zau l) (Zvw l h)
 rwa [Zvv,Zvx,Zvy] at this
/-! shares -/
def Zag:List (Nat×Rat)→Rat
 | []=>1
 | p :: l=>Zw (p.1:Rat) p.1 * Zag l
def Zf5:List (Nat×Rat)→Rat
 | []=>0
 | p :: l=>p.2+Zf5 l
theorem Z8q {c:Nat} (x:Rat):Zw (x / (c:Rat)) c * Zw (c:Rat) c=Zw x c:=by
 rw [← Zah]
 by_cases h:c=0
 ·subst h;rfl
 ·have a:((c:Nat):Rat)≠0:=fun e=>h (by
   have:((c:Nat):Rat)=((0:Nat):Rat):=e
   exact eH.1 this)
  rw [bS,bH,iG _ a,bR]
theorem Zy2:∀ l:List (Nat×Rat),Vh (l.map fun p=>(p.1,p.2 / (p.1:Rat))) * Zag l=Vh l
 | []=>by rw [bN,Vh,Zag,bR]
 | p :: l=>by
  have a:=Zy2 l
  have h:=Z8q (c:=p.1) p.2
  rw [aQ,Vh,Zag,Vh,← a,← h]
  generalize Zw (p.2 / (p.1:Rat)) p.1=A
  generalize Zw (p.1:Rat) p.1=B
  generalize Vh (l.map fun p=>(p.1,p.2 / (p.1:Rat)))=C
  generalize Zag l=D
  grind
theorem Z12:∀ l:List (Nat×Rat),(∀ p ∈ l,0≤p.2)→U6 (l.map fun p=>(p.1,p.2 / (p.1:Rat)))≤Zf5 l∧0≤U6 (l.map fun p=>(p.1,p.2 / (p.1:Rat)))
 | [],_=>by rw [bN,U6,Zf5];exact ⟨cS,cS⟩
 | p :: l,h=>by
  obtain ⟨g,a⟩:=Z12 l fun q d=>h q (aB _ d)
  have b:=h p aC
  have f:(p.1:Rat) * (p.2 / (p.1:Rat))≤p.2∧0≤(p.1:Rat) * (p.2 / (p.1:Rat)):=by
   by_cases hc:p.1=0
   ·have e:((p.1:Nat):Rat)=0:=by rw [hc];rfl
    rw [e,dC];exact ⟨b,cS⟩
   ·have c:((p.1:Nat):Rat)≠0:=fun e=>hc (by
     have:((p.1:Nat):Rat)=((0:Nat):Rat):=e
     exact eH.1 this)
    have e:(p.1:Rat) * (p.2 / (p.1:Rat))=p.2:=by rw [bS,iN p.2,← bH,cN _ c,cZ]
    rw [e];exact ⟨cS,b⟩
  rw [aQ,U6,Zf5]
  exact ⟨by grind,jJ f.2 a⟩
theorem Z2e:∀ l:List (Nat×Rat),Wh (l.map fun p=>(p.1,p.2 / (p.1:Rat)))=Wh l
 | []=>rfl
 | p :: l=>by rw [aQ,Wh,Wh,Z2e l]
theorem Zyl (n:Rat) (hn:n≠0):∀ l:List (Nat×Rat),Vh (l.map fun p=>(p.1,(p.1:Rat) / n)) * Zw n (Wh l)=Zag l
 | []=>by rw [bN,Vh,Wh,Zw,Zag,bR]
 | p :: l=>by
  have a:=Zyl n hn l
  have h:Zw ((p.1:Rat) / n) p.1 * Zw n p.1=Zw (p.1:Rat) p.1:=by
   rw [← Zah,bS,bH,iG _ hn,bR]
  rw [aQ,Vh,Wh,Zrr,Zag,← a,← h]
  generalize Zw ((p.1:Rat) / n) p.1=A
  generalize Zw n p.1=B
  generalize Vh (l.map fun p=>(p.1,(p.1:Rat) / n))=C
  generalize Zw n (Wh l)=D
  grind
theorem Z60 (l:List (Nat×Rat)) (h:∀ p ∈ l,0≤p.2) (hs:Zf5 l≤1) (hn:Wh l≠0):Vh l≤Vh (l.map fun p=>(p.1,(p.1:Rat) / (Wh l:Rat))):=by
 have a:((Wh l:Nat):Rat)≠0:=fun e=>hn (by
  have:((Wh l:Nat):Rat)=((0:Nat):Rat):=e
  exact eH.1 this)
 have b:(0:Rat)<(Wh l:Rat):=by
  have:((0:Nat):Rat)<((Wh l:Nat):Rat):=Rat.natCast_lt_natCast.2 (by omega)
  exact this
 have d:∀ p ∈ l.map (fun p=>(p.1,p.2 / (p.1:Rat))),0≤p.2:=fun p f=>by
  obtain ⟨q,g,rfl⟩:=bO.1 f
  have i:=h q g
  have j:(0:Rat)≤((q.1:Nat):Rat):=by
   have:((0:Nat):Rat)≤(q.1:Rat):=gQ.2 (bK _)
   exact this
  show 0≤q.2 / (q.1:Rat)
  rw [bS]
  exact bV i (Zqo j)
 have c:=Ztl _ d
 rw [Z2e] at c
 obtain ⟨k,m⟩:=Z12 l h
 have n:Zw (U6 (l.map fun p=>(p.1,p.2 / (p.1:Rat)))) (Wh l)≤1:=by
  have:=Zrs m (eO k hs) (Wh l)
  rwa [Zle] at this
 have hC:=eO c n
 have o:=Zy2 l
 have r:=Zyl (Wh l:Rat) a l
 have s:=Zlf b (Wh l)
 have t:∀ l:List (Nat×Rat),0≤Zag l:=fun l=>by
  induction l with
  | nil=>rw [Zag];decide
  | cons p l u=>
   refine bV (Qv ?_ _) u
   have:((0:Nat):Rat)≤(p.1:Rat):=gQ.2 (bK _)
   exact this
 have v:=cD hC (t l)
 rw [cZ] at v
 generalize Vh (l.map fun p=>(p.1,p.2 / (p.1:Rat)))=A at *
 generalize Vh (l.map fun p=>(p.1,(p.1:Rat) / (Wh l:Rat)))=B at *
 generalize Zw (Wh l:Rat) (Wh l)=Pn at *
 generalize Zag l=w at *
 rw [← o]
 have x:A * w * Pn≤B * Pn:=by rw [r];grind
 exact Rat.le_of_mul_le_mul_right x s
def Wc:List QV→List Int→Rat
 | [],_=>1
 | _ :: _,[]=>1
 | x :: t,c :: cs=>Zw (Zr x) c.toNat * Wc t cs
def Tm:List QV→List Int→List (Nat×Rat)
 | [],_=>[]
 | _ :: _,[]=>[]
 | x :: t,c :: cs=>(c.toNat,Zr x) :: Tm t cs
theorem Zsy:∀ (t:List QV) (c:List Int),Wc t c=Vh (Tm t c)
 | [],_=>rfl
 | _ :: _,[]=>rfl
 | x :: t,c :: a=>by rw [Wc,Tm,Vh,Zsy t a]
theorem Zs2:∀ (t:List QV) (c:List Int),t.length=c.length→Wh (Tm t c)=Xa c
 | [],[],_=>rfl
 | x :: t,c :: a,h=>by rw [Tm,Wh,Xa,Zs2 t a (by simpa using h)]
theorem Z11:∀ (t:List QV) (c:List Int),t.length=c.length→Zf5 (Tm t c)=Yu t
 | [],[],_=>rfl
 | x :: t,c :: a,h=>by rw [Tm,Zf5,Zf2,Z11 t a (by simpa using h)]
theorem Z21 (S:Rat):∀ (t:List QV) (c:List Int),t.length=c.length→(∀ x ∈ c,0≤x)→Tm (c.map fun x:Int=>Zo ((x:Rat) / S)) c=(Tm t c).map fun p=>(p.1,(p.1:Rat) / S)
 | [],[],_,_=>rfl
 | x :: t,c :: b,h,a=>by
  have f:=a c aC
  obtain ⟨d,rfl⟩:∃ d:Nat,c=(d:Int):=⟨c.toNat,by omega⟩
  rw [aQ,Tm,Tm,aQ,Z21 S t b (by simpa using h) fun y e=>a y (aB _ e),Wt,aD]
  rfl
theorem Z20:∀ (t:List QV) (c:List Int),(∀ x ∈ t,0≤Zr x)→∀ p ∈ Tm t c,0≤p.2
 | [],_,_,p,a=>by rw [Tm] at a;cases a
 | _ :: _,[],_,p,a=>by rw [Tm] at a;cases a
 | x :: t,c :: b,h,p,a=>by
  rw [Tm] at a
  rcases aP.1 a with rfl | a
  ·exact h x aC
  ·exact Z20 t b (fun y d=>h y (aB _ d)) p a
theorem Zow:∀ (t:List QV) (c:List Int),(∀ x ∈ t,0≤Zr x)→0≤Wc t c
 | [],_,_=>by rw [Wc];decide
 | _ :: _,[],_=>by rw [Wc];decide
 | x :: t,c :: a,h=>by
  rw [Wc]
  exact bV (Qv (h x aC) _) (Zow t a fun y b=>h y (aB _ b))
theorem Zov:∀ (t:List QV) (c:List Int),(∀ x ∈ c,x.toNat=0)→Wc t c=1
 | [],_,_=>rfl
 | _ :: _,[],_=>rfl
 | x :: t,c :: a,h=>by
  rw [Wc,h c aC,Zw,cZ,Zov t a fun y b=>h y (aB _ b)]
theorem Zsx:∀ (a b:List QV) (c d:List Int),a.length=c.length→Wc (a++b) (c++d)=Wc a c * Wc b d
 | [],b,[],d,_=>by rw [aV,aV,Wc,cZ]
 | x :: a,b,c :: e,d,h=>by
  rw [bY,bY,Wc,Wc,Zsx a b e d (by simpa using h),bH]
theorem Zsu:∀ {c:List Int},Xa c=0→∀ x ∈ c,x.toNat=0
 | y :: c,h,x,a=>by
  rw [Xa] at h
  rcases aP.1 a with rfl | a
  ·omega
  ·exact Zsu (c:=c) (by omega) x a
theorem Zxz (c:List Int):Yj 0 c=c.map fun y:Int=>Zo (y:Rat):=by
 rw [Yj]
 refine eQ fun x _=>?_
 rw [gY]
theorem Zix {t:List QV} {c:List Int} (h0:∀ x ∈ c,0≤x):U5 t (Yj 0 c)=if Xa c=0 then t else Sj ((Xa c:Nat):Int) c:=by
 have e:=Zzd c h0
 rw [U5,Zxz,e]
 by_cases h:Xa c=0
 ·rw [if_pos h,if_pos (by rw [h];rfl)]
 ·have a:¬ ((Xa c:Nat):Rat)=0:=fun b=>h (eH.1 b)
  rw [if_neg h,if_neg a,Sj,List.map_map]
  refine eQ fun x _=>?_
  show Zo (Zr (Zo (x:Rat)) / _)=_
  rw [Wt];rfl
theorem Z9w {t t':List QV} {c:List Int} (h0:∀ x ∈ c,0≤x) (hl:t'.length=c.length) (hn:∀ x ∈ t',0≤Zr x) (hs:Yu t'=1):Wc t' c≤Wc (U5 t (Yj 0 c)) c:=by
 rw [Zix h0]
 by_cases h:Xa c=0
 ·rw [if_pos h,Zov _ _ (Zsu h),Zov _ _ (Zsu h)];exact cS
 ·have g:=Z60 (Tm t' c) (Z20 t' c hn) (by rw [Z11 _ _ hl,hs];exact cS) (by rw [Zs2 _ _ hl];exact h)
  rw [if_neg h,Zsy,Zsy,Sj,Z21 _ t' c hl h0]
  rw [Zs2 _ _ hl] at g
  exact g
theorem Zrd {a b c d:Rat} (ha:0≤a) (hab:a≤b) (hc:0≤c) (hcd:c≤d):a * c≤b * d:=
 eO (cD hab hc) (fF hcd (eO ha hab))
theorem Xax (k:Nat) (t:List QV) (c:List Int) (h:t.length=c.length):Wc t c=Wc (t.take k) (c.take k) * Wc (t.drop k) (c.drop k):=by
 have:=Zsx (t.take k) (t.drop k) (c.take k) (c.drop k) (by rw [nK,nK,h])
 rw [dM,dM] at this
 exact this
theorem Z2a {k:Nat}:∀ (m:Nat) (t t':List QV) (c:List Int),t.length=m * k→t'.length=m * k→c.length=m * k→(∀ x ∈ c,0≤x)→(∀ x ∈ t',0≤Zr x)→(∀ j,j<m→Yu ((t'.drop (j * k)).take k)=1)→Wc t' c≤Wc (Wb k m t (Yj 0 c)) c
 | 0,t,t',c,b,d,f,_,_,_=>by
  rw [cT] at d b
  rw [Wb,eV.1 d,eV.1 b];exact cS
 | m+1,t,t',c,b,d,f,g,i,hs=>by
  rw [aZ,aX] at b d f
  have y:(Yj 0 c).length=c.length:=by rw [Yj,aI]
  have q:(U5 (t.take k) ((Yj 0 c).take k)).length=k:=by rw [Z95 (by rw [nK,nK];omega),nK];omega
  have s:∀ x ∈ c.take k,0≤x:=fun x a=>g x (cR a)
  have u:∀ x ∈ c.drop k,0≤x:=fun x a=>g x (cM a)
  have l:∀ x ∈ t'.take k,0≤Zr x:=fun x a=>i x (cR a)
  have o:∀ x ∈ t'.drop k,0≤Zr x:=fun x a=>i x (cM a)
  have p:=hs 0 (by omega)
  rw [cT,aT] at p
  have v:=Z9w (t:=t.take k) s (by rw [nK,nK];omega) l p
  have w:=Z2a (k:=k) m (t.drop k) (t'.drop k) (c.drop k) (by rw [bI];omega) (by rw [bI];omega) (by rw [bI];omega) u o fun j A=>by
   have:=hs (j+1) (by omega)
   rw [show (j+1) * k=k+j * k by rw [aZ,aX,eW],← dR] at this
   exact this
  have e:Wc (Wb k (m+1) t (Yj 0 c)) c=Wc (U5 (t.take k) (Yj 0 (c.take k))) (c.take k) * Wc (Wb k m (t.drop k) (Yj 0 (c.drop k))) (c.drop k):=by
   have:=Zsx (U5 (t.take k) ((Yj 0 c).take k)) (Wb k m (t.drop k) ((Yj 0 c).drop k)) (c.take k) (c.drop k) (by rw [q,nK];omega)
   rw [dM] at this
   rw [Wb,this,Zio,Zin]
  rw [e,Xax k t' c (by omega)]
  exact Zrd (Zow _ _ l) v (Zow _ _ o) w
def Zx (n:Zp) (w:List Int):Nat→Nat→Rat
 | 0,_=>1
 | m+1,k=>ent n w k * Zx n w m (k+1)
theorem Zoh (n:Zp) (w:List Int):∀ m k q,Uu n w m k q=q * Zx n w m k
 | 0,k,q=>by rw [Uu,Zx,bR]
 | m+1,k,q=>by rw [Uu,Zoh n w m,Zx,bH]
structure S8 (b k m:Nat) (l:List QV):Prop where
 len:l.length=m * k
 ent:∀ x ∈ l,0≤Zr x∧Zr x≤1∧RV b x
 row:∀ j,j<m→Yu ((l.drop (j * k)).take k)=1
theorem S8.cons {b k m:Nat} {R l:List QV} (hR:∀ x ∈ R,0≤Zr x∧Zr x≤1∧RV b x) (hs:Yu R=1) (hl:R.length=k) (h:S8 b k m l):S8 b k (m+1) (R++l) where
 len:=by rw [nA,hl,h.len,aZ,aX,eW]
 ent:=fun x hx=>(bE.1 hx).elim (hR x) (h.ent x)
 row:=fun j hj=>by
  cases j with
  | zero=>rw [cT,aT,List.take_append_of_le_length (by omega),bP (by omega)];exact hs
  | succ j=>
   have:=h.row j (by omega)
   rw [show (j+1) * k=k+j * k by rw [aZ,aX,eW],← dR,List.drop_left' hl]
   exact this
theorem Zr4:∀ l:List QV,Yu (l.map Yp)=Yu l
 | []=>rfl
 | x :: l=>by rw [aQ,Zf2,Zf2,Zp4,Zr4 l]
theorem Zvk {b k:Nat} (hb:1≤b) (hk1:1≤k) (hk:k≤65536):∀ (m:Nat) (t:List QV) (c:List Int),t.length=m * k→c.length=m * k→(∀ x ∈ c,0≤x∧x≤12)→(∀ x ∈ t,0≤Zr x∧Zr x≤1∧RV b (Yp x))→(∀ j,j<m→Yu ((t.drop (j * k)).take k)=1)→S8 b k m (Wb k m (t.map Yp) (Yj 0 c))
 | 0,t,c,e,_,_,_,_=>by
  rw [cT] at e
  rw [Wb,eV.1 e]
  exact ⟨by rw [cT];rfl,fun x a=>(by cases a),fun j u=>(by omega)⟩
 | m+1,t,c,e,v,f,i,hs=>by
  rw [aZ,aX] at e v
  have o:(c.take k).length=k:=by rw [nK];omega
  have d:∀ x ∈ c.take k,0≤x∧x≤12:=fun x a=>f x (cR a)
  have p:=hs 0 (by omega)
  rw [cT,aT] at p
  have q:=Zvk hb hk1 hk m (t.drop k) (c.drop k) (by rw [bI];omega) (by rw [bI];omega) (fun x a=>f x (cM a)) (fun x a=>i x (cM a)) fun j u=>by
   have:=hs (j+1) (by omega)
   rw [show (j+1) * k=k+j * k by rw [aZ,aX,eW],← dR] at this
   exact this
  rw [Wb,Zio,Zin,Zix fun x a=>(d x a).1,← iE,← iF]
  by_cases h:Xa (c.take k)=0
  ·rw [if_pos h]
   refine S8.cons (fun x a=>?_) (by rw [Zr4];exact p) (by rw [aI,nK];omega) q
   obtain ⟨y,w,rfl⟩:=bO.1 a
   have:=i y (cR w)
   rw [Zp4];exact this
  ·have hl:=Z1t (c:=12) (c.take k) fun x a=>(d x a).2
   have g:=Z9v (s:=((Xa (c.take k):Nat):Int)) (l:=c.take k) (fun x a=>(d x a).1) rfl (by omega) (by omega)
   rw [if_neg h]
   exact S8.cons (fun x a=>⟨(g.ent x a).1,(g.ent x a).2.1,(g.ent x a).2.2.mono hb⟩) g.sum (by rw [Sj,aI,o]) q
section
variable {N W:Nat} {n:Zp} (hf:Xu N n) (hs:Ve n W) {r:List R2} (hl:r.length≤12)
include hf hs hl
omit hs in
theorem Z6p {v:Nat} (hv:v<n.2.1.length) {b:Nat} (hb:1≤b) (hx:∀ x ∈ n.2.2.2.2.getD v [],RV b (Yp x)):S8 b (cnt n v) (Wu n v) ((Wn n r 0).getD v []):=by
 obtain ⟨a,f,g⟩:=hf.rows hv
 have c:=Uo hf.ev hv
 have d:0<Wu n v:=Zf3 hf.ev (n.2.2.2.1.getD v []) 1 (hf.pars hv) (by omega)
 have e:cnt n v≤65536:=by
  have:=eF (cnt n v) d
  rw [Wu] at this;omega
 rw [Zvl hv]
 exact Zvk hb c e _ _ _ a.symm (by rw [Y5,aI,bW];exact a.symm) (Zup hl) (fun x h=>⟨(hf.ent hv x h).1,(hf.ent hv x h).2,hx x h⟩) ((Zsz hf).row v hv)
omit hl in
theorem Zvh {v:Nat} (hv:v<n.2.1.length):∀ x ∈ n.2.2.2.2.getD v [],qs (Zr x)≤X6 (n.2.2.2.2.getD v [])+1:=fun x a=>by
 have b:=(Zeq hf hs hv x a).1
 have c:=Zok (Zcm b.1 b.2)
 have d:=Zy9 a
 omega
end
/-! other tables:what is learnt is as likely -/
end Go.Proofs.YtkhnlgdenkikoaaGreat
