/-
  What functions of the program compute, as plain Lean functions (m_..), and proofs that they compute it (c_..). Printed by a program of the author; no conditions.
-/
import Derived.Test.YthclpfhncgpnmaaGreatJointAllBFloat
import Derived.Test.YthclpfhncgpnmaaGreatProg
import Derived.Test.YthclpfhncgpnmaaGreatJointAllBBrief
import Derived.Test.YthclpfhncgpnmaaGreatJointAllBBulk
import Derived.Test.YthclpfhncgpnmaaGreatJointAllBView
import Derived.Test.YthclpfhncgpnmaaGreatJointAllBVrow
import Derived.Test.YthclpfhncgpnmaaGreatJointAllF5
set_option linter.unusedVariables false
set_option maxRecDepth 100000
set_option maxHeartbeats 2000000
namespace Go.Proofs.YthclpfhncgpnmaaGreat
open Go Go.RowKit
open Int renaming toNat→aA,toNat_natCast→aB
open List renaming mem_cons→aM,not_mem_nil→aO,length_map→aH,drop_eq_nil_of_le→aF,getElem_mem→aD,drop_eq_getElem_cons→aL,getElem_map→dD,map_cons→cG,map_map→fG,sum_cons→eQ
open Nat renaming zero_add→cK,zero_le→bD
open Go.IntKind (i8 i16 i32 i64 u8 u16 u32 u64)
open Go.Proofs.Tryz

def Zi6 (aa:Bool):Option Bool:=
  some aa
def Zot (aa:Bool) (ab:Int):Option Bool:=
  some aa
def Zgo (ab:Bool) (aa:Int) (kk_L1:(Bool→Int→Option Bool)) (ac:Bool):Option Bool:=
  if ac=true then (Zot false aa) else (kk_L1 ab (i64.wrap (aa+1)))
def S8 (N:Nat) (ab:(Ra×R8)) (ac:Bool):List (List Int×R1)→Bool→Int→Option Bool
  | [],ad,aa=>if ac=true then (Zi6 (decide (aa=(ab.1.length:Int)))) else (Zi6 false)
  | ae :: af,ad,aa=>if (decide ((ab.1.length:Int)≤aa))=true then (Zgo ad aa (S8 N ab ac af) true) else ((Zi ab.1 aa).bind fun ah=>(Zh9 N ae.1 ah).bind fun ai=>if (!ai)=true then (Zgo ad aa (S8 N ab ac af) true) else ((Zi ab.2 aa).bind fun ag=>(Zhp N ((ae.2.1.1,ae.2.1.2),ae.2.2) ((ag.1.1,ag.1.2),ag.2)).bind fun aj=>Zgo ad aa (S8 N ab ac af) (!aj)))
def Zdt (N:Nat) (ab:R0) (ac:(Ra×R8)) (aa:R3) (ad:Re) (ae:Bool) (ag:Int):Option Bool:=
  (Zh4 N (aa.1,(aa.2.1.1,aa.2.1.2),aa.2.2.1,aa.2.2.2.1,aa.2.2.2.2) (ab.1,ab.2.1,ab.2.2.1,ab.2.2.2.1,ab.2.2.2.2)).bind fun af=>(Zj3 N (aa.1,aa.2.1.2.take aa.2.1.1,aa.2.2.1.map Xs,aa.2.2.2.1.map Xs,aa.2.2.2.2.map (Ua (Prod.map (Prod.map id Xs) Xs)))).bind fun ah=>S8 N ac af ad ae 0
def Zb7 (N:Nat) (ad:R0) (ab:Int) (aa:(Ra×R8)) (ae:R3) (af:Re) (ag:Bool) (ac:Int):Option Bool:=
  if (!decide (ac=(if (aa.1.length:Int)<ab then (aa.1.length:Int) else ab)))=true then (some false) else (Zdt N ad aa ae af ag ac)
def Zou (aa:Bool) (ab:Int):Option Bool:=
  some aa
def Zdw (N:Nat) (af:R0) (ac:Int) (ag:(Ra×R8)) (ah:R3) (ai:Re) (ad:Bool) (aa:Int) (kk_L2:(Bool→Int→Option Bool)):Nat→Bool→R2→R2→Int→Option Bool
  | 0,_,_,_,_=>none
  | aj+1,ak,al,ae,ab=>if (decide (ab<(ae.length:Int)))=true then ((Zi ae ab).bind fun an=>(some (ae.set (aA ab) 79)).bind fun am=>(Zdw N af ac ag ah ai ad aa kk_L2 aj) ak al am (i64.wrap (ab+1))) else (if (decide ((i64.wrap (aa+1))=ac))=true then (Zb7 N af ac ag ah ai ad (i64.wrap (aa+1))) else (kk_L2 ad (i64.wrap (aa+1))))
def Zdv (N:Nat) (ac:R0) (ad:Int) (ae:(Ra×R8)) (af:R3) (ag:Re) (ah:Bool) (ai:Int) (kk_L2:(Bool→Int→Option Bool)):Nat→Bool→R2→R2→Int→Option Bool
  | 0,_,_,_,_=>none
  | al+1,aj,aa,ak,ab=>if (decide (ab<(aa.length:Int)))=true then ((Zi aa ab).bind fun an=>(some (aa.set (aA ab) 78)).bind fun am=>(Zdv N ac ad ae af ag ah ai kk_L2 al) aj am ak (i64.wrap (ab+1))) else (Zdw N ac ad ae af ag ah ai kk_L2 N aj aa ak 0)
def Zdu (N:Nat) (ad:R0) (ae:Int) (af:(Ra×R8)) (ag:R3) (ah:Re) (ai:Bool) (aj:Int) (kk_L2:(Bool→Int→Option Bool)) (aa:List Int×R1):Nat→R2→Int→Option Bool
  | 0,_,_=>none
  | ak+1,ac,ab=>if (decide (ab<(ac.length:Int)))=true then ((Zi ac ab).bind fun am=>(some (ac.set (aA ab) 77)).bind fun al=>(Zdu N ad ae af ag ah ai aj kk_L2 aa ak) al (i64.wrap (ab+1))) else (Zdv N ad ae af ag ah ai aj kk_L2 N aa.2.1.1 aa.2.1.2 aa.2.2 0)
def Zgp (N:Nat) (ac:R0) (ad:Int) (ae:(Ra×R8)) (af:R3) (ag:Re) (ah:Bool) (aa:Int) (kk_L2:(Bool→Int→Option Bool)) (ab:List Int×R1) (ai:Bool):Option Bool:=
  if ai=true then (Zou false aa) else (Zdu N ac ad ae af ag ah aa kk_L2 ab N ab.1 0)
def U2 (N:Nat) (ad:R0) (ac:Int) (aa:(Ra×R8)) (ae:R3) (af:Re):List (List Int×R1)→Bool→Int→Option Bool
  | [],ah,ab=>if (!decide (ab=(if (aa.1.length:Int)<ac then (aa.1.length:Int) else ac)))=true then (some false) else (Zdt N ad aa ae af ah ab)
  | ag :: ai,ah,ab=>if (decide ((aa.1.length:Int)≤ab))=true then (Zgp N ad ac aa ae af ah ab (U2 N ad ac aa ae af ai) ag true) else ((Zi aa.1 ab).bind fun ak=>(Zh9 N ag.1 ak).bind fun al=>if (!al)=true then (Zgp N ad ac aa ae af ah ab (U2 N ad ac aa ae af ai) ag true) else ((Zi aa.2 ab).bind fun aj=>(Zhp N ((ag.2.1.1,ag.2.1.2),ag.2.2) ((aj.1.1,aj.1.2),aj.2)).bind fun am=>Zgp N ad ac aa ae af ah ab (U2 N ad ac aa ae af ai) ag (!am)))
def Zlv (N:Nat) (aa:R0) (ad:Int):Option Bool:=
  (Zi7 N (aa.1,aa.2.1,aa.2.2.1,aa.2.2.2.1,aa.2.2.2.2)).bind fun af=>if af=true then (some true) else ((Zbf N (aa.1,aa.2.1,aa.2.2.1,aa.2.2.2.1,aa.2.2.2.2)).bind fun ae=>(Zh5 N (aa.1,aa.2.1,aa.2.2.1,aa.2.2.2.1,aa.2.2.2.2)).bind fun ab=>(Zb4 N (ab.1,ab.2.1.2.take ab.2.1.1,ab.2.2.1.map Xs,ab.2.2.2.1.map Xs,ab.2.2.2.2.map (Ua (Prod.map (Prod.map id Xs) Xs)))).bind fun ac=>if (decide (0<ad))=true then (U2 N aa ad ae ab ac ac false 0) else (Zdt N aa ae ab ac false 0))
theorem Zzi (N:Nat) (col:Zd) (w0:World) (cc:Option Addr) (cd:Nat) (ce:Option Addr) (cf:Nat) (cg:Option Addr) (ch:Nat) (ci:Option Addr) (cj:Nat) (ac:R0) (a7:Int) (al:Sl Za.str col w0 cc cd ac.2.1) (am:Sl rV col w0 ce cf ac.2.2.1) (an:Sl rP col w0 cg ch ac.2.2.2.1) (ao:Sl (Za.slice rQ) col w0 ci cj ac.2.2.2.2) (r:Bool) (hm:Zlv N ac a7=some r):
    Calls prog 3 #[(.agg #[.string ac.1,.slice cc ac.2.1.length cd,.slice ce ac.2.2.1.length cf,.slice cg ac.2.2.2.1.length ch,.slice ci ac.2.2.2.2.length cj]),.int .i64 a7] w0 (W1 w0 r):=by
 refine Zrd (m:=141) (args:=[(.agg #[.string ac.1,.slice cc ac.2.1.length cd,.slice ce ac.2.2.1.length cf,.slice cg ac.2.2.2.1.length ch,.slice ci ac.2.2.2.2.length cj]),.int .i64 a7]) func3 rfl rfl rfl ?_;rw [Zlv.eq_1] at hm;have ab:=St.start col w0;replace al:=al.k0;replace am:=am.k0;replace an:=an.k0;replace ao:=ao.k0;have hmk:Ym 499 (Zg col) w0 []:=.nil;refine go ?_;refine Xf (col:=(Zg col)) 1 rfl ?_;intro c0 j9 hg dn ap;refine Zdl (col:=hg) (v:=(.int .i64 a7)) 2 rfl rfl ?_;intro c7 hh f9 dl az;replace az:Ze 3 2 f9 hh c7 #[.int .i64 a7]:=az;refine S3 (col:=f9) (v:=(.bool false)) 3 rfl zeroValue4 ?_;intro bb ga d6 dj ad;replace ad:Ze 4 3 d6 ga bb #[.bool false]:=ad;refine go ?_;replace ap:=(ap.gr dl).gr dj;refine lV _ (Xh isAgg27 sizeOf27 ap) ?_;obtain ⟨ka,hi,hm⟩:=bZ hm;replace al:=((al.gr dn).gr dl).gr dj;replace am:=((am.gr dn).gr dl).gr dj;replace an:=((an.gr dn).gr dl).gr dj;replace ao:=((ao.gr dn).gr dl).gr dj;refine Zh (Zzj hi al am an ao) fun _ hj ⟨e',db⟩=>⟨_,e',?_⟩;replace db:Zk d6 ga d6 hj:=.of_below db;refine Zj ?_;replace hmk:=(((hmk.gr dn).gr dl).gr dj).gr db;replace ab:=(((ab.grow dn).grow dl).grow dj).grow db;replace az:=(az.gr dj).gr db;replace al:=al.gr db;replace am:=am.gr db;replace an:=an.gr db;replace ao:=ao.gr db;replace ap:=ap.gr db;replace ad:=ad.gr db;refine Zl hm (fun hb hm=>go ?_) fun hb hm=>go ?_
 ·refine W5 (v:=(.bool true)) ad sizeOf4 rfl rfl (by intro u hu;simp only [Value.cells,aM,aO,or_false] at hu;subst hu;rfl) rfl rfl ?_;intro hl gb ho dv;replace dv:Ze 4 3 d6 hl bb #[.bool true]:=dv;refine go ?_;cases hm;replace hmk:=hmk.kp gb;refine ⟨_,[],rfl,hmk,?_⟩;intro kb gc hp;replace ab:=(ab.kp gb ho).kp gc hp;exact ⟨_,Zda rfl rfl isAgg4 rfl (dv.kp gc).at1,rfl,ab.below⟩
 refine lV _ (Xh isAgg27 sizeOf27 ap) ?_;obtain ⟨ai,hq,hm⟩:=bZ hm;refine Zh (Z0o 4 5 hq al am an ao) fun _ kc ⟨hr,bg,bh,bi,bj,e',df,af,ag⟩=>⟨_,e',?_⟩;refine lM (.tuple #[.slice bg ai.1.length bh,.slice bi ai.2.length bj])<|lV (.slice bg ai.1.length bh) (X6 rfl rfl)<|lV (.slice bi ai.2.length bj) (X6 rfl rfl)<|S3 (col:=hr) (v:=(.slice none (([]:List R2).length) 0)) 6 rfl zeroValue24 ?_;intro ck ht gd dc dw;replace dw:Ze 24 6 gd ht ck #[.slice none (([]:List R2).length) 0]:=dw;refine S3 (col:=gd) (v:=(.slice none (([]:List R1).length) 0)) 7 rfl zeroValue29 ?_;intro cl hv e1 c8 dx;replace dx:Ze 29 7 e1 hv cl #[(.slice none (([]:List R1).length) 0)]:=dx;refine W5 (v:=(.slice bg ai.1.length bh)) (dw.gr c8) sizeOf24 rfl rfl (by intro u hu;simp only [Value.cells,aM,aO,or_false] at hu;subst hu;rfl) rfl rfl ?_;intro hw c9 hx ae;replace ae:Ze 24 6 e1 hw ck #[.slice bg ai.1.length bh]:=ae;refine W5 (v:=(.slice bi ai.2.length bj)) (dx.kp c9) sizeOf29 rfl rfl (by intro u hu;simp only [Value.cells,aM,aO,or_false] at hu;subst hu;rfl) rfl rfl ?_;intro hy da hz ah;replace ah:Ze 29 7 e1 hy cl #[.slice bi ai.2.length bj]:=ah;refine go ?_;replace ap:=((((ap.gr df).gr dc).gr c8).kp c9).kp da;refine lV _ (Xh isAgg27 sizeOf27 ap) ?_;obtain ⟨aa,h0,hm⟩:=bZ hm;replace al:=((((al.gr df).gr dc).gr c8).kp c9).kp da;replace am:=((((am.gr df).gr dc).gr c8).kp c9).kp da;replace an:=((((an.gr df).gr dc).gr c8).kp c9).kp da;replace ao:=((((ao.gr df).gr dc).gr c8).kp c9).kp da;refine Zh (Z0s 8 9 10 11 h0 al am an ao) fun _ kd ⟨h1,bo,bp,bq,br,bs,bt,bu,bv,e',c1,aq,ar,au,av⟩=>⟨_,e',?_⟩;refine Xt (col:=h1) #[.string (⟨#[]⟩),.slice none (([]:List ByteArray).length) 0,.slice none (([]:List R4).length) 0,.slice none (([]:List R2).length) 0,(.slice none (([]:List R8).length) 0)] 12 zeroValue27 ?_;intro c2 ke e2 ct h2
 refine Xg h2 ?_;intro h3 cu h4 ay;refine go ?_;refine lV _ (Xh isAgg27 sizeOf27 ay) ?_;have h5:((.agg #[.string aa.1,.slice bo ((aa.2.1.2.take aa.2.1.1).length) bp,.slice bq aa.2.2.1.length br,.slice bs aa.2.2.2.1.length bt,.slice bu aa.2.2.2.2.length bv]):Value)=(.agg #[.string aa.1,(.slice bo (aa.1,aa.2.1.2.take aa.2.1.1,aa.2.2.1.map Xs,aa.2.2.2.1.map Xs,aa.2.2.2.2.map (Ua (Prod.map (Prod.map id Xs) Xs))).2.1.length bp),(.slice bq (aa.1,aa.2.1.2.take aa.2.1.1,aa.2.2.1.map Xs,aa.2.2.2.1.map Xs,aa.2.2.2.2.map (Ua (Prod.map (Prod.map id Xs) Xs))).2.2.1.length br),(.slice bs (aa.1,aa.2.1.2.take aa.2.1.1,aa.2.2.1.map Xs,aa.2.2.2.1.map Xs,aa.2.2.2.2.map (Ua (Prod.map (Prod.map id Xs) Xs))).2.2.2.1.length bt),(.slice bu (aa.1,aa.2.1.2.take aa.2.1.1,aa.2.2.1.map Xs,aa.2.2.2.1.map Xs,aa.2.2.2.2.map (Ua (Prod.map (Prod.map id Xs) Xs))).2.2.2.2.length bv)]):=by first | (simp only [aH];done) | simp only [aH,List.take_length]
 obtain ⟨b6,h6,hm⟩:=bZ hm;replace aq:=(aq.gr ct).kp cu;replace ar:=(ar.gr ct).kp cu;replace au:=(au.gr ct).kp cu;replace av:=(av.gr ct).kp cu;refine lc rfl rfl (Zm0 call9 h5) (Zzd 13 14 15 h6 (((((aq.take aa.2.1.1).toSlF Zm.str).froz 9).froz 10).froz 11) (((((ar.froz 8).toSlF (Zm.vrow Zm.str)).froz 10).froz 11).weak Vc.view0) (((((au.froz 8).froz 9).toSlF (Zm.vrow (Zm.int .i64))).froz 11).weak Vc.view0) (((((av.froz 8).froz 9).froz 10).toSlF (Zm.vrow (Zm.pair (Zm.pair Zm.bool (Zm.vrow (Zm.int .u32))) (Zm.vrow (Zm.int .u32))))).weak (Vc.view (Vc.pair (Vc.pair Vc.rfl Vc.view0) Vc.view0))):) fun _ kg ⟨h7,cv,e',b7,aw⟩=>⟨_,e',?_⟩;replace aw:=aw.thaw b7 (((((Fz.refl (col:=e2)).froz 8).froz 9).froz 10).froz 11);replace b7:=b7.thawR (col:=e2);generalize Xb h3.heap.size e2 h7=h8 at *;refine lv (v:=cv) rfl rfl (Uu rfl)<|go ?_;refine lv (v:=cv) rfl rfl (U6 rfl)<|lV (.bool false) (Z4m aw ⟨_,_,_,underlying34⟩ rfl)<|Zj<|Yc rfl<|go ?_;refine S3 (col:=h8) (v:=(.int .i64 0)) 16 rfl zeroValue3 ?_;intro b4 h9 e3 cn e4;replace e4:Ze 3 16 e3 h9 b4 #[.int .i64 0]:=e4;refine W5 (v:=(.int .i64 0)) e4 sizeOf3 rfl rfl (by intro u hu;simp only [Value.cells,aM,aO,or_false] at hu;subst hu;rfl) rfl rfl ?_;intro ia co ib ax;replace ax:Ze 3 16 e3 ia b4 #[.int .i64 0]:=ax;refine Zj<|Zw ?_;replace az:=((((((((((az.gr df).gr dc).gr c8).kp c9).kp da).gr c1).gr ct).kp cu).gr b7).gr cn).kp co;replace ad:=((((((((((ad.gr df).gr dc).gr c8).kp c9).kp da).gr c1).gr ct).kp cu).gr b7).gr cn).kp co;replace hmk:=((((((((((hmk.gr df).gr dc).gr c8).kp c9).kp da).gr c1).gr ct).kp cu).gr b7).gr cn).kp co;replace ab:=((((((((((ab.grow df).grow dc).grow c8).kp c9 hx).kp da hz).grow c1).grow ct).kp cu h4).grow b7).grow cn).kp co ib;replace af:=(((((((((af.gr dc).gr c8).kp c9).kp da).gr c1).gr ct).kp cu).gr b7).gr cn).kp co;replace ag:=(((((((((ag.gr dc).gr c8).kp c9).kp da).gr c1).gr ct).kp cu).gr b7).gr cn).kp co;replace ae:=((((((ae.kp da).gr c1).gr ct).kp cu).gr b7).gr cn).kp co
 replace al:=(((((al.gr c1).gr ct).kp cu).gr b7).gr cn).kp co;replace am:=(((((am.gr c1).gr ct).kp cu).gr b7).gr cn).kp co;replace an:=(((((an.gr c1).gr ct).kp cu).gr b7).gr cn).kp co;replace ao:=(((((ao.gr c1).gr ct).kp cu).gr b7).gr cn).kp co;replace ap:=(((((ap.gr c1).gr ct).kp cu).gr b7).gr cn).kp co;replace ah:=(((((ah.gr c1).gr ct).kp cu).gr b7).gr cn).kp co;replace aq:=((aq.gr b7).gr cn).kp co;replace ar:=((ar.gr b7).gr cn).kp co;replace au:=((au.gr b7).gr cn).kp co;replace av:=((av.gr b7).gr cn).kp co;replace ay:=((ay.gr b7).gr cn).kp co;replace aw:=(aw.gr cn).kp co rfl
 refine Wp.cutK [] (fun f b8=>∃ bk d7 e5 dm,Zdt N ac ai aa b6 d7 e5=some r∧St w0 (Zg col) bk b8∧Sl Za.str bk b8 cc cd ac.2.1∧Sl rV bk b8 ce cf ac.2.2.1∧Sl rP bk b8 cg ch ac.2.2.2.1∧Sl (Za.slice rQ) bk b8 ci cj ac.2.2.2.2∧Ze 27 1 bk b8 c0 #[.string ac.1,.slice cc ac.2.1.length cd,.slice ce ac.2.2.1.length cf,.slice cg ac.2.2.2.1.length ch,.slice ci ac.2.2.2.2.length cj]∧Ze 4 3 bk b8 bb #[.bool d7]∧Zb rP 36 4 bk b8 bg bh ai.1∧Ze 24 6 bk b8 ck #[.slice bg ai.1.length bh]∧Zb (rO 45) 42 5 bk b8 bi bj ai.2∧Ze 29 7 bk b8 cl #[.slice bi ai.2.length bj]∧Zb Za.str 9 8 bk b8 bo bp aa.2.1.2∧Zb (Za.vrow 9 Za.str) 22 9 bk b8 bq br aa.2.2.1∧Zb (Za.vrow 3 rI) 36 10 bk b8 bs bt aa.2.2.2.1∧Zb (Za.vrow 42 (Za.pair (Za.pair Za.bool (Za.vrow 45 rU)) (Za.vrow 45 rU))) 29 11 bk b8 bu bv aa.2.2.2.2∧Ze 27 12 bk b8 c2 #[.string aa.1,.slice bo ((aa.2.1.2.take aa.2.1.1).length) bp,.slice bq aa.2.2.1.length br,.slice bs aa.2.2.2.1.length bt,.slice bu aa.2.2.2.2.length bv]∧It prog 2 cv (fun (y:List Int×R1) (col:Zd) (w:World) (args:List Value)=>∃ a0 a4 a1_0_1 c1_0_1 a5 a6,args=[.slice a0 y.1.length a4,.agg #[.bool y.2.1.1,.slice a1_0_1 y.2.1.2.length c1_0_1,.slice a5 y.2.2.length a6]]∧Zb rI 3 13 col w a0 a4 y.1∧Zb rU 45 14 col w a1_0_1 c1_0_1 y.2.1.2∧Zb rU 45 15 col w a5 a6 y.2.2) b6 q1 bk b8∧Ze 3 16 bk b8 b4 #[.int .i64 e5]∧Ym 499 bk b8 dm∧[2,4,5,6,7,8,9,1000000].map f=[.pointer (some ⟨c0,0,none⟩),.pointer (some ⟨bb,0,none⟩),.pointer (some ⟨ck,0,none⟩),.pointer (some ⟨cl,0,none⟩),.pointer (some ⟨c2,0,none⟩),cv,.pointer (some ⟨b4,0,none⟩),enc dm]) ?_ ?_
 ·intro f b8 hJ;obtain ⟨bk,d7,e5,dm,hm,ab,al,am,an,ao,ap,ad,af,ae,ag,ah,aq,ar,au,av,ay,aw,ax,hmk,hs⟩:=hJ;rw [Zdt.eq_1] at hm;refine .lL [2,4,5,6,7,8,9,1000000] hs<|go ?_;refine lV _ (Xh isAgg27 sizeOf27 ay)<|lV _ (Xh isAgg27 sizeOf27 ap) ?_;obtain ⟨e6,ic,hm⟩:=bZ hm;refine Zh (Z0r ic ((((aq.toSlF Zm.str).froz 9).froz 10).froz 11) ((((ar.froz 8).toSlF (Zm.vrow Zm.str)).froz 10).froz 11) ((((au.froz 8).froz 9).toSlF (Zm.vrow (Zm.int .i64))).froz 11) ((((av.froz 8).froz 9).froz 10).toSlF (Zm.vrow (Zm.pair (Zm.pair Zm.bool (Zm.vrow (Zm.int .u32))) (Zm.vrow (Zm.int .u32))))) ((((al.froz 8).froz 9).froz 10).froz 11) ((((am.froz 8).froz 9).froz 10).froz 11) ((((an.froz 8).froz 9).froz 10).froz 11) ((((ao.froz 8).froz 9).froz 10).froz 11)) fun _ dy ⟨e',cw⟩=>⟨_,e',?_⟩;replace cw:Zk bk b8 bk dy:=.of_below cw;refine go ?_;replace ay:=ay.gr cw;refine lV _ (Xh isAgg27 sizeOf27 ay) ?_;replace aq:=aq.gr cw;have e7:=(aq.take aa.2.1.1);replace e7:Zb Za.str 9 8 bk dy bo bp (aa.2.1.2.take aa.2.1.1):=e7;replace ar:=ar.gr cw;have e8:=ar.weakO W9.vrow0;refine .ld (d:=105) (v:=(.agg #[.string aa.1,.slice bo ((aa.2.1.2.take aa.2.1.1).length) bp,.slice bq ((aa.2.2.1.map Xs).length) br,.slice bs aa.2.2.2.1.length bt,.slice bu aa.2.2.2.2.length bv])) (congrArg (fun n=>Value.agg #[.string aa.1,.slice bo ((aa.2.1.2.take aa.2.1.1).length) bp,.slice bq n br,.slice bs aa.2.2.2.1.length bt,.slice bu aa.2.2.2.2.length bv]) (show aa.2.2.1.length=(aa.2.2.1.map Xs).length by rw [aH])) ?_;replace e8:Zb (Za.row 9 Za.str) 22 9 bk dy bq br (aa.2.2.1.map Xs):=e8;replace au:=au.gr cw;have e9:=au.weakO W9.vrow0
  refine .ld (d:=105) (v:=(.agg #[.string aa.1,.slice bo ((aa.2.1.2.take aa.2.1.1).length) bp,.slice bq ((aa.2.2.1.map Xs).length) br,.slice bs ((aa.2.2.2.1.map Xs).length) bt,.slice bu aa.2.2.2.2.length bv])) (congrArg (fun n=>Value.agg #[.string aa.1,.slice bo ((aa.2.1.2.take aa.2.1.1).length) bp,.slice bq ((aa.2.2.1.map Xs).length) br,.slice bs n bt,.slice bu aa.2.2.2.2.length bv]) (show aa.2.2.2.1.length=(aa.2.2.2.1.map Xs).length by rw [aH])) ?_;replace e9:Zb (Za.row 3 rI) 36 10 bk dy bs bt (aa.2.2.2.1.map Xs):=e9;replace av:=av.gr cw;have fa:=av.weakO (W9.vrow (W9.pair (W9.pair W9.rfl W9.vrow0) W9.vrow0));refine .ld (d:=105) (v:=(.agg #[.string aa.1,.slice bo ((aa.2.1.2.take aa.2.1.1).length) bp,.slice bq ((aa.2.2.1.map Xs).length) br,.slice bs ((aa.2.2.2.1.map Xs).length) bt,(.slice bu ((aa.2.2.2.2.map (Ua (Prod.map (Prod.map id Xs) Xs))).length) bv)])) (congrArg (fun n=>Value.agg #[.string aa.1,.slice bo ((aa.2.1.2.take aa.2.1.1).length) bp,.slice bq ((aa.2.2.1.map Xs).length) br,.slice bs ((aa.2.2.2.1.map Xs).length) bt,.slice bu n bv]) (show aa.2.2.2.2.length=(aa.2.2.2.2.map (Ua (Prod.map (Prod.map id Xs) Xs))).length by rw [aH])) ?_;replace fa:Zb (Za.row 42 (rO 45)) 29 11 bk dy bu bv (aa.2.2.2.2.map (Ua (Prod.map (Prod.map id Xs) Xs))):=fa;obtain ⟨kh,ie,hm⟩:=bZ hm;refine Zh (Z0w 8 9 10 11 ie rfl e7 e8 e9 fa) ?_;rintro _ ki ⟨ge,rfl,dg⟩;refine ⟨_,rfl,go ?_⟩;replace ax:=(ax.gr cw).kpp dg;refine W5 (v:=(.int .i64 0)) ax sizeOf3 rfl rfl (by intro u hu;simp only [Value.cells,aM,aO,or_false] at hu;subst hu;rfl) rfl rfl ?_;intro ig dk ih a2;replace a2:Ze 3 16 ge ig b4 #[.int .i64 0]:=a2;refine go ?_;refine lv (v:=cv) rfl rfl (U6 rfl)<|go ?_;replace af:=((af.gr cw).kpp dg).kp dk;replace ag:=((ag.gr cw).kpp dg).kp dk;replace aw:=((aw.gr cw).kpp dg (Zmu rfl)).kp dk rfl;replace ad:=((ad.gr cw).kpp dg).kp dk;replace ae:=((ae.gr cw).kpp dg).kp dk;replace ah:=((ah.gr cw).kpp dg).kp dk;replace hmk:=((hmk.gr cw).kpp dg).kp dk;replace ab:=((ab.grow cw).kpp dg).kp dk ih
  refine Zkw (psl:=[108,109]) (arr:=(fun (y:List Int×R1) (col:Zd) (w:World) (args:List Value)=>∃ a0 a4 a1_0_1 c1_0_1 a5 a6,args=[.slice a0 y.1.length a4,.agg #[.bool y.2.1.1,.slice a1_0_1 y.2.1.2.length c1_0_1,.slice a5 y.2.2.length a6]]∧Zb rI 3 13 col w a0 a4 y.1∧Zb rU 45 14 col w a1_0_1 c1_0_1 y.2.1.2∧Zb rU 45 15 col w a5 a6 y.2.2)) (ys:=b6) (col:=ge) 498 rfl aw rfl hmk rfl rfl (by rintro _ _ _ _ ⟨_,_,_,_,_,_,rfl,_⟩;rfl) (fun ys_ bw b5=>∃ (cx:Bool) (b9:Int),S8 N ai e6 ys_ cx b9=some r∧St w0 (Zg col) bw b5∧Ze 4 3 bw b5 bb #[.bool cx]∧Zb rP 36 4 bw b5 bg bh ai.1∧Ze 24 6 bw b5 ck #[.slice bg ai.1.length bh]∧Zb (rO 45) 42 5 bw b5 bi bj ai.2∧Ze 29 7 bw b5 cl #[.slice bi ai.2.length bj]∧Ze 3 16 bw b5 b4 #[.int .i64 b9]) (fun c_ bw b5=>(c_= .ret∧∃ (cx:Bool) (b9:Int),Zot cx b9=some r∧St w0 (Zg col) bw b5∧Ze 4 3 bw b5 bb #[.bool cx]∧Zb rP 36 4 bw b5 bg bh ai.1∧Ze 24 6 bw b5 ck #[.slice bg ai.1.length bh]∧Zb (rO 45) 42 5 bw b5 bi bj ai.2∧Ze 29 7 bw b5 cl #[.slice bi ai.2.length bj]∧Ze 3 16 bw b5 b4 #[.int .i64 b9])) ?_ ?_ ⟨d7,0,hm,ab,ad,af,ae,ag,ah,a2⟩ ?_ ?_ ?_
  ·intro ys_ bw b5 col2_ w2_ hJ hk;obtain ⟨cx,b9,hm,ab,ad,af,ae,ag,ah,a2⟩:=hJ;exact ⟨cx,b9,hm,ab.kpp hk rfl rfl,ad.kpp hk rfl,af.kpp hk rfl rfl,ae.kpp hk rfl,ag.kpp hk rfl rfl,ah.kpp hk rfl,a2.kpp hk rfl⟩
  ·intro c_ bw b5 col2_ w2_ hX hk;obtain ⟨rfl,hX⟩:=hX;obtain ⟨cx,b9,hm,ab,ad,af,ae,ag,ah,a2⟩:=hX;exact ⟨rfl,⟨cx,b9,hm,ab.kpp hk rfl rfl,ad.kpp hk rfl,af.kpp hk rfl rfl,ae.kpp hk rfl,ag.kpp hk rfl rfl,ah.kpp hk rfl,a2.kpp hk rfl⟩⟩
  ·intro ii kj ij kk ik bw b5 args hJ hrec hmk harr;obtain ⟨cx,b9,hm,ab,ad,af,ae,ag,ah,a2⟩:=hJ;rw [S8.eq_2] at hm;have hki:=Z1.refl (pC 2) bw b5;obtain ⟨kl,km,kn,ko,kq,kr,rfl,fb,fc,fd⟩:=harr;refine go ?_;refine Xt (col:=bw) #[.bool false,(nI),(nI)] 17 zeroValue42 ?_;intro kt ku cp c3 il;refine Xg il ?_;intro kv c4 gf fe;refine Zj ?_;replace hrec:=(hrec.gr c3).kp c4;refine ⟨_,hrec,?_⟩;intro kw im c5 gg hrec2;have hrec:=hrec2;refine Zde<|Zw<|Zw ?_;replace af:=((af.gr c3).kp c4).kp c5;replace ag:=((ag.gr c3).kp c4).kp c5;replace ad:=((ad.gr c3).kp c4).kp c5;replace ae:=((ae.gr c3).kp c4).kp c5;replace ah:=((ah.gr c3).kp c4).kp c5;replace a2:=((a2.gr c3).kp c4).kp c5;replace hmk:=((hmk.gr c3).kp c4).kp c5;replace hki:=((hki.gr c3).kp c4 gf rfl).kp c5 gg rfl;replace ab:=((ab.grow c3).kp c4 gf).kp c5 gg;refine Wp.cutK [] (fun f dd=>∃ c6 ff,Zgo cx b9 (S8 N ai e6 ik) ff=some r∧St w0 (Zg col) c6 dd∧Ze 4 3 c6 dd bb #[.bool cx]∧Zb rP 36 4 c6 dd bg bh ai.1∧Ze 24 6 c6 dd ck #[.slice bg ai.1.length bh]∧Zb (rO 45) 42 5 c6 dd bi bj ai.2∧Ze 29 7 c6 dd cl #[.slice bi ai.2.length bj]∧Ze 3 16 c6 dd b4 #[.int .i64 b9]∧Wi 498 c6 dd ii im∧Ym 499 c6 dd ij∧Z1 (pC 2) bw b5 c6 dd∧[131,15,4,5,6,9,1000000].map f=[.bool ff,.bool e6,.pointer (some ⟨bb,0,none⟩),.pointer (some ⟨ck,0,none⟩),.pointer (some ⟨cl,0,none⟩),.pointer (some ⟨b4,0,none⟩),enc []]) ?_ ?_
   ·intro f dd hJ;obtain ⟨c6,ff,hm,ab,ad,af,ae,ag,ah,a2,hrec,hmk,hki,hs⟩:=hJ;rw [Zgo.eq_1] at hm;refine .lL [131,15,4,5,6,9,1000000] hs ?_;refine Zl hm (fun hb hm=>go ?_) fun hb hm=>go ?_
    ·refine W5 (v:=(.bool false)) ad sizeOf4 rfl rfl (by intro u hu;simp only [Value.cells,aM,aO,or_false] at hu;subst hu;rfl) rfl rfl ?_;intro io dh gh fg;replace fg:Ze 4 3 c6 io bb #[.bool false]:=fg;refine go ?_;replace af:=af.kp dh;replace ag:=ag.kp dh;replace ae:=ae.kp dh;replace ah:=ah.kp dh;replace a2:=a2.kp dh;replace hrec:=hrec.kp dh;replace hmk:=hmk.kp dh;replace hki:=hki.kp dh gh rfl;replace ab:=ab.kp dh gh;exact ⟨_,hki,⟨rfl,⟨false,b9,hm,ab,fg,af,ae,ag,ah,a2⟩⟩,hrec,hmk⟩
    refine lW a2.at1<|go ?_;refine W5 (v:=(.int .i64 (i64.wrap (b9+1)))) a2 sizeOf3 rfl rfl (by intro u hu;simp only [Value.cells,aM,aO,or_false] at hu;subst hu;rfl) rfl rfl ?_;intro ip di gi fh;replace fh:Ze 3 16 c6 ip b4 #[.int .i64 (i64.wrap (b9+1))]:=fh;refine Zj ?_;replace af:=af.kp di;replace ag:=ag.kp di;replace ad:=ad.kp di;replace ae:=ae.kp di;replace ah:=ah.kp di;replace hrec:=hrec.kp di;replace hmk:=hmk.kp di;replace hki:=hki.kp di gi rfl;replace ab:=ab.kp di gi;exact ⟨_,hki,⟨cx,(i64.wrap (b9+1)),hm,ab,ad,af,ae,ag,ah,fh⟩,hrec,hmk⟩
   refine Y0 (col:=cp) (by kernel_rfl) (by kernel_rfl)<|qW (fun _ hC=>a2.at1.gr (hC.bl cp)) ?_;refine qW (fun _ hC=>ae.at1.gr (hC.bl cp)) ?_;refine go ?_;refine Xo hm (fun fi hm=>go ?_) fun fi hm=>go ?_
   ·refine qv (v:=(.bool true)) rfl (fun _ hC=>Z5 (congrArg Value.bool fi) rfl) ?_;refine go ?_;refine qP 123 rfl rfl<|qP 123 rfl rfl<|qP 123 rfl rfl<|qP 123 rfl rfl<|qP 123 rfl rfl<|qP 123 rfl rfl<|qP 123 rfl rfl<|qv (v:=(.bool true)) rfl (fun _ hC=>Z5 rfl rfl) ?_;refine Xw ?_;intro kx hC;replace hC:=hC.bl cp;replace af:=af.gr hC;replace ag:=ag.gr hC;replace ad:=ad.gr hC;replace ae:=ae.gr hC;replace ah:=ah.gr hC;replace a2:=a2.gr hC;replace hrec:=hrec.gr hC;replace hmk:=hmk.gr hC;replace hki:=hki.gr hC;replace ab:=ab.grow hC;exact ⟨rfl,_,_,hm,ab,ad,af,ae,ag,ah,a2,hrec,hmk,hki,rfl⟩
   refine qW (fun _ hC=>ae.at1.gr (hC.bl cp)) ?_;refine go ?_;refine qW (fun _ hC=>a2.at1.gr (hC.bl cp)) ?_;refine go ?_;obtain ⟨ky,fj,hm⟩:=bZ hm;refine qI fj (af.addr fj) ?_;refine go ?_;obtain ⟨_,iq,ir⟩:=af.atN fj;obtain ⟨kz,k0,rfl,it⟩:=iq.slice;refine qW (fun _ hC=>ir.one.gr (hC.bl cp)) ?_;refine go ?_;obtain ⟨gj,iu,hm⟩:=bZ hm;refine qc (v:=(.bool gj)) rfl (fun _ hC=>⟨_,_,Sn call10 rfl rfl,(Zq6 iu (((((fb.gr c3).kp c4).kp c5).gr (hC.bl cp)).toSlF (Zm.int .i64)) ((it.gr (hC.bl cp)).froz 13):).mono fun _ _ h=>⟨h.1,hC.trans (.of_below h.2)⟩⟩) ?_;refine go ?_;refine qv (v:=(.bool (!gj))) rfl (fun _ hC=>Xn (congrArg Value.bool fi) rfl) ?_;refine go ?_;refine Xo hm (fun fk hm=>go ?_) fun fk hm=>go ?_
   ·refine qv (v:=(.bool true)) rfl (fun _ hC=>Z5 (congrArg Value.bool fk) rfl) ?_;refine Xw ?_;intro k1 hC;replace hC:=hC.bl cp;replace af:=af.gr hC;replace ag:=ag.gr hC;replace ad:=ad.gr hC;replace ae:=ae.gr hC;replace ah:=ah.gr hC;replace a2:=a2.gr hC;replace hrec:=hrec.gr hC;replace hmk:=hmk.gr hC;replace hki:=hki.gr hC;replace ab:=ab.grow hC;exact ⟨rfl,_,_,hm,ab,ad,af,ae,ag,ah,a2,hrec,hmk,hki,rfl⟩
   refine qv rfl (fun _ hC=>Xh isAgg42 sizeOf42 ((fe.kp c5).gr (hC.bl cp))) ?_;refine go ?_;refine qW (fun _ hC=>ah.at1.gr (hC.bl cp)) ?_;refine go ?_;refine qW (fun _ hC=>a2.at1.gr (hC.bl cp)) ?_;refine go ?_;obtain ⟨fl,fm,hm⟩:=bZ hm;refine qI fm (ag.addr fm) ?_;refine go ?_;obtain ⟨_,iv,iw⟩:=ag.atN fm;obtain ⟨_,_,rfl,ix,iy⟩:=iv.parts;obtain ⟨_,_,rfl,iz,i0⟩:=ix.parts;obtain rfl:=iz.bool;obtain ⟨i1,i2,rfl,i3⟩:=i0.row;obtain ⟨i4,i5,rfl,i6⟩:=iy.row;refine qv (v:=(.agg #[.bool fl.1.1,.slice i1 fl.1.2.length i2,.slice i4 fl.2.length i5])) rfl (fun _ hC=>Yq isAgg42 sizeOf42 rfl rfl (iw.gr (hC.bl cp))) ?_;refine go ?_;obtain ⟨gk,i7,hm⟩:=bZ hm;refine qc (v:=(.bool gk)) rfl (fun _ hC=>⟨_,_,Sn call11 rfl rfl,(Zq2 i7 (((((((fc.gr c3).kp c4).kp c5).gr (hC.bl cp)).toSlF (Zm.int .u32)).froz 15).froz 5) (((((((fd.gr c3).kp c4).kp c5).gr (hC.bl cp)).froz 14).toSlF (Zm.int .u32)).froz 5) ((((i3.gr (hC.bl cp)).froz 14).froz 15).toSlF (Zm.int .u32)) ((((i6.gr (hC.bl cp)).froz 14).froz 15).toSlF (Zm.int .u32)):).mono fun _ _ h=>⟨h.1,hC.trans (.of_below h.2)⟩⟩) ?_;refine go ?_;refine qv (v:=(.bool (!gk))) rfl (fun _ hC=>Xn (congrArg Value.bool fk) rfl) ?_;refine Xw ?_;intro k2 hC;replace hC:=hC.bl cp;replace af:=af.gr hC;replace ag:=ag.gr hC;replace ad:=ad.gr hC;replace ae:=ae.gr hC;replace ah:=ah.gr hC;replace a2:=a2.gr hC;replace hrec:=hrec.gr hC;replace hmk:=hmk.gr hC;replace hki:=hki.gr hC;replace ab:=ab.grow hC;exact ⟨rfl,_,_,hm,ab,ad,af,ae,ag,ah,a2,hrec,hmk,hki,rfl⟩
  ·intro fn bw b5 hJ hmk;obtain ⟨cx,b9,hm,ab,ad,af,ae,ag,ah,a2⟩:=hJ;rw [S8.eq_1] at hm;refine Zw ?_;refine Wp.cutK [] (fun f d8=>∃ d9 fp,Zi6 fp=some r∧St w0 (Zg col) d9 d8∧Ze 4 3 d9 d8 bb #[.bool fp]∧Ym 499 d9 d8 (fn :: dm)∧[4,1000000].map f=[.pointer (some ⟨bb,0,none⟩),enc (fn :: dm)]) ?_ ?_
   ·intro f d8 hJ;obtain ⟨d9,fp,hm,ab,ad,hmk,hs⟩:=hJ;rw [Zi6.eq_1] at hm;refine .lL [4,1000000] hs<|Y1 ?_;cases hm;refine ⟨_,(fn :: dm),rfl,hmk,?_⟩;intro k3 gl i8;replace ad:=ad.kp gl;replace ab:=ab.kp gl i8;exact ⟨_,Zda rfl rfl isAgg4 rfl ad.at1,rfl,ab.below⟩
   refine go ?_;refine Xo hm (fun fq hm=>go ?_) fun fq hm=>go ?_
   ·refine lW a2.at1<|go ?_;refine lW ae.at1<|go ?_;refine lV (.bool (decide (b9=(ai.1.length:Int)))) (Z5 (congrArg Value.bool fq) rfl)<|W5 (v:=(.bool (decide (b9=(ai.1.length:Int))))) ad sizeOf4 rfl rfl (by intro u hu;simp only [Value.cells,aM,aO,or_false] at hu;subst hu;rfl) rfl rfl ?_;intro i9 gm ja fr;replace fr:Ze 4 3 bw i9 bb #[.bool (decide (b9=(ai.1.length:Int)))]:=fr;refine Zj ?_;replace hmk:=hmk.kp gm;replace ab:=ab.kp gm ja;exact ⟨rfl,_,_,hm,ab,fr,hmk,rfl⟩
   refine lV (.bool false) (Xn (congrArg Value.bool fq) rfl)<|W5 (v:=(.bool false)) ad sizeOf4 rfl rfl (by intro u hu;simp only [Value.cells,aM,aO,or_false] at hu;subst hu;rfl) rfl rfl ?_;intro jb gp jc ft;replace ft:Ze 4 3 bw jb bb #[.bool false]:=ft;refine Zj ?_;replace hmk:=hmk.kp gp;replace ab:=ab.kp gp jc;exact ⟨rfl,_,_,hm,ab,ft,hmk,rfl⟩
  intro c_ jd bw b5 hX hmk;obtain ⟨rfl,hX⟩:=hX;obtain ⟨cx,b9,hm,ab,ad,af,ae,ag,ah,a2⟩:=hX;rw [Zot.eq_1] at hm;refine Y1 ?_;cases hm;refine ⟨_,(jd :: dm),rfl,hmk,?_⟩;intro k4 gs je;replace ad:=ad.kp gs;replace ab:=ab.kp gs je;exact ⟨_,Zda rfl rfl isAgg4 rfl ad.at1,rfl,ab.below⟩
 refine go ?_;refine lW az.at1<|go ?_;refine Zl hm (fun hb hm=>go ?_) fun hb hm=>?_
 ·refine lv (v:=cv) rfl rfl (U6 rfl)<|go ?_
  refine Zkw (psl:=[34,35]) (arr:=(fun (y:List Int×R1) (col:Zd) (w:World) (args:List Value)=>∃ a0 a4 a1_0_1 c1_0_1 a5 a6,args=[.slice a0 y.1.length a4,.agg #[.bool y.2.1.1,.slice a1_0_1 y.2.1.2.length c1_0_1,.slice a5 y.2.2.length a6]]∧Zb rI 3 13 col w a0 a4 y.1∧Zb rU 45 14 col w a1_0_1 c1_0_1 y.2.1.2∧Zb rU 45 15 col w a5 a6 y.2.2)) (ys:=b6) (col:=e3) 498 rfl aw rfl hmk rfl rfl (by rintro _ _ _ _ ⟨_,_,_,_,_,_,rfl,_⟩;rfl) (fun ys_ aj ak=>∃ (a8:Bool) (a3:Int),U2 N ac a7 ai aa b6 ys_ a8 a3=some r∧St w0 (Zg col) aj ak∧Sl Za.str aj ak cc cd ac.2.1∧Sl rV aj ak ce cf ac.2.2.1∧Sl rP aj ak cg ch ac.2.2.2.1∧Sl (Za.slice rQ) aj ak ci cj ac.2.2.2.2∧Ze 27 1 aj ak c0 #[.string ac.1,.slice cc ac.2.1.length cd,.slice ce ac.2.2.1.length cf,.slice cg ac.2.2.2.1.length ch,.slice ci ac.2.2.2.2.length cj]∧Ze 3 2 aj ak c7 #[.int .i64 a7]∧Ze 4 3 aj ak bb #[.bool a8]∧Zb rP 36 4 aj ak bg bh ai.1∧Ze 24 6 aj ak ck #[.slice bg ai.1.length bh]∧Zb (rO 45) 42 5 aj ak bi bj ai.2∧Ze 29 7 aj ak cl #[.slice bi ai.2.length bj]∧Zb Za.str 9 8 aj ak bo bp aa.2.1.2∧Zb (Za.vrow 9 Za.str) 22 9 aj ak bq br aa.2.2.1∧Zb (Za.vrow 3 rI) 36 10 aj ak bs bt aa.2.2.2.1∧Zb (Za.vrow 42 (Za.pair (Za.pair Za.bool (Za.vrow 45 rU)) (Za.vrow 45 rU))) 29 11 aj ak bu bv aa.2.2.2.2∧Ze 27 12 aj ak c2 #[.string aa.1,.slice bo ((aa.2.1.2.take aa.2.1.1).length) bp,.slice bq aa.2.2.1.length br,.slice bs aa.2.2.2.1.length bt,.slice bu aa.2.2.2.2.length bv]∧It prog 2 cv (fun (y:List Int×R1) (col:Zd) (w:World) (args:List Value)=>∃ a0 a4 a1_0_1 c1_0_1 a5 a6,args=[.slice a0 y.1.length a4,.agg #[.bool y.2.1.1,.slice a1_0_1 y.2.1.2.length c1_0_1,.slice a5 y.2.2.length a6]]∧Zb rI 3 13 col w a0 a4 y.1∧Zb rU 45 14 col w a1_0_1 c1_0_1 y.2.1.2∧Zb rU 45 15 col w a5 a6 y.2.2) b6 q1 aj ak∧Ze 3 16 aj ak b4 #[.int .i64 a3]) (fun c_ aj ak=>(c_= .exit 0∧∃ (a8:Bool) (a3:Int),Zb7 N ac a7 ai aa b6 a8 a3=some r∧St w0 (Zg col) aj ak∧Sl Za.str aj ak cc cd ac.2.1∧Sl rV aj ak ce cf ac.2.2.1∧Sl rP aj ak cg ch ac.2.2.2.1∧Sl (Za.slice rQ) aj ak ci cj ac.2.2.2.2∧Ze 27 1 aj ak c0 #[.string ac.1,.slice cc ac.2.1.length cd,.slice ce ac.2.2.1.length cf,.slice cg ac.2.2.2.1.length ch,.slice ci ac.2.2.2.2.length cj]∧Ze 3 2 aj ak c7 #[.int .i64 a7]∧Ze 4 3 aj ak bb #[.bool a8]∧Zb rP 36 4 aj ak bg bh ai.1∧Ze 24 6 aj ak ck #[.slice bg ai.1.length bh]∧Zb (rO 45) 42 5 aj ak bi bj ai.2∧Ze 29 7 aj ak cl #[.slice bi ai.2.length bj]∧Zb Za.str 9 8 aj ak bo bp aa.2.1.2∧Zb (Za.vrow 9 Za.str) 22 9 aj ak bq br aa.2.2.1∧Zb (Za.vrow 3 rI) 36 10 aj ak bs bt aa.2.2.2.1∧Zb (Za.vrow 42 (Za.pair (Za.pair Za.bool (Za.vrow 45 rU)) (Za.vrow 45 rU))) 29 11 aj ak bu bv aa.2.2.2.2∧Ze 27 12 aj ak c2 #[.string aa.1,.slice bo ((aa.2.1.2.take aa.2.1.1).length) bp,.slice bq aa.2.2.1.length br,.slice bs aa.2.2.2.1.length bt,.slice bu aa.2.2.2.2.length bv]∧It prog 2 cv (fun (y:List Int×R1) (col:Zd) (w:World) (args:List Value)=>∃ a0 a4 a1_0_1 c1_0_1 a5 a6,args=[.slice a0 y.1.length a4,.agg #[.bool y.2.1.1,.slice a1_0_1 y.2.1.2.length c1_0_1,.slice a5 y.2.2.length a6]]∧Zb rI 3 13 col w a0 a4 y.1∧Zb rU 45 14 col w a1_0_1 c1_0_1 y.2.1.2∧Zb rU 45 15 col w a5 a6 y.2.2) b6 q1 aj ak∧Ze 3 16 aj ak b4 #[.int .i64 a3])∨(c_= .ret∧∃ (a8:Bool) (a3:Int),Zou a8 a3=some r∧St w0 (Zg col) aj ak∧Sl Za.str aj ak cc cd ac.2.1∧Sl rV aj ak ce cf ac.2.2.1∧Sl rP aj ak cg ch ac.2.2.2.1∧Sl (Za.slice rQ) aj ak ci cj ac.2.2.2.2∧Ze 27 1 aj ak c0 #[.string ac.1,.slice cc ac.2.1.length cd,.slice ce ac.2.2.1.length cf,.slice cg ac.2.2.2.1.length ch,.slice ci ac.2.2.2.2.length cj]∧Ze 3 2 aj ak c7 #[.int .i64 a7]∧Ze 4 3 aj ak bb #[.bool a8]∧Zb rP 36 4 aj ak bg bh ai.1∧Ze 24 6 aj ak ck #[.slice bg ai.1.length bh]∧Zb (rO 45) 42 5 aj ak bi bj ai.2∧Ze 29 7 aj ak cl #[.slice bi ai.2.length bj]∧Zb Za.str 9 8 aj ak bo bp aa.2.1.2∧Zb (Za.vrow 9 Za.str) 22 9 aj ak bq br aa.2.2.1∧Zb (Za.vrow 3 rI) 36 10 aj ak bs bt aa.2.2.2.1∧Zb (Za.vrow 42 (Za.pair (Za.pair Za.bool (Za.vrow 45 rU)) (Za.vrow 45 rU))) 29 11 aj ak bu bv aa.2.2.2.2∧Ze 27 12 aj ak c2 #[.string aa.1,.slice bo ((aa.2.1.2.take aa.2.1.1).length) bp,.slice bq aa.2.2.1.length br,.slice bs aa.2.2.2.1.length bt,.slice bu aa.2.2.2.2.length bv]∧It prog 2 cv (fun (y:List Int×R1) (col:Zd) (w:World) (args:List Value)=>∃ a0 a4 a1_0_1 c1_0_1 a5 a6,args=[.slice a0 y.1.length a4,.agg #[.bool y.2.1.1,.slice a1_0_1 y.2.1.2.length c1_0_1,.slice a5 y.2.2.length a6]]∧Zb rI 3 13 col w a0 a4 y.1∧Zb rU 45 14 col w a1_0_1 c1_0_1 y.2.1.2∧Zb rU 45 15 col w a5 a6 y.2.2) b6 q1 aj ak∧Ze 3 16 aj ak b4 #[.int .i64 a3])) ?_ ?_ ⟨false,0,hm,ab,al,am,an,ao,ap,az,ad,af,ae,ag,ah,aq,ar,au,av,ay,aw,ax⟩ ?_ ?_ ?_
  ·intro ys_ aj ak col2_ w2_ hJ hk;obtain ⟨a8,a3,hm,ab,al,am,an,ao,ap,az,ad,af,ae,ag,ah,aq,ar,au,av,ay,aw,ax⟩:=hJ;exact ⟨a8,a3,hm,ab.kpp hk rfl rfl,al.kpp hk rfl,am.kpp hk rfl,an.kpp hk rfl,ao.kpp hk rfl,ap.kpp hk rfl,az.kpp hk rfl,ad.kpp hk rfl,af.kpp hk rfl rfl,ae.kpp hk rfl,ag.kpp hk rfl rfl,ah.kpp hk rfl,aq.kpp hk rfl rfl,ar.kpp hk rfl rfl,au.kpp hk rfl rfl,av.kpp hk rfl rfl,ay.kpp hk rfl,aw.kpp hk (Zmu rfl),ax.kpp hk rfl⟩
  ·intro c_ aj ak col2_ w2_ hX hk;rcases hX with ⟨rfl,hX⟩ | ⟨rfl,hX⟩
   ·obtain ⟨a8,a3,hm,ab,al,am,an,ao,ap,az,ad,af,ae,ag,ah,aq,ar,au,av,ay,aw,ax⟩:=hX;exact .inl (⟨rfl,⟨a8,a3,hm,ab.kpp hk rfl rfl,al.kpp hk rfl,am.kpp hk rfl,an.kpp hk rfl,ao.kpp hk rfl,ap.kpp hk rfl,az.kpp hk rfl,ad.kpp hk rfl,af.kpp hk rfl rfl,ae.kpp hk rfl,ag.kpp hk rfl rfl,ah.kpp hk rfl,aq.kpp hk rfl rfl,ar.kpp hk rfl rfl,au.kpp hk rfl rfl,av.kpp hk rfl rfl,ay.kpp hk rfl,aw.kpp hk (Zmu rfl),ax.kpp hk rfl⟩⟩)
   obtain ⟨a8,a3,hm,ab,al,am,an,ao,ap,az,ad,af,ae,ag,ah,aq,ar,au,av,ay,aw,ax⟩:=hX;exact .inr (⟨rfl,⟨a8,a3,hm,ab.kpp hk rfl rfl,al.kpp hk rfl,am.kpp hk rfl,an.kpp hk rfl,ao.kpp hk rfl,ap.kpp hk rfl,az.kpp hk rfl,ad.kpp hk rfl,af.kpp hk rfl rfl,ae.kpp hk rfl,ag.kpp hk rfl rfl,ah.kpp hk rfl,aq.kpp hk rfl rfl,ar.kpp hk rfl rfl,au.kpp hk rfl rfl,av.kpp hk rfl rfl,ay.kpp hk rfl,aw.kpp hk (Zmu rfl),ax.kpp hk rfl⟩⟩)
  ·intro ea k5 eb cy ec aj ak args hJ hrec hmk harr;obtain ⟨a8,a3,hm,ab,al,am,an,ao,ap,az,ad,af,ae,ag,ah,aq,ar,au,av,ay,aw,ax⟩:=hJ;rw [U2.eq_2] at hm;have hki:=Z1.refl (pC 2) aj ak;obtain ⟨gt,gu,ed,ee,ef,eg,rfl,cz,cq,cr⟩:=harr;refine go ?_;refine Xt (col:=aj) #[.bool false,(nI),(nI)] 18 zeroValue42 ?_;intro de k6 cs bx jf;refine Xg jf ?_;intro k7 bz gv a1;refine Zj ?_;replace hrec:=(hrec.gr bx).kp bz;refine ⟨_,hrec,?_⟩;intro k8 eh b0 gw hrec2;have hrec:=hrec2;refine Zde<|Zw<|Zw ?_;replace al:=((al.gr bx).kp bz).kp b0;replace am:=((am.gr bx).kp bz).kp b0;replace an:=((an.gr bx).kp bz).kp b0;replace ao:=((ao.gr bx).kp bz).kp b0;replace af:=((af.gr bx).kp bz).kp b0;replace ag:=((ag.gr bx).kp bz).kp b0;replace aq:=((aq.gr bx).kp bz).kp b0;replace ar:=((ar.gr bx).kp bz).kp b0;replace au:=((au.gr bx).kp bz).kp b0;replace av:=((av.gr bx).kp bz).kp b0;replace aw:=((aw.gr bx).kp bz rfl).kp b0 rfl;replace cq:=((cq.gr bx).kp bz).kp b0;replace cr:=((cr.gr bx).kp bz).kp b0;replace cz:=((cz.gr bx).kp bz).kp b0;replace ap:=((ap.gr bx).kp bz).kp b0;replace az:=((az.gr bx).kp bz).kp b0;replace ad:=((ad.gr bx).kp bz).kp b0;replace ae:=((ae.gr bx).kp bz).kp b0;replace ah:=((ah.gr bx).kp bz).kp b0;replace ay:=((ay.gr bx).kp bz).kp b0;replace ax:=((ax.gr bx).kp bz).kp b0;replace hmk:=((hmk.gr bx).kp bz).kp b0;replace hki:=((hki.gr bx).kp bz gv rfl).kp b0 gw rfl;replace ab:=((ab.grow bx).kp bz gv).kp b0 gw;replace a1:=a1.kp b0
   refine Wp.cutK [] (fun f bc=>∃ a9 fu,Zgp N ac a7 ai aa b6 a8 a3 (U2 N ac a7 ai aa b6 ec) cy fu=some r∧St w0 (Zg col) a9 bc∧Zb rI 3 13 a9 bc gt gu cy.1∧Zb rU 45 14 a9 bc ed ee cy.2.1.2∧Zb rU 45 15 a9 bc ef eg cy.2.2∧Ze 42 18 a9 bc de #[.bool cy.2.1.1,.slice ed cy.2.1.2.length ee,.slice ef cy.2.2.length eg]∧Sl Za.str a9 bc cc cd ac.2.1∧Sl rV a9 bc ce cf ac.2.2.1∧Sl rP a9 bc cg ch ac.2.2.2.1∧Sl (Za.slice rQ) a9 bc ci cj ac.2.2.2.2∧Ze 27 1 a9 bc c0 #[.string ac.1,.slice cc ac.2.1.length cd,.slice ce ac.2.2.1.length cf,.slice cg ac.2.2.2.1.length ch,.slice ci ac.2.2.2.2.length cj]∧Ze 3 2 a9 bc c7 #[.int .i64 a7]∧Ze 4 3 a9 bc bb #[.bool a8]∧Zb rP 36 4 a9 bc bg bh ai.1∧Ze 24 6 a9 bc ck #[.slice bg ai.1.length bh]∧Zb (rO 45) 42 5 a9 bc bi bj ai.2∧Ze 29 7 a9 bc cl #[.slice bi ai.2.length bj]∧Zb Za.str 9 8 a9 bc bo bp aa.2.1.2∧Zb (Za.vrow 9 Za.str) 22 9 a9 bc bq br aa.2.2.1∧Zb (Za.vrow 3 rI) 36 10 a9 bc bs bt aa.2.2.2.1∧Zb (Za.vrow 42 (Za.pair (Za.pair Za.bool (Za.vrow 45 rU)) (Za.vrow 45 rU))) 29 11 a9 bc bu bv aa.2.2.2.2∧Ze 27 12 a9 bc c2 #[.string aa.1,.slice bo ((aa.2.1.2.take aa.2.1.1).length) bp,.slice bq aa.2.2.1.length br,.slice bs aa.2.2.2.1.length bt,.slice bu aa.2.2.2.2.length bv]∧It prog 2 cv (fun (y:List Int×R1) (col:Zd) (w:World) (args:List Value)=>∃ a0 a4 a1_0_1 c1_0_1 a5 a6,args=[.slice a0 y.1.length a4,.agg #[.bool y.2.1.1,.slice a1_0_1 y.2.1.2.length c1_0_1,.slice a5 y.2.2.length a6]]∧Zb rI 3 13 col w a0 a4 y.1∧Zb rU 45 14 col w a1_0_1 c1_0_1 y.2.1.2∧Zb rU 45 15 col w a5 a6 y.2.2) b6 q1 a9 bc∧Ze 3 16 a9 bc b4 #[.int .i64 a3]∧Wi 498 a9 bc ea eh∧Ym 499 a9 bc eb∧Z1 (pC 2) aj ak a9 bc∧[10,11,2,3,4,5,57,6,7,8,9,1000000].map f=[.slice gt cy.1.length gu,.pointer (some ⟨de,0,none⟩),.pointer (some ⟨c0,0,none⟩),.pointer (some ⟨c7,0,none⟩),.pointer (some ⟨bb,0,none⟩),.pointer (some ⟨ck,0,none⟩),.bool fu,.pointer (some ⟨cl,0,none⟩),.pointer (some ⟨c2,0,none⟩),cv,.pointer (some ⟨b4,0,none⟩),enc []]) ?_ ?_
   ·intro f bc hJ;obtain ⟨a9,fu,hm,ab,cz,cq,cr,a1,al,am,an,ao,ap,az,ad,af,ae,ag,ah,aq,ar,au,av,ay,aw,ax,hrec,hmk,hki,hs⟩:=hJ;rw [Zgp.eq_1] at hm;refine .lL [10,11,2,3,4,5,57,6,7,8,9,1000000] hs ?_;refine Zl hm (fun hb hm=>go ?_) fun hb hm=>go ?_
    ·refine W5 (v:=(.bool false)) ad sizeOf4 rfl rfl (by intro u hu;simp only [Value.cells,aM,aO,or_false] at hu;subst hu;rfl) rfl rfl ?_;intro jg ca gx fv;replace fv:Ze 4 3 a9 jg bb #[.bool false]:=fv;refine go ?_;replace al:=al.kp ca;replace am:=am.kp ca;replace an:=an.kp ca;replace ao:=ao.kp ca;replace af:=af.kp ca;replace ag:=ag.kp ca;replace aq:=aq.kp ca;replace ar:=ar.kp ca;replace au:=au.kp ca;replace av:=av.kp ca;replace aw:=aw.kp ca rfl;replace ap:=ap.kp ca;replace az:=az.kp ca;replace ae:=ae.kp ca;replace ah:=ah.kp ca;replace ay:=ay.kp ca;replace ax:=ax.kp ca;replace hrec:=hrec.kp ca;replace hmk:=hmk.kp ca;replace hki:=hki.kp ca gx rfl;replace ab:=ab.kp ca gx;exact ⟨_,hki,.inr (⟨rfl,⟨false,a3,hm,ab,al,am,an,ao,ap,az,fv,af,ae,ag,ah,aq,ar,au,av,ay,aw,ax⟩⟩),hrec,hmk⟩
    refine Zt [] (fun n f bd=>∃ be dz d0 dp ei dq,dq=n∧Zdu N ac a7 ai aa b6 a8 a3 (U2 N ac a7 ai aa b6 ec) cy dq dp ei=some r∧St w0 (Zg col) be bd∧Zb rI 3 13 be bd dz d0 dp∧Zb rU 45 14 be bd ed ee cy.2.1.2∧Zb rU 45 15 be bd ef eg cy.2.2∧Ze 42 18 be bd de #[.bool cy.2.1.1,.slice ed cy.2.1.2.length ee,.slice ef cy.2.2.length eg]∧Sl Za.str be bd cc cd ac.2.1∧Sl rV be bd ce cf ac.2.2.1∧Sl rP be bd cg ch ac.2.2.2.1∧Sl (Za.slice rQ) be bd ci cj ac.2.2.2.2∧Ze 27 1 be bd c0 #[.string ac.1,.slice cc ac.2.1.length cd,.slice ce ac.2.2.1.length cf,.slice cg ac.2.2.2.1.length ch,.slice ci ac.2.2.2.2.length cj]∧Ze 3 2 be bd c7 #[.int .i64 a7]∧Ze 4 3 be bd bb #[.bool a8]∧Zb rP 36 4 be bd bg bh ai.1∧Ze 24 6 be bd ck #[.slice bg ai.1.length bh]∧Zb (rO 45) 42 5 be bd bi bj ai.2∧Ze 29 7 be bd cl #[.slice bi ai.2.length bj]∧Zb Za.str 9 8 be bd bo bp aa.2.1.2∧Zb (Za.vrow 9 Za.str) 22 9 be bd bq br aa.2.2.1∧Zb (Za.vrow 3 rI) 36 10 be bd bs bt aa.2.2.2.1∧Zb (Za.vrow 42 (Za.pair (Za.pair Za.bool (Za.vrow 45 rU)) (Za.vrow 45 rU))) 29 11 be bd bu bv aa.2.2.2.2∧Ze 27 12 be bd c2 #[.string aa.1,.slice bo ((aa.2.1.2.take aa.2.1.1).length) bp,.slice bq aa.2.2.1.length br,.slice bs aa.2.2.2.1.length bt,.slice bu aa.2.2.2.2.length bv]∧It prog 2 cv (fun (y:List Int×R1) (col:Zd) (w:World) (args:List Value)=>∃ a0 a4 a1_0_1 c1_0_1 a5 a6,args=[.slice a0 y.1.length a4,.agg #[.bool y.2.1.1,.slice a1_0_1 y.2.1.2.length c1_0_1,.slice a5 y.2.2.length a6]]∧Zb rI 3 13 col w a0 a4 y.1∧Zb rU 45 14 col w a1_0_1 c1_0_1 y.2.1.2∧Zb rU 45 15 col w a5 a6 y.2.2) b6 q1 be bd∧Ze 3 16 be bd b4 #[.int .i64 a3]∧Wi 498 be bd ea eh∧Ym 499 be bd eb∧Z1 (pC 2) aj ak be bd∧[10,11,12,2,3,4,5,6,7,8,9,1000000].map f=[.slice dz dp.length d0,.pointer (some ⟨de,0,none⟩),.int .i64 ei,.pointer (some ⟨c0,0,none⟩),.pointer (some ⟨c7,0,none⟩),.pointer (some ⟨bb,0,none⟩),.pointer (some ⟨ck,0,none⟩),.pointer (some ⟨cl,0,none⟩),.pointer (some ⟨c2,0,none⟩),cv,.pointer (some ⟨b4,0,none⟩),enc []]) N ⟨_,_,_,_,0,_,rfl,hm,ab,cz,cq,cr,a1,al,am,an,ao,ap,az,ad,af,ae,ag,ah,aq,ar,au,av,ay,aw,ax,hrec,hmk,hki,rfl⟩ ?_
    clear hm;intro n f bd hI;obtain ⟨be,dz,d0,dp,ei,dq,hn,hm,ab,gy,cq,cr,a1,al,am,an,ao,ap,az,ad,af,ae,ag,ah,aq,ar,au,av,ay,aw,ax,hrec,hmk,hki,hs⟩:=hI;subst hn;refine .lL [10,11,12,2,3,4,5,6,7,8,9,1000000] hs ?_
    cases dq with
    | zero=>rw [Zdu.eq_1] at hm;cases hm
    | succ dq=>
     rw [Zdu.eq_2] at hm;refine go ?_;refine Zl hm (fun hb hm=>go ?_) fun hb hm=>go ?_
     ·obtain ⟨k9,fw,hm⟩:=bZ hm;refine lI fw (gy.addr fw) ?_;obtain ⟨fx,ej,hm⟩:=bZ hm;have ej:fx=dp.set (aA ei) 77:=(Option.some.inj ej).symm;refine Yp (x1:=77) gy fw ?_;intro la b1 gz g0;rw [← ej] at g0;refine .ld (d:=10) (v:=(.slice dz fx.length d0)) (congrArg (fun n=>Value.slice dz n d0) (show dp.length=fx.length by rw [ej,nS])) ?_;refine go ?_;replace cq:=cq.kp b1;replace cr:=cr.kp b1;replace al:=al.kp b1;replace am:=am.kp b1;replace an:=an.kp b1;replace ao:=ao.kp b1;replace af:=af.kp b1;replace ag:=ag.kp b1;replace aq:=aq.kp b1;replace ar:=ar.kp b1;replace au:=au.kp b1;replace av:=av.kp b1;replace aw:=aw.kp b1 rfl;replace a1:=a1.kp b1;replace ap:=ap.kp b1;replace az:=az.kp b1;replace ad:=ad.kp b1;replace ae:=ae.kp b1;replace ah:=ah.kp b1;replace ay:=ay.kp b1;replace ax:=ax.kp b1;replace hrec:=hrec.kp b1;replace hmk:=hmk.kp b1;replace hki:=hki.kp b1 gz rfl;replace ab:=ab.kp b1 gz;exact ⟨dq,by omega,rfl,⟨_,_,_,_,_,_,rfl,hm,ab,g0,cq,cr,a1,al,am,an,ao,ap,az,ad,af,ae,ag,ah,aq,ar,au,av,ay,aw,ax,hrec,hmk,hki,rfl⟩⟩
     refine Zt [] (fun n f bm=>∃ bf ek el em dr en eo d1 ep ds,ds=n∧Zdv N ac a7 ai aa b6 a8 a3 (U2 N ac a7 ai aa b6 ec) ds ek dr d1 ep=some r∧St w0 (Zg col) bf bm∧Zb rU 45 14 bf bm el em dr∧Zb rU 45 15 bf bm en eo d1∧Ze 42 18 bf bm de #[.bool ek,.slice el dr.length em,.slice en d1.length eo]∧Sl Za.str bf bm cc cd ac.2.1∧Sl rV bf bm ce cf ac.2.2.1∧Sl rP bf bm cg ch ac.2.2.2.1∧Sl (Za.slice rQ) bf bm ci cj ac.2.2.2.2∧Ze 27 1 bf bm c0 #[.string ac.1,.slice cc ac.2.1.length cd,.slice ce ac.2.2.1.length cf,.slice cg ac.2.2.2.1.length ch,.slice ci ac.2.2.2.2.length cj]∧Ze 3 2 bf bm c7 #[.int .i64 a7]∧Ze 4 3 bf bm bb #[.bool a8]∧Zb rP 36 4 bf bm bg bh ai.1∧Ze 24 6 bf bm ck #[.slice bg ai.1.length bh]∧Zb (rO 45) 42 5 bf bm bi bj ai.2∧Ze 29 7 bf bm cl #[.slice bi ai.2.length bj]∧Zb Za.str 9 8 bf bm bo bp aa.2.1.2∧Zb (Za.vrow 9 Za.str) 22 9 bf bm bq br aa.2.2.1∧Zb (Za.vrow 3 rI) 36 10 bf bm bs bt aa.2.2.2.1∧Zb (Za.vrow 42 (Za.pair (Za.pair Za.bool (Za.vrow 45 rU)) (Za.vrow 45 rU))) 29 11 bf bm bu bv aa.2.2.2.2∧Ze 27 12 bf bm c2 #[.string aa.1,.slice bo ((aa.2.1.2.take aa.2.1.1).length) bp,.slice bq aa.2.2.1.length br,.slice bs aa.2.2.2.1.length bt,.slice bu aa.2.2.2.2.length bv]∧It prog 2 cv (fun (y:List Int×R1) (col:Zd) (w:World) (args:List Value)=>∃ a0 a4 a1_0_1 c1_0_1 a5 a6,args=[.slice a0 y.1.length a4,.agg #[.bool y.2.1.1,.slice a1_0_1 y.2.1.2.length c1_0_1,.slice a5 y.2.2.length a6]]∧Zb rI 3 13 col w a0 a4 y.1∧Zb rU 45 14 col w a1_0_1 c1_0_1 y.2.1.2∧Zb rU 45 15 col w a5 a6 y.2.2) b6 q1 bf bm∧Ze 3 16 bf bm b4 #[.int .i64 a3]∧Wi 498 bf bm ea eh∧Ym 499 bf bm eb∧Z1 (pC 2) aj ak bf bm∧[11,13,2,3,4,5,6,7,8,9,1000000].map f=[.pointer (some ⟨de,0,none⟩),.int .i64 ep,.pointer (some ⟨c0,0,none⟩),.pointer (some ⟨c7,0,none⟩),.pointer (some ⟨bb,0,none⟩),.pointer (some ⟨ck,0,none⟩),.pointer (some ⟨cl,0,none⟩),.pointer (some ⟨c2,0,none⟩),cv,.pointer (some ⟨b4,0,none⟩),enc []]) N ⟨_,_,_,_,_,_,_,_,0,_,rfl,hm,ab,cq,cr,a1,al,am,an,ao,ap,az,ad,af,ae,ag,ah,aq,ar,au,av,ay,aw,ax,hrec,hmk,hki,rfl⟩ ?_
     clear hm;intro n f bm hI;obtain ⟨bf,ek,el,em,dr,en,eo,d1,ep,ds,hn,hm,ab,fy,eq,a1,al,am,an,ao,ap,az,ad,af,ae,ag,ah,aq,ar,au,av,ay,aw,ax,hrec,hmk,hki,hs⟩:=hI;subst hn;refine .lL [11,13,2,3,4,5,6,7,8,9,1000000] hs ?_
     cases ds with
     | zero=>rw [Zdv.eq_1] at hm;cases hm
     | succ ds=>
      rw [Zdv.eq_2] at hm;refine go ?_;refine Z9 ⟨_,_,rfl⟩ ?_;refine Z9 (Wg ⟨_,_,rfl⟩) ?_;refine lW ((((a1.atN).part 0 2 _ rfl)).nth (q:=1) rfl)<|go ?_;refine Zl hm (fun hb hm=>go ?_) fun hb hm=>go ?_
      ·refine Z9 ⟨_,_,rfl⟩ ?_;refine Z9 (Wg ⟨_,_,rfl⟩) ?_;refine lW ((((a1.atN).part 0 2 _ rfl)).nth (q:=1) rfl)<|Xe rfl ?_;obtain ⟨lb,fz,hm⟩:=bZ hm;refine lI fz (fy.addr fz) ?_;obtain ⟨f0,er,hm⟩:=bZ hm;have er:f0=dr.set (aA ep) 78:=(Option.some.inj er).symm;refine Yp (x1:=78) fy fz ?_;intro jh b2 g1 g2;rw [← er] at g2;replace a1:=a1.kp b2;replace a1:Ze 42 18 bf jh de #[.bool ek,.slice el f0.length em,.slice en d1.length eo]:=by rw [← (show dr.length=f0.length by rw [er,nS])];exact a1
       refine go ?_;replace eq:=eq.kp b2;replace al:=al.kp b2;replace am:=am.kp b2;replace an:=an.kp b2;replace ao:=ao.kp b2;replace af:=af.kp b2;replace ag:=ag.kp b2;replace aq:=aq.kp b2;replace ar:=ar.kp b2;replace au:=au.kp b2;replace av:=av.kp b2;replace aw:=aw.kp b2 rfl;replace ap:=ap.kp b2;replace az:=az.kp b2;replace ad:=ad.kp b2;replace ae:=ae.kp b2;replace ah:=ah.kp b2;replace ay:=ay.kp b2;replace ax:=ax.kp b2;replace hrec:=hrec.kp b2;replace hmk:=hmk.kp b2;replace hki:=hki.kp b2 g1 rfl;replace ab:=ab.kp b2 g1;exact ⟨ds,by omega,rfl,⟨_,_,_,_,_,_,_,_,_,_,rfl,hm,ab,g2,eq,a1,al,am,an,ao,ap,az,ad,af,ae,ag,ah,aq,ar,au,av,ay,aw,ax,hrec,hmk,hki,rfl⟩⟩
      refine Zt [] (fun n f bn=>∃ ba es et eu d2 ew ey dt ez du,du=n∧Zdw N ac a7 ai aa b6 a8 a3 (U2 N ac a7 ai aa b6 ec) du es d2 dt ez=some r∧St w0 (Zg col) ba bn∧Zb rU 45 14 ba bn et eu d2∧Zb rU 45 15 ba bn ew ey dt∧Ze 42 18 ba bn de #[.bool es,.slice et d2.length eu,.slice ew dt.length ey]∧Sl Za.str ba bn cc cd ac.2.1∧Sl rV ba bn ce cf ac.2.2.1∧Sl rP ba bn cg ch ac.2.2.2.1∧Sl (Za.slice rQ) ba bn ci cj ac.2.2.2.2∧Ze 27 1 ba bn c0 #[.string ac.1,.slice cc ac.2.1.length cd,.slice ce ac.2.2.1.length cf,.slice cg ac.2.2.2.1.length ch,.slice ci ac.2.2.2.2.length cj]∧Ze 3 2 ba bn c7 #[.int .i64 a7]∧Ze 4 3 ba bn bb #[.bool a8]∧Zb rP 36 4 ba bn bg bh ai.1∧Ze 24 6 ba bn ck #[.slice bg ai.1.length bh]∧Zb (rO 45) 42 5 ba bn bi bj ai.2∧Ze 29 7 ba bn cl #[.slice bi ai.2.length bj]∧Zb Za.str 9 8 ba bn bo bp aa.2.1.2∧Zb (Za.vrow 9 Za.str) 22 9 ba bn bq br aa.2.2.1∧Zb (Za.vrow 3 rI) 36 10 ba bn bs bt aa.2.2.2.1∧Zb (Za.vrow 42 (Za.pair (Za.pair Za.bool (Za.vrow 45 rU)) (Za.vrow 45 rU))) 29 11 ba bn bu bv aa.2.2.2.2∧Ze 27 12 ba bn c2 #[.string aa.1,.slice bo ((aa.2.1.2.take aa.2.1.1).length) bp,.slice bq aa.2.2.1.length br,.slice bs aa.2.2.2.1.length bt,.slice bu aa.2.2.2.2.length bv]∧It prog 2 cv (fun (y:List Int×R1) (col:Zd) (w:World) (args:List Value)=>∃ a0 a4 a1_0_1 c1_0_1 a5 a6,args=[.slice a0 y.1.length a4,.agg #[.bool y.2.1.1,.slice a1_0_1 y.2.1.2.length c1_0_1,.slice a5 y.2.2.length a6]]∧Zb rI 3 13 col w a0 a4 y.1∧Zb rU 45 14 col w a1_0_1 c1_0_1 y.2.1.2∧Zb rU 45 15 col w a5 a6 y.2.2) b6 q1 ba bn∧Ze 3 16 ba bn b4 #[.int .i64 a3]∧Wi 498 ba bn ea eh∧Ym 499 ba bn eb∧Z1 (pC 2) aj ak ba bn∧[11,14,2,3,4,5,6,7,8,9,1000000].map f=[.pointer (some ⟨de,0,none⟩),.int .i64 ez,.pointer (some ⟨c0,0,none⟩),.pointer (some ⟨c7,0,none⟩),.pointer (some ⟨bb,0,none⟩),.pointer (some ⟨ck,0,none⟩),.pointer (some ⟨cl,0,none⟩),.pointer (some ⟨c2,0,none⟩),cv,.pointer (some ⟨b4,0,none⟩),enc []]) N ⟨_,_,_,_,_,_,_,_,0,_,rfl,hm,ab,fy,eq,a1,al,am,an,ao,ap,az,ad,af,ae,ag,ah,aq,ar,au,av,ay,aw,ax,hrec,hmk,hki,rfl⟩ ?_
      clear hm;intro n f bn hI;obtain ⟨ba,es,et,eu,d2,ew,ey,dt,ez,du,hn,hm,ab,f1,g3,a1,al,am,an,ao,ap,az,ad,af,ae,ag,ah,aq,ar,au,av,ay,aw,ax,hrec,hmk,hki,hs⟩:=hI;subst hn;refine .lL [11,14,2,3,4,5,6,7,8,9,1000000] hs ?_
      cases du with
      | zero=>rw [Zdw.eq_1] at hm;cases hm
      | succ du=>
       rw [Zdw.eq_2] at hm;refine go ?_;refine Zy a1 ?_;refine go ?_;refine Zl hm (fun hb hm=>go ?_) fun hb hm=>go ?_
       ·refine Zy a1<|Xe rfl ?_;obtain ⟨le,f2,hm⟩:=bZ hm;refine lI f2 (g3.addr f2) ?_;obtain ⟨f3,e0,hm⟩:=bZ hm;have e0:f3=dt.set (aA ez) 79:=(Option.some.inj e0).symm;refine Yp (x1:=79) g3 f2 ?_;intro ji b3 g4 g5;rw [← e0] at g5;replace a1:=a1.kp b3;replace a1:Ze 42 18 ba ji de #[.bool es,.slice et d2.length eu,.slice ew f3.length ey]:=by rw [← (show dt.length=f3.length by rw [e0,nS])];exact a1
        refine go ?_;replace al:=al.kp b3;replace am:=am.kp b3;replace an:=an.kp b3;replace ao:=ao.kp b3;replace af:=af.kp b3;replace ag:=ag.kp b3;replace aq:=aq.kp b3;replace ar:=ar.kp b3;replace au:=au.kp b3;replace av:=av.kp b3;replace aw:=aw.kp b3 rfl;replace ap:=ap.kp b3;replace az:=az.kp b3;replace ad:=ad.kp b3;replace ae:=ae.kp b3;replace ah:=ah.kp b3;replace ay:=ay.kp b3;replace ax:=ax.kp b3;replace hrec:=hrec.kp b3;replace hmk:=hmk.kp b3;replace hki:=hki.kp b3 g4 rfl;replace ab:=ab.kp b3 g4;exact ⟨du,by omega,rfl,⟨_,_,_,_,_,_,_,_,_,_,rfl,hm,ab,f1.kp b3,g5,a1,al,am,an,ao,ap,az,ad,af,ae,ag,ah,aq,ar,au,av,ay,aw,ax,hrec,hmk,hki,rfl⟩⟩
       refine lW ax.at1<|go ?_;refine W5 (v:=(.int .i64 (i64.wrap (a3+1)))) ax sizeOf3 rfl rfl (by intro u hu;simp only [Value.cells,aM,aO,or_false] at hu;subst hu;rfl) rfl rfl ?_;intro jj cb g6 d3;replace d3:Ze 3 16 ba jj b4 #[.int .i64 (i64.wrap (a3+1))]:=d3;refine go ?_;refine lW d3.at1 ?_;replace az:=az.kp cb;refine lW az.at1<|go ?_;replace al:=al.kp cb;replace am:=am.kp cb;replace an:=an.kp cb;replace ao:=ao.kp cb;replace af:=af.kp cb;replace ag:=ag.kp cb;replace aq:=aq.kp cb;replace ar:=ar.kp cb;replace au:=au.kp cb;replace av:=av.kp cb;replace aw:=aw.kp cb rfl;replace ap:=ap.kp cb;replace ad:=ad.kp cb;replace ae:=ae.kp cb;replace ah:=ah.kp cb;replace ay:=ay.kp cb;replace hrec:=hrec.kp cb;replace hmk:=hmk.kp cb;replace hki:=hki.kp cb g6 rfl;replace ab:=ab.kp cb g6;refine Zl hm (fun hb hm=>?_) fun hb hm=>?_
       ·refine Zil (Zss rfl (?_));exact ⟨_,hki,.inl (⟨rfl,⟨a8,(i64.wrap (a3+1)),hm,ab,al,am,an,ao,ap,az,ad,af,ae,ag,ah,aq,ar,au,av,ay,aw,d3⟩⟩),hrec,hmk⟩
       refine X7 ?_;exact ⟨_,hki,⟨a8,(i64.wrap (a3+1)),hm,ab,al,am,an,ao,ap,az,ad,af,ae,ag,ah,aq,ar,au,av,ay,aw,d3⟩,hrec,hmk⟩
   refine Y0 (col:=cs) (by kernel_rfl) (by kernel_rfl)<|qW (fun _ hC=>ax.at1.gr (hC.bl cs)) ?_;refine qW (fun _ hC=>ae.at1.gr (hC.bl cs)) ?_;refine go ?_;refine Xo hm (fun f4 hm=>go ?_) fun f4 hm=>go ?_
   ·refine qv (v:=(.bool true)) rfl (fun _ hC=>Z5 (congrArg Value.bool f4) rfl) ?_;refine go ?_;refine qP 49 rfl rfl<|qP 49 rfl rfl<|qP 49 rfl rfl<|qP 49 rfl rfl<|qP 49 rfl rfl<|qP 49 rfl rfl<|qP 49 rfl rfl<|qv (v:=(.bool true)) rfl (fun _ hC=>Z5 rfl rfl) ?_;refine Xw ?_;intro lf hC;replace hC:=hC.bl cs;replace al:=al.gr hC;replace am:=am.gr hC;replace an:=an.gr hC;replace ao:=ao.gr hC;replace af:=af.gr hC;replace ag:=ag.gr hC;replace aq:=aq.gr hC;replace ar:=ar.gr hC;replace au:=au.gr hC;replace av:=av.gr hC;replace aw:=aw.gr hC;replace cz:=cz.gr hC;replace cq:=cq.gr hC;replace cr:=cr.gr hC;replace ap:=ap.gr hC;replace az:=az.gr hC;replace ad:=ad.gr hC;replace ae:=ae.gr hC;replace ah:=ah.gr hC;replace ay:=ay.gr hC;replace ax:=ax.gr hC;replace a1:=a1.gr hC;replace hrec:=hrec.gr hC;replace hmk:=hmk.gr hC;replace hki:=hki.gr hC;replace ab:=ab.grow hC;exact ⟨rfl,_,_,hm,ab,cz,cq,cr,a1,al,am,an,ao,ap,az,ad,af,ae,ag,ah,aq,ar,au,av,ay,aw,ax,hrec,hmk,hki,rfl⟩
   refine qW (fun _ hC=>ae.at1.gr (hC.bl cs)) ?_;refine go ?_;refine qW (fun _ hC=>ax.at1.gr (hC.bl cs)) ?_;refine go ?_;obtain ⟨lh,f5,hm⟩:=bZ hm;refine qI f5 (af.addr f5) ?_;refine go ?_;obtain ⟨_,jk,jl⟩:=af.atN f5;obtain ⟨li,lj,rfl,jm⟩:=jk.slice;refine qW (fun _ hC=>jl.one.gr (hC.bl cs)) ?_;refine go ?_;obtain ⟨g7,jn,hm⟩:=bZ hm;refine qc (v:=(.bool g7)) rfl (fun _ hC=>⟨_,_,Sn call10 rfl rfl,(Zq6 jn ((cz.gr (hC.bl cs)).toSlF (Zm.int .i64)) ((jm.gr (hC.bl cs)).froz 13):).mono fun _ _ h=>⟨h.1,hC.trans (.of_below h.2)⟩⟩) ?_;refine go ?_;refine qv (v:=(.bool (!g7))) rfl (fun _ hC=>Xn (congrArg Value.bool f4) rfl) ?_;refine go ?_;refine Xo hm (fun f6 hm=>go ?_) fun f6 hm=>go ?_
   ·refine qv (v:=(.bool true)) rfl (fun _ hC=>Z5 (congrArg Value.bool f6) rfl) ?_;refine Xw ?_;intro lk hC;replace hC:=hC.bl cs;replace al:=al.gr hC;replace am:=am.gr hC;replace an:=an.gr hC;replace ao:=ao.gr hC;replace af:=af.gr hC;replace ag:=ag.gr hC;replace aq:=aq.gr hC;replace ar:=ar.gr hC;replace au:=au.gr hC;replace av:=av.gr hC;replace aw:=aw.gr hC;replace cz:=cz.gr hC;replace cq:=cq.gr hC;replace cr:=cr.gr hC;replace ap:=ap.gr hC;replace az:=az.gr hC;replace ad:=ad.gr hC;replace ae:=ae.gr hC;replace ah:=ah.gr hC;replace ay:=ay.gr hC;replace ax:=ax.gr hC;replace a1:=a1.gr hC;replace hrec:=hrec.gr hC;replace hmk:=hmk.gr hC;replace hki:=hki.gr hC;replace ab:=ab.grow hC;exact ⟨rfl,_,_,hm,ab,cz,cq,cr,a1,al,am,an,ao,ap,az,ad,af,ae,ag,ah,aq,ar,au,av,ay,aw,ax,hrec,hmk,hki,rfl⟩
   refine qv rfl (fun _ hC=>Xh isAgg42 sizeOf42 (a1.gr (hC.bl cs))) ?_;refine go ?_;refine qW (fun _ hC=>ah.at1.gr (hC.bl cs)) ?_;refine go ?_;refine qW (fun _ hC=>ax.at1.gr (hC.bl cs)) ?_;refine go ?_;obtain ⟨f7,f8,hm⟩:=bZ hm;refine qI f8 (ag.addr f8) ?_;refine go ?_;obtain ⟨_,jo,jp⟩:=ag.atN f8;obtain ⟨_,_,rfl,jq,jr⟩:=jo.parts;obtain ⟨_,_,rfl,js,jt⟩:=jq.parts;obtain rfl:=js.bool;obtain ⟨ju,jv,rfl,jw⟩:=jt.row;obtain ⟨jx,jy,rfl,jz⟩:=jr.row;refine qv (v:=(.agg #[.bool f7.1.1,.slice ju f7.1.2.length jv,.slice jx f7.2.length jy])) rfl (fun _ hC=>Yq isAgg42 sizeOf42 rfl rfl (jp.gr (hC.bl cs))) ?_;refine go ?_;obtain ⟨g8,j0,hm⟩:=bZ hm;refine qc (v:=(.bool g8)) rfl (fun _ hC=>⟨_,_,Sn call11 rfl rfl,(Zq2 j0 ((((cq.gr (hC.bl cs)).toSlF (Zm.int .u32)).froz 15).froz 5) ((((cr.gr (hC.bl cs)).froz 14).toSlF (Zm.int .u32)).froz 5) ((((jw.gr (hC.bl cs)).froz 14).froz 15).toSlF (Zm.int .u32)) ((((jz.gr (hC.bl cs)).froz 14).froz 15).toSlF (Zm.int .u32)):).mono fun _ _ h=>⟨h.1,hC.trans (.of_below h.2)⟩⟩) ?_;refine go ?_;refine qv (v:=(.bool (!g8))) rfl (fun _ hC=>Xn (congrArg Value.bool f6) rfl) ?_;refine Xw ?_;intro ll hC;replace hC:=hC.bl cs;replace al:=al.gr hC;replace am:=am.gr hC;replace an:=an.gr hC;replace ao:=ao.gr hC;replace af:=af.gr hC;replace ag:=ag.gr hC;replace aq:=aq.gr hC;replace ar:=ar.gr hC;replace au:=au.gr hC;replace av:=av.gr hC;replace aw:=aw.gr hC;replace ap:=ap.gr hC;replace az:=az.gr hC;replace ad:=ad.gr hC;replace ae:=ae.gr hC;replace ah:=ah.gr hC;replace ay:=ay.gr hC;replace ax:=ax.gr hC;replace hmk:=hmk.gr hC;replace ab:=ab.grow hC;exact ⟨rfl,_,_,hm,ab,cz.gr hC,cq.gr hC,cr.gr hC,a1.gr hC,al,am,an,ao,ap,az,ad,af,ae,ag,ah,aq,ar,au,av,ay,aw,ax,hrec.gr hC,hmk,hki.gr hC,rfl⟩
  ·intro j1 aj ak hJ hmk;obtain ⟨a8,a3,hm,ab,al,am,an,ao,ap,az,ad,af,ae,ag,ah,aq,ar,au,av,ay,aw,ax⟩:=hJ;rw [U2.eq_1] at hm;refine go ?_;refine lW ax.at1<|lW az.at1<|lW ae.at1<|go ?_;refine lV (.int .i64 (if (ai.1.length:Int)<a7 then (ai.1.length:Int) else a7)) (Zkl a7 (ai.1.length:Int) rfl rfl)<|go ?_;refine Zl hm (fun hb hm=>go ?_) fun hb hm=>?_
   ·refine W5 (v:=(.bool false)) ad sizeOf4 rfl rfl (by intro u hu;simp only [Value.cells,aM,aO,or_false] at hu;subst hu;rfl) rfl rfl ?_;intro j2 g9 j3 d4;replace d4:Ze 4 3 aj j2 bb #[.bool false]:=d4;refine go ?_;cases hm;replace hmk:=hmk.kp g9;refine ⟨_,(j1 :: []),rfl,hmk,?_⟩;intro lm ha j4;replace ab:=(ab.kp g9 j3).kp ha j4;exact ⟨_,Zda rfl rfl isAgg4 rfl (d4.kp ha).at1,rfl,ab.below⟩
   refine X7 ?_;exact ⟨rfl,_,_,_,_,hm,ab,al,am,an,ao,ap,ad,af,ae,ag,ah,aq,ar,au,av,ay,aw,ax,hmk,rfl⟩
  intro c_ hc aj ak hX hmk;rcases hX with ⟨rfl,hX⟩ | ⟨rfl,hX⟩
  ·obtain ⟨a8,a3,hm,ab,al,am,an,ao,ap,az,ad,af,ae,ag,ah,aq,ar,au,av,ay,aw,ax⟩:=hX;rw [Zb7.eq_1] at hm;refine go ?_;refine lW ax.at1<|lW az.at1<|lW ae.at1<|go ?_;refine lV (.int .i64 (if (ai.1.length:Int)<a7 then (ai.1.length:Int) else a7)) (Zkl a7 (ai.1.length:Int) rfl rfl)<|go ?_;refine Zl hm (fun hb hm=>go ?_) fun hb hm=>?_
   ·refine W5 (v:=(.bool false)) ad sizeOf4 rfl rfl (by intro u hu;simp only [Value.cells,aM,aO,or_false] at hu;subst hu;rfl) rfl rfl ?_;intro j5 hd j6 d5;replace d5:Ze 4 3 aj j5 bb #[.bool false]:=d5;refine go ?_;cases hm;replace hmk:=hmk.kp hd;refine ⟨_,(hc :: []),rfl,hmk,?_⟩;intro ln he j7;replace ab:=(ab.kp hd j6).kp he j7;exact ⟨_,Zda rfl rfl isAgg4 rfl (d5.kp he).at1,rfl,ab.below⟩
   refine X7 ?_;exact ⟨rfl,_,_,_,_,hm,ab,al,am,an,ao,ap,ad,af,ae,ag,ah,aq,ar,au,av,ay,aw,ax,hmk,rfl⟩
  obtain ⟨a8,a3,hm,ab,al,am,an,ao,ap,az,ad,af,ae,ag,ah,aq,ar,au,av,ay,aw,ax⟩:=hX;rw [Zou.eq_1] at hm;refine Y1 ?_;cases hm;refine ⟨_,(hc :: []),rfl,hmk,?_⟩;intro lo hf j8;replace ad:=ad.kp hf;replace ab:=ab.kp hf j8;exact ⟨_,Zda rfl rfl isAgg4 rfl ad.at1,rfl,ab.below⟩
 refine X7 ?_;exact ⟨rfl,_,_,0,_,hm,ab,al,am,an,ao,ap,ad,af,ae,ag,ah,aq,ar,au,av,ay,aw,ax,hmk,rfl⟩
abbrev Zkz:=List Int×QV
def OkX (y:Zkz):Prop:=y.1.length≤1048576∧y.2.1.2.length≤1099511627776∧y.2.2.length≤1099511627776
section
variable {N:Nat} {X:List Zkz} (hX:∀ y ∈ X,OkX y) (hXl:X.length≤65536) (hN:4611686018427387903<N)
include hX hXl hN
theorem Zsy (v:Bool):∀ (m k:Nat),k+m=X.length→S8 N (X.map (·.1),X.map (·.2)) true (X.drop k) v (k:Int)=some true
 | 0,k,h=>by
  rw [aF (by omega),S8.eq_1,if_pos rfl,Zi6,aH,decide_eq_true (by omega)]
 | m+1,k,h=>by
  have a:k<X.length:=by omega
  obtain ⟨b,c,d⟩:=hX _ (aD a)
  rw [aL a,S8.eq_2,if_neg (by rw [aH,decide_eq_false (by omega)];decide),Zs (by rw [aH];exact a),dD,oB,Zxq b (by omega),oB,if_neg (by decide),Zs (by rw [aH];exact a),dD,oB,Zxm ⟨c,d⟩ (by omega),oB,Zgo,if_neg (by decide),wS (by omega)]
  exact Zsy v m (k+1) (by omega)
variable {n:Z6} (hb:Zfy n)
include hb
theorem Zom (v:Bool) (i:Int):Zdt N n (X.map (·.1),X.map (·.2)) (Yf n) X v i=some true:=by
 have a:Zh4 N ((Yf n).1,((Yf n).2.1.1,(Yf n).2.1.2),(Yf n).2.2.1,(Yf n).2.2.2.1,(Yf n).2.2.2.2) (n.1,n.2.1,n.2.2.1,n.2.2.2.1,n.2.2.2.2)=some true:=Z22 hb (by omega)
 rw [Zdt,a,oB,Zyk,Z5u hb (by omega),oB]
 exact Zsy hX hXl hN v X.length 0 (cK _)
theorem Z2x (most:Int) (v:Bool) (i:Int) (h:i=if (X.length:Int)<most then (X.length:Int) else most):Zb7 N n most (X.map (·.1),X.map (·.2)) (Yf n) X v i=some true:=by
 rw [Zb7]
 dsimp only
 rw [aH,if_neg (by rw [decide_eq_true h];decide)]
 exact Zom hX hXl hN hb v i
omit hX hb hXl hN in
theorem Zs2 (most:Int) (L:List R2×List QV) (v:Bool) (i:Int) (kk:Bool→Int→Option Bool):∀ (f k:Nat) (s:Bool) (m d:List Int),k≤d.length→d.length≤1099511627776→d.length<f+k→
  Zdw N n most L (Yf n) X v i kk f s m d (k:Int)=if (decide ((i64.wrap (i+1))=most))=true then (Zb7 N n most L (Yf n) X v (i64.wrap (i+1))) else (kk v (i64.wrap (i+1)))
 | 0,k,s,m,d,a,b,c=>by omega
 | f+1,k,s,m,d,a,b,c=>by
  rw [Zdw.eq_2]
  by_cases hk:k<d.length
  ·rw [if_pos (dT (by omega)),Zs hk,oB,oB,aB,wS (by omega)]
   exact Zs2 most L v i kk f (k+1) s m _ (by rw [nS];omega) (by rw [nS];omega) (by rw [nS];omega)
  ·rw [if_neg (dF (by omega))]
omit hX hb hXl in
theorem Zs1 (most:Int) (L:List R2×List QV) (v:Bool) (i:Int) (kk:Bool→Int→Option Bool):∀ (f k:Nat) (s:Bool) (m d:List Int),k≤m.length→m.length≤1099511627776→d.length≤1099511627776→m.length<f+k→
  Zdv N n most L (Yf n) X v i kk f s m d (k:Int)=if (decide ((i64.wrap (i+1))=most))=true then (Zb7 N n most L (Yf n) X v (i64.wrap (i+1))) else (kk v (i64.wrap (i+1)))
 | 0,k,s,m,d,b,c,a,e=>by omega
 | f+1,k,s,m,d,b,c,a,e=>by
  rw [Zdv.eq_2]
  by_cases hk:k<m.length
  ·rw [if_pos (dT (by omega)),Zs hk,oB,oB,aB,wS (by omega)]
   exact Zs1 most L v i kk f (k+1) s _ d (by rw [nS];omega) (by rw [nS];omega) a (by rw [nS];omega)
  ·rw [if_neg (dF (by omega))]
   exact Zs2 most L v i kk N 0 s m d (bD _) a (by omega)
omit hX hb hXl in
theorem Zs0 (most:Int) (L:List R2×List QV) (v:Bool) (i:Int) (kk:Bool→Int→Option Bool) {y:Zkz} (hy:OkX y):∀ (f k:Nat) (w:List Int),k≤w.length→w.length≤1048576→w.length<f+k→
  Zdu N n most L (Yf n) X v i kk y f w (k:Int)=if (decide ((i64.wrap (i+1))=most))=true then (Zb7 N n most L (Yf n) X v (i64.wrap (i+1))) else (kk v (i64.wrap (i+1)))
 | 0,k,w,a,b,c=>by omega
 | f+1,k,w,a,b,c=>by
  rw [Zdu.eq_2]
  by_cases hk:k<w.length
  ·rw [if_pos (dT (by omega)),Zs hk,oB,oB,aB,wS (by omega)]
   exact Zs0 most L v i kk hy f (k+1) _ (by rw [nS];omega) (by rw [nS];omega) (by rw [nS];omega)
  ·obtain ⟨g,d,e⟩:=hy
   rw [if_neg (dF (by omega))]
   exact Zs1 hN most L v i kk N 0 _ _ _ (bD _) d e (by omega)
theorem Zsz (most:Int):∀ (m k:Nat) (v:Bool),k+m=X.length→(k:Int)<most→U2 N n most (X.map (·.1),X.map (·.2)) (Yf n) X (X.drop k) v (k:Int)=some true
 | 0,k,v,h,e=>by
  rw [aF (by omega),U2.eq_1]
  dsimp only
  rw [aH,if_neg (by rw [decide_eq_true (by rw [if_pos (by omega)];omega)];decide)]
  exact Zom hX hXl hN hb v _
 | m+1,k,v,h,e=>by
  have a:k<X.length:=by omega
  have f:=hX _ (aD a)
  obtain ⟨b,c,d⟩:=f
  rw [aL a,U2.eq_2,if_neg (by rw [aH,decide_eq_false (by omega)];decide),Zs (by rw [aH];exact a),dD,oB,Zxq b (by omega),oB,if_neg (by decide),Zs (by rw [aH];exact a),dD,oB,Zxm ⟨c,d⟩ (by omega),oB,Zgp,if_neg (by decide)]
  refine (Zs0 hN most _ v (k:Int) _ ⟨b,c,d⟩ N 0 _ (bD _) b (by omega)).trans ?_
  rw [wS (by omega)]
  by_cases hl:((k+1:Nat):Int)=most
  ·rw [if_pos (dT hl)]
   exact Z2x hX hXl hN hb most v _ (by rw [if_neg (by omega)];exact hl)
  ·rw [if_neg (dF hl)]
   exact Zsz most m (k+1) v (by omega) (by omega)
end
theorem Zk4 (n:Z6):∀ (m k:Nat),Zfz n k m=(List.range' k m).map fun j=>(Ye (Zq n) j,Xc (Zac n j))
 | 0,k=>rfl
 | m+1,k=>by rw [Zfz,Zk4 n m (k+1),List.range'_succ,cG];rfl
theorem Zyt {N W K:Nat} {n:Z6} {most:Int} (hs:Wr n W) (hb:Zfy n) (hq:∀ t ∈ n.2.2.2.2,Xz (t.map Wm)≤W) (hr:Xa N (8 * K+40)) (hWK:1025 * (W+2)+15≤K) (hK:2 * K≤1099511627776) (hN:4611686018427387903<N):Zlv N n most=some true:=by
 obtain ⟨r,J,Z⟩:=Zty (N:=N) hb.vl hb.vn (fun t o=>⟨hb.tl t o,hb.tm t o⟩) hb.tn (by omega) N 0 1 (bD _) (by decide) (by have:=hb.vn;omega)
 have p:Zlx N (n.1,n.2.1,n.2.2.1,n.2.2.2.1,n.2.2.2.2)=some r:=J
 obtain ⟨e,L,q,fine⟩:=Z1f hs (hr.mono (s:=8 * W+40) (by omega)) (by omega)
 have u:Tf N (n.1,n.2.1,n.2.2.1,n.2.2.2.1,n.2.2.2.2)=some e:=L
 have v:Zcn N (n.1,n.2.1,n.2.2.1,n.2.2.2.1,n.2.2.2.2)=some e:=q
 have f:∃ c,Tj N n [] []=some c∧((r=true→c=4)→∃ X:List Zkz,Zbf N n=some (X.map (·.1),X.map (·.2))∧Zb4 N n=some X∧X.length≤65536∧∀ y ∈ X,OkX y):=by
  by_cases h0:e=0
  ·have d:=fine h0
   subst h0
   obtain ⟨k,a,M,w3⟩:=Z2z d hs (hr.mono (by omega)) (by omega) [] [] (by simp) (by simp) q
   refine ⟨Ss n [] [],k,fun V=>?_⟩
   have w:Tj N (n.1,n.2.1,n.2.2.1,n.2.2.2.1,n.2.2.2.2) [] []=some (Ss n [] []):=k
   have x:T6 N (n.1,n.2.1,n.2.2.1,n.2.2.2.1,n.2.2.2.2) [] []=some (a,Ss n [] []):=M
   by_cases hw:Ss n [] []=0
   ·have m:Z4 (Zq n)≤65536:=by
     rcases Nat.lt_or_ge 65536 (Z4 (Zq n)) with g | g
     ·rw [Ss] at hw;simp [g] at hw
     ·exact g
    refine ⟨Zfz n 0 (Z4 (Zq n)),?_,Z2y d hs hr (by omega) (by omega) hq m,?_,?_⟩
    ·rw [Z40 d hs hr hWK hN m (by rw [k,hw]),Zk4,fG,fG,List.range_eq_range'];rfl
    ·rw [Zk4,aH,List.length_range'];exact m
    ·intro y A
     rw [Zk4] at A
     obtain ⟨j,O,rfl⟩:=List.mem_map.1 A
     have B:j<Z4 (Zq n):=by have:=List.mem_range'_1.1 O;omega
     have C:=Zll d (Zlk (Zq n) j (Qn d) B)
     have Y:=d.le
     have g:=Zu9 d hs C n.2.1.length 0 1 (cK _) (by rw [Zmw];omega)
     have P:qs (Zac n j)≤K:=by
      rw [cK] at g
      have h3:n.2.1.length * (W+1)≤1024 * (W+1):=Nat.mul_le_mul_right _ (by omega)
      rw [Zac];omega
     obtain ⟨i,Q⟩:=Z36 P (by omega:K≤1099511627776) 0
     exact ⟨by show (Ye (Zq n) j).length≤_;rw [C.len];omega,i,Q⟩
   ·have b:(!decide (Ss n [] []=0))=true:=by rw [decide_eq_false hw];rfl
    refine ⟨[],?_,?_,by decide,by simp⟩
    ·rw [Zbf,w,oB,if_pos b];rfl
    ·rw [Zb4,x,oB];dsimp only;rw [if_pos b,Zi5]
  ·have b:(!decide (e=0))=true:=by rw [decide_eq_false h0];rfl
   have R:T6 N (n.1,n.2.1,n.2.2.1,n.2.2.2.1,n.2.2.2.2) [] []=some ([],e):=by
    rw [T6,u,oB,if_pos b]
   have D:Tj N (n.1,n.2.1,n.2.2.1,n.2.2.2.1,n.2.2.2.2) [] []=some e:=by
    rw [Tj,v,oB,if_pos b]
   refine ⟨e,D,fun _=>⟨[],?_,?_,by decide,by simp⟩⟩
   ·rw [Zbf,D,oB,if_pos b];rfl
   ·rw [Zb4,R,oB];dsimp only;rw [if_pos b,Zi5]
 obtain ⟨c,S,f⟩:=f
 have E:Tj N (n.1,n.2.1,n.2.2.1,n.2.2.2.1,n.2.2.2.2) [] []=some c:=S
 have lg:Zi8 N (n.1,n.2.1,n.2.2.1,n.2.2.2.1,n.2.2.2.2)=some (decide (c=4)):=by rw [Zi8,E,oB]
 have F:Zi7 N (n.1,n.2.1,n.2.2.1,n.2.2.2.1,n.2.2.2.2)=some (r&&!decide (c=4)):=by
  rw [Zi7,p,oB,lg,oB]
  cases r with
  | true=>rw [if_pos rfl];rfl
  | false=>rw [if_neg (by decide)];rfl
 rw [Zlv,F,oB]
 by_cases hi:(r&&!decide (c=4))=true
 ·rw [if_pos hi]
 ·rw [if_neg hi]
  obtain ⟨X,T,U,G,H⟩:=f fun h=>by
   rw [h,Bool.true_and] at hi
   by_cases i:c=4
   ·exact i
   ·exact absurd (by rw [decide_eq_false i];rfl) hi
  have I:Zbf N (n.1,n.2.1,n.2.2.1,n.2.2.2.1,n.2.2.2.2)=some (X.map (·.1),X.map (·.2)):=T
  have l:Zh5 N (n.1,n.2.1,n.2.2.1,n.2.2.2.1,n.2.2.2.2)=some (Yf n):=Z3e hb (by omega)
  rw [I,oB,l,oB,Zyk,U,oB]
  by_cases hm:0<most
  ·rw [if_pos (dT hm)]
   exact Zsz H G hN hb most X.length 0 false (cK _) hm
  ·rw [if_neg (dF hm)]
   exact Zom H G hN hb _ _
theorem Zal {α:Type} {b:α→Nat} (hb:∀ x,1≤b x):∀ (l:List α),l.length+1≤Xx b l
 | []=>by simp [Xx]
 | x :: l=>by
  have h:=Zal hb l
  have:=hb x
  simp only [Xx,cG,eQ,nC] at h ⊢
  omega
theorem Zkd {α:Type} {b:α→Nat} {x:α}:∀ {l:List α},x ∈ l→b x+1≤Xx b l
 | y :: l,h=>by
  simp only [Xx,cG,eQ]
  rcases aM.1 h with rfl | h
  ·omega
  ·have:=Zkd (b:=b) h
   simp only [Xx] at this
   omega
theorem Znr {α:Type} {b:α→Nat} (l:List α):1≤Xx b l:=by simp only [Xx];omega
theorem Zk7 (s:ByteArray):1≤V5 s:=by simp only [V5];omega
theorem Znp {α:Type} (s:α):1≤W0 s:=by simp only [W0];omega
theorem Zy1 {α:Type} {b:α→Nat} (s:α):1≤Ub b s:=by simp only [Ub];omega
abbrev Qs:QV→Nat:=Ub (W4 (Ub (W4 W0 (Xx W0))) (Xx W0))
abbrev qQ:QV→Prop:=Tl (Tl (fun _=>True) (Ve (Zai .u32))) (Ve (Zai .u32))
abbrev Ziq:Z6→Nat:=Ub (W4 V5 (W4 (Xx V5) (W4 (Xx (Xx V5)) (W4 (Xx (Xx W0)) (Xx (Xx Qs))))))
abbrev Zpc:Z6→Prop:=Tl (fun _=>True) (Tl (Ve (fun _=>True)) (Tl (Ve (Ve (fun _=>True))) (Tl (Ve (Ve (Zai .i64))) (Ve (Ve qQ)))))
theorem Ztr {l:List Int} (h:Ve (Zai .u32) l):Zn l:=by
 intro d a
 have b:=h d a
 simp [Zai,Lit.wf,IntKind.min,IntKind.max,IntKind.signed,IntKind.bits] at b
 omega
theorem Ztq {x:QV} (h:qQ x):W3 x:=⟨Ztr h.1.2,Ztr h.2⟩
theorem Znq (x:QV):x.1.2.length+x.2.length+4≤Qs x:=by
 have a:=Zal (b:=W0) Znp x.1.2
 have c:=Zal (b:=W0) Znp x.2
 simp only [Ub,W4]
 have d:W0 x.1.1=1:=rfl
 omega
theorem Zvg:∀ t:List QV,Xz t≤Xx Qs t
 | []=>by rw [Xz];omega
 | x :: t=>by
  have a:=Zvg t
  have b:=Znq x
  rw [Xz]
  simp only [Xx,cG,eQ] at a ⊢
  omega
theorem Zyf:∀ P:List R2,Uw P+P.length≤Xx (Xx W0) P
 | []=>by simp [Uw,Xx]
 | l :: P=>by
  have a:=Zyf P
  have c:=Zal (b:=W0) Znp l
  rw [Zkt,nC]
  simp only [Xx,cG,eQ] at a c ⊢
  omega
theorem Z3y {n:Z6} (hb:Ziq n≤1048576) (hq:Zpc n):Wr n 1048576∧Zfy n:=by
 have m:=Zk7 n.1
 have o:=Zal (b:=V5) Zk7 n.2.1
 have p:=Zal (b:=Xx V5) Znr n.2.2.1
 have q:=Zyf n.2.2.2.1
 have r:=Zal (b:=Xx Qs) Znr n.2.2.2.2
 have s:=Znr (b:=Xx W0) n.2.2.2.1
 simp only [Ziq,Ub,W4] at hb
 have g:∀ l ∈ n.2.2.1,l.length≤1048576:=fun l d=>by
  have c:=Zkd (b:=Xx V5) d
  have i:=Zal (b:=V5) Zk7 l
  omega
 have k:∀ l ∈ n.2.2.2.1,l.length≤1048576:=fun l d=>by
  have c:=Znd d
  omega
 have e:∀ t ∈ n.2.2.2.2,Xx Qs t≤1048576:=fun t a=>by
  have c:=Zkd (b:=Xx Qs) a
  omega
 have j:∀ t ∈ n.2.2.2.2,t.length≤1048576:=fun t a=>by
  have c:=e t a
  have i:=Zal (b:=Qs) Zy1 t
  omega
 refine ⟨⟨by omega,g,⟨by omega,by omega⟩,j,fun t a=>Nat.le_trans (Zvg t) (e t a),fun t a x f=>Ztq (hq.2.2.2.2 t a x f)⟩,⟨by omega,by omega,g,by omega,k,by omega,j,fun t a x f=>?_⟩⟩
 have c:=e t a
 have i:=Zkd (b:=Qs) f
 have u:=Znq x
 omega
theorem Zrt:∀ t:List QV,(∀ x ∈ t,W3 x)→Xz (t.map Wm)≤Xx Qs t
 | [],_=>by rw [List.map_nil,Xz];omega
 | x :: t,h=>by
  have b:=Zrt t fun y c=>h y (List.mem_cons_of_mem _ c)
  have e:=Znq x
  have a:=h x List.mem_cons_self
  have f:=Zvk (Zdc a.1 a.2)
  have d:max (Wm x).1.2.length (Wm x).2.length=qs (Xj x):=rfl
  rw [cG,Xz,d]
  simp only [Xx,cG,eQ] at b ⊢
  omega
theorem Z3x {n:Z6} (hb:Ziq n≤1048576) (hq:Zpc n):∀ t ∈ n.2.2.2.2,Xz (t.map Wm)≤1048576:=fun t a=>by
 have d:=Zrt t fun x c=>Ztq (hq.2.2.2.2 t a x c)
 have e:=Zkd (b:=Xx Qs) a
 have f:=Zk7 n.1
 simp only [Ziq,Ub,W4] at hb
 omega

end Go.Proofs.YthclpfhncgpnmaaGreat
