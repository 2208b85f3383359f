/-
  What functions of the program compute, as plain Lean functions (m_..), and proofs that they compute it (c_..). Printed by a program of the author; no conditions.
-/
import Derived.Test.YtkhnlgdenkikoaaGreatLearnChainBFloat
import Derived.Test.YtkhnlgdenkikoaaGreatProg
import Derived.Test.YtkhnlgdenkikoaaGreatLearnChainBBrief
import Derived.Test.YtkhnlgdenkikoaaGreatLearnChainBBulk
import Derived.Test.YtkhnlgdenkikoaaGreatLearnChainF5
set_option linter.unusedVariables false
set_option maxRecDepth 100000
set_option maxHeartbeats 2000000
namespace Go.Proofs.YtkhnlgdenkikoaaGreat
open Go Go.RowKit
open Go.IntKind (i8 i16 i32 i64 u8 u16 u32 u64)
open Go.Proofs.Tryz

def Q7 (aa:Bool):Option Bool:=
  some aa
def Zfj (N:Nat) (ae:R0) (al:List Int) (aa:R0) (ab:R9) (am:Bool):Option Bool:=
  if am=true then (some false) else (if (decide ((ab.length:Int)=0))=true then (some true) else ((Zm ab (i64.wrap ((ab.length:Int) - 1))).bind fun an=>Zv ((0:Int)≤(i64.wrap ((ab.length:Int) - 1))∧(i64.wrap ((ab.length:Int) - 1))≤(ab.length:Int)) ((Ta N (aa.1,aa.2.1,aa.2.2.1,aa.2.2.2.1,aa.2.2.2.2) ab).bind fun ac=>(Ta N (aa.1,aa.2.1,aa.2.2.1,aa.2.2.2.1,aa.2.2.2.2) (ab.take (Int.toNat (i64.wrap ((ab.length:Int) - 1))))).bind fun ag=>(Sj N 1 1).bind fun aj=>(Zdd N (aa.1,aa.2.1,aa.2.2.1,aa.2.2.2.1,aa.2.2.2.2) (ab.take (Int.toNat (i64.wrap ((ab.length:Int) - 1)))) ((aj.1.1,aj.1.2),aj.2)).bind fun ad=>(Zdj N (ad.1.1,ad.1.2.1,ad.1.2.2.1,ad.1.2.2.2.1,ad.1.2.2.2.2) an).bind fun ah=>(Zfo N (ae.1,ae.2.1,ae.2.2.1,ae.2.2.2.1,ae.2.2.2.2) al).bind fun af=>(Ta N (af.1,af.2.1,af.2.2.1,af.2.2.2.1,af.2.2.2.2) ab).bind fun ai=>if (decide (ac.2=0))=true then (if (decide (ag.2=0))=true then (if (decide (ad.2=0))=true then (if (decide (ah.2=0))=true then (if (decide (ai.2=0))=true then ((Sh N ((ag.1.1.1,ag.1.1.2),ag.1.2) ((ah.1.1.1,ah.1.1.2),ah.1.2)).bind fun ak=>(Qb N ((ac.1.1.1,ac.1.1.2),ac.1.2) ((ak.1.1,ak.1.2),ak.2)).bind fun ao=>if (decide (ao=0))=true then ((Qb N ((ac.1.1.1,ac.1.1.2),ac.1.2) ((ai.1.1.1,ai.1.1.2),ai.1.2)).bind fun ap=>Q7 (decide (ap=0))) else (Q7 false)) else (Q7 false)) else (Q7 false)) else (Q7 false)) else (Q7 false)) else (Q7 false))))
def Zko (N:Nat) (aa:R0) (ah:R9) (ad:List Int):Option Bool:=
  (Zqn).bind fun ag=>(Zck N (aa.1,aa.2.1,aa.2.2.1,aa.2.2.2.1,aa.2.2.2.2)).bind fun ab=>(Vq N (ab.1,ab.2.1,ab.2.2.1,ab.2.2.2.1,ab.2.2.2.2)).bind fun ai=>if (!decide (ai=0))=true then (some ag) else ((Zgp N (aa.1,aa.2.1,aa.2.2.1,aa.2.2.2.1,aa.2.2.2.2)).bind fun aj=>if (!aj)=true then (some false) else ((Zfk N (aa.1,aa.2.1,aa.2.2.1,aa.2.2.2.1,aa.2.2.2.2) ah true).bind fun ae=>(Ta N (ab.1,ab.2.1,ab.2.2.1,ab.2.2.2.1,ab.2.2.2.2) ([]:List R5)).bind fun ac=>if (!ag)=true then (Zfj N aa ad ab ae true) else (if (!decide (ac.2=0))=true then (Zfj N aa ad ab ae true) else ((Sj N 1 1).bind fun af=>(Qb N ((ac.1.1.1,ac.1.1.2),ac.1.2) ((af.1.1,af.1.2),af.2)).bind fun ak=>Zfj N aa ad ab ae (!decide (ak=0))))))
theorem Zy9 (N:Nat) (col:Ze) (w0:World) (dl:Option Addr) (dm:Nat) (dn:Option Addr) (dp:Nat) (dq:Option Addr) (dr:Nat) (ds:Option Addr) (dt:Nat) (aw:R0) (a1:Option Addr) (ez:Nat) (du:R9) (a2:Option Addr) (e0:Nat) (c8:List Int) (ct:Sl Za.str col w0 dl dm aw.2.1) (cu:Sl (Za.slice Za.str) col w0 dn dp aw.2.2.1) (cv:Sl (Za.slice (Za.int .i64)) col w0 dq dr aw.2.2.2.1) (cw:Sl (Za.slice (Za.pair (Za.pair Za.bool (Za.slice (Za.int .u32))) (Za.slice (Za.int .u32)))) col w0 ds dt aw.2.2.2.2) (h1:Sl (Za.slice (Za.int .i64)) col w0 a1 ez du) (h2:Sl (Za.int .i64) col w0 a2 e0 c8) (r:Bool) (hm:Zko N aw du c8=some r):
    Calls prog 4 #[(.agg #[.string aw.1,.slice dl aw.2.1.length dm,.slice dn aw.2.2.1.length dp,.slice dq aw.2.2.2.1.length dr,.slice ds aw.2.2.2.2.length dt]),.slice a1 du.length ez,.slice a2 c8.length e0] w0 (fun e w'=>e= .returned ((.bool r))∧Below w0.heap.size w0 w'):=by
 refine Xh 6 (m:=132) func4 rfl rfl rfl rfl rfl ?_;rw [Zko.eq_1] at hm;have aa:=St.start col w0;refine go ?_;refine Xo (col:=(Zk col)) 1 rfl ?_;intro fe ff dv fg af;refine go ?_;obtain ⟨c1,fh,hm⟩:=bZ hm;refine lc rfl rfl (Zgw call18) (Z2g dv _ c1 fh) ?_;rintro _ fi ⟨rfl,c9⟩;refine ⟨_,rfl,?_⟩;replace c9:Zh dv ff dv fi:=.of_below c9;refine go ?_;replace af:=af.gr c9;refine lV _ (Z9 isAgg27 sizeOf27 af) ?_;obtain ⟨az,fj,hm⟩:=bZ hm;replace ct:=ct.keep (Zi.start col w0);replace cu:=cu.keep (Zi.start col w0);replace cv:=cv.keep (Zi.start col w0);replace cw:=cw.keep (Zi.start col w0);replace aa:=(aa.grow fg).grow c9;refine Zj (Zrr 2 3 4 5 fj (ct.ks aa) (cu.ks aa) (cv.ks aa) (cw.ks aa)) ?_;rintro _ hk ⟨fk,dw,dx,dy,dz,d0,d1,d2,d3,rfl,e1,ab,ac,ad,ae⟩;refine ⟨_,rfl,?_⟩;refine Xj (col:=fk) #[.string (⟨#[]⟩),.slice none (([]:List ByteArray).length) 0,.slice none (([]:List R6).length) 0,.slice none (([]:List R5).length) 0,(.slice none (([]:List R7).length) 0)] 6 zeroValue27 ?_;intro fl hl da cx fm;refine Z2 fm ?_;intro fn cy fp ah;refine go ?_;refine lV _ (Z9 isAgg27 sizeOf27 ah) ?_;obtain ⟨hn,fq,hm⟩:=bZ hm;replace ab:=(ab.gr cx).kp cy;replace ac:=(ac.gr cx).kp cy;replace ad:=(ad.gr cx).kp cy;replace ae:=(ae.gr cx).kp cy;refine Zj (Zj7 fq ((((ab.toSlF Zd.str).froz 3).froz 4).froz 5) ((((ac.froz 2 (by decide)).toSlF (Zd.row Zd.str)).froz 4).froz 5) ((((ad.froz 2 (by decide)).froz 3 (by decide)).toSlF (Zd.row (Zd.int .i64))).froz 5) ((((ae.froz 2 (by decide)).froz 3 (by decide)).froz 4 (by decide)).toSlF (Zd.row (Zd.pair (Zd.pair Zd.bool (Zd.row (Zd.int .u32))) (Zd.row (Zd.int .u32)))))) ?_;rintro _ e2 ⟨rfl,b9⟩;refine ⟨_,rfl,?_⟩;replace b9:Zh da fn da e2:=.of_below b9;refine go ?_;replace h1:=h1.keep (Zi.start col w0);replace h2:=h2.keep (Zi.start col w0);replace af:=(((af.gr e1).gr cx).kp cy).gr b9;replace aa:=(((aa.grow e1).grow cx).kp cy fp).grow b9;replace ab:=ab.gr b9;replace ac:=ac.gr b9;replace ad:=ad.gr b9;replace ae:=ae.gr b9;replace ah:=ah.gr b9
 refine Zo hm (fun hb hm=>go ?_) fun hb hm=>go ?_
 ·cases hm;exact ⟨rfl,rfl,aa.below⟩
 refine lV _ (Z9 isAgg27 sizeOf27 af) ?_;obtain ⟨ho,fr,hm⟩:=bZ hm;refine Zj (Zz7 fr (ct.ks aa) (cu.ks aa) (cv.ks aa) (cw.ks aa)) ?_;rintro _ ft ⟨rfl,ca⟩;refine ⟨_,rfl,?_⟩;replace ca:Zh da e2 da ft:=.of_below ca;refine go ?_;replace ab:=ab.gr ca;replace ac:=ac.gr ca;replace ad:=ad.gr ca;replace ae:=ae.gr ca;replace af:=af.gr ca;replace ah:=ah.gr ca;replace aa:=aa.grow ca;refine Zo hm (fun hb hm=>go ?_) fun hb hm=>go ?_
 ·cases hm;exact ⟨rfl,rfl,aa.below⟩
 refine lV _ (Z9 isAgg27 sizeOf27 af)<|Yn rfl ?_;obtain ⟨br,fu,hm⟩:=bZ hm;refine Zj (Zzb 7 fu (ct.ks aa) (cu.ks aa) (cv.ks aa) (cw.ks aa) (h1.ks aa)) ?_;rintro _ fv ⟨db,c2,c3,rfl,cg,ag⟩;refine ⟨_,rfl,go ?_⟩;replace ah:=ah.gr cg;refine lV _ (Z9 isAgg27 sizeOf27 ah) ?_;obtain ⟨aj,fw,hm⟩:=bZ hm;replace ab:=ab.gr cg;replace ac:=ac.gr cg;replace ad:=ad.gr cg;replace ae:=ae.gr cg;refine Zj (Zhl 8 9 fw ((((ab.toSlF Zd.str).froz 3).froz 4).froz 5) ((((ac.froz 2 (by decide)).toSlF (Zd.row Zd.str)).froz 4).froz 5) ((((ad.froz 2 (by decide)).froz 3 (by decide)).toSlF (Zd.row (Zd.int .i64))).froz 5) ((((ae.froz 2 (by decide)).froz 3 (by decide)).froz 4 (by decide)).toSlF (Zd.row (Zd.pair (Zd.pair Zd.bool (Zd.row (Zd.int .u32))) (Zd.row (Zd.int .u32))))) Sl.nil) ?_;rintro _ hp ⟨fx,d4,d5,d6,d7,rfl,bj,cb,cc⟩;refine ⟨_,rfl,?_⟩;replace cb:=cb.thaw (Z1 .u32) bj (((((Fz.refl (col:=db)).froz 2).froz 3).froz 4).froz 5) (by decide);replace cc:=cc.thaw (Z1 .u32) bj (((((Fz.refl (col:=db)).froz 2).froz 3).froz 4).froz 5) (by decide);replace bj:=bj.thawR (col:=db);generalize Xc fv.heap.size db fx=fy at *;refine lM (.tuple #[(.agg #[.bool aj.1.1.1,.slice d4 aj.1.1.2.length d5,.slice d6 aj.1.2.length d7]),.int .i64 aj.2])<|lV (.agg #[.bool aj.1.1.1,.slice d4 aj.1.1.2.length d5,.slice d6 aj.1.2.length d7]) (Xm rfl rfl)<|lV (.int .i64 aj.2) (Xm rfl rfl)<|Xj (col:=fy) #[.bool false,.slice none (([]:List Int).length) 0,.slice none (([]:List Int).length) 0] 10 zeroValue39 ?_;intro hq hr cz b3 fz;refine Z2 fz ?_;intro ht b4 f0 f1;refine Yt rfl<|Zl<|Zw<|Zw ?_;replace af:=(((af.gr cg).gr bj).gr b3).kp b4;replace aa:=(((aa.grow cg).grow bj).grow b3).kp b4 f0;replace ab:=((ab.gr bj).gr b3).kp b4;replace ac:=((ac.gr bj).gr b3).kp b4;replace ad:=((ad.gr bj).gr b3).kp b4;replace ae:=((ae.gr bj).gr b3).kp b4;replace ag:=((ag.gr bj).gr b3).kp b4;replace ah:=((ah.gr bj).gr b3).kp b4;replace cb:=(cb.gr b3).kp b4;replace cc:=(cc.gr b3).kp b4
 refine Wp.cutK [2,3,8,9,1000000] (fun f b5=>∃ bc d8,Zfj N aw c8 az br d8=some r∧St w0 (Zk col) bc b5∧Zf 27 1 bc b5 fe #[.string aw.1,.slice dl aw.2.1.length dm,.slice dn aw.2.2.1.length dp,.slice dq aw.2.2.2.1.length dr,.slice ds aw.2.2.2.2.length dt]∧Zb Za.str 9 2 bc b5 dw dx az.2.1∧Zb (Za.row 9 Za.str) 22 3 bc b5 dy dz az.2.2.1∧Zb (Za.row 3 (Za.int .i64)) 33 4 bc b5 d0 d1 az.2.2.2.1∧Zb (Za.row 39 (Za.pair (Za.pair Za.bool (Za.row 95 (Za.int .u32))) (Za.row 95 (Za.int .u32)))) 114 5 bc b5 d2 d3 az.2.2.2.2∧Zf 27 6 bc b5 fl #[.string az.1,.slice dw az.2.1.length dx,.slice dy az.2.2.1.length dz,.slice d0 az.2.2.2.1.length d1,.slice d2 az.2.2.2.2.length d3]∧Zb (Za.row 3 (Za.int .i64)) 33 7 bc b5 c2 c3 br∧[52].map f=[.bool d8]) ?_ ?_
 ·intro f b5 hJ;obtain ⟨bc,d8,hm,aa,af,ab,ac,ad,ae,ah,ag,hs⟩:=hJ;rw [Zfj.eq_1] at hm;refine .lL [52] hs ?_;refine Zo hm (fun hb hm=>go ?_) fun hb hm=>go ?_
  ·cases hm;exact ⟨rfl,rfl,aa.below⟩
  refine Zo hm (fun hb hm=>go ?_) fun hb hm=>go ?_
  ·cases hm;exact ⟨rfl,rfl,aa.below⟩
  obtain ⟨hu,d9,hm⟩:=bZ hm;refine lI d9 (ag.addr d9) ?_;obtain ⟨_,f2,f3⟩:=ag.atN d9;obtain ⟨hv,hw,rfl,cd⟩:=f2.row;refine lW f3.one<|go ?_;obtain ⟨ea,hm⟩:=Z3 hm;refine lv (v:=.slice c2 (Int.toNat (i64.wrap ((br.length:Int) - 1))) c3) rfl rfl (Zg1 underlying50 sizeOf33 rfl rfl ea.1 (by have:=ag.lecap;have:=ea.2;omega))<|.ld (d:=66) (v:=(.slice c2 ((br.take (Int.toNat (i64.wrap ((br.length:Int) - 1)))).length) c3)) (congrArg (fun n=>Value.slice c2 n c3) (List.length_take_of_le (show (Int.toNat (i64.wrap ((br.length:Int) - 1)))≤br.length by have:=ea.2;omega)).symm) ?_;refine go ?_;refine lV _ (Z9 isAgg27 sizeOf27 ah)<|Yn rfl ?_;obtain ⟨aq,f4,hm⟩:=bZ hm;refine Zj (Zhl 15 16 f4 (((((ab.toSlF Zd.str).froz 3).froz 4).froz 5).froz 7) (((((ac.froz 2 (by decide)).toSlF (Zd.row Zd.str)).froz 4).froz 5).froz 7) (((((ad.froz 2 (by decide)).froz 3 (by decide)).toSlF (Zd.row (Zd.int .i64))).froz 5).froz 7) (((((ae.froz 2 (by decide)).froz 3 (by decide)).froz 4 (by decide)).toSlF (Zd.row (Zd.pair (Zd.pair Zd.bool (Zd.row (Zd.int .u32))) (Zd.row (Zd.int .u32))))).froz 7) (((((ag.froz 2 (by decide)).froz 3 (by decide)).froz 4 (by decide)).froz 5 (by decide)).toSlF (Zd.row (Zd.int .i64)))) ?_;rintro _ hx ⟨f5,dc,dd,de,df,rfl,bd,al,am⟩;refine ⟨_,rfl,?_⟩;replace al:=al.thaw (Z1 .u32) bd ((((((Fz.refl (col:=bc)).froz 2).froz 3).froz 4).froz 5).froz 7) (by decide);replace am:=am.thaw (Z1 .u32) bd ((((((Fz.refl (col:=bc)).froz 2).froz 3).froz 4).froz 5).froz 7) (by decide);replace bd:=bd.thawR (col:=bc);generalize Xc b5.heap.size bc f5=f6 at *;refine lM (.tuple #[(.agg #[.bool aq.1.1.1,.slice dc aq.1.1.2.length dd,.slice de aq.1.2.length df]),.int .i64 aq.2])<|lV (.agg #[.bool aq.1.1.1,.slice dc aq.1.1.2.length dd,.slice de aq.1.2.length df]) (Xm rfl rfl)<|lV (.int .i64 aq.2) (Xm rfl rfl)<|Xj (col:=f6) #[.bool false,.slice none (([]:List Int).length) 0,.slice none (([]:List Int).length) 0] 17 zeroValue39 ?_;intro hy hz dg bs f7;refine Z2 f7 ?_;intro f8 bt f9 a4;refine go ?_;replace ah:=((ah.gr bd).gr bs).kp bt;refine lV _ (Z9 isAgg27 sizeOf27 ah)<|Yn rfl ?_;obtain ⟨an,ga,hm⟩:=bZ hm;replace ab:=((ab.gr bd).gr bs).kp bt
  replace ac:=((ac.gr bd).gr bs).kp bt;replace ad:=((ad.gr bd).gr bs).kp bt;replace ae:=((ae.gr bd).gr bs).kp bt;replace ag:=((ag.gr bd).gr bs).kp bt;refine Zj (Zhl 18 19 ga (((((ab.toSlF Zd.str).froz 3).froz 4).froz 5).froz 7) (((((ac.froz 2 (by decide)).toSlF (Zd.row Zd.str)).froz 4).froz 5).froz 7) (((((ad.froz 2 (by decide)).froz 3 (by decide)).toSlF (Zd.row (Zd.int .i64))).froz 5).froz 7) (((((ae.froz 2 (by decide)).froz 3 (by decide)).froz 4 (by decide)).toSlF (Zd.row (Zd.pair (Zd.pair Zd.bool (Zd.row (Zd.int .u32))) (Zd.row (Zd.int .u32))))).froz 7) ((((((ag.take (Int.toNat (i64.wrap ((br.length:Int) - 1)))).froz 2 (by decide)).froz 3 (by decide)).froz 4 (by decide)).froz 5 (by decide)).toSlF (Zd.row (Zd.int .i64)))) ?_;rintro _ h0 ⟨gb,eb,ec,ed,ee,rfl,ax,be,bf⟩;refine ⟨_,rfl,?_⟩;replace be:=be.thaw (Z1 .u32) ax ((((((Fz.refl (col:=dg)).froz 2).froz 3).froz 4).froz 5).froz 7) (by decide);replace bf:=bf.thaw (Z1 .u32) ax ((((((Fz.refl (col:=dg)).froz 2).froz 3).froz 4).froz 5).froz 7) (by decide);replace ax:=ax.thawR (col:=dg);generalize Xc f8.heap.size dg gb=gc at *;refine lM (.tuple #[(.agg #[.bool an.1.1.1,.slice eb an.1.1.2.length ec,.slice ed an.1.2.length ee]),.int .i64 an.2])<|lV (.agg #[.bool an.1.1.1,.slice eb an.1.1.2.length ec,.slice ed an.1.2.length ee]) (Xm rfl rfl)<|lV (.int .i64 an.2) (Xm rfl rfl)<|Xj (col:=gc) #[.bool false,.slice none (([]:List Int).length) 0,.slice none (([]:List Int).length) 0] 20 zeroValue39 ?_;intro h3 h4 c4 a5 gd;refine Z2 gd ?_;intro dh a6 ge ce;refine go ?_;have a0:=Zt.clip (fun _=>false) c4 dh;refine Zqq (col:=c4) [(0,0),(1,1),(2,3),(3,3),(4,1),(5,1),(6,1),(7,4),(8,2),(9,1)] (by kernel_rfl) (by kernel_rfl) ⟨fun h=>absurd h (by decide),fun h=>absurd h (by decide),fun h=>absurd h (by decide),fun h=>absurd h (by decide),fun h=>absurd h (by decide),fun h=>absurd h (by decide),fun h=>absurd h (by decide),fun _=>⟨_,_,_,rfl,Ze1 zeroValue27⟩,fun h=>absurd h (by decide),fun h=>absurd h (by decide),trivial⟩ ?_;replace ah:=(((ah.gr ax).gr a5).kp a6).kpp a0
  refine Zen (v:=(.agg #[.string az.1,.slice dw az.2.1.length dx,.slice dy az.2.2.1.length dz,.slice d0 az.2.2.2.1.length d1,.slice d2 az.2.2.2.2.length d3])) rfl rfl (fun _ hC=>Y0 isAgg27 sizeOf27 rfl rfl (ah.atN.gr (hC.bl (Zs dh c4)))) ?_;refine Zan (v:=(.slice c2 ((br.take (Int.toNat (i64.wrap ((br.length:Int) - 1)))).length) c3)) rfl rfl (fun _=>Wr rfl) ?_;refine Qn rfl rfl ?_;intro h5 hC0;have hC:=hC0.bl (Zs dh c4);obtain ⟨h6,gf,hm⟩:=bZ hm;refine Zj (Zeu (col:=(Zs dh c4)) 21 22 gf) ?_;rintro _ bk ⟨bu,h7,h8,h9,ia,rfl,au,ef,eg⟩;refine ⟨_,rfl,?_⟩;refine Zl ?_;refine ⟨fun w'=>Zh (Zs bk bu) bk (Zs bk bu) w',fun g=>(Zs bk bu) g=497,Zh.refl _ _,Sd,fun _=>⟨fun _ h=>U4 hC0 au h,fun b hb=>au.below.block b hb,fun g x1 x2=>Zbq au g x1 (by first | exact x2 | (simp only [Yf,x2];rfl) | (simp only [Yf,Xk,x2];rfl))⟩,?_⟩;have ay:=Zt.clip (fun _=>false) bu bk;refine Qn rfl rfl ?_;intro gg hC0;replace cd:=(((((((((cd.gr bd).gr bs).kp bt).gr ax).gr a5).kp a6).kpp a0).gr hC).gr au).kpp ay;replace af:=(((((((((af.gr bd).gr bs).kp bt).gr ax).gr a5).kp a6).kpp a0).gr hC).gr au).kpp ay;replace aa:=(((((((((aa.grow bd).grow bs).kp bt f9).grow ax).grow a5).kp a6 ge).kpp a0).grow hC).grow au).kpp ay;replace al:=((((((((al.gr bs).kp bt).gr ax).gr a5).kp a6).kpp a0).gr hC).gr au).kpp ay;replace am:=((((((((am.gr bs).kp bt).gr ax).gr a5).kp a6).kpp a0).gr hC).gr au).kpp ay;replace ab:=((((((ab.gr ax).gr a5).kp a6).kpp a0).gr hC).gr au).kpp ay;replace ac:=((((((ac.gr ax).gr a5).kp a6).kpp a0).gr hC).gr au).kpp ay;replace ad:=((((((ad.gr ax).gr a5).kp a6).kpp a0).gr hC).gr au).kpp ay;replace ae:=((((((ae.gr ax).gr a5).kp a6).kpp a0).gr hC).gr au).kpp ay;replace ag:=((((((ag.gr ax).gr a5).kp a6).kpp a0).gr hC).gr au).kpp ay;replace a4:=((((((a4.gr ax).gr a5).kp a6).kpp a0).gr hC).gr au).kpp ay;replace be:=(((((be.gr a5).kp a6).kpp a0).gr hC).gr au).kpp ay;replace bf:=(((((bf.gr a5).kp a6).kpp a0).gr hC).gr au).kpp ay;replace ce:=(((ce.kpp a0).gr hC).gr au).kpp ay;have hC:=hC0.bl (Zs bk bu);obtain ⟨ak,gh,hm⟩:=bZ hm;replace ef:=(ef.kpp ay).gr hC;replace eg:=(eg.kpp ay).gr hC;replace ag:=ag.gr hC
  replace ab:=ab.gr hC;replace ac:=ac.gr hC;replace ad:=ad.gr hC;replace ae:=ae.gr hC;refine Zj (Zrb 23 24 25 26 gh (((((((ab.toSlF Zd.str).froz 3).froz 4).froz 5).froz 7).froz 21).froz 22) (((((((ac.froz 2 (by decide)).toSlF (Zd.row Zd.str)).froz 4).froz 5).froz 7).froz 21).froz 22) (((((((ad.froz 2 (by decide)).froz 3 (by decide)).toSlF (Zd.row (Zd.int .i64))).froz 5).froz 7).froz 21).froz 22) (((((((ae.froz 2 (by decide)).froz 3 (by decide)).froz 4 (by decide)).toSlF (Zd.row (Zd.pair (Zd.pair Zd.bool (Zd.row (Zd.int .u32))) (Zd.row (Zd.int .u32))))).froz 7).froz 21).froz 22) ((((((((ag.take (Int.toNat (i64.wrap ((br.length:Int) - 1)))).froz 2 (by decide)).froz 3 (by decide)).froz 4 (by decide)).froz 5 (by decide)).toSlF (Zd.row (Zd.int .i64))).froz 21).froz 22) (((((((ef.froz 2 (by decide)).froz 3 (by decide)).froz 4 (by decide)).froz 5 (by decide)).froz 7 (by decide)).toSlF (Zd.int .u32)).froz 22) (((((((eg.froz 2 (by decide)).froz 3 (by decide)).froz 4 (by decide)).froz 5 (by decide)).froz 7 (by decide)).froz 21 (by decide)).toSlF (Zd.int .u32))) ?_;rintro _ ar ⟨gi,e3,e4,e5,e6,e7,e8,e9,fa,rfl,ao,ch,ci,cj,ck⟩;refine ⟨_,rfl,?_⟩;replace ch:=ch.thaw Ze0 ao ((((((((Fz.refl (col:=(Zs bk bu))).froz 2).froz 3).froz 4).froz 5).froz 7).froz 21).froz 22) (by decide);replace ci:=ci.thaw (Uk Ze0) ao ((((((((Fz.refl (col:=(Zs bk bu))).froz 2).froz 3).froz 4).froz 5).froz 7).froz 21).froz 22) (by decide);replace cj:=cj.thaw (Uk (Z1 .i64)) ao ((((((((Fz.refl (col:=(Zs bk bu))).froz 2).froz 3).froz 4).froz 5).froz 7).froz 21).froz 22) (by decide);replace ck:=ck.thaw (Uk (Zez (Zez Zn2 (Uk (Z1 .u32))) (Uk (Z1 .u32)))) ao ((((((((Fz.refl (col:=(Zs bk bu))).froz 2).froz 3).froz 4).froz 5).froz 7).froz 21).froz 22) (by decide);replace ao:=ao.thawR (col:=(Zs bk bu));generalize Xc gg.heap.size (Zs bk bu) gi=av at *;refine Zl ?_;refine ⟨fun w'=>Zh (Zs ar av) ar (Zs ar av) w',fun g=>(Zs ar av) g=497,Zh.refl _ _,Sd,fun _=>⟨fun _ h=>U4 hC0 ao h,fun b hb=>ao.below.block b hb,fun g x1 x2=>Zbq ao g x1 (by first | exact x2 | (simp only [Yf,x2];rfl) | (simp only [Yf,Xk,x2];rfl))⟩,?_⟩
  have a7:=Zt.clip (fun _=>false) av ar;refine Zan (v:=(.tuple #[(.agg #[.string ak.1.1,.slice e3 ak.1.2.1.length e4,.slice e5 ak.1.2.2.1.length e6,.slice e7 ak.1.2.2.2.1.length e8,.slice e9 ak.1.2.2.2.2.length fa]),.int .i64 ak.2])) rfl rfl (fun _=>Wr rfl) ?_;refine Zan (v:=(.agg #[.string ak.1.1,.slice e3 ak.1.2.1.length e4,.slice e5 ak.1.2.2.1.length e6,.slice e7 ak.1.2.2.2.1.length e8,.slice e9 ak.1.2.2.2.2.length fa])) rfl rfl (fun _=>Xm rfl rfl) ?_;refine Zan (v:=(.int .i64 ak.2)) rfl rfl (fun _=>Xm rfl rfl) ?_;refine xaF rfl rfl (Ze1 zeroValue27) ?_;intro bm gj;refine Qn rfl rfl ?_;intro gk ⟨hC0,hZ0⟩;replace cd:=((cd.gr hC).gr ao).kpp a7;replace al:=((al.gr hC).gr ao).kpp a7;replace am:=((am.gr hC).gr ao).kpp a7;replace be:=((be.gr hC).gr ao).kpp a7;replace bf:=((bf.gr hC).gr ao).kpp a7;replace af:=((af.gr hC).gr ao).kpp a7;replace a4:=((a4.gr hC).gr ao).kpp a7;replace ce:=((ce.gr hC).gr ao).kpp a7;replace aa:=((aa.grow hC).grow ao).kpp a7;have hC:=hC0.bl (Zs ar av);obtain ⟨a8,eh⟩:=Znc (col:=(Zs ar av)) 27 hZ0 gj;replace eh:Zf 27 27 (Y2 bm 27 (Zs ar av)) gk bm #[.string (⟨#[]⟩),.slice none (([]:List ByteArray).length) 0,.slice none (([]:List R6).length) 0,.slice none (([]:List R5).length) 0,(.slice none (([]:List R7).length) 0)]:=eh;refine Z2 eh ?_;intro bn a9 gl ei;refine Zl ?_;refine ⟨fun w'=>Zh (Zs bn (Y2 bm 27 (Zs ar av))) bn (Zs bn (Y2 bm 27 (Zs ar av))) w',fun g=>(Zs bn (Y2 bm 27 (Zs ar av))) g=497,Zh.refl _ _,Sd,fun h=>absurd h (by decide),?_⟩;have a3:=Zt.clip (fun _=>false) (Y2 bm 27 (Zs ar av)) bn;refine Zan (v:=(.int .i64 ak.2)) rfl rfl (fun _=>Uv rfl) ?_;refine Zqs ?_;replace ag:=(((((ag.gr ao).kpp a7).gr hC).kpp a8).kp a9).kpp a3;replace ch:=((((ch.kpp a7).gr hC).kpp a8).kp a9).kpp a3;replace ci:=((((ci.kpp a7).gr hC).kpp a8).kp a9).kpp a3;replace cj:=((((cj.kpp a7).gr hC).kpp a8).kp a9).kpp a3;replace ck:=((((ck.kpp a7).gr hC).kpp a8).kp a9).kpp a3;replace cd:=(((cd.gr hC).kpp a8).kp a9).kpp a3;replace al:=(((al.gr hC).kpp a8).kp a9).kpp a3;replace am:=(((am.gr hC).kpp a8).kp a9).kpp a3;replace be:=(((be.gr hC).kpp a8).kp a9).kpp a3
  replace bf:=(((bf.gr hC).kpp a8).kp a9).kpp a3;replace af:=(((af.gr hC).kpp a8).kp a9).kpp a3;replace a4:=(((a4.gr hC).kpp a8).kp a9).kpp a3;replace ce:=(((ce.gr hC).kpp a8).kp a9).kpp a3;replace aa:=(((aa.grow hC).kpp a8).kp a9 gl).kpp a3;intro fb hC;replace hC:Zh (Zs bn (Y2 bm 27 (Zs ar av))) bn (Zs bn (Y2 bm 27 (Zs ar av))) fb:=.of_below hC.below;refine go ?_;replace ei:=(ei.kpp a3).gr hC;refine lV _ (Z9 isAgg27 sizeOf27 ei)<|Yn rfl ?_;obtain ⟨ap,gm,hm⟩:=bZ hm;replace cd:=cd.gr hC;replace ch:=ch.gr hC;replace ci:=ci.gr hC;replace cj:=cj.gr hC;replace ck:=ck.gr hC;refine Zj (Zrf 28 29 gm (((((ch.toSlF Zd.str).froz 24).froz 25).froz 26).froz 7) (((((ci.froz 23 (by decide)).toSlF (Zd.row Zd.str)).froz 25).froz 26).froz 7) (((((cj.froz 23 (by decide)).froz 24 (by decide)).toSlF (Zd.row (Zd.int .i64))).froz 26).froz 7) (((((ck.froz 23 (by decide)).froz 24 (by decide)).froz 25 (by decide)).toSlF (Zd.row (Zd.pair (Zd.pair Zd.bool (Zd.row (Zd.int .u32))) (Zd.row (Zd.int .u32))))).froz 7) (((((cd.froz 23 (by decide)).froz 24 (by decide)).froz 25 (by decide)).froz 26 (by decide)).toSlF (Zd.int .i64))) ?_;rintro _ ib ⟨gp,ej,ek,el,em,rfl,bg,cl,cn⟩;refine ⟨_,rfl,?_⟩;replace cl:=cl.thaw (Z1 .u32) bg ((((((Fz.refl (col:=(Zs bn (Y2 bm 27 (Zs ar av))))).froz 23).froz 24).froz 25).froz 26).froz 7) (by decide);replace cn:=cn.thaw (Z1 .u32) bg ((((((Fz.refl (col:=(Zs bn (Y2 bm 27 (Zs ar av))))).froz 23).froz 24).froz 25).froz 26).froz 7) (by decide);replace bg:=bg.thawR (col:=(Zs bn (Y2 bm 27 (Zs ar av))));generalize Xc fb.heap.size (Zs bn (Y2 bm 27 (Zs ar av))) gp=gs at *;refine lM (.tuple #[(.agg #[.bool ap.1.1.1,.slice ej ap.1.1.2.length ek,.slice el ap.1.2.length em]),.int .i64 ap.2])<|lV (.agg #[.bool ap.1.1.1,.slice ej ap.1.1.2.length ek,.slice el ap.1.2.length em]) (Xm rfl rfl)<|lV (.int .i64 ap.2) (Xm rfl rfl)<|Xj (col:=gs) #[.bool false,.slice none (([]:List Int).length) 0,.slice none (([]:List Int).length) 0] 30 zeroValue39 ?_;intro ic id ie bv gt;refine Z2 gt ?_;intro ig bw gu en;refine go ?_
  replace af:=(((af.gr hC).gr bg).gr bv).kp bw;refine lV _ (Z9 isAgg27 sizeOf27 af)<|Yn rfl ?_;obtain ⟨ih,gv,hm⟩:=bZ hm;replace aa:=(((aa.grow hC).grow bg).grow bv).kp bw gu;refine Zj (Zzc 31 32 33 34 gv (ct.ks aa) (cu.ks aa) (cv.ks aa) (cw.ks aa) (h2.ks aa)) ?_;rintro _ gw ⟨di,ii,ij,ik,il,im,io,ip,iq,rfl,bx,gx,gy,gz,g0⟩;refine ⟨_,rfl,?_⟩;refine Yn rfl ?_;obtain ⟨ai,g1,hm⟩:=bZ hm;replace ag:=((((ag.gr hC).gr bg).gr bv).kp bw).gr bx;refine Zj (Zhl 35 36 g1 (((((gx.toSlF Zd.str).froz 32).froz 33).froz 34).froz 7) (((((gy.froz 31 (by decide)).toSlF (Zd.row Zd.str)).froz 33).froz 34).froz 7) (((((gz.froz 31 (by decide)).froz 32 (by decide)).toSlF (Zd.row (Zd.int .i64))).froz 34).froz 7) (((((g0.froz 31 (by decide)).froz 32 (by decide)).froz 33 (by decide)).toSlF (Zd.row (Zd.pair (Zd.pair Zd.bool (Zd.row (Zd.int .u32))) (Zd.row (Zd.int .u32))))).froz 7) (((((ag.froz 31 (by decide)).froz 32 (by decide)).froz 33 (by decide)).froz 34 (by decide)).toSlF (Zd.row (Zd.int .i64)))) ?_;rintro _ ir ⟨g2,eo,ep,eq,er,rfl,ba,bz,b0⟩;refine ⟨_,rfl,?_⟩;replace bz:=bz.thaw (Z1 .u32) ba ((((((Fz.refl (col:=di)).froz 31).froz 32).froz 33).froz 34).froz 7) (by decide);replace b0:=b0.thaw (Z1 .u32) ba ((((((Fz.refl (col:=di)).froz 31).froz 32).froz 33).froz 34).froz 7) (by decide);replace ba:=ba.thawR (col:=di);generalize Xc gw.heap.size di g2=g3 at *;refine lM (.tuple #[(.agg #[.bool ai.1.1.1,.slice eo ai.1.1.2.length ep,.slice eq ai.1.2.length er]),.int .i64 ai.2])<|lV (.agg #[.bool ai.1.1.1,.slice eo ai.1.1.2.length ep,.slice eq ai.1.2.length er]) (Xm rfl rfl)<|lV (.int .i64 ai.2) (Xm rfl rfl)<|Xj (col:=g3) #[.bool false,.slice none (([]:List Int).length) 0,.slice none (([]:List Int).length) 0] 37 zeroValue39 ?_;intro it iu bb bo g4;refine Z2 g4 ?_;intro iv bp g5 c5;refine Yt rfl<|Zl<|Zw ?_;replace al:=(((((((al.gr hC).gr bg).gr bv).kp bw).gr bx).gr ba).gr bo).kp bp;replace am:=(((((((am.gr hC).gr bg).gr bv).kp bw).gr bx).gr ba).gr bo).kp bp
  replace be:=(((((((be.gr hC).gr bg).gr bv).kp bw).gr bx).gr ba).gr bo).kp bp;replace bf:=(((((((bf.gr hC).gr bg).gr bv).kp bw).gr bx).gr ba).gr bo).kp bp;replace a4:=(((((((a4.gr hC).gr bg).gr bv).kp bw).gr bx).gr ba).gr bo).kp bp;replace ce:=(((((((ce.gr hC).gr bg).gr bv).kp bw).gr bx).gr ba).gr bo).kp bp;replace cl:=(((((cl.gr bv).kp bw).gr bx).gr ba).gr bo).kp bp;replace cn:=(((((cn.gr bv).kp bw).gr bx).gr ba).gr bo).kp bp;replace en:=(((en.gr bx).gr ba).gr bo).kp bp;replace aa:=(((aa.grow bx).grow ba).grow bo).kp bp g5;replace bz:=(bz.gr bo).kp bp;replace b0:=(b0.gr bo).kp bp;refine Wp.cutK [1000000] (fun f fc=>∃ fd es,Q7 es=some r∧St w0 (Zk col) fd fc∧[6].map f=[.bool es]) ?_ ?_
  ·intro f fc hJ;obtain ⟨fd,es,hm,aa,hs⟩:=hJ;rw [Q7.eq_1] at hm;refine .lL [6] hs<|W6 ?_;cases hm;exact ⟨rfl,rfl,aa.below⟩
  refine Wb (col:=bb) [(0,1),(1,1),(2,1),(3,1),(4,1),(5,1),(6,1),(7,1),(8,1),(9,1),(10,1),(11,1),(12,1),(13,1),(14,1),(15,1),(16,1),(17,1),(18,1),(19,0),(20,0),(21,0),(22,3),(23,3),(24,1),(25,1),(26,1),(27,0),(28,0),(29,3),(30,1),(31,1),(32,1)] (by kernel_rfl) (by kernel_rfl)<|xu rfl rfl (fun _=>Yd rfl) ?_;refine xu rfl rfl (fun _=>Tz _ _ rfl rfl) ?_;refine xu rfl rfl (fun _=>Yp rfl) ?_;refine Yb hm (fun co hm=>?_) fun co hm=>?_
  ·refine Vu (v:=(.int .i64 an.2)) (b:=decide (aq.2=0)) 102 rfl rfl rfl rfl rfl (by rw [co];rfl) (fun _=>Wr rfl) ?_;refine Vu (v:=(.bool (decide (an.2=0)))) (b:=decide (aq.2=0)) 102 rfl rfl rfl rfl rfl (by rw [co];rfl) (fun _=>Tz an.2 0 rfl rfl) ?_;refine xu (v:=(.bool (decide (an.2=0)))) rfl rfl (fun _=>X1 (congrArg Value.bool co) rfl) ?_;refine xu rfl rfl (fun _=>Yp rfl) ?_;refine Yb hm (fun cp hm=>?_) fun cp hm=>?_
   ·refine Vu (v:=(.int .i64 ak.2)) (b:=decide (an.2=0)) 106 rfl rfl rfl rfl rfl (by rw [cp];rfl) (fun _=>Wr rfl) ?_;refine Vu (v:=(.bool (decide (ak.2=0)))) (b:=decide (an.2=0)) 106 rfl rfl rfl rfl rfl (by rw [cp];rfl) (fun _=>Tz ak.2 0 rfl rfl) ?_;refine xu (v:=(.bool (decide (ak.2=0)))) rfl rfl (fun _=>X1 (congrArg Value.bool cp) rfl) ?_;refine xu rfl rfl (fun _=>Yp rfl) ?_;refine Yb hm (fun cq hm=>?_) fun cq hm=>?_
    ·refine Vu (v:=(.int .i64 ap.2)) (b:=decide (ak.2=0)) 110 rfl rfl rfl rfl rfl (by rw [cq];rfl) (fun _=>Wr rfl) ?_;refine Vu (v:=(.bool (decide (ap.2=0)))) (b:=decide (ak.2=0)) 110 rfl rfl rfl rfl rfl (by rw [cq];rfl) (fun _=>Tz ap.2 0 rfl rfl) ?_;refine xu (v:=(.bool (decide (ap.2=0)))) rfl rfl (fun _=>X1 (congrArg Value.bool cq) rfl) ?_;refine xu rfl rfl (fun _=>Yp rfl) ?_;refine Yb hm (fun cr hm=>?_) fun cr hm=>?_
     ·refine Vu (v:=(.int .i64 ai.2)) (b:=decide (ap.2=0)) 114 rfl rfl rfl rfl rfl (by rw [cr];rfl) (fun _=>Wr rfl) ?_;refine Vu (v:=(.bool (decide (ai.2=0)))) (b:=decide (ap.2=0)) 114 rfl rfl rfl rfl rfl (by rw [cr];rfl) (fun _=>Tz ai.2 0 rfl rfl) ?_;refine xu (v:=(.bool (decide (ai.2=0)))) rfl rfl (fun _=>X1 (congrArg Value.bool cr) rfl) ?_;refine xu rfl rfl (fun _=>Yp rfl) ?_;refine Yb hm (fun bh hm=>?_) fun bh hm=>?_
      ·refine Zao (v:=(.agg #[.bool aq.1.1.1,.slice dc aq.1.1.2.length dd,.slice de aq.1.2.length df])) (b:=decide (ai.2=0)) 118 rfl rfl rfl rfl rfl (by rw [bh];rfl) (fun _ hC=>Y0 isAgg39 sizeOf39 rfl rfl (a4.atN.gr (hC.bl bb))) ?_;refine Zao (v:=(.agg #[.bool an.1.1.1,.slice eb an.1.1.2.length ec,.slice ed an.1.2.length ee])) (b:=decide (ai.2=0)) 118 rfl rfl rfl rfl rfl (by rw [bh];rfl) (fun _ hC=>Y0 isAgg39 sizeOf39 rfl rfl (ce.atN.gr (hC.bl bb))) ?_;refine Zao (v:=(.agg #[.bool ap.1.1.1,.slice ej ap.1.1.2.length ek,.slice el ap.1.2.length em])) (b:=decide (ai.2=0)) 118 rfl rfl rfl rfl rfl (by rw [bh];rfl) (fun _ hC=>Y0 isAgg39 sizeOf39 rfl rfl (en.atN.gr (hC.bl bb))) ?_;refine xe rfl rfl ?_;intro g6 hC0;have hC:=hC0.bl bb;refine go ?_;obtain ⟨iw,g7,hm⟩:=bZ hm;replace be:=be.gr hC;replace bf:=bf.gr hC;replace cl:=cl.gr hC;replace cn:=cn.gr hC;refine Zj (Zhi 42 43 g7 ((((be.toSlF (Zd.int .u32)).froz 19).froz 28).froz 29) ((((bf.froz 18 (by decide)).toSlF (Zd.int .u32)).froz 28).froz 29) ((((cl.froz 18 (by decide)).froz 19 (by decide)).toSlF (Zd.int .u32)).froz 29) ((((cn.froz 18 (by decide)).froz 19 (by decide)).froz 28 (by decide)).toSlF (Zd.int .u32))) ?_;rintro _ ix ⟨g8,iy,iz,i0,i1,rfl,bq,c6,c7⟩;refine ⟨_,rfl,?_⟩;replace c6:=c6.thaw (Z1 .u32) bq (((((Fz.refl (col:=bb)).froz 18).froz 19).froz 28).froz 29) (by decide);replace c7:=c7.thaw (Z1 .u32) bq (((((Fz.refl (col:=bb)).froz 18).froz 19).froz 28).froz 29) (by decide);replace bq:=bq.thawR (col:=bb);generalize Xc g6.heap.size bb g8=bi at *;refine Zl<|Xi bi hC0 bq<|xe rfl rfl ?_;intro g9 hC0;replace al:=(al.gr hC).gr bq;replace am:=(am.gr hC).gr bq;replace bz:=(bz.gr hC).gr bq;replace b0:=(b0.gr hC).gr bq;replace a4:=(a4.gr hC).gr bq;replace c5:=(c5.gr hC).gr bq;replace aa:=(aa.grow hC).grow bq;have hC:=hC0.bl bi;refine go ?_;obtain ⟨b6,ha,hm⟩:=bZ hm;replace al:=al.gr hC;replace am:=am.gr hC;replace c6:=c6.gr hC;replace c7:=c7.gr hC
       refine Zj (Zet ha ((((al.toSlF (Zd.int .u32)).froz 16).froz 42).froz 43) ((((am.froz 15 (by decide)).toSlF (Zd.int .u32)).froz 42).froz 43) ((((c6.froz 15 (by decide)).froz 16 (by decide)).toSlF (Zd.int .u32)).froz 43) ((((c7.froz 15 (by decide)).froz 16 (by decide)).froz 42 (by decide)).toSlF (Zd.int .u32))) ?_;rintro _ hc ⟨rfl,b7⟩;refine ⟨_,rfl,?_⟩;replace b7:Zh bi g9 bi hc:=.of_below b7;refine Zl<|Xi bi hC0 b7<|Vu (v:=(.bool (decide (b6=0)))) (b:=decide (ai.2=0)) 118 rfl rfl rfl rfl rfl (by rw [bh];rfl) (fun _=>Tz b6 0 rfl rfl) ?_;refine xu (v:=(.bool (decide (b6=0)))) rfl rfl (fun _=>X1 (congrArg Value.bool bh) rfl) ?_;refine xu rfl rfl (fun _=>Yp rfl) ?_;replace bz:=(bz.gr hC).gr b7;replace b0:=(b0.gr hC).gr b7;replace a4:=(a4.gr hC).gr b7;replace c5:=(c5.gr hC).gr b7;replace aa:=(aa.grow hC).grow b7;replace al:=al.gr b7;replace am:=am.gr b7;refine Yb hm (fun b8 hm=>?_) fun b8 hm=>?_
       ·refine Zao (v:=(.agg #[.bool aq.1.1.1,.slice dc aq.1.1.2.length dd,.slice de aq.1.2.length df])) (b:=decide (b6=0)) 126 rfl rfl rfl rfl rfl (by rw [b8];rfl) (fun _ hC=>Y0 isAgg39 sizeOf39 rfl rfl (a4.atN.gr (hC.bl bi))) ?_;refine Zao (v:=(.agg #[.bool ai.1.1.1,.slice eo ai.1.1.2.length ep,.slice eq ai.1.2.length er])) (b:=decide (b6=0)) 126 rfl rfl rfl rfl rfl (by rw [b8];rfl) (fun _ hC=>Y0 isAgg39 sizeOf39 rfl rfl (c5.atN.gr (hC.bl bi))) ?_;refine xe rfl rfl ?_;intro hd hC0;have hC:=hC0.bl bi;refine go ?_;obtain ⟨et,he,hm⟩:=bZ hm;replace al:=al.gr hC;replace am:=am.gr hC;replace bz:=bz.gr hC;replace b0:=b0.gr hC;refine Zj (Zet he ((((al.toSlF (Zd.int .u32)).froz 16).froz 35).froz 36) ((((am.froz 15 (by decide)).toSlF (Zd.int .u32)).froz 35).froz 36) ((((bz.froz 15 (by decide)).froz 16 (by decide)).toSlF (Zd.int .u32)).froz 36) ((((b0.froz 15 (by decide)).froz 16 (by decide)).froz 35 (by decide)).toSlF (Zd.int .u32))) ?_;rintro _ hf ⟨rfl,dj⟩;refine ⟨_,rfl,?_⟩;replace dj:Zh bi hd bi hf:=.of_below dj;refine Zl<|Xi bi hC0 dj<|Vu (v:=(.bool (decide (et=0)))) (b:=decide (b6=0)) 126 rfl rfl rfl rfl rfl (by rw [b8];rfl) (fun _=>Tz et 0 rfl rfl) ?_;refine xu (v:=(.bool (decide (et=0)))) rfl rfl (fun _=>X1 (congrArg Value.bool b8) rfl) ?_;refine xu rfl rfl (fun _=>Uu rfl) ?_;refine Yh ?_;replace aa:=(aa.grow hC).grow dj;intro i2 hC;replace hC:=hC.bl bi;replace aa:=aa.grow hC;exact ⟨rfl,_,_,hm,aa,rfl⟩
       refine Zq (b:=decide (b6=0)) 126 rfl rfl rfl rfl rfl (by rw [b8];rfl)<|Zq (b:=decide (b6=0)) 126 rfl rfl rfl rfl rfl (by rw [b8];rfl)<|Zq (b:=decide (b6=0)) 126 rfl rfl rfl rfl rfl (by rw [b8];rfl)<|Zq (b:=decide (b6=0)) 126 rfl rfl rfl rfl rfl (by rw [b8];rfl)<|xu (v:=(.bool false)) rfl rfl (fun _=>Xf (congrArg Value.bool b8) rfl) ?_;refine xu rfl rfl (fun _=>Uu rfl) ?_;refine Yh ?_;intro i3 hC;replace hC:=hC.bl bi;replace aa:=aa.grow hC;exact ⟨rfl,_,_,hm,aa,rfl⟩
      refine Zq (b:=decide (ai.2=0)) 118 rfl rfl rfl rfl rfl (by rw [bh];rfl)<|Zq (b:=decide (ai.2=0)) 118 rfl rfl rfl rfl rfl (by rw [bh];rfl)<|Zq (b:=decide (ai.2=0)) 118 rfl rfl rfl rfl rfl (by rw [bh];rfl)<|Zq (b:=decide (ai.2=0)) 118 rfl rfl rfl rfl rfl (by rw [bh];rfl)<|Zq (b:=decide (ai.2=0)) 118 rfl rfl rfl rfl rfl (by rw [bh];rfl)<|Zq (b:=decide (ai.2=0)) 118 rfl rfl rfl rfl rfl (by rw [bh];rfl)<|xu (v:=(.bool false)) rfl rfl (fun _=>Xf (congrArg Value.bool bh) rfl) ?_;refine xu rfl rfl (fun _=>Yp rfl) ?_;refine Zq (b:=false) 126 rfl rfl rfl rfl rfl rfl<|Zq (b:=false) 126 rfl rfl rfl rfl rfl rfl<|Zq (b:=false) 126 rfl rfl rfl rfl rfl rfl<|Zq (b:=false) 126 rfl rfl rfl rfl rfl rfl<|xu (v:=(.bool false)) rfl rfl (fun _=>Xf rfl rfl) ?_;refine xu rfl rfl (fun _=>Uu rfl) ?_;refine Yh ?_;intro i4 hC;replace hC:=hC.bl bb;replace aa:=aa.grow hC;exact ⟨rfl,_,_,hm,aa,rfl⟩
     refine Zq (b:=decide (ap.2=0)) 114 rfl rfl rfl rfl rfl (by rw [cr];rfl)<|Zq (b:=decide (ap.2=0)) 114 rfl rfl rfl rfl rfl (by rw [cr];rfl)<|xu (v:=(.bool false)) rfl rfl (fun _=>Xf (congrArg Value.bool cr) rfl) ?_;refine xu rfl rfl (fun _=>Yp rfl) ?_;refine Zq (b:=false) 118 rfl rfl rfl rfl rfl rfl<|Zq (b:=false) 118 rfl rfl rfl rfl rfl rfl<|Zq (b:=false) 118 rfl rfl rfl rfl rfl rfl<|Zq (b:=false) 118 rfl rfl rfl rfl rfl rfl<|Zq (b:=false) 118 rfl rfl rfl rfl rfl rfl<|Zq (b:=false) 118 rfl rfl rfl rfl rfl rfl<|xu (v:=(.bool false)) rfl rfl (fun _=>Xf rfl rfl) ?_;refine xu rfl rfl (fun _=>Yp rfl) ?_;refine Zq (b:=false) 126 rfl rfl rfl rfl rfl rfl<|Zq (b:=false) 126 rfl rfl rfl rfl rfl rfl<|Zq (b:=false) 126 rfl rfl rfl rfl rfl rfl<|Zq (b:=false) 126 rfl rfl rfl rfl rfl rfl<|xu (v:=(.bool false)) rfl rfl (fun _=>Xf rfl rfl) ?_;refine xu rfl rfl (fun _=>Uu rfl) ?_;refine Yh ?_;intro i5 hC;replace hC:=hC.bl bb;replace aa:=aa.grow hC;exact ⟨rfl,_,_,hm,aa,rfl⟩
    refine Zq (b:=decide (ak.2=0)) 110 rfl rfl rfl rfl rfl (by rw [cq];rfl)<|Zq (b:=decide (ak.2=0)) 110 rfl rfl rfl rfl rfl (by rw [cq];rfl)<|xu (v:=(.bool false)) rfl rfl (fun _=>Xf (congrArg Value.bool cq) rfl) ?_;refine xu rfl rfl (fun _=>Yp rfl) ?_;refine Zq (b:=false) 114 rfl rfl rfl rfl rfl rfl<|Zq (b:=false) 114 rfl rfl rfl rfl rfl rfl<|xu (v:=(.bool false)) rfl rfl (fun _=>Xf rfl rfl) ?_;refine xu rfl rfl (fun _=>Yp rfl) ?_;refine Zq (b:=false) 118 rfl rfl rfl rfl rfl rfl<|Zq (b:=false) 118 rfl rfl rfl rfl rfl rfl<|Zq (b:=false) 118 rfl rfl rfl rfl rfl rfl<|Zq (b:=false) 118 rfl rfl rfl rfl rfl rfl<|Zq (b:=false) 118 rfl rfl rfl rfl rfl rfl<|Zq (b:=false) 118 rfl rfl rfl rfl rfl rfl<|xu (v:=(.bool false)) rfl rfl (fun _=>Xf rfl rfl) ?_;refine xu rfl rfl (fun _=>Yp rfl) ?_;refine Zq (b:=false) 126 rfl rfl rfl rfl rfl rfl<|Zq (b:=false) 126 rfl rfl rfl rfl rfl rfl<|Zq (b:=false) 126 rfl rfl rfl rfl rfl rfl<|Zq (b:=false) 126 rfl rfl rfl rfl rfl rfl<|xu (v:=(.bool false)) rfl rfl (fun _=>Xf rfl rfl) ?_;refine xu rfl rfl (fun _=>Uu rfl) ?_;refine Yh ?_;intro i6 hC;replace hC:=hC.bl bb;replace aa:=aa.grow hC;exact ⟨rfl,_,_,hm,aa,rfl⟩
   refine Zq (b:=decide (an.2=0)) 106 rfl rfl rfl rfl rfl (by rw [cp];rfl)<|Zq (b:=decide (an.2=0)) 106 rfl rfl rfl rfl rfl (by rw [cp];rfl)<|xu (v:=(.bool false)) rfl rfl (fun _=>Xf (congrArg Value.bool cp) rfl) ?_;refine xu rfl rfl (fun _=>Yp rfl) ?_;refine Zq (b:=false) 110 rfl rfl rfl rfl rfl rfl<|Zq (b:=false) 110 rfl rfl rfl rfl rfl rfl<|xu (v:=(.bool false)) rfl rfl (fun _=>Xf rfl rfl) ?_;refine xu rfl rfl (fun _=>Yp rfl) ?_;refine Zq (b:=false) 114 rfl rfl rfl rfl rfl rfl<|Zq (b:=false) 114 rfl rfl rfl rfl rfl rfl<|xu (v:=(.bool false)) rfl rfl (fun _=>Xf rfl rfl) ?_;refine xu rfl rfl (fun _=>Yp rfl) ?_;refine Zq (b:=false) 118 rfl rfl rfl rfl rfl rfl<|Zq (b:=false) 118 rfl rfl rfl rfl rfl rfl<|Zq (b:=false) 118 rfl rfl rfl rfl rfl rfl<|Zq (b:=false) 118 rfl rfl rfl rfl rfl rfl<|Zq (b:=false) 118 rfl rfl rfl rfl rfl rfl<|Zq (b:=false) 118 rfl rfl rfl rfl rfl rfl<|xu (v:=(.bool false)) rfl rfl (fun _=>Xf rfl rfl) ?_;refine xu rfl rfl (fun _=>Yp rfl) ?_;refine Zq (b:=false) 126 rfl rfl rfl rfl rfl rfl<|Zq (b:=false) 126 rfl rfl rfl rfl rfl rfl<|Zq (b:=false) 126 rfl rfl rfl rfl rfl rfl<|Zq (b:=false) 126 rfl rfl rfl rfl rfl rfl<|xu (v:=(.bool false)) rfl rfl (fun _=>Xf rfl rfl) ?_;refine xu rfl rfl (fun _=>Uu rfl) ?_;refine Yh ?_;intro i7 hC;replace hC:=hC.bl bb;replace aa:=aa.grow hC;exact ⟨rfl,_,_,hm,aa,rfl⟩
  refine Zq (b:=decide (aq.2=0)) 102 rfl rfl rfl rfl rfl (by rw [co];rfl)<|Zq (b:=decide (aq.2=0)) 102 rfl rfl rfl rfl rfl (by rw [co];rfl)<|xu (v:=(.bool false)) rfl rfl (fun _=>Xf (congrArg Value.bool co) rfl) ?_;refine xu rfl rfl (fun _=>Yp rfl) ?_;refine Zq (b:=false) 106 rfl rfl rfl rfl rfl rfl<|Zq (b:=false) 106 rfl rfl rfl rfl rfl rfl<|xu (v:=(.bool false)) rfl rfl (fun _=>Xf rfl rfl) ?_;refine xu rfl rfl (fun _=>Yp rfl) ?_;refine Zq (b:=false) 110 rfl rfl rfl rfl rfl rfl<|Zq (b:=false) 110 rfl rfl rfl rfl rfl rfl<|xu (v:=(.bool false)) rfl rfl (fun _=>Xf rfl rfl) ?_;refine xu rfl rfl (fun _=>Yp rfl) ?_;refine Zq (b:=false) 114 rfl rfl rfl rfl rfl rfl<|Zq (b:=false) 114 rfl rfl rfl rfl rfl rfl<|xu (v:=(.bool false)) rfl rfl (fun _=>Xf rfl rfl) ?_;refine xu rfl rfl (fun _=>Yp rfl) ?_;refine Zq (b:=false) 118 rfl rfl rfl rfl rfl rfl<|Zq (b:=false) 118 rfl rfl rfl rfl rfl rfl<|Zq (b:=false) 118 rfl rfl rfl rfl rfl rfl<|Zq (b:=false) 118 rfl rfl rfl rfl rfl rfl<|Zq (b:=false) 118 rfl rfl rfl rfl rfl rfl<|Zq (b:=false) 118 rfl rfl rfl rfl rfl rfl<|xu (v:=(.bool false)) rfl rfl (fun _=>Xf rfl rfl) ?_;refine xu rfl rfl (fun _=>Yp rfl) ?_;refine Zq (b:=false) 126 rfl rfl rfl rfl rfl rfl<|Zq (b:=false) 126 rfl rfl rfl rfl rfl rfl<|Zq (b:=false) 126 rfl rfl rfl rfl rfl rfl<|Zq (b:=false) 126 rfl rfl rfl rfl rfl rfl<|xu (v:=(.bool false)) rfl rfl (fun _=>Xf rfl rfl) ?_;refine xu rfl rfl (fun _=>Uu rfl) ?_;refine Yh ?_;intro i8 hC;replace hC:=hC.bl bb;replace aa:=aa.grow hC;exact ⟨rfl,_,_,hm,aa,rfl⟩
 refine Wb (col:=cz) [(0,1),(1,1),(2,1),(3,1),(4,1),(5,1),(6,1),(7,0),(8,3),(9,3),(10,1),(11,1)] (by kernel_rfl) (by kernel_rfl)<|xu rfl rfl (fun _=>Yp rfl) ?_;refine xu rfl rfl (fun _=>Zml _ rfl) ?_;refine xu rfl rfl (fun _=>Yp rfl) ?_;refine Yb hm (fun cs hm=>?_) fun cs hm=>?_
 ·refine Zq (b:=!c1) 43 rfl rfl rfl rfl rfl (by rw [cs];rfl)<|Zq (b:=!c1) 43 rfl rfl rfl rfl rfl (by rw [cs];rfl)<|xu (v:=(.bool true)) rfl rfl (fun _=>X1 (congrArg Value.bool cs) rfl) ?_;refine xu rfl rfl (fun _=>Yp rfl) ?_;refine Zq (b:=true) 47 rfl rfl rfl rfl rfl rfl<|Zq (b:=true) 47 rfl rfl rfl rfl rfl rfl<|Zq (b:=true) 47 rfl rfl rfl rfl rfl rfl<|Zq (b:=true) 47 rfl rfl rfl rfl rfl rfl<|xu (v:=(.bool true)) rfl rfl (fun _=>X1 rfl rfl) ?_;refine Yh ?_;intro i9 hC;replace hC:=hC.bl cz;replace ab:=ab.gr hC;replace ac:=ac.gr hC;replace ad:=ad.gr hC;replace ae:=ae.gr hC;replace ag:=ag.gr hC;replace af:=af.gr hC;replace ah:=ah.gr hC;replace aa:=aa.grow hC;exact ⟨rfl,_,_,hm,aa,af,ab,ac,ad,ae,ah,ag,rfl⟩
 refine Vu (v:=(.int .i64 aj.2)) (b:=!c1) 43 rfl rfl rfl rfl rfl (by rw [cs];rfl) (fun _=>Wr rfl) ?_;refine Vu (v:=(.bool (!decide (aj.2=0)))) (b:=!c1) 43 rfl rfl rfl rfl rfl (by rw [cs];rfl) (fun _=>Zmk aj.2 0 rfl rfl) ?_;refine xu (v:=(.bool (!decide (aj.2=0)))) rfl rfl (fun _=>Xf (congrArg Value.bool cs) rfl) ?_;refine xu rfl rfl (fun _=>Yp rfl) ?_;refine Yb hm (fun cf hm=>?_) fun cf hm=>?_
 ·refine Zq (b:=!decide (aj.2=0)) 47 rfl rfl rfl rfl rfl (by rw [cf];rfl)<|Zq (b:=!decide (aj.2=0)) 47 rfl rfl rfl rfl rfl (by rw [cf];rfl)<|Zq (b:=!decide (aj.2=0)) 47 rfl rfl rfl rfl rfl (by rw [cf];rfl)<|Zq (b:=!decide (aj.2=0)) 47 rfl rfl rfl rfl rfl (by rw [cf];rfl)<|xu (v:=(.bool true)) rfl rfl (fun _=>X1 (congrArg Value.bool cf) rfl) ?_;refine Yh ?_;intro ja hC;replace hC:=hC.bl cz;replace ab:=ab.gr hC;replace ac:=ac.gr hC;replace ad:=ad.gr hC;replace ae:=ae.gr hC;replace ag:=ag.gr hC;replace af:=af.gr hC;replace ah:=ah.gr hC;replace aa:=aa.grow hC;exact ⟨rfl,_,_,hm,aa,af,ab,ac,ad,ae,ah,ag,rfl⟩
 refine Zao (v:=(.agg #[.bool aj.1.1.1,.slice d4 aj.1.1.2.length d5,.slice d6 aj.1.2.length d7])) (b:=!decide (aj.2=0)) 47 rfl rfl rfl rfl rfl (by rw [cf];rfl) (fun _ hC=>Y0 isAgg39 sizeOf39 rfl rfl (f1.atN.gr (hC.bl cz))) ?_;refine xe rfl rfl ?_;intro jb hC0;have hC:=hC0.bl cz;refine go ?_;obtain ⟨jc,hg,hm⟩:=bZ hm;refine Zj (Zeu (col:=cz) 44 45 hg) ?_;rintro _ jd ⟨c0,je,jf,jg,jh,rfl,b1,eu,ew⟩;refine ⟨_,rfl,?_⟩;refine Zl<|Xi c0 hC0 b1<|xe rfl rfl ?_;intro hh hC0;replace ab:=(ab.gr hC).gr b1;replace ac:=(ac.gr hC).gr b1;replace ad:=(ad.gr hC).gr b1;replace ae:=(ae.gr hC).gr b1;replace ag:=(ag.gr hC).gr b1;replace cb:=(cb.gr hC).gr b1;replace cc:=(cc.gr hC).gr b1;replace af:=(af.gr hC).gr b1;replace ah:=(ah.gr hC).gr b1;replace aa:=(aa.grow hC).grow b1;have hC:=hC0.bl c0;refine go ?_;obtain ⟨ey,hi,hm⟩:=bZ hm;replace cb:=cb.gr hC;replace cc:=cc.gr hC;replace eu:=eu.gr hC;replace ew:=ew.gr hC;refine Zj (Zet hi ((((cb.toSlF (Zd.int .u32)).froz 9).froz 44).froz 45) ((((cc.froz 8 (by decide)).toSlF (Zd.int .u32)).froz 44).froz 45) ((((eu.froz 8 (by decide)).froz 9 (by decide)).toSlF (Zd.int .u32)).froz 45) ((((ew.froz 8 (by decide)).froz 9 (by decide)).froz 44 (by decide)).toSlF (Zd.int .u32))) ?_;rintro _ hj ⟨rfl,b2⟩;refine ⟨_,rfl,?_⟩;replace b2:Zh c0 hh c0 hj:=.of_below b2;refine Zl<|Xi c0 hC0 b2<|Vu (v:=(.bool (!decide (ey=0)))) (b:=!decide (aj.2=0)) 47 rfl rfl rfl rfl rfl (by rw [cf];rfl) (fun _=>Zmk ey 0 rfl rfl) ?_;refine xu (v:=(.bool (!decide (ey=0)))) rfl rfl (fun _=>Xf (congrArg Value.bool cf) rfl) ?_;refine Yh ?_;replace ab:=(ab.gr hC).gr b2;replace ac:=(ac.gr hC).gr b2;replace ad:=(ad.gr hC).gr b2;replace ae:=(ae.gr hC).gr b2;replace ag:=(ag.gr hC).gr b2;replace af:=(af.gr hC).gr b2;replace ah:=(ah.gr hC).gr b2;replace aa:=(aa.grow hC).grow b2;intro ji hC;replace hC:=hC.bl c0;replace ab:=ab.gr hC;replace ac:=ac.gr hC;replace ad:=ad.gr hC;replace ae:=ae.gr hC;replace ag:=ag.gr hC;replace af:=af.gr hC;replace ah:=ah.gr hC;replace aa:=aa.grow hC;exact ⟨rfl,_,_,hm,aa,af,ab,ac,ad,ae,ah,ag,rfl⟩
/-! the score looks at no entry -/
theorem Z04 {n:Zu} {T:List (List QV)} (h:Zhb n T) {v:Nat} (hv:v<n.2.1.length) (r:List R5):Xw (Yr n T) v r=Xw n v r:=by
 have e:∀ w,W1 (Yr n T) v w=W1 n v w:=fun w=>by rw [W1,W1,Zwv];rfl
 rw [Xw,Xw]
 show (List.range (T.getD v []).length).map _=_
 rw [h.sz v hv]
 refine List.map_congr_left fun i _=>?_
 simp only [e]
theorem Zmc {n:Zu} {T:List (List QV)} (h:Zhb n T) (r:List R5):∀ m v O,v+m≤n.2.1.length→Y7 (Yr n T) r m v O=Y7 n r m v O∧Y3 (Yr n T) r m v O=Y3 n r m v O
 | 0,v,O,_=>⟨rfl,rfl⟩
 | m+1,v,O,hv=>by
  have e:Wv (Yr n T) v r 0 (Xv (Yr n T) v)=Wv n v r 0 (Xv n v):=by
   rw [Wv,Wv,Z04 h (by omega)];rfl
  have ec:cnt (Yr n T) v=cnt n v:=rfl
  rw [Y7,Y7,Y3,Y3,e,ec]
  exact ⟨(Zmc h r m (v+1) _ (by omega)).1,(Zmc h r m (v+1) _ (by omega)).2⟩
section
variable {N W K:Nat} {n:Zu} (hs:W0 n W) (hb:Zep n) (hr:Xg N (8 * K+40)) (hWK:1025 * (W+2)+4≤K) (hK:1074792465≤K) (hW:196608≤W) (hN:1099511627777<N)
include hs hb hr hWK hK hW hN
theorem Zyq {r:List R5} {ws:List Int} (hq:∀ l ∈ r,∀ x ∈ l,-9223372036854775808≤x∧x≤9223372036854775807):Zko N n r ws=some true:=by
 obtain ⟨e,m1,fine⟩:=Z0y (N:=N) hs (hr.mono (by omega)) (by omega)
 have m1':Vq N (n.1,n.2.1,n.2.2.1,n.2.2.2.1,n.2.2.2.2)=some e:=m1
 have tw:Zck N (n.1,n.2.1,n.2.2.1,n.2.2.2.1,n.2.2.2.2)=some n:=Zyi hb hN
 rw [Zko,Zqn,oB,tw,oB,m1',oB]
 by_cases he:e=0
 ·subst he
  have hf:=fine rfl
  have hle:=hf.le
  obtain ⟨r1,r2⟩:=id hr
  have hr4:Xg N 4294967296:=hr.mono (by omega)
  have sh:Zgp N (n.1,n.2.1,n.2.2.1,n.2.2.2.1,n.2.2.2.2)=some true:=Z4y hf hs (by omega)
  obtain ⟨o,o1,o2,o3⟩:=Z3j hf (by omega) hq
  have o1':Zfk N (n.1,n.2.1,n.2.2.1,n.2.2.2.1,n.2.2.2.2) r true=some o:=o1
  have hps:∀ v,(n.2.2.2.1.getD v []).length≤1048576:=fun v=>by
   rcases Nat.lt_or_ge v n.2.2.2.1.length with h | h
   ·rw [Yc h];have:=hs.pn.ls _ (List.getElem_mem h);omega
   ·rw [List.getD_eq_getElem?_getD,List.getElem?_eq_none h];exact Nat.zero_le _
  have score:∀ q:List R5,(∀ x ∈ q,Yw n x)→q.length≤8→Ta N n q=some (Zr (mkRat (Y7 n q n.2.1.length 0 1:Int) (Y3 n q n.2.1.length 0 1)),0):=fun q h1 h2=>
   Zvv hf hr4 h1 (by omega) m1 (Zha h1).1 hps (Zha h1).2
  have sq:∀ q:List R5,(∀ x ∈ q,Yw n x)→q.length≤8→qs (mkRat (Y7 n q n.2.1.length 0 1:Int) (Y3 n q n.2.1.length 0 1))≤1100000000:=fun q h1 h2=>by
   obtain ⟨l1,l2,l3⟩:=Zpp hf h1 (by omega) hr4 n.2.1.length 0 1 1 (by omega) (by decide)
   rw [show (Zg 1).length=1 by rw [Tn];rfl] at l1 l2
   exact Zcr (by rw [Int.natAbs_natCast];omega) (by omega) (by omega)
  have few1:Sj N 1 1=some (Zr 1):=by
   have:=Zhs (N:=N) (a:=1) (b:=1) (by omega) (by omega) (hr.mono (by omega))
   rw [if_neg (by decide)] at this
   have e:(((1:Int):Rat) / ((1:Int):Rat))=1:=div_one _
   rw [Sj,this,oB,e]
  have s0:=score [] (fun x hx=>by cases hx) (Nat.zero_le _)
  have q0:=sq [] (fun x hx=>by cases hx) (Nat.zero_le _)
  have e0:mkRat (Y7 n [] n.2.1.length 0 1:Int) (Y3 n [] n.2.1.length 0 1)=1:=by
   obtain ⟨l1,l2,l3⟩:=Zpp hf (r:=[]) (fun x hx=>by cases hx) (Nat.zero_le _) hr4 n.2.1.length 0 1 1 (by omega) (by decide)
   rw [Zuw,show (1:Rat)=mkRat 1 1 from rfl,Z24 l3 (by decide)];omega
  rw [e0] at s0 q0
  have cmp:∀ a b:Rat,qs a≤1100000000→qs b≤2300000000→Qb N (((Zr a).1.1,(Zr a).1.2),(Zr a).2) (((Zr b).1.1,(Zr b).1.2),(Zr b).2)=some (Ty a b):=fun a b ha hb=>by
   have:=Znz (N:=N) (Uw ha) (Uw hb) (hr.mono (by omega))
   rwa [Vj,Vj] at this
  have mulq:∀ a b:Rat,qs a≤1100000000→qs b≤1025 * (W+2)→Sh N (((Zr a).1.1,(Zr a).1.2),(Zr a).2) (((Zr b).1.1,(Zr b).1.2),(Zr b).2)=some (Zr (a * b)):=fun a b ha hb=>by
   obtain ⟨kb,hkb⟩:∃ kb:Nat,kb=1100000000:=⟨_,rfl⟩
   obtain ⟨L,hL⟩:∃ L:Nat,L=1025 * (W+2):=⟨_,rfl⟩
   rw [← hkb] at ha
   rw [← hL] at hb
   have hle2:2 * (kb+L+3)≤8 * K+40:=by
    clear cmp s0 q0 e0 few1 sq score hps
    omega
   have:=Zn3 (N:=N) (Uw ha) (Uw hb) (hr.mono hle2)
   rwa [Vj,Vj] at this
  have self:∀ a:Rat,Ty a a=0:=fun a=>by rw [Ty,if_neg (Rat.lt_irrefl),if_neg (Rat.lt_irrefl)]
  have s0':Ta N (n.1,n.2.1,n.2.2.1,n.2.2.2.1,n.2.2.2.2) []=_:=s0
  rw [if_neg (by decide),sh,oB,if_neg (by decide),o1',oB,s0',oB,if_neg (by decide)]
  dsimp only
  rw [if_neg (by decide),few1,oB,cmp 1 1 q0 (by omega),oB,self,Zfj,if_neg (by decide)]
  by_cases ho:o.length=0
  ·rw [if_pos (dT (by omega))]
  ·have hne:o≠[]:=fun h=>ho (by rw [h];rfl)
   obtain ⟨pre,row,rfl⟩:∃ pre row,o=pre++[row]:=⟨o.dropLast,o.getLast hne,(List.dropLast_concat_getLast hne).symm⟩
   have hlen:(pre++[row]).length=pre.length+1:=by rw [nA,List.length_singleton]
   have hrow:Yw n row:=o2 row (by simp)
   have hpre:∀ x ∈ pre,Yw n x:=fun x hx=>o2 x (List.mem_append_left _ hx)
   have ew:i64.wrap (((pre++[row]).length:Int) - 1)=(pre.length:Int):=by rw [Z0 (by omega)];omega
   have hat:Zm (pre++[row]) (pre.length:Int)=some row:=by
    rw [Z6 (by omega),List.getElem_append_right (Nat.le_refl _)]
    simp
   have htk:(pre++[row]).take pre.length=pre:=List.take_left
   have fitOk:=Z10 hf (r:=pre) (by omega)
   have fitRv:=Z11 hf (r:=pre) (by omega)
   have hf2:=Zwu hf fitOk
   have small:∀ T:List (List QV),(∀ t ∈ T,t.length≤65536∧∀ x ∈ t,RV 1 x)→W0 (Yr n T) W:=fun T hT=>Z4p hs (fun t ht=>by have:=(hT t ht).1;omega) (fun t ht=>by
    have h1:=Zpu (b:=1) t (hT t ht).2
    have h2:=(hT t ht).1
    omega) fun t ht x hx=>⟨((hT t ht).2 x hx).m,((hT t ht).2 x hx).d⟩
   have hs2:=small _ fitRv
   have hC2:=Zrz hf2 hs2 (hr.mono (by omega)) (by omega)
   have fit:=Z12 (more:=Zr 1) (M:=1) hf hs hr hWK (by omega) (Uw (Nat.le_of_eq Zjh)) (Vj 1) (Nat.le_of_eq Zjh) (by decide) hpre (by omega) m1 (Zha hpre).1
   obtain ⟨p,e2,c1,c2⟩:=Z0x hf2 hs2 hr hWK (by omega) hC2 row
   have hin:(decide (row.length=n.2.1.length)&&Tl (Yr n (We n pre 1)) row 0)=true:=Z2e (n:=Yr n (We n pre 1)) ⟨hrow.len,hrow.ok⟩
   have c3:e2=0∧p=Zr (Tw (Yr n (We n pre 1)) row n.2.1.length 0 1):=by
    rcases c2 with ⟨_,h⟩ | ⟨h1,_,h2⟩
    ·rw [show (Yr n (We n pre 1)).2.1.length=n.2.1.length from rfl,hin] at h;cases h
    ·exact ⟨h1,h2⟩
   obtain ⟨rfl,rfl⟩:=c3
   obtain ⟨T,t1,t2,t3⟩:=Z3n hf (hr.mono (by omega)) hb hN ws
   have hf3:=Zwu hf t2
   have hs3:=small T t3
   have hC3:=Zrz hf3 hs3 (hr.mono (by omega)) (by omega)
   have o4:∀ x ∈ pre++[row],Yw (Yr n T) x:=fun x hx=>Z4o (o2 x hx)
   have s3:=Zvv hf3 hr4 o4 (by omega) hC3 (Zha o4).1 hps (Zha o4).2
   rw [show (Yr n T).2.1.length=n.2.1.length from rfl,(Zmc t2 _ _ 0 1 (by omega)).1,(Zmc t2 _ _ 0 1 (by omega)).2] at s3
   have nx:=Z4x hf hrow pre (n':=Yr n (We n pre 1)) fun i hi=>Z1z hf (by omega) hrow hi
   have sA:=score (pre++[row]) o2 o3
   have sB:=score pre hpre (by omega)
   have qA:=sq (pre++[row]) o2 o3
   have qB:=sq pre hpre (by omega)
   generalize mkRat (Y7 n (pre++[row]) n.2.1.length 0 1:Int) (Y3 n (pre++[row]) n.2.1.length 0 1)=A at *
   generalize mkRat (Y7 n pre n.2.1.length 0 1:Int) (Y3 n pre n.2.1.length 0 1)=B at *
   have qP:qs (Tw (Yr n (We n pre 1)) row n.2.1.length 0 1)≤1025 * (W+2):=by
    have hwr:Yw (Yr n (We n pre 1)) row:=⟨hrow.len,hrow.ok⟩
    have h1:=Zvu hf2 hs2 hwr n.2.1.length 0 1 (by show 0+n.2.1.length=n.2.1.length;omega) (by rw [Zjh];omega)
    have h2:n.2.1.length * (W+1)≤1024 * (W+1):=Nat.mul_le_mul_right _ hle
    rw [Nat.zero_add] at h1;omega
   generalize Tw (Yr n (We n pre 1)) row n.2.1.length 0 1=P at *
   have ml:=mulq B P qB qP
   have sA':Ta N (n.1,n.2.1,n.2.2.1,n.2.2.2.1,n.2.2.2.2) (pre++[row])=_:=sA
   have sB':Ta N (n.1,n.2.1,n.2.2.1,n.2.2.2.1,n.2.2.2.2) pre=_:=sB
   have fit':Zdd N (n.1,n.2.1,n.2.2.1,n.2.2.2.1,n.2.2.2.2) pre (((Zr 1).1.1,(Zr 1).1.2),(Zr 1).2)=some (Yr n (We n pre 1),0):=fit
   have t1':Zfo N (n.1,n.2.1,n.2.2.1,n.2.2.2.1,n.2.2.2.2) ws=some (Yr n T):=t1
   have ch':Zdj N ((Yr n (We n pre 1)).1,(Yr n (We n pre 1)).2.1,(Yr n (We n pre 1)).2.2.1,(Yr n (We n pre 1)).2.2.2.1,(Yr n (We n pre 1)).2.2.2.2) row=some (Zr P,0):=c1
   have s3':Ta N ((Yr n T).1,(Yr n T).2.1,(Yr n T).2.2.1,(Yr n T).2.2.2.1,(Yr n T).2.2.2.2) (pre++[row])=some (Zr A,0):=s3
   rw [if_neg (dF (by omega)),ew,hat,oB,Z7 (by omega),Int.toNat_natCast,htk,sA',oB,sB',oB,few1,oB,fit',oB]
   dsimp only
   rw [ch',oB,t1',oB,s3',oB]
   dsimp only
   rw [if_pos (dT rfl),if_pos (dT rfl),if_pos (dT rfl),if_pos (dT rfl),if_pos (dT rfl),ml,oB,← nx,cmp A A qA (by omega),oB,self,if_pos (dT rfl),oB,Q7]
   rfl
 ·rw [if_pos (by rw [decide_eq_false he];rfl)]
end
theorem Zau {α:Type} {b:α→Nat} (hb:∀ x,1≤b x):∀ (l:List α),l.length+1≤Xq b l
 | []=>by simp [Xq]
 | x :: l=>by
  have h:=Zau hb l
  have:=hb x
  simp only [Xq,List.map_cons,List.sum_cons,nC] at h ⊢
  omega
theorem Zl3 {α:Type} {b:α→Nat} {x:α}:∀ {l:List α},x ∈ l→b x+1≤Xq b l
 | y :: l,h=>by
  simp only [Xq,List.map_cons,List.sum_cons]
  rcases List.mem_cons.1 h with rfl | h
  ·omega
  ·have:=Zl3 (b:=b) h
   simp only [Xq] at this
   omega
theorem Zna {α:Type} {b:α→Nat} (l:List α):1≤Xq b l:=by simp only [Xq];omega
theorem Znb (s:ByteArray):1≤V3 s:=by simp only [V3];omega
theorem Zm9 {α:Type} (s:α):1≤Wg s:=by simp only [Wg];omega
theorem Zyy {α:Type} {b:α→Nat} (s:α):1≤Ui b s:=by simp only [Ui];omega
abbrev Zbj:QV→Nat:=Ui (W5 (Ui (W5 Wg (Xq Wg))) (Xq Wg))
abbrev qQ:QV→Prop:=Tx (Tx (fun _=>True) (Wu (Tg .u32))) (Wu (Tg .u32))
abbrev Zjz:Zu→Nat:=Ui (W5 V3 (W5 (Xq V3) (W5 (Xq (Xq V3)) (W5 (Xq (Xq Wg)) (Xq (Xq Zbj))))))
abbrev Zvz:Zu→Prop:=Tx (fun _=>True) (Tx (Wu (fun _=>True)) (Tx (Wu (Wu (fun _=>True))) (Tx (Wu (Wu (Tg .i64))) (Wu (Wu qQ)))))
theorem Zt0 {l:List Int} (h:Wu (Tg .u32) l):Zn l:=by
 intro d hd
 have h1:=h d hd
 simp [Tg,Lit.wf,IntKind.min,IntKind.max,IntKind.signed,IntKind.bits] at h1
 omega
theorem Z2s {x:QV} (h:qQ x):Vl x:=⟨Zt0 h.1.2,Zt0 h.2⟩
theorem Zq0 (x:QV):x.1.2.length+x.2.length+4≤Zbj x:=by
 have h1:=Zau (b:=Wg) Zm9 x.1.2
 have h2:=Zau (b:=Wg) Zm9 x.2
 simp only [Ui,W5]
 have h3:Wg x.1.1=1:=rfl
 omega
theorem Zv3:∀ t:List QV,Yj t≤Xq Zbj t
 | []=>by rw [Yj];omega
 | x :: t=>by
  have h1:=Zv3 t
  have h2:=Zq0 x
  rw [Yj]
  simp only [Xq,List.map_cons,List.sum_cons] at h1 ⊢
  omega
theorem Zx9:∀ P:List R5,Ux P+P.length≤Xq (Xq Wg) P
 | []=>by simp [Ux,Xq]
 | l :: P=>by
  have h1:=Zx9 P
  have h2:=Zau (b:=Wg) Zm9 l
  rw [Zjn,nC]
  simp only [Xq,List.map_cons,List.sum_cons] at h1 h2 ⊢
  omega
theorem Z3a {n:Zu} (hb:Zjz n≤1048576) (hq:Zvz n):W0 n 1048576∧Zep n:=by
 have a1:=Znb n.1
 have a2:=Zau (b:=V3) Znb n.2.1
 have a3:=Zau (b:=Xq V3) Zna n.2.2.1
 have a4:=Zx9 n.2.2.2.1
 have a5:=Zau (b:=Xq Zbj) Zna n.2.2.2.2
 have a6:=Zna (b:=Xq Wg) n.2.2.2.1
 simp only [Zjz,Ui,W5] at hb
 have b3:∀ l ∈ n.2.2.1,l.length≤1048576:=fun l hl=>by
  have h1:=Zl3 (b:=Xq V3) hl
  have h2:=Zau (b:=V3) Znb l
  omega
 have b4:∀ l ∈ n.2.2.2.1,l.length≤1048576:=fun l hl=>by
  have h1:=Zmu hl
  omega
 have b5:∀ t ∈ n.2.2.2.2,Xq Zbj t≤1048576:=fun t ht=>by
  have h1:=Zl3 (b:=Xq Zbj) ht
  omega
 have b6:∀ t ∈ n.2.2.2.2,t.length≤1048576:=fun t ht=>by
  have h1:=b5 t ht
  have h2:=Zau (b:=Zbj) Zyy t
  omega
 refine ⟨⟨by omega,b3,⟨by omega,by omega⟩,b6,fun t ht=>Nat.le_trans (Zv3 t) (b5 t ht),fun t ht x hx=>Z2s (hq.2.2.2.2 t ht x hx)⟩,⟨by omega,by omega,b3,by omega,b4,by omega,b6,fun t ht x hx=>?_⟩⟩
 have h1:=b5 t ht
 have h2:=Zl3 (b:=Zbj) hx
 have h3:=Zq0 x
 omega

end Go.Proofs.YtkhnlgdenkikoaaGreat
