/-
  What functions of the program compute, as plain Lean functions (m_..), and proofs that they compute it (c_..). Printed by a program of the author; no conditions.
-/
import Derived.Test.YtkhnlgdenkikoaaGreatLearnMostBFloat
import Derived.Test.YtkhnlgdenkikoaaGreatProg
import Derived.Test.YtkhnlgdenkikoaaGreatLearnMostBBrief
import Derived.Test.YtkhnlgdenkikoaaGreatLearnMostBBulk
import Derived.Test.YtkhnlgdenkikoaaGreatLearnMostF5
set_option linter.unusedVariables false
set_option maxRecDepth 100000
set_option maxHeartbeats 2000000
namespace Go.Proofs.YtkhnlgdenkikoaaGreat
open Go Go.RowKit
open Go.IntKind (i8 i16 i32 i64 u8 u16 u32 u64)
open Go.Proofs.Tryz

def Zhy (aa:Bool):Option Bool:=
  some aa
def Zby (N:Nat) (ae:R9) (ab:R0) (ad:(R4×Int)) (af:Bool):Option Bool:=
  if af=true then (some false) else ((Zas N (ab.1,ab.2.1,ab.2.2.1,ab.2.2.2.1,ab.2.2.2.2) ae ((false,([]:List Int)),([]:List Int))).bind fun aa=>(U9 N (aa.1.1,aa.1.2.1,aa.1.2.2.1,aa.1.2.2.2.1,aa.1.2.2.2.2) ae).bind fun ac=>if (decide (aa.2=0))=true then (if (decide (ac.2=0))=true then ((S5 N ((ac.1.1.1,ac.1.1.2),ac.1.2) ((ad.1.1.1,ad.1.1.2),ad.1.2)).bind fun ag=>Zhy (decide (ag=0))) else (Zhy false)) else (Zhy false))
def Zff (N:Nat) (ad:R0) (ai:List Int) (ae:R0) (ac:R9) (af:(R0×Int)) (aj:Bool):Option Bool:=
  if aj=true then (some false) else ((Zfl N (ad.1,ad.2.1,ad.2.2.1,ad.2.2.2.1,ad.2.2.2.2) ai).bind fun ab=>(U9 N (af.1.1,af.1.2.1,af.1.2.2.1,af.1.2.2.2.1,af.1.2.2.2.2) ac).bind fun aa=>(U9 N (ab.1,ab.2.1,ab.2.2.1,ab.2.2.2.1,ab.2.2.2.2) ac).bind fun ag=>(U9 N (ae.1,ae.2.1,ae.2.2.1,ae.2.2.2.1,ae.2.2.2.2) ac).bind fun ah=>if (!decide (aa.2=0))=true then (Zby N ac ab aa true) else (if (!decide (ag.2=0))=true then (Zby N ac ab aa true) else (if (!decide (ah.2=0))=true then (Zby N ac ab aa true) else ((S5 N ((aa.1.1.1,aa.1.1.2),aa.1.2) ((ag.1.1.1,ag.1.1.2),ag.1.2)).bind fun ak=>if (decide (ak<0))=true then (Zby N ac ab aa true) else ((S5 N ((aa.1.1.1,aa.1.1.2),aa.1.2) ((ah.1.1.1,ah.1.1.2),ah.1.2)).bind fun al=>Zby N ac ab aa (decide (al<0)))))))
def Zhx (N:Nat) (aa:R0) (ag:R9) (ae:List Int) (af:Bool) (ac:R0) (ah:Bool):Option Bool:=
  if ah=true then (some af) else ((Zgn N (aa.1,aa.2.1,aa.2.2.1,aa.2.2.2.1,aa.2.2.2.2)).bind fun ai=>if (!ai)=true then (some false) else ((Zfh N (aa.1,aa.2.1,aa.2.2.1,aa.2.2.2.1,aa.2.2.2.2) ag true).bind fun ad=>(Zas N (ac.1,ac.2.1,ac.2.2.1,ac.2.2.2.1,ac.2.2.2.2) ad ((false,([]:List Int)),([]:List Int))).bind fun ab=>if (!af)=true then (Zff N aa ae ac ad ab true) else (if (!decide (ab.2=0))=true then (Zff N aa ae ac ad ab true) else ((W8 N (ab.1.1,ab.1.2.1,ab.1.2.2.1,ab.1.2.2.2.1,ab.1.2.2.2.2)).bind fun aj=>Zff N aa ae ac ad ab (!decide (aj=0))))))
def Zk8 (N:Nat) (ab:R0) (ac:R9) (ad:List Int):Option Bool:=
  (Zrb).bind fun ae=>(Zcg N (ab.1,ab.2.1,ab.2.2.1,ab.2.2.2.1,ab.2.2.2.2)).bind fun aa=>(W8 N (aa.1,aa.2.1,aa.2.2.1,aa.2.2.2.1,aa.2.2.2.2)).bind fun af=>if (!decide (af=0))=true then (Zhx N ab ac ad ae aa true) else ((Zfg N (aa.1,aa.2.1,aa.2.2.1,aa.2.2.2.1,aa.2.2.2.2)).bind fun ag=>Zhx N ab ac ad ae aa (decide (300<ag)))
theorem Z0h (N:Nat) (col:Ze) (w0:World) (cr:Option Addr) (cs:Nat) (ct:Option Addr) (cu:Nat) (cv:Option Addr) (cw:Nat) (cx:Option Addr) (cy:Nat) (aj:R0) (a1:Option Addr) (eb:Nat) (cz:R9) (a2:Option Addr) (ec:Nat) (ch:List Int) (b8:Sl Za.str col w0 cr cs aj.2.1) (b9:Sl (Za.slice Za.str) col w0 ct cu aj.2.2.1) (ca:Sl (Za.slice (Za.int .i64)) col w0 cv cw aj.2.2.2.1) (cb:Sl (Za.slice (Za.pair (Za.pair Za.bool (Za.slice (Za.int .u32))) (Za.slice (Za.int .u32)))) col w0 cx cy aj.2.2.2.2) (h1:Sl (Za.slice (Za.int .i64)) col w0 a1 eb cz) (h2:Sl (Za.int .i64) col w0 a2 ec ch) (r:Bool) (hm:Zk8 N aj cz ch=some r):
    Calls prog 5 #[(.agg #[.string aj.1,.slice cr aj.2.1.length cs,.slice ct aj.2.2.1.length cu,.slice cv aj.2.2.2.1.length cw,.slice cx aj.2.2.2.2.length cy]),.slice a1 cz.length eb,.slice a2 ch.length ec] w0 (fun e w'=>e= .returned ((.bool r))∧Below w0.heap.size w0 w'):=by
 refine Xf 6 (m:=127) func5 rfl rfl rfl rfl rfl ?_;rw [Zk8.eq_1] at hm;have aa:=St.start col w0;refine go ?_;refine Xl (col:=(Zj col)) 1 rfl ?_;intro ed fj du fk ag;refine go ?_;obtain ⟨ee,fl,hm⟩:=bZ hm;refine lc rfl rfl (Zgu call18) (Z3s du _ ee fl) ?_;rintro _ fm ⟨rfl,c0⟩;refine ⟨_,rfl,?_⟩;replace c0:Zh du fj du fm:=.of_below c0;refine go ?_;replace ag:=ag.gr c0;refine lV _ (Z2 isAgg27 sizeOf27 ag) ?_;obtain ⟨ak,fn,hm⟩:=bZ hm;replace b8:=b8.keep (Zi.start col w0);replace b9:=b9.keep (Zi.start col w0);replace ca:=ca.keep (Zi.start col w0);replace cb:=cb.keep (Zi.start col w0);replace aa:=(aa.grow fk).grow c0;refine Zk (Zsc 2 3 4 5 fn (b8.ks aa) (b9.ks aa) (ca.ks aa) (cb.ks aa)) ?_;rintro _ hu ⟨fp,c1,c2,c3,c4,c5,c6,c7,c8,rfl,ef,ac,ad,ae,af⟩;refine ⟨_,rfl,?_⟩;refine Xg (col:=fp) #[.string (⟨#[]⟩),.slice none (([]:List ByteArray).length) 0,.slice none (([]:List R6).length) 0,.slice none (([]:List R5).length) 0,(.slice none (([]:List R7).length) 0)] 6 zeroValue27 ?_;intro eg hv c9 cc fq;refine Zz fq ?_;intro fr cd ft ah;refine Zl<|Zs<|Zs ?_;replace h1:=h1.keep (Zi.start col w0);replace h2:=h2.keep (Zi.start col w0);replace ag:=((ag.gr ef).gr cc).kp cd;replace aa:=((aa.grow ef).grow cc).kp cd ft;replace ac:=(ac.gr cc).kp cd;replace ad:=(ad.gr cc).kp cd;replace ae:=(ae.gr cc).kp cd;replace af:=(af.gr cc).kp cd;refine Wp.cutK [1,2,3,7,8,1000000] (fun f bu=>∃ br dv,Zhx N aj cz ch ee ak dv=some r∧St w0 (Zj col) br bu∧Zf 27 1 br bu ed #[.string aj.1,.slice cr aj.2.1.length cs,.slice ct aj.2.2.1.length cu,.slice cv aj.2.2.2.1.length cw,.slice cx aj.2.2.2.2.length cy]∧Zb Za.str 9 2 br bu c1 c2 ak.2.1∧Zb (Za.row 9 Za.str) 22 3 br bu c3 c4 ak.2.2.1∧Zb (Za.row 3 (Za.int .i64)) 33 4 br bu c5 c6 ak.2.2.2.1∧Zb (Za.row 39 (Za.pair (Za.pair Za.bool (Za.row 95 (Za.int .u32))) (Za.row 95 (Za.int .u32)))) 114 5 br bu c7 c8 ak.2.2.2.2∧Zf 27 6 br bu eg #[.string ak.1,.slice c1 ak.2.1.length c2,.slice c3 ak.2.2.1.length c4,.slice c5 ak.2.2.2.1.length c6,.slice c7 ak.2.2.2.2.length c8]∧[33].map f=[.bool dv]) ?_ ?_
 ·intro f bu hJ;obtain ⟨br,dv,hm,aa,ag,ac,ad,ae,af,ah,hs⟩:=hJ;rw [Zhx.eq_1] at hm;refine .lL [33] hs ?_;refine Zo hm (fun hb hm=>go ?_) fun hb hm=>go ?_
  ·cases hm;exact ⟨rfl,rfl,aa.below⟩
  refine lV _ (Z2 isAgg27 sizeOf27 ag) ?_;obtain ⟨hw,fu,hm⟩:=bZ hm;refine Zk (Z1j fu (b8.ks aa) (b9.ks aa) (ca.ks aa) (cb.ks aa)) ?_;rintro _ fv ⟨rfl,bv⟩;refine ⟨_,rfl,?_⟩;replace bv:Zh br bu br fv:=.of_below bv;refine go ?_;replace ac:=ac.gr bv;replace ad:=ad.gr bv;replace ae:=ae.gr bv;replace af:=af.gr bv;replace ag:=ag.gr bv;replace ah:=ah.gr bv;replace aa:=aa.grow bv;refine Zo hm (fun hb hm=>go ?_) fun hb hm=>go ?_
  ·cases hm;exact ⟨rfl,rfl,aa.below⟩
  refine lV _ (Z2 isAgg27 sizeOf27 ag)<|Yk rfl ?_;obtain ⟨da,fw,hm⟩:=bZ hm;refine Zk (Z0k 7 fw (b8.ks aa) (b9.ks aa) (ca.ks aa) (cb.ks aa) (h1.ks aa)) ?_;rintro _ fx ⟨ce,eh,ei,rfl,b5,ab⟩;refine ⟨_,rfl,go ?_⟩;replace ah:=ah.gr b5;refine lV _ (Z2 isAgg27 sizeOf27 ah)<|Yk rfl<|lV (.agg #[.bool false,.slice none (([]:List Int).length) 0,.slice none (([]:List Int).length) 0]) (Wc (l:=[_,_]) (qs:=[(0,2),(2,1)]) underlying39 zeroValue39 ⟨rfl,sizeOf37,rfl,sizeOf35,trivial⟩ rfl) ?_;obtain ⟨ai,fy,hm⟩:=bZ hm;replace ac:=ac.gr b5;replace ad:=ad.gr b5;replace ae:=ae.gr b5;replace af:=af.gr b5;refine Zk (Znx 8 9 10 11 fy (((((ac.toSlF Zd.str).froz 3).froz 4).froz 5).froz 7) (((((ad.froz 2 (by decide)).toSlF (Zd.row Zd.str)).froz 4).froz 5).froz 7) (((((ae.froz 2 (by decide)).froz 3 (by decide)).toSlF (Zd.row (Zd.int .i64))).froz 5).froz 7) (((((af.froz 2 (by decide)).froz 3 (by decide)).froz 4 (by decide)).toSlF (Zd.row (Zd.pair (Zd.pair Zd.bool (Zd.row (Zd.int .u32))) (Zd.row (Zd.int .u32))))).froz 7) (((((ab.froz 2 (by decide)).froz 3 (by decide)).froz 4 (by decide)).froz 5 (by decide)).toSlF (Zd.row (Zd.int .i64))) Sl.nil Sl.nil) ?_;rintro _ hx ⟨fz,db,dc,dd,de,df,dg,dh,di,rfl,a9,ba,bb,bc,bd⟩;refine ⟨_,rfl,?_⟩;replace ba:=ba.thaw Zbm a9 ((((((Fz.refl (col:=ce)).froz 2).froz 3).froz 4).froz 5).froz 7) (by decide);replace bb:=bb.thaw (Vm Zbm) a9 ((((((Fz.refl (col:=ce)).froz 2).froz 3).froz 4).froz 5).froz 7) (by decide);replace bc:=bc.thaw (Vm (Z1 .i64)) a9 ((((((Fz.refl (col:=ce)).froz 2).froz 3).froz 4).froz 5).froz 7) (by decide);replace bd:=bd.thaw (Vm (Zbl (Zbl Zkv (Vm (Z1 .u32))) (Vm (Z1 .u32)))) a9 ((((((Fz.refl (col:=ce)).froz 2).froz 3).froz 4).froz 5).froz 7) (by decide);replace a9:=a9.thawR (col:=ce);generalize Xe fx.heap.size ce fz=f0 at *
  refine lM (.tuple #[(.agg #[.string ai.1.1,.slice db ai.1.2.1.length dc,.slice dd ai.1.2.2.1.length de,.slice df ai.1.2.2.2.1.length dg,.slice dh ai.1.2.2.2.2.length di]),.int .i64 ai.2])<|lV (.agg #[.string ai.1.1,.slice db ai.1.2.1.length dc,.slice dd ai.1.2.2.1.length de,.slice df ai.1.2.2.2.1.length dg,.slice dh ai.1.2.2.2.2.length di]) (Xk rfl rfl)<|lV (.int .i64 ai.2) (Xk rfl rfl)<|Xg (col:=f0) #[.string (⟨#[]⟩),.slice none (([]:List ByteArray).length) 0,.slice none (([]:List R6).length) 0,.slice none (([]:List R5).length) 0,(.slice none (([]:List R7).length) 0)] 12 zeroValue27 ?_;intro f1 hy ej bj f2;refine Zz f2 ?_;intro f3 bk f4 bs;refine Yv rfl<|Zl<|Zs<|Zs ?_;replace ag:=(((ag.gr b5).gr a9).gr bj).kp bk;replace aa:=(((aa.grow b5).grow a9).grow bj).kp bk f4;replace ac:=((ac.gr a9).gr bj).kp bk;replace ad:=((ad.gr a9).gr bj).kp bk;replace ae:=((ae.gr a9).gr bj).kp bk;replace af:=((af.gr a9).gr bj).kp bk;replace ab:=((ab.gr a9).gr bj).kp bk;replace ah:=((ah.gr a9).gr bj).kp bk;replace ba:=(ba.gr bj).kp bk;replace bb:=(bb.gr bj).kp bk;replace bc:=(bc.gr bj).kp bk;replace bd:=(bd.gr bj).kp bk
  refine Wp.cutK [10,2,3,8,9,1000000] (fun f be=>∃ bf dw,Zff N aj ch ak da ai dw=some r∧St w0 (Zj col) bf be∧Zb Za.str 9 8 bf be db dc ai.1.2.1∧Zb (Za.row 9 Za.str) 22 9 bf be dd de ai.1.2.2.1∧Zb (Za.row 3 (Za.int .i64)) 33 10 bf be df dg ai.1.2.2.2.1∧Zb (Za.row 39 (Za.pair (Za.pair Za.bool (Za.row 95 (Za.int .u32))) (Za.row 95 (Za.int .u32)))) 114 11 bf be dh di ai.1.2.2.2.2∧Zf 27 12 bf be f1 #[.string ai.1.1,.slice db ai.1.2.1.length dc,.slice dd ai.1.2.2.1.length de,.slice df ai.1.2.2.2.1.length dg,.slice dh ai.1.2.2.2.2.length di]∧Zf 27 1 bf be ed #[.string aj.1,.slice cr aj.2.1.length cs,.slice ct aj.2.2.1.length cu,.slice cv aj.2.2.2.1.length cw,.slice cx aj.2.2.2.2.length cy]∧Zb Za.str 9 2 bf be c1 c2 ak.2.1∧Zb (Za.row 9 Za.str) 22 3 bf be c3 c4 ak.2.2.1∧Zb (Za.row 3 (Za.int .i64)) 33 4 bf be c5 c6 ak.2.2.2.1∧Zb (Za.row 39 (Za.pair (Za.pair Za.bool (Za.row 95 (Za.int .u32))) (Za.row 95 (Za.int .u32)))) 114 5 bf be c7 c8 ak.2.2.2.2∧Zf 27 6 bf be eg #[.string ak.1,.slice c1 ak.2.1.length c2,.slice c3 ak.2.2.1.length c4,.slice c5 ak.2.2.2.1.length c6,.slice c7 ak.2.2.2.2.length c8]∧Zb (Za.row 3 (Za.int .i64)) 33 7 bf be eh ei da∧[58].map f=[.bool dw]) ?_ ?_
  ·intro f be hJ;obtain ⟨bf,dw,hm,aa,ba,bb,bc,bd,bs,ag,ac,ad,ae,af,ah,ab,hs⟩:=hJ;rw [Zff.eq_1] at hm;refine .lL [58] hs ?_;refine Zo hm (fun hb hm=>go ?_) fun hb hm=>go ?_
   ·cases hm;exact ⟨rfl,rfl,aa.below⟩
   refine lV _ (Z2 isAgg27 sizeOf27 ag)<|Yk rfl ?_;obtain ⟨bt,f5,hm⟩:=bZ hm;refine Zk (Z0l 13 14 15 16 f5 (b8.ks aa) (b9.ks aa) (ca.ks aa) (cb.ks aa) (h2.ks aa)) ?_;rintro _ hz ⟨f6,ek,el,em,en,eo,ep,eq,er,rfl,bm,av,aw,ax,ay⟩;refine ⟨_,rfl,?_⟩;refine Xg (col:=f6) #[.string (⟨#[]⟩),.slice none (([]:List ByteArray).length) 0,.slice none (([]:List R6).length) 0,.slice none (([]:List R5).length) 0,(.slice none (([]:List R7).length) 0)] 17 zeroValue27 ?_;intro f7 h0 dj az f8;refine Zz f8 ?_;intro f9 a0 ga a3;refine go ?_;replace bs:=((bs.gr bm).gr az).kp a0;refine lV _ (Z2 isAgg27 sizeOf27 bs)<|Yk rfl ?_;obtain ⟨bg,gb,hm⟩:=bZ hm;replace ba:=((ba.gr bm).gr az).kp a0;replace bb:=((bb.gr bm).gr az).kp a0;replace bc:=((bc.gr bm).gr az).kp a0;replace bd:=((bd.gr bm).gr az).kp a0;replace ab:=((ab.gr bm).gr az).kp a0;refine Zk (Zet 18 19 gb (((((ba.toSlF Zd.str).froz 9).froz 10).froz 11).froz 7) (((((bb.froz 8 (by decide)).toSlF (Zd.row Zd.str)).froz 10).froz 11).froz 7) (((((bc.froz 8 (by decide)).froz 9 (by decide)).toSlF (Zd.row (Zd.int .i64))).froz 11).froz 7) (((((bd.froz 8 (by decide)).froz 9 (by decide)).froz 10 (by decide)).toSlF (Zd.row (Zd.pair (Zd.pair Zd.bool (Zd.row (Zd.int .u32))) (Zd.row (Zd.int .u32))))).froz 7) (((((ab.froz 8 (by decide)).froz 9 (by decide)).froz 10 (by decide)).froz 11 (by decide)).toSlF (Zd.row (Zd.int .i64)))) ?_;rintro _ h3 ⟨gc,dl,dm,dn,dp,rfl,a4,al,am⟩;refine ⟨_,rfl,?_⟩;replace al:=al.thaw (Z1 .u32) a4 ((((((Fz.refl (col:=dj)).froz 8).froz 9).froz 10).froz 11).froz 7) (by decide);replace am:=am.thaw (Z1 .u32) a4 ((((((Fz.refl (col:=dj)).froz 8).froz 9).froz 10).froz 11).froz 7) (by decide);replace a4:=a4.thawR (col:=dj);generalize Xe f9.heap.size dj gc=gd at *
   refine lM (.tuple #[(.agg #[.bool bg.1.1.1,.slice dl bg.1.1.2.length dm,.slice dn bg.1.2.length dp]),.int .i64 bg.2])<|lV (.agg #[.bool bg.1.1.1,.slice dl bg.1.1.2.length dm,.slice dn bg.1.2.length dp]) (Xk rfl rfl)<|lV (.int .i64 bg.2) (Xk rfl rfl)<|Xg (col:=gd) #[.bool false,.slice none (([]:List Int).length) 0,.slice none (([]:List Int).length) 0] 20 zeroValue39 ?_;intro ge h4 dq bh gf;refine Zz gf ?_;intro gg bi gh ao;refine go ?_;replace a3:=((a3.gr a4).gr bh).kp bi;refine lV _ (Z2 isAgg27 sizeOf27 a3)<|Yk rfl ?_;obtain ⟨bw,gi,hm⟩:=bZ hm;replace av:=((((av.gr az).kp a0).gr a4).gr bh).kp bi;replace aw:=((((aw.gr az).kp a0).gr a4).gr bh).kp bi;replace ax:=((((ax.gr az).kp a0).gr a4).gr bh).kp bi;replace ay:=((((ay.gr az).kp a0).gr a4).gr bh).kp bi;replace ab:=((ab.gr a4).gr bh).kp bi;refine Zk (Zet 21 22 gi (((((av.toSlF Zd.str).froz 14).froz 15).froz 16).froz 7) (((((aw.froz 13 (by decide)).toSlF (Zd.row Zd.str)).froz 15).froz 16).froz 7) (((((ax.froz 13 (by decide)).froz 14 (by decide)).toSlF (Zd.row (Zd.int .i64))).froz 16).froz 7) (((((ay.froz 13 (by decide)).froz 14 (by decide)).froz 15 (by decide)).toSlF (Zd.row (Zd.pair (Zd.pair Zd.bool (Zd.row (Zd.int .u32))) (Zd.row (Zd.int .u32))))).froz 7) (((((ab.froz 13 (by decide)).froz 14 (by decide)).froz 15 (by decide)).froz 16 (by decide)).toSlF (Zd.row (Zd.int .i64)))) ?_;rintro _ h5 ⟨gj,es,et,eu,ew,rfl,an,ci,cj⟩;refine ⟨_,rfl,?_⟩;replace ci:=ci.thaw (Z1 .u32) an ((((((Fz.refl (col:=dq)).froz 13).froz 14).froz 15).froz 16).froz 7) (by decide);replace cj:=cj.thaw (Z1 .u32) an ((((((Fz.refl (col:=dq)).froz 13).froz 14).froz 15).froz 16).froz 7) (by decide);replace an:=an.thawR (col:=dq);generalize Xe gg.heap.size dq gj=gk at *;refine lM (.tuple #[(.agg #[.bool bw.1.1.1,.slice es bw.1.1.2.length et,.slice eu bw.1.2.length ew]),.int .i64 bw.2])<|lV (.agg #[.bool bw.1.1.1,.slice es bw.1.1.2.length et,.slice eu bw.1.2.length ew]) (Xk rfl rfl)<|lV (.int .i64 bw.2) (Xk rfl rfl)<|Xg (col:=gk) #[.bool false,.slice none (([]:List Int).length) 0,.slice none (([]:List Int).length) 0] 23 zeroValue39 ?_
   intro h6 h7 dr ap gl;refine Zz gl ?_;intro gm aq gp dx;refine go ?_;replace ah:=((((((((ah.gr bm).gr az).kp a0).gr a4).gr bh).kp bi).gr an).gr ap).kp aq;refine lV _ (Z2 isAgg27 sizeOf27 ah)<|Yk rfl ?_;obtain ⟨bx,gs,hm⟩:=bZ hm;replace ac:=((((((((ac.gr bm).gr az).kp a0).gr a4).gr bh).kp bi).gr an).gr ap).kp aq;replace ad:=((((((((ad.gr bm).gr az).kp a0).gr a4).gr bh).kp bi).gr an).gr ap).kp aq;replace ae:=((((((((ae.gr bm).gr az).kp a0).gr a4).gr bh).kp bi).gr an).gr ap).kp aq;replace af:=((((((((af.gr bm).gr az).kp a0).gr a4).gr bh).kp bi).gr an).gr ap).kp aq;replace ab:=((ab.gr an).gr ap).kp aq;refine Zk (Zet 24 25 gs (((((ac.toSlF Zd.str).froz 3).froz 4).froz 5).froz 7) (((((ad.froz 2 (by decide)).toSlF (Zd.row Zd.str)).froz 4).froz 5).froz 7) (((((ae.froz 2 (by decide)).froz 3 (by decide)).toSlF (Zd.row (Zd.int .i64))).froz 5).froz 7) (((((af.froz 2 (by decide)).froz 3 (by decide)).froz 4 (by decide)).toSlF (Zd.row (Zd.pair (Zd.pair Zd.bool (Zd.row (Zd.int .u32))) (Zd.row (Zd.int .u32))))).froz 7) (((((ab.froz 2 (by decide)).froz 3 (by decide)).froz 4 (by decide)).froz 5 (by decide)).toSlF (Zd.row (Zd.int .i64)))) ?_;rintro _ h8 ⟨gt,ey,ez,e0,e1,rfl,ar,b6,b7⟩;refine ⟨_,rfl,?_⟩;replace b6:=b6.thaw (Z1 .u32) ar ((((((Fz.refl (col:=dr)).froz 2).froz 3).froz 4).froz 5).froz 7) (by decide);replace b7:=b7.thaw (Z1 .u32) ar ((((((Fz.refl (col:=dr)).froz 2).froz 3).froz 4).froz 5).froz 7) (by decide);replace ar:=ar.thawR (col:=dr);generalize Xe gm.heap.size dr gt=gu at *;refine lM (.tuple #[(.agg #[.bool bx.1.1.1,.slice ey bx.1.1.2.length ez,.slice e0 bx.1.2.length e1]),.int .i64 bx.2])<|lV (.agg #[.bool bx.1.1.1,.slice ey bx.1.1.2.length ez,.slice e0 bx.1.2.length e1]) (Xk rfl rfl)<|lV (.int .i64 bx.2) (Xk rfl rfl)<|Xg (col:=gu) #[.bool false,.slice none (([]:List Int).length) 0,.slice none (([]:List Int).length) 0] 26 zeroValue39 ?_;intro h9 ia ds a5 gv;refine Zz gv ?_;intro gw a6 gx dy;refine Yv rfl<|Zl<|Zs<|Zs ?_
   replace aa:=(((((((((((aa.grow bm).grow az).kp a0 ga).grow a4).grow bh).kp bi gh).grow an).grow ap).kp aq gp).grow ar).grow a5).kp a6 gx;replace al:=(((((((al.gr bh).kp bi).gr an).gr ap).kp aq).gr ar).gr a5).kp a6;replace am:=(((((((am.gr bh).kp bi).gr an).gr ap).kp aq).gr ar).gr a5).kp a6;replace av:=(((((av.gr an).gr ap).kp aq).gr ar).gr a5).kp a6;replace aw:=(((((aw.gr an).gr ap).kp aq).gr ar).gr a5).kp a6;replace ax:=(((((ax.gr an).gr ap).kp aq).gr ar).gr a5).kp a6;replace ay:=(((((ay.gr an).gr ap).kp aq).gr ar).gr a5).kp a6;replace a3:=(((((a3.gr an).gr ap).kp aq).gr ar).gr a5).kp a6;replace ao:=(((((ao.gr an).gr ap).kp aq).gr ar).gr a5).kp a6;replace ci:=((((ci.gr ap).kp aq).gr ar).gr a5).kp a6;replace cj:=((((cj.gr ap).kp aq).gr ar).gr a5).kp a6;replace ab:=((ab.gr ar).gr a5).kp a6;replace dx:=((dx.gr ar).gr a5).kp a6;replace b6:=(b6.gr a5).kp a6;replace b7:=(b7.gr a5).kp a6;refine Wp.cutK [12,13,9,1000000] (fun f bn=>∃ au dz,Zby N da bt bg dz=some r∧St w0 (Zj col) au bn∧Zb Za.str 9 13 au bn ek el bt.2.1∧Zb (Za.row 9 Za.str) 22 14 au bn em en bt.2.2.1∧Zb (Za.row 3 (Za.int .i64)) 33 15 au bn eo ep bt.2.2.2.1∧Zb (Za.row 39 (Za.pair (Za.pair Za.bool (Za.row 95 (Za.int .u32))) (Za.row 95 (Za.int .u32)))) 114 16 au bn eq er bt.2.2.2.2∧Zf 27 17 au bn f7 #[.string bt.1,.slice ek bt.2.1.length el,.slice em bt.2.2.1.length en,.slice eo bt.2.2.2.1.length ep,.slice eq bt.2.2.2.2.length er]∧Zb (Za.int .u32) 95 18 au bn dl dm bg.1.1.2∧Zb (Za.int .u32) 95 19 au bn dn dp bg.1.2∧Zf 39 20 au bn ge #[.bool bg.1.1.1,.slice dl bg.1.1.2.length dm,.slice dn bg.1.2.length dp]∧Zb (Za.row 3 (Za.int .i64)) 33 7 au bn eh ei da∧[101].map f=[.bool dz]) ?_ ?_
   ·intro f bn hJ;obtain ⟨au,dz,hm,aa,av,aw,ax,ay,a3,al,am,ao,ab,hs⟩:=hJ;rw [Zby.eq_1] at hm;refine .lL [101] hs ?_;refine Zo hm (fun hb hm=>go ?_) fun hb hm=>go ?_
    ·cases hm;exact ⟨rfl,rfl,aa.below⟩
    refine lV _ (Z2 isAgg27 sizeOf27 a3)<|Yk rfl<|lV (.agg #[.bool false,.slice none (([]:List Int).length) 0,.slice none (([]:List Int).length) 0]) (Wc (l:=[_,_]) (qs:=[(0,2),(2,1)]) underlying39 zeroValue39 ⟨rfl,sizeOf37,rfl,sizeOf35,trivial⟩ rfl) ?_;obtain ⟨bo,gy,hm⟩:=bZ hm;refine Zk (Znx 27 28 29 30 gy (((((av.toSlF Zd.str).froz 14).froz 15).froz 16).froz 7) (((((aw.froz 13 (by decide)).toSlF (Zd.row Zd.str)).froz 15).froz 16).froz 7) (((((ax.froz 13 (by decide)).froz 14 (by decide)).toSlF (Zd.row (Zd.int .i64))).froz 16).froz 7) (((((ay.froz 13 (by decide)).froz 14 (by decide)).froz 15 (by decide)).toSlF (Zd.row (Zd.pair (Zd.pair Zd.bool (Zd.row (Zd.int .u32))) (Zd.row (Zd.int .u32))))).froz 7) (((((ab.froz 13 (by decide)).froz 14 (by decide)).froz 15 (by decide)).froz 16 (by decide)).toSlF (Zd.row (Zd.int .i64))) Sl.nil Sl.nil) ?_;rintro _ ib ⟨gz,e2,e3,e4,e5,e6,e7,e8,e9,rfl,bq,ck,cl,cn,co⟩;refine ⟨_,rfl,?_⟩;replace ck:=ck.thaw Zbm bq ((((((Fz.refl (col:=au)).froz 13).froz 14).froz 15).froz 16).froz 7) (by decide);replace cl:=cl.thaw (Vm Zbm) bq ((((((Fz.refl (col:=au)).froz 13).froz 14).froz 15).froz 16).froz 7) (by decide);replace cn:=cn.thaw (Vm (Z1 .i64)) bq ((((((Fz.refl (col:=au)).froz 13).froz 14).froz 15).froz 16).froz 7) (by decide);replace co:=co.thaw (Vm (Zbl (Zbl Zkv (Vm (Z1 .u32))) (Vm (Z1 .u32)))) bq ((((((Fz.refl (col:=au)).froz 13).froz 14).froz 15).froz 16).froz 7) (by decide);replace bq:=bq.thawR (col:=au);generalize Xe bn.heap.size au gz=g0 at *
    refine lM (.tuple #[(.agg #[.string bo.1.1,.slice e2 bo.1.2.1.length e3,.slice e4 bo.1.2.2.1.length e5,.slice e6 bo.1.2.2.2.1.length e7,.slice e8 bo.1.2.2.2.2.length e9]),.int .i64 bo.2])<|lV (.agg #[.string bo.1.1,.slice e2 bo.1.2.1.length e3,.slice e4 bo.1.2.2.1.length e5,.slice e6 bo.1.2.2.2.1.length e7,.slice e8 bo.1.2.2.2.2.length e9]) (Xk rfl rfl)<|lV (.int .i64 bo.2) (Xk rfl rfl)<|Xg (col:=g0) #[.string (⟨#[]⟩),.slice none (([]:List ByteArray).length) 0,.slice none (([]:List R6).length) 0,.slice none (([]:List R5).length) 0,(.slice none (([]:List R7).length) 0)] 31 zeroValue27 ?_;intro ic id dt bz g1;refine Zz g1 ?_;intro g2 b0 g3 g4;refine go ?_;refine lV _ (Z2 isAgg27 sizeOf27 g4)<|Yk rfl ?_;obtain ⟨b1,g5,hm⟩:=bZ hm;replace ab:=((ab.gr bq).gr bz).kp b0;replace ck:=(ck.gr bz).kp b0;replace cl:=(cl.gr bz).kp b0;replace cn:=(cn.gr bz).kp b0;replace co:=(co.gr bz).kp b0;refine Zk (Zet 32 33 g5 (((((ck.toSlF Zd.str).froz 28).froz 29).froz 30).froz 7) (((((cl.froz 27 (by decide)).toSlF (Zd.row Zd.str)).froz 29).froz 30).froz 7) (((((cn.froz 27 (by decide)).froz 28 (by decide)).toSlF (Zd.row (Zd.int .i64))).froz 30).froz 7) (((((co.froz 27 (by decide)).froz 28 (by decide)).froz 29 (by decide)).toSlF (Zd.row (Zd.pair (Zd.pair Zd.bool (Zd.row (Zd.int .u32))) (Zd.row (Zd.int .u32))))).froz 7) (((((ab.froz 27 (by decide)).froz 28 (by decide)).froz 29 (by decide)).froz 30 (by decide)).toSlF (Zd.row (Zd.int .i64)))) ?_;rintro _ ie ⟨g6,fa,fb,fc,fd,rfl,b4,cp,cq⟩;refine ⟨_,rfl,?_⟩;replace cp:=cp.thaw (Z1 .u32) b4 ((((((Fz.refl (col:=dt)).froz 27).froz 28).froz 29).froz 30).froz 7) (by decide);replace cq:=cq.thaw (Z1 .u32) b4 ((((((Fz.refl (col:=dt)).froz 27).froz 28).froz 29).froz 30).froz 7) (by decide);replace b4:=b4.thawR (col:=dt);generalize Xe g2.heap.size dt g6=g7 at *
    refine lM (.tuple #[(.agg #[.bool b1.1.1.1,.slice fa b1.1.1.2.length fb,.slice fc b1.1.2.length fd]),.int .i64 b1.2])<|lV (.agg #[.bool b1.1.1.1,.slice fa b1.1.1.2.length fb,.slice fc b1.1.2.length fd]) (Xk rfl rfl)<|lV (.int .i64 b1.2) (Xk rfl rfl)<|Xg (col:=g7) #[.bool false,.slice none (([]:List Int).length) 0,.slice none (([]:List Int).length) 0] 34 zeroValue39 ?_;intro ig ih fe cf g8;refine Zz g8 ?_;intro g9 cg ha hc;refine Yv rfl<|Zl<|Zs ?_;replace al:=(((((al.gr bq).gr bz).kp b0).gr b4).gr cf).kp cg;replace am:=(((((am.gr bq).gr bz).kp b0).gr b4).gr cf).kp cg;replace ao:=(((((ao.gr bq).gr bz).kp b0).gr b4).gr cf).kp cg;replace aa:=(((((aa.grow bq).grow bz).kp b0 g3).grow b4).grow cf).kp cg ha;replace cp:=(cp.gr cf).kp cg;replace cq:=(cq.gr cf).kp cg;refine Wp.cutK [1000000] (fun f ff=>∃ fg d0,Zhy d0=some r∧St w0 (Zj col) fg ff∧[6].map f=[.bool d0]) ?_ ?_
    ·intro f ff hJ;obtain ⟨fg,d0,hm,aa,hs⟩:=hJ;rw [Zhy.eq_1] at hm;refine .lL [6] hs<|Vc ?_;cases hm;exact ⟨rfl,rfl,aa.below⟩
    refine go ?_;refine Yc hm (fun d1 hm=>go ?_) fun d1 hm=>go ?_
    ·refine lV (.bool (decide (b1.2=0))) (Xr (congrArg Value.bool d1) rfl)<|W2 rfl ?_;refine Yc hm (fun d2 hm=>go ?_) fun d2 hm=>go ?_
     ·refine lV _ (Z2 isAgg39 sizeOf39 hc)<|go ?_;refine lV _ (Z2 isAgg39 sizeOf39 ao)<|go ?_;obtain ⟨hd,he,hm⟩:=bZ hm;refine Zk (Zeu he ((((cp.toSlF (Zd.int .u32)).froz 33).froz 18).froz 19) ((((cq.froz 32 (by decide)).toSlF (Zd.int .u32)).froz 18).froz 19) ((((al.froz 32 (by decide)).froz 33 (by decide)).toSlF (Zd.int .u32)).froz 19) ((((am.froz 32 (by decide)).froz 33 (by decide)).froz 18 (by decide)).toSlF (Zd.int .u32))) ?_;rintro _ hf ⟨rfl,d3⟩;refine ⟨_,rfl,?_⟩;replace d3:Zh fe g9 fe hf:=.of_below d3;refine go ?_;refine lV (.bool (decide (hd=0))) (Xr (congrArg Value.bool d2) rfl)<|go ?_;replace aa:=aa.grow d3;exact ⟨rfl,_,_,hm,aa,rfl⟩
     refine lV (.bool false) (Xq (congrArg Value.bool d2) rfl)<|go ?_;exact ⟨rfl,_,_,hm,aa,rfl⟩
    refine lV (.bool false) (Xq (congrArg Value.bool d1) rfl)<|W2 rfl<|lP 121 rfl rfl<|lP 121 rfl rfl<|lP 121 rfl rfl<|lP 121 rfl rfl<|lV (.bool false) (Xq rfl rfl)<|go ?_;exact ⟨rfl,_,_,hm,aa,rfl⟩
   refine go ?_;refine Yc hm (fun d4 hm=>go ?_) fun d4 hm=>go ?_
   ·refine lV (.bool true) (Xr (congrArg Value.bool d4) rfl)<|W2 rfl<|lP 86 rfl rfl<|lP 86 rfl rfl<|lV (.bool true) (Xr rfl rfl)<|W2 rfl<|lP 90 rfl rfl<|lP 90 rfl rfl<|lP 90 rfl rfl<|lP 90 rfl rfl<|lV (.bool true) (Xr rfl rfl)<|W2 rfl<|lP 96 rfl rfl<|lP 96 rfl rfl<|lP 96 rfl rfl<|lP 96 rfl rfl<|lV (.bool true) (Xr rfl rfl)<|Zl ?_;exact ⟨rfl,_,_,hm,aa,av,aw,ax,ay,a3,al,am,ao,ab,rfl⟩
   refine lV (.bool (!decide (bw.2=0))) (Xq (congrArg Value.bool d4) rfl)<|W2 rfl ?_;refine Yc hm (fun d5 hm=>go ?_) fun d5 hm=>go ?_
   ·refine lV (.bool true) (Xr (congrArg Value.bool d5) rfl)<|W2 rfl<|lP 90 rfl rfl<|lP 90 rfl rfl<|lP 90 rfl rfl<|lP 90 rfl rfl<|lV (.bool true) (Xr rfl rfl)<|W2 rfl<|lP 96 rfl rfl<|lP 96 rfl rfl<|lP 96 rfl rfl<|lP 96 rfl rfl<|lV (.bool true) (Xr rfl rfl)<|Zl ?_;exact ⟨rfl,_,_,hm,aa,av,aw,ax,ay,a3,al,am,ao,ab,rfl⟩
   refine lV (.bool (!decide (bx.2=0))) (Xq (congrArg Value.bool d5) rfl)<|W2 rfl ?_;refine Yc hm (fun d6 hm=>go ?_) fun d6 hm=>go ?_
   ·refine lV (.bool true) (Xr (congrArg Value.bool d6) rfl)<|W2 rfl<|lP 96 rfl rfl<|lP 96 rfl rfl<|lP 96 rfl rfl<|lP 96 rfl rfl<|lV (.bool true) (Xr rfl rfl)<|Zl ?_;exact ⟨rfl,_,_,hm,aa,av,aw,ax,ay,a3,al,am,ao,ab,rfl⟩
   refine lV _ (Z2 isAgg39 sizeOf39 ao)<|go ?_;refine lV _ (Z2 isAgg39 sizeOf39 dx)<|go ?_;obtain ⟨hg,hh,hm⟩:=bZ hm;refine Zk (Zeu hh ((((al.toSlF (Zd.int .u32)).froz 19).froz 21).froz 22) ((((am.froz 18 (by decide)).toSlF (Zd.int .u32)).froz 21).froz 22) ((((ci.froz 18 (by decide)).froz 19 (by decide)).toSlF (Zd.int .u32)).froz 22) ((((cj.froz 18 (by decide)).froz 19 (by decide)).froz 21 (by decide)).toSlF (Zd.int .u32))) ?_;rintro _ fh ⟨rfl,a7⟩;refine ⟨_,rfl,?_⟩;replace a7:Zh ds gw ds fh:=.of_below a7;refine go ?_;refine lV (.bool (decide (hg<0))) (Xq (congrArg Value.bool d6) rfl)<|W2 rfl ?_;replace ab:=ab.gr a7;replace av:=av.gr a7;replace aw:=aw.gr a7;replace ax:=ax.gr a7;replace ay:=ay.gr a7;replace al:=al.gr a7;replace am:=am.gr a7;replace b6:=b6.gr a7;replace b7:=b7.gr a7;replace a3:=a3.gr a7;replace ao:=ao.gr a7;replace dy:=dy.gr a7;replace aa:=aa.grow a7;refine Yc hm (fun d7 hm=>go ?_) fun d7 hm=>go ?_
   ·refine lV (.bool true) (Xr (congrArg Value.bool d7) rfl)<|Zl ?_;exact ⟨rfl,_,_,hm,aa,av,aw,ax,ay,a3,al,am,ao,ab,rfl⟩
   refine lV _ (Z2 isAgg39 sizeOf39 ao)<|go ?_;refine lV _ (Z2 isAgg39 sizeOf39 dy)<|go ?_;obtain ⟨hi,hj,hm⟩:=bZ hm;refine Zk (Zeu hj ((((al.toSlF (Zd.int .u32)).froz 19).froz 24).froz 25) ((((am.froz 18 (by decide)).toSlF (Zd.int .u32)).froz 24).froz 25) ((((b6.froz 18 (by decide)).froz 19 (by decide)).toSlF (Zd.int .u32)).froz 25) ((((b7.froz 18 (by decide)).froz 19 (by decide)).froz 24 (by decide)).toSlF (Zd.int .u32))) ?_;rintro _ hk ⟨rfl,bp⟩;refine ⟨_,rfl,?_⟩;replace bp:Zh ds fh ds hk:=.of_below bp;refine go ?_;refine lV (.bool (decide (hi<0))) (Xq (congrArg Value.bool d7) rfl)<|Zl ?_;replace ab:=ab.gr bp;replace av:=av.gr bp;replace aw:=aw.gr bp;replace ax:=ax.gr bp;replace ay:=ay.gr bp;replace al:=al.gr bp;replace am:=am.gr bp;replace a3:=a3.gr bp;replace ao:=ao.gr bp;replace aa:=aa.grow bp;exact ⟨rfl,_,_,hm,aa,av,aw,ax,ay,a3,al,am,ao,ab,rfl⟩
  refine go ?_;refine Yc hm (fun d8 hm=>go ?_) fun d8 hm=>go ?_
  ·refine lV (.bool true) (Xr (congrArg Value.bool d8) rfl)<|W2 rfl<|lP 54 rfl rfl<|lP 54 rfl rfl<|lP 54 rfl rfl<|lV (.bool true) (Xr rfl rfl)<|Zl ?_;exact ⟨rfl,_,_,hm,aa,ba,bb,bc,bd,bs,ag,ac,ad,ae,af,ah,ab,rfl⟩
  refine lV (.bool (!decide (ai.2=0))) (Xq (congrArg Value.bool d8) rfl)<|W2 rfl ?_;refine Yc hm (fun d9 hm=>go ?_) fun d9 hm=>go ?_
  ·refine lV (.bool true) (Xr (congrArg Value.bool d9) rfl)<|Zl ?_;exact ⟨rfl,_,_,hm,aa,ba,bb,bc,bd,bs,ag,ac,ad,ae,af,ah,ab,rfl⟩
  refine lV _ (Z2 isAgg27 sizeOf27 bs)<|go ?_;obtain ⟨hl,hn,hm⟩:=bZ hm;refine Zk (Zhl hn ((((ba.toSlF Zd.str).froz 9).froz 10).froz 11) ((((bb.froz 8 (by decide)).toSlF (Zd.row Zd.str)).froz 10).froz 11) ((((bc.froz 8 (by decide)).froz 9 (by decide)).toSlF (Zd.row (Zd.int .i64))).froz 11) ((((bd.froz 8 (by decide)).froz 9 (by decide)).froz 10 (by decide)).toSlF (Zd.row (Zd.pair (Zd.pair Zd.bool (Zd.row (Zd.int .u32))) (Zd.row (Zd.int .u32)))))) ?_;rintro _ ho ⟨rfl,a8⟩;refine ⟨_,rfl,?_⟩;replace a8:Zh ej f3 ej ho:=.of_below a8;refine go ?_;refine lV (.bool (!decide (hl=0))) (Xq (congrArg Value.bool d9) rfl)<|Zl ?_;replace ac:=ac.gr a8;replace ad:=ad.gr a8;replace ae:=ae.gr a8;replace af:=af.gr a8;replace ab:=ab.gr a8;replace ba:=ba.gr a8;replace bb:=bb.gr a8;replace bc:=bc.gr a8;replace bd:=bd.gr a8;replace ag:=ag.gr a8;replace ah:=ah.gr a8;replace bs:=bs.gr a8;replace aa:=aa.grow a8;exact ⟨rfl,_,_,hm,aa,ba,bb,bc,bd,bs,ag,ac,ad,ae,af,ah,ab,rfl⟩
 refine Wl<|lV _ (Z2 isAgg27 sizeOf27 ah) ?_;obtain ⟨ii,hp,hm⟩:=bZ hm;refine Zk (Zhl hp ((((ac.toSlF Zd.str).froz 3).froz 4).froz 5) ((((ad.froz 2 (by decide)).toSlF (Zd.row Zd.str)).froz 4).froz 5) ((((ae.froz 2 (by decide)).froz 3 (by decide)).toSlF (Zd.row (Zd.int .i64))).froz 5) ((((af.froz 2 (by decide)).froz 3 (by decide)).froz 4 (by decide)).toSlF (Zd.row (Zd.pair (Zd.pair Zd.bool (Zd.row (Zd.int .u32))) (Zd.row (Zd.int .u32)))))) ?_;rintro _ fi ⟨rfl,b2⟩;refine ⟨_,rfl,?_⟩;replace b2:Zh c9 fr c9 fi:=.of_below b2;refine go ?_;replace ac:=ac.gr b2;replace ad:=ad.gr b2;replace ae:=ae.gr b2;replace af:=af.gr b2;replace ag:=ag.gr b2;replace ah:=ah.gr b2;replace aa:=aa.grow b2;refine Yc hm (fun ea hm=>go ?_) fun ea hm=>go ?_
 ·refine lV (.bool true) (Xr (congrArg Value.bool ea) rfl)<|Zl ?_;exact ⟨rfl,_,_,hm,aa,ag,ac,ad,ae,af,ah,rfl⟩
 refine lV _ (Z2 isAgg27 sizeOf27 ah)<|go ?_;obtain ⟨hq,hr,hm⟩:=bZ hm;refine Zk (Z0j hr ((((ac.toSlF Zd.str).froz 3).froz 4).froz 5) ((((ad.froz 2 (by decide)).toSlF (Zd.row Zd.str)).froz 4).froz 5) ((((ae.froz 2 (by decide)).froz 3 (by decide)).toSlF (Zd.row (Zd.int .i64))).froz 5) ((((af.froz 2 (by decide)).froz 3 (by decide)).froz 4 (by decide)).toSlF (Zd.row (Zd.pair (Zd.pair Zd.bool (Zd.row (Zd.int .u32))) (Zd.row (Zd.int .u32)))))) ?_;rintro _ ht ⟨rfl,b3⟩;refine ⟨_,rfl,?_⟩;replace b3:Zh c9 fi c9 ht:=.of_below b3;refine go ?_;refine lV (.bool (decide (300<hq))) (Xq (congrArg Value.bool ea) rfl)<|Zl ?_;replace ac:=ac.gr b3;replace ad:=ad.gr b3;replace ae:=ae.gr b3;replace af:=af.gr b3;replace ag:=ag.gr b3;replace ah:=ah.gr b3;replace aa:=aa.grow b3;exact ⟨rfl,_,_,hm,aa,ag,ac,ad,ae,af,ah,rfl⟩
theorem Zuh (N:Nat) (l:List Int) (hl:l.length≤1048576):∀ (f i:Nat) (k:Int),i≤l.length→l.length<f+i→∃ z,Zdc N l f k (i:Int)=some z
 | 0,i,k,h1,h2=>by omega
 | f+1,i,k,h1,h2=>by
  rw [Zdc.eq_2]
  by_cases hi:i<l.length
  ·rw [if_pos (dT (by omega)),Z5 hi,oB,wS (by omega)]
   exact Zuh N l hl f (i+1) _ (by omega) (by omega)
  ·rw [if_neg (dF (by omega))]
   exact ⟨k,rfl⟩
theorem Z3z {N:Nat} {n:Zr} (hl:n.2.2.1.length≤1048576) (hN:2000000<N):∃ z,Zfg N n=some z:=by
 have sz:Zic (n.1,n.2.1,n.2.2.1,n.2.2.2.1,n.2.2.2.2)=some (Zj0 (n.2.2.1.map List.length)):=by
  have:=Zt8 n.2.2.1 [] (by simp only [nN];omega)
  rw [List.nil_append] at this
  rw [Zic];exact this
 have hlen:(Zj0 (n.2.2.1.map List.length)).length=n.2.2.1.length:=by rw [Zj0,List.length_map,List.length_map]
 rw [Zfg,sz,oB]
 exact Zuh N _ (by omega) N 0 1 (Nat.zero_le _) (by omega)
theorem Zwv {a b:Rat} (h:b≤a):¬ Ux a b<0:=by
 rw [Ux,if_neg (Rat.not_lt.2 h)]
 split <;> decide
section
variable {N W V K:Nat} {n:Zr} (hs:Y8 n W) (hb:Zeo n) (hV:W+196608≤V) (hcp:∀ t ∈ n.2.2.2.2,Xn (t.map Y9)≤W) (hqt:(n.2.2.2.2.map Xn).sum≤1048576) (hr:Xh N (8 * K+40)) (hWK:1025 * (V+2)+4≤K) (hK:1074792465≤K) (hW:196608≤W) (hN:1099511627777<N)
include hs hb hV hcp hqt hr hWK hK hW hN
theorem Zzx {r:List R5} {ws:List Int} (hq:∀ l ∈ r,∀ x ∈ l,-9223372036854775808≤x∧x≤9223372036854775807):Zk8 N n r ws=some true:=by
 have hWK0:1025 * (W+2)+4≤K:=by
  have:=Nat.mul_le_mul_left 1025 (show W+2≤V+2 by omega)
  omega
 obtain ⟨e,m1,fine⟩:=Z2a (N:=N) hs (hr.mono (by omega)) (by omega)
 have m1':W8 N (n.1,n.2.1,n.2.2.1,n.2.2.2.1,n.2.2.2.2)=some e:=m1
 have tw:Zcg N (n.1,n.2.1,n.2.2.1,n.2.2.2.1,n.2.2.2.2)=some n:=Zzk hb hN
 rw [Zk8,Zrb,oB,tw,oB,m1',oB]
 by_cases he:e=0
 ·subst he
  have hf:=fine rfl
  have hle:=hf.le
  obtain ⟨r1,r2⟩:=id hr
  obtain ⟨cz,c0⟩:=Z3z (N:=N) (n:=n) (by rw [hf.ev.v];omega) (by omega)
  have c0':Zfg N (n.1,n.2.1,n.2.2.1,n.2.2.2.1,n.2.2.2.2)=some cz:=c0
  rw [if_neg (by decide),c0',oB,Zhx]
  by_cases hc:300<cz
  ·rw [if_pos (dT hc)]
  rw [if_neg (dF hc)]
  have sh:Zgn N (n.1,n.2.1,n.2.2.1,n.2.2.2.1,n.2.2.2.2)=some true:=Z6a hf hs (by omega)
  obtain ⟨o,o1,o2,o3⟩:=Z4v hf (by omega) hq
  have o1':Zfh N (n.1,n.2.1,n.2.2.1,n.2.2.2.1,n.2.2.2.2) r true=some o:=o1
  have oR:=(Zj7 o2).1
  -- Fit without more
  have hz:RV 1 ((false,([]:List Int)),([]:List Int)):=⟨by simp [Zn],by simp [Zn],by simp,by simp⟩
  have hz2:Zv ((false,([]:List Int)),([]:List Int))=0:=by rw [Zv];simp [Zy,Zc]
  have fit:=Ztg (M:=0) hf hs hr hWK0 (by omega) hz hz2 (by rw [Zm0];omega) (by decide) o2 (by omega) m1 oR
  have fit':Zas N (n.1,n.2.1,n.2.2.1,n.2.2.2.1,n.2.2.2.2) o ((false,([]:List Int)),([]:List Int))=some (Z7 n (X4 n o 0),0):=fit
  have fok:=Zta hf hs (r:=o) (by omega)
  have hf2:=Zqw hf fok
  have hs2:=(Z3d hf hs (r:=o) (by omega) hcp).le hV
  have hC2:=Zn7 hf2 hs2 (hr.mono (by omega)) (by omega)
  have hC2':W8 N ((Z7 n (X4 n o 0)).1,(Z7 n (X4 n o 0)).2.1,(Z7 n (X4 n o 0)).2.2.1,(Z7 n (X4 n o 0)).2.2.2.1,(Z7 n (X4 n o 0)).2.2.2.2)=some 0:=hC2
  rw [sh,oB,if_neg (by decide),o1',oB,fit',oB,if_neg (by decide),if_neg (by rw [decide_eq_true rfl];decide)]
  dsimp only
  rw [hC2',oB,decide_eq_true rfl,Bool.not_true,Zff,if_neg (by decide)]
  -- the other network
  obtain ⟨T,t1,t2,t3⟩:=Z4y hf (hr.mono (by omega)) hb hN ws
  have t1':Zfl N (n.1,n.2.1,n.2.2.1,n.2.2.2.1,n.2.2.2.2) ws=some (Z7 n T):=t1
  have small:∀ (n':Zr) (T:List (List QV)),Y8 n' W→(∀ t ∈ T,t.length≤65536∧∀ x ∈ t,RV 1 x)→Y8 (Z7 n' T) W:=fun n' T hs hT=>Zxq hs (fun t ht=>by have:=(hT t ht).1;omega) (fun t ht=>by
   have h1:=Zmy (b:=1) t (hT t ht).2
   have h2:=(hT t ht).1
   omega) fun t ht x hx=>⟨((hT t ht).2 x hx).m,((hT t ht).2 x hx).d⟩
  have hf3:=Zqw hf t2
  have hs3:=small n T hs t3
  have hC3:=Zn7 hf3 hs3 (hr.mono (by omega)) (by omega)
  -- what is learnt of it
  have o4:∀ x ∈ o,Yp (Z7 n T) x:=fun x hx=>Zqv (o2 x hx)
  have oR4:=(Zj7 o4).1
  have fit2:=Ztg (M:=0) hf3 hs3 hr hWK0 (by omega) hz hz2 (by rw [Zm0];omega) (by decide) o4 (by omega) hC3 oR4
  have fit2':Zas N ((Z7 n T).1,(Z7 n T).2.1,(Z7 n T).2.2.1,(Z7 n T).2.2.2.1,(Z7 n T).2.2.2.2) o ((false,([]:List Int)),([]:List Int))=some (Z7 (Z7 n T) (X4 (Z7 n T) o 0),0):=fit2
  have fok2:=Zta hf3 hs3 (r:=o) (by omega)
  have hf5:=Zqw hf3 fok2
  have rv2:∀ v,v<n.2.1.length→∀ x ∈ (Z7 n T).2.2.2.2.getD v [],RV 1 (Y9 x):=fun v hv x hx=>by
   have hvT:v<T.length:=by rw [t2.len];exact hv
   have hx2:x ∈ T[v]:=by rw [← Xx (d:=[]) hvT];exact hx
   have h1:=(t3 _ (List.getElem_mem hvT)).2 x hx2
   have h2:=Zej h1
   exact Su (by omega)
  have tb2:∀ v,v<n.2.1.length→Zaf 1 (cnt (Z7 n T) v) (Vb (Z7 n T) v) ((X4 (Z7 n T) o 0).getD v []):=fun v hv=>Ztd hf3 (by omega) hv (by omega) (rv2 v hv)
  have rw2:∀ t ∈ X4 (Z7 n T) o 0,t.length≤65536∧∀ x ∈ t,RV 1 x:=fun t ht=>by
   have hlen:(X4 (Z7 n T) o 0).length=n.2.1.length:=by rw [X4,List.length_map,List.length_range];rfl
   obtain ⟨v,hv,rfl⟩:=List.getElem_of_mem ht
   have hv2:v<n.2.1.length:=by omega
   have h:=tb2 v hv2
   rw [Xx hv] at h
   have h1:=h.len
   obtain ⟨c1,c2,_⟩:=hf3.rows (v:=v) hv2
   rw [Vb] at h1
   exact ⟨by omega,fun x hx=>(h.ent x hx).2.2⟩
  have hs5:=small (Z7 n T) _ hs3 rw2
  have hC5:=Zn7 hf5 hs5 (hr.mono (by omega)) (by omega)
  -- how long the products are
  obtain ⟨B,hBd⟩:∃ B:Nat→Nat,B=fun v=>Xn (n.2.2.2.2.getD v [])+1:=⟨_,rfl⟩
  have hS:Tv B n.2.1.length 0+1≤1050000:=by
   rw [hBd,Zyn,Zym Xn n.2.2.2.2 n.2.1.length 0 (by rw [hf.ev.t];omega),List.drop_zero];omega
  have B0:Zcv n B:=fun v hv x hx=>by rw [hBd];exact Zs8 hf hs hv x hx
  have B2:Zcv (Z7 n (X4 n o 0)) B:=fun v hv x hx=>by
   have h:=((Zc1 hf hs (r:=o) (by omega) (v:=v) hv).ent x hx).2.2
   have:=Zej h
   rw [hBd];show qs (Zv x)≤Xn (n.2.2.2.2.getD v [])+1;omega
  have B3:Zcv (Z7 n T) B:=fun v hv x hx=>by
   have hvT:v<T.length:=by rw [t2.len];exact hv
   have hx2:x ∈ T[v]:=by rw [← Xx (d:=[]) hvT];exact hx
   have:=Zej ((t3 _ (List.getElem_mem hvT)).2 x hx2)
   rw [hBd];show qs (Zv x)≤Xn (n.2.2.2.2.getD v [])+1;omega
  have B5:Zcv (Z7 (Z7 n T) (X4 (Z7 n T) o 0)) B:=fun v hv x hx=>by
   have:=Zej ((tb2 v hv).ent x hx).2.2
   rw [hBd];show qs (Zv x)≤Xn (n.2.2.2.2.getD v [])+1;omega
  -- the probabilities
  have o6:∀ x ∈ o,Yp (Z7 n (X4 n o 0)) x:=fun x hx=>Zqv (o2 x hx)
  have o7:∀ x ∈ o,Yp (Z7 (Z7 n T) (X4 (Z7 n T) o 0)) x:=fun x hx=>Zqv (o4 x hx)
  obtain ⟨x1,x2⟩:=Zkq hf2 hs2 hr hWK (by omega) hC2 B2 hS (by omega) o6 (Zj7 o6).1 (by omega)
  obtain ⟨y1,y2⟩:=Zkq hf3 hs3 hr hWK0 (by omega) hC3 B3 hS (by omega) o4 oR4 (by omega)
  obtain ⟨z1,z2⟩:=Zkq hf hs hr hWK0 (by omega) m1 B0 hS (by omega) o2 oR (by omega)
  obtain ⟨w1,w2⟩:=Zkq hf5 hs5 hr hWK0 (by omega) hC5 B5 hS (by omega) o7 (Zj7 o7).1 (by omega)
  have le1:W4 (Z7 n T) o≤W4 (Z7 n (X4 n o 0)) o:=Zvb hf (by omega) t2 fok o2
  have le2:W4 n o≤W4 (Z7 n (X4 n o 0)) o:=Zvb hf (by omega) (Zy4 hf) fok o2
  have same:W4 (Z7 (Z7 n T) (X4 (Z7 n T) o 0)) o=W4 (Z7 n (X4 n o 0)) o:=by
   rw [Zm7 hf3 fok2 o4,Zm7 hf fok o2]
   exact Zvc hf t2 (by omega) n.2.1.length 0 (by omega)
  have cmp:∀ a b:Rat,qs a≤1+12 * 1050000→qs b≤1+12 * 1050000→S5 N (((Zw a).1.1,(Zw a).1.2),(Zw a).2) (((Zw b).1.1,(Zw b).1.2),(Zw b).2)=some (Ux a b):=fun a b ha hb=>by
   have:=Zog (N:=N) (Su ha) (Su hb) (hr.mono (by omega))
   rwa [V3,V3] at this
  have self:∀ a:Rat,Ux a a=0:=fun a=>by rw [Ux,if_neg (Rat.lt_irrefl),if_neg (Rat.lt_irrefl)]
  have x1':U9 N ((Z7 n (X4 n o 0)).1,(Z7 n (X4 n o 0)).2.1,(Z7 n (X4 n o 0)).2.2.1,(Z7 n (X4 n o 0)).2.2.2.1,(Z7 n (X4 n o 0)).2.2.2.2) o=_:=x1
  have y1':U9 N ((Z7 n T).1,(Z7 n T).2.1,(Z7 n T).2.2.1,(Z7 n T).2.2.2.1,(Z7 n T).2.2.2.2) o=_:=y1
  have z1':U9 N (n.1,n.2.1,n.2.2.1,n.2.2.2.1,n.2.2.2.2) o=_:=z1
  have w1':U9 N ((Z7 (Z7 n T) (X4 (Z7 n T) o 0)).1,(Z7 (Z7 n T) (X4 (Z7 n T) o 0)).2.1,(Z7 (Z7 n T) (X4 (Z7 n T) o 0)).2.2.1,(Z7 (Z7 n T) (X4 (Z7 n T) o 0)).2.2.2.1,(Z7 (Z7 n T) (X4 (Z7 n T) o 0)).2.2.2.2) o=_:=w1
  rw [same] at w1' w2
  rw [t1',oB,x1',oB,y1',oB,z1',oB]
  generalize W4 (Z7 n (X4 n o 0)) o=X at *
  generalize W4 (Z7 n T) o=Y at *
  generalize W4 n o=Z at *
  dsimp only
  rw [if_neg (by rw [decide_eq_true rfl];decide),if_neg (by rw [decide_eq_true rfl];decide),if_neg (by rw [decide_eq_true rfl];decide),cmp X Y x2 y2,oB,if_neg (dF (Zwv le1)),cmp X Z x2 z2,oB,decide_eq_false (Zwv le2),Zby,if_neg (by decide),fit2',oB]
  dsimp only
  rw [w1',oB]
  dsimp only
  rw [if_pos (dT rfl),if_pos (dT rfl),cmp X X x2 x2,oB,self]
  rfl
 ·rw [if_pos (by rw [decide_eq_false he];rfl)];rfl
end
theorem Zal {α:Type} {b:α→Nat} (hb:∀ x,1≤b x):∀ (l:List α),l.length+1≤Xi b l
 | []=>by simp [Xi]
 | x :: l=>by
  have h:=Zal hb l
  have:=hb x
  simp only [Xi,List.map_cons,List.sum_cons,nC] at h ⊢
  omega
theorem Zjh {α:Type} {b:α→Nat} {x:α}:∀ {l:List α},x ∈ l→b x+1≤Xi b l
 | y :: l,h=>by
  simp only [Xi,List.map_cons,List.sum_cons]
  rcases List.mem_cons.1 h with rfl | h
  ·omega
  ·have:=Zjh (b:=b) h
   simp only [Xi] at this
   omega
theorem Znv {α:Type} {b:α→Nat} (l:List α):1≤Xi b l:=by simp only [Xi];omega
theorem Zke (s:ByteArray):1≤V8 s:=by simp only [V8];omega
theorem Znt {α:Type} (s:α):1≤Wg s:=by simp only [Wg];omega
theorem Zz6 {α:Type} {b:α→Nat} (s:α):1≤V7 b s:=by simp only [V7];omega
abbrev Sw:QV→Nat:=V7 (Wz (V7 (Wz Wg (Xi Wg))) (Xi Wg))
abbrev qQ:QV→Prop:=Tt (Tt (fun _=>True) (Wu (Tg .u32))) (Wu (Tg .u32))
abbrev Zbe:Zr→Nat:=V7 (Wz V8 (Wz (Xi V8) (Wz (Xi (Xi V8)) (Wz (Xi (Xi Wg)) (Xi (Xi Sw))))))
abbrev Zqc:Zr→Prop:=Tt (fun _=>True) (Tt (Wu (fun _=>True)) (Tt (Wu (Wu (fun _=>True))) (Tt (Wu (Wu (Tg .i64))) (Wu (Wu qQ)))))
theorem Zus {l:List Int} (h:Wu (Tg .u32) l):Zn l:=by
 intro d hd
 have h1:=h d hd
 simp [Tg,Lit.wf,IntKind.min,IntKind.max,IntKind.signed,IntKind.bits] at h1
 omega
theorem Zur {x:QV} (h:qQ x):Vk x:=⟨Zus h.1.2,Zus h.2⟩
theorem Znu (x:QV):x.1.2.length+x.2.length+4≤Sw x:=by
 have h1:=Zal (b:=Wg) Znt x.1.2
 have h2:=Zal (b:=Wg) Znt x.2
 simp only [V7,Wz]
 have h3:Wg x.1.1=1:=rfl
 omega
theorem Zqe:∀ t:List QV,Xn t≤Xi Sw t
 | []=>by rw [Xn];omega
 | x :: t=>by
  have h1:=Zqe t
  have h2:=Znu x
  rw [Xn]
  simp only [Xi,List.map_cons,List.sum_cons] at h1 ⊢
  omega
theorem Zzb:∀ P:List R5,Uy P+P.length≤Xi (Xi Wg) P
 | []=>by simp [Uy,Xi]
 | l :: P=>by
  have h1:=Zzb P
  have h2:=Zal (b:=Wg) Znt l
  rw [Zj1,nC]
  simp only [Xi,List.map_cons,List.sum_cons] at h1 h2 ⊢
  omega
theorem Z4m {n:Zr} (hb:Zbe n≤1048576) (hq:Zqc n):Y8 n 1048576∧Zeo n:=by
 have a1:=Zke n.1
 have a2:=Zal (b:=V8) Zke n.2.1
 have a3:=Zal (b:=Xi V8) Znv n.2.2.1
 have a4:=Zzb n.2.2.2.1
 have a5:=Zal (b:=Xi Sw) Znv n.2.2.2.2
 have a6:=Znv (b:=Xi Wg) n.2.2.2.1
 simp only [Zbe,V7,Wz] at hb
 have b3:∀ l ∈ n.2.2.1,l.length≤1048576:=fun l hl=>by
  have h1:=Zjh (b:=Xi V8) hl
  have h2:=Zal (b:=V8) Zke l
  omega
 have b4:∀ l ∈ n.2.2.2.1,l.length≤1048576:=fun l hl=>by
  have h1:=Znd hl
  omega
 have b5:∀ t ∈ n.2.2.2.2,Xi Sw t≤1048576:=fun t ht=>by
  have h1:=Zjh (b:=Xi Sw) ht
  omega
 have b6:∀ t ∈ n.2.2.2.2,t.length≤1048576:=fun t ht=>by
  have h1:=b5 t ht
  have h2:=Zal (b:=Sw) Zz6 t
  omega
 refine ⟨⟨by omega,b3,⟨by omega,by omega⟩,b6,fun t ht=>Nat.le_trans (Zqe t) (b5 t ht),fun t ht x hx=>Zur (hq.2.2.2.2 t ht x hx)⟩,⟨by omega,by omega,b3,by omega,b4,by omega,b6,fun t ht x hx=>?_⟩⟩
 have h1:=b5 t ht
 have h2:=Zjh (b:=Sw) hx
 have h3:=Znu x
 omega
theorem Zss:∀ t:List QV,(∀ x ∈ t,Vk x)→Xn (t.map Y9)≤Xi Sw t
 | [],_=>by rw [List.map_nil,Xn];omega
 | x :: t,h=>by
  have h1:=Zss t fun y hy=>h y (List.mem_cons_of_mem _ hy)
  have h2:=Znu x
  have hx:=h x List.mem_cons_self
  have h3:=Zej (Zg2 hx.1 hx.2)
  have h4:max (Y9 x).1.2.length (Y9 x).2.length=qs (Zv x):=rfl
  rw [List.map_cons,Xn,h4]
  simp only [Xi,List.map_cons,List.sum_cons] at h1 ⊢
  omega
theorem Z4k {n:Zr} (hb:Zbe n≤1048576) (hq:Zqc n):∀ t ∈ n.2.2.2.2,Xn (t.map Y9)≤1048576:=fun t ht=>by
 have h1:=Zss t fun x hx=>Zur (hq.2.2.2.2 t ht x hx)
 have h2:=Zjh (b:=Xi Sw) ht
 have a1:=Zke n.1
 simp only [Zbe,V7,Wz] at hb
 omega
theorem Zwz:∀ T:List (List QV),(T.map Xn).sum≤Xi (Xi Sw) T
 | []=>by simp [Xi]
 | t :: T=>by
  have h1:=Zwz T
  have h2:=Zqe t
  simp only [Xi,List.map_cons,List.sum_cons] at h1 h2 ⊢
  omega
theorem Z4l {n:Zr} (hb:Zbe n≤1048576):(n.2.2.2.2.map Xn).sum≤1048576:=by
 have h1:=Zwz n.2.2.2.2
 simp only [Zbe,V7,Wz] at hb
 omega

end Go.Proofs.YtkhnlgdenkikoaaGreat
