/-
  What functions of the program compute, as plain Lean functions (m_..), and proofs that they compute it (c_..). Printed by a program of the author; no conditions.
-/
import Derived.Test.YtbmjpjhbankpoaaGreatCodeSpanBFloat
import Derived.Test.YtbmjpjhbankpoaaGreatProg
import Derived.Test.YtbmjpjhbankpoaaGreatCodeSpanBBrief
import Derived.Test.YtbmjpjhbankpoaaGreatCodeSpanBThree
import Derived.Test.YtbmjpjhbankpoaaGreatCodeSpanBView
import Derived.Test.YtbmjpjhbankpoaaGreatCodeSpanF3
set_option linter.unusedVariables false
set_option maxRecDepth 100000
set_option maxHeartbeats 2000000
namespace Go.Proofs.YtbmjpjhbankpoaaGreat
open Go Go.RowKit
open Go.IntKind (i8 i16 i32 i64 u8 u16 u32 u64)
open Go.Proofs.Tryz

def Zgn (aa:Int) (kk_L2:(Bool→Int→Option Int)) (ab:Bool):Option Int:=
  kk_L2 ab (i64.wrap (aa+1))
def Zau (N:Nat) (ad:R1) (ab:Int) (kk_L1:(Int→Option Int)):Nat→Bool→Int→Option Int
  | 0,_,_=>none
  | ae+1,af,aa=>(Zk ad.2.2.1 ab).bind fun ac=>if (decide (aa<(ac.length:Int)))=true then (if af=true then (Zgn aa (Zau N ad ab kk_L1 ae) true) else ((Zk ac aa).bind fun ag=>(Ziq N ac ag).bind fun ah=>Zgn aa (Zau N ad ab kk_L1 ae) (decide (ah<aa)))) else (if af=true then (some 40) else (if (decide ((ac.length:Int)=0))=true then (some 43) else (kk_L1 (i64.wrap (ab+1)))))
termination_by structural x=>x
def Zdn (N:Nat) (ad:R1) (aa:Int) (kk_L4:(Int→Option Int)):Nat→Int→Option Int
  | 0,_=>none
  | af+1,ab=>(Zk ad.2.2.2.2 aa).bind fun ae=>if (decide (ab<(ae.length:Int)))=true then ((Zk ae ab).bind fun ac=>(Zgq N ((ac.1.1,ac.1.2),ac.2)).bind fun ag=>if ag=true then (some 45) else ((Zdn N ad aa kk_L4 af) (i64.wrap (ab+1)))) else (kk_L4 (i64.wrap (aa+1)))
termination_by structural x=>x
def Zaw (N:Nat) (ab:R1) (ac:List Int):Nat→Int→Option Int
  | 0,_=>none
  | ad+1,aa=>if (decide (aa<(ab.2.1.length:Int)))=true then ((Zk ab.2.2.2.2 aa).bind fun ae=>(Zk ac aa).bind fun af=>(Zkn N ae af).bind fun ag=>if (!ag)=true then (some 46) else ((Zaw N ab ac ad) (i64.wrap (aa+1)))) else (some 0)
termination_by structural x=>x
def Qv (N:Nat) (aa:R1) (ab:List Int):Nat→Int→Option Int
  | 0,_=>none
  | ad+1,ac=>if (decide (ac<(aa.2.1.length:Int)))=true then (Zdn N aa ac (Qv N aa ab ad) N 0) else (Zaw N aa ab N 0)
termination_by structural x=>x
def Zav (N:Nat) (aa:R1) (ac:List Int):Nat→Int→Option Int
  | 0,_=>none
  | af+1,ab=>if (decide (ab<(aa.2.1.length:Int)))=true then ((Zk aa.2.2.2.1 ab).bind fun ag=>(Zip N ag ac).bind fun ad=>(Zk ac ab).bind fun ae=>(Zir ad ae).bind fun ah=>if ah=true then (some 4) else ((Zk aa.2.2.2.2 ab).bind fun ai=>if (!decide ((ai.length:Int)=(i64.wrap (ad * ae))))=true then (some 60) else ((Zav N aa ac af) (i64.wrap (ab+1))))) else (Qv N aa ac N 0)
termination_by structural x=>x
def Se (N:Nat) (aa:R1):Nat→Int→Option Int
  | 0,_=>none
  | ad+1,ab=>if (decide (ab<(aa.2.1.length:Int)))=true then ((Zk aa.2.1 ab).bind fun ae=>(Ziq N aa.2.1 ae).bind fun af=>Zau N aa ab (Se N aa ad) N (decide (af<ab)) 0) else ((Sd N aa.2.2.2.1).bind fun ac=>if (!decide (ac=0))=true then (some ac) else ((Zdq N (aa.1,aa.2.1,aa.2.2.1,aa.2.2.2.1,aa.2.2.2.2)).bind fun ag=>Zav N aa ag N 0))
termination_by structural x=>x
def Zb0 (N:Nat) (aa:R1) (ab:Bool):Option Int:=
  if ab=true then (some 60) else (if (decide (1024<(aa.2.1.length:Int)))=true then (some 4) else (Se N aa N 0))
def Zgm (N:Nat) (aa:R1):Option Int:=
  if (!decide ((aa.2.2.1.length:Int)=(aa.2.1.length:Int)))=true then (Zb0 N aa true) else (if (!decide ((aa.2.2.2.1.length:Int)=(aa.2.1.length:Int)))=true then (Zb0 N aa true) else (Zb0 N aa (!decide ((aa.2.2.2.2.length:Int)=(aa.2.1.length:Int)))))
theorem Zxk {N ak al am an:Nat} {ao ap aq ar:Option Addr} {col:Zd} {w0:World} {ab:R1} {r:Int} (hm:Zgm N ab=some r) (a0:Sl Za.str col w0 ao ak ab.2.1) (ah:Sl (Za.slice Za.str) col w0 ap al ab.2.2.1) (a1:Sl (Za.slice (Za.int .i64)) col w0 aq am ab.2.2.2.1) (ai:Sl (Za.slice (Za.pair (Za.pair Za.bool (Za.slice (Za.int .u32))) (Za.slice (Za.int .u32)))) col w0 ar an ab.2.2.2.2):
    Calls Tryz.prog 79 #[(.agg #[.string ab.1,.slice ao ab.2.1.length ak,.slice ap ab.2.2.1.length al,.slice aq ab.2.2.2.1.length am,.slice ar ab.2.2.2.2.length an])] w0 (fun e w'=>e= .returned ((.int .i64 r))∧Below w0.heap.size w0 w'):=by
 refine Xb 2 (m:=175) func79 rfl rfl rfl rfl rfl ?_;rw [Zgm.eq_1] at hm;have aa:=St.start col w0;refine go ?_;refine Xh (col:=(Zi col)) 1 rfl ?_;intro av dt du cg ac;refine go ?_;refine Z9 ac<|lV _ (To underlying22 rfl)<|Yt rfl<|Zl<|Zu<|Zu ?_;replace a0:=a0.keep (Zj.start col w0);replace ah:=ah.keep (Zj.start col w0);replace a1:=a1.keep (Zj.start col w0);replace ai:=ai.keep (Zj.start col w0);replace aa:=aa.grow cg;refine Wp.cutK [1,3,1000000] (fun f bo=>∃ bp bq,Zb0 N ab bq=some r∧St w0 (Zi col) bp bo∧Zn 27 1 bp bo av #[.string ab.1,.slice ao ab.2.1.length ak,.slice ap ab.2.2.1.length al,.slice aq ab.2.2.2.1.length am,.slice ar ab.2.2.2.2.length an]∧[38].map f=[.bool bq]) ?_ ?_
 ·intro f bo hJ;obtain ⟨bp,bq,hm,aa,ac,hs⟩:=hJ;rw [Zb0.eq_1] at hm;refine .lL [38] hs ?_;refine Zp hm (fun hb hm=>go ?_) fun hb hm=>go ?_
  ·cases hm;exact ⟨rfl,rfl,aa.below⟩
  refine Zp hm (fun hb hm=>go ?_) fun hb hm=>go ?_
  ·cases hm;exact ⟨rfl,rfl,aa.below⟩
  refine Zw [1,3,1000000] (fun n f bf=>∃ aj a8 aw,aw=n∧Se N ab aw a8=some r∧St w0 (Zi col) aj bf∧Zn 27 1 aj bf av #[.string ab.1,.slice ao ab.2.1.length ak,.slice ap ab.2.2.1.length al,.slice aq ab.2.2.2.1.length am,.slice ar ab.2.2.2.2.length an]∧[4].map f=[.int .i64 a8]) N ⟨_,0,_,rfl,hm,aa,ac,rfl⟩ ?_;clear hm;intro n f bf hI;obtain ⟨aj,a8,aw,hn,hm,aa,ac,hs⟩:=hI;subst hn;refine .lL [4] hs ?_
  cases aw with
  | zero=>rw [Se.eq_1] at hm;cases hm
  | succ aw=>
   rw [Se.eq_2] at hm;refine go ?_;refine Zp hm (fun hb hm=>go ?_) fun hb hm=>go ?_
   ·refine Wj (col:=aj) (by kernel_rfl) (by kernel_rfl)<|qF ⟨_,_,rfl⟩ ?_;refine qW (fun _ hC=>((ac.atN).nth (q:=1) rfl).gr (hC.bl aj)) ?_;refine qF ⟨_,_,rfl⟩ ?_;refine qW (fun _ hC=>((ac.atN).nth (q:=1) rfl).gr (hC.bl aj)) ?_;refine go ?_;obtain ⟨dv,br,hm⟩:=bZ hm;refine qI br ((a0.ks aa).addr br)<|qW (fun _ hC=>((a0.ks aa).gr (hC.bl aj)).atStr br) ?_;obtain ⟨ch,ci,hm⟩:=bZ hm;refine qc (v:=(.int .i64 ch)) rfl (fun _ hC=>⟨_,_,Q1 call192 rfl rfl,(Zo2 ci ((a0.ks aa).gr (hC.bl aj)):).mono fun _ _ h=>⟨h.1,hC.trans (.of_below h.2)⟩⟩) ?_;refine go ?_;refine Yn ?_;intro dw hC;replace hC:=hC.bl aj;refine go ?_;replace ac:=ac.gr hC;replace aa:=aa.grow hC;refine Zw [1,3,4,1000000] (fun n f bs=>∃ af bt a9 ay,ay=n∧Zau N ab a8 (Se N ab aw) ay bt a9=some r∧St w0 (Zi col) af bs∧Zn 27 1 af bs av #[.string ab.1,.slice ao ab.2.1.length ak,.slice ap ab.2.2.1.length al,.slice aq ab.2.2.2.1.length am,.slice ar ab.2.2.2.2.length an]∧[5,6].map f=[.bool bt,.int .i64 a9]) N ⟨_,_,0,_,rfl,hm,aa,ac,rfl⟩ ?_;clear hm;intro n f bs hI;obtain ⟨af,bt,a9,ay,hn,hm,aa,ac,hs⟩:=hI;subst hn;refine .lL [5,6] hs ?_
    cases ay with
    | zero=>rw [Zau.eq_1] at hm;cases hm
    | succ ay=>
     rw [Zau.eq_2] at hm;refine go ?_;refine Z9 ac<|Xu rfl ?_;obtain ⟨dx,ag,hm⟩:=bZ hm;refine lI ag ((ah.ks aa).addr ag) ?_;obtain ⟨_,cj,ck⟩:=(ah.ks aa).atN ag;obtain ⟨⟨dy,dz,rfl,d0⟩,_⟩:=cj;refine lW ck.one<|go ?_;refine Zp hm (fun hb hm=>?_) fun hb hm=>go ?_
     ·refine Yf<|Zu ?_;refine Wp.cutK [1,3,4,6,1000000] (fun f bu=>∃ bv bw,Zgn a9 (Zau N ab a8 (Se N ab aw) ay) bw=some r∧St w0 (Zi col) bv bu∧Zn 27 1 bv bu av #[.string ab.1,.slice ao ab.2.1.length ak,.slice ap ab.2.2.1.length al,.slice aq ab.2.2.2.1.length am,.slice ar ab.2.2.2.2.length an]∧[5].map f=[.bool bw]) ?_ ?_
      ·intro f bu hJ;obtain ⟨bv,bw,hm,aa,ac,hs⟩:=hJ;rw [Zgn.eq_1] at hm;refine .lL [5] hs<|go ?_;exact ⟨ay,by omega,rfl,⟨_,_,_,_,rfl,hm,aa,ac,rfl⟩⟩
      refine Zg9<|Wj (col:=af) (by kernel_rfl) (by kernel_rfl)<|go ?_;refine Xr hm (fun bx hm=>go ?_) fun bx hm=>go ?_
      ·refine qv (v:=(.bool true)) rfl (fun _ hC=>Z6 (congrArg Value.bool bx) rfl) ?_;refine go ?_;refine Yn ?_;intro d1 hC;replace hC:=hC.bl af;replace ac:=ac.gr hC;replace aa:=aa.grow hC;exact ⟨rfl,_,_,hm,aa,ac,rfl⟩
      refine qF ⟨_,_,rfl⟩ ?_;refine go ?_;refine qW (fun _ hC=>((ac.atN).nth (q:=2) rfl).gr (hC.bl af)) ?_;refine go ?_;refine qI ag ((ah.ks aa).addr ag) ?_;refine go ?_;obtain ⟨_,cl,cn⟩:=(ah.ks aa).atN ag;obtain ⟨⟨d2,d3,rfl,co⟩,_⟩:=cl;refine qW (fun _ hC=>cn.one.gr (hC.bl af)) ?_;refine go ?_;refine qF ⟨_,_,rfl⟩ ?_;refine go ?_;refine qW (fun _ hC=>((ac.atN).nth (q:=2) rfl).gr (hC.bl af)) ?_;refine go ?_;refine qI ag ((ah.ks aa).addr ag) ?_;refine go ?_;obtain ⟨_,cp,cq⟩:=(ah.ks aa).atN ag;obtain ⟨⟨d4,d5,rfl,cb⟩,_⟩:=cp;refine qW (fun _ hC=>cq.one.gr (hC.bl af)) ?_;refine go ?_;obtain ⟨d6,bz,hm⟩:=bZ hm;refine qI bz (cb.addr bz) ?_;refine go ?_;refine qW (fun _ hC=>(cb.gr (hC.bl af)).atStr bz) ?_;refine go ?_;obtain ⟨cc,cr,hm⟩:=bZ hm;refine qc (v:=(.int .i64 cc)) rfl (fun _ hC=>⟨_,_,Q1 call192 rfl rfl,(Zo2 cr (co.gr (hC.bl af)):).mono fun _ _ h=>⟨h.1,hC.trans (.of_below h.2)⟩⟩) ?_;refine go ?_;refine qv (v:=(.bool (decide (cc<a9)))) rfl (fun _ hC=>Xg (congrArg Value.bool bx) rfl) ?_;refine go ?_;refine Yn ?_;intro d7 hC;replace hC:=hC.bl af;replace ac:=ac.gr hC;replace aa:=aa.grow hC;exact ⟨rfl,_,_,hm,aa,ac,rfl⟩
     refine Zp hm (fun hb hm=>go ?_) fun hb hm=>go ?_
     ·cases hm;exact ⟨rfl,rfl,aa.below⟩
     refine Z9 ac<|Xu rfl<|lI ag ((ah.ks aa).addr ag) ?_;obtain ⟨_,cs,ct⟩:=(ah.ks aa).atN ag;obtain ⟨⟨d8,d9,rfl,ea⟩,_⟩:=cs;refine lW ct.one<|go ?_;refine Zp hm (fun hb hm=>go ?_) fun hb hm=>go ?_
     ·cases hm;exact ⟨rfl,rfl,aa.below⟩
     exact ⟨aw,by omega,rfl,⟨_,_,_,rfl,hm,aa,ac,rfl⟩⟩
   refine Z9 ac ?_;obtain ⟨eb,cu,hm⟩:=bZ hm;refine Zh (Zo0 cu (a1.ks aa)) ?_;rintro _ cv ⟨rfl,bg⟩;refine ⟨_,rfl,?_⟩;replace bg:Zf aj bf aj cv:=.of_below bg;refine go ?_;replace ac:=ac.gr bg;replace aa:=aa.grow bg;refine Zp hm (fun hb hm=>go ?_) fun hb hm=>go ?_
   ·cases hm;exact ⟨rfl,rfl,aa.below⟩
   refine lV _ (Xj isAgg27 sizeOf27 ac) ?_;obtain ⟨ax,cw,hm⟩:=bZ hm;refine Zh (Zxo 2 cw (a0.ks aa) (ah.ks aa) (a1.ks aa) (ai.ks aa)) ?_;rintro _ ec ⟨ed,bh,bi,rfl,cd,ad⟩;refine ⟨_,rfl,go ?_⟩;replace ac:=ac.gr cd;replace aa:=aa.grow cd;refine Zw [1,3,8,1000000] (fun n f ba=>∃ ae b0 a2,a2=n∧Zav N ab ax a2 b0=some r∧St w0 (Zi col) ae ba∧Zn 27 1 ae ba av #[.string ab.1,.slice ao ab.2.1.length ak,.slice ap ab.2.2.1.length al,.slice aq ab.2.2.2.1.length am,.slice ar ab.2.2.2.2.length an]∧Zc (Za.int .i64) 3 2 ae ba bh bi ax∧[9].map f=[.int .i64 b0]) N ⟨_,0,_,rfl,hm,aa,ac,ad,rfl⟩ ?_;clear hm;intro n f ba hI;obtain ⟨ae,b0,a2,hn,hm,aa,ac,ad,hs⟩:=hI;subst hn;refine .lL [9] hs ?_
   cases a2 with
   | zero=>rw [Zav.eq_1] at hm;cases hm
   | succ a2=>
    rw [Zav.eq_2] at hm;refine go ?_;refine Zp hm (fun hb hm=>go ?_) fun hb hm=>go ?_
    ·refine Z9 ac<|Xu rfl ?_;obtain ⟨ee,b1,hm⟩:=bZ hm;refine lI b1 ((a1.ks aa).addr b1) ?_;obtain ⟨_,cx,cy⟩:=(a1.ks aa).atN b1;obtain ⟨⟨ef,eg,rfl,cz⟩,_⟩:=cx;refine lW cy.one<|Y2 rfl ?_;obtain ⟨eh,c0,hm⟩:=bZ hm;refine Zh (Zxl c0 (cz.froz 2) (ad.toSlF (Zm.int .i64))) ?_;rintro _ ce ⟨rfl,bb⟩;refine ⟨_,rfl,?_⟩;replace bb:Zf ae ba ae ce:=.of_below bb;refine go ?_;obtain ⟨ei,a3,hm⟩:=bZ hm;replace ad:=ad.gr bb;refine lI a3 (ad.addr a3)<|lW (ad.atInt a3) ?_;obtain ⟨ej,c1,hm⟩:=bZ hm;refine Zh (Zxn (col:=ae) c1) ?_;rintro _ c2 ⟨rfl,bc⟩;refine ⟨_,rfl,?_⟩;replace bc:Zf ae ce ae c2:=.of_below bc;refine go ?_;replace ac:=(ac.gr bb).gr bc;replace aa:=(aa.grow bb).grow bc;replace ad:=ad.gr bc;refine Zp hm (fun hb hm=>go ?_) fun hb hm=>go ?_
     ·cases hm;exact ⟨rfl,rfl,aa.below⟩
     refine Wj (col:=ae) (by kernel_rfl) (by kernel_rfl)<|qF ⟨_,_,rfl⟩ ?_;refine qW (fun _ hC=>((ac.atN).nth (q:=4) rfl).gr (hC.bl ae)) ?_;refine go ?_;obtain ⟨ek,b2,hm⟩:=bZ hm;refine qI b2 ((ai.ks aa).addr b2) ?_;obtain ⟨_,c3,c4⟩:=(ai.ks aa).atN b2;obtain ⟨⟨el,em,rfl,en⟩,_⟩:=c3;refine qW (fun _ hC=>c4.one.gr (hC.bl ae)) ?_;refine go ?_;refine qI a3 (ad.addr a3)<|qW (fun _ hC=>(ad.gr (hC.bl ae)).atInt a3) ?_;refine go ?_;refine Yn ?_;intro eo hC;replace hC:=hC.bl ae;replace ad:=ad.gr hC;replace ac:=ac.gr hC;replace aa:=aa.grow hC;refine Zp hm (fun hb hm=>go ?_) fun hb hm=>go ?_
     ·cases hm;exact ⟨rfl,rfl,aa.below⟩
     exact ⟨a2,by omega,rfl,⟨_,_,_,rfl,hm,aa,ac,ad,rfl⟩⟩
    refine Zw [1,3,8,1000000] (fun n f bj=>∃ bk bm az,az=n∧Qv N ab ax az bm=some r∧St w0 (Zi col) bk bj∧Zn 27 1 bk bj av #[.string ab.1,.slice ao ab.2.1.length ak,.slice ap ab.2.2.1.length al,.slice aq ab.2.2.2.1.length am,.slice ar ab.2.2.2.2.length an]∧Zc (Za.int .i64) 3 2 bk bj bh bi ax∧[12].map f=[.int .i64 bm]) N ⟨_,0,_,rfl,hm,aa,ac,ad,rfl⟩ ?_;clear hm;intro n f bj hI;obtain ⟨bk,bm,az,hn,hm,aa,ac,ad,hs⟩:=hI;subst hn;refine .lL [12] hs ?_
    cases az with
    | zero=>rw [Qv.eq_1] at hm;cases hm
    | succ az=>
     rw [Qv.eq_2] at hm;refine go ?_;refine Zp hm (fun hb hm=>go ?_) fun hb hm=>go ?_
     ·refine Zw [1,12,3,8,1000000] (fun n f bd=>∃ a4 b3 a5,a5=n∧Zdn N ab bm (Qv N ab ax az) a5 b3=some r∧St w0 (Zi col) a4 bd∧Zn 27 1 a4 bd av #[.string ab.1,.slice ao ab.2.1.length ak,.slice ap ab.2.2.1.length al,.slice aq ab.2.2.2.1.length am,.slice ar ab.2.2.2.2.length an]∧Zc (Za.int .i64) 3 2 a4 bd bh bi ax∧[13].map f=[.int .i64 b3]) N ⟨_,0,_,rfl,hm,aa,ac,ad,rfl⟩ ?_;clear hm;intro n f bd hI;obtain ⟨a4,b3,a5,hn,hm,aa,ac,ad,hs⟩:=hI;subst hn;refine .lL [13] hs ?_
      cases a5 with
      | zero=>rw [Zdn.eq_1] at hm;cases hm
      | succ a5=>
       rw [Zdn.eq_2] at hm;refine go ?_;refine Z9 ac<|Xu rfl ?_;obtain ⟨ep,a6,hm⟩:=bZ hm;refine lI a6 ((ai.ks aa).addr a6) ?_;obtain ⟨_,c5,c6⟩:=(ai.ks aa).atN a6;obtain ⟨⟨eq,er,rfl,es⟩,_⟩:=c5;refine lW c6.one<|go ?_;refine Zp hm (fun hb hm=>go ?_) fun hb hm=>go ?_
       ·refine Z9 ac<|Xu rfl<|lI a6 ((ai.ks aa).addr a6) ?_;obtain ⟨_,c7,c8⟩:=(ai.ks aa).atN a6;obtain ⟨⟨et,eu,rfl,cf⟩,_⟩:=c7;refine lW c8.one<|Xu rfl ?_;obtain ⟨b4,b5,hm⟩:=bZ hm;refine lI b5 (cf.addr b5) ?_;obtain ⟨_,c9,da⟩:=cf.atN b5;obtain ⟨_,_,rfl,db,dc⟩:=Yx c9;obtain ⟨_,_,rfl,dd,de⟩:=Yx db;obtain ⟨rfl,_⟩:=dd;obtain ⟨⟨df,dg,rfl,dh⟩,_⟩:=de;obtain ⟨⟨di,dj,rfl,dk⟩,_⟩:=dc;refine lV (.agg #[.bool b4.1.1,.slice df b4.1.2.length dg,.slice di b4.2.length dj]) (Xq isAgg47 sizeOf47 rfl rfl da) ?_;obtain ⟨ew,dl,hm⟩:=bZ hm;refine Zh (Zxm dl dh dk) ?_;rintro _ dm ⟨rfl,be⟩;refine ⟨_,rfl,?_⟩;replace be:Zf a4 bd a4 dm:=.of_below be;refine go ?_;replace ad:=ad.gr be;replace ac:=ac.gr be;replace aa:=aa.grow be;refine Zp hm (fun hb hm=>go ?_) fun hb hm=>go ?_
        ·cases hm;exact ⟨rfl,rfl,aa.below⟩
        exact ⟨a5,by omega,rfl,⟨_,_,_,rfl,hm,aa,ac,ad,rfl⟩⟩
       exact ⟨az,by omega,rfl,⟨_,_,_,rfl,hm,aa,ac,ad,rfl⟩⟩
     refine Zw [1,3,8,1000000] (fun n f bn=>∃ au b6 a7,a7=n∧Zaw N ab ax a7 b6=some r∧St w0 (Zi col) au bn∧Zn 27 1 au bn av #[.string ab.1,.slice ao ab.2.1.length ak,.slice ap ab.2.2.1.length al,.slice aq ab.2.2.2.1.length am,.slice ar ab.2.2.2.2.length an]∧Zc (Za.int .i64) 3 2 au bn bh bi ax∧[15].map f=[.int .i64 b6]) N ⟨_,0,_,rfl,hm,aa,ac,ad,rfl⟩ ?_;clear hm;intro n f bn hI;obtain ⟨au,b6,a7,hn,hm,aa,ac,ad,hs⟩:=hI;subst hn;refine .lL [15] hs ?_
     cases a7 with
     | zero=>rw [Zaw.eq_1] at hm;cases hm
     | succ a7=>
      rw [Zaw.eq_2] at hm;refine go ?_;refine Zp hm (fun hb hm=>go ?_) fun hb hm=>go ?_
      ·refine Wj (col:=au) (by kernel_rfl) (by kernel_rfl)<|qF ⟨_,_,rfl⟩ ?_;refine qW (fun _ hC=>((ac.atN).nth (q:=4) rfl).gr (hC.bl au)) ?_;refine go ?_;obtain ⟨ey,b7,hm⟩:=bZ hm;refine qI b7 ((ai.ks aa).addr b7) ?_;obtain ⟨_,dn,dp⟩:=(ai.ks aa).atN b7;obtain ⟨⟨ez,e0,rfl,dq⟩,_⟩:=dn;refine qW (fun _ hC=>dp.one.gr (hC.bl au)) ?_;refine go ?_;obtain ⟨e1,b8,hm⟩:=bZ hm;refine qI b8 (ad.addr b8)<|qW (fun _ hC=>(ad.gr (hC.bl au)).atInt b8) ?_;obtain ⟨dr,ds,hm⟩:=bZ hm;refine qc (v:=(.bool dr)) rfl (fun _ hC=>⟨_,_,Q1 call197 rfl rfl,(Zxp ds (dq.gr (hC.bl au)):).mono fun _ _ h=>⟨h.1,hC.trans (.of_below h.2)⟩⟩) ?_;refine go ?_;refine Yn ?_;intro e2 hC;replace hC:=hC.bl au;refine go ?_;replace ad:=ad.gr hC;replace ac:=ac.gr hC;replace aa:=aa.grow hC;refine Zp hm (fun hb hm=>go ?_) fun hb hm=>go ?_
       ·cases hm;exact ⟨rfl,rfl,aa.below⟩
       exact ⟨a7,by omega,rfl,⟨_,_,_,rfl,hm,aa,ac,ad,rfl⟩⟩
      cases hm;exact ⟨rfl,rfl,aa.below⟩
 refine Wk<|Z9 ac ?_;refine go ?_;refine Xr hm (fun b9 hm=>go ?_) fun b9 hm=>go ?_
 ·refine lV (.bool true) (Z6 (congrArg Value.bool b9) rfl)<|Xt rfl<|lP 32 rfl rfl<|lP 32 rfl rfl<|lP 32 rfl rfl<|lP 32 rfl rfl<|lP 32 rfl rfl<|lV (.bool true) (Z6 rfl rfl)<|Zl ?_;exact ⟨rfl,_,_,hm,aa,ac,rfl⟩
 refine Z3 ⟨_,_,rfl⟩ ?_;refine go ?_;refine lW ((ac.atN).nth (q:=3) rfl)<|go ?_;refine lV (.bool (!decide ((ab.2.2.2.1.length:Int)=(ab.2.1.length:Int)))) (Xg (congrArg Value.bool b9) rfl)<|Xt rfl ?_;refine Xr hm (fun ca hm=>go ?_) fun ca hm=>go ?_
 ·refine lV (.bool true) (Z6 (congrArg Value.bool ca) rfl)<|Zl ?_;exact ⟨rfl,_,_,hm,aa,ac,rfl⟩
 refine Z3 ⟨_,_,rfl⟩ ?_;refine go ?_;refine lW ((ac.atN).nth (q:=4) rfl)<|go ?_;refine lV (.bool (!decide ((ab.2.2.2.2.length:Int)=(ab.2.1.length:Int)))) (Xg (congrArg Value.bool ca) rfl)<|Zl ?_;exact ⟨rfl,_,_,hm,aa,ac,rfl⟩
abbrev Xx:=ByteArray×List ByteArray×List Ra×List R2×List (List QV)
instance decMemB:∀ (s:ByteArray) (l:List ByteArray),Decidable (s ∈ l)
 | _,[]=>isFalse (by simp)
 | s,x :: l=>if h:s=x then isTrue (by rw [h];exact List.mem_cons_self) else match decMemB s l with
  | isTrue h2=>isTrue (List.mem_cons_of_mem _ h2)
  | isFalse h2=>isFalse (by rw [List.mem_cons];rintro (h3 | h3) <;> contradiction)
theorem Z0q {α:Type} (l:List α) (k:Nat) (hk:k<l.length):(l.take (k+1)).Nodup↔(l.take k).Nodup∧l[k] ∉ l.take k:=by
 rw [List.take_add_one,List.getElem?_eq_getElem hk,Option.toList_some,List.nodup_append]
 constructor
 ·rintro ⟨h1,_,h3⟩
  exact ⟨h1,fun hm=>h3 _ hm _ (by simp) rfl⟩
 ·rintro ⟨h1,h2⟩
  refine ⟨h1,by simp,fun a ha b hb e=>?_⟩
  rw [List.mem_singleton] at hb
  subst hb;subst e
  exact h2 ha
theorem Zpw (N:Nat) (l:List ByteArray) (hl:l.length<4611686018427387904) (v:Nat) (hv:v<l.length):∀ (n k:Nat),k≤v→v<n+k→l[v] ∉ l.take k→∃ j:Nat,Zdp N l l[v] n (k:Int)=some (j:Int)∧j≤v∧(j<v↔l[v] ∈ l.take v)
 | 0,k,h1,h2,_=>by omega
 | n+1,k,h1,h2,h3=>by
  have hk:k<l.length:=by omega
  rw [Zdp.eq_2,if_pos (decide_eq_true (by omega)),Zv hk,Option.bind_some]
  by_cases he:l[k]=l[v]
  ·rw [if_pos (decide_eq_true he)]
   refine ⟨k,rfl,h1,fun h=>?_,fun h=>?_⟩
   ·rw [← he]
    exact List.mem_iff_getElem.2 ⟨k,by rw [List.length_take];omega,by rw [List.getElem_take]⟩
   ·rcases Nat.lt_or_ge k v with h4 | h4
    ·exact h4
    ·have:k=v:=by omega
     subst this;exact absurd h h3
  ·have hkv:k<v:=by
    rcases Nat.lt_or_ge k v with h4 | h4
    ·exact h4
    ·have:k=v:=by omega
     subst this;exact absurd rfl he
   rw [if_neg (by rw [decide_eq_false he];decide),Zq (by omega)]
   have:=Zpw N l hl v hv n (k+1) (by omega) (by omega) (by
    rw [List.take_add_one,List.getElem?_eq_getElem hk,Option.toList_some,List.mem_append,List.mem_singleton]
    rintro (h | h)
    ·exact h3 h
    ·exact he h.symm)
   exact this
theorem Zpx {N:Nat} {l:List ByteArray} (hl:l.length<4611686018427387904) {v:Nat} (hv:v<l.length) (hN:l.length<N):∃ j:Nat,Ziq N l l[v]=some (j:Int)∧(j<v↔l[v] ∈ l.take v):=by
 obtain ⟨j,h1,_,h2⟩:=Zpw N l hl v hv N 0 (by omega) (by omega) (by simp)
 exact ⟨j,h1,h2⟩
theorem Zqn (s:ByteArray):∀ (l:List ByteArray) (k:Nat),∃ j:Int,Zec s l k=some j∧(0≤j↔s ∈ l)
 | [],k=>⟨-1,rfl,by simp⟩
 | x :: l,k=>by
  rw [Zec.eq_2]
  by_cases h:s=x
  ·rw [if_pos (decide_eq_true h)];exact ⟨_,rfl,by simp [h]⟩
  ·rw [if_neg (by rw [decide_eq_false h];decide)]
   obtain ⟨j,h1,h2⟩:=Zqn s l (k+1)
   exact ⟨j,h1,by rw [h2,List.mem_cons];simp [h]⟩
theorem Zyf (s:ByteArray) (l:List ByteArray):Zix l s=some (decide (s ∈ l)):=by
 obtain ⟨j,h1,h2⟩:=Zqn s l 0
 rw [Zix,Zku,h1,Option.bind_some]
 congr 1
 exact decide_eq_decide.2 h2
theorem Zr4:∀ (l:List ByteArray) (seen:List (ByteArray×Int)) (S:List ByteArray),S.Nodup→(∀ k,Y9 seen k=if k ∈ S then some 1 else none)→Zbn l seen=some (!decide (S++l).Nodup)
 | [],seen,S,h1,h2=>by rw [Zbn.eq_1,List.append_nil,decide_eq_true h1];rfl
 | x :: l,seen,S,h1,h2=>by
  rw [Zbn.eq_2,h2 x]
  by_cases hx:x ∈ S
  ·rw [if_pos hx,if_pos (by decide),decide_eq_false]
   ·rfl
   intro h
   exact (List.nodup_append.1 h).2.2 x hx x List.mem_cons_self rfl
  ·rw [if_neg hx,if_neg (by decide),Option.bind_some,Zr4 l _ (S++[x]) (by
    rw [List.nodup_append]
    refine ⟨h1,by simp,fun a ha b hb e=>?_⟩
    rw [List.mem_singleton] at hb;subst hb;subst e;exact hx ha) (fun k=>by
    rw [Zrt,h2 k]
    by_cases hk:k=x
    ·subst hk;rw [if_pos rfl,if_pos (by simp)]
    ·rw [if_neg hk]
     by_cases hs:k ∈ S
     ·rw [if_pos hs,if_pos (by simp [hs])]
     ·rw [if_neg hs,if_neg (by simp [hs,hk])])]
   rw [List.append_assoc];rfl
theorem Z0g (l:List ByteArray):Zh3 l=some (!decide l.Nodup):=by
 rw [Zh3,Zr4 l [] [] .nil (fun k=>by simp [Y9]),List.nil_append]
def Tl (names:List ByteArray) (vals:List Ra):Nat→Nat→Int
 | 0,_=>0
 | m+1,v=>if names.getD v ⟨#[]⟩ ∈ names.take v∨¬ (vals.getD v []).Nodup then 40 else if vals.getD v []=[] then 43 else Tl names vals m (v+1)
theorem Zr9 (n:Xx) (hl:n.2.2.1.length=n.2.1.length):∀ (l:List ByteArray) (k:Nat),n.2.1.drop k=l→k≤n.2.1.length→Zah n l k=some (Tl n.2.1 n.2.2.1 l.length k)
 | [],k,_,_=>rfl
 | x :: l,k,hd,hk=>by
  have hk1:k<n.2.1.length:=by
   rcases Nat.lt_or_ge k n.2.1.length with h | h
   ·exact h
   ·rw [List.drop_eq_nil_of_le h] at hd;cases hd
  have hd2:=List.drop_eq_getElem_cons hk1
  rw [hd] at hd2
  obtain ⟨hx,hl2⟩:=List.cons.inj hd2
  rw [Zah.eq_2,Z5 (by omega),Int.toNat_natCast,Zyf,Option.bind_some,List.length_cons,Tl,Yj hk1,← hx,Yj (by omega)]
  by_cases h1:x ∈ n.2.1.take k
  ·rw [if_pos (decide_eq_true h1),Zfl,if_pos rfl,if_pos (.inl h1)]
  ·rw [if_neg (by rw [decide_eq_false h1];decide),Zv (by omega),Option.bind_some,Z0g,Option.bind_some,Zfl]
   by_cases h2:(n.2.2.1[k]'(by omega)).Nodup
   ·rw [decide_eq_true h2,if_neg (by decide),if_neg (by simp [h1,h2]),Zv (by omega),Option.bind_some]
    by_cases h3:n.2.2.1[k]'(by omega)=[]
    ·rw [if_pos (by rw [h3];decide),if_pos h3]
    ·rw [if_neg (by simpa using h3),if_neg h3]
     exact Zr9 n hl l (k+1) hl2.symm (by omega)
   ·rw [decide_eq_false h2,if_pos (by decide),if_pos (.inr h2)]
theorem Z0j (n:Xx) (hl:n.2.2.1.length=n.2.1.length):Zfk n=some (Tl n.2.1 n.2.2.1 n.2.1.length 0):=by
 rw [Zfk];exact Zr9 n hl n.2.1 0 (by simp) (by omega)
theorem Znn (N:Nat) (n:Xx) (v:Nat) (hv:v<n.2.2.1.length) (hb:n.2.2.1[v].length≤1048576) (hN:1048577<N) (hvb:v<4611686018427387904) (kk:Int→Option Int) (A:Prop) [Decidable A]:∀ (m i:Nat) (a:Bool),i≤n.2.2.1[v].length→n.2.2.1[v].length<m+i→(a=true→A∨¬ (n.2.2.1[v]).Nodup)→(a=false→¬ A∧((n.2.2.1[v]).take i).Nodup)→
  Zau N n (v:Int) kk m a (i:Int)=if A∨¬ (n.2.2.1[v]).Nodup then some 40 else if n.2.2.1[v]=[] then some 43 else kk ((v:Int)+1)
 | 0,i,a,h1,h2,_,_=>by omega
 | m+1,i,a,h1,h2,h3,h4=>by
  rw [Zau.eq_2,Zv hv,Option.bind_some]
  by_cases hi:i<n.2.2.1[v].length
  ·rw [if_pos (decide_eq_true (by omega))]
   cases a with
   | true=>
    rw [if_pos rfl,Zgn,Zq (by omega)]
    exact Znn N n v hv hb hN hvb kk A m (i+1) true (by omega) (by omega) h3 (fun h=>by cases h)
   | false=>
    obtain ⟨j,j1,j2⟩:=Zpx (N:=N) (l:=n.2.2.1[v]) (by omega) hi (by omega)
    have st:=Z0q n.2.2.1[v] i hi
    have h5:=h4 rfl
    rw [if_neg (by decide),Zv hi,Option.bind_some,j1,Option.bind_some,Zgn,Zq (by omega)]
    have:=Znn N n v hv hb hN hvb kk A m (i+1) (decide ((j:Int)<(i:Int))) (by omega) (by omega) (fun h=>.inr fun hn=>by
     have h6:=of_decide_eq_true h
     have h7:=(hn.sublist (List.take_sublist (i+1) _))
     exact (st.1 h7).2 (j2.1 (by omega))) (fun h=>⟨h5.1,st.2 ⟨h5.2,fun hm=>by
     have h6:=of_decide_eq_false h
     have:=j2.2 hm
     omega⟩⟩)
    exact this
  ·have hil:i=n.2.2.1[v].length:=by omega
   rw [if_neg (by rw [decide_eq_false (by omega)];decide)]
   cases a with
   | true=>rw [if_pos rfl,if_pos (h3 rfl)]
   | false=>
    obtain ⟨h5,h6⟩:=h4 rfl
    rw [hil,List.take_length] at h6
    have hA:¬ (A∨¬ (n.2.2.1[v]).Nodup):=fun h=>h.elim h5 (fun h=>h h6)
    rw [if_neg (by decide),if_neg hA,Zq (by omega)]
    by_cases h7:n.2.2.1[v]=[]
    ·rw [if_pos (by rw [h7];decide),if_pos h7]
    ·rw [if_neg (by simpa using h7),if_neg h7]
theorem Zuc (N:Nat) (n:Xx) (hl:n.2.2.1.length=n.2.1.length) (hn:n.2.1.length≤1048576) (hb:∀ l ∈ n.2.2.1,l.length≤1048576) (hN:1048577<N):∀ (m fuel v:Nat),m+v=n.2.1.length→m<fuel→
  Se N n fuel (v:Int)=if Tl n.2.1 n.2.2.1 m v=0 then Se N n (fuel - m) (n.2.1.length:Int) else some (Tl n.2.1 n.2.2.1 m v)
 | 0,fuel,v,h1,_=>by
  have:v=n.2.1.length:=by omega
  rw [Tl,if_pos rfl,this,Nat.sub_zero]
 | m+1,0,v,h1,h2=>by omega
 | m+1,fuel+1,v,h1,h2=>by
  have hv:v<n.2.1.length:=by omega
  have hv2:v<n.2.2.1.length:=by omega
  obtain ⟨j,j1,j2⟩:=Zpx (N:=N) (l:=n.2.1) (by omega) hv (by omega)
  rw [Se.eq_2,if_pos (decide_eq_true (by omega)),Zv hv,Option.bind_some,j1,Option.bind_some,Tl,Yj hv,Yj hv2,show (0:Int)=((0:Nat):Int) from rfl,
   Znn N n v hv2 (hb _ (List.getElem_mem hv2)) hN (by omega) (Se N n fuel) (n.2.1[v] ∈ n.2.1.take v) N 0 _ (by omega) (by have:=hb _ (List.getElem_mem hv2);omega) (fun h=>.inl (j2.1 (by have:=of_decide_eq_true h;omega))) (fun h=>⟨fun hm=>by have:=of_decide_eq_false h;have:=j2.2 hm;omega,by simp⟩)]
  by_cases h3:n.2.1[v] ∈ n.2.1.take v∨¬ (n.2.2.1[v]).Nodup
  ·rw [if_pos h3,if_pos h3,if_neg (by decide)]
  ·rw [if_neg h3,if_neg h3]
   by_cases h4:n.2.2.1[v]=[]
   ·rw [if_pos h4,if_pos h4,if_neg (by decide)]
   ·rw [if_neg h4,if_neg h4]
    have ih:=Zuc N n hl hn hb hN m fuel (v+1) (by omega) (by omega)
    rw [show ((v+1:Nat):Int)=(v:Int)+1 by omega] at ih
    rw [ih,show fuel+1 - (m+1)=fuel - m by omega]
    rfl
theorem Zsa {names:List ByteArray} {vals:List Ra}:∀ (m v:Nat),Tl names vals m v=0→∀ i,v≤i→i<v+m→vals.getD i []≠[]∧(vals.getD i []).Nodup∧names.getD i ⟨#[]⟩ ∉ names.take i
 | 0,v,_,i,h1,h2=>by omega
 | m+1,v,h,i,h1,h2=>by
  rw [Tl] at h
  by_cases h3:names.getD v ⟨#[]⟩ ∈ names.take v∨¬ (vals.getD v []).Nodup
  ·rw [if_pos h3] at h;cases h
  ·rw [if_neg h3] at h
   by_cases h4:vals.getD v []=[]
   ·rw [if_pos h4] at h;cases h
   ·rw [if_neg h4] at h
    rcases Nat.lt_or_ge v i with h5 | h5
    ·exact Zsa m (v+1) h i (by omega) (by omega)
    ·have:i=v:=by omega
     subst this
     exact ⟨h4,by simpa using (not_or.1 h3).2,(not_or.1 h3).1⟩
def Yh (vals:List Ra):List Int→Nat→Nat
 | [],k=>k
 | p :: ps,k=>Yh vals ps (min (k * (vals.getD p.toNat []).length) 1099511627776)
theorem Znp (vals:List Ra):∀ (ps:List Int) (k:Nat),k≤1099511627776→Yh vals ps k≤1099511627776
 | [],k,h=>h
 | p :: ps,k,h=>Znp vals ps _ (by omega)
theorem Zkz {a b:Nat} (h:a≤1099511627776) (g:b≤1048576):a * b≤1152921504606846976:=by
 have:=Nat.mul_le_mul h g
 simpa using this
theorem Zr1 (n:Xx) (hb:∀ l ∈ n.2.2.1,l.length≤1048576):∀ (ps:List Int) (k:Nat),k≤1099511627776→(∀ p ∈ ps,0≤p∧p<(n.2.2.1.length:Int))→Zcy n ps (k:Int)=some (Yh n.2.2.1 ps k:Int)
 | [],k,_,_=>rfl
 | p :: ps,k,hk,hp=>by
  have h1:=hp p List.mem_cons_self
  have h2:p.toNat<n.2.2.1.length:=by omega
  have h3:=hb _ (List.getElem_mem h2)
  have h4:=Zkz hk h3
  rw [Zcy.eq_2,show p=((p.toNat:Nat):Int) by omega,Zv h2,Option.bind_some,Yh,Int.toNat_natCast,Yj h2,← Int.natCast_mul,Zq (by omega)]
  have ih:=Zr1 n hb ps (min (k * n.2.2.1[p.toNat].length) 1099511627776) (by omega) (fun q hq=>hp q (List.mem_cons_of_mem _ hq))
  rw [← ih]
  congr 1
  by_cases h5:1099511627776<k * n.2.2.1[p.toNat].length
  ·rw [if_pos (by omega),Nat.min_eq_right (by omega)];rfl
  ·rw [if_neg (by omega),Nat.min_eq_left (by omega)]
theorem Zu4 (N:Nat) (n:Xx) (hl:n.2.2.1.length≤1048576):∀ (m i:Nat) (out:List Int),i≤n.2.2.1.length→n.2.2.1.length<m+i→out=(n.2.2.1.take i).map (fun l=>(l.length:Int))→Zdr N n m out (i:Int)=some (n.2.2.1.map fun l=>(l.length:Int))
 | 0,i,out,h1,h2,_=>by omega
 | m+1,i,out,h1,h2,h3=>by
  rw [Zdr.eq_2]
  have lo:out.length=i:=by rw [h3,List.length_map,List.length_take];omega
  by_cases hi:i<n.2.2.1.length
  ·rw [if_pos (decide_eq_true (by omega)),Zv hi,Option.bind_some,Z5 (by simp only [List.length_singleton,maxLen];omega),Zq (by omega)]
   exact Zu4 N n hl m (i+1) _ (by omega) (by omega) (by rw [h3,List.take_add_one,List.getElem?_eq_getElem hi,Option.toList_some,List.map_append];rfl)
  ·rw [if_neg (by rw [decide_eq_false (by omega)];decide),h3,List.take_of_length_le (by omega)]
theorem Z2f {N:Nat} {n:Xx} (hl:n.2.2.1.length≤1048576) (hN:1048576<N):Zdq N n=some (n.2.2.1.map fun l=>(l.length:Int)):=by
 rw [Zdq]
 exact Zu4 N n hl N 0 [] (by omega) (by omega) (by simp)
theorem Zlm {vals:List Ra} {i:Nat} (h:i<vals.length):Zk (vals.map fun l=>(l.length:Int)) (i:Int)=some (vals[i].length:Int):=by
 rw [Zv (by rw [List.length_map];exact h),List.getElem_map]
theorem Zme (N:Nat) (ps:List Int) (vals:List Ra) (hb:∀ l ∈ vals,l.length≤1048576) (hne:∀ l ∈ vals,l≠[]) (hp:∀ p ∈ ps,0≤p∧p<(vals.length:Int)) (hps:ps.length≤1048576):∀ (m i k:Nat),i≤ps.length→ps.length<m+i→k≤1099511627776→
  Zax N ps (vals.map fun l=>(l.length:Int)) m (k:Int) (i:Int)=some (Yh vals (ps.drop i) k:Int)
 | 0,i,k,h1,h2,_=>by omega
 | m+1,i,k,h1,h2,h3=>by
  rw [Zax.eq_2]
  by_cases hi:i<ps.length
  ·have h4:=hp _ (List.getElem_mem hi)
   have h5:(ps[i]).toNat<vals.length:=by omega
   have h6:=hb _ (List.getElem_mem h5)
   have h7:0<vals[(ps[i]).toNat].length:=List.length_pos_iff.2 (hne _ (List.getElem_mem h5))
   have h8:=Zkz h3 h6
   rw [if_pos (decide_eq_true (by omega)),Zv hi,Option.bind_some]
   conv=>lhs;rw [show ps[i]=(((ps[i]).toNat:Nat):Int) by omega]
   rw [Zlm h5,Option.bind_some,Z5 (by omega),List.drop_eq_getElem_cons hi,Yh,Yj h5]
   have e:i64.wrap (Int.tdiv 1099511627776 (vals[(ps[i]).toNat].length:Int))=((1099511627776 / vals[(ps[i]).toNat].length:Nat):Int):=by
    rw [Int.tdiv_eq_ediv_of_nonneg (by decide),show (1099511627776:Int)=((1099511627776:Nat):Int) from rfl,← Int.natCast_ediv]
    refine Zq ⟨by have:=Int.natCast_nonneg (1099511627776 / vals[(ps[i]).toNat].length);omega,?_⟩
    have:=Nat.div_le_self 1099511627776 vals[(ps[i]).toNat].length
    omega
   rw [e]
   have cmp:1099511627776 / vals[(ps[i]).toNat].length<k↔1099511627776<k * vals[(ps[i]).toNat].length:=Nat.div_lt_iff_lt_mul h7
   by_cases h9:1099511627776<k * vals[(ps[i]).toNat].length
   ·rw [if_pos (decide_eq_true (Int.ofNat_lt.2 (cmp.2 h9))),Zgo,Zq (by omega),Nat.min_eq_right (by omega)]
    exact Zme N ps vals hb hne hp hps m (i+1) 1099511627776 (by omega) (by omega) (by omega)
   ·rw [if_neg (by rw [decide_eq_false (fun h=>h9 (cmp.1 (Int.ofNat_lt.1 h)))];decide),Zgo,← Int.natCast_mul,Zq (by omega),Zq (by omega),Nat.min_eq_left (by omega)]
    exact Zme N ps vals hb hne hp hps m (i+1) _ (by omega) (by omega) (by omega)
  ·rw [if_neg (by rw [decide_eq_false (by omega)];decide),List.drop_eq_nil_of_le (by omega),Yh]
theorem Zpb (N:Nat) (ps:List Int) (vals:List Ra) (hb:∀ l ∈ vals,l.length≤1048576) (hne:∀ l ∈ vals,l≠[]) (hp:∀ p ∈ ps,0≤p∧p<(vals.length:Int)) (hps:ps.length≤1048576) (hN:1048577<N):∀ (m i:Nat),i≤ps.length→ps.length<m+i→
  Zdo N ps (vals.map fun l=>(l.length:Int)) m (i:Int)=some (Yh vals ps 1:Int)
 | 0,i,h1,h2=>by omega
 | m+1,i,h1,h2=>by
  rw [Zdo.eq_2]
  by_cases hi:i<ps.length
  ·have h4:=hp _ (List.getElem_mem hi)
   have h5:(ps[i]).toNat<vals.length:=by omega
   have h7:0<vals[(ps[i]).toNat].length:=List.length_pos_iff.2 (hne _ (List.getElem_mem h5))
   rw [if_pos (decide_eq_true (by omega)),Zv hi,Option.bind_some]
   conv=>lhs;rw [show ps[i]=(((ps[i]).toNat:Nat):Int) by omega]
   rw [Zlm h5,Option.bind_some,if_neg (by rw [decide_eq_false (by omega)];decide),Zq (by omega)]
   exact Zpb N ps vals hb hne hp hps hN m (i+1) (by omega) (by omega)
  ·rw [if_neg (by rw [decide_eq_false (by omega)];decide)]
   exact Zme N ps vals hb hne hp hps N 0 1 (by omega) (by omega) (by omega)
theorem Zyc {N:Nat} {ps:List Int} {vals:List Ra} (hb:∀ l ∈ vals,l.length≤1048576) (hne:∀ l ∈ vals,l≠[]) (hp:∀ p ∈ ps,0≤p∧p<(vals.length:Int)) (hps:ps.length≤1048576) (hN:1048577<N):Zip N ps (vals.map fun l=>(l.length:Int))=some (Yh vals ps 1:Int):=by
 rw [Zip]
 exact Zpb N ps vals hb hne hp hps hN N 0 (by omega) (by omega)
theorem Z0y {r c:Nat} (hc:0<c):Zir (r:Int) (c:Int)=some (decide (65536<r * c)):=by
 have e:i64.wrap (Int.tdiv 65536 (c:Int))=((65536 / c:Nat):Int):=by
  rw [Int.tdiv_eq_ediv_of_nonneg (by decide),show (65536:Int)=((65536:Nat):Int) from rfl,← Int.natCast_ediv]
  refine Zq ⟨by have:=Int.natCast_nonneg (65536 / c);omega,?_⟩
  have:=Nat.div_le_self 65536 c
  omega
 rw [Zir,if_pos (decide_eq_true (by omega)),Z5 (by omega),e,Zis]
 congr 1
 refine decide_eq_decide.2 ?_
 rw [Int.ofNat_lt]
 exact Nat.div_lt_iff_lt_mul hc
def Tr (vals:List Ra) (P:List R2) (T:List (List QV)):Nat→Nat→Int
 | 0,_=>0
 | m+1,v=>if 65536<Yh vals (P.getD v []) 1 * (vals.getD v []).length then 4 else if Yh vals (P.getD v []) 1 * (vals.getD v []).length≠(T.getD v []).length then 60 else Tr vals P T m (v+1)
structure U1 (n:Xx) (W:Nat):Prop where
 nm:n.2.1.length≤1048575
 vl:∀ l ∈ n.2.2.1,l.length≤1048576
 pn:Zjk n.2.2.2.1
 tl:∀ t ∈ n.2.2.2.2,t.length≤1048576
 tq:∀ t ∈ n.2.2.2.2,X5 t≤W
 lim:∀ t ∈ n.2.2.2.2,∀ x ∈ t,Ws x
structure Uz (n:Xx):Prop where
 v:n.2.2.1.length=n.2.1.length
 p:n.2.2.2.1.length=n.2.1.length
 t:n.2.2.2.2.length=n.2.1.length
 i:V9 n.2.2.2.1.length n.2.2.2.1=true
 ne:∀ l ∈ n.2.2.1,l≠[]
theorem Uz.par {n:Xx} (h:Uz n) {ps:List Int} (hp:ps ∈ n.2.2.2.1):∀ p ∈ ps,0≤p∧p<(n.2.2.1.length:Int):=by
 have:=Zqo h.i ps hp
 rw [h.p] at this
 rw [h.v];exact this
theorem Zr2 {N W:Nat} {n:Xx} (hs:U1 n W) (he:Uz n):∀ (l:List (List QV)) (k:Nat),n.2.2.2.2.drop k=l→k≤n.2.1.length→Zaf N n l k=if Tr n.2.2.1 n.2.2.2.1 n.2.2.2.2 l.length k=0 then Zag N n n.2.2.2.2 else some (Tr n.2.2.1 n.2.2.2.1 n.2.2.2.2 l.length k)
 | [],k,_,_=>by rw [Zaf.eq_1];rfl
 | t :: l,k,hd,hk=>by
  have ht:=he.t;have hv:=he.v;have hp:=he.p
  have hk1:k<n.2.2.2.2.length:=by
   rcases Nat.lt_or_ge k n.2.2.2.2.length with h | h
   ·exact h
   ·rw [List.drop_eq_nil_of_le h] at hd;cases hd
  have hd2:=List.drop_eq_getElem_cons hk1
  rw [hd] at hd2
  obtain ⟨hx,hl2⟩:=List.cons.inj hd2
  have kv:k<n.2.2.1.length:=by omega
  have kp:k<n.2.2.2.1.length:=by omega
  have r1:=Znp n.2.2.1 (n.2.2.2.1[k]) 1 (by omega)
  have c1:=hs.vl _ (List.getElem_mem kv)
  have r2:=Zkz r1 c1
  have hrow:Zfp n (k:Int)=some (Yh n.2.2.1 n.2.2.2.1[k] 1:Int):=by
   rw [Zfp,Zv kp,Option.bind_some]
   exact Zr1 n hs.vl _ 1 (by omega) (he.par (List.getElem_mem kp))
  rw [Zaf.eq_2]
  have hrow':Zfp (n.1,n.2.1,n.2.2.1,n.2.2.2.1,n.2.2.2.2) (k:Int)=some (Yh n.2.2.1 n.2.2.2.1[k] 1:Int):=hrow
  rw [hrow',Option.bind_some,Zv kv,Option.bind_some,← Int.natCast_mul,Zq (by omega),List.length_cons,Tr,Yj kp,Yj kv,Yj hk1,← hx]
  generalize Yh n.2.2.1 n.2.2.2.1[k] 1 * n.2.2.1[k].length=rc at *
  by_cases h1:65536<rc
  ·rw [if_pos (decide_eq_true (by omega)),if_pos h1,if_neg (by decide)]
  ·rw [if_neg (by rw [decide_eq_false (by omega)];decide),if_neg h1]
   by_cases h2:rc=t.length
   ·rw [if_neg (by rw [decide_eq_true (by omega)];decide),if_neg (show ¬ rc≠t.length from fun h=>h h2)]
    exact Zr2 hs he l (k+1) hl2.symm (by omega)
   ·rw [if_pos (by rw [decide_eq_false (by omega)];decide),if_pos h2,if_neg (by decide)]
theorem Zur {N W:Nat} {n:Xx} (hN:1048577<N) (hs:U1 n W) (he:Uz n):∀ (m fuel v:Nat),m+v=n.2.1.length→m<fuel→
  Zav N n (n.2.2.1.map fun l=>(l.length:Int)) fuel (v:Int)=if Tr n.2.2.1 n.2.2.2.1 n.2.2.2.2 m v=0 then Qv N n (n.2.2.1.map fun l=>(l.length:Int)) N 0 else some (Tr n.2.2.1 n.2.2.2.1 n.2.2.2.2 m v)
 | 0,0,v,_,h=>by omega
 | 0,fuel+1,v,h1,_=>by
  rw [Zav.eq_2,if_neg (by rw [decide_eq_false (by omega)];decide)];rfl
 | m+1,0,v,_,h=>by omega
 | m+1,fuel+1,v,h1,h2=>by
  have ht:=he.t;have hv:=he.v;have hp:=he.p;have hnm:=hs.nm
  have kt:v<n.2.2.2.2.length:=by omega
  have kv:v<n.2.2.1.length:=by omega
  have kp:v<n.2.2.2.1.length:=by omega
  have r1:=Znp n.2.2.1 (n.2.2.2.1[v]) 1 (by omega)
  have c1:=hs.vl _ (List.getElem_mem kv)
  have c0:0<n.2.2.1[v].length:=List.length_pos_iff.2 (he.ne _ (List.getElem_mem kv))
  have r2:=Zkz r1 c1
  rw [Zav.eq_2,if_pos (decide_eq_true (by omega)),Zv kp,Option.bind_some,Zyc hs.vl he.ne (he.par (List.getElem_mem kp)) (hs.pn.ls _ (List.getElem_mem kp)) hN,Option.bind_some,Zlm kv,Option.bind_some,Z0y c0,Option.bind_some,Tr,Yj kp,Yj kv,Yj kt,← Int.natCast_mul,Zq (by omega)]
  generalize Yh n.2.2.1 n.2.2.2.1[v] 1 * n.2.2.1[v].length=rc at *
  by_cases h3:65536<rc
  ·rw [if_pos (decide_eq_true (by omega)),if_pos h3,if_neg (by decide)]
  ·rw [if_neg (by rw [decide_eq_false (by omega)];decide),if_neg h3,Zv kt,Option.bind_some]
   by_cases h4:rc=n.2.2.2.2[v].length
   ·rw [if_neg (by rw [decide_eq_true (by omega)];decide),if_neg (show ¬ rc≠n.2.2.2.2[v].length from fun h=>h h4),Zq (by omega)]
    exact Zur hN hs he m fuel (v+1) (by omega) (by omega)
   ·rw [if_pos (by rw [decide_eq_false (by omega)];decide),if_pos h4,if_neg (by decide)]
def Vl (x:QV):Bool:=decide (Z1 x<0)||decide (1<Z1 x)
theorem Zsx {a b:Rat}:0<Q0 a b↔b<a:=by
 rw [Q0]
 by_cases h:a<b
 ·rw [if_pos h]
  constructor
  ·intro h2;omega
  ·intro h2;exact absurd (Rat.le_of_lt h2) (Rat.not_le.2 h)
 ·rw [if_neg h]
  by_cases h2:b<a
  ·simp [h2]
  ·simp [h2]
theorem Zk6 {a b:Rat}:Q0 a b=0↔a=b:=by
 rw [Q0]
 constructor
 ·intro h
  split at h
  ·cases h
  ·split at h
   ·cases h
   ·rename_i h1 h2
    exact Rat.le_antisymm (Rat.not_lt.1 h2) (Rat.not_lt.1 h1)
 ·rintro rfl
  rw [if_neg Rat.lt_irrefl,if_neg Rat.lt_irrefl]
theorem Zrz {N:Nat} (hr:Xd N 8):Zfm N=some (Zr 1):=by
 rw [Zfm,Zy5 (by omega) (by omega) (hr.mono (by omega)),Option.bind_some,if_neg (by decide)]
 have:((1:Int):Rat) / ((1:Int):Rat)=1:=div_one _
 rw [this]
theorem Zui {N:Nat} (hr:Xd N 8):Zgp N=some (Zr 1):=by
 rw [Zgp,Zu6 hr];rfl
theorem Zlj:RV 1 (Zr 1):=Uv (by rw [Z02];omega)
theorem Z0f {N k:Nat} {x:QV} (hx:RV k x) (hr:Xd N (2 * k+16)):Zfn N x=some (Vl x):=by
 have h2:Zfa N ((x.1.1,x.1.2),x.2)=some (Zcb (Z1 x)):=Zza hx (hr.mono (by omega))
 rw [Zfn,h2,Option.bind_some,Vl]
 by_cases h:Z1 x<0
 ·rw [if_pos (decide_eq_true (Zk9.2 h)),Zfo,decide_eq_true h,Bool.true_or]
 ·rw [if_neg (by rw [decide_eq_false (fun h3=>h (Zk9.1 h3))];decide),decide_eq_false h,Bool.false_or,Zrz (hr.mono (by omega)),Option.bind_some,Zpv (a:=((x.1.1,x.1.2),x.2)) (b:=Zr 1) hx Zlj (hr.mono (by omega)),Option.bind_some,Zfo,Vm]
  congr 1
  exact decide_eq_decide.2 Zsx
theorem Z14 {N k:Nat} {x:QV} (hx:RV k x) (hr:Xd N (2 * k+16)):Zgq N x=some (Vl x):=by
 have h2:Zgg N ((x.1.1,x.1.2),x.2)=some (Zcb (Z1 x)):=Z1z hx (hr.mono (by omega))
 rw [Zgq,h2,Option.bind_some,Vl]
 by_cases h:Z1 x<0
 ·rw [if_pos (decide_eq_true (Zk9.2 h)),Zgr,decide_eq_true h,Bool.true_or]
 ·rw [if_neg (by rw [decide_eq_false (fun h3=>h (Zk9.1 h3))];decide),decide_eq_false h,Bool.false_or,Zui (hr.mono (by omega)),Option.bind_some,Ztz (a:=((x.1.1,x.1.2),x.2)) (b:=Zr 1) hx Zlj (hr.mono (by omega)),Option.bind_some,Zgr,Vm]
  congr 1
  exact decide_eq_decide.2 Zsx
def Vw (x:QV):QV:=if Zb x.2=0 then (x.1,[1]) else x
theorem Zpy {x:QV} (h:Ws x):Ws (Vw x):=by
 rw [Vw];split
 ·exact ⟨h.1,.cons (by decide) .nil⟩
 ·exact h
theorem Zpz (x:QV):Z1 (Vw x)=Z1 x:=by
 rw [Vw];split
 ·rename_i h
  rw [Z1,Z1]
  show mkRat (Zs x.1) (Xz [1])=mkRat (Zs x.1) (Xz x.2)
  rw [Xz,Xz,if_pos h]
  congr 1
 ·rfl
theorem Zy0 (x:QV):Vl (Vw x)=Vl x:=by rw [Vl,Vl,Zpz]
theorem Zyz (x:QV):max (Vw x).1.2.length (Vw x).2.length≤max x.1.2.length x.2.length+1:=by
 rw [Vw];split
 ·show max x.1.2.length [(1:Int)].length≤_
  simp only [List.length_singleton];omega
 ·omega
theorem Znb:∀ l:List QV,2 * l.length≤X5 l
 | []=>by simp [X5]
 | a :: l=>by rw [X5,List.length_cons];have:=Znb l;omega
theorem Zna:∀ l:List QV,X5 (l.map Vw)≤X5 l+l.length
 | []=>by simp [X5]
 | a :: l=>by
  rw [List.map_cons,X5,X5,List.length_cons]
  have:=Zna l;have:=Zyz a;omega
theorem Zsy (a b:List QV):X5 (a++b)=X5 a+X5 b:=by
 induction a with
 | nil=>simp [X5]
 | cons x a ih=>rw [List.cons_append,X5,X5,ih];omega
theorem Znc (l:List QV) (k:Nat):X5 (l.take k)≤X5 l:=by
 have:=Zsy (l.take k) (l.drop k)
 rw [List.take_append_drop] at this;omega
theorem Zm9 (l:List QV) (k:Nat):X5 (l.drop k)≤X5 l:=by
 have:=Zsy (l.take k) (l.drop k)
 rw [List.take_append_drop] at this;omega
theorem Zs0 {l:List QV} {x:QV} (h:x ∈ l):max x.1.2.length x.2.length≤X5 l:=by
 induction l with
 | nil=>simp at h
 | cons y l ih=>
  rw [X5]
  rcases List.mem_cons.1 h with rfl | h
  ·omega
  ·have:=ih h;omega
theorem Zy2 {N k:Nat} {x:QV} (h:Ws x) (hk:max x.1.2.length x.2.length≤k) (hr:Xd N k):Zfh N x=some (Vw x):=by
 obtain ⟨r1,r2⟩:=hr
 rw [Zfh,Zm2 h.2 (by omega) (by omega),Option.bind_some,Vw]
 by_cases h0:Zb x.2=0
 ·rw [h0,Wo,if_pos (by decide),if_pos rfl,Zi4 (by decide) (by omega),Option.bind_some,Zfi,show (1:Int).toNat=1 from rfl,Tg]
 ·have:=Te h0
  rw [if_neg (by rw [decide_eq_false (by omega)];decide),if_neg h0,Zfi]
theorem Zp4 {N W:Nat} (hr:Xd N W):∀ (l out:List QV),(∀ x ∈ l,Ws x)→X5 l≤W→out.length+l.length≤1048576→Zbm N l out=some (out++l.map Vw)
 | [],out,_,_,_=>by rw [Zbm.eq_1];simp
 | x :: l,out,hl,hq,hlen=>by
  rw [X5] at hq
  rw [List.length_cons] at hlen
  have h1:Zfh N ((x.1.1,x.1.2),x.2)=some (Vw x):=Zy2 (x:=x) (hl x List.mem_cons_self) (k:=W) (by omega) hr
  rw [Zbm.eq_2,h1,Option.bind_some,Z5 (by simp only [List.length_singleton,maxLen];omega),Zp4 hr l _ (fun y hy=>hl y (List.mem_cons_of_mem _ hy)) (by omega) (by simp only [List.length_append,List.length_singleton];omega)]
  simp
theorem Zp5 {N W:Nat} {l:List QV} (hr:Xd N W) (hl:∀ x ∈ l,Ws x) (hq:X5 l≤W) (hlen:l.length≤1048576):Zfj N l=some (l.map Vw):=by
 rw [Zfj,Z5 (by simp only [maxLen];omega),Zp4 hr l [] hl hq (by simpa using hlen),List.nil_append]
theorem Zql {N W:Nat} (hr:Xd N (2 * W+16)):∀ (l:List QV) (k:Nat),(∀ x ∈ l,Ws x)→X5 l≤W→∃ j:Int,Zeb N l k=some j∧(0≤j↔l.any Vl=true)
 | [],k,_,_=>⟨-1,rfl,by simp⟩
 | x :: l,k,hl,hq=>by
  rw [X5] at hq
  have hx:=hl x List.mem_cons_self
  have h1:Zfn N ((x.1.1,x.1.2),x.2)=some (Vl x):=Z0f (x:=x) (Zce hx.1 hx.2) (hr.mono (by omega))
  rw [Zeb.eq_2,h1,Option.bind_some,List.any_cons]
  cases Vl x with
  | true=>rw [if_pos rfl];exact ⟨_,rfl,by simp⟩
  | false=>
   rw [if_neg (by decide)]
   obtain ⟨j,h1,h2⟩:=Zql hr l (k+1) (fun y hy=>hl y (List.mem_cons_of_mem _ hy)) (by omega)
   exact ⟨j,h1,by rw [h2];simp⟩
def Zcn (T:List (List QV)):Bool:=T.any fun t=>t.any Vl
theorem Zv4 (l:List QV):(l.map Vw).any Vl=l.any Vl:=by
 induction l with
 | nil=>rfl
 | cons x l ih=>rw [List.map_cons,List.any_cons,List.any_cons,ih,Zy0]
theorem Zrr {N W:Nat} {n:Xx} (hr:Xd N (4 * W+16)):∀ l:List (List QV),(∀ t ∈ l,t.length≤1048576∧X5 t≤W∧∀ x ∈ t,Ws x)→Zag N n l=if Zcn l=true then some 45 else Zbl N n n.2.2.2.2 0
 | [],_=>by rw [Zag.eq_1];rfl
 | t :: l,h=>by
  obtain ⟨h1,h2,h3⟩:=h t List.mem_cons_self
  have hp:=Znb t
  have hf:=Zna t
  obtain ⟨j,j1,j2⟩:=Zql (N:=N) (W:=2 * W) (hr.mono (by omega)) (t.map Vw) 0 (fun x hx=>by
   obtain ⟨y,hy,rfl⟩:=List.mem_map.1 hx
   exact Zpy (h3 y hy)) (by omega)
  rw [Zag.eq_2,Zp5 (W:=W) (hr.mono (by omega)) h3 h2 h1,Option.bind_some,Zks,Zkt,j1,Option.bind_some,Option.bind_some,Zcn,List.any_cons]
  rw [Zv4] at j2
  by_cases ho:t.any Vl=true
  ·rw [if_pos (decide_eq_true (j2.2 ho)),ho,Bool.true_or,if_pos rfl]
  ·rw [if_neg (by rw [decide_eq_false (fun h=>ho (j2.1 h))];decide),Bool.eq_false_iff.2 ho,Bool.false_or]
   exact Zrr hr l fun x hx=>h x (List.mem_cons_of_mem _ hx)
theorem Ztw {N W:Nat} {n:Xx} (sz:List Int) (hr:Xd N (4 * W+16)) {v:Nat} (hv:v<n.2.2.2.2.length) (hvs:v<1048576) (h1:n.2.2.2.2[v].length≤1048576) (h2:X5 n.2.2.2.2[v]≤W) (h3:∀ x ∈ n.2.2.2.2[v],Ws x) (kk:Int→Option Int):∀ (m i:Nat),i≤n.2.2.2.2[v].length→n.2.2.2.2[v].length<m+i→
  Zdn N n (v:Int) kk m (i:Int)=if ((n.2.2.2.2[v]).drop i).any Vl=true then some 45 else kk ((v:Int)+1)
 | 0,i,g1,g2=>by omega
 | m+1,i,g1,g2=>by
  rw [Zdn.eq_2,Zv hv,Option.bind_some]
  by_cases hi:i<n.2.2.2.2[v].length
  ·have hx:=h3 _ (List.getElem_mem hi)
   have hm:=Zs0 (List.getElem_mem hi)
   have e:Zgq N (((n.2.2.2.2[v][i]).1.1,(n.2.2.2.2[v][i]).1.2),(n.2.2.2.2[v][i]).2)=some (Vl n.2.2.2.2[v][i]):=Z14 (x:=n.2.2.2.2[v][i]) (Zce hx.1 hx.2) (hr.mono (by omega))
   rw [if_pos (decide_eq_true (by omega)),Zv hi,Option.bind_some,e,Option.bind_some,List.drop_eq_getElem_cons hi,List.any_cons]
   cases Vl n.2.2.2.2[v][i] with
   | true=>rw [if_pos rfl,Bool.true_or,if_pos rfl]
   | false=>
    rw [if_neg (by decide),Bool.false_or,Zq (by omega)]
    exact Ztw sz hr hv hvs h1 h2 h3 kk m (i+1) (by omega) (by omega)
  ·rw [if_neg (by rw [decide_eq_false (by omega)];decide),List.drop_eq_nil_of_le (by omega),List.any_nil,if_neg (by decide),Zq (by omega)]
theorem Ztv {N W:Nat} {n:Xx} (sz:List Int) (hs:U1 n W) (he:n.2.2.2.2.length=n.2.1.length) (hr:Xd N (4 * W+16)) (hN:1048577<N):∀ (m fuel v:Nat),m+v=n.2.1.length→m<fuel→
  Qv N n sz fuel (v:Int)=if Zcn (n.2.2.2.2.drop v)=true then some 45 else Zaw N n sz N 0
 | 0,0,v,_,h=>by omega
 | 0,fuel+1,v,h1,_=>by
  rw [Qv.eq_2,if_neg (by rw [decide_eq_false (by omega)];decide),List.drop_eq_nil_of_le (by omega)];rfl
 | m+1,0,v,_,h=>by omega
 | m+1,fuel+1,v,h1,h2=>by
  have hv:v<n.2.2.2.2.length:=by omega
  have hnm:=hs.nm
  have hm:=List.getElem_mem hv
  rw [Qv.eq_2,if_pos (decide_eq_true (by omega)),show (0:Int)=((0:Nat):Int) from rfl,Ztw sz hr hv (by omega) (hs.tl _ hm) (hs.tq _ hm) (hs.lim _ hm) _ N 0 (by omega) (by have:=hs.tl _ hm;omega),List.drop_zero,List.drop_eq_getElem_cons hv,Zcn,List.any_cons]
  cases n.2.2.2.2[v].any Vl with
  | true=>rw [if_pos rfl,Bool.true_or,if_pos rfl]
  | false=>
   rw [if_neg (by decide),Bool.false_or]
   exact Ztv sz hs he hr hN m fuel (v+1) (by omega) (by omega)
def Tm (c:Nat):Nat→List QV→Bool
 | 0,_=>true
 | m+1,l=>decide (W6 (l.take c)=1)&&Tm c m (l.drop c)
def Zho (c:Nat):Nat→List QV→List (List QV)
 | 0,_=>[]
 | m+1,l=>l.take c :: Zho c m (l.drop c)
theorem Zpc (N:Nat) (l:List QV) (c:Nat) (hc:0<c) (hl:l.length≤1048576) (hcs:c≤1048576):∀ (m fuel i:Nat),i+m * c=l.length→m<fuel→Zb7 N l (c:Int) fuel (i:Int)=some (Zho c m (l.drop i))
 | 0,0,i,_,h=>by omega
 | 0,fuel+1,i,h1,_=>by
  rw [Zb7.eq_2,if_neg (by rw [decide_eq_false (by omega)];decide)];rfl
 | m+1,0,i,_,h=>by omega
 | m+1,fuel+1,i,h1,h2=>by
  have h3:i+c+m * c=l.length:=by rw [Nat.add_mul,Nat.one_mul] at h1;omega
  have e:(if ((l.drop i).length:Int)<(c:Int) then ((l.drop i).length:Int) else (c:Int))=(c:Int):=by
   rw [List.length_drop]
   by_cases h:((l.length - i:Nat):Int)<(c:Int)
   ·omega
   ·rw [if_neg h]
  rw [Zb7.eq_2,if_pos (decide_eq_true (by omega)),Int.toNat_natCast,e,Zq (by omega),Z5 (by omega),Z5 (by omega),show (i:Int)+(c:Int)=((i+c:Nat):Int) by omega,Zpc N l c hc hl hcs m fuel (i+c) (by omega) (by omega),Option.bind_some,Int.toNat_natCast,Zho,List.drop_take,show i+c - i=c by omega,List.drop_drop]
theorem Z04 (l:List QV):W6 (l.map Vw)=W6 l:=by
 rw [W6,W6,List.map_map]
 congr 1
 exact List.map_congr_left fun x _=>Zpz x
theorem Zsi (c:Nat):∀ (m:Nat) (l:List QV),Tm c m (l.map Vw)=Tm c m l
 | 0,l=>rfl
 | m+1,l=>by rw [Tm,Tm,← List.map_take,← List.map_drop,Z04,Zsi c m]
theorem Zr8 {N W:Nat} (hr:Xd N (4 * W+40)) (c:Nat) (b:Bool):∀ (m:Nat) (l:List QV),(∀ x ∈ l,Ws x)→X5 l≤W→Zcz N (Zho c m l) b=some (Tm c m l)
 | 0,l,_,_=>rfl
 | m+1,l,hl,hq=>by
  have ht:=Znc l c
  have hd:=Zm9 l c
  obtain ⟨s1,s2⟩:=Zmn (N:=N) (l:=l.take c) (fun x hx=>hl x (List.mem_of_mem_take hx)) (hr.mono (by omega))
  rw [Zho,Zcz.eq_2,s1,Option.bind_some,Zrz (hr.mono (by omega)),Option.bind_some,Zpv (a:=Zr _) (b:=Zr 1) (Uv s2) Zlj (hr.mono (by omega)),Option.bind_some,Vm,Vm,Tm]
  by_cases h:W6 (l.take c)=1
  ·rw [if_neg (by rw [Zk6.2 h];decide),decide_eq_true h,Bool.true_and]
   exact Zr8 hr c b m _ (fun x hx=>hl x (List.mem_of_mem_drop hx)) (by omega)
  ·rw [if_pos (by rw [decide_eq_false (fun h2=>h (Zk6.1 h2))];decide),decide_eq_false h,Bool.false_and];rfl
theorem Z0h {N W c m:Nat} {l:List QV} (hr:Xd N (4 * W+40)) (hl:∀ x ∈ l,Ws x) (hq:X5 l≤W) (hc:0<c) (hcs:c≤1048576) (hll:l.length≤1048576) (hm:m * c=l.length) (hN:1048577<N):Zh4 N l (c:Int)=some (Tm c m l):=by
 have hmc:m≤l.length:=by rw [← hm];exact Nat.le_mul_of_pos_right m hc
 rw [Zh4,Zkp,if_neg (by rw [decide_eq_false (by omega)];decide),Zkr,Zkq,show (0:Int)=((0:Nat):Int) from rfl,Zpc N l c hc hll hcs m N 0 (by omega) (by omega),Option.bind_some,List.drop_zero]
 exact Zr8 hr c false m l hl hq
theorem Zuw {N W c:Nat} {l:List QV} (hr:Xd N (4 * W+40)) (hl:∀ x ∈ l,Ws x) (hq:X5 l≤W) (hc:0<c) (hcs:c≤1048576) (hll:l.length≤1048576) (hN:1048577<N):∀ (m fuel i:Nat),i+m * c=l.length→m<fuel→Zb1 N l (c:Int) fuel (i:Int)=some (Tm c m (l.drop i))
 | 0,0,i,_,h=>by omega
 | 0,fuel+1,i,h1,_=>by
  rw [Zb1.eq_2,if_neg (by rw [decide_eq_false (by omega)];decide)];rfl
 | m+1,0,i,_,h=>by omega
 | m+1,fuel+1,i,h1,h2=>by
  have h3:i+c+m * c=l.length:=by rw [Nat.add_mul,Nat.one_mul] at h1;omega
  have ht:=Znc (l.drop i) c
  have hd:=Zm9 l i
  have hlim:∀ x ∈ (l.drop i).take c,Ws x:=fun x hx=>hl x (List.mem_of_mem_drop (List.mem_of_mem_take hx))
  obtain ⟨_,s2⟩:=Zmn (N:=N) (l:=(l.drop i).take c) hlim (hr.mono (by omega))
  have hlen:((l.drop i).take c).length≤1048576:=by rw [List.length_take,List.length_drop];omega
  rw [Zb1.eq_2,if_pos (decide_eq_true (by omega)),Zq (by omega),Z5 (by omega),show (i:Int)+(c:Int)=((i+c:Nat):Int) by omega,Int.toNat_natCast,Int.toNat_natCast,List.drop_take,show i+c - i=c by omega,Z11 hlim (by omega) (by omega) (hr.mono (by omega)),Option.bind_some,Zui (hr.mono (by omega)),Option.bind_some,Ztz (a:=Zr _) (b:=Zr 1) (Uv s2) Zlj (hr.mono (by omega)),Option.bind_some,Vm,Vm,Tm]
  by_cases h:W6 ((l.drop i).take c)=1
  ·rw [if_neg (by rw [Zk6.2 h];decide),decide_eq_true h,Bool.true_and,List.drop_drop]
   exact Zuw hr hl hq hc hcs hll hN m fuel (i+c) (by omega) (by omega)
  ·rw [if_pos (by rw [decide_eq_false (fun h2=>h (Zk6.1 h2))];decide),decide_eq_false h,Bool.false_and]
def Zg6 (vals:List Ra) (P:List R2) (T:List (List QV)):Nat→Nat→Int
 | 0,_=>0
 | m+1,v=>if Tm (vals.getD v []).length (Yh vals (P.getD v []) 1) (T.getD v [])=true then Zg6 vals P T m (v+1) else 46
theorem Zlk {vals:List Ra} {P:List R2} {T:List (List QV)}:∀ (m v:Nat),Tr vals P T m v=0→∀ i,v≤i→i<v+m→Yh vals (P.getD i []) 1 * (vals.getD i []).length=(T.getD i []).length∧(T.getD i []).length≤65536
 | 0,v,_,i,h1,h2=>by omega
 | m+1,v,h,i,h1,h2=>by
  rw [Tr] at h
  by_cases h3:65536<Yh vals (P.getD v []) 1 * (vals.getD v []).length
  ·rw [if_pos h3] at h;cases h
  ·rw [if_neg h3] at h
   by_cases h4:Yh vals (P.getD v []) 1 * (vals.getD v []).length=(T.getD v []).length
   ·rw [if_neg (show ¬ Yh vals (P.getD v []) 1 * (vals.getD v []).length≠(T.getD v []).length from fun h=>h h4)] at h
    rcases Nat.lt_or_ge v i with h5 | h5
    ·exact Zlk m (v+1) h i (by omega) (by omega)
    ·have:i=v:=by omega
     subst this
     exact ⟨h4,by omega⟩
   ·rw [if_pos h4] at h;cases h
theorem Zr3 {N W:Nat} {n:Xx} (hs:U1 n W) (he:Uz n) (hsh:Tr n.2.2.1 n.2.2.2.1 n.2.2.2.2 n.2.1.length 0=0) (hr:Xd N (8 * W+40)) (hN:1048577<N):∀ (l:List (List QV)) (k:Nat),n.2.2.2.2.drop k=l→k≤n.2.1.length→Zbl N n l k=some (Zg6 n.2.2.1 n.2.2.2.1 n.2.2.2.2 l.length k)
 | [],k,_,_=>rfl
 | t :: l,k,hd,hk=>by
  have ht:=he.t;have hv:=he.v;have hp:=he.p
  have hk1:k<n.2.2.2.2.length:=by
   rcases Nat.lt_or_ge k n.2.2.2.2.length with h | h
   ·exact h
   ·rw [List.drop_eq_nil_of_le h] at hd;cases hd
  have hd2:=List.drop_eq_getElem_cons hk1
  rw [hd] at hd2
  obtain ⟨hx,hl2⟩:=List.cons.inj hd2
  have kv:k<n.2.2.1.length:=by omega
  have kp:k<n.2.2.2.1.length:=by omega
  have hm:t ∈ n.2.2.2.2:=by rw [hx];exact List.getElem_mem hk1
  have c1:=hs.vl _ (List.getElem_mem kv)
  have c0:0<n.2.2.1[k].length:=List.length_pos_iff.2 (he.ne _ (List.getElem_mem kv))
  obtain ⟨s1,s2⟩:=Zlk _ 0 hsh k (by omega) (by omega)
  rw [Yj kv,Yj hk1,← hx] at s1
  rw [Yj hk1,← hx] at s2
  have hq:=hs.tq t hm
  have hp2:=Znb t
  have hf:=Zna t
  rw [Zbl.eq_2,Zv kv,Option.bind_some,Zp5 (W:=W) (hr.mono (by omega)) (hs.lim t hm) hq (hs.tl t hm),Option.bind_some,
   Z0h (W:=2 * W) (m:=Yh n.2.2.1 (n.2.2.2.1.getD k []) 1) (hr.mono (by omega)) (fun x hx=>by
    obtain ⟨y,hy,rfl⟩:=List.mem_map.1 hx
    exact Zpy (hs.lim t hm y hy)) (by omega) c0 c1 (by rw [List.length_map];omega) (by rw [List.length_map];exact s1) hN,Option.bind_some,Zsi,List.length_cons,Zg6,Yj kv,Yj hk1,← hx]
  cases Tm n.2.2.1[k].length (Yh n.2.2.1 (n.2.2.2.1.getD k []) 1) t with
  | true=>
   rw [if_neg (by decide),if_pos rfl]
   exact Zr3 hs he hsh hr hN l (k+1) hl2.symm (by omega)
  | false=>rw [if_pos (by decide),if_neg (by decide)]
theorem Zuv {N W:Nat} {n:Xx} (hs:U1 n W) (he:Uz n) (hsh:Tr n.2.2.1 n.2.2.2.1 n.2.2.2.2 n.2.1.length 0=0) (hr:Xd N (8 * W+40)) (hN:1048577<N):∀ (m fuel v:Nat),m+v=n.2.1.length→m<fuel→
  Zaw N n (n.2.2.1.map fun l=>(l.length:Int)) fuel (v:Int)=some (Zg6 n.2.2.1 n.2.2.2.1 n.2.2.2.2 m v)
 | 0,0,v,_,h=>by omega
 | 0,fuel+1,v,h1,_=>by
  rw [Zaw.eq_2,if_neg (by rw [decide_eq_false (by omega)];decide)];rfl
 | m+1,0,v,_,h=>by omega
 | m+1,fuel+1,v,h1,h2=>by
  have ht:=he.t;have hv:=he.v;have hp:=he.p;have hnm:=hs.nm
  have kt:v<n.2.2.2.2.length:=by omega
  have kv:v<n.2.2.1.length:=by omega
  have hm:=List.getElem_mem kt
  have c1:=hs.vl _ (List.getElem_mem kv)
  have c0:0<n.2.2.1[v].length:=List.length_pos_iff.2 (he.ne _ (List.getElem_mem kv))
  obtain ⟨s1,s2⟩:=Zlk _ 0 hsh v (by omega) (by omega)
  rw [Yj kv,Yj kt] at s1
  rw [Yj kt] at s2
  have hmc:Yh n.2.2.1 (n.2.2.2.1.getD v []) 1≤n.2.2.2.2[v].length:=by rw [← s1];exact Nat.le_mul_of_pos_right _ c0
  have hw:=Zuw (N:=N) (W:=W) (c:=n.2.2.1[v].length) (l:=n.2.2.2.2[v]) (hr.mono (by omega)) (hs.lim _ hm) (hs.tq _ hm) c0 c1 (hs.tl _ hm) hN (Yh n.2.2.1 (n.2.2.2.1.getD v []) 1) N 0 (by omega) (by omega)
  rw [List.drop_zero,show ((0:Nat):Int)=0 from rfl] at hw
  rw [Zaw.eq_2,if_pos (decide_eq_true (by omega)),Zv kt,Option.bind_some,Zlm kv,Option.bind_some,Zkn,hw,Option.bind_some,Zg6,Yj kv,Yj kt]
  cases Tm n.2.2.1[v].length (Yh n.2.2.1 (n.2.2.2.1.getD v []) 1) n.2.2.2.2[v] with
  | true=>
   rw [if_neg (by decide),if_pos rfl,Zq (by omega)]
   exact Zuv hs he hsh hr hN m fuel (v+1) (by omega) (by omega)
  | false=>rw [if_pos (by decide),if_neg (by decide)]
structure Uk (N:Nat) (n:Xx):Prop where
 ev:Uz n
 le:n.2.1.length≤1024
 nm:Tl n.2.1 n.2.2.1 n.2.1.length 0=0
 sh:Tr n.2.2.1 n.2.2.2.1 n.2.2.2.2 n.2.1.length 0=0
 en:Zcn n.2.2.2.2=false
 su:Zg6 n.2.2.1 n.2.2.2.1 n.2.2.2.2 n.2.1.length 0=0
 tw:Ux n.2.2.2.1=false
 or:∃ l,Qg N n.2.2.2.1=some (l,0)∧U4 N n.2.2.2.1=some l∧Sd N n.2.2.2.1=some 0∧Um n.2.2.2.1 l∧l.length=n.2.2.2.1.length
theorem Zya {N W:Nat} {n:Xx} (hs:U1 n W) (hr:Xd N (8 * W+40)) (hN:2000000<N):∃ e,Zfg N n=some e∧Zgm N n=some e∧(e=0→Uk N n):=by
 have hnm:=hs.nm
 -- shapes of the lists
 have J:∀ b:Bool,(b=true→Zbk N n b=some 60∧Zb0 N n b=some 60):=fun b hb=>by
  subst hb
  exact ⟨by rw [Zbk,if_pos rfl],by rw [Zb0,if_pos rfl]⟩
 have J1:=J true rfl
 rw [Zfg,Zgm]
 by_cases hv:n.2.2.1.length=n.2.1.length
 ·by_cases hp:n.2.2.2.1.length=n.2.1.length
  ·by_cases ht:n.2.2.2.2.length=n.2.1.length
   ·rw [if_neg (by rw [decide_eq_true (by omega)];decide),if_neg (by rw [decide_eq_true (by omega)];decide),if_neg (by rw [decide_eq_true (by omega)];decide),if_neg (by rw [decide_eq_true (by omega)];decide),show (!decide ((n.2.2.2.2.length:Int)=(n.2.1.length:Int)))=false by rw [decide_eq_true (by omega)];rfl,Zbk,Zb0,if_neg (show ¬ (false=true) by decide),if_neg (show ¬ (false=true) by decide)]
    by_cases hk:1024<n.2.1.length
    ·rw [if_pos (decide_eq_true (by omega)),if_pos (decide_eq_true (by omega))]
     exact ⟨4,rfl,rfl,fun h=>by cases h⟩
    ·rw [if_neg (by rw [decide_eq_false (by omega)];decide),if_neg (by rw [decide_eq_false (by omega)];decide)]
     have nn:Zfk (n.1,n.2.1,n.2.2.1,n.2.2.2.1,n.2.2.2.2)=some (Tl n.2.1 n.2.2.1 n.2.1.length 0):=Z0j n hv
     have rn:=Zuc N n hv (by omega) hs.vl (by omega) n.2.1.length N 0 (by omega) (by omega)
     rw [show ((0:Nat):Int)=0 from rfl] at rn
     rw [nn,Option.bind_some,rn]
     by_cases hnms:Tl n.2.1 n.2.2.1 n.2.1.length 0=0
     ·rw [if_neg (by rw [decide_eq_true hnms];decide),if_pos hnms]
      obtain ⟨f,hf⟩:∃ f,N - n.2.1.length=f+1:=⟨N - n.2.1.length - 1,by omega⟩
      rw [hf,Se.eq_2,if_neg (by rw [decide_eq_false (by omega)];decide)]
      have hne:∀ l ∈ n.2.2.1,l≠[]:=fun l hl=>by
       obtain ⟨i,hi,rfl⟩:=List.mem_iff_getElem.1 hl
       have:=(Zsa _ 0 hnms i (by omega) (by omega)).1
       rw [Yj hi] at this;exact this
      have fin:∀ e,Zaa N n.2.2.2.1=some e→Sd N n.2.2.2.1=some e→e≠0→∃ e,((Zaa N n.2.2.2.1).bind fun r_17=>if (!decide (r_17=0))=true then some r_17 else Zaf N n n.2.2.2.2 0)=some e∧((Sd N n.2.2.2.1).bind fun r_76=>if (!decide (r_76=0))=true then some r_76 else (Zdq N (n.1,n.2.1,n.2.2.1,n.2.2.2.1,n.2.2.2.2)).bind fun r_80=>Zav N n r_80 N 0)=some e∧(e=0→Uk N n):=fun e h1 h2 h3=>by
       rw [h1,h2,Option.bind_some,Option.bind_some,if_pos (by rw [decide_eq_false h3];decide),if_pos (by rw [decide_eq_false h3];decide)]
       exact ⟨e,rfl,rfl,fun h=>absurd h h3⟩
      rcases Zu3 hs.pn hN with ⟨e,D,R,h3⟩ | ⟨_,_,l,_,_,_,_,D,R⟩ | ⟨hI,hT,l,ho,hok,hmx,hle,D,R⟩
      ·exact fin e (by rw [Zaa,D];rfl) R (by rcases h3 with h | h <;> omega)
      ·exact fin 42 (by rw [Zaa,D];rfl) R (by decide)
      ·have D':Zaa N n.2.2.2.1=some 0:=by rw [Zaa,D];rfl
       have he:Uz n:=⟨hv,hp,ht,hI,hne⟩
       have hsz:Zdq N (n.1,n.2.1,n.2.2.1,n.2.2.2.1,n.2.2.2.2)=some (n.2.2.1.map fun l=>(l.length:Int)):=Z2f (n:=n) (by omega) (by omega)
       have ms:=Zr2 (N:=N) hs he n.2.2.2.2 0 (by simp) (by omega)
       have rs:=Zur (N:=N) (by omega) hs he n.2.1.length N 0 (by omega) (by omega)
       rw [show ((0:Nat):Int)=0 from rfl] at rs
       rw [D',R,Option.bind_some,Option.bind_some,if_neg (by decide),if_neg (by decide),hsz,Option.bind_some,ms,rs,ht]
       by_cases hsh:Tr n.2.2.1 n.2.2.2.1 n.2.2.2.2 n.2.1.length 0=0
       ·have me:=Zrr (N:=N) (n:=n) (W:=W) (hr.mono (by omega)) n.2.2.2.2 (fun t h=>⟨hs.tl t h,hs.tq t h,hs.lim t h⟩)
        have re:=Ztv (N:=N) (n.2.2.1.map fun l=>(l.length:Int)) hs ht (hr.mono (by omega)) (by omega) n.2.1.length N 0 (by omega) (by omega)
        rw [show ((0:Nat):Int)=0 from rfl,List.drop_zero] at re
        rw [if_pos hsh,if_pos hsh,me,re]
        by_cases hen:Zcn n.2.2.2.2=true
        ·rw [if_pos hen,if_pos hen]
         exact ⟨45,rfl,rfl,fun h=>by cases h⟩
        ·have m6:=Zr3 (N:=N) hs he hsh hr (by omega) n.2.2.2.2 0 (by simp) (by omega)
         have r6:=Zuv (N:=N) hs he hsh hr (by omega) n.2.1.length N 0 (by omega) (by omega)
         rw [show ((0:Nat):Int)=0 from rfl] at r6
         rw [if_neg hen,if_neg hen,m6,r6,ht]
         exact ⟨_,rfl,rfl,fun h=>⟨he,by omega,hnms,hsh,Bool.eq_false_iff.2 hen,h,hT,l,D,ho,R,hok,hle⟩⟩
       ·rw [if_neg hsh,if_neg hsh]
        exact ⟨_,rfl,rfl,fun h=>absurd h hsh⟩
     ·rw [if_pos (by rw [decide_eq_false hnms];decide),if_neg hnms]
      exact ⟨_,rfl,rfl,fun h=>absurd h hnms⟩
   ·rw [if_neg (by rw [decide_eq_true (by omega)];decide),if_neg (by rw [decide_eq_true (by omega)];decide),if_neg (by rw [decide_eq_true (by omega)];decide),if_neg (by rw [decide_eq_true (by omega)];decide),decide_eq_false (by omega)]
    exact ⟨60,J1.1,J1.2,fun h=>by cases h⟩
  ·rw [if_neg (by rw [decide_eq_true (by omega)];decide),if_pos (by rw [decide_eq_false (by omega)];decide),if_neg (by rw [decide_eq_true (by omega)];decide),if_pos (by rw [decide_eq_false (by omega)];decide)]
   exact ⟨60,J1.1,J1.2,fun h=>by cases h⟩
 ·rw [if_pos (by rw [decide_eq_false (by omega)];decide),if_pos (by rw [decide_eq_false (by omega)];decide)]
  exact ⟨60,J1.1,J1.2,fun h=>by cases h⟩
def Wv (p:Rat×Rat):QV×QV:=(Zr p.1,Zr p.2)
def cnt (n:Xx) (v:Nat):Nat:=(n.2.2.1.getD v []).length
def Q3 (n:Xx) (w:List Int):List Int→Nat→Nat
 | [],r=>r
 | p :: ps,r=>Q3 n w ps (r * cnt n p.toNat+(w.getD p.toNat 0).toNat)
def Ve (n:Xx) (w:List Int) (v:Nat):Nat:=Q3 n w (n.2.2.2.1.getD v []) 0
def Yb (n:Xx) (w:List Int) (v:Nat):List QV:=((n.2.2.2.2.getD v []).drop (Ve n w v * cnt n v)).take (cnt n v)
structure Vo (n:Xx) (w:List Int):Prop where
 len:w.length=n.2.1.length
 ok:∀ i,i<w.length→0≤w.getD i 0∧w.getD i 0<(cnt n i:Int)
theorem Zmh {n:Xx} (he:Uz n) {v:Nat} (hv:v<n.2.1.length):0<cnt n v:=by
 have h1:v<n.2.2.1.length:=by rw [he.v];exact hv
 rw [cnt,Yj h1]
 exact List.length_pos_iff.2 (he.ne _ (List.getElem_mem h1))
theorem Zuo {n:Xx} (he:Uz n):∀ (ps:List Int) (k:Nat),(∀ p ∈ ps,0≤p∧p<(n.2.1.length:Int))→k≤1099511627776→k≤Yh n.2.2.1 ps k
 | [],k,_,_=>Nat.le_refl _
 | p :: ps,k,hp,hk=>by
  have h1:=hp p List.mem_cons_self
  have h2:0<(n.2.2.1.getD p.toNat []).length:=Zmh he (by omega)
  rw [Yh]
  have h3:k≤min (k * (n.2.2.1.getD p.toNat []).length) 1099511627776:=Nat.le_min.2 ⟨Nat.le_mul_of_pos_right k h2,hk⟩
  exact Nat.le_trans h3 (Zuo he ps _ (fun q hq=>hp q (List.mem_cons_of_mem _ hq)) (Nat.min_le_right _ _))
theorem Zno {n:Xx} (he:Uz n) {w:List Int} (hw:Vo n w) {p:Int} {ps:List Int} {r k:Nat} (hp:∀ q ∈ p :: ps,0≤q∧q<(n.2.1.length:Int)) (hr:r<k) (hk:k≤65536) (hb:Yh n.2.2.1 (p :: ps) k≤65536):
  r * cnt n p.toNat+(w.getD p.toNat 0).toNat<k * cnt n p.toNat∧k * cnt n p.toNat≤65536∧Yh n.2.2.1 ps (k * cnt n p.toNat)≤65536:=by
 have h1:=hp p List.mem_cons_self
 have h2:=hw.ok p.toNat (by rw [hw.len];omega)
 have h3:r * cnt n p.toNat+cnt n p.toNat≤k * cnt n p.toNat:=by
  have:=Nat.mul_le_mul_right (cnt n p.toNat) (show r+1≤k by omega)
  rwa [Nat.add_mul,Nat.one_mul] at this
 rw [Yh] at hb
 have h4:=Zuo he ps (min (k * (n.2.2.1.getD p.toNat []).length) 1099511627776) (fun q hq=>hp q (List.mem_cons_of_mem _ hq)) (Nat.min_le_right _ _)
 have h5:k * (n.2.2.1.getD p.toNat []).length≤1099511627776:=by
  rcases Nat.le_total (k * (n.2.2.1.getD p.toNat []).length) 1099511627776 with h | h
  ·exact h
  ·rw [Nat.min_eq_right h] at h4 hb;omega
 rw [Nat.min_eq_left h5] at h4 hb
 exact ⟨by omega,Nat.le_trans h4 hb,hb⟩
theorem Zul {n:Xx} (he:Uz n) {w:List Int} (hw:Vo n w):∀ (ps:List Int) (r k:Nat),(∀ q ∈ ps,0≤q∧q<(n.2.1.length:Int))→r<k→k≤65536→Yh n.2.2.1 ps k≤65536→Q3 n w ps r<Yh n.2.2.1 ps k
 | [],r,k,_,hr,_,_=>hr
 | p :: ps,r,k,hp,hr,hk,hb=>by
  obtain ⟨h1,h2,h3⟩:=Zno he hw hp hr hk hb
  have:=Zul he hw ps _ _ (fun q hq=>hp q (List.mem_cons_of_mem _ hq)) h1 h2 h3
  rw [Q3,Yh,Nat.min_eq_left (by rw [cnt] at h2;omega)]
  exact this
theorem Zuj {n:Xx} {w u:List Int}:∀ (ps:List Int) (r:Nat),(∀ p ∈ ps,w.getD p.toNat 0=u.getD p.toNat 0)→Q3 n w ps r=Q3 n u ps r
 | [],_,_=>rfl
 | p :: ps,r,h=>by rw [Q3,Q3,h p List.mem_cons_self];exact Zuj ps _ fun q hq=>h q (List.mem_cons_of_mem _ hq)
section
variable {N:Nat} {n:Xx} (hf:Uk N n)
include hf
theorem Uk.pars {v:Nat} (hv:v<n.2.1.length):∀ p ∈ n.2.2.2.1.getD v [],0≤p∧p<(n.2.1.length:Int):=fun p hp=>by
 have h1:v<n.2.2.2.1.length:=by rw [hf.ev.p];exact hv
 rw [Yj h1] at hp
 have:=hf.ev.par (List.getElem_mem h1) p hp
 rwa [hf.ev.v] at this
theorem Uk.rows {v:Nat} (hv:v<n.2.1.length):Yh n.2.2.1 (n.2.2.2.1.getD v []) 1 * cnt n v=(n.2.2.2.2.getD v []).length∧(n.2.2.2.2.getD v []).length≤65536∧Yh n.2.2.1 (n.2.2.2.1.getD v []) 1≤65536:=by
 have h1:=Zlk _ 0 hf.sh v (Nat.zero_le _) (by omega)
 have h2:=Zmh hf.ev hv
 refine ⟨h1.1,h1.2,?_⟩
 have h3:Yh n.2.2.1 (n.2.2.2.1.getD v []) 1≤Yh n.2.2.1 (n.2.2.2.1.getD v []) 1 * cnt n v:=Nat.le_mul_of_pos_right _ h2
 have h4:Yh n.2.2.1 (n.2.2.2.1.getD v []) 1 * cnt n v≤65536:=by
  have:=h1.1;rw [cnt,this];exact h1.2
 omega
theorem Uk.row {w:List Int} (hw:Vo n w) {v:Nat} (hv:v<n.2.1.length):Ve n w v * cnt n v+cnt n v≤(n.2.2.2.2.getD v []).length∧Ve n w v<65536:=by
 obtain ⟨h1,h2,h3⟩:=hf.rows hv
 have h4:=Zul hf.ev hw _ 0 1 (hf.pars hv) (by omega) (by omega) h3
 have h5:=Nat.mul_le_mul_right (cnt n v) (show Ve n w v+1≤Yh n.2.2.1 (n.2.2.2.1.getD v []) 1 from h4)
 rw [Nat.add_mul,Nat.one_mul,h1] at h5
 exact ⟨h5,Nat.lt_of_lt_of_le h4 h3⟩
theorem Uk.rowT_len {w:List Int} (hw:Vo n w) {v:Nat} (hv:v<n.2.1.length):(Yb n w v).length=cnt n v:=by
 have:=(hf.row hw hv).1
 rw [Yb,List.length_take,List.length_drop];omega
theorem Uk.ent {v:Nat} (hv:v<n.2.1.length):∀ x ∈ n.2.2.2.2.getD v [],0≤Z1 x∧Z1 x≤1:=fun x hx=>by
 have h1:v<n.2.2.2.2.length:=by rw [hf.ev.t];exact hv
 rw [Yj h1] at hx
 have h2:=hf.en
 rw [Zcn,List.any_eq_false] at h2
 have h3:=h2 _ (List.getElem_mem h1)
 rw [Bool.not_eq_true,List.any_eq_false] at h3
 have h4:=h3 x hx
 simp only [Vl,Bool.or_eq_true,decide_eq_true_eq,not_or] at h4
 exact ⟨Rat.not_lt.1 h4.1,Rat.not_lt.1 h4.2⟩
end
theorem Zkw {n:Xx} {w:List Int} {v:Nat} {x:QV} (h:x ∈ Yb n w v):x ∈ n.2.2.2.2.getD v []:=List.mem_of_mem_drop (List.mem_of_mem_take h)
theorem Zuk {n:Xx} {w:List Int} {v j:Nat} (hj:j<(Yb n w v).length):Zk (n.2.2.2.2.getD v []) ((Ve n w v * cnt n v+j:Nat):Int)=some (Yb n w v)[j]:=by
 have h1:Ve n w v * cnt n v+j<(n.2.2.2.2.getD v []).length:=by
  rw [Yb,List.length_take,List.length_drop] at hj;omega
 rw [Zv h1]
 simp only [Yb,List.getElem_take,List.getElem_drop]
def Up (P:List R2) (l:List Int):Prop:=∀ (a:List Int) (v:Int) (b:List Int),l=a++v :: b→∀ p ∈ P.getD v.toNat [],p ∈ a
theorem Up.step {P:List R2} {l:List Int} {j:Nat} (h:Up P l) (hn:W1 P l 0=some j):Up P (l++[(j:Int)]):=by
 obtain ⟨_,h2,h3,_⟩:=Zm0 hn
 obtain ⟨h4,h5⟩:=(Ztu h2).1 h3
 intro a v b e p hp
 rcases List.eq_nil_or_concat b with rfl | ⟨b',c,rfl⟩
 ·obtain ⟨e1,e2⟩:=List.append_inj' e rfl
  rw [List.cons.injEq] at e2
  obtain ⟨rfl,-⟩:=e2
  subst e1
  rw [Int.toNat_natCast,Yj h2] at hp
  exact h5 p hp
 ·rw [List.concat_eq_append,← List.cons_append,← List.append_assoc] at e
  exact h a v b' (List.append_inj' e rfl).1 p hp
theorem Zsm {N:Nat} {P:List R2} (hP:P.length<1048576) (hls:∀ x ∈ P,x.length≤1048576) (hN:1048576<N):∀ (n:Nat) (l r:List Int),Um P l→Up P l→V0 N P n l=some r→Up P r
 | 0,l,r,_,_,h=>by rw [V0.eq_1] at h;cases h
 | n+1,l,r,h0,hk,h=>by
  have hl:=h0.len
  rw [Zm5 (by omega) hls (by omega) hN] at h
  cases hnx:W1 P l 0 with
  | none=>rw [hnx] at h;cases h;exact hk
  | some j=>
   rw [hnx] at h
   exact Zsm hP hls hN n (l++[(j:Int)]) r (h0.step hnx).1 (hk.step hnx) h
structure Zhg (P:List R2) (l:List Int):Prop where
 rg:∀ x ∈ l,0≤x∧x<(P.length:Int)
 nd:l.Nodup
 up:Up P l
theorem Z0v {N:Nat} {P:List R2} {l:List Int} (hP:P.length<1048576) (hls:∀ x ∈ P,x.length≤1048576) (hN:1048576<N) (h:U4 N P=some l) (ho:Um P l):Zhg P l:=
 ⟨ho.2.1,ho.1,Zsm hP hls hN N [] l ⟨.nil,by simp,by simp⟩ (fun a v b e=>by cases a <;> simp at e) (by rwa [U4] at h)⟩
def V5 (n:Xx) (w:List Int):List Int→Rat×Rat→Rat×Rat
 | [],s=>s
 | v :: l,s=>V5 n w l ((Vr (s.2 - s.1) (Yb n w v.toNat) s.1).getD (w.getD v.toNat 0).toNat (0,0))
structure U0 (D M:Nat) (s:Rat×Rat):Prop where
 d:D≠0
 m:1≤M
 a:Bd D M s.1
 b:Bd D M s.2
theorem U0.zero:U0 1 1 (0,1):=⟨by decide,by decide,.zero 1 1,.one⟩
theorem Zmu (M D:Nat):(Ze (M * D)).length≤(Ze M).length+(Ze D).length:=Uo M D
section
variable {N W:Nat} {n:Xx} (hf:Uk N n) (hs:U1 n W)
include hf hs
theorem Zmk {v:Nat} (hv:v<n.2.1.length):∀ x ∈ n.2.2.2.2.getD v [],Ws x∧max x.1.2.length x.2.length≤W:=fun x hx=>by
 have h1:v<n.2.2.2.2.length:=by rw [hf.ev.t];exact hv
 rw [Yj h1] at hx
 have h2:=hs.tq _ (List.getElem_mem h1)
 exact ⟨hs.lim _ (List.getElem_mem h1) x hx,Nat.le_trans (Zs0 hx) h2⟩
theorem Z15 {v:Nat} (hv:v<n.2.1.length) (w:List Int):X5 (Yb n w v)≤W:=by
 have h1:v<n.2.2.2.2.length:=by rw [hf.ev.t];exact hv
 have h2:=hs.tq _ (List.getElem_mem h1)
 rw [Yb,Yj h1]
 exact Nat.le_trans (Znc _ _) (Nat.le_trans (Zm9 _ _) h2)
theorem Zmv {w:List Int} (hw:Vo n w) {v:Nat} (hv:v<n.2.1.length) {D M:Nat} {s:Rat×Rat} (h:U0 D M s):∃ D' M',(Ze M').length+(Ze D').length≤(Ze M).length+(Ze D).length+(W+2)∧
  (∀ p ∈ Vr (s.2 - s.1) (Yb n w v) s.1,U0 D' M' p)∧qs (s.2 - s.1)≤(Ze M).length+(Ze D).length+1:=by
 have hl:Bd D (M+M) (s.2 - s.1):=h.b.sub h.a h.d
 have hE:=Zj6 (Yb n w v)
 have hlim:∀ x ∈ Yb n w v,Ws x:=fun x hx=>(Zmk hf hs hv x (Zkw hx)).1
 have hEl:=Zpr (Yb n w v) hlim
 have hq:=Z15 hf hs hv w
 have hc:(Yb n w v).length≤65536:=by
  have h1:=(hf.rows hv).2.1
  have h2:=(hf.row hw hv).1
  rw [hf.rowT_len hw hv];omega
 have hP:=Zsr (M:=M) h.d hl (Yb n w v) 1 s.1 M (by decide) (fun x hx=>hf.ent hv x (Zkw hx)) (by rw [Nat.mul_one];exact h.a)
 rw [Nat.one_mul] at hP
 have hM:M+(M+M) * (Yb n w v).length≤M * 262144:=by
  have h1:(M+M) * (Yb n w v).length≤(M+M) * 65536:=Nat.mul_le_mul_left _ hc
  omega
 refine ⟨D * U2 (Yb n w v),M * 262144,?_,fun p hp=>?_,?_⟩
 ·have h1:=Uo D (U2 (Yb n w v))
  have h2:=Uo M 262144
  have h3:(Ze 262144).length≤1:=Wi.2 (by decide)
  omega
 ·obtain ⟨h1,h2⟩:=hP p hp
  have:=h.m
  exact ⟨Nat.mul_ne_zero h.d hE,by omega,h1.up hM,h2.up hM⟩
 ·have h1:=hl.qs h.d (by have:=h.m;omega)
  have h2:=Zmu (M+M) D
  have h3:(Ze (M+M)).length≤(Ze M).length+1:=Zhu (Nat.le_refl _) (Nat.le_refl _)
  omega
end
theorem U0.qa {D M:Nat} {s:Rat×Rat} (h:U0 D M s):qs s.1≤(Ze M).length+(Ze D).length:=Nat.le_trans (h.a.qs h.d h.m) (Zmu M D)
theorem U0.qb {D M:Nat} {s:Rat×Rat} (h:U0 D M s):qs s.2≤(Ze M).length+(Ze D).length:=Nat.le_trans (h.b.qs h.d h.m) (Zmu M D)
theorem Vo.set {n:Xx} {w:List Int} (h:Vo n w) {v:Nat} {k:Int} (hk:0≤k∧k<(cnt n v:Int)):Vo n (w.set v k):=by
 refine ⟨by rw [List.length_set];exact h.len,fun i hi=>?_⟩
 rw [List.length_set] at hi
 by_cases hv:v<w.length
 ·rw [Tf w 0 v i k hv]
  split
  ·rename_i e;rw [e];exact hk
  ·exact h.ok i hi
 ·rw [List.set_eq_of_length_le (by omega)];exact h.ok i hi
def Zb5 (N:Nat) (ag:R1) (ah:Int) (al:Int) (ab:R0):Nat→Rh→Bool→R2→R2→Int→Option Rh
  | 0,_,_,_,_,_=>none
  | an+1,ac,ad,ae,af,ai=>(Zk ag.2.2.1 ah).bind fun am=>if (decide (ai<(am.length:Int)))=true then ((Zk ag.2.2.2.2 ah).bind fun ao=>(Zk ao (i64.wrap ((i64.wrap (al * (am.length:Int)))+ai))).bind fun aj=>(Zgf N ((ab.1.1,ab.1.2),ab.2) ((aj.1.1,aj.1.2),aj.2)).bind fun ak=>(Zbx N ((ad,ae),af) ((ak.1.1,ak.1.2),ak.2)).bind fun aa=>Zx ((ac.length+[(((ad,ae),af),((aa.1.1,aa.1.2),aa.2))].length) * 112≤140737488355328∧ac.length+[(((ad,ae),af),((aa.1.1,aa.1.2),aa.2))].length≤maxLen) ((Zb5 N ag ah al ab an) (ac++[(((ad,ae),af),((aa.1.1,aa.1.2),aa.2))]) aa.1.1 aa.1.2 aa.2 (i64.wrap (ai+1)))) else (some ac)
termination_by structural x=>x
def Zd9 (N:Nat) (ab:R1) (ac:Int) (ae:List Int) (aa:(R0×R0)):Nat→Int→Int→Option Rh
  | 0,_,_=>none
  | ai+1,ad,af=>(Zk ab.2.2.2.1 ac).bind fun ag=>if (decide (ad<(ag.length:Int)))=true then ((Zk ag ad).bind fun ah=>(Zk ab.2.2.1 ah).bind fun aj=>(Zk ae ah).bind fun ak=>(Zd9 N ab ac ae aa ai) (i64.wrap (ad+1)) (i64.wrap ((i64.wrap (af * (aj.length:Int)))+ak))) else ((Zdi N ((aa.2.1.1,aa.2.1.2),aa.2.2) ((aa.1.1.1,aa.1.1.2),aa.1.2)).bind fun al=>Zb5 N ab ac af al N ([]:List (R0×R0)) aa.1.1.1 aa.1.1.2 aa.1.2 0)
termination_by structural x=>x
def Zgw (N:Nat) (aa:R1) (ab:Int) (ac:List Int) (ad:(R0×R0)):Option Rh:=
  Zd9 N aa ab ac ad N 0 0
theorem Zxv {N cb bu cc bv dh b1 b2 cd ce:Nat} {cf bk cg bm a2 b3 b4 ch ci:Option Addr} {col:Zd} {w0:World} {ad:R1} {bh:Int} {cj:R2} {ac:(R0×R0)} {r:Rh} (c1:Nat) (hm:Zgw N ad bh cj ac=some r) (e5:Sl Za.str col w0 cf cb ad.2.1) (bi:Sl (Za.slice Za.str) col w0 bk bu ad.2.2.1) (bw:Sl (Za.slice (Za.int .i64)) col w0 cg cc ad.2.2.2.1) (ck:Sl (Za.slice (Za.pair (Za.pair Za.bool (Za.slice (Za.int .u32))) (Za.slice (Za.int .u32)))) col w0 bm bv ad.2.2.2.2) (h2:Sl (Za.int .i64) col w0 a2 dh cj) (cl:Sl (Za.int .u32) col w0 b3 b1 ac.1.1.2) (cn:Sl (Za.int .u32) col w0 b4 b2 ac.1.2) (cu:Sl (Za.int .u32) col w0 ch cd ac.2.1.2) (cv:Sl (Za.int .u32) col w0 ci ce ac.2.2):
    Calls Tryz.prog 88 #[(.agg #[.string ad.1,.slice cf ad.2.1.length cb,.slice bk ad.2.2.1.length bu,.slice cg ad.2.2.2.1.length cc,.slice bm ad.2.2.2.2.length bv]),.int .i64 bh,.slice a2 cj.length dh,(.agg #[.bool ac.1.1.1,.slice b3 ac.1.1.2.length b1,.slice b4 ac.1.2.length b2,.bool ac.2.1.1,.slice ch ac.2.1.2.length cd,.slice ci ac.2.2.length ce])] w0 (fun e w'=>∃ (col':Zd) (ra1:Option Addr) (rc2:Nat),e= .returned ((.slice ra1 r.length rc2))∧Zf col w0 col' w'∧Zc (Za.pair (Za.pair (Za.pair Za.bool (Za.slice (Za.int .u32))) (Za.slice (Za.int .u32))) (Za.pair (Za.pair Za.bool (Za.slice (Za.int .u32))) (Za.slice (Za.int .u32)))) 49 c1 col' w' ra1 rc2 r):=by
 refine Xb 8 (m:=94) func88 rfl rfl rfl rfl rfl ?_;rw [Zgw.eq_1] at hm;have aa:=St.start col w0;refine go ?_;refine Xh (col:=(Zi col)) 1 rfl ?_;intro co e6 dm dn ab;refine Xh (col:=dm) 2 rfl ?_;intro dp e7 e8 di a1;refine go ?_;replace aa:=(aa.grow dn).grow di;replace ab:=ab.gr di;refine Zw [1,2,4,7,1000000] (fun n f cp=>∃ ba cw a3 bx,bx=n∧Zd9 N ad bh cj ac bx cw a3=some r∧St w0 (Zi col) ba cp∧Zn 27 1 ba cp co #[.string ad.1,.slice cf ad.2.1.length cb,.slice bk ad.2.2.1.length bu,.slice cg ad.2.2.2.1.length cc,.slice bm ad.2.2.2.2.length bv]∧Zn 49 2 ba cp dp #[.bool ac.1.1.1,.slice b3 ac.1.1.2.length b1,.slice b4 ac.1.2.length b2,.bool ac.2.1.1,.slice ch ac.2.1.2.length cd,.slice ci ac.2.2.length ce]∧[10,9].map f=[.int .i64 cw,.int .i64 a3]) N ⟨_,0,0,_,rfl,hm,aa,ab,a1,rfl⟩ ?_;clear hm;intro n f cp hI;obtain ⟨ba,cw,a3,bx,hn,hm,aa,ab,a1,hs⟩:=hI;subst hn;refine .lL [10,9] hs ?_;replace bi:=bi.keep (Zj.start col w0);replace bw:=bw.keep (Zj.start col w0);replace ck:=ck.keep (Zj.start col w0);replace h2:=h2.keep (Zj.start col w0);replace cl:=cl.keep (Zj.start col w0);replace cn:=cn.keep (Zj.start col w0);replace cu:=cu.keep (Zj.start col w0);replace cv:=cv.keep (Zj.start col w0)
 cases bx with
 | zero=>rw [Zd9.eq_1] at hm;cases hm
 | succ bx=>
  rw [Zd9.eq_2] at hm;refine go ?_;refine Z9 ab<|Xu rfl ?_;obtain ⟨e9,bz,hm⟩:=bZ hm;refine lI bz ((bw.ks aa).addr bz) ?_;obtain ⟨_,dq,dr⟩:=(bw.ks aa).atN bz;obtain ⟨⟨fa,fb,rfl,fc⟩,_⟩:=dq;refine lW dr.one<|go ?_;refine Zp hm (fun hb hm=>go ?_) fun hb hm=>go ?_
  ·refine Z9 ab<|Xu rfl<|lI bz ((bw.ks aa).addr bz) ?_;obtain ⟨_,ds,dt⟩:=(bw.ks aa).atN bz;obtain ⟨⟨fd,fe,rfl,dj⟩,_⟩:=ds;refine lW dt.one<|Xu rfl ?_;obtain ⟨ff,cx,hm⟩:=bZ hm;refine lI cx (dj.addr cx)<|lW (dj.atInt cx) ?_;refine go ?_;refine Wj (col:=ba) (by kernel_rfl) (by kernel_rfl)<|go ?_;refine qF ⟨_,_,rfl⟩ ?_;refine qW (fun _ hC=>((ab.atN).nth (q:=2) rfl).gr (hC.bl ba)) ?_;refine go ?_;obtain ⟨fg,cy,hm⟩:=bZ hm;refine qI cy ((bi.ks aa).addr cy) ?_;obtain ⟨_,du,dv⟩:=(bi.ks aa).atN cy;obtain ⟨⟨fh,fi,rfl,fj⟩,_⟩:=du;refine qW (fun _ hC=>dv.one.gr (hC.bl ba)) ?_;refine go ?_;obtain ⟨fk,cz,hm⟩:=bZ hm;refine qI cz ((h2.ks aa).addr cz)<|qW (fun _ hC=>((h2.ks aa).gr (hC.bl ba)).atInt cz) ?_;refine go ?_;refine Yn ?_;intro fl hC;replace hC:=hC.bl ba;refine go ?_;replace ab:=ab.gr hC;replace a1:=a1.gr hC;replace aa:=aa.grow hC;exact ⟨bx,by omega,rfl,⟨_,_,_,_,rfl,hm,aa,ab,a1,rfl⟩⟩
  refine Z3 ⟨_,_,rfl⟩ ?_;refine lV (.agg #[.bool ac.2.1.1,.slice ch ac.2.1.2.length cd,.slice ci ac.2.2.length ce]) (Xq isAgg47 sizeOf47 rfl rfl ((a1.atN).part 3 3 _ rfl))<|Z3 ⟨_,_,rfl⟩ ?_;refine lV (.agg #[.bool ac.1.1.1,.slice b3 ac.1.1.2.length b1,.slice b4 ac.1.2.length b2]) (Xq isAgg47 sizeOf47 rfl rfl ((a1.atN).part 0 3 _ rfl)) ?_;obtain ⟨bb,dw,hm⟩:=bZ hm;refine Zh (Zxe 3 4 dw (cu.ks aa) (cv.ks aa) (cl.ks aa) (cn.ks aa)) ?_;rintro _ fm ⟨dx,c0,c2,c3,c4,rfl,c5,ai,aj⟩;refine ⟨_,rfl,?_⟩;refine Xp (col:=dx) #[.bool false,.slice none (([]:List Int).length) 0,.slice none (([]:List Int).length) 0] 5 zeroValue47 ?_;intro dy fn dz b5 d0;refine Z7 d0 ?_;intro fp b6 d1 ag;refine go ?_;refine Z3 ⟨_,_,rfl⟩ ?_;replace a1:=((a1.gr c5).gr b5).kp b6;refine lV (.agg #[.bool ac.1.1.1,.slice b3 ac.1.1.2.length b1,.slice b4 ac.1.2.length b2]) (Xq isAgg47 sizeOf47 rfl rfl ((a1.atN).part 0 3 _ rfl))<|Xp (col:=dz) #[.bool false,.slice none (([]:List Int).length) 0,.slice none (([]:List Int).length) 0] 6 zeroValue47 ?_;intro d2 fq fr b7 d3;refine Z7 d3 ?_;intro ft b8 d4 ah;refine go ?_;replace ab:=((((ab.gr c5).gr b5).kp b6).gr b7).kp b8;replace aa:=((((aa.grow c5).grow b5).kp b6 d1).grow b7).kp b8 d4;replace ai:=(((ai.gr b5).kp b6).gr b7).kp b8;replace aj:=(((aj.gr b5).kp b6).gr b7).kp b8;replace ag:=(ag.gr b7).kp b8
  refine Zw [1,12,14,4,9,1000000] (fun n f af=>∃ ae c6 c7 cq a4 bn bo a5 bp bq a6 br b0,b0=n∧Zb5 N ad bh a3 bb b0 cq a4 a5 a6 br=some r∧St w0 (Zi col) ae af∧Zc (Za.int .u32) 79 3 ae af c0 c2 bb.1.2∧Zc (Za.int .u32) 79 4 ae af c3 c4 bb.2∧Zn 47 5 ae af dy #[.bool bb.1.1,.slice c0 bb.1.2.length c2,.slice c3 bb.2.length c4]∧Zc (Za.pair (Za.pair (Za.pair Za.bool (Za.slice (Za.int .u32))) (Za.slice (Za.int .u32))) (Za.pair (Za.pair Za.bool (Za.slice (Za.int .u32))) (Za.slice (Za.int .u32)))) 49 7 ae af c6 c7 cq∧Sl (Za.int .u32) ae af bn bo a5∧Sl (Za.int .u32) ae af bp bq a6∧Zn 47 6 ae af d2 #[.bool a4,.slice bn a5.length bo,.slice bp a6.length bq]∧Zn 27 1 ae af co #[.string ad.1,.slice cf ad.2.1.length cb,.slice bk ad.2.2.1.length bu,.slice cg ad.2.2.2.1.length cc,.slice bm ad.2.2.2.2.length bv]∧[13,15].map f=[.slice c6 cq.length c7,.int .i64 br]) N ⟨_,none,0,_,_,_,_,_,_,_,_,0,_,rfl,hm,aa,ai,aj,ag,Zc.nil,(cl.ks aa),(cn.ks aa),ah,ab,rfl⟩ ?_;clear hm;intro n f af hI;obtain ⟨ae,c6,c7,cq,a4,bn,bo,a5,bp,bq,a6,br,b0,hn,hm,aa,ai,aj,ag,ak,ap,aq,ah,ab,hs⟩:=hI;subst hn;refine .lL [13,15] hs ?_
  cases b0 with
  | zero=>rw [Zb5.eq_1] at hm;cases hm
  | succ b0=>
   rw [Zb5.eq_2] at hm;refine go ?_;refine Z9 ab<|Xu rfl ?_;obtain ⟨bs,bt,hm⟩:=bZ hm;refine lI bt ((bi.ks aa).addr bt) ?_;obtain ⟨_,d5,d6⟩:=(bi.ks aa).atN bt;obtain ⟨⟨fu,fv,rfl,fw⟩,_⟩:=d5;refine lW d6.one<|go ?_;refine Zp hm (fun hb hm=>go ?_) fun hb hm=>go ?_
   ·have bc:=Z2.clip (fun _=>false) ae af;refine Zha (col:=ae) [(0,0),(1,0),(2,1),(3,0),(4,1),(5,1),(6,0),(7,1),(8,1),(9,0),(10,1),(11,1),(12,0),(13,1),(14,1),(15,1),(16,1),(17,1),(18,0),(19,3),(20,3),(21,4),(22,2)] (by kernel_rfl) (by kernel_rfl) ⟨fun h=>absurd h (by decide),fun h=>absurd h (by decide),fun h=>absurd h (by decide),fun h=>absurd h (by decide),fun h=>absurd h (by decide),fun h=>absurd h (by decide),fun h=>absurd h (by decide),fun h=>absurd h (by decide),fun h=>absurd h (by decide),fun h=>absurd h (by decide),fun h=>absurd h (by decide),fun h=>absurd h (by decide),fun h=>absurd h (by decide),fun h=>absurd h (by decide),fun h=>absurd h (by decide),fun h=>absurd h (by decide),fun h=>absurd h (by decide),fun h=>absurd h (by decide),fun h=>absurd h (by decide),fun h=>absurd h (by decide),fun h=>absurd h (by decide),fun _=>⟨_,_,_,rfl,T4 zeroValue47⟩,fun h=>absurd h (by decide),trivial⟩ ?_;replace ah:=ah.kpp bc;refine Wm (v:=(.agg #[.bool a4,.slice bn a5.length bo,.slice bp a6.length bq])) rfl rfl (fun _ hC=>Xq isAgg47 sizeOf47 rfl rfl (ah.atN.gr (hC.bl (Zg af ae)))) ?_;replace ag:=ag.kpp bc;refine Wm (v:=(.agg #[.bool bb.1.1,.slice c0 bb.1.2.length c2,.slice c3 bb.2.length c4])) rfl rfl (fun _ hC=>Xq isAgg47 sizeOf47 rfl rfl (ag.atN.gr (hC.bl (Zg af ae)))) ?_;refine Y5 (v:=(.pointer ((some (⟨co,0,none⟩:Addr)).map (·.add 4)))) rfl rfl (fun _=>U7 (sz:=1) (off:=4) underlying27 rfl sizeOf25 (by decide) rfl rfl ⟨_,_,rfl⟩) ?_;replace ab:=ab.kpp bc;refine Wm (v:=(.slice bm ad.2.2.2.2.length bv)) rfl rfl (fun _ hC=>Sk isAgg25 rfl (((ab.atN).nth (q:=4) (v:=(.slice bm ad.2.2.2.2.length bv)) rfl).gr (hC.bl (Zg af ae)))) ?_;refine Y5 (v:=(.int .i64 bh)) rfl rfl (fun _=>Vt rfl) ?_;obtain ⟨d7,cr,hm⟩:=bZ hm;replace aa:=aa.kpp bc;refine Y5 (v:=(X1 bm (Int.toNat bh * 1))) rfl rfl (fun _=>Y3 underlying25 sizeOf56 rfl rfl (Xl cr).1 (Xl cr).2.1 ((ck.ks aa).addr cr)) ?_;obtain ⟨_,d8,d9⟩:=(ck.ks aa).atN cr;obtain ⟨⟨dk,ea,rfl,dl⟩,_⟩:=d8;refine Wm (v:=(.slice dk d7.length ea)) rfl rfl (fun _ hC=>Sk isAgg56 rfl (d9.one.gr (hC.bl (Zg af ae)))) ?_;refine Y5 (v:=(.int .i64 a3)) rfl rfl (fun _=>Vt rfl) ?_;refine Y5 (v:=(.pointer ((some (⟨co,0,none⟩:Addr)).map (·.add 2)))) rfl rfl (fun _=>U7 (sz:=1) (off:=2) underlying27 rfl sizeOf23 (by decide) rfl rfl ⟨_,_,rfl⟩) ?_
    refine Wm (v:=(.slice bk ad.2.2.1.length bu)) rfl rfl (fun _ hC=>Sk isAgg23 rfl (((ab.atN).nth (q:=2) (v:=(.slice bk ad.2.2.1.length bu)) rfl).gr (hC.bl (Zg af ae)))) ?_;refine Y5 (v:=(.int .i64 bh)) rfl rfl (fun _=>Vt rfl) ?_;refine Y5 (v:=(X1 bk (Int.toNat bh * 1))) rfl rfl (fun _=>Y3 underlying23 sizeOf22 rfl rfl (Xl bt).1 (Xl bt).2.1 ((bi.ks aa).addr bt)) ?_;obtain ⟨_,eb,ec⟩:=(bi.ks aa).atN bt;obtain ⟨⟨ed,ee,rfl,fx⟩,_⟩:=eb;refine Wm (v:=(.slice ed bs.length ee)) rfl rfl (fun _ hC=>Sk isAgg22 rfl (ec.one.gr (hC.bl (Zg af ae)))) ?_;refine Y5 (v:=(.int .i64 bs.length)) rfl rfl (fun _=>To underlying22 rfl) ?_;refine Y5 (v:=(.int .i64 (i64.wrap (a3 * (bs.length:Int))))) rfl rfl (fun _=>Zg5 a3 (bs.length:Int) rfl rfl) ?_;refine Y5 (v:=(.int .i64 br)) rfl rfl (fun _=>Vt rfl) ?_;refine Y5 (v:=(.int .i64 (i64.wrap ((i64.wrap (a3 * (bs.length:Int)))+br)))) rfl rfl (fun _=>S5 (i64.wrap (a3 * (bs.length:Int))) br rfl rfl) ?_;obtain ⟨c8,ct,hm⟩:=bZ hm;refine Y5 (v:=(X1 dk (Int.toNat (i64.wrap ((i64.wrap (a3 * (bs.length:Int)))+br)) * 3))) rfl rfl (fun _=>Y3 underlying56 sizeOf47 rfl rfl (Xl ct).1 (Xl ct).2.1 (dl.addr ct)) ?_;obtain ⟨_,ef,eg⟩:=dl.atN ct;obtain ⟨_,_,rfl,eh,ei⟩:=Yx ef;obtain ⟨_,_,rfl,ej,ek⟩:=Yx eh;obtain ⟨rfl,_⟩:=ej;obtain ⟨⟨el,em,rfl,c9⟩,_⟩:=ek;obtain ⟨⟨en,eo,rfl,da⟩,_⟩:=ei;refine Wm (v:=(.agg #[.bool c8.1.1,.slice el c8.1.2.length em,.slice en c8.2.length eo])) rfl rfl (fun _ hC=>Xq isAgg47 sizeOf47 rfl rfl (eg.gr (hC.bl (Zg af ae)))) ?_;refine Wl rfl rfl ?_;intro ep hC0;have hC:=hC0.bl (Zg af ae);obtain ⟨fy,eq,hm⟩:=bZ hm;replace ai:=(ai.kpp bc).gr hC;replace aj:=(aj.kpp bc).gr hC;replace c9:=c9.gr hC;replace da:=da.gr hC;refine Zh (Zw9 8 9 eq ((ai.toSlF (Zm.int .u32)).froz 4) ((aj.froz 3 (by decide)).toSlF (Zm.int .u32)) ((c9.froz 3).froz 4) ((da.froz 3).froz 4)) ?_;rintro _ a7 ⟨er,fz,f0,f1,f2,rfl,al,b9,ca⟩;refine ⟨_,rfl,?_⟩;replace b9:=b9.thaw (Zy .u32) al (((Fz.refl (col:=(Zg af ae))).froz 3).froz 4) (by decide);replace ca:=ca.thaw (Zy .u32) al (((Fz.refl (col:=(Zg af ae))).froz 3).froz 4) (by decide)
    replace al:=al.thawR (col:=(Zg af ae));generalize Xa ep.heap.size (Zg af ae) er=bd at *;refine Zl ?_;refine ⟨fun w'=>Zf (Zg a7 bd) a7 (Zg a7 bd) w',fun g=>(Zg a7 bd) g=497,Zf.refl _ _,Wf,fun _=>⟨fun _ h=>Vb hC0 al h,fun b hb=>al.below.block b hb,fun g x1 x2=>Vj al g x1 (by first | exact x2 | (simp only [Xn,x2];rfl) | (simp only [Xn,Xw,x2];rfl))⟩,?_⟩;have ax:=Z2.clip (fun _=>false) bd a7;refine Wl rfl rfl ?_;intro es hC0;replace ak:=(((ak.kpp bc).gr hC).gr al).kpp ax;replace ap:=(((ap.kpp bc).gr hC).gr al).kpp ax;replace aq:=(((aq.kpp bc).gr hC).gr al).kpp ax;replace ag:=((ag.gr hC).gr al).kpp ax;replace ah:=((ah.gr hC).gr al).kpp ax;replace ab:=((ab.gr hC).gr al).kpp ax;replace aa:=((aa.grow hC).grow al).kpp ax;have hC:=hC0.bl (Zg a7 bd);obtain ⟨am,et,hm⟩:=bZ hm;replace b9:=(b9.kpp ax).gr hC;replace ca:=(ca.kpp ax).gr hC;replace ap:=ap.gr hC;replace aq:=aq.gr hC;refine Zh (Zl9 10 11 et ((ap.froz 8).froz 9) ((aq.froz 8).froz 9) ((b9.toSlF (Zm.int .u32)).froz 9) ((ca.froz 8 (by decide)).toSlF (Zm.int .u32))) ?_;rintro _ ao ⟨eu,db,dc,dd,de,rfl,an,ar,au⟩;refine ⟨_,rfl,?_⟩;replace ar:=ar.thaw (Zy .u32) an (((Fz.refl (col:=(Zg a7 bd))).froz 8).froz 9) (by decide);replace au:=au.thaw (Zy .u32) an (((Fz.refl (col:=(Zg a7 bd))).froz 8).froz 9) (by decide);replace an:=an.thawR (col:=(Zg a7 bd));generalize Xa es.heap.size (Zg a7 bd) eu=av at *;refine Zl ?_;refine ⟨fun w'=>Zf (Zg ao av) ao (Zg ao av) w',fun g=>(Zg ao av) g=497,Zf.refl _ _,Wf,fun _=>⟨fun _ h=>Vb hC0 an h,fun b hb=>an.below.block b hb,fun g x1 x2=>Vj an g x1 (by first | exact x2 | (simp only [Xn,x2];rfl) | (simp only [Xn,Xw,x2];rfl))⟩,?_⟩;have ay:=Z2.clip (fun _=>false) av ao;refine Zhb rfl rfl (T4 zeroValue47) ?_;intro be ew;refine Wl rfl rfl ?_;intro ey ⟨hC0,hZ0⟩;replace ai:=((((ai.gr al).kpp ax).gr hC).gr an).kpp ay;replace aj:=((((aj.gr al).kpp ax).gr hC).gr an).kpp ay;replace ak:=((ak.gr hC).gr an).kpp ay;replace ag:=((ag.gr hC).gr an).kpp ay;replace ah:=((ah.gr hC).gr an).kpp ay;replace ab:=((ab.gr hC).gr an).kpp ay
    replace aa:=((aa.grow hC).grow an).kpp ay;have hC:=hC0.bl (Zg ao av);obtain ⟨az,df⟩:=Zeo (col:=(Zg ao av)) 12 hZ0 ew;replace df:Zn 47 12 (Xe be 12 (Zg ao av)) ey be #[.bool false,.slice none (([]:List Int).length) 0,.slice none (([]:List Int).length) 0]:=df;refine Z7 df ?_;intro bf a0 ez a8;refine Zl ?_;refine ⟨fun w'=>Zf (Zg bf (Xe be 12 (Zg ao av))) bf (Zg bf (Xe be 12 (Zg ao av))) w',fun g=>(Zg bf (Xe be 12 (Zg ao av))) g=497,Zf.refl _ _,Wf,fun h=>absurd h (by decide),?_⟩;have aw:=Z2.clip (fun _=>false) (Xe be 12 (Zg ao av)) bf;refine Zhc ?_;replace ap:=(((((ap.gr an).kpp ay).gr hC).kpp az).kp a0).kpp aw;replace aq:=(((((aq.gr an).kpp ay).gr hC).kpp az).kp a0).kpp aw;replace ar:=((((ar.kpp ay).gr hC).kpp az).kp a0).kpp aw;replace au:=((((au.kpp ay).gr hC).kpp az).kp a0).kpp aw;replace ai:=(((ai.gr hC).kpp az).kp a0).kpp aw;replace aj:=(((aj.gr hC).kpp az).kp a0).kpp aw;replace ak:=(((ak.gr hC).kpp az).kp a0).kpp aw;replace ag:=(((ag.gr hC).kpp az).kp a0).kpp aw;replace ah:=(((ah.gr hC).kpp az).kp a0).kpp aw;replace ab:=(((ab.gr hC).kpp az).kp a0).kpp aw;replace aa:=(((aa.grow hC).kpp az).kp a0 ez).kpp aw;intro e0 hC;replace hC:Zf (Zg bf (Xe be 12 (Zg ao av))) bf (Zg bf (Xe be 12 (Zg ao av))) e0:=.of_below hC.below;refine go ?_;replace ah:=ah.gr hC;refine lV _ (Xj isAgg47 sizeOf47 ah) ?_;replace a8:=(a8.kpp aw).gr hC;refine lV _ (Xj isAgg47 sizeOf47 a8)<|lV (.agg #[.bool a4,.slice bn a5.length bo,.slice bp a6.length bq,.bool am.1.1,.slice db am.1.2.length dc,.slice dd am.2.length de]) (Ys (l:=[_,_]) (qs:=[(0,3),(3,3)]) underlying49 zeroValue49 ⟨rfl,sizeOf47,rfl,sizeOf47,trivial⟩ rfl) ?_;replace ai:=ai.gr hC;replace ai:=ai.froz 11 (by decide);replace aj:=aj.gr hC;replace aj:=aj.froz 11 (by decide);replace ap:=ap.gr hC;replace ap:=ap.froz 11;replace aq:=aq.gr hC;replace aq:=aq.froz 11;replace ar:=ar.gr hC;replace ar:=ar.froz 11 (by decide);replace au:=au.gr hC;replace au:=(au).toSlF (Zm.int .u32);replace ak:=ak.gr hC;replace ak:=ak.froz 11 (by decide);replace ag:=ag.gr hC;replace ag:=ag.froz 11 (by decide);replace ah:=ah.froz 11 (by decide);replace ab:=ab.gr hC;replace ab:=ab.froz 11 (by decide)
    replace a8:=a8.froz 11 (by decide);replace aa:=aa.grow hC;replace aa:=aa.froz 11 (by decide) (by decide);replace ai:=ai.froz 10 (by decide);replace aj:=aj.froz 10 (by decide);replace ap:=ap.froz 10;replace aq:=aq.froz 10;replace ar:=(ar).toSlF (Zm.int .u32);replace au:=au.froz 10;replace ak:=ak.froz 10 (by decide);replace ag:=ag.froz 10 (by decide);replace ah:=ah.froz 10 (by decide);replace ab:=ab.froz 10 (by decide);replace a8:=a8.froz 10 (by decide);replace aa:=aa.froz 10 (by decide) (by decide);refine Q8 (col:=(Xn 10 (Xn 11 (Zg bf (Xe be 12 (Zg ao av)))))) (r:=(Za.pair (Za.pair (Za.pair Za.bool (Za.slice (Za.int .u32))) (Za.slice (Za.int .u32))) (Za.pair (Za.pair Za.bool (Za.slice (Za.int .u32))) (Za.slice (Za.int .u32))))) (xs:=[(((a4,a5),a6),((am.1.1,am.1.2),am.2))]) [(.agg #[.bool a4,.slice bn a5.length bo,.slice bp a6.length bq,.bool am.1.1,.slice db am.1.2.length dc,.slice dd am.2.length de])] 13 (Wt.ofF (Rows.consF (r:=(Za.pair (Za.pair (Za.pair Za.bool (Za.slice (Za.int .u32))) (Za.slice (Za.int .u32))) (Za.pair (Za.pair Za.bool (Za.slice (Za.int .u32))) (Za.slice (Za.int .u32))))) (x:=(((a4,a5),a6),((am.1.1,am.1.2),am.2))) (cs:=[.bool a4,.slice bn a5.length bo,.slice bp a6.length bq,.bool am.1.1,.slice db am.1.2.length dc,.slice dd am.2.length de]) (V4 (V4 (V4 (Tq a4) (Q2 ap)) (Q2 aq)) (V4 (V4 (Tq am.1.1) (Q2 ar)) (Q2 au))) Rows.nil0)) ?_;intro f3 f4 f5 a9 e1;obtain ⟨e2,hm⟩:=Zz hm;replace ak:=ak.gr a9;refine Wn ak (e1.srcN (NB.pair (NB.pair (NB.pair NB.bool NB.slice) NB.slice) (NB.pair (NB.pair NB.bool NB.slice) NB.slice))) e2 ?_;intro f6 f7 f8 f9 bg dg;refine go ?_;replace a8:=(a8.gr a9).kpp bg;refine lV _ (Xj isAgg47 sizeOf47 a8) ?_;replace ah:=(ah.gr a9).kpp bg;refine Z7 ah ?_;intro ga bj e3 e4;refine go ?_;replace ai:=((ai.gr a9).kpp bg).kp bj;replace aj:=((aj.gr a9).kpp bg).kp bj;replace ar:=((ar.gr a9).kpp bg).kp bj;replace au:=((au.gr a9).kpp bg).kp bj;replace ag:=((ag.gr a9).kpp bg).kp bj;replace ab:=((ab.gr a9).kpp bg).kp bj;replace aa:=((aa.grow a9).kpp bg).kp bj e3;replace dg:=dg.kp bj;exact ⟨b0,by omega,rfl,⟨_,_,_,_,_,_,_,_,_,_,_,_,_,rfl,hm,aa,ai,aj,ag,dg,ar,au,e4,ab,rfl⟩⟩
   cases hm;exact ⟨rfl,_,_,_,rfl,aa.fin (cm [(7,c1)]),aa.fo ak⟩
def Ziw (N:Nat):Option (R0×R0):=
  (Qs N 0 1).bind fun aa=>(Qs N 1 1).bind fun ab=>some (((aa.1.1,aa.1.2),aa.2),((ab.1.1,ab.1.2),ab.2))
theorem Zxx {N:Nat} {col:Zd} {w0:World} {r:(R0×R0)} (c1 c2 c3 c4:Nat) (hm:Ziw N=some r):
    Calls Tryz.prog 87 #[] w0 (fun e w'=>∃ (col':Zd) (ra1:Option Addr) (rc2:Nat) (ra4:Option Addr) (rc5:Nat) (ra7:Option Addr) (rc8:Nat) (ra10:Option Addr) (rc11:Nat),e= .returned ((.agg #[.bool r.1.1.1,.slice ra1 r.1.1.2.length rc2,.slice ra4 r.1.2.length rc5,.bool r.2.1.1,.slice ra7 r.2.1.2.length rc8,.slice ra10 r.2.2.length rc11]))∧Zf col w0 col' w'∧Zc (Za.int .u32) 79 c1 col' w' ra1 rc2 r.1.1.2∧Zc (Za.int .u32) 79 c2 col' w' ra4 rc5 r.1.2∧Zc (Za.int .u32) 79 c3 col' w' ra7 rc8 r.2.1.2∧Zc (Za.int .u32) 79 c4 col' w' ra10 rc11 r.2.2):=by
 refine Yd (m:=4) func87 rfl rfl rfl ?_;rw [Ziw.eq_1] at hm;have aa:=St.start col w0;refine go ?_;refine Xp (col:=(Zi col)) #[.bool false,.slice none (([]:List Int).length) 0,.slice none (([]:List Int).length) 0,.bool false,.slice none (([]:List Int).length) 0,.slice none (([]:List Int).length) 0] 1 zeroValue49 ?_;intro a2 a3 al am ad;refine go ?_;obtain ⟨ae,an,hm⟩:=bZ hm;refine Zh (Zj0 (col:=al) 2 3 an) ?_;rintro _ a4 ⟨ao,ap,aq,ar,au,rfl,ak,af,ag⟩;refine ⟨_,rfl,?_⟩;obtain ⟨ah,av,hm⟩:=bZ hm;refine Zh (Zj0 (col:=ao) 4 5 av) ?_;rintro _ a5 ⟨a6,aw,ax,ay,az,rfl,ac,ai,aj⟩;refine ⟨_,rfl,?_⟩;refine lV (.agg #[.bool ae.1.1,.slice ap ae.1.2.length aq,.slice ar ae.2.length au,.bool ah.1.1,.slice aw ah.1.2.length ax,.slice ay ah.2.length az]) (Ys (l:=[_,_]) (qs:=[(0,3),(3,3)]) underlying49 zeroValue49 ⟨rfl,sizeOf47,rfl,sizeOf47,trivial⟩ rfl) ?_;replace ad:=(ad.gr ak).gr ac;refine Z7 ad ?_;intro a7 ab a0 a1;refine go ?_;cases hm;replace aa:=(((aa.grow am).grow ak).grow ac).kp ab a0;replace af:=(af.gr ac).kp ab;replace ag:=(ag.gr ac).kp ab;replace ai:=ai.kp ab;replace aj:=aj.kp ab;exact ⟨rfl,_,ra a1.atN,_,_,_,_,_,_,_,_,_,rfl,aa.fin (cm [(2,c1),(3,c2),(4,c3),(5,c4)]),aa.fo af,aa.fo ag,aa.fo ai,aa.fo aj⟩
section
variable {N K:Nat} {n:Xx} (hf:Uk N n) (w:List Int) (hw:Vo n w)
include hf hw
theorem Zuq (hr:Xd N (8 * K+40)) {v:Nat} (hv:v<n.2.1.length) (hl:∀ x ∈ Yb n w v,Ws x∧max x.1.2.length x.2.length≤K) {long:Rat} (hlong:qs long≤K):
  ∀ (l:List QV) (f j:Nat) (a:Rat) (parts:List (QV×QV)),(Yb n w v).drop j=l→j≤cnt n v→cnt n v<f+j→qs a≤K→(∀ p ∈ Vr long l a,qs p.1≤K∧qs p.2≤K)→parts.length=j→
   Zb5 N n (v:Int) (Ve n w v:Int) (Zr long) f parts (Zr a).1.1 (Zr a).1.2 (Zr a).2 (j:Int)=some (parts++(Vr long l a).map Wv)
 | l,0,j,a,parts,_,h1,h2,_,_,_=>by omega
 | l,f+1,j,a,parts,hd,h1,h2,ha,hp,hpl=>by
  have hlen:=hf.rowT_len hw hv
  have hrow:=hf.row hw hv
  have hrows:=hf.rows hv
  rw [Zb5.eq_2,Va [] (by rw [hf.ev.v];exact hv),Option.bind_some]
  cases l with
  | nil=>
   have h3:=List.drop_eq_nil_iff.1 hd
   rw [if_neg (by rw [decide_eq_false (by rw [cnt] at h1 hlen;omega)];decide),Vr,List.map_nil,List.append_nil]
  | cons y l=>
   have hj:j<(Yb n w v).length:=by
    rcases Nat.lt_or_ge j (Yb n w v).length with h | h
    ·exact h
    ·rw [List.drop_eq_nil_of_le h] at hd;cases hd
   have hy:(Yb n w v)[j]=y∧(Yb n w v).drop (j+1)=l:=by
    rw [List.drop_eq_getElem_cons hj] at hd
    exact List.cons.inj hd
   have hyK:=hl y (hy.1 ▸ List.getElem_mem hj)
   have hjc:j<cnt n v:=by omega
   have hq:=hp _ List.mem_cons_self
   have e0:(0:Int)≤((Ve n w v * cnt n v:Nat):Int):=Int.natCast_nonneg _
   have e1:i64.wrap ((Ve n w v:Int) * ((n.2.2.1.getD v []).length:Int))=((Ve n w v * cnt n v:Nat):Int):=by
    rw [show ((n.2.2.1.getD v []).length:Int)=((cnt n v:Nat):Int) from rfl,← Int.natCast_mul]
    exact Zq (by omega)
   have e2:i64.wrap (((Ve n w v * cnt n v:Nat):Int)+(j:Int))=((Ve n w v * cnt n v+j:Nat):Int):=by
    rw [← Int.natCast_add]
    exact Zq (by omega)
   have r1:=Zce hyK.1.1 hyK.1.2
   have m1:Zgf N (((Zr long).1.1,(Zr long).1.2),(Zr long).2) ((y.1.1,y.1.2),y.2)=some (Zr (long * Z1 y)):=by
    have:=Z1x (Uv hlong) (r1.mono hyK.2) (hr.mono (by omega))
    rwa [Vm] at this
   have s1:qs (long * Z1 y)≤K+(K+1):=by
    have h4:=Zs2 long (Z1 y)
    have h5:=Zk8 hyK.1
    omega
   have a1:Zbx N (((Zr a).1.1,(Zr a).1.2),(Zr a).2) (((Zr (long * Z1 y)).1.1,(Zr (long * Z1 y)).1.2),(Zr (long * Z1 y)).2)=some (Zr (a+long * Z1 y)):=by
    have:=Znm (Uv ha) (Uv s1) (hr.mono (by omega))
    rwa [Vm,Vm] at this
   rw [if_pos (decide_eq_true (by rw [cnt] at hjc;omega)),Va [] (by rw [hf.ev.t];exact hv),Option.bind_some,e1,e2,Zuk hj,hy.1,Option.bind_some,m1,Option.bind_some,a1,Option.bind_some,
    Z5 (by simp only [List.length_singleton,maxLen];omega),Zq (x:=(j:Int)+1) (by omega)]
   have ih:=Zuq hr hv hl hlong l f (j+1) (a+long * Z1 y) (parts++[Wv (a,a+long * Z1 y)]) hy.2 (by omega) (by omega) hq.2 (fun p h=>hp p (List.mem_cons_of_mem _ h)) (by rw [List.length_append,List.length_singleton];omega)
   rw [List.append_assoc] at ih
   exact ih
theorem Zup (s:QV×QV) {v:Nat} (hv:v<n.2.1.length) (hps:(n.2.2.2.1.getD v []).length≤1048576):∀ (f i r k:Nat),i≤(n.2.2.2.1.getD v []).length→(n.2.2.2.1.getD v []).length<f+i→r<k→k≤65536→Yh n.2.2.1 ((n.2.2.2.1.getD v []).drop i) k≤65536→
  Zd9 N n (v:Int) w s f (i:Int) (r:Int)=(Zdi N ((s.2.1.1,s.2.1.2),s.2.2) ((s.1.1.1,s.1.1.2),s.1.2)).bind fun d=>Zb5 N n (v:Int) (Q3 n w ((n.2.2.2.1.getD v []).drop i) r:Int) d N ([]:List (QV×QV)) s.1.1.1 s.1.1.2 s.1.2 0
 | 0,i,r,k,h1,h2,_,_,_=>by omega
 | f+1,i,r,k,h1,h2,g1,g2,g3=>by
  rw [Zd9.eq_2,Va [] (by rw [hf.ev.p];exact hv),Option.bind_some]
  by_cases hi:i<(n.2.2.2.1.getD v []).length
  ·have hp:∀ q ∈ (n.2.2.2.1.getD v []).drop i,0≤q∧q<(n.2.1.length:Int):=fun q hq=>hf.pars hv q (List.mem_of_mem_drop hq)
   rw [List.drop_eq_getElem_cons hi] at g3 hp ⊢
   obtain ⟨c1,c2,c3⟩:=Zno hf.ev hw hp g1 g2 g3
   generalize he:(n.2.2.2.1.getD v [])[i]=p at *
   have hpp:=hp p List.mem_cons_self
   have hwp:=hw.ok p.toNat (by rw [hw.len];omega)
   have g4:r * cnt n p.toNat≤k * cnt n p.toNat:=Nat.mul_le_mul_right _ (by omega)
   have q1:Zk n.2.2.1 p=some (n.2.2.1.getD p.toNat []):=by
    have:=Va (l:=n.2.2.1) [] (j:=p.toNat) (by rw [hf.ev.v];omega)
    rwa [show ((p.toNat:Nat):Int)=p by omega] at this
   have q2:Zk w p=some (w.getD p.toNat 0):=by
    have:=Va (l:=w) 0 (j:=p.toNat) (by rw [hw.len];omega)
    rwa [show ((p.toNat:Nat):Int)=p by omega] at this
   have e1:i64.wrap ((r:Int) * ((n.2.2.1.getD p.toNat []).length:Int))=((r * cnt n p.toNat:Nat):Int):=by
    rw [show ((n.2.2.1.getD p.toNat []).length:Int)=((cnt n p.toNat:Nat):Int) from rfl,← Int.natCast_mul]
    exact Zq (by omega)
   have e2:i64.wrap (((r * cnt n p.toNat:Nat):Int)+w.getD p.toNat 0)=((r * cnt n p.toNat+(w.getD p.toNat 0).toNat:Nat):Int):=by
    rw [Int.natCast_add,show (((w.getD p.toNat 0).toNat:Nat):Int)=w.getD p.toNat 0 by omega]
    exact Zq (by omega)
   rw [if_pos (decide_eq_true (by omega)),Zv hi,he,Option.bind_some,q1,Option.bind_some,q2,Option.bind_some,e1,e2,wS (by omega)]
   exact Zup s hv hps f (i+1) _ _ (by omega) (by omega) c1 c2 c3
  ·rw [if_neg (by rw [decide_eq_false (by omega)];decide),List.drop_eq_nil_of_le (by omega)];rfl
end
section
variable {N W K:Nat} {n:Xx} (hf:Uk N n) (hs:U1 n W) (hr:Xd N (8 * K+40)) (hWK:W≤K) (hN:1048577<N)
include hf hs hr hWK hN
theorem Z17 {w:List Int} (hw:Vo n w) {v:Nat} (hv:v<n.2.1.length) {D M:Nat} {s:Rat×Rat} (hL:U0 D M s) (hK:(Ze M).length+(Ze D).length+(W+2)+2≤K):
  Zgw N n (v:Int) w (Wv s)=some ((Vr (s.2 - s.1) (Yb n w v) s.1).map Wv):=by
 obtain ⟨D',M',c1,c2,c3⟩:=Zmv hf hs hw hv hL
 have hrows:=hf.rows hv
 have hcl:cnt n v≤65536:=by have:=(hf.row hw hv).1;omega
 have hps:(n.2.2.2.1.getD v []).length≤1048576:=by
  rw [Yj (by rw [hf.ev.p];exact hv)]
  exact hs.pn.ls _ (List.getElem_mem _)
 have hsub:Zdi N (((Wv s).2.1.1,(Wv s).2.1.2),(Wv s).2.2) (((Wv s).1.1.1,(Wv s).1.1.2),(Wv s).1.2)=some (Zr (s.2 - s.1)):=by
  have:=Z10 (Uv hL.qb) (Uv hL.qa) (hr.mono (s:=2 * ((Ze M).length+(Ze D).length+2 * ((Ze M).length+(Ze D).length)+4)) (by omega))
  rwa [Vm,Vm] at this
 have h1:=Zup hf w hw (Wv s) hv hps N 0 0 1 (Nat.zero_le _) (by omega) (by omega) (by omega) hrows.2.2
 rw [show ((0:Nat):Int)=0 from rfl,List.drop_zero,hsub,Option.bind_some] at h1
 rw [Zgw,h1]
 have h3:=Zuq hf w hw hr hv (fun x hx=>by have:=Zmk hf hs hv x (Zkw hx);exact ⟨this.1,by omega⟩) (long:=s.2 - s.1) (by omega) (Yb n w v) N 0 s.1 [] rfl (Nat.zero_le _) (by omega) (by have:=hL.qa;omega) (fun p hp=>⟨by have:=(c2 p hp).qa;omega,by have:=(c2 p hp).qb;omega⟩) rfl
 rw [show ((0:Nat):Int)=0 from rfl,List.nil_append] at h3
 exact h3
end
theorem Z1n {N:Nat} (hr:Xd N 8):Ziw N=some (Wv (0,1)):=by
 rw [Ziw,Zu7 hr,Option.bind_some,Zu6 hr,Option.bind_some];rfl
theorem Zrl {l:List (Rat×Rat)} {j:Nat} (hj:j<l.length):Zk (l.map Wv) (j:Int)=some (Wv (l.getD j (0,0))):=by
 rw [Zv (by rw [List.length_map];exact hj),List.getElem_map,Yj hj]
theorem Zrq {l:List (Rat×Rat)} {j:Nat} (hj:j<l.length):l.getD j (0,0) ∈ l:=by rw [Yj hj];exact List.getElem_mem hj
def Zhv:Option R0:=
  some ((false,[1]),[1])
theorem Zwb {col:Zd} {w0:World} {r:R0} (c1 c2:Nat) (hm:Zhv=some r):
    Calls Tryz.prog 97 #[] w0 (fun e w'=>∃ (col':Zd) (ra1:Option Addr) (rc2:Nat) (ra4:Option Addr) (rc5:Nat),e= .returned ((.agg #[.bool r.1.1,.slice ra1 r.1.2.length rc2,.slice ra4 r.2.length rc5]))∧Zf col w0 col' w'∧Zc (Za.int .u32) 79 c1 col' w' ra1 rc2 r.1.2∧Zc (Za.int .u32) 79 c2 col' w' ra4 rc5 r.2):=by
 refine Yd (m:=5) func97 rfl rfl rfl ?_;rw [Zhv.eq_1] at hm;have aa:=St.start col w0;refine go ?_;refine Xp (col:=(Zi col)) #[.bool false,.slice none (([]:List Int).length) 0,.slice none (([]:List Int).length) 0] 1 zeroValue47 ?_;intro ao ap ai aj ab;refine go ?_;refine Wu (col:=ai) [1] 2 ?_;intro ag aq ak ah ac;refine lV (.agg #[.bool false,.slice ag ([1].length) 1]) (Ys (l:=[_,_]) (qs:=[(0,1),(1,1)]) underlying45 zeroValue45 ⟨rfl,sizeOf4,rfl,sizeOf43,trivial⟩ rfl)<|Wu (col:=ak) [1] 3 ?_;intro al ar au ad ae;refine lV (.agg #[.bool false,.slice ag ([1].length) 1,.slice al ([1].length) 1]) (Ys (l:=[_,_]) (qs:=[(0,2),(2,1)]) underlying47 zeroValue47 ⟨rfl,sizeOf45,rfl,sizeOf43,trivial⟩ rfl) ?_;replace ab:=(ab.gr ah).gr ad;refine Z7 ab ?_;intro av af am an;refine go ?_;cases hm;replace aa:=(((aa.grow aj).grow ah).grow ad).kp af am;replace ac:=(ac.gr ad).kp af;replace ae:=ae.kp af;exact ⟨rfl,_,ra an.atN,_,_,1,_,1,rfl,aa.fin (cm [(2,c1),(3,c2)]),aa.fo ac,aa.fo ae⟩
def Zew (aa:Int) (ad:Rh) (ab:List Int):Option Int:=
  (Zk ab aa).bind fun ac=>some ac
theorem Zv9 (col:Zd) (w0:World) (qc2:Nat) (hqqc2:qc2≠0) (af:Int) (a1:Option Addr) (ag:Nat) (ab:Rh) (g2:Nat) (ac:List Int) (ah:Option Addr) (ai:Nat) (h1:Sl (Za.pair (Za.pair (Za.pair Za.bool (Za.slice (Za.int .u32))) (Za.slice (Za.int .u32))) (Za.pair (Za.pair Za.bool (Za.slice (Za.int .u32))) (Za.slice (Za.int .u32)))) col w0 a1 ag ab) (aa:Sl (Za.int .i64) col w0 ah ai ac) (hb2:Zn 40 qc2 col w0 g2 #[.slice ah ac.length ai]) (r:Int) (hm:Zew af ab ac=some r):
    Calls Tryz.prog 91 #[.int .i64 af,.slice a1 ab.length ag,.pointer (some ⟨g2,0,none⟩)] w0 (fun e w'=>e= .returned ((.int .i64 r))∧Below w0.heap.size w0 w'):=by
 refine Xb 5 (m:=10) func91 rfl rfl rfl rfl rfl ?_;rw [Zew.eq_1] at hm;have ad:=St.start col w0;replace hb2:=hb2.start0 hqqc2;refine go ?_;refine lW hb2.at1<|Xu rfl ?_;obtain ⟨aj,ae,hm⟩:=bZ hm;replace aa:=aa.keep (Zj.start col w0);refine lI ae ((aa.ks ad).addr ae)<|lW ((aa.ks ad).atInt ae) ?_;refine go ?_;cases hm;exact ⟨rfl,rfl,ad.below⟩
def Zcu (N:Nat) (ai:R1) (aj:List Int) (ap:Bool) (aq:List Int) (ar:List Int) (au:Bool) (av:List Int) (aw:List Int) (ak:List Int) (kk_L1:(Bool→R2→R2→Bool→R2→R2→R2→Bool→R2→R2→Bool→R2→R2→R2→Option Rd)) (ab:Int) (ax:Int) (ae:R0) (ay:List ByteArray):Nat→Bool→R2→R2→Rh→Int→Option Rd
  | 0,_,_,_,_,_=>none
  | az+1,af,ag,ah,ad,al=>if (decide (al<(ay.length:Int)))=true then ((Zk ai.2.2.2.2 ab).bind fun a0=>(Zk ai.2.2.1 ab).bind fun a1=>(Zk a0 (i64.wrap ((i64.wrap (ax * (a1.length:Int)))+al))).bind fun am=>(Ze9 N ((ae.1.1,ae.1.2),ae.2) ((am.1.1,am.1.2),am.2)).bind fun an=>(Zac N ((af,ag),ah) ((an.1.1,an.1.2),an.2)).bind fun aa=>Zx ((ad.length+[(((af,ag),ah),((aa.1.1,aa.1.2),aa.2))].length) * 112≤140737488355328∧ad.length+[(((af,ag),ah),((aa.1.1,aa.1.2),aa.2))].length≤maxLen) ((Zcu N ai aj ap aq ar au av aw ak kk_L1 ab ax ae ay az) aa.1.1 aa.1.2 aa.2 (ad++[(((af,ag),ah),((aa.1.1,aa.1.2),aa.2))]) (i64.wrap (al+1)))) else ((Zew ab ad aj).bind fun ao=>if (decide (ao<0))=true then (some (([]:List Int),(((false,([]:List Int)),([]:List Int)),((false,([]:List Int)),([]:List Int))),false)) else ((Zk ad ao).bind fun ac=>(Zk ak ab).bind fun a3=>(some (ak.set (Int.toNat ab) ao)).bind fun a2=>kk_L1 ac.1.1.1 ac.1.1.2 ac.1.2 ac.2.1.1 ac.2.1.2 ac.2.2 aj ap aq ar au av aw a2))
termination_by structural x=>x
def Q9 (N:Nat) (aa:R1) (ab:Bool) (ac:List Int) (ad:List Int) (ah:Bool) (ai:List Int) (aj:List Int) (ak:List Int) (al:Bool) (am:List Int) (an:List Int) (ao:Bool) (ap:List Int) (aq:List Int) (ae:List Int) (kk_L1:(Bool→R2→R2→Bool→R2→R2→R2→Bool→R2→R2→Bool→R2→R2→R2→Option Rd)) (af:Int):List Int→Int→Option Rd
  | [],ag=>(Zfb N ((ah,ai),aj) ((ab,ac),ad)).bind fun au=>(Zk aa.2.2.1 af).bind fun av=>Zcu N aa ak al am an ao ap aq ae kk_L1 af ag au av N ab ac ad ([]:List (R0×R0)) 0
  | ar :: aw,ag=>(Zk aa.2.2.1 ar).bind fun ax=>(Zk ae ar).bind fun ay=>(Q9 N aa ab ac ad ah ai aj ak al am an ao ap aq ae kk_L1 af aw) (i64.wrap ((i64.wrap (ag * (ax.length:Int)))+ay))
termination_by structural x=>x
def Su (N:Nat) (aa:R1):List Int→Bool→R2→R2→Bool→R2→R2→R2→Bool→R2→R2→Bool→R2→R2→R2→Option Rd
  | [],ab,ac,ad,ae,af,ag,ai,aj,ak,al,am,an,ao,ah=>some (ah,(((ab,ac),ad),((ae,af),ag)),true)
  | ap :: aq,ab,ac,ad,ae,af,ag,ai,aj,ak,al,am,an,ao,ah=>(Zk aa.2.2.2.1 ap).bind fun ar=>Q9 N aa ab ac ad ae af ag ai aj ak al am an ao ah (Su N aa aq) ap ar 0
termination_by structural x=>x
def Zey (N:Nat) (aa:R1) (ad:List Int) (ae:List Int):Option Rd:=
  Zx (aa.2.1.length * 8≤281474976710656∧aa.2.1.length≤maxLen) ((Zcv N ([]:List R0)).bind fun ab=>(Zhv).bind fun ac=>Su N aa ad ab.1.1 ab.1.2 ab.2 ac.1.1 ac.1.2 ac.2 ae false ([]:List Int) ([]:List Int) false ([]:List Int) ([]:List Int) (List.replicate aa.2.1.length (0:Int)))
theorem Zwa {N dx c5 dy c6 fl g3 fm:Nat} {dz cr d0 ct a1 fn:Option Addr} {col:Zd} {w0:World} {ag:R1} {c7 el:R2} {r:Rd} (c1 qc3:Nat) (hm:Zey N ag c7 el=some r) (hqqc3:qc3≠0) (i3:Sl Za.str col w0 dz dx ag.2.1) (cu:Sl (Za.slice Za.str) col w0 cr c5 ag.2.2.1) (eb:Sl (Za.slice (Za.int .i64)) col w0 d0 dy ag.2.2.2.1) (ec:Sl (Za.slice (Za.pair (Za.pair Za.bool (Za.slice (Za.int .u32))) (Za.slice (Za.int .u32)))) col w0 ct c6 ag.2.2.2.2) (h1:Sl (Za.int .i64) col w0 a1 fl c7) (em:Sl (Za.int .i64) col w0 fn fm el) (hb3:Zn 40 qc3 col w0 g3 #[.slice fn el.length fm]):
    Calls Tryz.prog 90 #[(.agg #[.string ag.1,.slice dz ag.2.1.length dx,.slice cr ag.2.2.1.length c5,.slice d0 ag.2.2.2.1.length dy,.slice ct ag.2.2.2.2.length c6]),.slice a1 c7.length fl,(.func (.func 91) #[] #[.pointer (some ⟨g3,0,none⟩)])] w0 (fun e w'=>∃ (col':Zd) (ra1:Option Addr) (rc2:Nat) (ra4:Option Addr) (rc5:Nat) (ra7:Option Addr) (rc8:Nat) (ra10:Option Addr) (rc11:Nat) (ra13:Option Addr) (rc14:Nat),e= .returned (.tuple #[.slice ra1 r.1.length rc2,(.agg #[.bool r.2.1.1.1.1,.slice ra4 r.2.1.1.1.2.length rc5,.slice ra7 r.2.1.1.2.length rc8,.bool r.2.1.2.1.1,.slice ra10 r.2.1.2.1.2.length rc11,.slice ra13 r.2.1.2.2.length rc14]),.bool r.2.2])∧Zf col w0 col' w'∧Zc (Za.int .i64) 3 c1 col' w' ra1 rc2 r.1∧Sl (Za.int .u32) col' w' ra4 rc5 r.2.1.1.1.2∧Sl (Za.int .u32) col' w' ra7 rc8 r.2.1.1.2∧Sl (Za.int .u32) col' w' ra10 rc11 r.2.1.2.1.2∧Sl (Za.int .u32) col' w' ra13 rc14 r.2.1.2.2):=by
 refine Yd (m:=122) func90 rfl rfl rfl ?_;rw [Zey.eq_1] at hm;have aa:=St.start col w0;replace hb3:=hb3.start0 hqqc3;refine go ?_;refine Xh (col:=(Zi col)) 1 rfl ?_;intro d1 i4 fu fp ab;refine T5 rfl<|Xp (col:=fu) #[.bool false,.slice none (([]:List Int).length) 0,.slice none (([]:List Int).length) 0,.bool false,.slice none (([]:List Int).length) 0,.slice none (([]:List Int).length) 0] 2 zeroValue49 ?_;intro en fv fw eo ac;refine go ?_;refine Z3 ⟨_,_,rfl⟩ ?_;replace ab:=ab.gr eo;refine lW ((ab.atN).nth (q:=1) rfl)<|go ?_;obtain ⟨fq,hm⟩:=Zz hm;refine Qd (col:=fw) (w:=fv) (r:=(Za.int .i64)) (n:=ag.2.1.length) (x0:=0) 3 rfl underlying40 Tryz.t3 rfl rfl rfl rfl rfl rfl rfl fq.1 fq.2 (Za4 .i64 0) ?_;intro i5 i6 fx ed bu;refine go ?_;obtain ⟨ep,fy,hm⟩:=bZ hm;refine Zh (Zok (col:=fx) 4 5 fy Sl.nil) ?_;rintro _ i7 ⟨fz,f0,f1,f2,f3,rfl,d2,bv,bw⟩;refine ⟨_,rfl,?_⟩;obtain ⟨eq,f4,hm⟩:=bZ hm;refine lc rfl rfl (Zcc call97) (Zwb (col:=fz) 6 7 f4:) ?_;rintro _ i8 ⟨f5,f6,f7,f8,f9,rfl,c8,bx,bz⟩;refine ⟨_,rfl,?_⟩;refine lV (.agg #[.bool ep.1.1,.slice f0 ep.1.2.length f1,.slice f2 ep.2.length f3,.bool eq.1.1,.slice f6 eq.1.2.length f7,.slice f8 eq.2.length f9]) (Ys (l:=[_,_]) (qs:=[(0,3),(3,3)]) underlying49 zeroValue49 ⟨rfl,sizeOf47,rfl,sizeOf47,trivial⟩ rfl)<|Xp (col:=f5) #[.bool false,.slice none (([]:List Int).length) 0,.slice none (([]:List Int).length) 0,.bool false,.slice none (([]:List Int).length) 0,.slice none (([]:List Int).length) 0] 8 zeroValue49 ?_;intro er i9 ja cg ga;refine Z7 ga ?_;intro jb ch gb ad;refine go ?_;replace bu:=(((bu.gr d2).gr c8).gr cg).kp ch;replace bu:=bu.froz 4 (by decide);replace bv:=((bv.gr c8).gr cg).kp ch;replace bv:=(bv).toSlF (Zm.int .u32);replace bw:=((bw.gr c8).gr cg).kp ch;replace bw:=bw.froz 4 (by decide);replace bx:=(bx.gr cg).kp ch;replace bx:=bx.froz 4 (by decide);replace bz:=(bz.gr cg).kp ch;replace bz:=bz.froz 4 (by decide);replace hb3:=((((((hb3.gr fp).gr eo).gr ed).gr d2).gr c8).gr cg).kp ch;replace hb3:=hb3.froz 4 (by decide);replace ab:=((((ab.gr ed).gr d2).gr c8).gr cg).kp ch;replace ab:=ab.froz 4 (by decide);replace ac:=((((ac.gr ed).gr d2).gr c8).gr cg).kp ch;replace ac:=ac.froz 4 (by decide);replace ad:=ad.froz 4 (by decide)
 replace aa:=((((((aa.grow fp).grow eo).grow ed).grow d2).grow c8).grow cg).kp ch gb;replace aa:=aa.froz 4 (by decide) (by decide);replace bu:=bu.froz 5 (by decide);replace bv:=bv.froz 5;replace bw:=(bw).toSlF (Zm.int .u32);replace bx:=bx.froz 5 (by decide);replace bz:=bz.froz 5 (by decide);replace hb3:=hb3.froz 5 (by decide);replace ab:=ab.froz 5 (by decide);replace ac:=ac.froz 5 (by decide);replace ad:=ad.froz 5 (by decide);replace aa:=aa.froz 5 (by decide) (by decide);replace bu:=bu.froz 6 (by decide);replace bv:=bv.froz 6;replace bw:=bw.froz 6;replace bx:=(bx).toSlF (Zm.int .u32);replace bz:=bz.froz 6 (by decide);replace hb3:=hb3.froz 6 (by decide);replace ab:=ab.froz 6 (by decide);replace ac:=ac.froz 6 (by decide);replace ad:=ad.froz 6 (by decide);replace aa:=aa.froz 6 (by decide) (by decide);replace bu:=bu.froz 7 (by decide);replace bv:=bv.froz 7;replace bw:=bw.froz 7;replace bx:=bx.froz 7;replace bz:=(bz).toSlF (Zm.int .u32);replace hb3:=hb3.froz 7 (by decide);replace ab:=ab.froz 7 (by decide);replace ac:=ac.froz 7 (by decide);replace ad:=ad.froz 7 (by decide);replace aa:=aa.froz 7 (by decide) (by decide);replace em:=em.keep (Zj.start col w0)
 refine Zw [10,2,29,3,30,7,1000000] (fun n f bh=>∃ a6 cv ci cj b0 ck cl b1 c9 cw cx b3 cy cz b4 c0 c2 b2 d3 da db dc b5 dd de b6 df dg dh b7 di dj b8 dk dl b9 d4,n=d4.length∧c7.drop d3=d4∧Su N ag d4 cv b0 b1 c9 b3 b4 b2 da b5 b6 df b7 b8 b9=some r∧St w0 (Zi col) a6 bh∧Sl (Za.int .u32) a6 bh ci cj b0∧Sl (Za.int .u32) a6 bh ck cl b1∧Sl (Za.int .u32) a6 bh cw cx b3∧Sl (Za.int .u32) a6 bh cy cz b4∧Zn 49 8 a6 bh er #[.bool cv,.slice ci b0.length cj,.slice ck b1.length cl,.bool c9,.slice cw b3.length cx,.slice cy b4.length cz]∧Sl (Za.int .i64) a6 bh c0 c2 b2∧Zn 40 999 a6 bh g3 #[.slice c0 b2.length c2]∧Zn 27 1 a6 bh d1 #[.string ag.1,.slice dz ag.2.1.length dx,.slice cr ag.2.2.1.length c5,.slice d0 ag.2.2.2.1.length dy,.slice ct ag.2.2.2.2.length c6]∧Zc (Za.int .u32) 79 9 a6 bh db dc b5∧Zc (Za.int .u32) 79 10 a6 bh dd de b6∧Zc (Za.int .u32) 79 11 a6 bh dg dh b7∧Zc (Za.int .u32) 79 12 a6 bh di dj b8∧Zn 49 2 a6 bh en #[.bool da,.slice db b5.length dc,.slice dd b6.length de,.bool df,.slice dg b7.length dh,.slice di b8.length dj]∧Zc (Za.int .i64) 3 3 a6 bh dk dl b9∧[31,9].map f=[.int .i64 d3,.slice dk b9.length dl]) c7.length ⟨_,_,_,_,_,_,_,_,_,_,_,_,_,_,_,_,_,_,0,_,none,0,_,none,0,_,_,none,0,_,none,0,_,_,_,_,_,rfl,rfl,hm,aa,bv,bw,bx,bz,ad,(em.ks aa),hb3,ab,Zc.nil,Zc.nil,Zc.nil,Zc.nil,ac,bu,rfl⟩ ?_;clear hm;intro n f bh hI;obtain ⟨a6,cv,ci,cj,b0,ck,cl,b1,c9,cw,cx,b3,cy,cz,b4,c0,c2,b2,d3,da,db,dc,b5,dd,de,b6,df,dg,dh,b7,di,dj,b8,dk,dl,b9,d4,hn,hl,hm,aa,ai,aj,ak,al,ad,am,hb3,ab,an,ao,ap,aq,ac,ah,hs⟩:=hI;subst hn;refine .lL [31,9] hs ?_;replace cu:=cu.keep (Zj.start col w0);replace eb:=eb.keep (Zj.start col w0);replace ec:=ec.keep (Zj.start col w0);replace h1:=h1.keep (Zj.start col w0)
 cases d4 with
 | nil=>
  have hk:¬ ((d3:Int)<(c7.length:Int)):=by have:=List.drop_eq_nil_iff.1 hl;omega
  have hkb:=decide_eq_false hk;rw [Su.eq_1] at hm;refine go ?_;refine Yz (congrArg Value.bool hkb)<|go ?_;refine Wa (col:=a6) [(0,1),(1,0),(2,1),(3,2),(4,1)] (by kernel_rfl) (by kernel_rfl)<|xu rfl rfl (fun _=>Vs rfl) ?_;refine xv rfl rfl (fun _ hC=>Xj isAgg49 sizeOf49 (ad.gr (hC.bl a6))) ?_;refine xu rfl rfl (fun _=>r_aS rfl) ?_;refine xe rfl rfl ?_;intro jc hC0;have hC:=hC0.bl a6;replace ac:=ac.gr hC;refine Z7 ac ?_;intro jd du gc es;refine Zl<|xk a6<|xu rfl rfl (fun _=>Zi6 rfl) ?_;refine Y1 ?_;replace ai:=(ai.gr hC).kp du;replace aj:=(aj.gr hC).kp du;replace ak:=(ak.gr hC).kp du;replace al:=(al.gr hC).kp du;replace ah:=(ah.gr hC).kp du;replace aa:=(aa.grow hC).kp du gc;intro je hC;replace hC:=hC.bl a6;refine Y4 ?_;cases hm;replace ai:=ai.gr hC;replace aj:=aj.gr hC;replace ak:=ak.gr hC;replace al:=al.gr hC;replace ah:=ah.gr hC;replace es:=es.gr hC;replace aa:=aa.grow hC;exact ⟨rfl,_,Zty rfl rfl rfl rfl isAgg49 sizeOf49 rfl rfl es.atN rfl rfl,_,_,_,_,_,_,_,_,_,_,_,rfl,aa.fin (cm [(3,c1)]),aa.fo ah,aa.fs ai,aa.fs aj,aa.fs ak,aa.fs al⟩
 | cons c3 et=>
  obtain ⟨dm,gd,ge⟩:=Y8 hl;have hk:(d3:Int)<(c7.length:Int):=by omega
  have hkb:=decide_eq_true hk;rw [Su.eq_2] at hm;refine go ?_;refine Y0 (congrArg Value.bool hkb)<|go ?_;refine lI dm ((h1.ks aa).addr dm)<|lW ((h1.ks aa).atInt dm) ?_;refine go ?_;refine Z9 ab<|Xu rfl ?_;obtain ⟨d5,eu,hm⟩:=bZ hm;refine lI eu ((eb.ks aa).addr eu) ?_;obtain ⟨_,gf,gg⟩:=(eb.ks aa).atN eu;obtain ⟨⟨gh,gi,rfl,c4⟩,_⟩:=gf;refine lW gg.one<|go ?_;refine Zw [10,12,2,29,3,30,31,39,40,7,9,1000000] (fun n f be=>∃ a2 ca d6 d7,n=d7.length∧d5.drop d6=d7∧Q9 N ag cv b0 b1 c9 b3 b4 b2 da b5 b6 df b7 b8 b9 (Su N ag et) c3 d7 ca=some r∧St w0 (Zi col) a2 be∧Sl (Za.int .u32) a2 be ci cj b0∧Sl (Za.int .u32) a2 be ck cl b1∧Sl (Za.int .u32) a2 be cw cx b3∧Sl (Za.int .u32) a2 be cy cz b4∧Zn 49 8 a2 be er #[.bool cv,.slice ci b0.length cj,.slice ck b1.length cl,.bool c9,.slice cw b3.length cx,.slice cy b4.length cz]∧Sl (Za.int .i64) a2 be c0 c2 b2∧Zn 40 999 a2 be g3 #[.slice c0 b2.length c2]∧Zn 27 1 a2 be d1 #[.string ag.1,.slice dz ag.2.1.length dx,.slice cr ag.2.2.1.length c5,.slice d0 ag.2.2.2.1.length dy,.slice ct ag.2.2.2.2.length c6]∧Sl (Za.int .i64) a2 be gh gi d5∧Zc (Za.int .u32) 79 9 a2 be db dc b5∧Zc (Za.int .u32) 79 10 a2 be dd de b6∧Zc (Za.int .u32) 79 11 a2 be dg dh b7∧Zc (Za.int .u32) 79 12 a2 be di dj b8∧Zn 49 2 a2 be en #[.bool da,.slice db b5.length dc,.slice dd b6.length de,.bool df,.slice dg b7.length dh,.slice di b8.length dj]∧Zc (Za.int .i64) 3 3 a2 be dk dl b9∧[41,13].map f=[.int .i64 d6,.int .i64 ca]) d5.length ⟨_,0,0,_,rfl,rfl,hm,aa,ai,aj,ak,al,ad,am,hb3,ab,c4,an,ao,ap,aq,ac,ah,rfl⟩ ?_;clear hm;intro n f be hI;obtain ⟨a2,ca,d6,d7,hn,hl,hm,aa,ai,aj,ak,al,ad,am,hb3,ab,c4,an,ao,ap,aq,ac,ah,hs⟩:=hI;subst hn;refine .lL [41,13] hs ?_
  cases d7 with
  | nil=>
   have hk:¬ ((d6:Int)<(d5.length:Int)):=by have:=List.drop_eq_nil_iff.1 hl;omega
   have hkb:=decide_eq_false hk;rw [Q9.eq_1] at hm;refine go ?_;refine Yz (congrArg Value.bool hkb)<|go ?_;refine Z3 ⟨_,_,rfl⟩ ?_;refine lV (.agg #[.bool c9,.slice cw b3.length cx,.slice cy b4.length cz]) (Xq isAgg47 sizeOf47 rfl rfl ((ad.atN).part 3 3 _ rfl))<|Z3 ⟨_,_,rfl⟩ ?_;refine lV (.agg #[.bool cv,.slice ci b0.length cj,.slice ck b1.length cl]) (Xq isAgg47 sizeOf47 rfl rfl ((ad.atN).part 0 3 _ rfl)) ?_;obtain ⟨cn,gj,hm⟩:=bZ hm;refine Zh (Zwl 13 14 gj ak al ai aj) ?_;rintro _ jf ⟨gk,ew,ey,ez,e0,rfl,bj,a9,ba⟩;refine ⟨_,rfl,?_⟩;refine Xp (col:=gk) #[.bool false,.slice none (([]:List Int).length) 0,.slice none (([]:List Int).length) 0] 15 zeroValue47 ?_;intro gl jg gm bf gp;refine Z7 gp ?_;intro jh bg gs a3;refine go ?_;refine Z3 ⟨_,_,rfl⟩ ?_;replace ad:=((ad.gr bj).gr bf).kp bg;refine lV (.agg #[.bool cv,.slice ci b0.length cj,.slice ck b1.length cl]) (Xq isAgg47 sizeOf47 rfl rfl ((ad.atN).part 0 3 _ rfl))<|Xp (col:=gm) #[.bool false,.slice none (([]:List Int).length) 0,.slice none (([]:List Int).length) 0] 16 zeroValue47 ?_;intro gt ji jj bc gu;refine Z7 gu ?_;intro jk bd gv a7;refine go ?_;refine Z3 ⟨_,_,rfl⟩ ?_;replace ab:=((((ab.gr bj).gr bf).kp bg).gr bc).kp bd;refine lW ((ab.atN).nth (q:=2) rfl)<|Xu rfl ?_;obtain ⟨gw,e1,hm⟩:=bZ hm;replace aa:=((((aa.grow bj).grow bf).kp bg gs).grow bc).kp bd gv;refine lI e1 ((cu.ks aa).addr e1) ?_;obtain ⟨_,gx,gy⟩:=(cu.ks aa).atN e1;obtain ⟨⟨jl,jm,rfl,jn⟩,_⟩:=gx;refine lW gy.one<|go ?_;replace ai:=((((ai.gr bj).gr bf).kp bg).gr bc).kp bd;replace aj:=((((aj.gr bj).gr bf).kp bg).gr bc).kp bd;replace ak:=((((ak.gr bj).gr bf).kp bg).gr bc).kp bd;replace al:=((((al.gr bj).gr bf).kp bg).gr bc).kp bd;replace am:=((((am.gr bj).gr bf).kp bg).gr bc).kp bd;replace an:=((((an.gr bj).gr bf).kp bg).gr bc).kp bd;replace ao:=((((ao.gr bj).gr bf).kp bg).gr bc).kp bd;replace ap:=((((ap.gr bj).gr bf).kp bg).gr bc).kp bd;replace aq:=((((aq.gr bj).gr bf).kp bg).gr bc).kp bd;replace ah:=((((ah.gr bj).gr bf).kp bg).gr bc).kp bd;replace hb3:=((((hb3.gr bj).gr bf).kp bg).gr bc).kp bd
   replace ac:=((((ac.gr bj).gr bf).kp bg).gr bc).kp bd;replace a9:=(((a9.gr bf).kp bg).gr bc).kp bd;replace ba:=(((ba.gr bf).kp bg).gr bc).kp bd;replace ad:=(ad.gr bc).kp bd;replace a3:=(a3.gr bc).kp bd;refine Zw [10,12,13,16,17,2,29,3,30,31,7,71,9,1000000] (fun n f af=>∃ ae cb dn dp cc dq dr cd ee ef d8 ds dv,dv=n∧Zcu N ag b2 da b5 b6 df b7 b8 b9 (Su N ag et) c3 ca cn gw dv cb cc cd d8 ds=some r∧St w0 (Zi col) ae af∧Sl (Za.int .u32) ae af ci cj b0∧Sl (Za.int .u32) ae af ck cl b1∧Sl (Za.int .u32) ae af cw cx b3∧Sl (Za.int .u32) ae af cy cz b4∧Zn 49 8 ae af er #[.bool cv,.slice ci b0.length cj,.slice ck b1.length cl,.bool c9,.slice cw b3.length cx,.slice cy b4.length cz]∧Zc (Za.int .u32) 79 13 ae af ew ey cn.1.2∧Zc (Za.int .u32) 79 14 ae af ez e0 cn.2∧Zn 47 15 ae af gl #[.bool cn.1.1,.slice ew cn.1.2.length ey,.slice ez cn.2.length e0]∧Sl (Za.int .u32) ae af dn dp cc∧Sl (Za.int .u32) ae af dq dr cd∧Zn 47 16 ae af gt #[.bool cb,.slice dn cc.length dp,.slice dq cd.length dr]∧Zc (Za.pair (Za.pair (Za.pair Za.bool (Za.slice (Za.int .u32))) (Za.slice (Za.int .u32))) (Za.pair (Za.pair Za.bool (Za.slice (Za.int .u32))) (Za.slice (Za.int .u32)))) 49 17 ae af ee ef d8∧Sl (Za.int .i64) ae af c0 c2 b2∧Zn 40 999 ae af g3 #[.slice c0 b2.length c2]∧Zn 27 1 ae af d1 #[.string ag.1,.slice dz ag.2.1.length dx,.slice cr ag.2.2.1.length c5,.slice d0 ag.2.2.2.1.length dy,.slice ct ag.2.2.2.2.length c6]∧Zc (Za.int .u32) 79 9 ae af db dc b5∧Zc (Za.int .u32) 79 10 ae af dd de b6∧Zc (Za.int .u32) 79 11 ae af dg dh b7∧Zc (Za.int .u32) 79 12 ae af di dj b8∧Zn 49 2 ae af en #[.bool da,.slice db b5.length dc,.slice dd b6.length de,.bool df,.slice dg b7.length dh,.slice di b8.length dj]∧Zc (Za.int .i64) 3 3 ae af dk dl b9∧[18,72].map f=[.slice ee d8.length ef,.int .i64 ds]) N ⟨_,_,_,_,_,_,_,_,none,0,_,0,_,rfl,hm,aa,ai,aj,ak,al,ad,a9,ba,a3,ai,aj,a7,Zc.nil,am,hb3,ab,an,ao,ap,aq,ac,ah,rfl⟩ ?_;clear hm;intro n f af hI
   obtain ⟨ae,cb,dn,dp,cc,dq,dr,cd,ee,ef,d8,ds,dv,hn,hm,aa,ai,aj,ak,al,ad,a9,ba,a3,bm,bn,a7,bb,am,hb3,ab,an,ao,ap,aq,ac,ah,hs⟩:=hI;subst hn;refine .lL [18,72] hs ?_
   cases dv with
   | zero=>rw [Zcu.eq_1] at hm;cases hm
   | succ dv=>
    rw [Zcu.eq_2] at hm;refine go ?_;refine Zp hm (fun hb hm=>go ?_) fun hb hm=>go ?_
    ·have a4:=Z2.clip (fun _=>false) ae af;refine Zha (col:=ae) [(0,0),(1,0),(2,1),(3,0),(4,1),(5,1),(6,0),(7,1),(8,1),(9,0),(10,1),(11,1),(12,0),(13,1),(14,1),(15,1),(16,1),(17,1),(18,0),(19,3),(20,3),(21,4),(22,2)] (by kernel_rfl) (by kernel_rfl) ⟨fun h=>absurd h (by decide),fun h=>absurd h (by decide),fun h=>absurd h (by decide),fun h=>absurd h (by decide),fun h=>absurd h (by decide),fun h=>absurd h (by decide),fun h=>absurd h (by decide),fun h=>absurd h (by decide),fun h=>absurd h (by decide),fun h=>absurd h (by decide),fun h=>absurd h (by decide),fun h=>absurd h (by decide),fun h=>absurd h (by decide),fun h=>absurd h (by decide),fun h=>absurd h (by decide),fun h=>absurd h (by decide),fun h=>absurd h (by decide),fun h=>absurd h (by decide),fun h=>absurd h (by decide),fun h=>absurd h (by decide),fun h=>absurd h (by decide),fun _=>⟨_,_,_,rfl,T4 zeroValue47⟩,fun h=>absurd h (by decide),trivial⟩ ?_;replace a7:=a7.kpp a4;refine Wm (v:=(.agg #[.bool cb,.slice dn cc.length dp,.slice dq cd.length dr])) rfl rfl (fun _ hC=>Xq isAgg47 sizeOf47 rfl rfl (a7.atN.gr (hC.bl (Zg af ae)))) ?_;replace a3:=a3.kpp a4;refine Wm (v:=(.agg #[.bool cn.1.1,.slice ew cn.1.2.length ey,.slice ez cn.2.length e0])) rfl rfl (fun _ hC=>Xq isAgg47 sizeOf47 rfl rfl (a3.atN.gr (hC.bl (Zg af ae)))) ?_;refine Y5 (v:=(.pointer ((some (⟨d1,0,none⟩:Addr)).map (·.add 4)))) rfl rfl (fun _=>U7 (sz:=1) (off:=4) underlying27 rfl sizeOf25 (by decide) rfl rfl ⟨_,_,rfl⟩) ?_;replace ab:=ab.kpp a4;refine Wm (v:=(.slice ct ag.2.2.2.2.length c6)) rfl rfl (fun _ hC=>Sk isAgg25 rfl (((ab.atN).nth (q:=4) (v:=(.slice ct ag.2.2.2.2.length c6)) rfl).gr (hC.bl (Zg af ae)))) ?_;refine Y5 (v:=(.int .i64 c3)) rfl rfl (fun _=>Vt rfl) ?_;obtain ⟨gz,eg,hm⟩:=bZ hm;replace aa:=aa.kpp a4;refine Y5 (v:=(X1 ct (Int.toNat c3 * 1))) rfl rfl (fun _=>Y3 underlying25 sizeOf56 rfl rfl (Xl eg).1 (Xl eg).2.1 ((ec.ks aa).addr eg)) ?_;obtain ⟨_,g0,g1⟩:=(ec.ks aa).atN eg;obtain ⟨⟨fr,g2,rfl,ft⟩,_⟩:=g0;refine Wm (v:=(.slice fr gz.length g2)) rfl rfl (fun _ hC=>Sk isAgg56 rfl (g1.one.gr (hC.bl (Zg af ae)))) ?_;refine Y5 (v:=(.int .i64 ca)) rfl rfl (fun _=>Vt rfl) ?_;refine Y5 (v:=(.pointer ((some (⟨d1,0,none⟩:Addr)).map (·.add 2)))) rfl rfl (fun _=>U7 (sz:=1) (off:=2) underlying27 rfl sizeOf23 (by decide) rfl rfl ⟨_,_,rfl⟩) ?_
     refine Wm (v:=(.slice cr ag.2.2.1.length c5)) rfl rfl (fun _ hC=>Sk isAgg23 rfl (((ab.atN).nth (q:=2) (v:=(.slice cr ag.2.2.1.length c5)) rfl).gr (hC.bl (Zg af ae)))) ?_;refine Y5 (v:=(.int .i64 c3)) rfl rfl (fun _=>Vt rfl) ?_;obtain ⟨dt,eh,hm⟩:=bZ hm;refine Y5 (v:=(X1 cr (Int.toNat c3 * 1))) rfl rfl (fun _=>Y3 underlying23 sizeOf22 rfl rfl (Xl eh).1 (Xl eh).2.1 ((cu.ks aa).addr eh)) ?_;obtain ⟨_,g4,g5⟩:=(cu.ks aa).atN eh;obtain ⟨⟨g6,g7,rfl,jo⟩,_⟩:=g4;refine Wm (v:=(.slice g6 dt.length g7)) rfl rfl (fun _ hC=>Sk isAgg22 rfl (g5.one.gr (hC.bl (Zg af ae)))) ?_;refine Y5 (v:=(.int .i64 dt.length)) rfl rfl (fun _=>To underlying22 rfl) ?_;refine Y5 (v:=(.int .i64 (i64.wrap (ca * (dt.length:Int))))) rfl rfl (fun _=>Zg5 ca (dt.length:Int) rfl rfl) ?_;refine Y5 (v:=(.int .i64 ds)) rfl rfl (fun _=>Vt rfl) ?_;refine Y5 (v:=(.int .i64 (i64.wrap ((i64.wrap (ca * (dt.length:Int)))+ds)))) rfl rfl (fun _=>S5 (i64.wrap (ca * (dt.length:Int))) ds rfl rfl) ?_;obtain ⟨e2,ei,hm⟩:=bZ hm;refine Y5 (v:=(X1 fr (Int.toNat (i64.wrap ((i64.wrap (ca * (dt.length:Int)))+ds)) * 3))) rfl rfl (fun _=>Y3 underlying56 sizeOf47 rfl rfl (Xl ei).1 (Xl ei).2.1 (ft.addr ei)) ?_;obtain ⟨_,g8,g9⟩:=ft.atN ei;obtain ⟨_,_,rfl,ha,hc⟩:=Yx g8;obtain ⟨_,_,rfl,hd,he⟩:=Yx ha;obtain ⟨rfl,_⟩:=hd;obtain ⟨⟨hf,hg,rfl,e3⟩,_⟩:=he;obtain ⟨⟨hh,hi,rfl,e4⟩,_⟩:=hc;refine Wm (v:=(.agg #[.bool e2.1.1,.slice hf e2.1.2.length hg,.slice hh e2.2.length hi])) rfl rfl (fun _ hC=>Xq isAgg47 sizeOf47 rfl rfl (g9.gr (hC.bl (Zg af ae)))) ?_;refine Wl rfl rfl ?_;intro hj hC0;have hC:=hC0.bl (Zg af ae);obtain ⟨jp,ho,hm⟩:=bZ hm;replace a9:=(a9.kpp a4).gr hC;replace ba:=(ba.kpp a4).gr hC;replace e3:=e3.gr hC;replace e4:=e4.gr hC;refine Zh (Zwh 18 19 ho ((a9.toSlF (Zm.int .u32)).froz 14) ((ba.froz 13 (by decide)).toSlF (Zm.int .u32)) ((e3.froz 13).froz 14) ((e4.froz 13).froz 14)) ?_;rintro _ ce ⟨hp,jq,jr,js,jt,rfl,ar,d9,ea⟩;refine ⟨_,rfl,?_⟩;replace d9:=d9.thaw (Zy .u32) ar (((Fz.refl (col:=(Zg af ae))).froz 13).froz 14) (by decide)
     replace ea:=ea.thaw (Zy .u32) ar (((Fz.refl (col:=(Zg af ae))).froz 13).froz 14) (by decide);replace ar:=ar.thawR (col:=(Zg af ae));generalize Xa hj.heap.size (Zg af ae) hp=co at *;refine Zl ?_;refine ⟨fun w'=>Zf (Zg ce co) ce (Zg ce co) w',fun g=>(Zg ce co) g=497,Zf.refl _ _,Wf,fun _=>⟨fun _ h=>Vb hC0 ar h,fun b hb=>ar.below.block b hb,fun g x1 x2=>Vj ar g x1 (by first | exact x2 | (simp only [Xn,x2];rfl) | (simp only [Xn,Xw,x2];rfl))⟩,?_⟩;have aw:=Z2.clip (fun _=>false) co ce;refine Wl rfl rfl ?_;intro hq hC0;replace ai:=(((ai.kpp a4).gr hC).gr ar).kpp aw;replace aj:=(((aj.kpp a4).gr hC).gr ar).kpp aw;replace ak:=(((ak.kpp a4).gr hC).gr ar).kpp aw;replace al:=(((al.kpp a4).gr hC).gr ar).kpp aw;replace bm:=(((bm.kpp a4).gr hC).gr ar).kpp aw;replace bn:=(((bn.kpp a4).gr hC).gr ar).kpp aw;replace bb:=(((bb.kpp a4).gr hC).gr ar).kpp aw;replace am:=(((am.kpp a4).gr hC).gr ar).kpp aw;replace an:=(((an.kpp a4).gr hC).gr ar).kpp aw;replace ao:=(((ao.kpp a4).gr hC).gr ar).kpp aw;replace ap:=(((ap.kpp a4).gr hC).gr ar).kpp aw;replace aq:=(((aq.kpp a4).gr hC).gr ar).kpp aw;replace ah:=(((ah.kpp a4).gr hC).gr ar).kpp aw;replace ad:=(((ad.kpp a4).gr hC).gr ar).kpp aw;replace hb3:=(((hb3.kpp a4).gr hC).gr ar).kpp aw;replace ac:=(((ac.kpp a4).gr hC).gr ar).kpp aw;replace a3:=((a3.gr hC).gr ar).kpp aw;replace a7:=((a7.gr hC).gr ar).kpp aw;replace ab:=((ab.gr hC).gr ar).kpp aw;replace aa:=((aa.grow hC).grow ar).kpp aw;have hC:=hC0.bl (Zg ce co);obtain ⟨bi,hr,hm⟩:=bZ hm;replace d9:=(d9.kpp aw).gr hC;replace ea:=(ea.kpp aw).gr hC;replace bm:=bm.gr hC;replace bn:=bn.gr hC;refine Zh (Zl2 20 21 hr ((bm.froz 18).froz 19) ((bn.froz 18).froz 19) ((d9.toSlF (Zm.int .u32)).froz 19) ((ea.froz 18 (by decide)).toSlF (Zm.int .u32))) ?_;rintro _ bk ⟨ht,e5,e6,e7,e8,rfl,au,bo,bp⟩;refine ⟨_,rfl,?_⟩;replace bo:=bo.thaw (Zy .u32) au (((Fz.refl (col:=(Zg ce co))).froz 18).froz 19) (by decide);replace bp:=bp.thaw (Zy .u32) au (((Fz.refl (col:=(Zg ce co))).froz 18).froz 19) (by decide);replace au:=au.thawR (col:=(Zg ce co))
     generalize Xa hq.heap.size (Zg ce co) ht=bq at *;refine Zl ?_;refine ⟨fun w'=>Zf (Zg bk bq) bk (Zg bk bq) w',fun g=>(Zg bk bq) g=497,Zf.refl _ _,Wf,fun _=>⟨fun _ h=>Vb hC0 au h,fun b hb=>au.below.block b hb,fun g x1 x2=>Vj au g x1 (by first | exact x2 | (simp only [Xn,x2];rfl) | (simp only [Xn,Xw,x2];rfl))⟩,?_⟩;have ax:=Z2.clip (fun _=>false) bq bk;refine Zhb rfl rfl (T4 zeroValue47) ?_;intro cp hu;refine Wl rfl rfl ?_;intro hv ⟨hC0,hZ0⟩;replace a9:=((((a9.gr ar).kpp aw).gr hC).gr au).kpp ax;replace ba:=((((ba.gr ar).kpp aw).gr hC).gr au).kpp ax;replace ai:=((ai.gr hC).gr au).kpp ax;replace aj:=((aj.gr hC).gr au).kpp ax;replace ak:=((ak.gr hC).gr au).kpp ax;replace al:=((al.gr hC).gr au).kpp ax;replace bb:=((bb.gr hC).gr au).kpp ax;replace am:=((am.gr hC).gr au).kpp ax;replace an:=((an.gr hC).gr au).kpp ax;replace ao:=((ao.gr hC).gr au).kpp ax;replace ap:=((ap.gr hC).gr au).kpp ax;replace aq:=((aq.gr hC).gr au).kpp ax;replace ah:=((ah.gr hC).gr au).kpp ax;replace ad:=((ad.gr hC).gr au).kpp ax;replace a3:=((a3.gr hC).gr au).kpp ax;replace a7:=((a7.gr hC).gr au).kpp ax;replace hb3:=((hb3.gr hC).gr au).kpp ax;replace ab:=((ab.gr hC).gr au).kpp ax;replace ac:=((ac.gr hC).gr au).kpp ax;replace aa:=((aa.grow hC).grow au).kpp ax;have hC:=hC0.bl (Zg bk bq);obtain ⟨ay,e9⟩:=Zeo (col:=(Zg bk bq)) 22 hZ0 hu;replace e9:Zn 47 22 (Xe cp 22 (Zg bk bq)) hv cp #[.bool false,.slice none (([]:List Int).length) 0,.slice none (([]:List Int).length) 0]:=e9;refine Z7 e9 ?_;intro cq az hw cf;refine Zl ?_;refine ⟨fun w'=>Zf (Zg cq (Xe cp 22 (Zg bk bq))) cq (Zg cq (Xe cp 22 (Zg bk bq))) w',fun g=>(Zg cq (Xe cp 22 (Zg bk bq))) g=497,Zf.refl _ _,Wf,fun h=>absurd h (by decide),?_⟩;have av:=Z2.clip (fun _=>false) (Xe cp 22 (Zg bk bq)) cq;refine Zhc ?_;replace bm:=(((((bm.gr au).kpp ax).gr hC).kpp ay).kp az).kpp av;replace bn:=(((((bn.gr au).kpp ax).gr hC).kpp ay).kp az).kpp av;replace bo:=((((bo.kpp ax).gr hC).kpp ay).kp az).kpp av;replace bp:=((((bp.kpp ax).gr hC).kpp ay).kp az).kpp av;replace ai:=(((ai.gr hC).kpp ay).kp az).kpp av;replace aj:=(((aj.gr hC).kpp ay).kp az).kpp av
     replace ak:=(((ak.gr hC).kpp ay).kp az).kpp av;replace al:=(((al.gr hC).kpp ay).kp az).kpp av;replace a9:=(((a9.gr hC).kpp ay).kp az).kpp av;replace ba:=(((ba.gr hC).kpp ay).kp az).kpp av;replace bb:=(((bb.gr hC).kpp ay).kp az).kpp av;replace am:=(((am.gr hC).kpp ay).kp az).kpp av;replace an:=(((an.gr hC).kpp ay).kp az).kpp av;replace ao:=(((ao.gr hC).kpp ay).kp az).kpp av;replace ap:=(((ap.gr hC).kpp ay).kp az).kpp av;replace aq:=(((aq.gr hC).kpp ay).kp az).kpp av;replace ah:=(((ah.gr hC).kpp ay).kp az).kpp av;replace ad:=(((ad.gr hC).kpp ay).kp az).kpp av;replace a3:=(((a3.gr hC).kpp ay).kp az).kpp av;replace a7:=(((a7.gr hC).kpp ay).kp az).kpp av;replace hb3:=(((hb3.gr hC).kpp ay).kp az).kpp av;replace ab:=(((ab.gr hC).kpp ay).kp az).kpp av;replace ac:=(((ac.gr hC).kpp ay).kp az).kpp av;replace aa:=(((aa.grow hC).kpp ay).kp az hw).kpp av;intro hx hC;replace hC:Zf (Zg cq (Xe cp 22 (Zg bk bq))) cq (Zg cq (Xe cp 22 (Zg bk bq))) hx:=.of_below hC.below;refine go ?_;replace a7:=a7.gr hC;refine lV _ (Xj isAgg47 sizeOf47 a7) ?_;replace cf:=(cf.kpp av).gr hC;refine lV _ (Xj isAgg47 sizeOf47 cf)<|lV (.agg #[.bool cb,.slice dn cc.length dp,.slice dq cd.length dr,.bool bi.1.1,.slice e5 bi.1.2.length e6,.slice e7 bi.2.length e8]) (Ys (l:=[_,_]) (qs:=[(0,3),(3,3)]) underlying49 zeroValue49 ⟨rfl,sizeOf47,rfl,sizeOf47,trivial⟩ rfl) ?_;replace ai:=ai.gr hC;replace ai:=ai.froz 21;replace aj:=aj.gr hC;replace aj:=aj.froz 21;replace ak:=ak.gr hC;replace ak:=ak.froz 21;replace al:=al.gr hC;replace al:=al.froz 21;replace a9:=a9.gr hC;replace a9:=a9.froz 21 (by decide);replace ba:=ba.gr hC;replace ba:=ba.froz 21 (by decide);replace bm:=bm.gr hC;replace bm:=bm.froz 21;replace bn:=bn.gr hC;replace bn:=bn.froz 21;replace am:=am.gr hC;replace am:=am.froz 21;replace an:=an.gr hC;replace an:=an.froz 21 (by decide);replace ao:=ao.gr hC;replace ao:=ao.froz 21 (by decide);replace ap:=ap.gr hC;replace ap:=ap.froz 21 (by decide);replace aq:=aq.gr hC;replace aq:=aq.froz 21 (by decide);replace ah:=ah.gr hC;replace ah:=ah.froz 21 (by decide);replace bo:=bo.gr hC;replace bo:=bo.froz 21 (by decide);replace bp:=bp.gr hC;replace bp:=(bp).toSlF (Zm.int .u32);replace bb:=bb.gr hC
     replace bb:=bb.froz 21 (by decide);replace ad:=ad.gr hC;replace ad:=ad.froz 21 (by decide);replace a3:=a3.gr hC;replace a3:=a3.froz 21 (by decide);replace a7:=a7.froz 21 (by decide);replace hb3:=hb3.gr hC;replace hb3:=hb3.froz 21 (by decide);replace ab:=ab.gr hC;replace ab:=ab.froz 21 (by decide);replace ac:=ac.gr hC;replace ac:=ac.froz 21 (by decide);replace cf:=cf.froz 21 (by decide);replace aa:=aa.grow hC;replace aa:=aa.froz 21 (by decide) (by decide);replace ai:=ai.froz 20;replace aj:=aj.froz 20;replace ak:=ak.froz 20;replace al:=al.froz 20;replace a9:=a9.froz 20 (by decide);replace ba:=ba.froz 20 (by decide);replace bm:=bm.froz 20;replace bn:=bn.froz 20;replace am:=am.froz 20;replace an:=an.froz 20 (by decide);replace ao:=ao.froz 20 (by decide);replace ap:=ap.froz 20 (by decide);replace aq:=aq.froz 20 (by decide);replace ah:=ah.froz 20 (by decide);replace bo:=(bo).toSlF (Zm.int .u32);replace bp:=bp.froz 20;replace bb:=bb.froz 20 (by decide);replace ad:=ad.froz 20 (by decide);replace a3:=a3.froz 20 (by decide);replace a7:=a7.froz 20 (by decide);replace hb3:=hb3.froz 20 (by decide);replace ab:=ab.froz 20 (by decide);replace ac:=ac.froz 20 (by decide);replace cf:=cf.froz 20 (by decide);replace aa:=aa.froz 20 (by decide) (by decide);refine Q8 (col:=(Xn 20 (Xn 21 (Zg cq (Xe cp 22 (Zg bk bq)))))) (r:=(Za.pair (Za.pair (Za.pair Za.bool (Za.slice (Za.int .u32))) (Za.slice (Za.int .u32))) (Za.pair (Za.pair Za.bool (Za.slice (Za.int .u32))) (Za.slice (Za.int .u32))))) (xs:=[(((cb,cc),cd),((bi.1.1,bi.1.2),bi.2))]) [(.agg #[.bool cb,.slice dn cc.length dp,.slice dq cd.length dr,.bool bi.1.1,.slice e5 bi.1.2.length e6,.slice e7 bi.2.length e8])] 23 (Wt.ofF (Rows.consF (r:=(Za.pair (Za.pair (Za.pair Za.bool (Za.slice (Za.int .u32))) (Za.slice (Za.int .u32))) (Za.pair (Za.pair Za.bool (Za.slice (Za.int .u32))) (Za.slice (Za.int .u32))))) (x:=(((cb,cc),cd),((bi.1.1,bi.1.2),bi.2))) (cs:=[.bool cb,.slice dn cc.length dp,.slice dq cd.length dr,.bool bi.1.1,.slice e5 bi.1.2.length e6,.slice e7 bi.2.length e8]) (V4 (V4 (V4 (Tq cb) (Q2 bm)) (Q2 bn)) (V4 (V4 (Tq bi.1.1) (Q2 bo)) (Q2 bp))) Rows.nil0)) ?_;intro ju jv jw a0 hy;obtain ⟨hz,hm⟩:=Zz hm;replace bb:=bb.gr a0
     refine Wn bb (hy.srcN (NB.pair (NB.pair (NB.pair NB.bool NB.slice) NB.slice) (NB.pair (NB.pair NB.bool NB.slice) NB.slice))) hz ?_;intro jx jy jz j0 a5 fa;refine go ?_;replace cf:=(cf.gr a0).kpp a5;refine lV _ (Xj isAgg47 sizeOf47 cf) ?_;replace a7:=(a7.gr a0).kpp a5;refine Z7 a7 ?_;intro j1 a8 h0 h2;refine go ?_;replace ai:=((ai.gr a0).kpp a5).kp a8;replace aj:=((aj.gr a0).kpp a5).kp a8;replace ak:=((ak.gr a0).kpp a5).kp a8;replace al:=((al.gr a0).kpp a5).kp a8;replace a9:=((a9.gr a0).kpp a5).kp a8;replace ba:=((ba.gr a0).kpp a5).kp a8;replace am:=((am.gr a0).kpp a5).kp a8;replace an:=((an.gr a0).kpp a5).kp a8;replace ao:=((ao.gr a0).kpp a5).kp a8;replace ap:=((ap.gr a0).kpp a5).kp a8;replace aq:=((aq.gr a0).kpp a5).kp a8;replace ah:=((ah.gr a0).kpp a5).kp a8;replace bo:=((bo.gr a0).kpp a5).kp a8;replace bp:=((bp.gr a0).kpp a5).kp a8;replace ad:=((ad.gr a0).kpp a5).kp a8;replace a3:=((a3.gr a0).kpp a5).kp a8;replace hb3:=((hb3.gr a0).kpp a5).kp a8;replace ab:=((ab.gr a0).kpp a5).kp a8;replace ac:=((ac.gr a0).kpp a5).kp a8;replace aa:=((aa.grow a0).kpp a5).kp a8 h0;replace fa:=fa.kp a8;exact ⟨dv,by omega,rfl,⟨_,_,_,_,_,_,_,_,_,_,_,_,_,rfl,hm,aa,ai,aj,ak,al,ad,a9,ba,a3,bo,bp,h2,fa,am,hb3,ab,an,ao,ap,aq,ac,ah,rfl⟩⟩
    refine lM (.func (.func 91) #[] #[.pointer (some ⟨g3,0,none⟩)])<|go ?_;obtain ⟨fb,h3,hm⟩:=bZ hm;refine lc rfl rfl (Z1a call91 rfl rfl rfl) (Zv9 (Xn 17 ae) _ 999 (by decide) c3 ee ef d8 g3 b2 c0 c2 (bb.toSlF (Zm.pair (Zm.pair (Zm.pair Zm.bool Zm.slice) Zm.slice) (Zm.pair (Zm.pair Zm.bool Zm.slice) Zm.slice))) (am.froz 17) (hb3.froz 17 (by decide)) fb h3) ?_;rintro _ h4 ⟨rfl,br⟩;refine ⟨_,rfl,?_⟩;replace br:Zf ae af ae h4:=.of_below br;refine go ?_;replace bb:=bb.gr br;replace am:=am.gr br;replace an:=an.gr br;replace ao:=ao.gr br;replace ap:=ap.gr br;replace aq:=aq.gr br;replace ah:=ah.gr br;replace ad:=ad.gr br;replace hb3:=hb3.gr br;replace ab:=ab.gr br;replace ac:=ac.gr br;replace aa:=aa.grow br;refine Zp hm (fun hb hm=>go ?_) fun hb hm=>go ?_
    ·refine lV (.agg #[.bool false,.slice none (([]:List Int).length) 0,.slice none (([]:List Int).length) 0,.bool false,.slice none (([]:List Int).length) 0,.slice none (([]:List Int).length) 0]) (Ys (l:=[_,_]) (qs:=[(0,3),(3,3)]) underlying49 zeroValue49 ⟨rfl,sizeOf47,rfl,sizeOf47,trivial⟩ rfl)<|T5 rfl<|Z7 ac ?_;intro j2 h5 h6 h7;refine go ?_;cases hm;replace aa:=aa.kp h5 h6;exact ⟨rfl,_,Zty rfl rfl rfl rfl isAgg49 sizeOf49 rfl rfl h7.atN rfl rfl,_,none,0,none,0,none,0,none,0,none,0,rfl,aa.fin (cm []),Zc.nil,Sl.nil,Sl.nil,Sl.nil,Sl.nil⟩
    obtain ⟨dw,fc,hm⟩:=bZ hm;refine lI fc (bb.addr fc) ?_;obtain ⟨_,h8,h9⟩:=bb.atN fc;obtain ⟨_,_,rfl,ia,ib⟩:=h8.parts;obtain ⟨_,_,rfl,ic,id⟩:=ia.parts;obtain ⟨_,_,rfl,ie,ig⟩:=ic.parts;obtain rfl:=ie.bool;obtain ⟨ih,ii,rfl,fd⟩:=ig.slice;obtain ⟨ij,ik,rfl,fe⟩:=id.slice;obtain ⟨_,_,rfl,il,im⟩:=ib.parts;obtain ⟨_,_,rfl,io,ip⟩:=il.parts;obtain rfl:=io.bool;obtain ⟨iq,ir,rfl,ff⟩:=ip.slice;obtain ⟨it,iu,rfl,fg⟩:=im.slice;refine lV (.agg #[.bool dw.1.1.1,.slice ih dw.1.1.2.length ii,.slice ij dw.1.2.length ik,.bool dw.2.1.1,.slice iq dw.2.1.2.length ir,.slice it dw.2.2.length iu]) (Xq isAgg49 sizeOf49 rfl rfl h9) ?_;obtain ⟨j3,fh,hm⟩:=bZ hm;refine lI fh (ah.addr fh) ?_;obtain ⟨fi,ej,hm⟩:=bZ hm;have ej:fi=b9.set (Int.toNat c3) fb:=(Option.some.inj ej).symm;refine Yv (x1:=fb) ah fh ?_;intro j4 bs iv ek;rw [← ej] at ek;refine .ld (d:=9) (v:=(.slice dk fi.length dl)) (congrArg (fun n=>Value.slice dk n dl) (show b9.length=fi.length by rw [ej,List.length_set])) ?_;replace ad:=ad.kp bs;refine Z7 ad ?_;intro j5 bt iw ix;refine go ?_;replace am:=(am.kp bs).kp bt;replace an:=(an.kp bs).kp bt;replace ao:=(ao.kp bs).kp bt;replace ap:=(ap.kp bs).kp bt;replace aq:=(aq.kp bs).kp bt;replace fd:=(fd.kp bs).kp bt;replace fe:=(fe.kp bs).kp bt;replace ff:=(ff.kp bs).kp bt;replace fg:=(fg.kp bs).kp bt;replace hb3:=(hb3.kp bs).kp bt;replace ab:=(ab.kp bs).kp bt;replace ac:=(ac.kp bs).kp bt;replace aa:=(aa.kp bs iv).kp bt iw;replace ek:=ek.kp bt;exact ⟨et.length,by simp,rfl,⟨_,_,_,_,_,_,_,_,_,_,_,_,_,_,_,_,_,_,_,_,_,_,_,_,_,_,_,_,_,_,_,_,_,_,_,_,_,rfl,gd,hm,aa,fd,fe,ff,fg,ix,am,hb3,ab,an,ao,ap,aq,ac,ek,(We (congrArg (Value.int .i64) (Wb (Nat.lt_of_lt_of_le ge (h1.ks aa).1.1))) rfl)⟩⟩
  | cons j6 iy=>
   obtain ⟨dm,iz,i0⟩:=Y8 hl;have hk:(d6:Int)<(d5.length:Int):=by omega
   have hkb:=decide_eq_true hk;rw [Q9.eq_2] at hm;refine go ?_;refine Y0 (congrArg Value.bool hkb)<|go ?_;refine lI dm (c4.addr dm)<|lW (c4.atInt dm) ?_;refine go ?_;refine Wj (col:=a2) (by kernel_rfl) (by kernel_rfl)<|go ?_;refine qF ⟨_,_,rfl⟩ ?_;refine qW (fun _ hC=>((ab.atN).nth (q:=2) rfl).gr (hC.bl a2)) ?_;refine go ?_;obtain ⟨j7,fj,hm⟩:=bZ hm;refine qI fj ((cu.ks aa).addr fj) ?_;obtain ⟨_,i1,i2⟩:=(cu.ks aa).atN fj;obtain ⟨⟨j8,j9,rfl,ka⟩,_⟩:=i1;refine qW (fun _ hC=>i2.one.gr (hC.bl a2)) ?_;refine go ?_;obtain ⟨kb,fk,hm⟩:=bZ hm;refine qI fk (ah.addr fk)<|qW (fun _ hC=>(ah.gr (hC.bl a2)).atInt fk) ?_;refine go ?_;refine Yn ?_;intro kc hC;replace hC:=hC.bl a2;refine go ?_;replace ai:=ai.gr hC;replace aj:=aj.gr hC;replace ak:=ak.gr hC;replace al:=al.gr hC;replace am:=am.gr hC;replace c4:=c4.gr hC;replace an:=an.gr hC;replace ao:=ao.gr hC;replace ap:=ap.gr hC;replace aq:=aq.gr hC;replace ah:=ah.gr hC;replace ad:=ad.gr hC;replace hb3:=hb3.gr hC;replace ab:=ab.gr hC;replace ac:=ac.gr hC;replace aa:=aa.grow hC;exact ⟨iy.length,by simp,rfl,⟨_,_,_,_,rfl,iz,hm,aa,ai,aj,ak,al,ad,am,hb3,ab,c4,an,ao,ap,aq,ac,ah,(We (congrArg (Value.int .i64) (Wb (Nat.lt_of_lt_of_le i0 c4.1.1))) rfl)⟩⟩
def Zbe (N:Nat) (aa:R0):Option R0:=
  (Zac N ((aa.1.1,aa.1.2),aa.2) ((false,([]:List Int)),([]:List Int))).bind fun ab=>some ((ab.1.1,ab.1.2),ab.2)
theorem Zog {N aj ak:Nat} {al am:Option Addr} {col:Zd} {w0:World} {ab r:R0} (c1 c2:Nat) (hm:Zbe N ab=some r) (ac:Sl (Za.int .u32) col w0 al aj ab.1.2) (ad:Sl (Za.int .u32) col w0 am ak ab.2):
    Calls Tryz.prog 92 #[(.agg #[.bool ab.1.1,.slice al ab.1.2.length aj,.slice am ab.2.length ak])] w0 (fun e w'=>∃ (col':Zd) (ra1:Option Addr) (rc2:Nat) (ra4:Option Addr) (rc5:Nat),e= .returned ((.agg #[.bool r.1.1,.slice ra1 r.1.2.length rc2,.slice ra4 r.2.length rc5]))∧Zf col w0 col' w'∧Zc (Za.int .u32) 79 c1 col' w' ra1 rc2 r.1.2∧Zc (Za.int .u32) 79 c2 col' w' ra4 rc5 r.2):=by
 refine Yd (m:=6) func92 rfl rfl rfl ?_;rw [Zbe.eq_1] at hm;have aa:=St.start col w0;refine go ?_;refine Xh (col:=(Zi col)) 1 rfl ?_;intro aw ax ap aq ae;refine Xp (col:=ap) #[.bool false,.slice none (([]:List Int).length) 0,.slice none (([]:List Int).length) 0] 2 zeroValue47 ?_;intro ay az a0 an af;refine go ?_;replace ae:=ae.gr an;refine lV _ (Xj isAgg47 sizeOf47 ae)<|lV (.agg #[.bool false,.slice none (([]:List Int).length) 0,.slice none (([]:List Int).length) 0]) (Ys (l:=[_,_]) (qs:=[(0,2),(2,1)]) underlying47 zeroValue47 ⟨rfl,sizeOf45,rfl,sizeOf43,trivial⟩ rfl) ?_;obtain ⟨a1,ar,hm⟩:=bZ hm;replace ac:=ac.keep (Zj.start col w0);replace ad:=ad.keep (Zj.start col w0);replace aa:=(aa.grow aq).grow an;refine Zh (Zl2 3 4 ar (ac.ks aa) (ad.ks aa) Sl.nil Sl.nil) ?_;rintro _ a2 ⟨a3,a4,a5,a6,a7,rfl,ao,ag,ah⟩;refine ⟨_,rfl,?_⟩;replace af:=af.gr ao;refine Z7 af ?_;intro a8 ai au av;refine go ?_;cases hm;replace aa:=(aa.grow ao).kp ai au;replace ag:=ag.kp ai;replace ah:=ah.kp ai;exact ⟨rfl,_,ra av.atN,_,_,_,_,_,rfl,aa.fin (cm [(3,c1),(4,c2)]),aa.fo ag,aa.fo ah⟩
def Zex (aa:Nat) (ab:Bool) (ac:List Int) (ad:List Int) (ae:Bool) (af:List Int) (ag:List Int) (kk_L1:(Nat→Bool→R2→R2→Bool→R2→R2→Option Re)) (ah:Bool):Option Re:=
  if ah=true then (some ((((false,([]:List Int)),([]:List Int)),((false,([]:List Int)),([]:List Int))),3)) else (kk_L1 (aa+1) ab ac ad ae af ag)
def Ss (N:Nat) (aa:R1) (ad:List Int):List Int→Nat→Bool→R2→R2→Bool→R2→R2→Option Re
  | [],ac,ae,af,ag,ah,ai,aj=>(Qg N aa.2.2.2.1).bind fun ao=>(Zey N (aa.1,aa.2.1,aa.2.2.1,aa.2.2.2.1,aa.2.2.2.2) ao.1 ad).bind fun ab=>(Zbe N ((ab.2.1.1.1.1,ab.2.1.1.1.2),ab.2.1.1.2)).bind fun ak=>(Zbe N ((ab.2.1.2.1.1,ab.2.1.2.1.2),ab.2.1.2.2)).bind fun al=>some ((((ak.1.1,ak.1.2),ak.2),((al.1.1,al.1.2),al.2)),0)
  | am :: an,ac,ae,af,ag,ah,ai,aj=>if (decide (am<0))=true then (Zex ac ae af ag ah ai aj (Ss N aa ad an) true) else ((Zk aa.2.2.1 (ac:Int)).bind fun ap=>Zex ac ae af ag ah ai aj (Ss N aa ad an) (decide ((ap.length:Int)≤am)))
termination_by structural x=>x
def Zct (N:Nat) (aa:R1) (ab:List Int):Option Re:=
  (Zfg N (aa.1,aa.2.1,aa.2.2.1,aa.2.2.2.1,aa.2.2.2.2)).bind fun ac=>if (!decide (ac=0))=true then (some ((((false,([]:List Int)),([]:List Int)),((false,([]:List Int)),([]:List Int))),ac)) else (if (!decide ((ab.length:Int)=(aa.2.1.length:Int)))=true then (some ((((false,([]:List Int)),([]:List Int)),((false,([]:List Int)),([]:List Int))),3)) else (Ss N aa ab ab 0 false ([]:List Int) ([]:List Int) false ([]:List Int) ([]:List Int)))
theorem Zl1 {N bj bk bm bn au:Nat} {bo bp bq br a1:Option Addr} {col:Zd} {w0:World} {ab:R1} {ag:R2} {r:Re} (c1 c2 c3 c4:Nat) (hm:Zct N ab ag=some r) (bs:Sl Za.str col w0 bo bj ab.2.1) (av:Sl (Za.slice Za.str) col w0 bp bk ab.2.2.1) (az:Sl (Za.slice (Za.int .i64)) col w0 bq bm ab.2.2.2.1) (bt:Sl (Za.slice (Za.pair (Za.pair Za.bool (Za.slice (Za.int .u32))) (Za.slice (Za.int .u32)))) col w0 br bn ab.2.2.2.2) (h1:Sl (Za.int .i64) col w0 a1 au ag):
    Calls Tryz.prog 24 #[(.agg #[.string ab.1,.slice bo ab.2.1.length bj,.slice bp ab.2.2.1.length bk,.slice bq ab.2.2.2.1.length bm,.slice br ab.2.2.2.2.length bn]),.slice a1 ag.length au] w0 (fun e w'=>∃ (col':Zd) (ra1:Option Addr) (rc2:Nat) (ra4:Option Addr) (rc5:Nat) (ra7:Option Addr) (rc8:Nat) (ra10:Option Addr) (rc11:Nat),e= .returned (.tuple #[(.agg #[.bool r.1.1.1.1,.slice ra1 r.1.1.1.2.length rc2,.slice ra4 r.1.1.2.length rc5,.bool r.1.2.1.1,.slice ra7 r.1.2.1.2.length rc8,.slice ra10 r.1.2.2.length rc11]),.int .i64 r.2])∧Zf col w0 col' w'∧Zc (Za.int .u32) 79 c1 col' w' ra1 rc2 r.1.1.1.2∧Zc (Za.int .u32) 79 c2 col' w' ra4 rc5 r.1.1.2∧Zc (Za.int .u32) 79 c3 col' w' ra7 rc8 r.1.2.1.2∧Zc (Za.int .u32) 79 c4 col' w' ra10 rc11 r.1.2.2):=by
 refine Yd (m:=69) func24 rfl rfl rfl ?_;rw [Zct.eq_1] at hm;have aa:=St.start col w0;refine go ?_;refine Xh (col:=(Zi col)) 1 rfl ?_;intro co d7 c5 c6 ae;refine Zka (col:=c5) (v:=(.slice a1 ag.length au)) 2 rfl rfl ?_;intro bu c7 cp cq af;replace af:Zn 40 2 cp c7 bu #[.slice a1 ag.length au]:=af;refine Xp (col:=cp) #[.bool false,.slice none (([]:List Int).length) 0,.slice none (([]:List Int).length) 0,.bool false,.slice none (([]:List Int).length) 0,.slice none (([]:List Int).length) 0] 3 zeroValue49 ?_;intro cr c8 cs b4 ac;refine go ?_;replace ae:=(ae.gr cq).gr b4;refine lV _ (Xj isAgg27 sizeOf27 ae) ?_;obtain ⟨d8,c9,hm⟩:=bZ hm;replace bs:=bs.keep (Zj.start col w0);replace av:=av.keep (Zj.start col w0);replace az:=az.keep (Zj.start col w0);replace bt:=bt.keep (Zj.start col w0);replace aa:=((aa.grow c6).grow cq).grow b4;refine Zh (Zwr c9 (bs.ks aa) (av.ks aa) (az.ks aa) (bt.ks aa)) ?_;rintro _ da ⟨rfl,aw⟩;refine ⟨_,rfl,?_⟩;replace aw:Zf cs c8 cs da:=.of_below aw;refine go ?_;replace h1:=h1.keep (Zj.start col w0);replace af:=(af.gr b4).gr aw;replace ae:=ae.gr aw;replace ac:=ac.gr aw;replace aa:=aa.grow aw;refine Zp hm (fun hb hm=>go ?_) fun hb hm=>go ?_
 ·refine lV (.agg #[.bool false,.slice none (([]:List Int).length) 0,.slice none (([]:List Int).length) 0,.bool false,.slice none (([]:List Int).length) 0,.slice none (([]:List Int).length) 0]) (Ys (l:=[_,_]) (qs:=[(0,3),(3,3)]) underlying49 zeroValue49 ⟨rfl,sizeOf47,rfl,sizeOf47,trivial⟩ rfl)<|Xu rfl<|Z7 ac ?_;intro d9 db dc dd;refine go ?_;cases hm;replace aa:=aa.kp db dc;exact ⟨rfl,_,Tp dd.atN,_,none,0,none,0,none,0,none,0,rfl,aa.fin (cm []),Zc.nil,Zc.nil,Zc.nil,Zc.nil⟩
 refine lW af.at1<|go ?_;refine Z9 ae ?_;refine go ?_;refine Zp hm (fun hb hm=>go ?_) fun hb hm=>go ?_
 ·refine lV (.agg #[.bool false,.slice none (([]:List Int).length) 0,.slice none (([]:List Int).length) 0,.bool false,.slice none (([]:List Int).length) 0,.slice none (([]:List Int).length) 0]) (Ys (l:=[_,_]) (qs:=[(0,3),(3,3)]) underlying49 zeroValue49 ⟨rfl,sizeOf47,rfl,sizeOf47,trivial⟩ rfl)<|Z7 ac ?_;intro ea de df dg;refine go ?_;cases hm;replace aa:=aa.kp de df;exact ⟨rfl,_,Tp dg.atN,_,none,0,none,0,none,0,none,0,rfl,aa.fin (cm []),Zc.nil,Zc.nil,Zc.nil,Zc.nil⟩
 refine lW af.at1<|go ?_;refine Zw [2,27,28,3,4,1000000] (fun n f ah=>∃ ai al a0 a2 a3 am a4 a5 an a6 a7 a8 ao a9 ba ap bb,n=bb.length∧ag.drop al=bb∧Ss N ab ag bb al a0 am an a6 ao ap=some r∧St w0 (Zi col) ai ah∧Zn 27 1 ai ah co #[.string ab.1,.slice bo ab.2.1.length bj,.slice bp ab.2.2.1.length bk,.slice bq ab.2.2.2.1.length bm,.slice br ab.2.2.2.2.length bn]∧Zn 40 2 ai ah bu #[.slice a1 ag.length au]∧Zc (Za.int .u32) 79 4 ai ah a2 a3 am∧Zc (Za.int .u32) 79 5 ai ah a4 a5 an∧Zc (Za.int .u32) 79 6 ai ah a7 a8 ao∧Zc (Za.int .u32) 79 7 ai ah a9 ba ap∧Zn 49 3 ai ah cr #[.bool a0,.slice a2 am.length a3,.slice a4 an.length a5,.bool a6,.slice a7 ao.length a8,.slice a9 ap.length ba]∧[29].map f=[.int .i64 al]) ag.length ⟨_,0,_,none,0,_,none,0,_,_,none,0,_,none,0,_,_,rfl,rfl,hm,aa,ae,af,Zc.nil,Zc.nil,Zc.nil,Zc.nil,ac,rfl⟩ ?_;clear hm;intro n f ah hI;obtain ⟨ai,al,a0,a2,a3,am,a4,a5,an,a6,a7,a8,ao,a9,ba,ap,bb,hn,hl,hm,aa,ae,af,bv,bw,bx,bz,ac,hs⟩:=hI;subst hn;refine .lL [29] hs ?_
 cases bb with
 | nil=>
  have hk:¬ ((al:Int)<(ag.length:Int)):=by have:=List.drop_eq_nil_iff.1 hl;omega
  have hkb:=decide_eq_false hk;rw [Ss.eq_1] at hm;refine go ?_;refine Yz (congrArg Value.bool hkb)<|go ?_;refine Z9 ae ?_;obtain ⟨b0,dh,hm⟩:=bZ hm;refine Zh (Zoh 8 dh (az.ks aa)) ?_;rintro _ eb ⟨ec,ct,cu,rfl,b1,b5⟩;refine ⟨_,rfl,?_⟩;refine lM (.tuple #[.slice ct b0.1.length cu,.int .i64 b0.2])<|lV (.slice ct b0.1.length cu) (X2 rfl rfl)<|lV (.int .i64 b0.2) (X2 rfl rfl)<|go ?_;replace ae:=ae.gr b1;refine lV _ (Xj isAgg27 sizeOf27 ae)<|Y2 rfl<|lV (.func (.func 91) #[] #[.pointer (some ⟨bu,0,none⟩)]) (Z1c rfl) ?_;replace b5:=(b5).toSlF (Zm.int .i64);replace af:=af.gr b1;replace af:=af.froz 8 (by decide);replace ac:=ac.gr b1;replace ac:=ac.froz 8 (by decide);replace aa:=aa.grow b1;replace aa:=aa.froz 8 (by decide) (by decide);obtain ⟨ad,di,hm⟩:=bZ hm;refine Zh (Zwa 9 2 di (by decide) (bs.ks aa) (av.ks aa) (az.ks aa) (bt.ks aa) b5 (h1.ks aa) af) ?_;rintro _ ed ⟨dj,cv,cw,b6,b7,b8,b9,ca,cb,cc,cd,rfl,cx,ee,ce,cf,bc,bd⟩;refine ⟨_,rfl,?_⟩;refine lM (.tuple #[.slice cv ad.1.length cw,(.agg #[.bool ad.2.1.1.1.1,.slice b6 ad.2.1.1.1.2.length b7,.slice b8 ad.2.1.1.2.length b9,.bool ad.2.1.2.1.1,.slice ca ad.2.1.2.1.2.length cb,.slice cc ad.2.1.2.2.length cd]),.bool ad.2.2])<|lV (.slice cv ad.1.length cw) (X2 rfl rfl)<|lV (.agg #[.bool ad.2.1.1.1.1,.slice b6 ad.2.1.1.1.2.length b7,.slice b8 ad.2.1.1.2.length b9,.bool ad.2.1.2.1.1,.slice ca ad.2.1.2.1.2.length cb,.slice cc ad.2.1.2.2.length cd]) (X2 rfl rfl)<|lV (.bool ad.2.2) (X2 rfl rfl)<|Xp (col:=dj) #[.bool false,.slice none (([]:List Int).length) 0,.slice none (([]:List Int).length) 0,.bool false,.slice none (([]:List Int).length) 0,.slice none (([]:List Int).length) 0] 10 zeroValue49 ?_;intro ef eg b2 ax dk;refine T5 rfl<|Z7 dk ?_;intro eh ay dl cy;refine go ?_;refine Wa (col:=b2) [(0,1),(1,0),(3,1),(4,0),(2,3),(5,3),(6,1),(7,2),(8,1)] (by kernel_rfl) (by kernel_rfl)<|xF ⟨_,_,rfl⟩ ?_;refine xv (v:=(.agg #[.bool ad.2.1.1.1.1,.slice b6 ad.2.1.1.1.2.length b7,.slice b8 ad.2.1.1.2.length b9])) rfl rfl (fun _ hC=>Xq isAgg47 sizeOf47 rfl rfl (((cy.atN).part 0 3 _ rfl).gr (hC.bl b2))) ?_;refine xF ⟨_,_,rfl⟩ ?_
  refine xv (v:=(.agg #[.bool ad.2.1.2.1.1,.slice ca ad.2.1.2.1.2.length cb,.slice cc ad.2.1.2.2.length cd])) rfl rfl (fun _ hC=>Xq isAgg47 sizeOf47 rfl rfl (((cy.atN).part 3 3 _ rfl).gr (hC.bl b2))) ?_;refine xe rfl rfl ?_;intro ei hC0;have hC:=hC0.bl b2;obtain ⟨cg,dm,hm⟩:=bZ hm;replace ce:=((ce.gr ax).kp ay).gr hC;replace cf:=((cf.gr ax).kp ay).gr hC;refine Zh (Zog 11 12 dm ce cf) ?_;rintro _ ej ⟨cz,dn,dp,dq,dr,rfl,be,aq,ar⟩;refine ⟨_,rfl,?_⟩;refine Zl<|Xo cz hC0 be<|xe rfl rfl ?_;intro ek hC0;replace ac:=((((ac.gr cx).gr ax).kp ay).gr hC).gr be;replace aa:=((((aa.grow cx).grow ax).kp ay dl).grow hC).grow be;replace bc:=(((bc.gr ax).kp ay).gr hC).gr be;replace bd:=(((bd.gr ax).kp ay).gr hC).gr be;have hC:=hC0.bl cz;obtain ⟨ch,ds,hm⟩:=bZ hm;replace bc:=bc.gr hC;replace bd:=bd.gr hC;refine Zh (Zog 13 14 ds bc bd) ?_;rintro _ el ⟨b3,dt,du,dv,dw,rfl,bf,bg,bh⟩;refine ⟨_,rfl,?_⟩;refine Zl<|Xo b3 hC0 bf<|xu (v:=(.agg #[.bool cg.1.1,.slice dn cg.1.2.length dp,.slice dq cg.2.length dr,.bool ch.1.1,.slice dt ch.1.2.length du,.slice dv ch.2.length dw])) rfl rfl (fun _=>Ys (l:=[_,_]) (qs:=[(0,3),(3,3)]) underlying49 zeroValue49 ⟨rfl,sizeOf47,rfl,sizeOf47,trivial⟩ rfl) ?_;refine xe rfl rfl ?_;intro em hC0;replace aq:=(aq.gr hC).gr bf;replace ar:=(ar.gr hC).gr bf;replace ac:=(ac.gr hC).gr bf;replace aa:=(aa.grow hC).grow bf;have hC:=hC0.bl b3;replace ac:=ac.gr hC;refine Z7 ac ?_;intro en bi dx ci;refine Zl<|xk b3<|xu rfl rfl (fun _=>Zne rfl) ?_;refine Y1 ?_;replace aq:=(aq.gr hC).kp bi;replace ar:=(ar.gr hC).kp bi;replace bg:=(bg.gr hC).kp bi;replace bh:=(bh.gr hC).kp bi;replace aa:=(aa.grow hC).kp bi dx;intro eo hC;replace hC:=hC.bl b3;refine Y4 ?_;cases hm;replace aq:=aq.gr hC;replace ar:=ar.gr hC;replace bg:=bg.gr hC;replace bh:=bh.gr hC;replace ci:=ci.gr hC;replace aa:=aa.grow hC;exact ⟨rfl,_,Tp ci.atN,_,_,_,_,_,_,_,_,_,rfl,aa.fin (cm [(11,c1),(12,c2),(13,c3),(14,c4)]),aa.fo aq,aa.fo ar,aa.fo bg,aa.fo bh⟩
 | cons dy c0=>
  obtain ⟨cj,dz,d0⟩:=Y8 hl;have hk:(al:Int)<(ag.length:Int):=by omega
  have hkb:=decide_eq_true hk;rw [Ss.eq_2] at hm;refine go ?_;refine Y0 (congrArg Value.bool hkb)<|go ?_;refine lI cj ((h1.ks aa).addr cj)<|lW ((h1.ks aa).atInt cj)<|Yt rfl<|Yt rfl<|Zl<|Zu ?_;refine Wp.cutK [2,27,28,29,3,4,1000000] (fun f aj=>∃ ak ck,Zex al a0 am an a6 ao ap (Ss N ab ag c0) ck=some r∧St w0 (Zi col) ak aj∧Zn 27 1 ak aj co #[.string ab.1,.slice bo ab.2.1.length bj,.slice bp ab.2.2.1.length bk,.slice bq ab.2.2.2.1.length bm,.slice br ab.2.2.2.2.length bn]∧Zn 40 2 ak aj bu #[.slice a1 ag.length au]∧Zc (Za.int .u32) 79 4 ak aj a2 a3 am∧Zc (Za.int .u32) 79 5 ak aj a4 a5 an∧Zc (Za.int .u32) 79 6 ak aj a7 a8 ao∧Zc (Za.int .u32) 79 7 ak aj a9 ba ap∧Zn 49 3 ak aj cr #[.bool a0,.slice a2 am.length a3,.slice a4 an.length a5,.bool a6,.slice a7 ao.length a8,.slice a9 ap.length ba]∧[45].map f=[.bool ck]) ?_ ?_
  ·intro f aj hJ;obtain ⟨ak,ck,hm,aa,ae,af,bv,bw,bx,bz,ac,hs⟩:=hJ;rw [Zex.eq_1] at hm;refine .lL [45] hs ?_;refine Zp hm (fun hb hm=>go ?_) fun hb hm=>go ?_
   ·refine lV (.agg #[.bool false,.slice none (([]:List Int).length) 0,.slice none (([]:List Int).length) 0,.bool false,.slice none (([]:List Int).length) 0,.slice none (([]:List Int).length) 0]) (Ys (l:=[_,_]) (qs:=[(0,3),(3,3)]) underlying49 zeroValue49 ⟨rfl,sizeOf47,rfl,sizeOf47,trivial⟩ rfl)<|Z7 ac ?_;intro ep d1 d2 d3;refine go ?_;cases hm;replace aa:=aa.kp d1 d2;exact ⟨rfl,_,Tp d3.atN,_,none,0,none,0,none,0,none,0,rfl,aa.fin (cm []),Zc.nil,Zc.nil,Zc.nil,Zc.nil⟩
   exact ⟨c0.length,by simp,rfl,⟨_,_,_,_,_,_,_,_,_,_,_,_,_,_,_,_,_,rfl,dz,hm,aa,ae,af,bv,bw,bx,bz,ac,(We (congrArg (Value.int .i64) (Wb (Nat.lt_of_lt_of_le d0 (h1.ks aa).1.1))) rfl)⟩⟩
  refine go ?_;refine Xr hm (fun cl hm=>go ?_) fun cl hm=>go ?_
  ·refine lV (.bool true) (Z6 (congrArg Value.bool cl) rfl)<|Zl ?_;exact ⟨rfl,_,_,hm,aa,ae,af,bv,bw,bx,bz,ac,rfl⟩
  refine Z3 ⟨_,_,rfl⟩ ?_;refine go ?_;refine lW ((ae.atN).nth (q:=2) rfl)<|go ?_;obtain ⟨d4,cn,hm⟩:=bZ hm;refine lI cn ((av.ks aa).addr cn) ?_;refine go ?_;obtain ⟨_,d5,d6⟩:=(av.ks aa).atN cn;obtain ⟨⟨eq,er,rfl,es⟩,_⟩:=d5;refine lW d6.one<|go ?_;refine lV (.bool (decide ((d4.length:Int)≤dy))) (Xg (congrArg Value.bool cl) rfl)<|Zl ?_;exact ⟨rfl,_,_,hm,aa,ae,af,bv,bw,bx,bz,ac,rfl⟩
abbrev Zn2:=Option (List Int×(QV×QV)×Bool)
section
variable {N K:Nat} {n:Xx} (hf:Uk N n) (hr:Xd N (8 * K+40))
include hf hr
variable (nv:List Int) (b1:Bool) (l1 l2:List Int) (b3:Bool) (l3 l4:List Int) (w:List Int) (hw:Vo n w)
 (kk:Bool→List Int→List Int→Bool→List Int→List Int→List Int→Bool→List Int→List Int→Bool→List Int→List Int→List Int→Zn2)
include hw
theorem Zpi {v:Nat} (hv:v<n.2.1.length) (hl:∀ x ∈ Yb n w v,Ws x∧max x.1.2.length x.2.length≤K) {long:Rat} (hlong:qs long≤K) (F:List (QV×QV)→Zn2)
  (hF:∀ P:List (QV×QV),((Zew (v:Int) P nv).bind fun r=>if (decide (r<0))=true then (some (([]:List Int),(((false,([]:List Int)),([]:List Int)),((false,([]:List Int)),([]:List Int))),false)) else ((Zk P r).bind fun e=>(Zk w (v:Int)).bind fun _=>(some (w.set (Int.toNat (v:Int)) r)).bind fun xs=>kk e.1.1.1 e.1.1.2 e.1.2 e.2.1.1 e.2.1.2 e.2.2 nv b1 l1 l2 b3 l3 l4 xs))=F P):
  ∀ (l:List QV) (f j:Nat) (a:Rat) (parts:List (QV×QV)),(Yb n w v).drop j=l→j≤cnt n v→cnt n v<f+j→qs a≤K→(∀ p ∈ Vr long l a,qs p.1≤K∧qs p.2≤K)→parts.length=j→
   Zcu N n nv b1 l1 l2 b3 l3 l4 w kk (v:Int) (Ve n w v:Int) (Zr long) (n.2.2.1.getD v []) f (Zr a).1.1 (Zr a).1.2 (Zr a).2 parts (j:Int)=F (parts++(Vr long l a).map Wv)
 | l,0,j,a,parts,_,h1,h2,_,_,_=>by omega
 | l,f+1,j,a,parts,hd,h1,h2,ha,hp,hpl=>by
  have hlen:=hf.rowT_len hw hv
  have hrow:=hf.row hw hv
  have hrows:=hf.rows hv
  rw [Zcu.eq_2]
  cases l with
  | nil=>
   have h3:=List.drop_eq_nil_iff.1 hd
   rw [if_neg (by rw [decide_eq_false (by rw [cnt] at h1 hlen;omega)];decide),hF,Vr,List.map_nil,List.append_nil]
  | cons y l=>
   have hj:j<(Yb n w v).length:=by
    rcases Nat.lt_or_ge j (Yb n w v).length with h | h
    ·exact h
    ·rw [List.drop_eq_nil_of_le h] at hd;cases hd
   have hy:(Yb n w v)[j]=y∧(Yb n w v).drop (j+1)=l:=by
    rw [List.drop_eq_getElem_cons hj] at hd
    exact List.cons.inj hd
   have hyK:=hl y (hy.1 ▸ List.getElem_mem hj)
   have hjc:j<cnt n v:=by omega
   have hq:=hp _ List.mem_cons_self
   have e0:(0:Int)≤((Ve n w v * cnt n v:Nat):Int):=Int.natCast_nonneg _
   have e1:i64.wrap ((Ve n w v:Int) * ((n.2.2.1.getD v []).length:Int))=((Ve n w v * cnt n v:Nat):Int):=by
    rw [show ((n.2.2.1.getD v []).length:Int)=((cnt n v:Nat):Int) from rfl,← Int.natCast_mul]
    exact Zq (by omega)
   have e2:i64.wrap (((Ve n w v * cnt n v:Nat):Int)+(j:Int))=((Ve n w v * cnt n v+j:Nat):Int):=by
    rw [← Int.natCast_add]
    exact Zq (by omega)
   have r1:=Zce hyK.1.1 hyK.1.2
   have m1:Ze9 N (((Zr long).1.1,(Zr long).1.2),(Zr long).2) ((y.1.1,y.1.2),y.2)=some (Zr (long * Z1 y)):=by
    have:=Zy3 (Uv hlong) (r1.mono hyK.2) (hr.mono (by omega))
    rwa [Vm] at this
   have s1:qs (long * Z1 y)≤K+(K+1):=by
    have h4:=Zs2 long (Z1 y)
    have h5:=Zk8 hyK.1
    omega
   have a1:Zac N (((Zr a).1.1,(Zr a).1.2),(Zr a).2) (((Zr (long * Z1 y)).1.1,(Zr (long * Z1 y)).1.2),(Zr (long * Z1 y)).2)=some (Zr (a+long * Z1 y)):=by
    have:=Zml (Uv ha) (Uv s1) (hr.mono (by omega))
    rwa [Vm,Vm] at this
   rw [if_pos (decide_eq_true (by rw [cnt] at hjc;omega)),Va [] (by rw [hf.ev.t];exact hv),Option.bind_some,Va [] (by rw [hf.ev.v];exact hv),Option.bind_some,e1,e2,Zuk hj,hy.1,Option.bind_some,m1,Option.bind_some,a1,Option.bind_some,
    Z5 (by simp only [List.length_singleton,maxLen];omega),Zq (x:=(j:Int)+1) (by omega)]
   have ih:=Zpi hv hl hlong F hF l f (j+1) (a+long * Z1 y) (parts++[Wv (a,a+long * Z1 y)]) hy.2 (by omega) (by omega) hq.2 (fun p h=>hp p (List.mem_cons_of_mem _ h)) (by rw [List.length_append,List.length_singleton];omega)
   rw [List.append_assoc] at ih
   exact ih
omit hr in
theorem Zph (a b:QV) (x:Int):∀ (ps:List Int) (r k:Nat),(∀ q ∈ ps,0≤q∧q<(n.2.1.length:Int))→r<k→k≤65536→Yh n.2.2.1 ps k≤65536→
  Q9 N n a.1.1 a.1.2 a.2 b.1.1 b.1.2 b.2 nv b1 l1 l2 b3 l3 l4 w kk x ps (r:Int)=Q9 N n a.1.1 a.1.2 a.2 b.1.1 b.1.2 b.2 nv b1 l1 l2 b3 l3 l4 w kk x [] (Q3 n w ps r:Int)
 | [],r,k,_,_,_,_=>rfl
 | p :: ps,r,k,hp,h1,h2,h3=>by
  obtain ⟨g1,g2,g3⟩:=Zno hf.ev hw hp h1 h2 h3
  have hpp:=hp p List.mem_cons_self
  have hwp:=hw.ok p.toNat (by rw [hw.len];omega)
  have g4:r * cnt n p.toNat≤k * cnt n p.toNat:=Nat.mul_le_mul_right _ (by omega)
  have q1:Zk n.2.2.1 p=some (n.2.2.1.getD p.toNat []):=by
   have:=Va (l:=n.2.2.1) [] (j:=p.toNat) (by rw [hf.ev.v];omega)
   rwa [show ((p.toNat:Nat):Int)=p by omega] at this
  have q2:Zk w p=some (w.getD p.toNat 0):=by
   have:=Va (l:=w) 0 (j:=p.toNat) (by rw [hw.len];omega)
   rwa [show ((p.toNat:Nat):Int)=p by omega] at this
  have e1:i64.wrap ((r:Int) * ((n.2.2.1.getD p.toNat []).length:Int))=((r * cnt n p.toNat:Nat):Int):=by
   rw [show ((n.2.2.1.getD p.toNat []).length:Int)=((cnt n p.toNat:Nat):Int) from rfl,← Int.natCast_mul]
   exact Zq (by omega)
  have e2:i64.wrap (((r * cnt n p.toNat:Nat):Int)+w.getD p.toNat 0)=((r * cnt n p.toNat+(w.getD p.toNat 0).toNat:Nat):Int):=by
   rw [Int.natCast_add,show (((w.getD p.toNat 0).toNat:Nat):Int)=w.getD p.toNat 0 by omega]
   exact Zq (by omega)
  rw [Q9.eq_2,q1,Option.bind_some,q2,Option.bind_some,e1,e2]
  exact Zph a b x ps _ _ (fun q hq=>hp q (List.mem_cons_of_mem _ hq)) g1 g2 g3
end
theorem Zpg {N W K:Nat} {n:Xx} (hf:Uk N n) (hs:U1 n W) (hr:Xd N (8 * K+40)) (hWK:W≤K) (hN:65536<N) {nv:List Int} (hnv:Vo n nv) {ord:List Int} (ho:Zhg n.2.2.2.1 ord):∀ (l pre w:List Int) (s:Rat×Rat) (D M:Nat) (b1:Bool) (l1 l2:List Int) (b3:Bool) (l3 l4:List Int),ord=pre++l→Vo n w→(∀ p ∈ pre,w.getD p.toNat 0=nv.getD p.toNat 0)→U0 D M s→
  (Ze M).length+(Ze D).length+l.length * (W+2)+2≤K→
  ∃ w',Su N n l (Zr s.1).1.1 (Zr s.1).1.2 (Zr s.1).2 (Zr s.2).1.1 (Zr s.2).1.2 (Zr s.2).2 nv b1 l1 l2 b3 l3 l4 w=some (w',Wv (V5 n nv l s),true)
 | [],pre,w,s,D,M,b1,l1,l2,b3,l3,l4,_,_,_,_,_=>⟨w,rfl⟩
 | v :: l,pre,w,s,D,M,b1,l1,l2,b3,l3,l4,he,hw,hag,hL,hK=>by
  have hvr:=ho.rg v (by rw [he];simp)
  rw [hf.ev.p] at hvr
  obtain ⟨k,rfl⟩:∃ k:Nat,v=(k:Int):=⟨v.toNat,by omega⟩
  have hv:k<n.2.1.length:=by omega
  have hpar:∀ p ∈ n.2.2.2.1.getD k [],w.getD p.toNat 0=nv.getD p.toNat 0:=fun p hp=>hag p (ho.up pre k l he p (by rw [Int.toNat_natCast];exact hp))
  have hrow:Ve n w k=Ve n nv k:=Zuj _ _ hpar
  have hrT:Yb n w k=Yb n nv k:=by rw [Yb,Yb,hrow]
  obtain ⟨D',M',c1,c2,c3⟩:=Zmv hf hs hw hv hL
  have hKs:(l.length+1) * (W+2)=l.length * (W+2)+(W+2):=by rw [Nat.add_mul,Nat.one_mul]
  rw [List.length_cons,hKs] at hK
  have hrows:=hf.rows hv
  have hcl:cnt n k≤65536:=by have:=(hf.row hw hv).1;omega
  have hsub:Zfb N (((Zr s.2).1.1,(Zr s.2).1.2),(Zr s.2).2) (((Zr s.1).1.1,(Zr s.1).1.2),(Zr s.1).2)=some (Zr (s.2 - s.1)):=by
   have:=Zzb (Uv hL.qb) (Uv hL.qa) (hr.mono (s:=2 * ((Ze M).length+(Ze D).length+((Ze M).length+(Ze D).length)+3)) (by omega))
   rwa [Vm,Vm] at this
  rw [Su.eq_2,Va [] (by rw [hf.ev.p];exact hv),Option.bind_some]
  have h2:=Zph hf nv b1 l1 l2 b3 l3 l4 w hw (Su N n l) (Zr s.1) (Zr s.2) (k:Int) (n.2.2.2.1.getD k []) 0 1 (hf.pars hv) (by omega) (by omega) hrows.2.2
  rw [show ((0:Nat):Int)=0 from rfl] at h2
  rw [h2,Q9.eq_1,hsub,Option.bind_some,Va [] (by rw [hf.ev.v];exact hv),Option.bind_some]
  have h3:=Zpi hf hr nv b1 l1 l2 b3 l3 l4 w hw (Su N n l) hv (fun x hx=>by have:=Zmk hf hs hv x (Zkw hx);exact ⟨this.1,by omega⟩) (long:=s.2 - s.1) (by omega) _ (fun _=>rfl) (Yb n w k) N 0 s.1 [] rfl (Nat.zero_le _) (by omega) (by have:=hL.qa;omega) (fun p hp=>⟨by have:=(c2 p hp).qa;omega,by have:=(c2 p hp).qb;omega⟩) rfl
  rw [show ((0:Nat):Int)=0 from rfl] at h3
  have h3':=h3
  rw [Ve] at h3'
  rw [h3',List.nil_append]
  have hnk:=hnv.ok k (by rw [hnv.len];exact hv)
  obtain ⟨q,hq⟩:∃ q:Nat,nv.getD k 0=(q:Int):=⟨(nv.getD k 0).toNat,by omega⟩
  have hql:q<(Vr (s.2 - s.1) (Yb n w k) s.1).length:=by rw [Zm6,hf.rowT_len hw hv];omega
  have hch:Zew (k:Int) ((Vr (s.2 - s.1) (Yb n w k) s.1).map Wv) nv=some (q:Int):=by
   rw [Zew,Va 0 (by rw [hnv.len];exact hv),hq];rfl
  rw [hch,Option.bind_some,if_neg (by rw [decide_eq_false (by omega)];decide),Zrl hql,Option.bind_some,Va 0 (by rw [hw.len];exact hv),Option.bind_some,Option.bind_some,Int.toNat_natCast]
  have hset:=hw.set (v:=k) (k:=(q:Int)) (by omega)
  have ih:=Zpg hf hs hr hWK hN hnv ho l (pre++[(k:Int)]) (w.set k q) _ D' M' b1 l1 l2 b3 l3 l4 (by rw [he,List.append_assoc];rfl) hset (fun p hp=>?_) (c2 _ (Zrq hql)) (by omega)
  ·obtain ⟨w',hw'⟩:=ih
   refine ⟨w',?_⟩
   rw [V5,Int.toNat_natCast,hq,Int.toNat_natCast,← hrT]
   exact hw'
  ·rcases List.mem_append.1 hp with hp | hp
   ·rw [Tf w 0 k _ _ (by rw [hw.len];exact hv)]
    split
    ·rename_i e;rw [e,hq]
    ·exact hag p hp
   ·rw [List.mem_singleton] at hp
    rw [hp,Int.toNat_natCast,Tf w 0 k _ _ (by rw [hw.len];exact hv),if_pos rfl,hq]
theorem Zy7:Zhv=some (Zr 1):=by
 rw [Zhv,show Zr 1=((false,[1]),[1]) by rw [Zr,Xi];simp [Tg]]
theorem Vo.zero {n:Xx} (he:Uz n):Vo n (List.replicate n.2.1.length 0):=by
 refine ⟨List.length_replicate,fun i hi=>?_⟩
 rw [List.length_replicate] at hi
 have:=Zmh he hi
 rw [List.getD_eq_getElem?_getD,List.getElem?_replicate,if_pos hi]
 simp;exact this
theorem Zzc {N:Nat} (hr:Xd N 16):Zcv N ([]:List QV)=some (Zr 0):=by
 have:=(Zmn (N:=N) (l:=[]) (by simp) hr).1
 rwa [W6,List.map_nil,List.sum_nil] at this
theorem Zyi {N W K:Nat} {n:Xx} (hf:Uk N n) (hs:U1 n W) (hr:Xd N (8 * K+40)) (hWK:1025 * (W+2)+4≤K) (hN:65536<N) {nv:List Int} (hnv:Vo n nv) {ord:List Int} (ho:Zhg n.2.2.2.1 ord) (hol:ord.length≤1024):
  ∃ w',Zey N n ord nv=some (w',Wv (V5 n nv ord (0,1)),true):=by
 have hnm:=hf.le
 have hmul:ord.length * (W+2)≤1024 * (W+2):=Nat.mul_le_mul_right _ hol
 have h1:(Ze 1).length=1:=by rw [Tg];rfl
 obtain ⟨w',h⟩:=Zpg hf hs hr (by omega) hN hnv ho ord [] (List.replicate n.2.1.length 0) (0,1) 1 1 false [] [] false [] [] rfl (Vo.zero hf.ev) (by simp) U0.zero (by omega)
 refine ⟨w',?_⟩
 rw [Zey,Z5 (by simp only [maxLen];omega),Zzc (hr.mono (by omega)),Option.bind_some,Zy7,Option.bind_some]
 exact h
def Zgz (aa:Int) (kk_L1:(Int→Option Bool)) (ab:Bool):Option Bool:=
  if ab=true then (some false) else (kk_L1 (i64.wrap (aa+1)))
def Za1 (N:Nat) (ac:R1) (ab:List Int):Nat→Int→Option Bool
  | 0,_=>none
  | ad+1,aa=>if (decide (aa<(ab.length:Int)))=true then ((Zk ab aa).bind fun ae=>if (decide (ae<0))=true then (Zgz aa (Za1 N ac ab ad) true) else ((Zk ac.2.2.1 aa).bind fun af=>Zgz aa (Za1 N ac ab ad) (decide ((af.length:Int)≤ae)))) else (some true)
termination_by structural x=>x
def Zgy (N:Nat) (aa:R1) (ab:List Int):Option Bool:=
  if (!decide ((ab.length:Int)=(aa.2.1.length:Int)))=true then (some false) else (Za1 N aa ab N 0)
theorem Zxy {N ah ai aj ak az:Nat} {al am an ao a1:Option Addr} {col:Zd} {w0:World} {aa:R1} {ag:R2} {r:Bool} (hm:Zgy N aa ag=some r) (a7:Sl Za.str col w0 al ah aa.2.1) (ap:Sl (Za.slice Za.str) col w0 am ai aa.2.2.1) (a8:Sl (Za.slice (Za.int .i64)) col w0 an aj aa.2.2.2.1) (a9:Sl (Za.slice (Za.pair (Za.pair Za.bool (Za.slice (Za.int .u32))) (Za.slice (Za.int .u32)))) col w0 ao ak aa.2.2.2.2) (h1:Sl (Za.int .i64) col w0 a1 az ag):
    Calls Tryz.prog 85 #[(.agg #[.string aa.1,.slice al aa.2.1.length ah,.slice am aa.2.2.1.length ai,.slice an aa.2.2.2.1.length aj,.slice ao aa.2.2.2.2.length ak]),.slice a1 ag.length az] w0 (fun e w'=>e= .returned ((.bool r))∧Below w0.heap.size w0 w'):=by
 refine Xb 4 (m:=36) func85 rfl rfl rfl rfl rfl ?_;rw [Zgy.eq_1] at hm;have ab:=St.start col w0;refine go ?_;refine Xh (col:=(Zi col)) 1 rfl ?_;intro a0 ba bb a2 ac;refine go ?_;refine Z9 ac ?_;refine go ?_;replace ap:=ap.keep (Zj.start col w0);replace h1:=h1.keep (Zj.start col w0);replace ab:=ab.grow a2;refine Zp hm (fun hb hm=>go ?_) fun hb hm=>go ?_
 ·cases hm;exact ⟨rfl,rfl,ab.below⟩
 refine Zw [1,2,1000000] (fun n f ar=>∃ ad aq ae,ae=n∧Za1 N aa ag ae aq=some r∧St w0 (Zi col) ad ar∧Zn 27 1 ad ar a0 #[.string aa.1,.slice al aa.2.1.length ah,.slice am aa.2.2.1.length ai,.slice an aa.2.2.2.1.length aj,.slice ao aa.2.2.2.2.length ak]∧[5].map f=[.int .i64 aq]) N ⟨_,0,_,rfl,hm,ab,ac,rfl⟩ ?_;clear hm;intro n f ar hI;obtain ⟨ad,aq,ae,hn,hm,ab,ac,hs⟩:=hI;subst hn;refine .lL [5] hs ?_
 cases ae with
 | zero=>rw [Za1.eq_1] at hm;cases hm
 | succ ae=>
  rw [Za1.eq_2] at hm;refine go ?_;refine Zp hm (fun hb hm=>?_) fun hb hm=>go ?_
  ·refine Yf<|Zu<|Zg9<|Zu ?_;refine Wp.cutK [1,2,5,1000000] (fun f au=>∃ av aw,Zgz aq (Za1 N aa ag ae) aw=some r∧St w0 (Zi col) av au∧Zn 27 1 av au a0 #[.string aa.1,.slice al aa.2.1.length ah,.slice am aa.2.2.1.length ai,.slice an aa.2.2.2.1.length aj,.slice ao aa.2.2.2.2.length ak]∧[35].map f=[.bool aw]) ?_ ?_
   ·intro f au hJ;obtain ⟨av,aw,hm,ab,ac,hs⟩:=hJ;rw [Zgz.eq_1] at hm;refine .lL [35] hs ?_;refine Zp hm (fun hb hm=>go ?_) fun hb hm=>go ?_
    ·cases hm;exact ⟨rfl,rfl,ab.below⟩
    exact ⟨ae,by omega,rfl,⟨_,_,_,rfl,hm,ab,ac,rfl⟩⟩
   refine Wj (col:=ad) (by kernel_rfl) (by kernel_rfl)<|go ?_;obtain ⟨a3,af,hm⟩:=bZ hm;refine qI af ((h1.ks ab).addr af)<|qW (fun _ hC=>((h1.ks ab).gr (hC.bl ad)).atInt af) ?_;refine go ?_;refine Xr hm (fun ax hm=>go ?_) fun ax hm=>go ?_
   ·refine qv (v:=(.bool true)) rfl (fun _ hC=>Z6 (congrArg Value.bool ax) rfl) ?_;refine Yn ?_;intro bc hC;replace hC:=hC.bl ad;replace ac:=ac.gr hC;replace ab:=ab.grow hC;exact ⟨rfl,_,_,hm,ab,ac,rfl⟩
   refine qI af ((h1.ks ab).addr af) ?_;refine go ?_;refine qW (fun _ hC=>((h1.ks ab).gr (hC.bl ad)).atInt af) ?_;refine go ?_;refine qF ⟨_,_,rfl⟩ ?_;refine go ?_;refine qW (fun _ hC=>((ac.atN).nth (q:=2) rfl).gr (hC.bl ad)) ?_;refine go ?_;obtain ⟨a4,ay,hm⟩:=bZ hm;refine qI ay ((ap.ks ab).addr ay) ?_;refine go ?_;obtain ⟨_,a5,a6⟩:=(ap.ks ab).atN ay;obtain ⟨⟨bd,be,rfl,bf⟩,_⟩:=a5;refine qW (fun _ hC=>a6.one.gr (hC.bl ad)) ?_;refine go ?_;refine qv (v:=(.bool (decide ((a4.length:Int)≤a3)))) rfl (fun _ hC=>Xg (congrArg Value.bool ax) rfl) ?_;refine Yn ?_;intro bg hC;replace hC:=hC.bl ad;replace ac:=ac.gr hC;replace ab:=ab.grow hC;exact ⟨rfl,_,_,hm,ab,ac,rfl⟩
  cases hm;exact ⟨rfl,rfl,ab.below⟩
def Zio (N:Nat) (aa:Rb):Option (List Int×Int):=
  (Sd N aa).bind fun ab=>if (!decide (ab=0))=true then (some (([]:List Int),ab)) else ((U4 N aa).bind fun ac=>some (ac,0))
theorem Zxh {N ac:Nat} {a0:Option Addr} {col:Zd} {w0:World} {ab:Rb} {r:(List Int×Int)} (c1:Nat) (hm:Zio N ab=some r) (h0:Sl (Za.slice (Za.int .i64)) col w0 a0 ac ab):
    Calls Tryz.prog 86 #[.slice a0 ab.length ac] w0 (fun e w'=>∃ (col':Zd) (ra1:Option Addr) (rc2:Nat),e= .returned (.tuple #[.slice ra1 r.1.length rc2,.int .i64 r.2])∧Zf col w0 col' w'∧Zc (Za.int .i64) 3 c1 col' w' ra1 rc2 r.1):=by
 refine Zj4 2 3 (m:=12) (args:=[.slice a0 ab.length ac]) func86 rfl rfl rfl rfl rfl ?_;rw [Zio.eq_1] at hm;have aa:=St.start col w0;refine go ?_;obtain ⟨aj,ae,hm⟩:=bZ hm;replace h0:=h0.keep (Zj.start col w0);refine Zh (Zo0 ae (h0.ks aa)) ?_;rintro _ af ⟨rfl,ad⟩;refine ⟨_,rfl,?_⟩;replace ad:Zf (Zi col) w0 (Zi col) af:=.of_below ad;refine go ?_;replace aa:=aa.grow ad;refine Zp hm (fun hb hm=>go ?_) fun hb hm=>go ?_
 ·cases hm;exact ⟨rfl,_,none,0,rfl,aa.fin (cm []),Zc.nil⟩
 obtain ⟨ak,ag,hm⟩:=bZ hm;refine Zh (Zo1 1 ag (h0.ks aa)) ?_;rintro _ al ⟨am,an,ao,rfl,ah,ai⟩;refine ⟨_,rfl,go ?_⟩;cases hm;replace aa:=aa.grow ah;exact ⟨rfl,_,_,_,rfl,aa.fin (cm [(1,c1)]),aa.fo ai⟩
def Zb6 (N:Nat) (aa:R1) (ac:List Int) (ad:(List Int×Int)):Nat→Bool→R2→R2→Bool→R2→R2→Int→Option Re
  | 0,_,_,_,_,_,_,_=>none
  | am+1,af,ag,ah,ai,aj,ak,ae=>if (decide (ae<(ad.1.length:Int)))=true then ((Zk ad.1 ae).bind fun al=>(Zk ac al).bind fun an=>(Zgw N (aa.1,aa.2.1,aa.2.2.1,aa.2.2.2.1,aa.2.2.2.2) al ac (((af,ag),ah),((ai,aj),ak))).bind fun ao=>(Zk ao an).bind fun ab=>(Zb6 N aa ac ad am) ab.1.1.1 ab.1.1.2 ab.1.2 ab.2.1.1 ab.2.1.2 ab.2.2 (i64.wrap (ae+1))) else (some ((((af,ag),ah),((ai,aj),ak)),0))
termination_by structural x=>x
def Zgx (N:Nat) (aa:R1) (ac:List Int):Option Re:=
  (Zgm N (aa.1,aa.2.1,aa.2.2.1,aa.2.2.2.1,aa.2.2.2.2)).bind fun ad=>if (!decide (ad=0))=true then (some ((((false,([]:List Int)),([]:List Int)),((false,([]:List Int)),([]:List Int))),ad)) else ((Zgy N (aa.1,aa.2.1,aa.2.2.1,aa.2.2.2.1,aa.2.2.2.2) ac).bind fun ae=>if (!ae)=true then (some ((((false,([]:List Int)),([]:List Int)),((false,([]:List Int)),([]:List Int))),3)) else ((Zio N aa.2.2.2.1).bind fun af=>(Ziw N).bind fun ab=>Zb6 N aa ac af N ab.1.1.1 ab.1.1.2 ab.1.2 ab.2.1.1 ab.2.1.2 ab.2.2 0))
theorem Zxw {N bn bo bp bq cb:Nat} {br bs bt bu a1:Option Addr} {col:Zd} {w0:World} {ag:R1} {bd:R2} {r:Re} (hm:Zgx N ag bd=some r) (a2:Sl Za.str col w0 br bn ag.2.1) (a3:Sl (Za.slice Za.str) col w0 bs bo ag.2.2.1) (aq:Sl (Za.slice (Za.int .i64)) col w0 bt bp ag.2.2.2.1) (a4:Sl (Za.slice (Za.pair (Za.pair Za.bool (Za.slice (Za.int .u32))) (Za.slice (Za.int .u32)))) col w0 bu bq ag.2.2.2.2) (h1:Sl (Za.int .i64) col w0 a1 cb bd):
    Calls Tryz.prog 22 #[(.agg #[.string ag.1,.slice br ag.2.1.length bn,.slice bs ag.2.2.1.length bo,.slice bt ag.2.2.2.1.length bp,.slice bu ag.2.2.2.2.length bq]),.slice a1 bd.length cb] w0 (fun e w'=>∃ (col':Zd) (ra1:Option Addr) (rc2:Nat) (ra4:Option Addr) (rc5:Nat) (ra7:Option Addr) (rc8:Nat) (ra10:Option Addr) (rc11:Nat),e= .returned (.tuple #[(.agg #[.bool r.1.1.1.1,.slice ra1 r.1.1.1.2.length rc2,.slice ra4 r.1.1.2.length rc5,.bool r.1.2.1.1,.slice ra7 r.1.2.1.2.length rc8,.slice ra10 r.1.2.2.length rc11]),.int .i64 r.2])∧Zf col w0 col' w'∧Sl (Za.int .u32) col' w' ra1 rc2 r.1.1.1.2∧Sl (Za.int .u32) col' w' ra4 rc5 r.1.1.2∧Sl (Za.int .u32) col' w' ra7 rc8 r.1.2.1.2∧Sl (Za.int .u32) col' w' ra10 rc11 r.1.2.2):=by
 refine Yd (m:=55) func22 rfl rfl rfl ?_;rw [Zgx.eq_1] at hm;have aa:=St.start col w0;refine go ?_;refine Xh (col:=(Zi col)) 1 rfl ?_;intro cf dq cg ch ab;refine Xp (col:=cg) #[.bool false,.slice none (([]:List Int).length) 0,.slice none (([]:List Int).length) 0,.bool false,.slice none (([]:List Int).length) 0,.slice none (([]:List Int).length) 0] 2 zeroValue49 ?_;intro ci cj be cc ac;refine go ?_;replace ab:=ab.gr cc;refine lV _ (Xj isAgg27 sizeOf27 ab) ?_;obtain ⟨dr,ck,hm⟩:=bZ hm;replace a2:=a2.keep (Zj.start col w0);replace a3:=a3.keep (Zj.start col w0);replace aq:=aq.keep (Zj.start col w0);replace a4:=a4.keep (Zj.start col w0);replace aa:=(aa.grow ch).grow cc;refine Zh (Zxk ck (a2.ks aa) (a3.ks aa) (aq.ks aa) (a4.ks aa)) ?_;rintro _ cd ⟨rfl,a5⟩;refine ⟨_,rfl,?_⟩;replace a5:Zf be cj be cd:=.of_below a5;refine go ?_;replace h1:=h1.keep (Zj.start col w0);replace ab:=ab.gr a5;replace ac:=ac.gr a5;replace aa:=aa.grow a5;refine Zp hm (fun hb hm=>go ?_) fun hb hm=>go ?_
 ·refine lV (.agg #[.bool false,.slice none (([]:List Int).length) 0,.slice none (([]:List Int).length) 0,.bool false,.slice none (([]:List Int).length) 0,.slice none (([]:List Int).length) 0]) (Ys (l:=[_,_]) (qs:=[(0,3),(3,3)]) underlying49 zeroValue49 ⟨rfl,sizeOf47,rfl,sizeOf47,trivial⟩ rfl)<|Xu rfl<|Z7 ac ?_;intro ds cl cn co;refine go ?_;cases hm;replace aa:=aa.kp cl cn;exact ⟨rfl,_,Tp co.atN,_,none,0,none,0,none,0,none,0,rfl,aa.fin (cm []),Sl.nil,Sl.nil,Sl.nil,Sl.nil⟩
 refine lV _ (Xj isAgg27 sizeOf27 ab)<|Y2 rfl ?_;obtain ⟨dt,cp,hm⟩:=bZ hm;refine Zh (Zxy cp (a2.ks aa) (a3.ks aa) (aq.ks aa) (a4.ks aa) (h1.ks aa)) ?_;rintro _ cq ⟨rfl,a6⟩;refine ⟨_,rfl,?_⟩;replace a6:Zf be cd be cq:=.of_below a6;refine go ?_;replace ab:=ab.gr a6;replace ac:=ac.gr a6;replace aa:=aa.grow a6;refine Zp hm (fun hb hm=>go ?_) fun hb hm=>go ?_
 ·refine lV (.agg #[.bool false,.slice none (([]:List Int).length) 0,.slice none (([]:List Int).length) 0,.bool false,.slice none (([]:List Int).length) 0,.slice none (([]:List Int).length) 0]) (Ys (l:=[_,_]) (qs:=[(0,3),(3,3)]) underlying49 zeroValue49 ⟨rfl,sizeOf47,rfl,sizeOf47,trivial⟩ rfl)<|Z7 ac ?_;intro du cr cs ct;refine go ?_;cases hm;replace aa:=aa.kp cr cs;exact ⟨rfl,_,Tp ct.atN,_,none,0,none,0,none,0,none,0,rfl,aa.fin (cm []),Sl.nil,Sl.nil,Sl.nil,Sl.nil⟩
 refine Z9 ab ?_;obtain ⟨ar,cu,hm⟩:=bZ hm;refine Zh (Zxh 3 cu (aq.ks aa)) ?_;rintro _ dv ⟨cv,bv,bw,rfl,bx,ad⟩;refine ⟨_,rfl,?_⟩;refine lM (.tuple #[.slice bv ar.1.length bw,.int .i64 ar.2])<|lV (.slice bv ar.1.length bw) (X2 rfl rfl)<|lV (.int .i64 ar.2) (X2 rfl rfl)<|go ?_;obtain ⟨dw,cw,hm⟩:=bZ hm;refine lc rfl rfl (Zcc call87) (Zxx (col:=cv) 4 5 6 7 cw:) ?_;rintro _ dx ⟨cx,dy,dz,d0,d1,d2,d3,d4,d5,rfl,bf,ah,ai,aj,ak⟩;refine ⟨_,rfl,?_⟩;refine Xp (col:=cx) #[.bool false,.slice none (([]:List Int).length) 0,.slice none (([]:List Int).length) 0,.bool false,.slice none (([]:List Int).length) 0,.slice none (([]:List Int).length) 0] 8 zeroValue49 ?_;intro cy d6 d7 am cz;refine Z7 cz ?_;intro d8 an c0 ae;refine go ?_;replace ad:=((ad.gr bf).gr am).kp an;replace ad:=ad.froz 4 (by decide);replace ah:=(ah.gr am).kp an;replace ah:=(ah).toSlF (Zm.int .u32);replace ai:=(ai.gr am).kp an;replace ai:=ai.froz 4 (by decide);replace aj:=(aj.gr am).kp an;replace aj:=aj.froz 4 (by decide);replace ak:=(ak.gr am).kp an;replace ak:=ak.froz 4 (by decide);replace ab:=(((ab.gr bx).gr bf).gr am).kp an;replace ab:=ab.froz 4 (by decide);replace ac:=(((ac.gr bx).gr bf).gr am).kp an;replace ac:=ac.froz 4 (by decide);replace ae:=ae.froz 4 (by decide);replace aa:=(((aa.grow bx).grow bf).grow am).kp an c0;replace aa:=aa.froz 4 (by decide) (by decide);replace ad:=ad.froz 5 (by decide);replace ah:=ah.froz 5;replace ai:=(ai).toSlF (Zm.int .u32);replace aj:=aj.froz 5 (by decide);replace ak:=ak.froz 5 (by decide);replace ab:=ab.froz 5 (by decide);replace ac:=ac.froz 5 (by decide);replace ae:=ae.froz 5 (by decide);replace aa:=aa.froz 5 (by decide) (by decide);replace ad:=ad.froz 6 (by decide);replace ah:=ah.froz 6;replace ai:=ai.froz 6;replace aj:=(aj).toSlF (Zm.int .u32);replace ak:=ak.froz 6 (by decide);replace ab:=ab.froz 6 (by decide);replace ac:=ac.froz 6 (by decide);replace ae:=ae.froz 6 (by decide);replace aa:=aa.froz 6 (by decide) (by decide);replace ad:=ad.froz 7 (by decide);replace ah:=ah.froz 7;replace ai:=ai.froz 7;replace aj:=aj.froz 7;replace ak:=(ak).toSlF (Zm.int .u32);replace ab:=ab.froz 7 (by decide);replace ac:=ac.froz 7 (by decide);replace ae:=ae.froz 7 (by decide);replace aa:=aa.froz 7 (by decide) (by decide)
 refine Zw [1,10,2,4,8,1000000] (fun n f al=>∃ af bz b0 b1 bg b2 b3 bh b4 b5 b6 bi b7 b8 bj b9 au,au=n∧Zb6 N ag bd ar au bz bg bh b4 bi bj b9=some r∧St w0 (Zi col) af al∧Sl (Za.int .u32) af al b0 b1 bg∧Sl (Za.int .u32) af al b2 b3 bh∧Sl (Za.int .u32) af al b5 b6 bi∧Sl (Za.int .u32) af al b7 b8 bj∧Zn 49 8 af al cy #[.bool bz,.slice b0 bg.length b1,.slice b2 bh.length b3,.bool b4,.slice b5 bi.length b6,.slice b7 bj.length b8]∧Zn 27 1 af al cf #[.string ag.1,.slice br ag.2.1.length bn,.slice bs ag.2.2.1.length bo,.slice bt ag.2.2.2.1.length bp,.slice bu ag.2.2.2.2.length bq]∧Zn 49 2 af al ci #[.bool false,.slice none (([]:List Int).length) 0,.slice none (([]:List Int).length) 0,.bool false,.slice none (([]:List Int).length) 0,.slice none (([]:List Int).length) 0]∧Zc (Za.int .i64) 3 3 af al bv bw ar.1∧[11].map f=[.int .i64 b9]) N ⟨_,_,_,_,_,_,_,_,_,_,_,_,_,_,_,0,_,rfl,hm,aa,ah,ai,aj,ak,ae,ab,ac,ad,rfl⟩ ?_;clear hm;intro n f al hI;obtain ⟨af,bz,b0,b1,bg,b2,b3,bh,b4,b5,b6,bi,b7,b8,bj,b9,au,hn,hm,aa,av,aw,ax,ay,ae,ab,ac,ad,hs⟩:=hI;subst hn;refine .lL [11] hs ?_
 cases au with
 | zero=>rw [Zb6.eq_1] at hm;cases hm
 | succ au=>
  rw [Zb6.eq_2] at hm;refine go ?_;refine Zp hm (fun hb hm=>go ?_) fun hb hm=>go ?_
  ·refine Wa (col:=af) [(0,0),(1,1),(2,1),(3,1),(4,0),(5,1),(6,0),(8,1),(9,1),(10,1),(11,1),(12,0),(13,1),(14,0),(7,3),(15,1),(16,0),(17,2)] (by kernel_rfl) (by kernel_rfl)<|xv rfl rfl (fun _ hC=>Xj isAgg27 sizeOf27 (ab.gr (hC.bl af))) ?_;refine xu rfl rfl (fun _=>Vs rfl) ?_;refine xu rfl rfl (fun _=>Vd rfl) ?_;obtain ⟨d9,ao,hm⟩:=bZ hm;refine xu rfl rfl (fun _=>Y3 underlying40 sizeOf3 rfl rfl (Xl ao).1 (Xl ao).2.1 (ad.addr ao)) ?_;refine xW (fun _ hC=>(ad.gr (hC.bl af)).atInt ao) ?_;refine xu rfl rfl (fun _=>Vs rfl) ?_;refine xv rfl rfl (fun _ hC=>Xj isAgg49 sizeOf49 (ae.gr (hC.bl af))) ?_;refine xu rfl rfl (fun _=>Vs rfl) ?_;refine xu rfl rfl (fun _=>Vs rfl) ?_;refine xu rfl rfl (fun _=>Vd rfl) ?_;refine xu rfl rfl (fun _=>Y3 underlying40 sizeOf3 rfl rfl (Xl ao).1 (Xl ao).2.1 (ad.addr ao)) ?_;refine xW (fun _ hC=>(ad.gr (hC.bl af)).atInt ao) ?_;obtain ⟨ea,bk,hm⟩:=bZ hm;refine xu rfl rfl (fun _=>Y3 underlying40 sizeOf3 rfl rfl (Xl bk).1 (Xl bk).2.1 ((h1.ks aa).addr bk)) ?_;refine xW (fun _ hC=>((h1.ks aa).gr (hC.bl af)).atInt bk) ?_;refine xe rfl rfl ?_;intro eb hC0;have hC:=hC0.bl af;obtain ⟨ec,c1,hm⟩:=bZ hm;replace av:=av.gr hC;replace aw:=aw.gr hC;replace ax:=ax.gr hC;replace ay:=ay.gr hC;replace aa:=aa.grow hC;refine Zh (Zxv 9 c1 (a2.ks aa) (a3.ks aa) (aq.ks aa) (a4.ks aa) (h1.ks aa) av aw ax ay) ?_;rintro _ ed ⟨a7,ee,ef,rfl,az,ce⟩;refine ⟨_,rfl,?_⟩;refine Zl<|Xo a7 hC0 az ?_;obtain ⟨a0,bm,hm⟩:=bZ hm;refine xu rfl rfl (fun _=>Y3 underlying120 sizeOf49 rfl rfl (Xl bm).1 (Xl bm).2.1 (ce.addr bm)) ?_;obtain ⟨_,c2,c3⟩:=ce.atN bm;obtain ⟨_,_,rfl,c4,c5⟩:=c2.parts;obtain ⟨_,_,rfl,c6,c7⟩:=c4.parts;obtain ⟨_,_,rfl,c8,c9⟩:=c6.parts;obtain rfl:=c8.bool;obtain ⟨da,db,rfl,a8⟩:=c9.slice;obtain ⟨dc,dd,rfl,a9⟩:=c7.slice;obtain ⟨_,_,rfl,de,df⟩:=c5.parts;obtain ⟨_,_,rfl,dg,dh⟩:=de.parts;obtain rfl:=dg.bool;obtain ⟨di,dj,rfl,ba⟩:=dh.slice;obtain ⟨dk,dl,rfl,bb⟩:=df.slice
   refine xv (v:=(.agg #[.bool a0.1.1.1,.slice da a0.1.1.2.length db,.slice dc a0.1.2.length dd,.bool a0.2.1.1,.slice di a0.2.1.2.length dj,.slice dk a0.2.2.length dl])) rfl rfl (fun _ hC=>Xq isAgg49 sizeOf49 rfl rfl (c3.gr (hC.bl a7))) ?_;refine xe rfl rfl ?_;intro eg hC0;replace ad:=(ad.gr hC).gr az;replace ae:=(ae.gr hC).gr az;replace ab:=(ab.gr hC).gr az;replace ac:=(ac.gr hC).gr az;have hC:=hC0.bl a7;replace ae:=ae.gr hC;refine Z7 ae ?_;intro eh ap dm ca;refine Zl<|xk a7<|Y1 ?_;replace aa:=((aa.grow az).grow hC).kp ap dm;replace ad:=(ad.gr hC).kp ap;replace a8:=(a8.gr hC).kp ap;replace a9:=(a9.gr hC).kp ap;replace ba:=(ba.gr hC).kp ap;replace bb:=(bb.gr hC).kp ap;replace ab:=(ab.gr hC).kp ap;replace ac:=(ac.gr hC).kp ap;intro ei hC;replace hC:=hC.bl a7;refine go ?_;replace a8:=a8.gr hC;replace a9:=a9.gr hC;replace ba:=ba.gr hC;replace bb:=bb.gr hC;replace ad:=ad.gr hC;replace ca:=ca.gr hC;replace ab:=ab.gr hC;replace ac:=ac.gr hC;replace aa:=aa.grow hC;exact ⟨au,by omega,rfl,⟨_,_,_,_,_,_,_,_,_,_,_,_,_,_,_,_,_,rfl,hm,aa,a8,a9,ba,bb,ca,ab,ac,ad,rfl⟩⟩
  refine lV _ (Xj isAgg49 sizeOf49 ae)<|Z7 ac ?_;intro ej bc dn dp;refine go ?_;cases hm;replace av:=av.kp bc;replace aw:=aw.kp bc;replace ax:=ax.kp bc;replace ay:=ay.kp bc;replace aa:=aa.kp bc dn;exact ⟨rfl,_,Tp dp.atN,_,_,_,_,_,_,_,_,_,rfl,aa.fin (cm []),aa.fs av,aa.fs aw,aa.fs ax,aa.fs ay⟩
def Td (n:Xx):List Int→Nat→Bool
 | [],_=>true
 | x :: l,k=>!decide (x<0)&&(!decide ((cnt n k:Int)≤x)&&Td n l (k+1))
theorem Zqm {n:Xx}:∀ (l:List Int) (k:Nat),Td n l k=true→∀ i,i<l.length→0≤l.getD i 0∧l.getD i 0<(cnt n (k+i):Int)
 | [],_,_,i,hi=>by simp at hi
 | x :: l,k,h,i,hi=>by
  simp only [Td,Bool.and_eq_true,Bool.not_eq_true',decide_eq_false_iff_not] at h
  cases i with
  | zero=>rw [List.getD_cons_zero,Nat.add_zero];omega
  | succ i=>
   rw [List.getD_cons_succ,show k+(i+1)=k+1+i by omega]
   exact Zqm l (k+1) h.2.2 i (by simpa using hi)
theorem Zzi {n:Xx} {w:List Int} (hl:w.length=n.2.1.length) (h:Td n w 0=true):Vo n w:=⟨hl,fun i hi=>by have:=Zqm w 0 h i hi;rwa [Nat.zero_add] at this⟩
section
variable {N:Nat} {n:Xx} (he:Uz n)
include he
theorem Zt8 (hl:n.2.1.length≤1048576) (w:List Int) (hw:w.length=n.2.1.length):∀ (l:List Int) (f k:Nat),w.drop k=l→k≤w.length→w.length<f+k→Za1 N n w f (k:Int)=some (Td n l k)
 | l,0,k,_,h1,h2=>by omega
 | l,f+1,k,hd,h1,h2=>by
  rw [Za1.eq_2]
  cases l with
  | nil=>
   have:=List.drop_eq_nil_iff.1 hd
   rw [if_neg (by rw [decide_eq_false (by omega)];decide),Td]
  | cons x l=>
   have hk:k<w.length:=by
    rcases Nat.lt_or_ge k w.length with h | h
    ·exact h
    ·rw [List.drop_eq_nil_of_le h] at hd;cases hd
   rw [List.drop_eq_getElem_cons hk] at hd
   obtain ⟨e1,e2⟩:=List.cons.inj hd
   rw [if_pos (decide_eq_true (by omega)),Zv hk,e1,Option.bind_some,Td]
   by_cases hx:x<0
   ·rw [if_pos (decide_eq_true hx),Zgz,if_pos rfl,decide_eq_true hx];rfl
   ·rw [if_neg (by rw [decide_eq_false hx];decide),Va [] (by rw [he.v];omega),Option.bind_some,Zgz,decide_eq_false hx]
    by_cases hc:(cnt n k:Int)≤x
    ·rw [show ((n.2.2.1.getD k []).length:Int)=(cnt n k:Int) from rfl,decide_eq_true hc,if_pos rfl];rfl
    ·rw [show ((n.2.2.1.getD k []).length:Int)=(cnt n k:Int) from rfl,decide_eq_false hc,if_neg (by decide),wS (by omega),Zt8 hl w hw l f (k+1) e2 (by omega) (by omega)];rfl
theorem Z13 (hl:n.2.1.length≤1048576) (w:List Int) (hN:1048577<N):Zgy N n w=some (decide (w.length=n.2.1.length)&&Td n w 0):=by
 rw [Zgy]
 by_cases h:w.length=n.2.1.length
 ·rw [if_neg (by rw [decide_eq_true (by omega)];decide),decide_eq_true h]
  exact Zt8 he hl w h w N 0 rfl (Nat.zero_le _) (by omega)
 ·rw [if_pos (by rw [decide_eq_false (by omega)];rfl),decide_eq_false h];rfl
theorem Zu9 (hl:n.2.1.length≤1048576) (w:List Int) (hw:w.length=n.2.1.length):∀ (l:List Int) (k:Nat) (b1:Bool) (l1 l2:List Int) (b3:Bool) (l3 l4:List Int),w.drop k=l→k≤w.length→Ss N n w l k b1 l1 l2 b3 l3 l4=if Td n l k=true then Ss N n w [] w.length b1 l1 l2 b3 l3 l4 else some ((((false,([]:List Int)),([]:List Int)),((false,([]:List Int)),([]:List Int))),3)
 | [],k,b1,l1,l2,b3,l3,l4,hd,h1=>by
  have:=List.drop_eq_nil_iff.1 hd
  rw [Td,if_pos rfl,show k=w.length by omega]
 | x :: l,k,b1,l1,l2,b3,l3,l4,hd,h1=>by
  have hk:k<w.length:=by
   rcases Nat.lt_or_ge k w.length with h | h
   ·exact h
   ·rw [List.drop_eq_nil_of_le h] at hd;cases hd
  rw [List.drop_eq_getElem_cons hk] at hd
  obtain ⟨e1,e2⟩:=List.cons.inj hd
  rw [Ss.eq_2,Td]
  by_cases hx:x<0
  ·rw [if_pos (decide_eq_true hx),Zex,if_pos rfl,decide_eq_true hx];rfl
  ·rw [if_neg (by rw [decide_eq_false hx];decide),Va [] (by rw [he.v];omega),Option.bind_some,Zex,decide_eq_false hx]
   by_cases hc:(cnt n k:Int)≤x
   ·rw [show ((n.2.2.1.getD k []).length:Int)=(cnt n k:Int) from rfl,decide_eq_true hc,if_pos rfl];rfl
   ·rw [show ((n.2.2.1.getD k []).length:Int)=(cnt n k:Int) from rfl,decide_eq_false hc,if_neg (by decide),Zu9 hl w hw l (k+1) b1 l1 l2 b3 l3 l4 e2 (by omega)];rfl
end
section
variable {N W K:Nat} {n:Xx} (hf:Uk N n) (hs:U1 n W) (hr:Xd N (8 * K+40)) (hN:1048577<N)
include hf hs hr hN
theorem Zut (hWK:W≤K) {w:List Int} (hw:Vo n w) {ord:List Int} {e:Int} (ho:Zhg n.2.2.2.1 ord) (hol:ord.length≤1048576):∀ (l:List Int) (f i:Nat) (s:Rat×Rat) (D M:Nat),ord.drop i=l→i≤ord.length→ord.length<f+i→U0 D M s→(Ze M).length+(Ze D).length+l.length * (W+2)+2≤K→
  Zb6 N n w (ord,e) f (Zr s.1).1.1 (Zr s.1).1.2 (Zr s.1).2 (Zr s.2).1.1 (Zr s.2).1.2 (Zr s.2).2 (i:Int)=some (Wv (V5 n w l s),0)∧∃ D' M',U0 D' M' (V5 n w l s)∧(Ze M').length+(Ze D').length≤(Ze M).length+(Ze D).length+l.length * (W+2)
 | l,0,i,s,D,M,_,h1,h2,_,_=>by omega
 | [],f+1,i,s,D,M,hd,h1,h2,hL,hK=>by
  have:=List.drop_eq_nil_iff.1 hd
  rw [Zb6.eq_2,if_neg (by rw [decide_eq_false (by rw [show ((ord,e):List Int×Int).1=ord from rfl];omega)];decide)]
  exact ⟨rfl,D,M,hL,by simp⟩
 | v :: l,f+1,i,s,D,M,hd,h1,h2,hL,hK=>by
  have hi:i<ord.length:=by
   rcases Nat.lt_or_ge i ord.length with h | h
   ·exact h
   ·rw [List.drop_eq_nil_of_le h] at hd;cases hd
  rw [List.drop_eq_getElem_cons hi] at hd
  obtain ⟨e1,e2⟩:=List.cons.inj hd
  have hvr:=ho.rg v (e1 ▸ List.getElem_mem hi)
  rw [hf.ev.p] at hvr
  obtain ⟨k,rfl⟩:∃ k:Nat,v=(k:Int):=⟨v.toNat,by omega⟩
  have hv:k<n.2.1.length:=by omega
  obtain ⟨D',M',c1,c2,c3⟩:=Zmv hf hs hw hv hL
  have hKs:(l.length+1) * (W+2)=l.length * (W+2)+(W+2):=by rw [Nat.add_mul,Nat.one_mul]
  rw [List.length_cons,hKs] at hK
  have hnk:=hw.ok k (by rw [hw.len];exact hv)
  obtain ⟨q,hq⟩:∃ q:Nat,w.getD k 0=(q:Int):=⟨(w.getD k 0).toNat,by omega⟩
  have hql:q<(Vr (s.2 - s.1) (Yb n w k) s.1).length:=by rw [Zm6,hf.rowT_len hw hv];omega
  have hP:Zgw N (n.1,n.2.1,n.2.2.1,n.2.2.2.1,n.2.2.2.2) (k:Int) w ((((Zr s.1).1.1,(Zr s.1).1.2),(Zr s.1).2),(((Zr s.2).1.1,(Zr s.2).1.2),(Zr s.2).2))=some ((Vr (s.2 - s.1) (Yb n w k) s.1).map Wv):=Z17 hf hs hr hWK hN hw hv hL (by omega)
  obtain ⟨ih1,D2,M2,ih2,ih3⟩:=Zut hWK hw ho hol l f (i+1) _ D' M' e2 (by omega) (by omega) (c2 _ (Zrq hql)) (by omega)
  refine ⟨?_,D2,M2,?_,?_⟩
  ·rw [Zb6.eq_2,if_pos (decide_eq_true (by rw [show ((ord,e):List Int×Int).1=ord from rfl];omega)),show ((ord,e):List Int×Int).1=ord from rfl,Zv hi,e1,Option.bind_some,Va 0 (by rw [hw.len];exact hv),hq,Option.bind_some,hP,Option.bind_some,Zrl hql,Option.bind_some,wS (by omega),V5,Int.toNat_natCast,hq,Int.toNat_natCast]
   exact ih1
  ·rw [V5,Int.toNat_natCast,hq,Int.toNat_natCast];exact ih2
  ·rw [List.length_cons,hKs];omega
end
def Zpu (k:Int):(QV×QV)×Int:=((((false,([]:List Int)),([]:List Int)),((false,([]:List Int)),([]:List Int))),k)
theorem Zqg {N K:Nat} {q:Rat} (hr:Xd N (8 * K+40)) (hq:qs q≤K):Zbe N (((Zr q).1.1,(Zr q).1.2),(Zr q).2)=some (Zr q):=by
 have hz:RV 0 ((false,([]:List Int)),([]:List Int)):=⟨by simp [Zo],by simp [Zo],by simp,by simp⟩
 have h1:=Zml (Uv hq) hz (hr.mono (by omega))
 have h2:Z1 ((false,([]:List Int)),([]:List Int))=0:=by rw [Z1];simp [Zs,Zb]
 rw [Vm,h2,Rat.add_zero] at h1
 rw [Zbe]
 have h3:Zac N (((Zr q).1.1,(Zr q).1.2),(Zr q).2) ((false,([]:List Int)),([]:List Int))=some (Zr q):=h1
 rw [h3];rfl
theorem Z2j {N W K:Nat} {n:Xx} {w:List Int} (hs:U1 n W) (hr:Xd N (8 * K+40)) (hWK:1025 * (W+2)+4≤K) (hN:2000000<N):
  ∃ x:(QV×QV)×Int,Zct N n w=some x∧Zgx N n w=some x∧((∃ e,x=Zpu e)∨∃ p:Rat×Rat,x=(Wv p,0)∧qs p.1≤K∧qs p.2≤K):=by
 obtain ⟨e,m1,m2,fine⟩:=Zya hs (hr.mono (s:=8 * W+40) (by omega)) hN
 have m1':Zfg N (n.1,n.2.1,n.2.2.1,n.2.2.2.1,n.2.2.2.2)=some e:=m1
 have m2':Zgm N (n.1,n.2.1,n.2.2.1,n.2.2.2.1,n.2.2.2.2)=some e:=m2
 rw [Zct,Zgx,m1',m2',Option.bind_some,Option.bind_some]
 by_cases h0:e=0
 ·have hf:=fine h0
  have hc0:¬ (!decide (e=0))=true:=by rw [decide_eq_true h0];decide
  rw [if_neg hc0,if_neg hc0]
  have hle:=hf.le
  have hri:Zgy N (n.1,n.2.1,n.2.2.1,n.2.2.2.1,n.2.2.2.2) w=some (decide (w.length=n.2.1.length)&&Td n w 0):=Z13 hf.ev (by omega) w (by omega)
  rw [hri,Option.bind_some]
  by_cases hlen:w.length=n.2.1.length
  ·rw [if_neg (show ¬ (!decide ((w.length:Int)=(n.2.1.length:Int)))=true by rw [decide_eq_true (by omega)];decide),Zu9 hf.ev (by omega) w hlen w 0 false [] [] false [] [] rfl (Nat.zero_le _),decide_eq_true hlen,Bool.true_and]
   cases hin:Td n w 0 with
   | false=>rw [if_neg (show ¬ false=true by decide),if_pos (show (!false)=true from rfl)];exact ⟨_,rfl,rfl,.inl ⟨3,rfl⟩⟩
   | true=>
    have hw:=Zzi hlen hin
    obtain ⟨l,o1,o2,o3,o4,o5⟩:=hf.or
    have hpl:n.2.2.2.1.length≤1024:=by rw [hf.ev.p];exact hle
    have ho:Zhg n.2.2.2.1 l:=Z0v (by omega) hs.pn.ls (by omega) o2 o4
    have hol:l.length≤1024:=by omega
    have hmul:l.length * (W+2)≤1024 * (W+2):=Nat.mul_le_mul_right _ hol
    have h1:(Ze 1).length=1:=by rw [Tg];rfl
    obtain ⟨w',hc⟩:=Zyi hf hs hr hWK (by omega) hw ho hol
    obtain ⟨hR,D,M,hLv,hLe⟩:=Zut (e:=0) hf hs hr (by omega) (by omega) hw ho (by omega) l N 0 (0,1) 1 1 rfl (Nat.zero_le _) (by omega) U0.zero (by omega)
    have qa:qs (V5 n w l (0,1)).1≤K:=by have:=hLv.qa;omega
    have qb:qs (V5 n w l (0,1)).2≤K:=by have:=hLv.qb;omega
    have hO:Zio N n.2.2.2.1=some (l,0):=by rw [Zio,o3,Option.bind_some,if_neg (by decide),o2];rfl
    have hc':Zey N (n.1,n.2.1,n.2.2.1,n.2.2.2.1,n.2.2.2.2) l w=some (w',Wv (V5 n w l (0,1)),true):=hc
    refine ⟨(Wv (V5 n w l (0,1)),0),?_,?_,.inr ⟨_,rfl,qa,qb⟩⟩
    ·rw [if_pos rfl,Ss.eq_1,o1,Option.bind_some,hc',Option.bind_some]
     have f1:=Zqg hr qa
     have f2:=Zqg hr qb
     exact (by
      show (Zbe N (((Zr (V5 n w l (0,1)).1).1.1,(Zr (V5 n w l (0,1)).1).1.2),(Zr (V5 n w l (0,1)).1).2)).bind _=_
      rw [f1,Option.bind_some]
      show (Zbe N (((Zr (V5 n w l (0,1)).2).1.1,(Zr (V5 n w l (0,1)).2).1.2),(Zr (V5 n w l (0,1)).2).2)).bind _=_
      rw [f2];rfl)
    ·rw [if_neg (by decide),hO,Option.bind_some,Z1n (hr.mono (by omega)),Option.bind_some]
     exact hR
  ·rw [if_pos (show (!decide ((w.length:Int)=(n.2.1.length:Int)))=true by rw [decide_eq_false (by omega)];rfl),decide_eq_false hlen,Bool.false_and,if_pos (show (!false)=true from rfl)]
   exact ⟨_,rfl,rfl,.inl ⟨3,rfl⟩⟩
 ·have hc0:(!decide (e=0))=true:=by rw [decide_eq_false h0];rfl
  rw [if_pos hc0,if_pos hc0]
  exact ⟨_,rfl,rfl,.inl ⟨e,rfl⟩⟩
def Zgs (aa:R0):Option ((Bool×R5)×R5):=
  Zx ((([]:List Int).length+aa.1.2.length) * 4≤140737488355328∧([]:List Int).length+aa.1.2.length≤maxLen) (Zx (((([]:List Int)++aa.1.2).length+[901,902].length) * 4≤140737488355328∧(([]:List Int)++aa.1.2).length+[901,902].length≤maxLen) (Zx ((([]:List Int).length+aa.2.length) * 4≤140737488355328∧([]:List Int).length+aa.2.length≤maxLen) (Zx (((([]:List Int)++aa.2).length+[903,904].length) * 4≤140737488355328∧(([]:List Int)++aa.2).length+[903,904].length≤maxLen) (Zx ((0:Int)≤(aa.1.2.length:Int)∧(aa.1.2.length:Int)≤(((([]:List Int)++aa.1.2)++[901,902]).length:Int)) (Zx ((0:Int)≤(aa.2.length:Int)∧(aa.2.length:Int)≤(((([]:List Int)++aa.2)++[903,904]).length:Int)) (some ((aa.1.1,((Int.toNat (aa.1.2.length:Int)),(([]:List Int)++aa.1.2)++[901,902])),((Int.toNat (aa.2.length:Int)),(([]:List Int)++aa.2)++[903,904]))))))))
theorem Zxq {a1 a2:Nat} {a3 a4:Option Addr} {col:Zd} {w0:World} {aa:R0} {r:((Bool×R5)×R5)} (hm:Zgs aa=some r) (ap:Sl (Za.int .u32) col w0 a3 a1 aa.1.2) (aq:Sl (Za.int .u32) col w0 a4 a2 aa.2):
    Calls Tryz.prog 29 #[(.agg #[.bool aa.1.1,.slice a3 aa.1.2.length a1,.slice a4 aa.2.length a2])] w0 (fun e w'=>∃ (col':Zd) (ra1:Option Addr) (rc2:Nat) (ra4:Option Addr) (rc5:Nat),e= .returned ((.agg #[.bool r.1.1,.slice ra1 ((r.1.2.2.take r.1.2.1).length) rc2,.slice ra4 ((r.2.2.take r.2.1).length) rc5]))∧Zf col w0 col' w'∧Sl (Za.int .u32) col' w' ra1 rc2 r.1.2.2∧Sl (Za.int .u32) col' w' ra4 rc5 r.2.2):=by
 refine Yd (m:=36) func29 rfl rfl rfl ?_;rw [Zgs.eq_1] at hm;have ab:=St.start col w0;refine go ?_;refine Xh (col:=(Zi col)) 1 rfl ?_;intro bh bi a6 a7 ad;refine Xp (col:=a6) #[.bool false,.slice none (([]:List Int).length) 0,.slice none (([]:List Int).length) 0] 2 zeroValue47 ?_;intro bj bk bm a5 ar;refine go ?_;refine Z3 ⟨_,_,rfl⟩ ?_;refine Z3 (X9 ⟨_,_,rfl⟩) ?_;replace ad:=ad.gr a5;refine lW ((((ad.atN).part 0 2 _ rfl)).nth (q:=1) rfl) ?_;obtain ⟨a8,hm⟩:=Zz hm;replace ap:=ap.keep (Zj.start col w0);replace ab:=(ab.grow a7).grow a5;refine Wn (c:=3) Zc.nil (ap.ks ab).srcC a8 ?_;intro bn bo bp a9 au av;refine go ?_;refine Wu (col:=a9) [901,902] 4 ?_;intro bq br bs ak ba;obtain ⟨bb,hm⟩:=Zz hm;replace av:=av.gr ak;refine Wn av (ba.srcN (NB.int (k:=.u32))) bb ?_;intro ah ai bt bu aw ac;refine go ?_;refine Z3 ⟨_,_,rfl⟩ ?_;replace ad:=((ad.kpp au).gr ak).kpp aw;refine lW ((ad.atN).nth (q:=2) rfl) ?_;obtain ⟨bc,hm⟩:=Zz hm;replace aq:=aq.keep (Zj.start col w0);replace ab:=((ab.kpp au).grow ak).kpp aw;refine Wn (c:=5) Zc.nil (aq.ks ab).srcC bc ?_;intro bv bw bx bd al ax;refine go ?_;refine Wu (col:=bd) [903,904] 6 ?_;intro bz b0 b1 aj be;obtain ⟨bf,hm⟩:=Zz hm;replace ax:=ax.gr aj;refine Wn ax (be.srcN (NB.int (k:=.u32))) bf ?_;intro am an b2 af ao ae;refine go ?_;refine Wa (col:=af) [(0,1),(1,1),(2,0),(3,1),(4,1),(5,1),(6,0),(7,1),(8,1),(9,1),(10,1),(11,1),(12,0),(13,1),(14,1),(15,1),(16,2)] (by kernel_rfl) (by kernel_rfl)<|xF ⟨_,_,rfl⟩ ?_;refine xF (X9 ⟨_,_,rfl⟩) ?_;replace ad:=((ad.kpp al).gr aj).kpp ao;refine xW (fun _ hC=>((((ad.atN).part 0 2 _ rfl)).nth (q:=0) rfl).gr (hC.bl af)) ?_;refine xu rfl rfl (fun _=>Vs rfl) ?_;refine xF ⟨_,_,rfl⟩ ?_;refine xF (X9 ⟨_,_,rfl⟩) ?_;refine xW (fun _ hC=>((((ad.atN).part 0 2 _ rfl)).nth (q:=1) rfl).gr (hC.bl af)) ?_;refine xu rfl rfl (fun _=>To underlying43 rfl) ?_;obtain ⟨ay,hm⟩:=Zz hm;replace ac:=((ac.kpp al).gr aj).kpp ao;refine xu (v:=.slice ah (Int.toNat (aa.1.2.length:Int)) ai) rfl rfl (fun _=>Vu underlying43 sizeOf79 rfl rfl ay.1 (by have:=ac.lecap;have:=ay.2;omega)) ?_;refine .ld (d:=28) (v:=(.slice ah ((((([]:List Int)++aa.1.2)++[901,902]).take (Int.toNat (aa.1.2.length:Int))).length) ai)) (congrArg (fun n=>Value.slice ah n ai) (List.length_take_of_le (show (Int.toNat (aa.1.2.length:Int))≤((([]:List Int)++aa.1.2)++[901,902]).length by have:=ay.2;omega)).symm) ?_
 refine xu (v:=(.agg #[.bool aa.1.1,(.slice ah ((((([]:List Int)++aa.1.2)++[901,902]).take (Int.toNat (aa.1.2.length:Int))).length) ai)])) rfl rfl (fun _=>Ys (l:=[_,_]) (qs:=[(0,1),(1,1)]) underlying45 zeroValue45 ⟨rfl,sizeOf4,rfl,sizeOf43,trivial⟩ rfl) ?_;refine xu rfl rfl (fun _=>Vs rfl) ?_;refine xF ⟨_,_,rfl⟩ ?_;refine xW (fun _ hC=>((ad.atN).nth (q:=2) rfl).gr (hC.bl af)) ?_;refine xu rfl rfl (fun _=>To underlying43 rfl) ?_;obtain ⟨az,hm⟩:=Zz hm;refine xu (v:=.slice am (Int.toNat (aa.2.length:Int)) an) rfl rfl (fun _=>Vu underlying43 sizeOf79 rfl rfl az.1 (by have:=ae.lecap;have:=az.2;omega)) ?_;refine .ld (d:=34) (v:=(.slice am ((((([]:List Int)++aa.2)++[903,904]).take (Int.toNat (aa.2.length:Int))).length) an)) (congrArg (fun n=>Value.slice am n an) (List.length_take_of_le (show (Int.toNat (aa.2.length:Int))≤((([]:List Int)++aa.2)++[903,904]).length by have:=az.2;omega)).symm) ?_;refine xu (v:=(.agg #[.bool aa.1.1,(.slice ah ((((([]:List Int)++aa.1.2)++[901,902]).take (Int.toNat (aa.1.2.length:Int))).length) ai),(.slice am ((((([]:List Int)++aa.2)++[903,904]).take (Int.toNat (aa.2.length:Int))).length) an)])) rfl rfl (fun _=>Ys (l:=[_,_]) (qs:=[(0,2),(2,1)]) underlying47 zeroValue47 ⟨rfl,sizeOf45,rfl,sizeOf43,trivial⟩ rfl) ?_;refine xe rfl rfl ?_;intro b3 hC0;have hC:=hC0.bl af;replace ar:=((((((ar.kpp au).gr ak).kpp aw).kpp al).gr aj).kpp ao).gr hC;refine Z7 ar ?_;intro b4 a0 bg ag;refine Zl<|xk af<|Y1 ?_;replace ab:=((((ab.kpp al).grow aj).kpp ao).grow hC).kp a0 bg;replace ac:=(ac.gr hC).kp a0;replace ae:=(ae.gr hC).kp a0;intro b5 hC;replace hC:=hC.bl af;refine Y4 ?_;replace ac:=ac.gr hC;replace ac:=(ac).toSlF (Zm.int .u32);replace ae:=ae.gr hC;replace ae:=ae.froz 3 (by decide);replace ag:=ag.gr hC;replace ag:=ag.froz 3 (by decide);replace ab:=ab.grow hC;replace ab:=ab.froz 3 (by decide) (by decide);replace ac:=ac.froz 5;replace ae:=(ae).toSlF (Zm.int .u32);replace ag:=ag.froz 5 (by decide);replace ab:=ab.froz 5 (by decide) (by decide);cases hm;exact ⟨rfl,_,ra ag.atN,_,_,_,_,_,rfl,ab.fin (cm []),ab.fs ac,ab.fs ae⟩

end Go.Proofs.YtbmjpjhbankpoaaGreat
