/-
  What functions of the program compute, as plain Lean functions (m_..), and proofs that they compute it (c_..). Printed by a program of the author; no conditions.
-/
import Derived.Test.YtbmjpjhbankpoaaGreatCodeAtBFloat
import Derived.Test.YtbmjpjhbankpoaaGreatProg
import Derived.Test.YtbmjpjhbankpoaaGreatCodeAtBBrief
import Derived.Test.YtbmjpjhbankpoaaGreatCodeAtBThree
import Derived.Test.YtbmjpjhbankpoaaGreatCodeAtBView
import Derived.Test.YtbmjpjhbankpoaaGreatCodeAtF3
set_option linter.unusedVariables false
set_option maxRecDepth 100000
set_option maxHeartbeats 2000000
namespace Go.Proofs.YtbmjpjhbankpoaaGreat
open Go Go.RowKit
open Go.IntKind (i8 i16 i32 i64 u8 u16 u32 u64)
open Go.Proofs.Tryz

def Zgr (aa:Int) (kk_L2:(Bool→Int→Option Int)) (ab:Bool):Option Int:=
  kk_L2 ab (i64.wrap (aa+1))
def Zav (N:Nat) (ad:R0) (ab:Int) (kk_L1:(Int→Option Int)):Nat→Bool→Int→Option Int
  | 0,_,_=>none
  | ae+1,af,aa=>(Zk ad.2.2.1 ab).bind fun ac=>if (decide (aa<(ac.length:Int)))=true then (if af=true then (Zgr aa (Zav N ad ab kk_L1 ae) true) else ((Zk ac aa).bind fun ag=>(Ziw N ac ag).bind fun ah=>Zgr aa (Zav N ad ab kk_L1 ae) (decide (ah<aa)))) else (if af=true then (some 40) else (if (decide ((ac.length:Int)=0))=true then (some 43) else (kk_L1 (i64.wrap (ab+1)))))
termination_by structural x=>x
def Zdz (N:Nat) (ad:R0) (aa:Int) (kk_L4:(Int→Option Int)):Nat→Int→Option Int
  | 0,_=>none
  | af+1,ab=>(Zk ad.2.2.2.2 aa).bind fun ae=>if (decide (ab<(ae.length:Int)))=true then ((Zk ae ab).bind fun ac=>(Zgu N ((ac.1.1,ac.1.2),ac.2)).bind fun ag=>if ag=true then (some 45) else ((Zdz N ad aa kk_L4 af) (i64.wrap (ab+1)))) else (kk_L4 (i64.wrap (aa+1)))
termination_by structural x=>x
def Zax (N:Nat) (ab:R0) (ac:List Int):Nat→Int→Option Int
  | 0,_=>none
  | ad+1,aa=>if (decide (aa<(ab.2.1.length:Int)))=true then ((Zk ab.2.2.2.2 aa).bind fun ae=>(Zk ac aa).bind fun af=>(Zkv N ae af).bind fun ag=>if (!ag)=true then (some 46) else ((Zax N ab ac ad) (i64.wrap (aa+1)))) else (some 0)
termination_by structural x=>x
def Qz (N:Nat) (aa:R0) (ab:List Int):Nat→Int→Option Int
  | 0,_=>none
  | ad+1,ac=>if (decide (ac<(aa.2.1.length:Int)))=true then (Zdz N aa ac (Qz N aa ab ad) N 0) else (Zax N aa ab N 0)
termination_by structural x=>x
def Zaw (N:Nat) (aa:R0) (ac:List Int):Nat→Int→Option Int
  | 0,_=>none
  | af+1,ab=>if (decide (ab<(aa.2.1.length:Int)))=true then ((Zk aa.2.2.2.1 ab).bind fun ag=>(Ziv N ag ac).bind fun ad=>(Zk ac ab).bind fun ae=>(Zix ad ae).bind fun ah=>if ah=true then (some 4) else ((Zk aa.2.2.2.2 ab).bind fun ai=>if (!decide ((ai.length:Int)=(i64.wrap (ad * ae))))=true then (some 60) else ((Zaw N aa ac af) (i64.wrap (ab+1))))) else (Qz N aa ac N 0)
termination_by structural x=>x
def Sf (N:Nat) (aa:R0):Nat→Int→Option Int
  | 0,_=>none
  | ad+1,ab=>if (decide (ab<(aa.2.1.length:Int)))=true then ((Zk aa.2.1 ab).bind fun ae=>(Ziw N aa.2.1 ae).bind fun af=>Zav N aa ab (Sf N aa ad) N (decide (af<ab)) 0) else ((Se N aa.2.2.2.1).bind fun ac=>if (!decide (ac=0))=true then (some ac) else ((Zd2 N (aa.1,aa.2.1,aa.2.2.1,aa.2.2.2.1,aa.2.2.2.2)).bind fun ag=>Zaw N aa ag N 0))
termination_by structural x=>x
def Zb2 (N:Nat) (aa:R0) (ab:Bool):Option Int:=
  if ab=true then (some 60) else (if (decide (1024<(aa.2.1.length:Int)))=true then (some 4) else (Sf N aa N 0))
def Zgq (N:Nat) (aa:R0):Option Int:=
  if (!decide ((aa.2.2.1.length:Int)=(aa.2.1.length:Int)))=true then (Zb2 N aa true) else (if (!decide ((aa.2.2.2.1.length:Int)=(aa.2.1.length:Int)))=true then (Zb2 N aa true) else (Zb2 N aa (!decide ((aa.2.2.2.2.length:Int)=(aa.2.1.length:Int)))))
theorem Zxt {N ak al am an:Nat} {ao ap aq ar:Option Addr} {col:Zd} {w0:World} {ab:R0} {r:Int} (hm:Zgq N ab=some r) (a0:Sl Za.str col w0 ao ak ab.2.1) (ah:Sl (Za.slice Za.str) col w0 ap al ab.2.2.1) (a1:Sl (Za.slice (Za.int .i64)) col w0 aq am ab.2.2.2.1) (ai:Sl (Za.slice (Za.pair (Za.pair Za.bool (Za.slice (Za.int .u32))) (Za.slice (Za.int .u32)))) col w0 ar an ab.2.2.2.2):
    Calls Tryz.prog 79 #[(.agg #[.string ab.1,.slice ao ab.2.1.length ak,.slice ap ab.2.2.1.length al,.slice aq ab.2.2.2.1.length am,.slice ar ab.2.2.2.2.length an])] w0 (fun e w'=>e= .returned ((.int .i64 r))∧Below w0.heap.size w0 w'):=by
 refine Xe 2 (m:=175) func79 rfl rfl rfl rfl rfl ?_;rw [Zgq.eq_1] at hm;have aa:=St.start col w0;refine go ?_;refine Xf (col:=(Zi col)) 1 rfl ?_;intro av dt du cg ac;refine go ?_;refine Z7 ac<|lV _ (Tt underlying22 rfl)<|Yw rfl<|Zl<|Zu<|Zu ?_;replace a0:=a0.keep (Zj.start col w0);replace ah:=ah.keep (Zj.start col w0);replace a1:=a1.keep (Zj.start col w0);replace ai:=ai.keep (Zj.start col w0);replace aa:=aa.grow cg;refine Wp.cutK [1,3,1000000] (fun f bo=>∃ bp bq,Zb2 N ab bq=some r∧St w0 (Zi col) bp bo∧Zm 27 1 bp bo av #[.string ab.1,.slice ao ab.2.1.length ak,.slice ap ab.2.2.1.length al,.slice aq ab.2.2.2.1.length am,.slice ar ab.2.2.2.2.length an]∧[38].map f=[.bool bq]) ?_ ?_
 ·intro f bo hJ;obtain ⟨bp,bq,hm,aa,ac,hs⟩:=hJ;rw [Zb2.eq_1] at hm;refine .lL [38] hs ?_;refine Zp hm (fun hb hm=>go ?_) fun hb hm=>go ?_
  ·cases hm;exact ⟨rfl,rfl,aa.below⟩
  refine Zp hm (fun hb hm=>go ?_) fun hb hm=>go ?_
  ·cases hm;exact ⟨rfl,rfl,aa.below⟩
  refine Z0 [1,3,1000000] (fun n f bf=>∃ aj a8 aw,aw=n∧Sf N ab aw a8=some r∧St w0 (Zi col) aj bf∧Zm 27 1 aj bf av #[.string ab.1,.slice ao ab.2.1.length ak,.slice ap ab.2.2.1.length al,.slice aq ab.2.2.2.1.length am,.slice ar ab.2.2.2.2.length an]∧[4].map f=[.int .i64 a8]) N ⟨_,0,_,rfl,hm,aa,ac,rfl⟩ ?_;clear hm;intro n f bf hI;obtain ⟨aj,a8,aw,hn,hm,aa,ac,hs⟩:=hI;subst hn;refine .lL [4] hs ?_
  cases aw with
  | zero=>rw [Sf.eq_1] at hm;cases hm
  | succ aw=>
   rw [Sf.eq_2] at hm;refine go ?_;refine Zp hm (fun hb hm=>go ?_) fun hb hm=>go ?_
   ·refine Wg (col:=aj) (by kernel_rfl) (by kernel_rfl)<|qF ⟨_,_,rfl⟩ ?_;refine qW (fun _ hC=>((ac.atN).nth (q:=1) rfl).gr (hC.bl aj)) ?_;refine qF ⟨_,_,rfl⟩ ?_;refine qW (fun _ hC=>((ac.atN).nth (q:=1) rfl).gr (hC.bl aj)) ?_;refine go ?_;obtain ⟨dv,br,hm⟩:=bZ hm;refine qI br ((a0.ks aa).addr br)<|qW (fun _ hC=>((a0.ks aa).gr (hC.bl aj)).atStr br) ?_;obtain ⟨ch,ci,hm⟩:=bZ hm;refine qc (v:=(.int .i64 ch)) rfl (fun _ hC=>⟨_,_,Ts call192 rfl rfl,(Zpd ci ((a0.ks aa).gr (hC.bl aj)):).mono fun _ _ h=>⟨h.1,hC.trans (.of_below h.2)⟩⟩) ?_;refine go ?_;refine Yk ?_;intro dw hC;replace hC:=hC.bl aj;refine go ?_;replace ac:=ac.gr hC;replace aa:=aa.grow hC;refine Z0 [1,3,4,1000000] (fun n f bs=>∃ af bt a9 ay,ay=n∧Zav N ab a8 (Sf N ab aw) ay bt a9=some r∧St w0 (Zi col) af bs∧Zm 27 1 af bs av #[.string ab.1,.slice ao ab.2.1.length ak,.slice ap ab.2.2.1.length al,.slice aq ab.2.2.2.1.length am,.slice ar ab.2.2.2.2.length an]∧[5,6].map f=[.bool bt,.int .i64 a9]) N ⟨_,_,0,_,rfl,hm,aa,ac,rfl⟩ ?_;clear hm;intro n f bs hI;obtain ⟨af,bt,a9,ay,hn,hm,aa,ac,hs⟩:=hI;subst hn;refine .lL [5,6] hs ?_
    cases ay with
    | zero=>rw [Zav.eq_1] at hm;cases hm
    | succ ay=>
     rw [Zav.eq_2] at hm;refine go ?_;refine Z7 ac<|Xy rfl ?_;obtain ⟨dx,ag,hm⟩:=bZ hm;refine lI ag ((ah.ks aa).addr ag) ?_;obtain ⟨_,cj,ck⟩:=(ah.ks aa).atN ag;obtain ⟨⟨dy,dz,rfl,d0⟩,_⟩:=cj;refine lW ck.one<|go ?_;refine Zp hm (fun hb hm=>?_) fun hb hm=>go ?_
     ·refine X7<|Zu ?_;refine Wp.cutK [1,3,4,6,1000000] (fun f bu=>∃ bv bw,Zgr a9 (Zav N ab a8 (Sf N ab aw) ay) bw=some r∧St w0 (Zi col) bv bu∧Zm 27 1 bv bu av #[.string ab.1,.slice ao ab.2.1.length ak,.slice ap ab.2.2.1.length al,.slice aq ab.2.2.2.1.length am,.slice ar ab.2.2.2.2.length an]∧[5].map f=[.bool bw]) ?_ ?_
      ·intro f bu hJ;obtain ⟨bv,bw,hm,aa,ac,hs⟩:=hJ;rw [Zgr.eq_1] at hm;refine .lL [5] hs<|go ?_;exact ⟨ay,by omega,rfl,⟨_,_,_,_,rfl,hm,aa,ac,rfl⟩⟩
      refine Zeu<|Wg (col:=af) (by kernel_rfl) (by kernel_rfl)<|go ?_;refine Xn hm (fun bx hm=>go ?_) fun bx hm=>go ?_
      ·refine qv (v:=(.bool true)) rfl (fun _ hC=>Z1 (congrArg Value.bool bx) rfl) ?_;refine go ?_;refine Yk ?_;intro d1 hC;replace hC:=hC.bl af;replace ac:=ac.gr hC;replace aa:=aa.grow hC;exact ⟨rfl,_,_,hm,aa,ac,rfl⟩
      refine qF ⟨_,_,rfl⟩ ?_;refine go ?_;refine qW (fun _ hC=>((ac.atN).nth (q:=2) rfl).gr (hC.bl af)) ?_;refine go ?_;refine qI ag ((ah.ks aa).addr ag) ?_;refine go ?_;obtain ⟨_,cl,cn⟩:=(ah.ks aa).atN ag;obtain ⟨⟨d2,d3,rfl,co⟩,_⟩:=cl;refine qW (fun _ hC=>cn.one.gr (hC.bl af)) ?_;refine go ?_;refine qF ⟨_,_,rfl⟩ ?_;refine go ?_;refine qW (fun _ hC=>((ac.atN).nth (q:=2) rfl).gr (hC.bl af)) ?_;refine go ?_;refine qI ag ((ah.ks aa).addr ag) ?_;refine go ?_;obtain ⟨_,cp,cq⟩:=(ah.ks aa).atN ag;obtain ⟨⟨d4,d5,rfl,cb⟩,_⟩:=cp;refine qW (fun _ hC=>cq.one.gr (hC.bl af)) ?_;refine go ?_;obtain ⟨d6,bz,hm⟩:=bZ hm;refine qI bz (cb.addr bz) ?_;refine go ?_;refine qW (fun _ hC=>(cb.gr (hC.bl af)).atStr bz) ?_;refine go ?_;obtain ⟨cc,cr,hm⟩:=bZ hm;refine qc (v:=(.int .i64 cc)) rfl (fun _ hC=>⟨_,_,Ts call192 rfl rfl,(Zpd cr (co.gr (hC.bl af)):).mono fun _ _ h=>⟨h.1,hC.trans (.of_below h.2)⟩⟩) ?_;refine go ?_;refine qv (v:=(.bool (decide (cc<a9)))) rfl (fun _ hC=>Xj (congrArg Value.bool bx) rfl) ?_;refine go ?_;refine Yk ?_;intro d7 hC;replace hC:=hC.bl af;replace ac:=ac.gr hC;replace aa:=aa.grow hC;exact ⟨rfl,_,_,hm,aa,ac,rfl⟩
     refine Zp hm (fun hb hm=>go ?_) fun hb hm=>go ?_
     ·cases hm;exact ⟨rfl,rfl,aa.below⟩
     refine Z7 ac<|Xy rfl<|lI ag ((ah.ks aa).addr ag) ?_;obtain ⟨_,cs,ct⟩:=(ah.ks aa).atN ag;obtain ⟨⟨d8,d9,rfl,ea⟩,_⟩:=cs;refine lW ct.one<|go ?_;refine Zp hm (fun hb hm=>go ?_) fun hb hm=>go ?_
     ·cases hm;exact ⟨rfl,rfl,aa.below⟩
     exact ⟨aw,by omega,rfl,⟨_,_,_,rfl,hm,aa,ac,rfl⟩⟩
   refine Z7 ac ?_;obtain ⟨eb,cu,hm⟩:=bZ hm;refine Zh (Zpb cu (a1.ks aa)) ?_;rintro _ cv ⟨rfl,bg⟩;refine ⟨_,rfl,?_⟩;replace bg:Zf aj bf aj cv:=.of_below bg;refine go ?_;replace ac:=ac.gr bg;replace aa:=aa.grow bg;refine Zp hm (fun hb hm=>go ?_) fun hb hm=>go ?_
   ·cases hm;exact ⟨rfl,rfl,aa.below⟩
   refine lV _ (Z8 isAgg27 sizeOf27 ac) ?_;obtain ⟨ax,cw,hm⟩:=bZ hm;refine Zh (Zxx 2 cw (a0.ks aa) (ah.ks aa) (a1.ks aa) (ai.ks aa)) ?_;rintro _ ec ⟨ed,bh,bi,rfl,cd,ad⟩;refine ⟨_,rfl,go ?_⟩;replace ac:=ac.gr cd;replace aa:=aa.grow cd;refine Z0 [1,3,8,1000000] (fun n f ba=>∃ ae b0 a2,a2=n∧Zaw N ab ax a2 b0=some r∧St w0 (Zi col) ae ba∧Zm 27 1 ae ba av #[.string ab.1,.slice ao ab.2.1.length ak,.slice ap ab.2.2.1.length al,.slice aq ab.2.2.2.1.length am,.slice ar ab.2.2.2.2.length an]∧Zc (Za.int .i64) 3 2 ae ba bh bi ax∧[9].map f=[.int .i64 b0]) N ⟨_,0,_,rfl,hm,aa,ac,ad,rfl⟩ ?_;clear hm;intro n f ba hI;obtain ⟨ae,b0,a2,hn,hm,aa,ac,ad,hs⟩:=hI;subst hn;refine .lL [9] hs ?_
   cases a2 with
   | zero=>rw [Zaw.eq_1] at hm;cases hm
   | succ a2=>
    rw [Zaw.eq_2] at hm;refine go ?_;refine Zp hm (fun hb hm=>go ?_) fun hb hm=>go ?_
    ·refine Z7 ac<|Xy rfl ?_;obtain ⟨ee,b1,hm⟩:=bZ hm;refine lI b1 ((a1.ks aa).addr b1) ?_;obtain ⟨_,cx,cy⟩:=(a1.ks aa).atN b1;obtain ⟨⟨ef,eg,rfl,cz⟩,_⟩:=cx;refine lW cy.one<|Wq rfl ?_;obtain ⟨eh,c0,hm⟩:=bZ hm;refine Zh (Zxu c0 (cz.froz 2) (ad.toSlF (Zn.int .i64))) ?_;rintro _ ce ⟨rfl,bb⟩;refine ⟨_,rfl,?_⟩;replace bb:Zf ae ba ae ce:=.of_below bb;refine go ?_;obtain ⟨ei,a3,hm⟩:=bZ hm;replace ad:=ad.gr bb;refine lI a3 (ad.addr a3)<|lW (ad.atInt a3) ?_;obtain ⟨ej,c1,hm⟩:=bZ hm;refine Zh (Zxw (col:=ae) c1) ?_;rintro _ c2 ⟨rfl,bc⟩;refine ⟨_,rfl,?_⟩;replace bc:Zf ae ce ae c2:=.of_below bc;refine go ?_;replace ac:=(ac.gr bb).gr bc;replace aa:=(aa.grow bb).grow bc;replace ad:=ad.gr bc;refine Zp hm (fun hb hm=>go ?_) fun hb hm=>go ?_
     ·cases hm;exact ⟨rfl,rfl,aa.below⟩
     refine Wg (col:=ae) (by kernel_rfl) (by kernel_rfl)<|qF ⟨_,_,rfl⟩ ?_;refine qW (fun _ hC=>((ac.atN).nth (q:=4) rfl).gr (hC.bl ae)) ?_;refine go ?_;obtain ⟨ek,b2,hm⟩:=bZ hm;refine qI b2 ((ai.ks aa).addr b2) ?_;obtain ⟨_,c3,c4⟩:=(ai.ks aa).atN b2;obtain ⟨⟨el,em,rfl,en⟩,_⟩:=c3;refine qW (fun _ hC=>c4.one.gr (hC.bl ae)) ?_;refine go ?_;refine qI a3 (ad.addr a3)<|qW (fun _ hC=>(ad.gr (hC.bl ae)).atInt a3) ?_;refine go ?_;refine Yk ?_;intro eo hC;replace hC:=hC.bl ae;replace ad:=ad.gr hC;replace ac:=ac.gr hC;replace aa:=aa.grow hC;refine Zp hm (fun hb hm=>go ?_) fun hb hm=>go ?_
     ·cases hm;exact ⟨rfl,rfl,aa.below⟩
     exact ⟨a2,by omega,rfl,⟨_,_,_,rfl,hm,aa,ac,ad,rfl⟩⟩
    refine Z0 [1,3,8,1000000] (fun n f bj=>∃ bk bm az,az=n∧Qz N ab ax az bm=some r∧St w0 (Zi col) bk bj∧Zm 27 1 bk bj av #[.string ab.1,.slice ao ab.2.1.length ak,.slice ap ab.2.2.1.length al,.slice aq ab.2.2.2.1.length am,.slice ar ab.2.2.2.2.length an]∧Zc (Za.int .i64) 3 2 bk bj bh bi ax∧[12].map f=[.int .i64 bm]) N ⟨_,0,_,rfl,hm,aa,ac,ad,rfl⟩ ?_;clear hm;intro n f bj hI;obtain ⟨bk,bm,az,hn,hm,aa,ac,ad,hs⟩:=hI;subst hn;refine .lL [12] hs ?_
    cases az with
    | zero=>rw [Qz.eq_1] at hm;cases hm
    | succ az=>
     rw [Qz.eq_2] at hm;refine go ?_;refine Zp hm (fun hb hm=>go ?_) fun hb hm=>go ?_
     ·refine Z0 [1,12,3,8,1000000] (fun n f bd=>∃ a4 b3 a5,a5=n∧Zdz N ab bm (Qz N ab ax az) a5 b3=some r∧St w0 (Zi col) a4 bd∧Zm 27 1 a4 bd av #[.string ab.1,.slice ao ab.2.1.length ak,.slice ap ab.2.2.1.length al,.slice aq ab.2.2.2.1.length am,.slice ar ab.2.2.2.2.length an]∧Zc (Za.int .i64) 3 2 a4 bd bh bi ax∧[13].map f=[.int .i64 b3]) N ⟨_,0,_,rfl,hm,aa,ac,ad,rfl⟩ ?_;clear hm;intro n f bd hI;obtain ⟨a4,b3,a5,hn,hm,aa,ac,ad,hs⟩:=hI;subst hn;refine .lL [13] hs ?_
      cases a5 with
      | zero=>rw [Zdz.eq_1] at hm;cases hm
      | succ a5=>
       rw [Zdz.eq_2] at hm;refine go ?_;refine Z7 ac<|Xy rfl ?_;obtain ⟨ep,a6,hm⟩:=bZ hm;refine lI a6 ((ai.ks aa).addr a6) ?_;obtain ⟨_,c5,c6⟩:=(ai.ks aa).atN a6;obtain ⟨⟨eq,er,rfl,es⟩,_⟩:=c5;refine lW c6.one<|go ?_;refine Zp hm (fun hb hm=>go ?_) fun hb hm=>go ?_
       ·refine Z7 ac<|Xy rfl<|lI a6 ((ai.ks aa).addr a6) ?_;obtain ⟨_,c7,c8⟩:=(ai.ks aa).atN a6;obtain ⟨⟨et,eu,rfl,cf⟩,_⟩:=c7;refine lW c8.one<|Xy rfl ?_;obtain ⟨b4,b5,hm⟩:=bZ hm;refine lI b5 (cf.addr b5) ?_;obtain ⟨_,c9,da⟩:=cf.atN b5;obtain ⟨_,_,rfl,db,dc⟩:=Ym c9;obtain ⟨_,_,rfl,dd,de⟩:=Ym db;obtain ⟨rfl,_⟩:=dd;obtain ⟨⟨df,dg,rfl,dh⟩,_⟩:=de;obtain ⟨⟨di,dj,rfl,dk⟩,_⟩:=dc;refine lV (.agg #[.bool b4.1.1,.slice df b4.1.2.length dg,.slice di b4.2.length dj]) (Xv isAgg47 sizeOf47 rfl rfl da) ?_;obtain ⟨ew,dl,hm⟩:=bZ hm;refine Zh (Zxv dl dh dk) ?_;rintro _ dm ⟨rfl,be⟩;refine ⟨_,rfl,?_⟩;replace be:Zf a4 bd a4 dm:=.of_below be;refine go ?_;replace ad:=ad.gr be;replace ac:=ac.gr be;replace aa:=aa.grow be;refine Zp hm (fun hb hm=>go ?_) fun hb hm=>go ?_
        ·cases hm;exact ⟨rfl,rfl,aa.below⟩
        exact ⟨a5,by omega,rfl,⟨_,_,_,rfl,hm,aa,ac,ad,rfl⟩⟩
       exact ⟨az,by omega,rfl,⟨_,_,_,rfl,hm,aa,ac,ad,rfl⟩⟩
     refine Z0 [1,3,8,1000000] (fun n f bn=>∃ au b6 a7,a7=n∧Zax N ab ax a7 b6=some r∧St w0 (Zi col) au bn∧Zm 27 1 au bn av #[.string ab.1,.slice ao ab.2.1.length ak,.slice ap ab.2.2.1.length al,.slice aq ab.2.2.2.1.length am,.slice ar ab.2.2.2.2.length an]∧Zc (Za.int .i64) 3 2 au bn bh bi ax∧[15].map f=[.int .i64 b6]) N ⟨_,0,_,rfl,hm,aa,ac,ad,rfl⟩ ?_;clear hm;intro n f bn hI;obtain ⟨au,b6,a7,hn,hm,aa,ac,ad,hs⟩:=hI;subst hn;refine .lL [15] hs ?_
     cases a7 with
     | zero=>rw [Zax.eq_1] at hm;cases hm
     | succ a7=>
      rw [Zax.eq_2] at hm;refine go ?_;refine Zp hm (fun hb hm=>go ?_) fun hb hm=>go ?_
      ·refine Wg (col:=au) (by kernel_rfl) (by kernel_rfl)<|qF ⟨_,_,rfl⟩ ?_;refine qW (fun _ hC=>((ac.atN).nth (q:=4) rfl).gr (hC.bl au)) ?_;refine go ?_;obtain ⟨ey,b7,hm⟩:=bZ hm;refine qI b7 ((ai.ks aa).addr b7) ?_;obtain ⟨_,dn,dp⟩:=(ai.ks aa).atN b7;obtain ⟨⟨ez,e0,rfl,dq⟩,_⟩:=dn;refine qW (fun _ hC=>dp.one.gr (hC.bl au)) ?_;refine go ?_;obtain ⟨e1,b8,hm⟩:=bZ hm;refine qI b8 (ad.addr b8)<|qW (fun _ hC=>(ad.gr (hC.bl au)).atInt b8) ?_;obtain ⟨dr,ds,hm⟩:=bZ hm;refine qc (v:=(.bool dr)) rfl (fun _ hC=>⟨_,_,Ts call197 rfl rfl,(Zxy ds (dq.gr (hC.bl au)):).mono fun _ _ h=>⟨h.1,hC.trans (.of_below h.2)⟩⟩) ?_;refine go ?_;refine Yk ?_;intro e2 hC;replace hC:=hC.bl au;refine go ?_;replace ad:=ad.gr hC;replace ac:=ac.gr hC;replace aa:=aa.grow hC;refine Zp hm (fun hb hm=>go ?_) fun hb hm=>go ?_
       ·cases hm;exact ⟨rfl,rfl,aa.below⟩
       exact ⟨a7,by omega,rfl,⟨_,_,_,rfl,hm,aa,ac,ad,rfl⟩⟩
      cases hm;exact ⟨rfl,rfl,aa.below⟩
 refine Wh<|Z7 ac ?_;refine go ?_;refine Xn hm (fun b9 hm=>go ?_) fun b9 hm=>go ?_
 ·refine lV (.bool true) (Z1 (congrArg Value.bool b9) rfl)<|Xx rfl<|lP 32 rfl rfl<|lP 32 rfl rfl<|lP 32 rfl rfl<|lP 32 rfl rfl<|lP 32 rfl rfl<|lV (.bool true) (Z1 rfl rfl)<|Zl ?_;exact ⟨rfl,_,_,hm,aa,ac,rfl⟩
 refine Xb ⟨_,_,rfl⟩ ?_;refine go ?_;refine lW ((ac.atN).nth (q:=3) rfl)<|go ?_;refine lV (.bool (!decide ((ab.2.2.2.1.length:Int)=(ab.2.1.length:Int)))) (Xj (congrArg Value.bool b9) rfl)<|Xx rfl ?_;refine Xn hm (fun ca hm=>go ?_) fun ca hm=>go ?_
 ·refine lV (.bool true) (Z1 (congrArg Value.bool ca) rfl)<|Zl ?_;exact ⟨rfl,_,_,hm,aa,ac,rfl⟩
 refine Xb ⟨_,_,rfl⟩ ?_;refine go ?_;refine lW ((ac.atN).nth (q:=4) rfl)<|go ?_;refine lV (.bool (!decide ((ab.2.2.2.2.length:Int)=(ab.2.1.length:Int)))) (Xj (congrArg Value.bool ca) rfl)<|Zl ?_;exact ⟨rfl,_,_,hm,aa,ac,rfl⟩
abbrev Xq:=ByteArray×List ByteArray×List R9×List R2×List (List QV)
instance decMemB:∀ (s:ByteArray) (l:List ByteArray),Decidable (s ∈ l)
 | _,[]=>isFalse (by simp)
 | s,x :: l=>if h:s=x then isTrue (by rw [h];exact List.mem_cons_self) else match decMemB s l with
  | isTrue h2=>isTrue (List.mem_cons_of_mem _ h2)
  | isFalse h2=>isFalse (by rw [List.mem_cons];rintro (h3 | h3) <;> contradiction)
theorem Z0u {α:Type} (l:List α) (k:Nat) (hk:k<l.length):(l.take (k+1)).Nodup↔(l.take k).Nodup∧l[k] ∉ l.take k:=by
 rw [List.take_add_one,List.getElem?_eq_getElem hk,Option.toList_some,List.nodup_append]
 constructor
 ·rintro ⟨h1,_,h3⟩
  exact ⟨h1,fun hm=>h3 _ hm _ (by simp) rfl⟩
 ·rintro ⟨h1,h2⟩
  refine ⟨h1,by simp,fun a ha b hb e=>?_⟩
  rw [List.mem_singleton] at hb
  subst hb;subst e
  exact h2 ha
theorem Zqb (N:Nat) (l:List ByteArray) (hl:l.length<4611686018427387904) (v:Nat) (hv:v<l.length):∀ (n k:Nat),k≤v→v<n+k→l[v] ∉ l.take k→∃ j:Nat,Zd1 N l l[v] n (k:Int)=some (j:Int)∧j≤v∧(j<v↔l[v] ∈ l.take v)
 | 0,k,h1,h2,_=>by omega
 | n+1,k,h1,h2,h3=>by
  have hk:k<l.length:=by omega
  rw [Zd1.eq_2,if_pos (decide_eq_true (by omega)),Zx hk,Option.bind_some]
  by_cases he:l[k]=l[v]
  ·rw [if_pos (decide_eq_true he)]
   refine ⟨k,rfl,h1,fun h=>?_,fun h=>?_⟩
   ·rw [← he]
    exact List.mem_iff_getElem.2 ⟨k,by rw [List.length_take];omega,by rw [List.getElem_take]⟩
   ·rcases Nat.lt_or_ge k v with h4 | h4
    ·exact h4
    ·have:k=v:=by omega
     subst this;exact absurd h h3
  ·have hkv:k<v:=by
    rcases Nat.lt_or_ge k v with h4 | h4
    ·exact h4
    ·have:k=v:=by omega
     subst this;exact absurd rfl he
   rw [if_neg (by rw [decide_eq_false he];decide),Zq (by omega)]
   have:=Zqb N l hl v hv n (k+1) (by omega) (by omega) (by
    rw [List.take_add_one,List.getElem?_eq_getElem hk,Option.toList_some,List.mem_append,List.mem_singleton]
    rintro (h | h)
    ·exact h3 h
    ·exact he h.symm)
   exact this
theorem Zqc {N:Nat} {l:List ByteArray} (hl:l.length<4611686018427387904) {v:Nat} (hv:v<l.length) (hN:l.length<N):∃ j:Nat,Ziw N l l[v]=some (j:Int)∧(j<v↔l[v] ∈ l.take v):=by
 obtain ⟨j,h1,_,h2⟩:=Zqb N l hl v hv N 0 (by omega) (by omega) (by simp)
 exact ⟨j,h1,h2⟩
theorem Zqz (s:ByteArray):∀ (l:List ByteArray) (k:Nat),∃ j:Int,Zel s l k=some j∧(0≤j↔s ∈ l)
 | [],k=>⟨-1,rfl,by simp⟩
 | x :: l,k=>by
  rw [Zel.eq_2]
  by_cases h:s=x
  ·rw [if_pos (decide_eq_true h)];exact ⟨_,rfl,by simp [h]⟩
  ·rw [if_neg (by rw [decide_eq_false h];decide)]
   obtain ⟨j,h1,h2⟩:=Zqz s l (k+1)
   exact ⟨j,h1,by rw [h2,List.mem_cons];simp [h]⟩
theorem Zym (s:ByteArray) (l:List ByteArray):Zi3 l s=some (decide (s ∈ l)):=by
 obtain ⟨j,h1,h2⟩:=Zqz s l 0
 rw [Zi3,Zk2,h1,Option.bind_some]
 congr 1
 exact decide_eq_decide.2 h2
theorem Zsk:∀ (l:List ByteArray) (seen:List (ByteArray×Int)) (S:List ByteArray),S.Nodup→(∀ k,Y7 seen k=if k ∈ S then some 1 else none)→Zbo l seen=some (!decide (S++l).Nodup)
 | [],seen,S,h1,h2=>by rw [Zbo.eq_1,List.append_nil,decide_eq_true h1];rfl
 | x :: l,seen,S,h1,h2=>by
  rw [Zbo.eq_2,h2 x]
  by_cases hx:x ∈ S
  ·rw [if_pos hx,if_pos (by decide),decide_eq_false]
   ·rfl
   intro h
   exact (List.nodup_append.1 h).2.2 x hx x List.mem_cons_self rfl
  ·rw [if_neg hx,if_neg (by decide),Option.bind_some,Zsk l _ (S++[x]) (by
    rw [List.nodup_append]
    refine ⟨h1,by simp,fun a ha b hb e=>?_⟩
    rw [List.mem_singleton] at hb;subst hb;subst e;exact hx ha) (fun k=>by
    rw [Zr9,h2 k]
    by_cases hk:k=x
    ·subst hk;rw [if_pos rfl,if_pos (by simp)]
    ·rw [if_neg hk]
     by_cases hs:k ∈ S
     ·rw [if_pos hs,if_pos (by simp [hs])]
     ·rw [if_neg hs,if_neg (by simp [hs,hk])])]
   rw [List.append_assoc];rfl
theorem Z0l (l:List ByteArray):Zia l=some (!decide l.Nodup):=by
 rw [Zia,Zsk l [] [] .nil (fun k=>by simp [Y7]),List.nil_append]
def Tq (names:List ByteArray) (vals:List R9):Nat→Nat→Int
 | 0,_=>0
 | m+1,v=>if names.getD v ⟨#[]⟩ ∈ names.take v∨¬ (vals.getD v []).Nodup then 40 else if vals.getD v []=[] then 43 else Tq names vals m (v+1)
theorem Zsp (n:Xq) (hl:n.2.2.1.length=n.2.1.length):∀ (l:List ByteArray) (k:Nat),n.2.1.drop k=l→k≤n.2.1.length→Zai n l k=some (Tq n.2.1 n.2.2.1 l.length k)
 | [],k,_,_=>rfl
 | x :: l,k,hd,hk=>by
  have hk1:k<n.2.1.length:=by
   rcases Nat.lt_or_ge k n.2.1.length with h | h
   ·exact h
   ·rw [List.drop_eq_nil_of_le h] at hd;cases hd
  have hd2:=List.drop_eq_getElem_cons hk1
  rw [hd] at hd2
  obtain ⟨hx,hl2⟩:=List.cons.inj hd2
  rw [Zai.eq_2,Z4 (by omega),Int.toNat_natCast,Zym,Option.bind_some,List.length_cons,Tq,Yj hk1,← hx,Yj (by omega)]
  by_cases h1:x ∈ n.2.1.take k
  ·rw [if_pos (decide_eq_true h1),Zfq,if_pos rfl,if_pos (.inl h1)]
  ·rw [if_neg (by rw [decide_eq_false h1];decide),Zx (by omega),Option.bind_some,Z0l,Option.bind_some,Zfq]
   by_cases h2:(n.2.2.1[k]'(by omega)).Nodup
   ·rw [decide_eq_true h2,if_neg (by decide),if_neg (by simp [h1,h2]),Zx (by omega),Option.bind_some]
    by_cases h3:n.2.2.1[k]'(by omega)=[]
    ·rw [if_pos (by rw [h3];decide),if_pos h3]
    ·rw [if_neg (by simpa using h3),if_neg h3]
     exact Zsp n hl l (k+1) hl2.symm (by omega)
   ·rw [decide_eq_false h2,if_pos (by decide),if_pos (.inr h2)]
theorem Z0o (n:Xq) (hl:n.2.2.1.length=n.2.1.length):Zfp n=some (Tq n.2.1 n.2.2.1 n.2.1.length 0):=by
 rw [Zfp];exact Zsp n hl n.2.1 0 (by simp) (by omega)
theorem Zn0 (N:Nat) (n:Xq) (v:Nat) (hv:v<n.2.2.1.length) (hb:n.2.2.1[v].length≤1048576) (hN:1048577<N) (hvb:v<4611686018427387904) (kk:Int→Option Int) (A:Prop) [Decidable A]:∀ (m i:Nat) (a:Bool),i≤n.2.2.1[v].length→n.2.2.1[v].length<m+i→(a=true→A∨¬ (n.2.2.1[v]).Nodup)→(a=false→¬ A∧((n.2.2.1[v]).take i).Nodup)→
  Zav N n (v:Int) kk m a (i:Int)=if A∨¬ (n.2.2.1[v]).Nodup then some 40 else if n.2.2.1[v]=[] then some 43 else kk ((v:Int)+1)
 | 0,i,a,h1,h2,_,_=>by omega
 | m+1,i,a,h1,h2,h3,h4=>by
  rw [Zav.eq_2,Zx hv,Option.bind_some]
  by_cases hi:i<n.2.2.1[v].length
  ·rw [if_pos (decide_eq_true (by omega))]
   cases a with
   | true=>
    rw [if_pos rfl,Zgr,Zq (by omega)]
    exact Zn0 N n v hv hb hN hvb kk A m (i+1) true (by omega) (by omega) h3 (fun h=>by cases h)
   | false=>
    obtain ⟨j,j1,j2⟩:=Zqc (N:=N) (l:=n.2.2.1[v]) (by omega) hi (by omega)
    have st:=Z0u n.2.2.1[v] i hi
    have h5:=h4 rfl
    rw [if_neg (by decide),Zx hi,Option.bind_some,j1,Option.bind_some,Zgr,Zq (by omega)]
    have:=Zn0 N n v hv hb hN hvb kk A m (i+1) (decide ((j:Int)<(i:Int))) (by omega) (by omega) (fun h=>.inr fun hn=>by
     have h6:=of_decide_eq_true h
     have h7:=(hn.sublist (List.take_sublist (i+1) _))
     exact (st.1 h7).2 (j2.1 (by omega))) (fun h=>⟨h5.1,st.2 ⟨h5.2,fun hm=>by
     have h6:=of_decide_eq_false h
     have:=j2.2 hm
     omega⟩⟩)
    exact this
  ·have hil:i=n.2.2.1[v].length:=by omega
   rw [if_neg (by rw [decide_eq_false (by omega)];decide)]
   cases a with
   | true=>rw [if_pos rfl,if_pos (h3 rfl)]
   | false=>
    obtain ⟨h5,h6⟩:=h4 rfl
    rw [hil,List.take_length] at h6
    have hA:¬ (A∨¬ (n.2.2.1[v]).Nodup):=fun h=>h.elim h5 (fun h=>h h6)
    rw [if_neg (by decide),if_neg hA,Zq (by omega)]
    by_cases h7:n.2.2.1[v]=[]
    ·rw [if_pos (by rw [h7];decide),if_pos h7]
    ·rw [if_neg (by simpa using h7),if_neg h7]
theorem Zur (N:Nat) (n:Xq) (hl:n.2.2.1.length=n.2.1.length) (hn:n.2.1.length≤1048576) (hb:∀ l ∈ n.2.2.1,l.length≤1048576) (hN:1048577<N):∀ (m fuel v:Nat),m+v=n.2.1.length→m<fuel→
  Sf N n fuel (v:Int)=if Tq n.2.1 n.2.2.1 m v=0 then Sf N n (fuel - m) (n.2.1.length:Int) else some (Tq n.2.1 n.2.2.1 m v)
 | 0,fuel,v,h1,_=>by
  have:v=n.2.1.length:=by omega
  rw [Tq,if_pos rfl,this,Nat.sub_zero]
 | m+1,0,v,h1,h2=>by omega
 | m+1,fuel+1,v,h1,h2=>by
  have hv:v<n.2.1.length:=by omega
  have hv2:v<n.2.2.1.length:=by omega
  obtain ⟨j,j1,j2⟩:=Zqc (N:=N) (l:=n.2.1) (by omega) hv (by omega)
  rw [Sf.eq_2,if_pos (decide_eq_true (by omega)),Zx hv,Option.bind_some,j1,Option.bind_some,Tq,Yj hv,Yj hv2,show (0:Int)=((0:Nat):Int) from rfl,
   Zn0 N n v hv2 (hb _ (List.getElem_mem hv2)) hN (by omega) (Sf N n fuel) (n.2.1[v] ∈ n.2.1.take v) N 0 _ (by omega) (by have:=hb _ (List.getElem_mem hv2);omega) (fun h=>.inl (j2.1 (by have:=of_decide_eq_true h;omega))) (fun h=>⟨fun hm=>by have:=of_decide_eq_false h;have:=j2.2 hm;omega,by simp⟩)]
  by_cases h3:n.2.1[v] ∈ n.2.1.take v∨¬ (n.2.2.1[v]).Nodup
  ·rw [if_pos h3,if_pos h3,if_neg (by decide)]
  ·rw [if_neg h3,if_neg h3]
   by_cases h4:n.2.2.1[v]=[]
   ·rw [if_pos h4,if_pos h4,if_neg (by decide)]
   ·rw [if_neg h4,if_neg h4]
    have ih:=Zur N n hl hn hb hN m fuel (v+1) (by omega) (by omega)
    rw [show ((v+1:Nat):Int)=(v:Int)+1 by omega] at ih
    rw [ih,show fuel+1 - (m+1)=fuel - m by omega]
    rfl
theorem Zsq {names:List ByteArray} {vals:List R9}:∀ (m v:Nat),Tq names vals m v=0→∀ i,v≤i→i<v+m→vals.getD i []≠[]∧(vals.getD i []).Nodup∧names.getD i ⟨#[]⟩ ∉ names.take i
 | 0,v,_,i,h1,h2=>by omega
 | m+1,v,h,i,h1,h2=>by
  rw [Tq] at h
  by_cases h3:names.getD v ⟨#[]⟩ ∈ names.take v∨¬ (vals.getD v []).Nodup
  ·rw [if_pos h3] at h;cases h
  ·rw [if_neg h3] at h
   by_cases h4:vals.getD v []=[]
   ·rw [if_pos h4] at h;cases h
   ·rw [if_neg h4] at h
    rcases Nat.lt_or_ge v i with h5 | h5
    ·exact Zsq m (v+1) h i (by omega) (by omega)
    ·have:i=v:=by omega
     subst this
     exact ⟨h4,by simpa using (not_or.1 h3).2,(not_or.1 h3).1⟩
def Yg (vals:List R9):List Int→Nat→Nat
 | [],k=>k
 | p :: ps,k=>Yg vals ps (min (k * (vals.getD p.toNat []).length) 1099511627776)
theorem Zn2 (vals:List R9):∀ (ps:List Int) (k:Nat),k≤1099511627776→Yg vals ps k≤1099511627776
 | [],k,h=>h
 | p :: ps,k,h=>Zn2 vals ps _ (by omega)
theorem Zk5 {a b:Nat} (h:a≤1099511627776) (g:b≤1048576):a * b≤1152921504606846976:=by
 have:=Nat.mul_le_mul h g
 simpa using this
theorem Zsh (n:Xq) (hb:∀ l ∈ n.2.2.1,l.length≤1048576):∀ (ps:List Int) (k:Nat),k≤1099511627776→(∀ p ∈ ps,0≤p∧p<(n.2.2.1.length:Int))→Zda n ps (k:Int)=some (Yg n.2.2.1 ps k:Int)
 | [],k,_,_=>rfl
 | p :: ps,k,hk,hp=>by
  have h1:=hp p List.mem_cons_self
  have h2:p.toNat<n.2.2.1.length:=by omega
  have h3:=hb _ (List.getElem_mem h2)
  have h4:=Zk5 hk h3
  rw [Zda.eq_2,show p=((p.toNat:Nat):Int) by omega,Zx h2,Option.bind_some,Yg,Int.toNat_natCast,Yj h2,← Int.natCast_mul,Zq (by omega)]
  have ih:=Zsh n hb ps (min (k * n.2.2.1[p.toNat].length) 1099511627776) (by omega) (fun q hq=>hp q (List.mem_cons_of_mem _ hq))
  rw [← ih]
  congr 1
  by_cases h5:1099511627776<k * n.2.2.1[p.toNat].length
  ·rw [if_pos (by omega),Nat.min_eq_right (by omega)];rfl
  ·rw [if_neg (by omega),Nat.min_eq_left (by omega)]
theorem Zvf (N:Nat) (n:Xq) (hl:n.2.2.1.length≤1048576):∀ (m i:Nat) (out:List Int),i≤n.2.2.1.length→n.2.2.1.length<m+i→out=(n.2.2.1.take i).map (fun l=>(l.length:Int))→Zd3 N n m out (i:Int)=some (n.2.2.1.map fun l=>(l.length:Int))
 | 0,i,out,h1,h2,_=>by omega
 | m+1,i,out,h1,h2,h3=>by
  rw [Zd3.eq_2]
  have lo:out.length=i:=by rw [h3,List.length_map,List.length_take];omega
  by_cases hi:i<n.2.2.1.length
  ·rw [if_pos (decide_eq_true (by omega)),Zx hi,Option.bind_some,Z4 (by simp only [List.length_singleton,maxLen];omega),Zq (by omega)]
   exact Zvf N n hl m (i+1) _ (by omega) (by omega) (by rw [h3,List.take_add_one,List.getElem?_eq_getElem hi,Option.toList_some,List.map_append];rfl)
  ·rw [if_neg (by rw [decide_eq_false (by omega)];decide),h3,List.take_of_length_le (by omega)]
theorem Z2e {N:Nat} {n:Xq} (hl:n.2.2.1.length≤1048576) (hN:1048576<N):Zd2 N n=some (n.2.2.1.map fun l=>(l.length:Int)):=by
 rw [Zd2]
 exact Zvf N n hl N 0 [] (by omega) (by omega) (by simp)
theorem Zlt {vals:List R9} {i:Nat} (h:i<vals.length):Zk (vals.map fun l=>(l.length:Int)) (i:Int)=some (vals[i].length:Int):=by
 rw [Zx (by rw [List.length_map];exact h),List.getElem_map]
theorem Zmo (N:Nat) (ps:List Int) (vals:List R9) (hb:∀ l ∈ vals,l.length≤1048576) (hne:∀ l ∈ vals,l≠[]) (hp:∀ p ∈ ps,0≤p∧p<(vals.length:Int)) (hps:ps.length≤1048576):∀ (m i k:Nat),i≤ps.length→ps.length<m+i→k≤1099511627776→
  Zay N ps (vals.map fun l=>(l.length:Int)) m (k:Int) (i:Int)=some (Yg vals (ps.drop i) k:Int)
 | 0,i,k,h1,h2,_=>by omega
 | m+1,i,k,h1,h2,h3=>by
  rw [Zay.eq_2]
  by_cases hi:i<ps.length
  ·have h4:=hp _ (List.getElem_mem hi)
   have h5:(ps[i]).toNat<vals.length:=by omega
   have h6:=hb _ (List.getElem_mem h5)
   have h7:0<vals[(ps[i]).toNat].length:=List.length_pos_iff.2 (hne _ (List.getElem_mem h5))
   have h8:=Zk5 h3 h6
   rw [if_pos (decide_eq_true (by omega)),Zx hi,Option.bind_some]
   conv=>lhs;rw [show ps[i]=(((ps[i]).toNat:Nat):Int) by omega]
   rw [Zlt h5,Option.bind_some,Z4 (by omega),List.drop_eq_getElem_cons hi,Yg,Yj h5]
   have e:i64.wrap (Int.tdiv 1099511627776 (vals[(ps[i]).toNat].length:Int))=((1099511627776 / vals[(ps[i]).toNat].length:Nat):Int):=by
    rw [Int.tdiv_eq_ediv_of_nonneg (by decide),show (1099511627776:Int)=((1099511627776:Nat):Int) from rfl,← Int.natCast_ediv]
    refine Zq ⟨by have:=Int.natCast_nonneg (1099511627776 / vals[(ps[i]).toNat].length);omega,?_⟩
    have:=Nat.div_le_self 1099511627776 vals[(ps[i]).toNat].length
    omega
   rw [e]
   have cmp:1099511627776 / vals[(ps[i]).toNat].length<k↔1099511627776<k * vals[(ps[i]).toNat].length:=Nat.div_lt_iff_lt_mul h7
   by_cases h9:1099511627776<k * vals[(ps[i]).toNat].length
   ·rw [if_pos (decide_eq_true (Int.ofNat_lt.2 (cmp.2 h9))),Zgs,Zq (by omega),Nat.min_eq_right (by omega)]
    exact Zmo N ps vals hb hne hp hps m (i+1) 1099511627776 (by omega) (by omega) (by omega)
   ·rw [if_neg (by rw [decide_eq_false (fun h=>h9 (cmp.1 (Int.ofNat_lt.1 h)))];decide),Zgs,← Int.natCast_mul,Zq (by omega),Zq (by omega),Nat.min_eq_left (by omega)]
    exact Zmo N ps vals hb hne hp hps m (i+1) _ (by omega) (by omega) (by omega)
  ·rw [if_neg (by rw [decide_eq_false (by omega)];decide),List.drop_eq_nil_of_le (by omega),Yg]
theorem Zpp (N:Nat) (ps:List Int) (vals:List R9) (hb:∀ l ∈ vals,l.length≤1048576) (hne:∀ l ∈ vals,l≠[]) (hp:∀ p ∈ ps,0≤p∧p<(vals.length:Int)) (hps:ps.length≤1048576) (hN:1048577<N):∀ (m i:Nat),i≤ps.length→ps.length<m+i→
  Zd0 N ps (vals.map fun l=>(l.length:Int)) m (i:Int)=some (Yg vals ps 1:Int)
 | 0,i,h1,h2=>by omega
 | m+1,i,h1,h2=>by
  rw [Zd0.eq_2]
  by_cases hi:i<ps.length
  ·have h4:=hp _ (List.getElem_mem hi)
   have h5:(ps[i]).toNat<vals.length:=by omega
   have h7:0<vals[(ps[i]).toNat].length:=List.length_pos_iff.2 (hne _ (List.getElem_mem h5))
   rw [if_pos (decide_eq_true (by omega)),Zx hi,Option.bind_some]
   conv=>lhs;rw [show ps[i]=(((ps[i]).toNat:Nat):Int) by omega]
   rw [Zlt h5,Option.bind_some,if_neg (by rw [decide_eq_false (by omega)];decide),Zq (by omega)]
   exact Zpp N ps vals hb hne hp hps hN m (i+1) (by omega) (by omega)
  ·rw [if_neg (by rw [decide_eq_false (by omega)];decide)]
   exact Zmo N ps vals hb hne hp hps N 0 1 (by omega) (by omega) (by omega)
theorem Zyj {N:Nat} {ps:List Int} {vals:List R9} (hb:∀ l ∈ vals,l.length≤1048576) (hne:∀ l ∈ vals,l≠[]) (hp:∀ p ∈ ps,0≤p∧p<(vals.length:Int)) (hps:ps.length≤1048576) (hN:1048577<N):Ziv N ps (vals.map fun l=>(l.length:Int))=some (Yg vals ps 1:Int):=by
 rw [Ziv]
 exact Zpp N ps vals hb hne hp hps hN N 0 (by omega) (by omega)
theorem Z02 {r c:Nat} (hc:0<c):Zix (r:Int) (c:Int)=some (decide (65536<r * c)):=by
 have e:i64.wrap (Int.tdiv 65536 (c:Int))=((65536 / c:Nat):Int):=by
  rw [Int.tdiv_eq_ediv_of_nonneg (by decide),show (65536:Int)=((65536:Nat):Int) from rfl,← Int.natCast_ediv]
  refine Zq ⟨by have:=Int.natCast_nonneg (65536 / c);omega,?_⟩
  have:=Nat.div_le_self 65536 c
  omega
 rw [Zix,if_pos (decide_eq_true (by omega)),Z4 (by omega),e,Ziy]
 congr 1
 refine decide_eq_decide.2 ?_
 rw [Int.ofNat_lt]
 exact Nat.div_lt_iff_lt_mul hc
def Tu (vals:List R9) (P:List R2) (T:List (List QV)):Nat→Nat→Int
 | 0,_=>0
 | m+1,v=>if 65536<Yg vals (P.getD v []) 1 * (vals.getD v []).length then 4 else if Yg vals (P.getD v []) 1 * (vals.getD v []).length≠(T.getD v []).length then 60 else Tu vals P T m (v+1)
structure Ur (n:Xq) (W:Nat):Prop where
 nm:n.2.1.length≤1048575
 vl:∀ l ∈ n.2.2.1,l.length≤1048576
 pn:Zjs n.2.2.2.1
 tl:∀ t ∈ n.2.2.2.2,t.length≤1048576
 tq:∀ t ∈ n.2.2.2.2,X5 t≤W
 lim:∀ t ∈ n.2.2.2.2,∀ x ∈ t,Wo x
structure Tg (n:Xq):Prop where
 v:n.2.2.1.length=n.2.1.length
 p:n.2.2.2.1.length=n.2.1.length
 t:n.2.2.2.2.length=n.2.1.length
 i:Ud n.2.2.2.1.length n.2.2.2.1=true
 ne:∀ l ∈ n.2.2.1,l≠[]
theorem Tg.par {n:Xq} (h:Tg n) {ps:List Int} (hp:ps ∈ n.2.2.2.1):∀ p ∈ ps,0≤p∧p<(n.2.2.1.length:Int):=by
 have:=Zq2 h.i ps hp
 rw [h.p] at this
 rw [h.v];exact this
theorem Zsi {N W:Nat} {n:Xq} (hs:Ur n W) (he:Tg n):∀ (l:List (List QV)) (k:Nat),n.2.2.2.2.drop k=l→k≤n.2.1.length→Zag N n l k=if Tu n.2.2.1 n.2.2.2.1 n.2.2.2.2 l.length k=0 then Zah N n n.2.2.2.2 else some (Tu n.2.2.1 n.2.2.2.1 n.2.2.2.2 l.length k)
 | [],k,_,_=>by rw [Zag.eq_1];rfl
 | t :: l,k,hd,hk=>by
  have ht:=he.t;have hv:=he.v;have hp:=he.p
  have hk1:k<n.2.2.2.2.length:=by
   rcases Nat.lt_or_ge k n.2.2.2.2.length with h | h
   ·exact h
   ·rw [List.drop_eq_nil_of_le h] at hd;cases hd
  have hd2:=List.drop_eq_getElem_cons hk1
  rw [hd] at hd2
  obtain ⟨hx,hl2⟩:=List.cons.inj hd2
  have kv:k<n.2.2.1.length:=by omega
  have kp:k<n.2.2.2.1.length:=by omega
  have r1:=Zn2 n.2.2.1 (n.2.2.2.1[k]) 1 (by omega)
  have c1:=hs.vl _ (List.getElem_mem kv)
  have r2:=Zk5 r1 c1
  have hrow:Zfu n (k:Int)=some (Yg n.2.2.1 n.2.2.2.1[k] 1:Int):=by
   rw [Zfu,Zx kp,Option.bind_some]
   exact Zsh n hs.vl _ 1 (by omega) (he.par (List.getElem_mem kp))
  rw [Zag.eq_2]
  have hrow':Zfu (n.1,n.2.1,n.2.2.1,n.2.2.2.1,n.2.2.2.2) (k:Int)=some (Yg n.2.2.1 n.2.2.2.1[k] 1:Int):=hrow
  rw [hrow',Option.bind_some,Zx kv,Option.bind_some,← Int.natCast_mul,Zq (by omega),List.length_cons,Tu,Yj kp,Yj kv,Yj hk1,← hx]
  generalize Yg n.2.2.1 n.2.2.2.1[k] 1 * n.2.2.1[k].length=rc at *
  by_cases h1:65536<rc
  ·rw [if_pos (decide_eq_true (by omega)),if_pos h1,if_neg (by decide)]
  ·rw [if_neg (by rw [decide_eq_false (by omega)];decide),if_neg h1]
   by_cases h2:rc=t.length
   ·rw [if_neg (by rw [decide_eq_true (by omega)];decide),if_neg (show ¬ rc≠t.length from fun h=>h h2)]
    exact Zsi hs he l (k+1) hl2.symm (by omega)
   ·rw [if_pos (by rw [decide_eq_false (by omega)];decide),if_pos h2,if_neg (by decide)]
theorem Zu5 {N W:Nat} {n:Xq} (hN:1048577<N) (hs:Ur n W) (he:Tg n):∀ (m fuel v:Nat),m+v=n.2.1.length→m<fuel→
  Zaw N n (n.2.2.1.map fun l=>(l.length:Int)) fuel (v:Int)=if Tu n.2.2.1 n.2.2.2.1 n.2.2.2.2 m v=0 then Qz N n (n.2.2.1.map fun l=>(l.length:Int)) N 0 else some (Tu n.2.2.1 n.2.2.2.1 n.2.2.2.2 m v)
 | 0,0,v,_,h=>by omega
 | 0,fuel+1,v,h1,_=>by
  rw [Zaw.eq_2,if_neg (by rw [decide_eq_false (by omega)];decide)];rfl
 | m+1,0,v,_,h=>by omega
 | m+1,fuel+1,v,h1,h2=>by
  have ht:=he.t;have hv:=he.v;have hp:=he.p;have hnm:=hs.nm
  have kt:v<n.2.2.2.2.length:=by omega
  have kv:v<n.2.2.1.length:=by omega
  have kp:v<n.2.2.2.1.length:=by omega
  have r1:=Zn2 n.2.2.1 (n.2.2.2.1[v]) 1 (by omega)
  have c1:=hs.vl _ (List.getElem_mem kv)
  have c0:0<n.2.2.1[v].length:=List.length_pos_iff.2 (he.ne _ (List.getElem_mem kv))
  have r2:=Zk5 r1 c1
  rw [Zaw.eq_2,if_pos (decide_eq_true (by omega)),Zx kp,Option.bind_some,Zyj hs.vl he.ne (he.par (List.getElem_mem kp)) (hs.pn.ls _ (List.getElem_mem kp)) hN,Option.bind_some,Zlt kv,Option.bind_some,Z02 c0,Option.bind_some,Tu,Yj kp,Yj kv,Yj kt,← Int.natCast_mul,Zq (by omega)]
  generalize Yg n.2.2.1 n.2.2.2.1[v] 1 * n.2.2.1[v].length=rc at *
  by_cases h3:65536<rc
  ·rw [if_pos (decide_eq_true (by omega)),if_pos h3,if_neg (by decide)]
  ·rw [if_neg (by rw [decide_eq_false (by omega)];decide),if_neg h3,Zx kt,Option.bind_some]
   by_cases h4:rc=n.2.2.2.2[v].length
   ·rw [if_neg (by rw [decide_eq_true (by omega)];decide),if_neg (show ¬ rc≠n.2.2.2.2[v].length from fun h=>h h4),Zq (by omega)]
    exact Zu5 hN hs he m fuel (v+1) (by omega) (by omega)
   ·rw [if_pos (by rw [decide_eq_false (by omega)];decide),if_pos h4,if_neg (by decide)]
def Vj (x:QV):Bool:=decide (Zr x<0)||decide (1<Zr x)
theorem Ztc {a b:Rat}:0<Vd a b↔b<a:=by
 rw [Vd]
 by_cases h:a<b
 ·rw [if_pos h]
  constructor
  ·intro h2;omega
  ·intro h2;exact absurd (Rat.le_of_lt h2) (Rat.not_le.2 h)
 ·rw [if_neg h]
  by_cases h2:b<a
  ·simp [h2]
  ·simp [h2]
theorem Zlc {a b:Rat}:Vd a b=0↔a=b:=by
 rw [Vd]
 constructor
 ·intro h
  split at h
  ·cases h
  ·split at h
   ·cases h
   ·rename_i h1 h2
    exact Rat.le_antisymm (Rat.not_lt.1 h2) (Rat.not_lt.1 h1)
 ·rintro rfl
  rw [if_neg Rat.lt_irrefl,if_neg Rat.lt_irrefl]
theorem Zsf {N:Nat} (hr:Xc N 8):Zfr N=some (Zw 1):=by
 rw [Zfr,Zzd (by omega) (by omega) (hr.mono (by omega)),Option.bind_some,if_neg (by decide)]
 have:((1:Int):Rat) / ((1:Int):Rat)=1:=div_one _
 rw [this]
theorem Zux {N:Nat} (hr:Xc N 8):Zgt N=some (Zw 1):=by
 rw [Zgt,Zn6 hr];rfl
theorem Zlq:RV 1 (Zw 1):=Vl (by rw [Z06];omega)
theorem Z0k {N k:Nat} {x:QV} (hx:RV k x) (hr:Xc N (2 * k+16)):Zfs N x=some (Vj x):=by
 have h2:Zbh N ((x.1.1,x.1.2),x.2)=some (So (Zr x)):=Zqr hx (hr.mono (by omega))
 rw [Zfs,h2,Option.bind_some,Vj]
 by_cases h:Zr x<0
 ·rw [if_pos (decide_eq_true (Zlf.2 h)),Zft,decide_eq_true h,Bool.true_or]
 ·rw [if_neg (by rw [decide_eq_false (fun h3=>h (Zlf.1 h3))];decide),decide_eq_false h,Bool.false_or,Zsf (hr.mono (by omega)),Option.bind_some,Zkf (a:=((x.1.1,x.1.2),x.2)) (b:=Zw 1) hx Zlq (hr.mono (by omega)),Option.bind_some,Zft,Wt]
  congr 1
  exact decide_eq_decide.2 Ztc
theorem Z16 {N k:Nat} {x:QV} (hx:RV k x) (hr:Xc N (2 * k+16)):Zgu N x=some (Vj x):=by
 have h2:Zbz N ((x.1.1,x.1.2),x.2)=some (So (Zr x)):=Zuf hx (hr.mono (by omega))
 rw [Zgu,h2,Option.bind_some,Vj]
 by_cases h:Zr x<0
 ·rw [if_pos (decide_eq_true (Zlf.2 h)),Zgv,decide_eq_true h,Bool.true_or]
 ·rw [if_neg (by rw [decide_eq_false (fun h3=>h (Zlf.1 h3))];decide),decide_eq_false h,Bool.false_or,Zux (hr.mono (by omega)),Option.bind_some,Zhc (a:=((x.1.1,x.1.2),x.2)) (b:=Zw 1) hx Zlq (hr.mono (by omega)),Option.bind_some,Zgv,Wt]
  congr 1
  exact decide_eq_decide.2 Ztc
def Vx (x:QV):QV:=if Zb x.2=0 then (x.1,[1]) else x
theorem Zqg {x:QV} (h:Wo x):Wo (Vx x):=by
 rw [Vx];split
 ·exact ⟨h.1,.cons (by decide) .nil⟩
 ·exact h
theorem Zqh (x:QV):Zr (Vx x)=Zr x:=by
 rw [Vx];split
 ·rename_i h
  rw [Zr,Zr]
  show mkRat (Zt x.1) (Xw [1])=mkRat (Zt x.1) (Xw x.2)
  rw [Xw,Xw,if_pos h]
  congr 1
 ·rfl
theorem Zy8 (x:QV):Vj (Vx x)=Vj x:=by rw [Vj,Vj,Zqh]
theorem Zy7 (x:QV):max (Vx x).1.2.length (Vx x).2.length≤max x.1.2.length x.2.length+1:=by
 rw [Vx];split
 ·show max x.1.2.length [(1:Int)].length≤_
  simp only [List.length_singleton];omega
 ·omega
theorem Znp:∀ l:List QV,2 * l.length≤X5 l
 | []=>by simp [X5]
 | a :: l=>by rw [X5,List.length_cons];have:=Znp l;omega
theorem Zno:∀ l:List QV,X5 (l.map Vx)≤X5 l+l.length
 | []=>by simp [X5]
 | a :: l=>by
  rw [List.map_cons,X5,X5,List.length_cons]
  have:=Zno l;have:=Zy7 a;omega
theorem Ztd (a b:List QV):X5 (a++b)=X5 a+X5 b:=by
 induction a with
 | nil=>simp [X5]
 | cons x a ih=>rw [List.cons_append,X5,X5,ih];omega
theorem Znq (l:List QV) (k:Nat):X5 (l.take k)≤X5 l:=by
 have:=Ztd (l.take k) (l.drop k)
 rw [List.take_append_drop] at this;omega
theorem Znn (l:List QV) (k:Nat):X5 (l.drop k)≤X5 l:=by
 have:=Ztd (l.take k) (l.drop k)
 rw [List.take_append_drop] at this;omega
theorem Ztf {l:List QV} {x:QV} (h:x ∈ l):max x.1.2.length x.2.length≤X5 l:=by
 induction l with
 | nil=>simp at h
 | cons y l ih=>
  rw [X5]
  rcases List.mem_cons.1 h with rfl | h
  ·omega
  ·have:=ih h;omega
theorem Zza {N k:Nat} {x:QV} (h:Wo x) (hk:max x.1.2.length x.2.length≤k) (hr:Xc N k):Zfm N x=some (Vx x):=by
 obtain ⟨r1,r2⟩:=hr
 rw [Zfm,Zne h.2 (by omega) (by omega),Option.bind_some,Vx]
 by_cases h0:Zb x.2=0
 ·rw [h0,Wr,if_pos (by decide),if_pos rfl,Zjb (by decide) (by omega),Option.bind_some,Zfn,show (1:Int).toNat=1 from rfl,U8]
 ·have:=Tk h0
  rw [if_neg (by rw [decide_eq_false (by omega)];decide),if_neg h0,Zfn]
theorem Zqm {N W:Nat} (hr:Xc N W):∀ (l out:List QV),(∀ x ∈ l,Wo x)→X5 l≤W→out.length+l.length≤1048576→Zbn N l out=some (out++l.map Vx)
 | [],out,_,_,_=>by rw [Zbn.eq_1];simp
 | x :: l,out,hl,hq,hlen=>by
  rw [X5] at hq
  rw [List.length_cons] at hlen
  have h1:Zfm N ((x.1.1,x.1.2),x.2)=some (Vx x):=Zza (x:=x) (hl x List.mem_cons_self) (k:=W) (by omega) hr
  rw [Zbn.eq_2,h1,Option.bind_some,Z4 (by simp only [List.length_singleton,maxLen];omega),Zqm hr l _ (fun y hy=>hl y (List.mem_cons_of_mem _ hy)) (by omega) (by simp only [List.length_append,List.length_singleton];omega)]
  simp
theorem Zqn {N W:Nat} {l:List QV} (hr:Xc N W) (hl:∀ x ∈ l,Wo x) (hq:X5 l≤W) (hlen:l.length≤1048576):Zfo N l=some (l.map Vx):=by
 rw [Zfo,Z4 (by simp only [maxLen];omega),Zqm hr l [] hl hq (by simpa using hlen),List.nil_append]
theorem Zqy {N W:Nat} (hr:Xc N (2 * W+16)):∀ (l:List QV) (k:Nat),(∀ x ∈ l,Wo x)→X5 l≤W→∃ j:Int,Zek N l k=some j∧(0≤j↔l.any Vj=true)
 | [],k,_,_=>⟨-1,rfl,by simp⟩
 | x :: l,k,hl,hq=>by
  rw [X5] at hq
  have hx:=hl x List.mem_cons_self
  have h1:Zfs N ((x.1.1,x.1.2),x.2)=some (Vj x):=Z0k (x:=x) (Zcj hx.1 hx.2) (hr.mono (by omega))
  rw [Zek.eq_2,h1,Option.bind_some,List.any_cons]
  cases Vj x with
  | true=>rw [if_pos rfl];exact ⟨_,rfl,by simp⟩
  | false=>
   rw [if_neg (by decide)]
   obtain ⟨j,h1,h2⟩:=Zqy hr l (k+1) (fun y hy=>hl y (List.mem_cons_of_mem _ hy)) (by omega)
   exact ⟨j,h1,by rw [h2];simp⟩
def Zcs (T:List (List QV)):Bool:=T.any fun t=>t.any Vj
theorem Zwf (l:List QV):(l.map Vx).any Vj=l.any Vj:=by
 induction l with
 | nil=>rfl
 | cons x l ih=>rw [List.map_cons,List.any_cons,List.any_cons,ih,Zy8]
theorem Zr7 {N W:Nat} {n:Xq} (hr:Xc N (4 * W+16)):∀ l:List (List QV),(∀ t ∈ l,t.length≤1048576∧X5 t≤W∧∀ x ∈ t,Wo x)→Zah N n l=if Zcs l=true then some 45 else Zbm N n n.2.2.2.2 0
 | [],_=>by rw [Zah.eq_1];rfl
 | t :: l,h=>by
  obtain ⟨h1,h2,h3⟩:=h t List.mem_cons_self
  have hp:=Znp t
  have hf:=Zno t
  obtain ⟨j,j1,j2⟩:=Zqy (N:=N) (W:=2 * W) (hr.mono (by omega)) (t.map Vx) 0 (fun x hx=>by
   obtain ⟨y,hy,rfl⟩:=List.mem_map.1 hx
   exact Zqg (h3 y hy)) (by omega)
  rw [Zah.eq_2,Zqn (W:=W) (hr.mono (by omega)) h3 h2 h1,Option.bind_some,Zk0,Zk1,j1,Option.bind_some,Option.bind_some,Zcs,List.any_cons]
  rw [Zwf] at j2
  by_cases ho:t.any Vj=true
  ·rw [if_pos (decide_eq_true (j2.2 ho)),ho,Bool.true_or,if_pos rfl]
  ·rw [if_neg (by rw [decide_eq_false (fun h=>ho (j2.1 h))];decide),Bool.eq_false_iff.2 ho,Bool.false_or]
   exact Zr7 hr l fun x hx=>h x (List.mem_cons_of_mem _ hx)
theorem Zuc {N W:Nat} {n:Xq} (sz:List Int) (hr:Xc N (4 * W+16)) {v:Nat} (hv:v<n.2.2.2.2.length) (hvs:v<1048576) (h1:n.2.2.2.2[v].length≤1048576) (h2:X5 n.2.2.2.2[v]≤W) (h3:∀ x ∈ n.2.2.2.2[v],Wo x) (kk:Int→Option Int):∀ (m i:Nat),i≤n.2.2.2.2[v].length→n.2.2.2.2[v].length<m+i→
  Zdz N n (v:Int) kk m (i:Int)=if ((n.2.2.2.2[v]).drop i).any Vj=true then some 45 else kk ((v:Int)+1)
 | 0,i,g1,g2=>by omega
 | m+1,i,g1,g2=>by
  rw [Zdz.eq_2,Zx hv,Option.bind_some]
  by_cases hi:i<n.2.2.2.2[v].length
  ·have hx:=h3 _ (List.getElem_mem hi)
   have hm:=Ztf (List.getElem_mem hi)
   have e:Zgu N (((n.2.2.2.2[v][i]).1.1,(n.2.2.2.2[v][i]).1.2),(n.2.2.2.2[v][i]).2)=some (Vj n.2.2.2.2[v][i]):=Z16 (x:=n.2.2.2.2[v][i]) (Zcj hx.1 hx.2) (hr.mono (by omega))
   rw [if_pos (decide_eq_true (by omega)),Zx hi,Option.bind_some,e,Option.bind_some,List.drop_eq_getElem_cons hi,List.any_cons]
   cases Vj n.2.2.2.2[v][i] with
   | true=>rw [if_pos rfl,Bool.true_or,if_pos rfl]
   | false=>
    rw [if_neg (by decide),Bool.false_or,Zq (by omega)]
    exact Zuc sz hr hv hvs h1 h2 h3 kk m (i+1) (by omega) (by omega)
  ·rw [if_neg (by rw [decide_eq_false (by omega)];decide),List.drop_eq_nil_of_le (by omega),List.any_nil,if_neg (by decide),Zq (by omega)]
theorem Zub {N W:Nat} {n:Xq} (sz:List Int) (hs:Ur n W) (he:n.2.2.2.2.length=n.2.1.length) (hr:Xc N (4 * W+16)) (hN:1048577<N):∀ (m fuel v:Nat),m+v=n.2.1.length→m<fuel→
  Qz N n sz fuel (v:Int)=if Zcs (n.2.2.2.2.drop v)=true then some 45 else Zax N n sz N 0
 | 0,0,v,_,h=>by omega
 | 0,fuel+1,v,h1,_=>by
  rw [Qz.eq_2,if_neg (by rw [decide_eq_false (by omega)];decide),List.drop_eq_nil_of_le (by omega)];rfl
 | m+1,0,v,_,h=>by omega
 | m+1,fuel+1,v,h1,h2=>by
  have hv:v<n.2.2.2.2.length:=by omega
  have hnm:=hs.nm
  have hm:=List.getElem_mem hv
  rw [Qz.eq_2,if_pos (decide_eq_true (by omega)),show (0:Int)=((0:Nat):Int) from rfl,Zuc sz hr hv (by omega) (hs.tl _ hm) (hs.tq _ hm) (hs.lim _ hm) _ N 0 (by omega) (by have:=hs.tl _ hm;omega),List.drop_zero,List.drop_eq_getElem_cons hv,Zcs,List.any_cons]
  cases n.2.2.2.2[v].any Vj with
  | true=>rw [if_pos rfl,Bool.true_or,if_pos rfl]
  | false=>
   rw [if_neg (by decide),Bool.false_or]
   exact Zub sz hs he hr hN m fuel (v+1) (by omega) (by omega)
def Tr (c:Nat):Nat→List QV→Bool
 | 0,_=>true
 | m+1,l=>decide (W7 (l.take c)=1)&&Tr c m (l.drop c)
def Zhv (c:Nat):Nat→List QV→List (List QV)
 | 0,_=>[]
 | m+1,l=>l.take c :: Zhv c m (l.drop c)
theorem Zpq (N:Nat) (l:List QV) (c:Nat) (hc:0<c) (hl:l.length≤1048576) (hcs:c≤1048576):∀ (m fuel i:Nat),i+m * c=l.length→m<fuel→Zcc N l (c:Int) fuel (i:Int)=some (Zhv c m (l.drop i))
 | 0,0,i,_,h=>by omega
 | 0,fuel+1,i,h1,_=>by
  rw [Zcc.eq_2,if_neg (by rw [decide_eq_false (by omega)];decide)];rfl
 | m+1,0,i,_,h=>by omega
 | m+1,fuel+1,i,h1,h2=>by
  have h3:i+c+m * c=l.length:=by rw [Nat.add_mul,Nat.one_mul] at h1;omega
  have e:(if ((l.drop i).length:Int)<(c:Int) then ((l.drop i).length:Int) else (c:Int))=(c:Int):=by
   rw [List.length_drop]
   by_cases h:((l.length - i:Nat):Int)<(c:Int)
   ·omega
   ·rw [if_neg h]
  rw [Zcc.eq_2,if_pos (decide_eq_true (by omega)),Int.toNat_natCast,e,Zq (by omega),Z4 (by omega),Z4 (by omega),show (i:Int)+(c:Int)=((i+c:Nat):Int) by omega,Zpq N l c hc hl hcs m fuel (i+c) (by omega) (by omega),Option.bind_some,Int.toNat_natCast,Zhv,List.drop_take,show i+c - i=c by omega,List.drop_drop]
theorem Z08 (l:List QV):W7 (l.map Vx)=W7 l:=by
 rw [W7,W7,List.map_map]
 congr 1
 exact List.map_congr_left fun x _=>Zqh x
theorem Zsx (c:Nat):∀ (m:Nat) (l:List QV),Tr c m (l.map Vx)=Tr c m l
 | 0,l=>rfl
 | m+1,l=>by rw [Tr,Tr,← List.map_take,← List.map_drop,Z08,Zsx c m]
theorem Zso {N W:Nat} (hr:Xc N (4 * W+40)) (c:Nat) (b:Bool):∀ (m:Nat) (l:List QV),(∀ x ∈ l,Wo x)→X5 l≤W→Zdb N (Zhv c m l) b=some (Tr c m l)
 | 0,l,_,_=>rfl
 | m+1,l,hl,hq=>by
  have ht:=Znq l c
  have hd:=Znn l c
  obtain ⟨s1,s2⟩:=Zmy (N:=N) (l:=l.take c) (fun x hx=>hl x (List.mem_of_mem_take hx)) (hr.mono (by omega))
  rw [Zhv,Zdb.eq_2,s1,Option.bind_some,Zsf (hr.mono (by omega)),Option.bind_some,Zkf (a:=Zw _) (b:=Zw 1) (Vl s2) Zlq (hr.mono (by omega)),Option.bind_some,Wt,Wt,Tr]
  by_cases h:W7 (l.take c)=1
  ·rw [if_neg (by rw [Zlc.2 h];decide),decide_eq_true h,Bool.true_and]
   exact Zso hr c b m _ (fun x hx=>hl x (List.mem_of_mem_drop hx)) (by omega)
  ·rw [if_pos (by rw [decide_eq_false (fun h2=>h (Zlc.1 h2))];decide),decide_eq_false h,Bool.false_and];rfl
theorem Z0m {N W c m:Nat} {l:List QV} (hr:Xc N (4 * W+40)) (hl:∀ x ∈ l,Wo x) (hq:X5 l≤W) (hc:0<c) (hcs:c≤1048576) (hll:l.length≤1048576) (hm:m * c=l.length) (hN:1048577<N):Zib N l (c:Int)=some (Tr c m l):=by
 have hmc:m≤l.length:=by rw [← hm];exact Nat.le_mul_of_pos_right m hc
 rw [Zib,Zkx,if_neg (by rw [decide_eq_false (by omega)];decide),Zkz,Zky,show (0:Int)=((0:Nat):Int) from rfl,Zpq N l c hc hll hcs m N 0 (by omega) (by omega),Option.bind_some,List.drop_zero]
 exact Zso hr c false m l hl hq
theorem Zu9 {N W c:Nat} {l:List QV} (hr:Xc N (4 * W+40)) (hl:∀ x ∈ l,Wo x) (hq:X5 l≤W) (hc:0<c) (hcs:c≤1048576) (hll:l.length≤1048576) (hN:1048577<N):∀ (m fuel i:Nat),i+m * c=l.length→m<fuel→Zb3 N l (c:Int) fuel (i:Int)=some (Tr c m (l.drop i))
 | 0,0,i,_,h=>by omega
 | 0,fuel+1,i,h1,_=>by
  rw [Zb3.eq_2,if_neg (by rw [decide_eq_false (by omega)];decide)];rfl
 | m+1,0,i,_,h=>by omega
 | m+1,fuel+1,i,h1,h2=>by
  have h3:i+c+m * c=l.length:=by rw [Nat.add_mul,Nat.one_mul] at h1;omega
  have ht:=Znq (l.drop i) c
  have hd:=Znn l i
  have hlim:∀ x ∈ (l.drop i).take c,Wo x:=fun x hx=>hl x (List.mem_of_mem_drop (List.mem_of_mem_take hx))
  obtain ⟨_,s2⟩:=Zmy (N:=N) (l:=(l.drop i).take c) hlim (hr.mono (by omega))
  have hlen:((l.drop i).take c).length≤1048576:=by rw [List.length_take,List.length_drop];omega
  rw [Zb3.eq_2,if_pos (decide_eq_true (by omega)),Zq (by omega),Z4 (by omega),show (i:Int)+(c:Int)=((i+c:Nat):Int) by omega,Int.toNat_natCast,Int.toNat_natCast,List.drop_take,show i+c - i=c by omega,Z14 hlim (by omega) (by omega) (hr.mono (by omega)),Option.bind_some,Zux (hr.mono (by omega)),Option.bind_some,Zhc (a:=Zw _) (b:=Zw 1) (Vl s2) Zlq (hr.mono (by omega)),Option.bind_some,Wt,Wt,Tr]
  by_cases h:W7 ((l.drop i).take c)=1
  ·rw [if_neg (by rw [Zlc.2 h];decide),decide_eq_true h,Bool.true_and,List.drop_drop]
   exact Zu9 hr hl hq hc hcs hll hN m fuel (i+c) (by omega) (by omega)
  ·rw [if_pos (by rw [decide_eq_false (fun h2=>h (Zlc.1 h2))];decide),decide_eq_false h,Bool.false_and]
def Zhe (vals:List R9) (P:List R2) (T:List (List QV)):Nat→Nat→Int
 | 0,_=>0
 | m+1,v=>if Tr (vals.getD v []).length (Yg vals (P.getD v []) 1) (T.getD v [])=true then Zhe vals P T m (v+1) else 46
theorem Zlr {vals:List R9} {P:List R2} {T:List (List QV)}:∀ (m v:Nat),Tu vals P T m v=0→∀ i,v≤i→i<v+m→Yg vals (P.getD i []) 1 * (vals.getD i []).length=(T.getD i []).length∧(T.getD i []).length≤65536
 | 0,v,_,i,h1,h2=>by omega
 | m+1,v,h,i,h1,h2=>by
  rw [Tu] at h
  by_cases h3:65536<Yg vals (P.getD v []) 1 * (vals.getD v []).length
  ·rw [if_pos h3] at h;cases h
  ·rw [if_neg h3] at h
   by_cases h4:Yg vals (P.getD v []) 1 * (vals.getD v []).length=(T.getD v []).length
   ·rw [if_neg (show ¬ Yg vals (P.getD v []) 1 * (vals.getD v []).length≠(T.getD v []).length from fun h=>h h4)] at h
    rcases Nat.lt_or_ge v i with h5 | h5
    ·exact Zlr m (v+1) h i (by omega) (by omega)
    ·have:i=v:=by omega
     subst this
     exact ⟨h4,by omega⟩
   ·rw [if_pos h4] at h;cases h
theorem Zsj {N W:Nat} {n:Xq} (hs:Ur n W) (he:Tg n) (hsh:Tu n.2.2.1 n.2.2.2.1 n.2.2.2.2 n.2.1.length 0=0) (hr:Xc N (8 * W+40)) (hN:1048577<N):∀ (l:List (List QV)) (k:Nat),n.2.2.2.2.drop k=l→k≤n.2.1.length→Zbm N n l k=some (Zhe n.2.2.1 n.2.2.2.1 n.2.2.2.2 l.length k)
 | [],k,_,_=>rfl
 | t :: l,k,hd,hk=>by
  have ht:=he.t;have hv:=he.v;have hp:=he.p
  have hk1:k<n.2.2.2.2.length:=by
   rcases Nat.lt_or_ge k n.2.2.2.2.length with h | h
   ·exact h
   ·rw [List.drop_eq_nil_of_le h] at hd;cases hd
  have hd2:=List.drop_eq_getElem_cons hk1
  rw [hd] at hd2
  obtain ⟨hx,hl2⟩:=List.cons.inj hd2
  have kv:k<n.2.2.1.length:=by omega
  have kp:k<n.2.2.2.1.length:=by omega
  have hm:t ∈ n.2.2.2.2:=by rw [hx];exact List.getElem_mem hk1
  have c1:=hs.vl _ (List.getElem_mem kv)
  have c0:0<n.2.2.1[k].length:=List.length_pos_iff.2 (he.ne _ (List.getElem_mem kv))
  obtain ⟨s1,s2⟩:=Zlr _ 0 hsh k (by omega) (by omega)
  rw [Yj kv,Yj hk1,← hx] at s1
  rw [Yj hk1,← hx] at s2
  have hq:=hs.tq t hm
  have hp2:=Znp t
  have hf:=Zno t
  rw [Zbm.eq_2,Zx kv,Option.bind_some,Zqn (W:=W) (hr.mono (by omega)) (hs.lim t hm) hq (hs.tl t hm),Option.bind_some,
   Z0m (W:=2 * W) (m:=Yg n.2.2.1 (n.2.2.2.1.getD k []) 1) (hr.mono (by omega)) (fun x hx=>by
    obtain ⟨y,hy,rfl⟩:=List.mem_map.1 hx
    exact Zqg (hs.lim t hm y hy)) (by omega) c0 c1 (by rw [List.length_map];omega) (by rw [List.length_map];exact s1) hN,Option.bind_some,Zsx,List.length_cons,Zhe,Yj kv,Yj hk1,← hx]
  cases Tr n.2.2.1[k].length (Yg n.2.2.1 (n.2.2.2.1.getD k []) 1) t with
  | true=>
   rw [if_neg (by decide),if_pos rfl]
   exact Zsj hs he hsh hr hN l (k+1) hl2.symm (by omega)
  | false=>rw [if_pos (by decide),if_neg (by decide)]
theorem Zu8 {N W:Nat} {n:Xq} (hs:Ur n W) (he:Tg n) (hsh:Tu n.2.2.1 n.2.2.2.1 n.2.2.2.2 n.2.1.length 0=0) (hr:Xc N (8 * W+40)) (hN:1048577<N):∀ (m fuel v:Nat),m+v=n.2.1.length→m<fuel→
  Zax N n (n.2.2.1.map fun l=>(l.length:Int)) fuel (v:Int)=some (Zhe n.2.2.1 n.2.2.2.1 n.2.2.2.2 m v)
 | 0,0,v,_,h=>by omega
 | 0,fuel+1,v,h1,_=>by
  rw [Zax.eq_2,if_neg (by rw [decide_eq_false (by omega)];decide)];rfl
 | m+1,0,v,_,h=>by omega
 | m+1,fuel+1,v,h1,h2=>by
  have ht:=he.t;have hv:=he.v;have hp:=he.p;have hnm:=hs.nm
  have kt:v<n.2.2.2.2.length:=by omega
  have kv:v<n.2.2.1.length:=by omega
  have hm:=List.getElem_mem kt
  have c1:=hs.vl _ (List.getElem_mem kv)
  have c0:0<n.2.2.1[v].length:=List.length_pos_iff.2 (he.ne _ (List.getElem_mem kv))
  obtain ⟨s1,s2⟩:=Zlr _ 0 hsh v (by omega) (by omega)
  rw [Yj kv,Yj kt] at s1
  rw [Yj kt] at s2
  have hmc:Yg n.2.2.1 (n.2.2.2.1.getD v []) 1≤n.2.2.2.2[v].length:=by rw [← s1];exact Nat.le_mul_of_pos_right _ c0
  have hw:=Zu9 (N:=N) (W:=W) (c:=n.2.2.1[v].length) (l:=n.2.2.2.2[v]) (hr.mono (by omega)) (hs.lim _ hm) (hs.tq _ hm) c0 c1 (hs.tl _ hm) hN (Yg n.2.2.1 (n.2.2.2.1.getD v []) 1) N 0 (by omega) (by omega)
  rw [List.drop_zero,show ((0:Nat):Int)=0 from rfl] at hw
  rw [Zax.eq_2,if_pos (decide_eq_true (by omega)),Zx kt,Option.bind_some,Zlt kv,Option.bind_some,Zkv,hw,Option.bind_some,Zhe,Yj kv,Yj kt]
  cases Tr n.2.2.1[v].length (Yg n.2.2.1 (n.2.2.2.1.getD v []) 1) n.2.2.2.2[v] with
  | true=>
   rw [if_neg (by decide),if_pos rfl,Zq (by omega)]
   exact Zu8 hs he hsh hr hN m fuel (v+1) (by omega) (by omega)
  | false=>rw [if_pos (by decide),if_neg (by decide)]
structure V7 (N:Nat) (n:Xq):Prop where
 ev:Tg n
 le:n.2.1.length≤1024
 nm:Tq n.2.1 n.2.2.1 n.2.1.length 0=0
 sh:Tu n.2.2.1 n.2.2.2.1 n.2.2.2.2 n.2.1.length 0=0
 en:Zcs n.2.2.2.2=false
 su:Zhe n.2.2.1 n.2.2.2.1 n.2.2.2.2 n.2.1.length 0=0
 tw:U1 n.2.2.2.1=false
 or:∃ l,Qj N n.2.2.2.1=some (l,0)∧Ta N n.2.2.2.1=some l∧Se N n.2.2.2.1=some 0∧Uq n.2.2.2.1 l∧l.length=n.2.2.2.1.length
theorem Zyh {N W:Nat} {n:Xq} (hs:Ur n W) (hr:Xc N (8 * W+40)) (hN:2000000<N):∃ e,Zfl N n=some e∧Zgq N n=some e∧(e=0→V7 N n):=by
 have hnm:=hs.nm
 -- shapes of the lists
 have J:∀ b:Bool,(b=true→Zbl N n b=some 60∧Zb2 N n b=some 60):=fun b hb=>by
  subst hb
  exact ⟨by rw [Zbl,if_pos rfl],by rw [Zb2,if_pos rfl]⟩
 have J1:=J true rfl
 rw [Zfl,Zgq]
 by_cases hv:n.2.2.1.length=n.2.1.length
 ·by_cases hp:n.2.2.2.1.length=n.2.1.length
  ·by_cases ht:n.2.2.2.2.length=n.2.1.length
   ·rw [if_neg (by rw [decide_eq_true (by omega)];decide),if_neg (by rw [decide_eq_true (by omega)];decide),if_neg (by rw [decide_eq_true (by omega)];decide),if_neg (by rw [decide_eq_true (by omega)];decide),show (!decide ((n.2.2.2.2.length:Int)=(n.2.1.length:Int)))=false by rw [decide_eq_true (by omega)];rfl,Zbl,Zb2,if_neg (show ¬ (false=true) by decide),if_neg (show ¬ (false=true) by decide)]
    by_cases hk:1024<n.2.1.length
    ·rw [if_pos (decide_eq_true (by omega)),if_pos (decide_eq_true (by omega))]
     exact ⟨4,rfl,rfl,fun h=>by cases h⟩
    ·rw [if_neg (by rw [decide_eq_false (by omega)];decide),if_neg (by rw [decide_eq_false (by omega)];decide)]
     have nn:Zfp (n.1,n.2.1,n.2.2.1,n.2.2.2.1,n.2.2.2.2)=some (Tq n.2.1 n.2.2.1 n.2.1.length 0):=Z0o n hv
     have rn:=Zur N n hv (by omega) hs.vl (by omega) n.2.1.length N 0 (by omega) (by omega)
     rw [show ((0:Nat):Int)=0 from rfl] at rn
     rw [nn,Option.bind_some,rn]
     by_cases hnms:Tq n.2.1 n.2.2.1 n.2.1.length 0=0
     ·rw [if_neg (by rw [decide_eq_true hnms];decide),if_pos hnms]
      obtain ⟨f,hf⟩:∃ f,N - n.2.1.length=f+1:=⟨N - n.2.1.length - 1,by omega⟩
      rw [hf,Sf.eq_2,if_neg (by rw [decide_eq_false (by omega)];decide)]
      have hne:∀ l ∈ n.2.2.1,l≠[]:=fun l hl=>by
       obtain ⟨i,hi,rfl⟩:=List.mem_iff_getElem.1 hl
       have:=(Zsq _ 0 hnms i (by omega) (by omega)).1
       rw [Yj hi] at this;exact this
      have fin:∀ e,Zad N n.2.2.2.1=some e→Se N n.2.2.2.1=some e→e≠0→∃ e,((Zad N n.2.2.2.1).bind fun r_17=>if (!decide (r_17=0))=true then some r_17 else Zag N n n.2.2.2.2 0)=some e∧((Se N n.2.2.2.1).bind fun r_76=>if (!decide (r_76=0))=true then some r_76 else (Zd2 N (n.1,n.2.1,n.2.2.1,n.2.2.2.1,n.2.2.2.2)).bind fun r_80=>Zaw N n r_80 N 0)=some e∧(e=0→V7 N n):=fun e h1 h2 h3=>by
       rw [h1,h2,Option.bind_some,Option.bind_some,if_pos (by rw [decide_eq_false h3];decide),if_pos (by rw [decide_eq_false h3];decide)]
       exact ⟨e,rfl,rfl,fun h=>absurd h h3⟩
      rcases Zve hs.pn hN with ⟨e,D,R,h3⟩ | ⟨_,_,l,_,_,_,_,D,R⟩ | ⟨hI,hT,l,ho,hok,hmx,hle,D,R⟩
      ·exact fin e (by rw [Zad,D];rfl) R (by rcases h3 with h | h <;> omega)
      ·exact fin 42 (by rw [Zad,D];rfl) R (by decide)
      ·have D':Zad N n.2.2.2.1=some 0:=by rw [Zad,D];rfl
       have he:Tg n:=⟨hv,hp,ht,hI,hne⟩
       have hsz:Zd2 N (n.1,n.2.1,n.2.2.1,n.2.2.2.1,n.2.2.2.2)=some (n.2.2.1.map fun l=>(l.length:Int)):=Z2e (n:=n) (by omega) (by omega)
       have ms:=Zsi (N:=N) hs he n.2.2.2.2 0 (by simp) (by omega)
       have rs:=Zu5 (N:=N) (by omega) hs he n.2.1.length N 0 (by omega) (by omega)
       rw [show ((0:Nat):Int)=0 from rfl] at rs
       rw [D',R,Option.bind_some,Option.bind_some,if_neg (by decide),if_neg (by decide),hsz,Option.bind_some,ms,rs,ht]
       by_cases hsh:Tu n.2.2.1 n.2.2.2.1 n.2.2.2.2 n.2.1.length 0=0
       ·have me:=Zr7 (N:=N) (n:=n) (W:=W) (hr.mono (by omega)) n.2.2.2.2 (fun t h=>⟨hs.tl t h,hs.tq t h,hs.lim t h⟩)
        have re:=Zub (N:=N) (n.2.2.1.map fun l=>(l.length:Int)) hs ht (hr.mono (by omega)) (by omega) n.2.1.length N 0 (by omega) (by omega)
        rw [show ((0:Nat):Int)=0 from rfl,List.drop_zero] at re
        rw [if_pos hsh,if_pos hsh,me,re]
        by_cases hen:Zcs n.2.2.2.2=true
        ·rw [if_pos hen,if_pos hen]
         exact ⟨45,rfl,rfl,fun h=>by cases h⟩
        ·have m6:=Zsj (N:=N) hs he hsh hr (by omega) n.2.2.2.2 0 (by simp) (by omega)
         have r6:=Zu8 (N:=N) hs he hsh hr (by omega) n.2.1.length N 0 (by omega) (by omega)
         rw [show ((0:Nat):Int)=0 from rfl] at r6
         rw [if_neg hen,if_neg hen,m6,r6,ht]
         exact ⟨_,rfl,rfl,fun h=>⟨he,by omega,hnms,hsh,Bool.eq_false_iff.2 hen,h,hT,l,D,ho,R,hok,hle⟩⟩
       ·rw [if_neg hsh,if_neg hsh]
        exact ⟨_,rfl,rfl,fun h=>absurd h hsh⟩
     ·rw [if_pos (by rw [decide_eq_false hnms];decide),if_neg hnms]
      exact ⟨_,rfl,rfl,fun h=>absurd h hnms⟩
   ·rw [if_neg (by rw [decide_eq_true (by omega)];decide),if_neg (by rw [decide_eq_true (by omega)];decide),if_neg (by rw [decide_eq_true (by omega)];decide),if_neg (by rw [decide_eq_true (by omega)];decide),decide_eq_false (by omega)]
    exact ⟨60,J1.1,J1.2,fun h=>by cases h⟩
  ·rw [if_neg (by rw [decide_eq_true (by omega)];decide),if_pos (by rw [decide_eq_false (by omega)];decide),if_neg (by rw [decide_eq_true (by omega)];decide),if_pos (by rw [decide_eq_false (by omega)];decide)]
   exact ⟨60,J1.1,J1.2,fun h=>by cases h⟩
 ·rw [if_pos (by rw [decide_eq_false (by omega)];decide),if_pos (by rw [decide_eq_false (by omega)];decide)]
  exact ⟨60,J1.1,J1.2,fun h=>by cases h⟩
def Yp (p:Rat×Rat):QV×QV:=(Zw p.1,Zw p.2)
def cnt (n:Xq) (v:Nat):Nat:=(n.2.2.1.getD v []).length
def Zhd (n:Xq) (w:List Int):List Int→Nat→Nat
 | [],r=>r
 | p :: ps,r=>Zhd n w ps (r * cnt n p.toNat+(w.getD p.toNat 0).toNat)
def Vt (n:Xq) (w:List Int) (v:Nat):Nat:=Zhd n w (n.2.2.2.1.getD v []) 0
def Xt (n:Xq) (w:List Int) (v:Nat):List QV:=((n.2.2.2.2.getD v []).drop (Vt n w v * cnt n v)).take (cnt n v)
structure Vv (n:Xq) (w:List Int):Prop where
 len:w.length=n.2.1.length
 ok:∀ i,i<w.length→0≤w.getD i 0∧w.getD i 0<(cnt n i:Int)
theorem Zmr {n:Xq} (he:Tg n) {v:Nat} (hv:v<n.2.1.length):0<cnt n v:=by
 have h1:v<n.2.2.1.length:=by rw [he.v];exact hv
 rw [cnt,Yj h1]
 exact List.length_pos_iff.2 (he.ne _ (List.getElem_mem h1))
theorem Zu2 {n:Xq} (he:Tg n):∀ (ps:List Int) (k:Nat),(∀ p ∈ ps,0≤p∧p<(n.2.1.length:Int))→k≤1099511627776→k≤Yg n.2.2.1 ps k
 | [],k,_,_=>Nat.le_refl _
 | p :: ps,k,hp,hk=>by
  have h1:=hp p List.mem_cons_self
  have h2:0<(n.2.2.1.getD p.toNat []).length:=Zmr he (by omega)
  rw [Yg]
  have h3:k≤min (k * (n.2.2.1.getD p.toNat []).length) 1099511627776:=Nat.le_min.2 ⟨Nat.le_mul_of_pos_right k h2,hk⟩
  exact Nat.le_trans h3 (Zu2 he ps _ (fun q hq=>hp q (List.mem_cons_of_mem _ hq)) (Nat.min_le_right _ _))
theorem Zn1 {n:Xq} (he:Tg n) {w:List Int} (hw:Vv n w) {p:Int} {ps:List Int} {r k:Nat} (hp:∀ q ∈ p :: ps,0≤q∧q<(n.2.1.length:Int)) (hr:r<k) (hk:k≤65536) (hb:Yg n.2.2.1 (p :: ps) k≤65536):
  r * cnt n p.toNat+(w.getD p.toNat 0).toNat<k * cnt n p.toNat∧k * cnt n p.toNat≤65536∧Yg n.2.2.1 ps (k * cnt n p.toNat)≤65536:=by
 have h1:=hp p List.mem_cons_self
 have h2:=hw.ok p.toNat (by rw [hw.len];omega)
 have h3:r * cnt n p.toNat+cnt n p.toNat≤k * cnt n p.toNat:=by
  have:=Nat.mul_le_mul_right (cnt n p.toNat) (show r+1≤k by omega)
  rwa [Nat.add_mul,Nat.one_mul] at this
 rw [Yg] at hb
 have h4:=Zu2 he ps (min (k * (n.2.2.1.getD p.toNat []).length) 1099511627776) (fun q hq=>hp q (List.mem_cons_of_mem _ hq)) (Nat.min_le_right _ _)
 have h5:k * (n.2.2.1.getD p.toNat []).length≤1099511627776:=by
  rcases Nat.le_total (k * (n.2.2.1.getD p.toNat []).length) 1099511627776 with h | h
  ·exact h
  ·rw [Nat.min_eq_right h] at h4 hb;omega
 rw [Nat.min_eq_left h5] at h4 hb
 exact ⟨by omega,Nat.le_trans h4 hb,hb⟩
theorem Zuz {n:Xq} (he:Tg n) {w:List Int} (hw:Vv n w):∀ (ps:List Int) (r k:Nat),(∀ q ∈ ps,0≤q∧q<(n.2.1.length:Int))→r<k→k≤65536→Yg n.2.2.1 ps k≤65536→Zhd n w ps r<Yg n.2.2.1 ps k
 | [],r,k,_,hr,_,_=>hr
 | p :: ps,r,k,hp,hr,hk,hb=>by
  obtain ⟨h1,h2,h3⟩:=Zn1 he hw hp hr hk hb
  have:=Zuz he hw ps _ _ (fun q hq=>hp q (List.mem_cons_of_mem _ hq)) h1 h2 h3
  rw [Zhd,Yg,Nat.min_eq_left (by rw [cnt] at h2;omega)]
  exact this
section
variable {N:Nat} {n:Xq} (hf:V7 N n)
include hf
theorem V7.pars {v:Nat} (hv:v<n.2.1.length):∀ p ∈ n.2.2.2.1.getD v [],0≤p∧p<(n.2.1.length:Int):=fun p hp=>by
 have h1:v<n.2.2.2.1.length:=by rw [hf.ev.p];exact hv
 rw [Yj h1] at hp
 have:=hf.ev.par (List.getElem_mem h1) p hp
 rwa [hf.ev.v] at this
theorem V7.rows {v:Nat} (hv:v<n.2.1.length):Yg n.2.2.1 (n.2.2.2.1.getD v []) 1 * cnt n v=(n.2.2.2.2.getD v []).length∧(n.2.2.2.2.getD v []).length≤65536∧Yg n.2.2.1 (n.2.2.2.1.getD v []) 1≤65536:=by
 have h1:=Zlr _ 0 hf.sh v (Nat.zero_le _) (by omega)
 have h2:=Zmr hf.ev hv
 refine ⟨h1.1,h1.2,?_⟩
 have h3:Yg n.2.2.1 (n.2.2.2.1.getD v []) 1≤Yg n.2.2.1 (n.2.2.2.1.getD v []) 1 * cnt n v:=Nat.le_mul_of_pos_right _ h2
 have h4:Yg n.2.2.1 (n.2.2.2.1.getD v []) 1 * cnt n v≤65536:=by
  have:=h1.1;rw [cnt,this];exact h1.2
 omega
theorem V7.row {w:List Int} (hw:Vv n w) {v:Nat} (hv:v<n.2.1.length):Vt n w v * cnt n v+cnt n v≤(n.2.2.2.2.getD v []).length∧Vt n w v<65536:=by
 obtain ⟨h1,h2,h3⟩:=hf.rows hv
 have h4:=Zuz hf.ev hw _ 0 1 (hf.pars hv) (by omega) (by omega) h3
 have h5:=Nat.mul_le_mul_right (cnt n v) (show Vt n w v+1≤Yg n.2.2.1 (n.2.2.2.1.getD v []) 1 from h4)
 rw [Nat.add_mul,Nat.one_mul,h1] at h5
 exact ⟨h5,Nat.lt_of_lt_of_le h4 h3⟩
theorem V7.rowT_len {w:List Int} (hw:Vv n w) {v:Nat} (hv:v<n.2.1.length):(Xt n w v).length=cnt n v:=by
 have:=(hf.row hw hv).1
 rw [Xt,List.length_take,List.length_drop];omega
theorem V7.ent {v:Nat} (hv:v<n.2.1.length):∀ x ∈ n.2.2.2.2.getD v [],0≤Zr x∧Zr x≤1:=fun x hx=>by
 have h1:v<n.2.2.2.2.length:=by rw [hf.ev.t];exact hv
 rw [Yj h1] at hx
 have h2:=hf.en
 rw [Zcs,List.any_eq_false] at h2
 have h3:=h2 _ (List.getElem_mem h1)
 rw [Bool.not_eq_true,List.any_eq_false] at h3
 have h4:=h3 x hx
 simp only [Vj,Bool.or_eq_true,decide_eq_true_eq,not_or] at h4
 exact ⟨Rat.not_lt.1 h4.1,Rat.not_lt.1 h4.2⟩
end
theorem Zi8 {n:Xq} {w:List Int} {v:Nat} {x:QV} (h:x ∈ Xt n w v):x ∈ n.2.2.2.2.getD v []:=List.mem_of_mem_drop (List.mem_of_mem_take h)
theorem Zuy {n:Xq} {w:List Int} {v j:Nat} (hj:j<(Xt n w v).length):Zk (n.2.2.2.2.getD v []) ((Vt n w v * cnt n v+j:Nat):Int)=some (Xt n w v)[j]:=by
 have h1:Vt n w v * cnt n v+j<(n.2.2.2.2.getD v []).length:=by
  rw [Xt,List.length_take,List.length_drop] at hj;omega
 rw [Zx h1]
 simp only [Xt,List.getElem_take,List.getElem_drop]
def Up (P:List R2) (l:List Int):Prop:=∀ (a:List Int) (v:Int) (b:List Int),l=a++v :: b→∀ p ∈ P.getD v.toNat [],p ∈ a
theorem Up.step {P:List R2} {l:List Int} {j:Nat} (h:Up P l) (hn:W0 P l 0=some j):Up P (l++[(j:Int)]):=by
 obtain ⟨_,h2,h3,_⟩:=Znc hn
 obtain ⟨h4,h5⟩:=(Zua h2).1 h3
 intro a v b e p hp
 rcases List.eq_nil_or_concat b with rfl | ⟨b',c,rfl⟩
 ·obtain ⟨e1,e2⟩:=List.append_inj' e rfl
  rw [List.cons.injEq] at e2
  obtain ⟨rfl,-⟩:=e2
  subst e1
  rw [Int.toNat_natCast,Yj h2] at hp
  exact h5 p hp
 ·rw [List.concat_eq_append,← List.cons_append,← List.append_assoc] at e
  exact h a v b' (List.append_inj' e rfl).1 p hp
theorem Zs1 {N:Nat} {P:List R2} (hP:P.length<1048576) (hls:∀ x ∈ P,x.length≤1048576) (hN:1048576<N):∀ (n:Nat) (l r:List Int),Uq P l→Up P l→V1 N P n l=some r→Up P r
 | 0,l,r,_,_,h=>by rw [V1.eq_1] at h;cases h
 | n+1,l,r,h0,hk,h=>by
  have hl:=h0.len
  rw [Znh (by omega) hls (by omega) hN] at h
  cases hnx:W0 P l 0 with
  | none=>rw [hnx] at h;cases h;exact hk
  | some j=>
   rw [hnx] at h
   exact Zs1 hP hls hN n (l++[(j:Int)]) r (h0.step hnx).1 (hk.step hnx) h
structure Zcn (P:List R2) (l:List Int):Prop where
 rg:∀ x ∈ l,0≤x∧x<(P.length:Int)
 nd:l.Nodup
 up:Up P l
theorem Z0z {N:Nat} {P:List R2} {l:List Int} (hP:P.length<1048576) (hls:∀ x ∈ P,x.length≤1048576) (hN:1048576<N) (h:Ta N P=some l) (ho:Uq P l):Zcn P l:=
 ⟨ho.2.1,ho.1,Zs1 hP hls hN N [] l ⟨.nil,by simp,by simp⟩ (fun a v b e=>by cases a <;> simp at e) (by rwa [Ta] at h)⟩
structure U3 (D M:Nat) (s:Rat×Rat):Prop where
 d:D≠0
 m:1≤M
 a:Bd D M s.1
 b:Bd D M s.2
theorem U3.zero:U3 1 1 (0,1):=⟨by decide,by decide,.zero 1 1,.one⟩
theorem Zm6 (M D:Nat):(Ze (M * D)).length≤(Ze M).length+(Ze D).length:=Ut M D
section
variable {N W:Nat} {n:Xq} (hf:V7 N n) (hs:Ur n W)
include hf hs
theorem Zmw {v:Nat} (hv:v<n.2.1.length):∀ x ∈ n.2.2.2.2.getD v [],Wo x∧max x.1.2.length x.2.length≤W:=fun x hx=>by
 have h1:v<n.2.2.2.2.length:=by rw [hf.ev.t];exact hv
 rw [Yj h1] at hx
 have h2:=hs.tq _ (List.getElem_mem h1)
 exact ⟨hs.lim _ (List.getElem_mem h1) x hx,Nat.le_trans (Ztf hx) h2⟩
theorem Z17 {v:Nat} (hv:v<n.2.1.length) (w:List Int):X5 (Xt n w v)≤W:=by
 have h1:v<n.2.2.2.2.length:=by rw [hf.ev.t];exact hv
 have h2:=hs.tq _ (List.getElem_mem h1)
 rw [Xt,Yj h1]
 exact Nat.le_trans (Znq _ _) (Nat.le_trans (Znn _ _) h2)
theorem Zm7 {w:List Int} (hw:Vv n w) {v:Nat} (hv:v<n.2.1.length) {D M:Nat} {s:Rat×Rat} (h:U3 D M s):∃ D' M',(Ze M').length+(Ze D').length≤(Ze M).length+(Ze D).length+(W+2)∧
  (∀ p ∈ Yd (s.2 - s.1) (Xt n w v) s.1,U3 D' M' p)∧qs (s.2 - s.1)≤(Ze M).length+(Ze D).length+1:=by
 have hl:Bd D (M+M) (s.2 - s.1):=h.b.sub h.a h.d
 have hE:=Zkd (Xt n w v)
 have hlim:∀ x ∈ Xt n w v,Wo x:=fun x hx=>(Zmw hf hs hv x (Zi8 hx)).1
 have hEl:=Zp8 (Xt n w v) hlim
 have hq:=Z17 hf hs hv w
 have hc:(Xt n w v).length≤65536:=by
  have h1:=(hf.rows hv).2.1
  have h2:=(hf.row hw hv).1
  rw [hf.rowT_len hw hv];omega
 have hP:=Zs6 (M:=M) h.d hl (Xt n w v) 1 s.1 M (by decide) (fun x hx=>hf.ent hv x (Zi8 hx)) (by rw [Nat.mul_one];exact h.a)
 rw [Nat.one_mul] at hP
 have hM:M+(M+M) * (Xt n w v).length≤M * 262144:=by
  have h1:(M+M) * (Xt n w v).length≤(M+M) * 65536:=Nat.mul_le_mul_left _ hc
  omega
 refine ⟨D * U4 (Xt n w v),M * 262144,?_,fun p hp=>?_,?_⟩
 ·have h1:=Ut D (U4 (Xt n w v))
  have h2:=Ut M 262144
  have h3:(Ze 262144).length≤1:=Wk.2 (by decide)
  omega
 ·obtain ⟨h1,h2⟩:=hP p hp
  have:=h.m
  exact ⟨Nat.mul_ne_zero h.d hE,by omega,h1.up hM,h2.up hM⟩
 ·have h1:=hl.qs h.d (by have:=h.m;omega)
  have h2:=Zm6 (M+M) D
  have h3:(Ze (M+M)).length≤(Ze M).length+1:=Zh1 (Nat.le_refl _) (Nat.le_refl _)
  omega
end
theorem U3.qa {D M:Nat} {s:Rat×Rat} (h:U3 D M s):qs s.1≤(Ze M).length+(Ze D).length:=Nat.le_trans (h.a.qs h.d h.m) (Zm6 M D)
theorem U3.qb {D M:Nat} {s:Rat×Rat} (h:U3 D M s):qs s.2≤(Ze M).length+(Ze D).length:=Nat.le_trans (h.b.qs h.d h.m) (Zm6 M D)
theorem Vv.set {n:Xq} {w:List Int} (h:Vv n w) {v:Nat} {k:Int} (hk:0≤k∧k<(cnt n v:Int)):Vv n (w.set v k):=by
 refine ⟨by rw [List.length_set];exact h.len,fun i hi=>?_⟩
 rw [List.length_set] at hi
 by_cases hv:v<w.length
 ·rw [Sz w 0 v i k hv]
  split
  ·rename_i e;rw [e];exact hk
  ·exact h.ok i hi
 ·rw [List.set_eq_of_length_le (by omega)];exact h.ok i hi
def Zi2 (N:Nat):Option (R1×R1):=
  (S5 N 0 1).bind fun aa=>(S5 N 1 1).bind fun ab=>some (((aa.1.1,aa.1.2),aa.2),((ab.1.1,ab.1.2),ab.2))
theorem Zx5 {N:Nat} {col:Zd} {w0:World} {r:(R1×R1)} (c1 c2 c3 c4:Nat) (hm:Zi2 N=some r):
    Calls Tryz.prog 87 #[] w0 (fun e w'=>∃ (col':Zd) (ra1:Option Addr) (rc2:Nat) (ra4:Option Addr) (rc5:Nat) (ra7:Option Addr) (rc8:Nat) (ra10:Option Addr) (rc11:Nat),e= .returned ((.agg #[.bool r.1.1.1,.slice ra1 r.1.1.2.length rc2,.slice ra4 r.1.2.length rc5,.bool r.2.1.1,.slice ra7 r.2.1.2.length rc8,.slice ra10 r.2.2.length rc11]))∧Zf col w0 col' w'∧Zc (Za.int .u32) 79 c1 col' w' ra1 rc2 r.1.1.2∧Zc (Za.int .u32) 79 c2 col' w' ra4 rc5 r.1.2∧Zc (Za.int .u32) 79 c3 col' w' ra7 rc8 r.2.1.2∧Zc (Za.int .u32) 79 c4 col' w' ra10 rc11 r.2.2):=by
 refine Yi (m:=4) func87 rfl rfl rfl ?_;rw [Zi2.eq_1] at hm;have aa:=St.start col w0;refine go ?_;refine Xr (col:=(Zi col)) #[.bool false,.slice none (([]:List Int).length) 0,.slice none (([]:List Int).length) 0,.bool false,.slice none (([]:List Int).length) 0,.slice none (([]:List Int).length) 0] 1 zeroValue49 ?_;intro a2 a3 al am ad;refine go ?_;obtain ⟨ae,an,hm⟩:=bZ hm;refine Zh (Zht (col:=al) 2 3 an) ?_;rintro _ a4 ⟨ao,ap,aq,ar,au,rfl,ak,af,ag⟩;refine ⟨_,rfl,?_⟩;obtain ⟨ah,av,hm⟩:=bZ hm;refine Zh (Zht (col:=ao) 4 5 av) ?_;rintro _ a5 ⟨a6,aw,ax,ay,az,rfl,ac,ai,aj⟩;refine ⟨_,rfl,?_⟩;refine lV (.agg #[.bool ae.1.1,.slice ap ae.1.2.length aq,.slice ar ae.2.length au,.bool ah.1.1,.slice aw ah.1.2.length ax,.slice ay ah.2.length az]) (Wc (l:=[_,_]) (qs:=[(0,3),(3,3)]) underlying49 zeroValue49 ⟨rfl,sizeOf47,rfl,sizeOf47,trivial⟩ rfl) ?_;replace ad:=(ad.gr ak).gr ac;refine Z9 ad ?_;intro a7 ab a0 a1;refine go ?_;cases hm;replace aa:=(((aa.grow am).grow ak).grow ac).kp ab a0;replace af:=(af.gr ac).kp ab;replace ag:=(ag.gr ac).kp ab;replace ai:=ai.kp ab;replace aj:=aj.kp ab;exact ⟨rfl,_,ra a1.atN,_,_,_,_,_,_,_,_,_,rfl,aa.fin (cm [(2,c1),(3,c2),(4,c3),(5,c4)]),aa.fo af,aa.fo ag,aa.fo ai,aa.fo aj⟩
theorem Z1r {N:Nat} (hr:Xc N 8):Zi2 N=some (Yp (0,1)):=by
 rw [Zi2,Zvh hr,Option.bind_some,Zn6 hr,Option.bind_some];rfl
theorem Zm9 {l:List (Rat×Rat)} {j:Nat} (hj:j<l.length):Zk (l.map Yp) (j:Int)=some (Yp (l.getD j (0,0))):=by
 rw [Zx (by rw [List.length_map];exact hj),List.getElem_map,Yj hj]
theorem Zr6 {l:List (Rat×Rat)} {j:Nat} (hj:j<l.length):l.getD j (0,0) ∈ l:=by rw [Yj hj];exact List.getElem_mem hj
def Ze8:Option R1:=
  some ((false,[1]),[1])
theorem Zoq {col:Zd} {w0:World} {r:R1} (c1 c2:Nat) (hm:Ze8=some r):
    Calls Tryz.prog 97 #[] w0 (fun e w'=>∃ (col':Zd) (ra1:Option Addr) (rc2:Nat) (ra4:Option Addr) (rc5:Nat),e= .returned ((.agg #[.bool r.1.1,.slice ra1 r.1.2.length rc2,.slice ra4 r.2.length rc5]))∧Zf col w0 col' w'∧Zc (Za.int .u32) 79 c1 col' w' ra1 rc2 r.1.2∧Zc (Za.int .u32) 79 c2 col' w' ra4 rc5 r.2):=by
 refine Yi (m:=5) func97 rfl rfl rfl ?_;rw [Ze8.eq_1] at hm;have aa:=St.start col w0;refine go ?_;refine Xr (col:=(Zi col)) #[.bool false,.slice none (([]:List Int).length) 0,.slice none (([]:List Int).length) 0] 1 zeroValue47 ?_;intro ao ap ai aj ab;refine go ?_;refine W4 (col:=ai) [1] 2 ?_;intro ag aq ak ah ac;refine lV (.agg #[.bool false,.slice ag ([1].length) 1]) (Wc (l:=[_,_]) (qs:=[(0,1),(1,1)]) underlying45 zeroValue45 ⟨rfl,sizeOf4,rfl,sizeOf43,trivial⟩ rfl)<|W4 (col:=ak) [1] 3 ?_;intro al ar au ad ae;refine lV (.agg #[.bool false,.slice ag ([1].length) 1,.slice al ([1].length) 1]) (Wc (l:=[_,_]) (qs:=[(0,2),(2,1)]) underlying47 zeroValue47 ⟨rfl,sizeOf45,rfl,sizeOf43,trivial⟩ rfl) ?_;replace ab:=(ab.gr ah).gr ad;refine Z9 ab ?_;intro av af am an;refine go ?_;cases hm;replace aa:=(((aa.grow aj).grow ah).grow ad).kp af am;replace ac:=(ac.gr ad).kp af;replace ae:=ae.kp af;exact ⟨rfl,_,ra an.atN,_,_,1,_,1,rfl,aa.fin (cm [(2,c1),(3,c2)]),aa.fo ac,aa.fo ae⟩
abbrev Ss:=Option (List Int×(QV×QV)×Bool)
theorem Zqo:Ze8=some (Zw 1):=by
 rw [Ze8,show Zw 1=((false,[1]),[1]) by rw [Zw,Xi];simp [U8]]
theorem Vv.zero {n:Xq} (he:Tg n):Vv n (List.replicate n.2.1.length 0):=by
 refine ⟨List.length_replicate,fun i hi=>?_⟩
 rw [List.length_replicate] at hi
 have:=Zmr he hi
 rw [List.getD_eq_getElem?_getD,List.getElem?_replicate,if_pos hi]
 simp;exact this
theorem Zzh {N:Nat} (hr:Xc N 16):Zc5 N ([]:List QV)=some (Zw 0):=by
 have:=(Zmy (N:=N) (l:=[]) (by simp) hr).1
 rwa [W7,List.map_nil,List.sum_nil] at this
abbrev noS:QV×QV:=(((false,([]:List Int)),([]:List Int)),((false,([]:List Int)),([]:List Int)))
def Ub (n:Xq) (ch:List (Rat×Rat)→Int):List Int→List Int→Rat×Rat→Option (List Int×(Rat×Rat))
 | [],w,s=>some (w,s)
 | v :: l,w,s=>if ch (Yd (s.2 - s.1) (Xt n w v.toNat) s.1)<0 then none else
   Ub n ch l (w.set v.toNat (ch (Yd (s.2 - s.1) (Xt n w v.toNat) s.1))) ((Yd (s.2 - s.1) (Xt n w v.toNat) s.1).getD (ch (Yd (s.2 - s.1) (Xt n w v.toNat) s.1)).toNat (0,0))
def Zmt:Option (List Int×(Rat×Rat))→Ss
 | none=>some ([],noS,false)
 | some (w,s)=>some (w,Yp s,true)
def Zms:Option (List Int×(Rat×Rat))→Option Ra
 | none=>some ([],false)
 | some (w,_)=>some (w,true)
def Zl5 (ch:List (Rat×Rat)→Int):Prop:=∀ P,ch P<(P.length:Int)
/-! the program's loops,the chooser left open -/
def Ze3 (N:Nat) (n:Xq) (ch:Int→List (QV×QV)→Option Int) (w:List Int) (kk:QV→QV→List Int→Ss) (x row:Int) (d:QV) (e:List ByteArray):Nat→QV→List (QV×QV)→Int→Ss
 | 0,_,_,_=>none
 | f+1,a,ps,k=>if decide (k<(e.length:Int))=true then (Zk n.2.2.2.2 x).bind fun t=>(Zk n.2.2.1 x).bind fun e2=>(Zk t (i64.wrap (i64.wrap (row * (e2.length:Int))+k))).bind fun y=>(Zc3 N d y).bind fun z=>(Zbg N a z).bind fun b=>
   Zv ((ps.length+[(a,b)].length) * 112≤140737488355328∧ps.length+[(a,b)].length≤maxLen) (Ze3 N n ch w kk x row d e f b (ps++[(a,b)]) (i64.wrap (k+1)))
  else (ch x ps).bind fun r=>if decide (r<0)=true then some ([],noS,false) else (Zk ps r).bind fun p=>(Zk w x).bind fun _=>(some (w.set (Int.toNat x) r)).bind fun xs=>kk p.1 p.2 xs
def Q9 (N:Nat) (n:Xq) (ch:Int→List (QV×QV)→Option Int) (s:QV×QV) (w:List Int) (kk:QV→QV→List Int→Ss) (x:Int):List Int→Int→Ss
 | [],row=>(Zc4 N s.2 s.1).bind fun d=>(Zk n.2.2.1 x).bind fun e=>Ze3 N n ch w kk x row d e N s.1 [] 0
 | p :: l,row=>(Zk n.2.2.1 p).bind fun e=>(Zk w p).bind fun y=>Q9 N n ch s w kk x l (i64.wrap (i64.wrap (row * (e.length:Int))+y))
def Za9 (N:Nat) (n:Xq) (ch:Int→List (QV×QV)→Option Int):List Int→QV→QV→List Int→Ss
 | [],a,b,w=>some (w,(a,b),true)
 | x :: l,a,b,w=>(Zk n.2.2.2.1 x).bind fun ps=>Q9 N n ch (a,b) w (Za9 N n ch l) x ps 0
section
variable {N K:Nat} {n:Xq} (hf:V7 N n) (hr:Xc N (8 * K+40))
include hf hr
theorem Zqw (ch:Int→List (QV×QV)→Option Int) (w:List Int) (hw:Vv n w) (kk:QV→QV→List Int→Ss) {v:Nat} (hv:v<n.2.1.length) (hl:∀ x ∈ Xt n w v,Wo x∧max x.1.2.length x.2.length≤K) {long:Rat} (hlong:qs long≤K) (F:List (QV×QV)→Ss)
  (hF:∀ P:List (QV×QV),((ch (v:Int) P).bind fun r=>if decide (r<0)=true then some ([],noS,false) else (Zk P r).bind fun p=>(Zk w (v:Int)).bind fun _=>(some (w.set (Int.toNat (v:Int)) r)).bind fun xs=>kk p.1 p.2 xs)=F P):
  ∀ (l:List QV) (f j:Nat) (a:Rat) (parts:List (QV×QV)),(Xt n w v).drop j=l→j≤cnt n v→cnt n v<f+j→qs a≤K→(∀ p ∈ Yd long l a,qs p.1≤K∧qs p.2≤K)→parts.length=j→
   Ze3 N n ch w kk (v:Int) (Vt n w v:Int) (Zw long) (n.2.2.1.getD v []) f (Zw a) parts (j:Int)=F (parts++(Yd long l a).map Yp)
 | l,0,j,a,parts,_,h1,h2,_,_,_=>by omega
 | l,f+1,j,a,parts,hd,h1,h2,ha,hp,hpl=>by
  have hlen:=hf.rowT_len hw hv
  have hrow:=hf.row hw hv
  have hrows:=hf.rows hv
  rw [Ze3]
  cases l with
  | nil=>
   have h3:=List.drop_eq_nil_iff.1 hd
   rw [if_neg (by rw [decide_eq_false (by rw [cnt] at h1 hlen;omega)];decide),hF,Yd,List.map_nil,List.append_nil]
  | cons y l=>
   have hj:j<(Xt n w v).length:=by
    rcases Nat.lt_or_ge j (Xt n w v).length with h | h
    ·exact h
    ·rw [List.drop_eq_nil_of_le h] at hd;cases hd
   have hy:(Xt n w v)[j]=y∧(Xt n w v).drop (j+1)=l:=by
    rw [List.drop_eq_getElem_cons hj] at hd
    exact List.cons.inj hd
   have hyK:=hl y (hy.1 ▸ List.getElem_mem hj)
   have hjc:j<cnt n v:=by omega
   have hq:=hp _ List.mem_cons_self
   have e0:(0:Int)≤((Vt n w v * cnt n v:Nat):Int):=Int.natCast_nonneg _
   have e1:i64.wrap ((Vt n w v:Int) * ((n.2.2.1.getD v []).length:Int))=((Vt n w v * cnt n v:Nat):Int):=by
    rw [show ((n.2.2.1.getD v []).length:Int)=((cnt n v:Nat):Int) from rfl,← Int.natCast_mul]
    exact Zq (by omega)
   have e2:i64.wrap (((Vt n w v * cnt n v:Nat):Int)+(j:Int))=((Vt n w v * cnt n v+j:Nat):Int):=by
    rw [← Int.natCast_add]
    exact Zq (by omega)
   have r1:=Zcj hyK.1.1 hyK.1.2
   have m1:Zc3 N (Zw long) y=some (Zw (long * Zr y)):=by
    have:=Zzb (Vl hlong) (r1.mono hyK.2) (hr.mono (by omega))
    rwa [Wt] at this
   have s1:qs (long * Zr y)≤K+(K+1):=by
    have h4:=Zth long (Zr y)
    have h5:=Zle hyK.1
    omega
   have a1:Zbg N (Zw a) (Zw (long * Zr y))=some (Zw (a+long * Zr y)):=by
    have:=Zqa (Vl ha) (Vl s1) (hr.mono (by omega))
    rwa [Wt,Wt] at this
   rw [if_pos (decide_eq_true (by rw [cnt] at hjc;omega)),Vw [] (by rw [hf.ev.t];exact hv),Option.bind_some,Vw [] (by rw [hf.ev.v];exact hv),Option.bind_some,e1,e2,Zuy hj,hy.1,Option.bind_some,m1,Option.bind_some,a1,Option.bind_some,
    Z4 (by simp only [List.length_singleton,maxLen];omega),Zq (x:=(j:Int)+1) (by omega)]
   have ih:=Zqw ch w hw kk hv hl hlong F hF l f (j+1) (a+long * Zr y) (parts++[Yp (a,a+long * Zr y)]) hy.2 (by omega) (by omega) hq.2 (fun p h=>hp p (List.mem_cons_of_mem _ h)) (by rw [List.length_append,List.length_singleton];omega)
   rw [List.append_assoc] at ih
   exact ih
omit hr in
theorem Zqv (ch:Int→List (QV×QV)→Option Int) (s:QV×QV) (w:List Int) (hw:Vv n w) (kk:QV→QV→List Int→Ss) (x:Int):∀ (ps:List Int) (r k:Nat),(∀ q ∈ ps,0≤q∧q<(n.2.1.length:Int))→r<k→k≤65536→Yg n.2.2.1 ps k≤65536→
  Q9 N n ch s w kk x ps (r:Int)=Q9 N n ch s w kk x [] (Zhd n w ps r:Int)
 | [],r,k,_,_,_,_=>rfl
 | p :: ps,r,k,hp,h1,h2,h3=>by
  obtain ⟨g1,g2,g3⟩:=Zn1 hf.ev hw hp h1 h2 h3
  have hpp:=hp p List.mem_cons_self
  have hwp:=hw.ok p.toNat (by rw [hw.len];omega)
  have g4:r * cnt n p.toNat≤k * cnt n p.toNat:=Nat.mul_le_mul_right _ (by omega)
  have q1:Zk n.2.2.1 p=some (n.2.2.1.getD p.toNat []):=by
   have:=Vw (l:=n.2.2.1) [] (j:=p.toNat) (by rw [hf.ev.v];omega)
   rwa [show ((p.toNat:Nat):Int)=p by omega] at this
  have q2:Zk w p=some (w.getD p.toNat 0):=by
   have:=Vw (l:=w) 0 (j:=p.toNat) (by rw [hw.len];omega)
   rwa [show ((p.toNat:Nat):Int)=p by omega] at this
  have e1:i64.wrap ((r:Int) * ((n.2.2.1.getD p.toNat []).length:Int))=((r * cnt n p.toNat:Nat):Int):=by
   rw [show ((n.2.2.1.getD p.toNat []).length:Int)=((cnt n p.toNat:Nat):Int) from rfl,← Int.natCast_mul]
   exact Zq (by omega)
  have e2:i64.wrap (((r * cnt n p.toNat:Nat):Int)+w.getD p.toNat 0)=((r * cnt n p.toNat+(w.getD p.toNat 0).toNat:Nat):Int):=by
   rw [Int.natCast_add,show (((w.getD p.toNat 0).toNat:Nat):Int)=w.getD p.toNat 0 by omega]
   exact Zq (by omega)
  rw [Q9.eq_2,q1,Option.bind_some,q2,Option.bind_some,e1,e2]
  exact Zqv ch s w hw kk x ps _ _ (fun q hq=>hp q (List.mem_cons_of_mem _ hq)) g1 g2 g3
end
section
variable {N W K:Nat} {n:Xq} (hf:V7 N n) (hs:Ur n W) (hr:Xc N (8 * K+40)) (hWK:W≤K) {ord:List Int} (ho:Zcn n.2.2.2.1 ord) {cF:List (Rat×Rat)→Int} (hF:Zl5 cF)
include hf hs hr hWK ho hF
theorem Zqu {ch:Int→List (QV×QV)→Option Int} (hN:65536<N) (hch:∀ (v:Nat) (P:List (Rat×Rat)),(∀ p ∈ P,qs p.1≤K∧qs p.2≤K)→P.length≤65536→ch (v:Int) (P.map Yp)=some (cF P)):
  ∀ (l:List Int) (w:List Int) (s:Rat×Rat) (D M:Nat),(∀ x ∈ l,x ∈ ord)→Vv n w→U3 D M s→(Ze M).length+(Ze D).length+l.length * (W+2)+2≤K→
  Za9 N n ch l (Zw s.1) (Zw s.2) w=Zmt (Ub n cF l w s)
 | [],w,s,D,M,_,_,_,_=>rfl
 | v :: l,w,s,D,M,he,hw,hL,hK=>by
  have hvr:=ho.rg v (he v List.mem_cons_self)
  rw [hf.ev.p] at hvr
  obtain ⟨k,rfl⟩:∃ k:Nat,v=(k:Int):=⟨v.toNat,by omega⟩
  have hv:k<n.2.1.length:=by omega
  obtain ⟨D',M',c1,c2,c3⟩:=Zm7 hf hs hw hv hL
  have hKs:(l.length+1) * (W+2)=l.length * (W+2)+(W+2):=by rw [Nat.add_mul,Nat.one_mul]
  rw [List.length_cons,hKs] at hK
  have hrows:=hf.rows hv
  have hcl:cnt n k≤65536:=by have:=(hf.row hw hv).1;omega
  have hsub:Zc4 N (Zw s.2) (Zw s.1)=some (Zw (s.2 - s.1)):=by
   have:=Zzg (Vl hL.qb) (Vl hL.qa) (hr.mono (s:=2 * ((Ze M).length+(Ze D).length+((Ze M).length+(Ze D).length)+3)) (by omega))
   rwa [Wt,Wt] at this
  rw [Za9,Vw [] (by rw [hf.ev.p];exact hv),Option.bind_some]
  have h2:=Zqv (N:=N) hf ch (Zw s.1,Zw s.2) w hw (Za9 N n ch l) (k:Int) (n.2.2.2.1.getD k []) 0 1 (hf.pars hv) (by omega) (by omega) hrows.2.2
  rw [show ((0:Nat):Int)=0 from rfl] at h2
  rw [h2,Q9,hsub,Option.bind_some,Vw [] (by rw [hf.ev.v];exact hv),Option.bind_some]
  have h3:=Zqw hf hr ch w hw (Za9 N n ch l) hv (fun x hx=>by have:=Zmw hf hs hv x (Zi8 hx);exact ⟨this.1,by omega⟩) (long:=s.2 - s.1) (by omega) _ (fun _=>rfl) (Xt n w k) N 0 s.1 [] rfl (Nat.zero_le _) (by omega) (by have:=hL.qa;omega) (fun p hp=>⟨by have:=(c2 p hp).qa;omega,by have:=(c2 p hp).qb;omega⟩) rfl
  rw [show ((0:Nat):Int)=0 from rfl] at h3
  have h3':=h3
  rw [Vt] at h3'
  rw [h3',List.nil_append]
  have hlen:(Yd (s.2 - s.1) (Xt n w k) s.1).length=cnt n k:=by rw [Znj,hf.rowT_len hw hv]
  have hfit:=hF (Yd (s.2 - s.1) (Xt n w k) s.1)
  rw [hch k _ (fun p hp=>⟨by have:=(c2 p hp).qa;omega,by have:=(c2 p hp).qb;omega⟩) (by omega),Option.bind_some,Ub,Int.toNat_natCast]
  by_cases hneg:cF (Yd (s.2 - s.1) (Xt n w k) s.1)<0
  ·rw [if_pos (decide_eq_true hneg),if_pos hneg];rfl
  ·obtain ⟨q,hq⟩:∃ q:Nat,cF (Yd (s.2 - s.1) (Xt n w k) s.1)=(q:Int):=⟨(cF (Yd (s.2 - s.1) (Xt n w k) s.1)).toNat,by omega⟩
   rw [hq] at hfit
   have hql:q<(Yd (s.2 - s.1) (Xt n w k) s.1).length:=by omega
   rw [hq,if_neg (by rw [decide_eq_false (by omega)];decide),if_neg (by omega),Zm9 hql,Option.bind_some,Vw 0 (by rw [hw.len];exact hv),Option.bind_some,Option.bind_some,Int.toNat_natCast]
   exact Zqu hN hch l (w.set k q) _ D' M' (fun x hx=>he x (List.mem_cons_of_mem _ hx)) (hw.set (by omega)) (c2 _ (Zr6 hql)) (by omega)
end
theorem Zpy {n:Xq} {ch:List (Rat×Rat)→Int}:∀ (l w:List Int) (s:Rat×Rat) (r:List Int×(Rat×Rat)),Ub n ch l w s=some r→r.1.length=w.length
 | [],w,s,r,h=>by rw [Ub,Option.some.injEq] at h;rw [← h]
 | v :: l,w,s,r,h=>by
  rw [Ub] at h
  split at h
  ·cases h
  ·have:=Zpy l _ _ r h
   rw [this,List.length_set]
def Zcb (N:Nat) (ag:R0) (ah:Int) (al:Int) (ab:R1):Nat→Rg→Bool→R2→R2→Int→Option Rg
  | 0,_,_,_,_,_=>none
  | an+1,ac,ad,ae,af,ai=>(Zk ag.2.2.1 ah).bind fun am=>if (decide (ai<(am.length:Int)))=true then ((Zk ag.2.2.2.2 ah).bind fun ao=>(Zk ao (i64.wrap ((i64.wrap (al * (am.length:Int)))+ai))).bind fun aj=>(Zgj N ((ab.1.1,ab.1.2),ab.2) ((aj.1.1,aj.1.2),aj.2)).bind fun ak=>(Zby N ((ad,ae),af) ((ak.1.1,ak.1.2),ak.2)).bind fun aa=>Zv ((ac.length+[(((ad,ae),af),((aa.1.1,aa.1.2),aa.2))].length) * 112≤140737488355328∧ac.length+[(((ad,ae),af),((aa.1.1,aa.1.2),aa.2))].length≤maxLen) ((Zcb N ag ah al ab an) (ac++[(((ad,ae),af),((aa.1.1,aa.1.2),aa.2))]) aa.1.1 aa.1.2 aa.2 (i64.wrap (ai+1)))) else (some ac)
termination_by structural x=>x
def Zei (N:Nat) (ab:R0) (ac:Int) (ae:List Int) (aa:(R1×R1)):Nat→Int→Int→Option Rg
  | 0,_,_=>none
  | ai+1,ad,af=>(Zk ab.2.2.2.1 ac).bind fun ag=>if (decide (ad<(ag.length:Int)))=true then ((Zk ag ad).bind fun ah=>(Zk ab.2.2.1 ah).bind fun aj=>(Zk ae ah).bind fun ak=>(Zei N ab ac ae aa ai) (i64.wrap (ad+1)) (i64.wrap ((i64.wrap (af * (aj.length:Int)))+ak))) else ((Zdu N ((aa.2.1.1,aa.2.1.2),aa.2.2) ((aa.1.1.1,aa.1.1.2),aa.1.2)).bind fun al=>Zcb N ab ac af al N ([]:List (R1×R1)) aa.1.1.1 aa.1.1.2 aa.1.2 0)
termination_by structural x=>x
def Zg4 (N:Nat) (aa:R0) (ab:Int) (ac:List Int) (ad:(R1×R1)):Option Rg:=
  Zei N aa ab ac ad N 0 0
theorem Zx4 {N cd bu ce bv cu b1 b2 cf cg:Nat} {ch bk ci bm a2 b3 b4 cj ck:Option Addr} {col:Zd} {w0:World} {ad:R0} {bh:Int} {b5:R2} {ac:(R1×R1)} {r:Rg} (c1 qc2:Nat) (hm:Zg4 N ad bh b5 ac=some r) (hqqc2:qc2≠0) (e5:Sl Za.str col w0 ch cd ad.2.1) (bi:Sl (Za.slice Za.str) col w0 bk bu ad.2.2.1) (bw:Sl (Za.slice (Za.int .i64)) col w0 ci ce ad.2.2.2.1) (cl:Sl (Za.slice (Za.pair (Za.pair Za.bool (Za.slice (Za.int .u32))) (Za.slice (Za.int .u32)))) col w0 bm bv ad.2.2.2.2) (h2:Zc (Za.int .i64) 3 qc2 col w0 a2 cu b5) (cn:Sl (Za.int .u32) col w0 b3 b1 ac.1.1.2) (co:Sl (Za.int .u32) col w0 b4 b2 ac.1.2) (cv:Sl (Za.int .u32) col w0 cj cf ac.2.1.2) (cw:Sl (Za.int .u32) col w0 ck cg ac.2.2):
    Calls Tryz.prog 88 #[(.agg #[.string ad.1,.slice ch ad.2.1.length cd,.slice bk ad.2.2.1.length bu,.slice ci ad.2.2.2.1.length ce,.slice bm ad.2.2.2.2.length bv]),.int .i64 bh,.slice a2 b5.length cu,(.agg #[.bool ac.1.1.1,.slice b3 ac.1.1.2.length b1,.slice b4 ac.1.2.length b2,.bool ac.2.1.1,.slice cj ac.2.1.2.length cf,.slice ck ac.2.2.length cg])] w0 (fun e w'=>∃ (col':Zd) (ra1:Option Addr) (rc2:Nat),e= .returned ((.slice ra1 r.length rc2))∧Zf col w0 col' w'∧Zc (Za.pair (Za.pair (Za.pair Za.bool (Za.slice (Za.int .u32))) (Za.slice (Za.int .u32))) (Za.pair (Za.pair Za.bool (Za.slice (Za.int .u32))) (Za.slice (Za.int .u32)))) 49 c1 col' w' ra1 rc2 r):=by
 refine Xe 8 (m:=94) func88 rfl rfl rfl rfl rfl ?_;rw [Zg4.eq_1] at hm;have aa:=St.start col w0;replace h2:=h2.start0 hqqc2;refine go ?_;refine Xf (col:=(Zi col)) 1 rfl ?_;intro cp e6 dn dj ab;refine Xf (col:=dn) 2 rfl ?_;intro dp e7 e8 cx a1;refine go ?_;replace h2:=(h2.gr dj).gr cx;replace aa:=(aa.grow dj).grow cx;replace ab:=ab.gr cx;refine Z0 [1,2,4,7,1000000] (fun n f b6=>∃ a3 cy a4 bx,bx=n∧Zei N ad bh b5 ac bx cy a4=some r∧St w0 (Zi col) a3 b6∧Zc (Za.int .i64) 3 999 a3 b6 a2 cu b5∧Zm 27 1 a3 b6 cp #[.string ad.1,.slice ch ad.2.1.length cd,.slice bk ad.2.2.1.length bu,.slice ci ad.2.2.2.1.length ce,.slice bm ad.2.2.2.2.length bv]∧Zm 49 2 a3 b6 dp #[.bool ac.1.1.1,.slice b3 ac.1.1.2.length b1,.slice b4 ac.1.2.length b2,.bool ac.2.1.1,.slice cj ac.2.1.2.length cf,.slice ck ac.2.2.length cg]∧[10,9].map f=[.int .i64 cy,.int .i64 a4]) N ⟨_,0,0,_,rfl,hm,aa,h2,ab,a1,rfl⟩ ?_;clear hm;intro n f b6 hI;obtain ⟨a3,cy,a4,bx,hn,hm,aa,h2,ab,a1,hs⟩:=hI;subst hn;refine .lL [10,9] hs ?_;replace bi:=bi.keep (Zj.start col w0);replace bw:=bw.keep (Zj.start col w0);replace cl:=cl.keep (Zj.start col w0);replace cn:=cn.keep (Zj.start col w0);replace co:=co.keep (Zj.start col w0);replace cv:=cv.keep (Zj.start col w0);replace cw:=cw.keep (Zj.start col w0)
 cases bx with
 | zero=>rw [Zei.eq_1] at hm;cases hm
 | succ bx=>
  rw [Zei.eq_2] at hm;refine go ?_;refine Z7 ab<|Xy rfl ?_;obtain ⟨e9,bz,hm⟩:=bZ hm;refine lI bz ((bw.ks aa).addr bz) ?_;obtain ⟨_,dq,dr⟩:=(bw.ks aa).atN bz;obtain ⟨⟨fa,fb,rfl,fc⟩,_⟩:=dq;refine lW dr.one<|go ?_;refine Zp hm (fun hb hm=>go ?_) fun hb hm=>go ?_
  ·refine Z7 ab<|Xy rfl<|lI bz ((bw.ks aa).addr bz) ?_;obtain ⟨_,ds,dt⟩:=(bw.ks aa).atN bz;obtain ⟨⟨fd,fe,rfl,dk⟩,_⟩:=ds;refine lW dt.one<|Xy rfl ?_;obtain ⟨ff,cz,hm⟩:=bZ hm;refine lI cz (dk.addr cz)<|lW (dk.atInt cz) ?_;refine go ?_;refine Wg (col:=a3) (by kernel_rfl) (by kernel_rfl)<|go ?_;refine qF ⟨_,_,rfl⟩ ?_;refine qW (fun _ hC=>((ab.atN).nth (q:=2) rfl).gr (hC.bl a3)) ?_;refine go ?_;obtain ⟨fg,c0,hm⟩:=bZ hm;refine qI c0 ((bi.ks aa).addr c0) ?_;obtain ⟨_,du,dv⟩:=(bi.ks aa).atN c0;obtain ⟨⟨fh,fi,rfl,fj⟩,_⟩:=du;refine qW (fun _ hC=>dv.one.gr (hC.bl a3)) ?_;refine go ?_;obtain ⟨fk,c2,hm⟩:=bZ hm;refine qI c2 (h2.addr c2)<|qW (fun _ hC=>(h2.gr (hC.bl a3)).atInt c2) ?_;refine go ?_;refine Yk ?_;intro fl hC;replace hC:=hC.bl a3;refine go ?_;replace h2:=h2.gr hC;replace ab:=ab.gr hC;replace a1:=a1.gr hC;replace aa:=aa.grow hC;exact ⟨bx,by omega,rfl,⟨_,_,_,_,rfl,hm,aa,h2,ab,a1,rfl⟩⟩
  refine Xb ⟨_,_,rfl⟩ ?_;refine lV (.agg #[.bool ac.2.1.1,.slice cj ac.2.1.2.length cf,.slice ck ac.2.2.length cg]) (Xv isAgg47 sizeOf47 rfl rfl ((a1.atN).part 3 3 _ rfl))<|Xb ⟨_,_,rfl⟩ ?_;refine lV (.agg #[.bool ac.1.1.1,.slice b3 ac.1.1.2.length b1,.slice b4 ac.1.2.length b2]) (Xv isAgg47 sizeOf47 rfl rfl ((a1.atN).part 0 3 _ rfl)) ?_;obtain ⟨bb,dw,hm⟩:=bZ hm;refine Zh (Zxn 3 4 dw (cv.ks aa) (cw.ks aa) (cn.ks aa) (co.ks aa)) ?_;rintro _ fm ⟨dx,c3,c4,c5,c6,rfl,c7,ai,aj⟩;refine ⟨_,rfl,?_⟩;refine Xr (col:=dx) #[.bool false,.slice none (([]:List Int).length) 0,.slice none (([]:List Int).length) 0] 5 zeroValue47 ?_;intro dy fn dz b7 d0;refine Z9 d0 ?_;intro fp b8 d1 ag;refine go ?_;refine Xb ⟨_,_,rfl⟩ ?_;replace a1:=((a1.gr c7).gr b7).kp b8;refine lV (.agg #[.bool ac.1.1.1,.slice b3 ac.1.1.2.length b1,.slice b4 ac.1.2.length b2]) (Xv isAgg47 sizeOf47 rfl rfl ((a1.atN).part 0 3 _ rfl))<|Xr (col:=dz) #[.bool false,.slice none (([]:List Int).length) 0,.slice none (([]:List Int).length) 0] 6 zeroValue47 ?_;intro d2 fq fr b9 d3;refine Z9 d3 ?_;intro ft ca d4 ah;refine go ?_;replace ab:=((((ab.gr c7).gr b7).kp b8).gr b9).kp ca;replace aa:=((((aa.grow c7).grow b7).kp b8 d1).grow b9).kp ca d4;replace ai:=(((ai.gr b7).kp b8).gr b9).kp ca;replace aj:=(((aj.gr b7).kp b8).gr b9).kp ca;replace ag:=(ag.gr b9).kp ca
  refine Z0 [1,12,14,4,9,1000000] (fun n f af=>∃ ae c8 c9 cq a5 bn bo a6 bp bq a7 br b0,b0=n∧Zcb N ad bh a4 bb b0 cq a5 a6 a7 br=some r∧St w0 (Zi col) ae af∧Zc (Za.int .u32) 79 3 ae af c3 c4 bb.1.2∧Zc (Za.int .u32) 79 4 ae af c5 c6 bb.2∧Zm 47 5 ae af dy #[.bool bb.1.1,.slice c3 bb.1.2.length c4,.slice c5 bb.2.length c6]∧Zc (Za.pair (Za.pair (Za.pair Za.bool (Za.slice (Za.int .u32))) (Za.slice (Za.int .u32))) (Za.pair (Za.pair Za.bool (Za.slice (Za.int .u32))) (Za.slice (Za.int .u32)))) 49 7 ae af c8 c9 cq∧Sl (Za.int .u32) ae af bn bo a6∧Sl (Za.int .u32) ae af bp bq a7∧Zm 47 6 ae af d2 #[.bool a5,.slice bn a6.length bo,.slice bp a7.length bq]∧Zm 27 1 ae af cp #[.string ad.1,.slice ch ad.2.1.length cd,.slice bk ad.2.2.1.length bu,.slice ci ad.2.2.2.1.length ce,.slice bm ad.2.2.2.2.length bv]∧[13,15].map f=[.slice c8 cq.length c9,.int .i64 br]) N ⟨_,none,0,_,_,_,_,_,_,_,_,0,_,rfl,hm,aa,ai,aj,ag,Zc.nil,(cn.ks aa),(co.ks aa),ah,ab,rfl⟩ ?_;clear hm;intro n f af hI;obtain ⟨ae,c8,c9,cq,a5,bn,bo,a6,bp,bq,a7,br,b0,hn,hm,aa,ai,aj,ag,ak,ap,aq,ah,ab,hs⟩:=hI;subst hn;refine .lL [13,15] hs ?_
  cases b0 with
  | zero=>rw [Zcb.eq_1] at hm;cases hm
  | succ b0=>
   rw [Zcb.eq_2] at hm;refine go ?_;refine Z7 ab<|Xy rfl ?_;obtain ⟨bs,bt,hm⟩:=bZ hm;refine lI bt ((bi.ks aa).addr bt) ?_;obtain ⟨_,d5,d6⟩:=(bi.ks aa).atN bt;obtain ⟨⟨fu,fv,rfl,fw⟩,_⟩:=d5;refine lW d6.one<|go ?_;refine Zp hm (fun hb hm=>go ?_) fun hb hm=>go ?_
   ·have bc:=Z2.clip (fun _=>false) ae af;refine Zhg (col:=ae) [(0,0),(1,0),(2,1),(3,0),(4,1),(5,1),(6,0),(7,1),(8,1),(9,0),(10,1),(11,1),(12,0),(13,1),(14,1),(15,1),(16,1),(17,1),(18,0),(19,3),(20,3),(21,4),(22,2)] (by kernel_rfl) (by kernel_rfl) ⟨fun h=>absurd h (by decide),fun h=>absurd h (by decide),fun h=>absurd h (by decide),fun h=>absurd h (by decide),fun h=>absurd h (by decide),fun h=>absurd h (by decide),fun h=>absurd h (by decide),fun h=>absurd h (by decide),fun h=>absurd h (by decide),fun h=>absurd h (by decide),fun h=>absurd h (by decide),fun h=>absurd h (by decide),fun h=>absurd h (by decide),fun h=>absurd h (by decide),fun h=>absurd h (by decide),fun h=>absurd h (by decide),fun h=>absurd h (by decide),fun h=>absurd h (by decide),fun h=>absurd h (by decide),fun h=>absurd h (by decide),fun h=>absurd h (by decide),fun _=>⟨_,_,_,rfl,T6 zeroValue47⟩,fun h=>absurd h (by decide),trivial⟩ ?_;replace ah:=ah.kpp bc;refine Wn (v:=(.agg #[.bool a5,.slice bn a6.length bo,.slice bp a7.length bq])) rfl rfl (fun _ hC=>Xv isAgg47 sizeOf47 rfl rfl (ah.atN.gr (hC.bl (Zg af ae)))) ?_;replace ag:=ag.kpp bc;refine Wn (v:=(.agg #[.bool bb.1.1,.slice c3 bb.1.2.length c4,.slice c5 bb.2.length c6])) rfl rfl (fun _ hC=>Xv isAgg47 sizeOf47 rfl rfl (ag.atN.gr (hC.bl (Zg af ae)))) ?_;refine Y3 (v:=(.pointer ((some (⟨cp,0,none⟩:Addr)).map (·.add 4)))) rfl rfl (fun _=>Td (sz:=1) (off:=4) underlying27 rfl sizeOf25 (by decide) rfl rfl ⟨_,_,rfl⟩) ?_;replace ab:=ab.kpp bc;refine Wn (v:=(.slice bm ad.2.2.2.2.length bv)) rfl rfl (fun _ hC=>Sp isAgg25 rfl (((ab.atN).nth (q:=4) (v:=(.slice bm ad.2.2.2.2.length bv)) rfl).gr (hC.bl (Zg af ae)))) ?_;refine Y3 (v:=(.int .i64 bh)) rfl rfl (fun _=>Vr rfl) ?_;obtain ⟨d7,cr,hm⟩:=bZ hm;replace aa:=aa.kpp bc;refine Y3 (v:=(X2 bm (Int.toNat bh * 1))) rfl rfl (fun _=>Wl underlying25 sizeOf56 rfl rfl (Xu cr).1 (Xu cr).2.1 ((cl.ks aa).addr cr)) ?_;obtain ⟨_,d8,d9⟩:=(cl.ks aa).atN cr;obtain ⟨⟨dl,ea,rfl,dm⟩,_⟩:=d8;refine Wn (v:=(.slice dl d7.length ea)) rfl rfl (fun _ hC=>Sp isAgg56 rfl (d9.one.gr (hC.bl (Zg af ae)))) ?_;refine Y3 (v:=(.int .i64 a4)) rfl rfl (fun _=>Vr rfl) ?_;refine Y3 (v:=(.pointer ((some (⟨cp,0,none⟩:Addr)).map (·.add 2)))) rfl rfl (fun _=>Td (sz:=1) (off:=2) underlying27 rfl sizeOf23 (by decide) rfl rfl ⟨_,_,rfl⟩) ?_
    refine Wn (v:=(.slice bk ad.2.2.1.length bu)) rfl rfl (fun _ hC=>Sp isAgg23 rfl (((ab.atN).nth (q:=2) (v:=(.slice bk ad.2.2.1.length bu)) rfl).gr (hC.bl (Zg af ae)))) ?_;refine Y3 (v:=(.int .i64 bh)) rfl rfl (fun _=>Vr rfl) ?_;refine Y3 (v:=(X2 bk (Int.toNat bh * 1))) rfl rfl (fun _=>Wl underlying23 sizeOf22 rfl rfl (Xu bt).1 (Xu bt).2.1 ((bi.ks aa).addr bt)) ?_;obtain ⟨_,eb,ec⟩:=(bi.ks aa).atN bt;obtain ⟨⟨ed,ee,rfl,fx⟩,_⟩:=eb;refine Wn (v:=(.slice ed bs.length ee)) rfl rfl (fun _ hC=>Sp isAgg22 rfl (ec.one.gr (hC.bl (Zg af ae)))) ?_;refine Y3 (v:=(.int .i64 bs.length)) rfl rfl (fun _=>Tt underlying22 rfl) ?_;refine Y3 (v:=(.int .i64 (i64.wrap (a4 * (bs.length:Int))))) rfl rfl (fun _=>Zha a4 (bs.length:Int) rfl rfl) ?_;refine Y3 (v:=(.int .i64 br)) rfl rfl (fun _=>Vr rfl) ?_;refine Y3 (v:=(.int .i64 (i64.wrap ((i64.wrap (a4 * (bs.length:Int)))+br)))) rfl rfl (fun _=>Qa (i64.wrap (a4 * (bs.length:Int))) br rfl rfl) ?_;obtain ⟨da,ct,hm⟩:=bZ hm;refine Y3 (v:=(X2 dl (Int.toNat (i64.wrap ((i64.wrap (a4 * (bs.length:Int)))+br)) * 3))) rfl rfl (fun _=>Wl underlying56 sizeOf47 rfl rfl (Xu ct).1 (Xu ct).2.1 (dm.addr ct)) ?_;obtain ⟨_,ef,eg⟩:=dm.atN ct;obtain ⟨_,_,rfl,eh,ei⟩:=Ym ef;obtain ⟨_,_,rfl,ej,ek⟩:=Ym eh;obtain ⟨rfl,_⟩:=ej;obtain ⟨⟨el,em,rfl,db⟩,_⟩:=ek;obtain ⟨⟨en,eo,rfl,dc⟩,_⟩:=ei;refine Wn (v:=(.agg #[.bool da.1.1,.slice el da.1.2.length em,.slice en da.2.length eo])) rfl rfl (fun _ hC=>Xv isAgg47 sizeOf47 rfl rfl (eg.gr (hC.bl (Zg af ae)))) ?_;refine Wm rfl rfl ?_;intro ep hC0;have hC:=hC0.bl (Zg af ae);obtain ⟨fy,eq,hm⟩:=bZ hm;replace ai:=(ai.kpp bc).gr hC;replace aj:=(aj.kpp bc).gr hC;replace db:=db.gr hC;replace dc:=dc.gr hC;refine Zh (Zxj 8 9 eq ((ai.toSlF (Zn.int .u32)).froz 4) ((aj.froz 3 (by decide)).toSlF (Zn.int .u32)) ((db.froz 3).froz 4) ((dc.froz 3).froz 4)) ?_;rintro _ a8 ⟨er,fz,f0,f1,f2,rfl,al,cb,cc⟩;refine ⟨_,rfl,?_⟩;replace cb:=cb.thaw (Z6 .u32) al (((Fz.refl (col:=(Zg af ae))).froz 3).froz 4) (by decide);replace cc:=cc.thaw (Z6 .u32) al (((Fz.refl (col:=(Zg af ae))).froz 3).froz 4) (by decide)
    replace al:=al.thawR (col:=(Zg af ae));generalize Xa ep.heap.size (Zg af ae) er=bd at *;refine Zl ?_;refine ⟨fun w'=>Zf (Zg a8 bd) a8 (Zg a8 bd) w',fun g=>(Zg a8 bd) g=497,Zf.refl _ _,Wf,fun _=>⟨fun _ h=>Vc hC0 al h,fun b hb=>al.below.block b hb,fun g x1 x2=>Vh al g x1 (by first | exact x2 | (simp only [Xm,x2];rfl) | (simp only [Xm,X4,x2];rfl))⟩,?_⟩;have ax:=Z2.clip (fun _=>false) bd a8;refine Wm rfl rfl ?_;intro es hC0;replace ak:=(((ak.kpp bc).gr hC).gr al).kpp ax;replace ap:=(((ap.kpp bc).gr hC).gr al).kpp ax;replace aq:=(((aq.kpp bc).gr hC).gr al).kpp ax;replace ag:=((ag.gr hC).gr al).kpp ax;replace ah:=((ah.gr hC).gr al).kpp ax;replace ab:=((ab.gr hC).gr al).kpp ax;replace aa:=((aa.grow hC).grow al).kpp ax;have hC:=hC0.bl (Zg a8 bd);obtain ⟨am,et,hm⟩:=bZ hm;replace cb:=(cb.kpp ax).gr hC;replace cc:=(cc.kpp ax).gr hC;replace ap:=ap.gr hC;replace aq:=aq.gr hC;refine Zh (Zmj 10 11 et ((ap.froz 8).froz 9) ((aq.froz 8).froz 9) ((cb.toSlF (Zn.int .u32)).froz 9) ((cc.froz 8 (by decide)).toSlF (Zn.int .u32))) ?_;rintro _ ao ⟨eu,dd,de,df,dg,rfl,an,ar,au⟩;refine ⟨_,rfl,?_⟩;replace ar:=ar.thaw (Z6 .u32) an (((Fz.refl (col:=(Zg a8 bd))).froz 8).froz 9) (by decide);replace au:=au.thaw (Z6 .u32) an (((Fz.refl (col:=(Zg a8 bd))).froz 8).froz 9) (by decide);replace an:=an.thawR (col:=(Zg a8 bd));generalize Xa es.heap.size (Zg a8 bd) eu=av at *;refine Zl ?_;refine ⟨fun w'=>Zf (Zg ao av) ao (Zg ao av) w',fun g=>(Zg ao av) g=497,Zf.refl _ _,Wf,fun _=>⟨fun _ h=>Vc hC0 an h,fun b hb=>an.below.block b hb,fun g x1 x2=>Vh an g x1 (by first | exact x2 | (simp only [Xm,x2];rfl) | (simp only [Xm,X4,x2];rfl))⟩,?_⟩;have ay:=Z2.clip (fun _=>false) av ao;refine Zhh rfl rfl (T6 zeroValue47) ?_;intro be ew;refine Wm rfl rfl ?_;intro ey ⟨hC0,hZ0⟩;replace ai:=((((ai.gr al).kpp ax).gr hC).gr an).kpp ay;replace aj:=((((aj.gr al).kpp ax).gr hC).gr an).kpp ay;replace ak:=((ak.gr hC).gr an).kpp ay;replace ag:=((ag.gr hC).gr an).kpp ay;replace ah:=((ah.gr hC).gr an).kpp ay;replace ab:=((ab.gr hC).gr an).kpp ay
    replace aa:=((aa.grow hC).grow an).kpp ay;have hC:=hC0.bl (Zg ao av);obtain ⟨az,dh⟩:=Zey (col:=(Zg ao av)) 12 hZ0 ew;replace dh:Zm 47 12 (Xg be 12 (Zg ao av)) ey be #[.bool false,.slice none (([]:List Int).length) 0,.slice none (([]:List Int).length) 0]:=dh;refine Z9 dh ?_;intro bf a0 ez a9;refine Zl ?_;refine ⟨fun w'=>Zf (Zg bf (Xg be 12 (Zg ao av))) bf (Zg bf (Xg be 12 (Zg ao av))) w',fun g=>(Zg bf (Xg be 12 (Zg ao av))) g=497,Zf.refl _ _,Wf,fun h=>absurd h (by decide),?_⟩;have aw:=Z2.clip (fun _=>false) (Xg be 12 (Zg ao av)) bf;refine Zhi ?_;replace ap:=(((((ap.gr an).kpp ay).gr hC).kpp az).kp a0).kpp aw;replace aq:=(((((aq.gr an).kpp ay).gr hC).kpp az).kp a0).kpp aw;replace ar:=((((ar.kpp ay).gr hC).kpp az).kp a0).kpp aw;replace au:=((((au.kpp ay).gr hC).kpp az).kp a0).kpp aw;replace ai:=(((ai.gr hC).kpp az).kp a0).kpp aw;replace aj:=(((aj.gr hC).kpp az).kp a0).kpp aw;replace ak:=(((ak.gr hC).kpp az).kp a0).kpp aw;replace ag:=(((ag.gr hC).kpp az).kp a0).kpp aw;replace ah:=(((ah.gr hC).kpp az).kp a0).kpp aw;replace ab:=(((ab.gr hC).kpp az).kp a0).kpp aw;replace aa:=(((aa.grow hC).kpp az).kp a0 ez).kpp aw;intro e0 hC;replace hC:Zf (Zg bf (Xg be 12 (Zg ao av))) bf (Zg bf (Xg be 12 (Zg ao av))) e0:=.of_below hC.below;refine go ?_;replace ah:=ah.gr hC;refine lV _ (Z8 isAgg47 sizeOf47 ah) ?_;replace a9:=(a9.kpp aw).gr hC;refine lV _ (Z8 isAgg47 sizeOf47 a9)<|lV (.agg #[.bool a5,.slice bn a6.length bo,.slice bp a7.length bq,.bool am.1.1,.slice dd am.1.2.length de,.slice df am.2.length dg]) (Wc (l:=[_,_]) (qs:=[(0,3),(3,3)]) underlying49 zeroValue49 ⟨rfl,sizeOf47,rfl,sizeOf47,trivial⟩ rfl) ?_;replace ai:=ai.gr hC;replace ai:=ai.froz 11 (by decide);replace aj:=aj.gr hC;replace aj:=aj.froz 11 (by decide);replace ap:=ap.gr hC;replace ap:=ap.froz 11;replace aq:=aq.gr hC;replace aq:=aq.froz 11;replace ar:=ar.gr hC;replace ar:=ar.froz 11 (by decide);replace au:=au.gr hC;replace au:=(au).toSlF (Zn.int .u32);replace ak:=ak.gr hC;replace ak:=ak.froz 11 (by decide);replace ag:=ag.gr hC;replace ag:=ag.froz 11 (by decide);replace ah:=ah.froz 11 (by decide);replace ab:=ab.gr hC;replace ab:=ab.froz 11 (by decide)
    replace a9:=a9.froz 11 (by decide);replace aa:=aa.grow hC;replace aa:=aa.froz 11 (by decide) (by decide);replace ai:=ai.froz 10 (by decide);replace aj:=aj.froz 10 (by decide);replace ap:=ap.froz 10;replace aq:=aq.froz 10;replace ar:=(ar).toSlF (Zn.int .u32);replace au:=au.froz 10;replace ak:=ak.froz 10 (by decide);replace ag:=ag.froz 10 (by decide);replace ah:=ah.froz 10 (by decide);replace ab:=ab.froz 10 (by decide);replace a9:=a9.froz 10 (by decide);replace aa:=aa.froz 10 (by decide) (by decide);refine Zba (col:=(Xm 10 (Xm 11 (Zg bf (Xg be 12 (Zg ao av)))))) (r:=(Za.pair (Za.pair (Za.pair Za.bool (Za.slice (Za.int .u32))) (Za.slice (Za.int .u32))) (Za.pair (Za.pair Za.bool (Za.slice (Za.int .u32))) (Za.slice (Za.int .u32))))) (xs:=[(((a5,a6),a7),((am.1.1,am.1.2),am.2))]) [(.agg #[.bool a5,.slice bn a6.length bo,.slice bp a7.length bq,.bool am.1.1,.slice dd am.1.2.length de,.slice df am.2.length dg])] 13 (V8.ofF (Rows.consF (r:=(Za.pair (Za.pair (Za.pair Za.bool (Za.slice (Za.int .u32))) (Za.slice (Za.int .u32))) (Za.pair (Za.pair Za.bool (Za.slice (Za.int .u32))) (Za.slice (Za.int .u32))))) (x:=(((a5,a6),a7),((am.1.1,am.1.2),am.2))) (cs:=[.bool a5,.slice bn a6.length bo,.slice bp a7.length bq,.bool am.1.1,.slice dd am.1.2.length de,.slice df am.2.length dg]) (V5 (V5 (V5 (Zch a5) (Q3 ap)) (Q3 aq)) (V5 (V5 (Zch am.1.1) (Q3 ar)) (Q3 au))) Rows.nil0)) ?_;intro f3 f4 f5 ba e1;obtain ⟨e2,hm⟩:=Zy hm;replace ak:=ak.gr ba;refine Wx ak (e1.srcN (NB.pair (NB.pair (NB.pair NB.bool NB.slice) NB.slice) (NB.pair (NB.pair NB.bool NB.slice) NB.slice))) e2 ?_;intro f6 f7 f8 f9 bg di;refine go ?_;replace a9:=(a9.gr ba).kpp bg;refine lV _ (Z8 isAgg47 sizeOf47 a9) ?_;replace ah:=(ah.gr ba).kpp bg;refine Z9 ah ?_;intro ga bj e3 e4;refine go ?_;replace ai:=((ai.gr ba).kpp bg).kp bj;replace aj:=((aj.gr ba).kpp bg).kp bj;replace ar:=((ar.gr ba).kpp bg).kp bj;replace au:=((au.gr ba).kpp bg).kp bj;replace ag:=((ag.gr ba).kpp bg).kp bj;replace ab:=((ab.gr ba).kpp bg).kp bj;replace aa:=((aa.grow ba).kpp bg).kp bj e3;replace di:=di.kp bj;exact ⟨b0,by omega,rfl,⟨_,_,_,_,_,_,_,_,_,_,_,_,_,rfl,hm,aa,ai,aj,ag,di,ar,au,e4,ab,rfl⟩⟩
   cases hm;exact ⟨rfl,_,_,_,rfl,aa.fin (cm [(7,c1)]),aa.fo ak⟩
section
variable {N K:Nat} {n:Xq} (hf:V7 N n) (w:List Int) (hw:Vv n w)
include hf hw
theorem Zu4 (hr:Xc N (8 * K+40)) {v:Nat} (hv:v<n.2.1.length) (hl:∀ x ∈ Xt n w v,Wo x∧max x.1.2.length x.2.length≤K) {long:Rat} (hlong:qs long≤K):
  ∀ (l:List QV) (f j:Nat) (a:Rat) (parts:List (QV×QV)),(Xt n w v).drop j=l→j≤cnt n v→cnt n v<f+j→qs a≤K→(∀ p ∈ Yd long l a,qs p.1≤K∧qs p.2≤K)→parts.length=j→
   Zcb N n (v:Int) (Vt n w v:Int) (Zw long) f parts (Zw a).1.1 (Zw a).1.2 (Zw a).2 (j:Int)=some (parts++(Yd long l a).map Yp)
 | l,0,j,a,parts,_,h1,h2,_,_,_=>by omega
 | l,f+1,j,a,parts,hd,h1,h2,ha,hp,hpl=>by
  have hlen:=hf.rowT_len hw hv
  have hrow:=hf.row hw hv
  have hrows:=hf.rows hv
  rw [Zcb.eq_2,Vw [] (by rw [hf.ev.v];exact hv),Option.bind_some]
  cases l with
  | nil=>
   have h3:=List.drop_eq_nil_iff.1 hd
   rw [if_neg (by rw [decide_eq_false (by rw [cnt] at h1 hlen;omega)];decide),Yd,List.map_nil,List.append_nil]
  | cons y l=>
   have hj:j<(Xt n w v).length:=by
    rcases Nat.lt_or_ge j (Xt n w v).length with h | h
    ·exact h
    ·rw [List.drop_eq_nil_of_le h] at hd;cases hd
   have hy:(Xt n w v)[j]=y∧(Xt n w v).drop (j+1)=l:=by
    rw [List.drop_eq_getElem_cons hj] at hd
    exact List.cons.inj hd
   have hyK:=hl y (hy.1 ▸ List.getElem_mem hj)
   have hjc:j<cnt n v:=by omega
   have hq:=hp _ List.mem_cons_self
   have e0:(0:Int)≤((Vt n w v * cnt n v:Nat):Int):=Int.natCast_nonneg _
   have e1:i64.wrap ((Vt n w v:Int) * ((n.2.2.1.getD v []).length:Int))=((Vt n w v * cnt n v:Nat):Int):=by
    rw [show ((n.2.2.1.getD v []).length:Int)=((cnt n v:Nat):Int) from rfl,← Int.natCast_mul]
    exact Zq (by omega)
   have e2:i64.wrap (((Vt n w v * cnt n v:Nat):Int)+(j:Int))=((Vt n w v * cnt n v+j:Nat):Int):=by
    rw [← Int.natCast_add]
    exact Zq (by omega)
   have r1:=Zcj hyK.1.1 hyK.1.2
   have m1:Zgj N (((Zw long).1.1,(Zw long).1.2),(Zw long).2) ((y.1.1,y.1.2),y.2)=some (Zw (long * Zr y)):=by
    have:=Z11 (Vl hlong) (r1.mono hyK.2) (hr.mono (by omega))
    rwa [Wt] at this
   have s1:qs (long * Zr y)≤K+(K+1):=by
    have h4:=Zth long (Zr y)
    have h5:=Zle hyK.1
    omega
   have a1:Zby N (((Zw a).1.1,(Zw a).1.2),(Zw a).2) (((Zw (long * Zr y)).1.1,(Zw (long * Zr y)).1.2),(Zw (long * Zr y)).2)=some (Zw (a+long * Zr y)):=by
    have:=Znz (Vl ha) (Vl s1) (hr.mono (by omega))
    rwa [Wt,Wt] at this
   rw [if_pos (decide_eq_true (by rw [cnt] at hjc;omega)),Vw [] (by rw [hf.ev.t];exact hv),Option.bind_some,e1,e2,Zuy hj,hy.1,Option.bind_some,m1,Option.bind_some,a1,Option.bind_some,
    Z4 (by simp only [List.length_singleton,maxLen];omega),Zq (x:=(j:Int)+1) (by omega)]
   have ih:=Zu4 hr hv hl hlong l f (j+1) (a+long * Zr y) (parts++[Yp (a,a+long * Zr y)]) hy.2 (by omega) (by omega) hq.2 (fun p h=>hp p (List.mem_cons_of_mem _ h)) (by rw [List.length_append,List.length_singleton];omega)
   rw [List.append_assoc] at ih
   exact ih
theorem Zu3 (s:QV×QV) {v:Nat} (hv:v<n.2.1.length) (hps:(n.2.2.2.1.getD v []).length≤1048576):∀ (f i r k:Nat),i≤(n.2.2.2.1.getD v []).length→(n.2.2.2.1.getD v []).length<f+i→r<k→k≤65536→Yg n.2.2.1 ((n.2.2.2.1.getD v []).drop i) k≤65536→
  Zei N n (v:Int) w s f (i:Int) (r:Int)=(Zdu N ((s.2.1.1,s.2.1.2),s.2.2) ((s.1.1.1,s.1.1.2),s.1.2)).bind fun d=>Zcb N n (v:Int) (Zhd n w ((n.2.2.2.1.getD v []).drop i) r:Int) d N ([]:List (QV×QV)) s.1.1.1 s.1.1.2 s.1.2 0
 | 0,i,r,k,h1,h2,_,_,_=>by omega
 | f+1,i,r,k,h1,h2,g1,g2,g3=>by
  rw [Zei.eq_2,Vw [] (by rw [hf.ev.p];exact hv),Option.bind_some]
  by_cases hi:i<(n.2.2.2.1.getD v []).length
  ·have hp:∀ q ∈ (n.2.2.2.1.getD v []).drop i,0≤q∧q<(n.2.1.length:Int):=fun q hq=>hf.pars hv q (List.mem_of_mem_drop hq)
   rw [List.drop_eq_getElem_cons hi] at g3 hp ⊢
   obtain ⟨c1,c2,c3⟩:=Zn1 hf.ev hw hp g1 g2 g3
   generalize he:(n.2.2.2.1.getD v [])[i]=p at *
   have hpp:=hp p List.mem_cons_self
   have hwp:=hw.ok p.toNat (by rw [hw.len];omega)
   have g4:r * cnt n p.toNat≤k * cnt n p.toNat:=Nat.mul_le_mul_right _ (by omega)
   have q1:Zk n.2.2.1 p=some (n.2.2.1.getD p.toNat []):=by
    have:=Vw (l:=n.2.2.1) [] (j:=p.toNat) (by rw [hf.ev.v];omega)
    rwa [show ((p.toNat:Nat):Int)=p by omega] at this
   have q2:Zk w p=some (w.getD p.toNat 0):=by
    have:=Vw (l:=w) 0 (j:=p.toNat) (by rw [hw.len];omega)
    rwa [show ((p.toNat:Nat):Int)=p by omega] at this
   have e1:i64.wrap ((r:Int) * ((n.2.2.1.getD p.toNat []).length:Int))=((r * cnt n p.toNat:Nat):Int):=by
    rw [show ((n.2.2.1.getD p.toNat []).length:Int)=((cnt n p.toNat:Nat):Int) from rfl,← Int.natCast_mul]
    exact Zq (by omega)
   have e2:i64.wrap (((r * cnt n p.toNat:Nat):Int)+w.getD p.toNat 0)=((r * cnt n p.toNat+(w.getD p.toNat 0).toNat:Nat):Int):=by
    rw [Int.natCast_add,show (((w.getD p.toNat 0).toNat:Nat):Int)=w.getD p.toNat 0 by omega]
    exact Zq (by omega)
   rw [if_pos (decide_eq_true (by omega)),Zx hi,he,Option.bind_some,q1,Option.bind_some,q2,Option.bind_some,e1,e2,wS (by omega)]
   exact Zu3 s hv hps f (i+1) _ _ (by omega) (by omega) c1 c2 c3
  ·rw [if_neg (by rw [decide_eq_false (by omega)];decide),List.drop_eq_nil_of_le (by omega)];rfl
end
section
variable {N W K:Nat} {n:Xq} (hf:V7 N n) (hs:Ur n W) (hr:Xc N (8 * K+40)) (hWK:W≤K) (hN:1048577<N)
include hf hs hr hWK hN
theorem Z19 {w:List Int} (hw:Vv n w) {v:Nat} (hv:v<n.2.1.length) {D M:Nat} {s:Rat×Rat} (hL:U3 D M s) (hK:(Ze M).length+(Ze D).length+(W+2)+2≤K):
  Zg4 N n (v:Int) w (Yp s)=some ((Yd (s.2 - s.1) (Xt n w v) s.1).map Yp):=by
 obtain ⟨D',M',c1,c2,c3⟩:=Zm7 hf hs hw hv hL
 have hrows:=hf.rows hv
 have hcl:cnt n v≤65536:=by have:=(hf.row hw hv).1;omega
 have hps:(n.2.2.2.1.getD v []).length≤1048576:=by
  rw [Yj (by rw [hf.ev.p];exact hv)]
  exact hs.pn.ls _ (List.getElem_mem _)
 have hsub:Zdu N (((Yp s).2.1.1,(Yp s).2.1.2),(Yp s).2.2) (((Yp s).1.1.1,(Yp s).1.1.2),(Yp s).1.2)=some (Zw (s.2 - s.1)):=by
  have:=Z13 (Vl hL.qb) (Vl hL.qa) (hr.mono (s:=2 * ((Ze M).length+(Ze D).length+2 * ((Ze M).length+(Ze D).length)+4)) (by omega))
  rwa [Wt,Wt] at this
 have h1:=Zu3 hf w hw (Yp s) hv hps N 0 0 1 (Nat.zero_le _) (by omega) (by omega) (by omega) hrows.2.2
 rw [show ((0:Nat):Int)=0 from rfl,List.drop_zero,hsub,Option.bind_some] at h1
 rw [Zg4,h1]
 have h3:=Zu4 hf w hw hr hv (fun x hx=>by have:=Zmw hf hs hv x (Zi8 hx);exact ⟨this.1,by omega⟩) (long:=s.2 - s.1) (by omega) (Xt n w v) N 0 s.1 [] rfl (Nat.zero_le _) (by omega) (by have:=hL.qa;omega) (fun p hp=>⟨by have:=(c2 p hp).qa;omega,by have:=(c2 p hp).qb;omega⟩) rfl
 rw [show ((0:Nat):Int)=0 from rfl,List.nil_append] at h3
 exact h3
end
def Zgk (N:Nat) (aa:Rb):Option Re:=
  (Se N aa).bind fun ab=>if (!decide (ab=0))=true then (some (([]:List Int),ab)) else ((Ta N aa).bind fun ac=>some (ac,0))
theorem Zxq {N ac:Nat} {a0:Option Addr} {col:Zd} {w0:World} {ab:Rb} {r:Re} (c1:Nat) (hm:Zgk N ab=some r) (h0:Sl (Za.slice (Za.int .i64)) col w0 a0 ac ab):
    Calls Tryz.prog 86 #[.slice a0 ab.length ac] w0 (fun e w'=>∃ (col':Zd) (ra1:Option Addr) (rc2:Nat),e= .returned (.tuple #[.slice ra1 r.1.length rc2,.int .i64 r.2])∧Zf col w0 col' w'∧Zc (Za.int .i64) 3 c1 col' w' ra1 rc2 r.1):=by
 refine Zcq 2 3 (m:=12) (args:=[.slice a0 ab.length ac]) func86 rfl rfl rfl rfl rfl ?_;rw [Zgk.eq_1] at hm;have aa:=St.start col w0;refine go ?_;obtain ⟨aj,ae,hm⟩:=bZ hm;replace h0:=h0.keep (Zj.start col w0);refine Zh (Zpb ae (h0.ks aa)) ?_;rintro _ af ⟨rfl,ad⟩;refine ⟨_,rfl,?_⟩;replace ad:Zf (Zi col) w0 (Zi col) af:=.of_below ad;refine go ?_;replace aa:=aa.grow ad;refine Zp hm (fun hb hm=>go ?_) fun hb hm=>go ?_
 ·cases hm;exact ⟨rfl,_,none,0,rfl,aa.fin (cm []),Zc.nil⟩
 obtain ⟨ak,ag,hm⟩:=bZ hm;refine Zh (Zpc 1 ag (h0.ks aa)) ?_;rintro _ al ⟨am,an,ao,rfl,ah,ai⟩;refine ⟨_,rfl,go ?_⟩;cases hm;replace aa:=aa.grow ah;exact ⟨rfl,_,_,_,rfl,aa.fin (cm [(1,c1)]),aa.fo ai⟩
def Zca (aa:Int) (kk_L2:(Int→Int→Option Ra)) (ab:Int):Option Ra:=
  kk_L2 ab (i64.wrap (aa+1))
def Zeh (ab:Int) (aa:Int) (kk_L2:(Int→Int→Option Ra)) (ac:Bool):Option Ra:=
  if ac=true then (Zca aa kk_L2 aa) else (Zca aa kk_L2 ab)
def Zg3 (N:Nat) (aa:(R1×R1)) (ae:Rg) (ad:Int) (ab:Int) (kk_L2:(Int→Int→Option Ra)) (af:Bool):Option Ra:=
  if af=true then ((Zk ae ab).bind fun ac=>(U9 N ((aa.2.1.1,aa.2.1.2),aa.2.2) ((ac.2.1.1,ac.2.1.2),ac.2.2)).bind fun ag=>Zeh ad ab kk_L2 (decide (ag≤0))) else (Zeh ad ab kk_L2 false)
def Sh (N:Nat) (aa:(R1×R1)) (ai:Int) (af:List Int) (kk_L1:(Int→R2→Bool→R2→R2→Bool→R2→R2→Option Ra)) (ag:Int) (ab:Rg):Nat→Int→Int→Option Ra
  | 0,_,_=>none
  | aj+1,ae,ah=>if (decide (ah<(ab.length:Int)))=true then ((Zk ab ah).bind fun ac=>(U9 N ((ac.1.1.1,ac.1.1.2),ac.1.2) ((aa.1.1.1,aa.1.1.2),aa.1.2)).bind fun ak=>if (decide (ak≤0))=true then ((U9 N ((aa.1.1.1,aa.1.1.2),aa.1.2) ((ac.2.1.1,ac.2.1.2),ac.2.2)).bind fun al=>Zg3 N aa ab ae ah (Sh N aa ai af kk_L1 ag ab aj) (decide (al<0))) else (Zg3 N aa ab ae ah (Sh N aa ai af kk_L1 ag ab aj) false)) else (if (decide (ae<0))=true then (some (([]:List Int),false)) else ((Zk af ag).bind fun an=>(some (af.set (Int.toNat ag) ae)).bind fun am=>(Zk ab ae).bind fun ad=>kk_L1 (i64.wrap (ai+1)) am ad.1.1.1 ad.1.1.2 ad.1.2 ad.2.1.1 ad.2.1.2 ad.2.2))
termination_by structural x=>x
def Tp (N:Nat) (aa:R0) (ae:(R1×R1)) (ab:Re):Nat→Int→R2→Bool→R2→R2→Bool→R2→R2→Option Ra
  | 0,_,_,_,_,_,_,_,_=>none
  | ag+1,ac,ad,ah,ai,aj,ak,al,am=>if (decide (ac<(ab.1.length:Int)))=true then ((Zk ab.1 ac).bind fun af=>(Zg4 N (aa.1,aa.2.1,aa.2.2.1,aa.2.2.2.1,aa.2.2.2.2) af ad (((ah,ai),aj),((ak,al),am))).bind fun an=>Sh N ae ac ad (Tp N aa ae ab ag) af an N (-1) 0) else (some (ad,true))
termination_by structural x=>x
def Zg2 (N:Nat) (ab:R0) (ac:(R1×R1)):Option Ra:=
  (Zgk N ab.2.2.2.1).bind fun ad=>Zv (ab.2.1.length * 8≤281474976710656∧ab.2.1.length≤maxLen) ((Zi2 N).bind fun aa=>Tp N ab ac ad N 0 (List.replicate ab.2.1.length (0:Int)) aa.1.1.1 aa.1.1.2 aa.1.2 aa.2.1.1 aa.2.1.2 aa.2.2)
theorem Zx3 {N b1 b2 b3 b4 bi bj bp bq:Nat} {b5 b6 b7 b8 bk bm br bs:Option Addr} {col:Zd} {w0:World} {ac:R0} {aa:(R1×R1)} {r:Ra} (c1:Nat) (hm:Zg2 N ac aa=some r) (cz:Sl Za.str col w0 b5 b1 ac.2.1) (c0:Sl (Za.slice Za.str) col w0 b6 b2 ac.2.2.1) (cq:Sl (Za.slice (Za.int .i64)) col w0 b7 b3 ac.2.2.2.1) (c2:Sl (Za.slice (Za.pair (Za.pair Za.bool (Za.slice (Za.int .u32))) (Za.slice (Za.int .u32)))) col w0 b8 b4 ac.2.2.2.2) (cr:Sl (Za.int .u32) col w0 bk bi aa.1.1.2) (cs:Sl (Za.int .u32) col w0 bm bj aa.1.2) (c3:Sl (Za.int .u32) col w0 br bp aa.2.1.2) (c4:Sl (Za.int .u32) col w0 bs bq aa.2.2):
    Calls Tryz.prog 96 #[(.agg #[.string ac.1,.slice b5 ac.2.1.length b1,.slice b6 ac.2.2.1.length b2,.slice b7 ac.2.2.2.1.length b3,.slice b8 ac.2.2.2.2.length b4]),(.agg #[.bool aa.1.1.1,.slice bk aa.1.1.2.length bi,.slice bm aa.1.2.length bj,.bool aa.2.1.1,.slice br aa.2.1.2.length bp,.slice bs aa.2.2.length bq])] w0 (fun e w'=>∃ (col':Zd) (ra1:Option Addr) (rc2:Nat),e= .returned (.tuple #[.slice ra1 r.1.length rc2,.bool r.2])∧Zf col w0 col' w'∧Zc (Za.int .i64) 3 c1 col' w' ra1 rc2 r.1):=by
 refine Zcq 4 5 (m:=92) (args:=[(.agg #[.string ac.1,.slice b5 ac.2.1.length b1,.slice b6 ac.2.2.1.length b2,.slice b7 ac.2.2.2.1.length b3,.slice b8 ac.2.2.2.2.length b4]),(.agg #[.bool aa.1.1.1,.slice bk aa.1.1.2.length bi,.slice bm aa.1.2.length bj,.bool aa.2.1.1,.slice br aa.2.1.2.length bp,.slice bs aa.2.2.length bq])]) func96 rfl rfl rfl rfl rfl ?_;rw [Zg2.eq_1] at hm;have ab:=St.start col w0;refine go ?_;refine Xf (col:=(Zi col)) 1 rfl ?_;intro ck gd dp dq ad;refine Xf (col:=dp) 2 rfl ?_;intro cl ge gf dk ae;refine go ?_;refine Xb ⟨_,_,rfl⟩ ?_;replace ad:=ad.gr dk;refine lW ((ad.atN).nth (q:=3) rfl) ?_;obtain ⟨ap,dr,hm⟩:=bZ hm;replace cq:=cq.keep (Zj.start col w0);replace ab:=(ab.grow dq).grow dk;refine Zh (Zxq 3 dr (cq.ks ab)) ?_;rintro _ ds ⟨dt,ca,cb,rfl,c5,af⟩;refine ⟨_,rfl,?_⟩;refine lM (.tuple #[.slice ca ap.1.length cb,.int .i64 ap.2])<|lV (.slice ca ap.1.length cb) (X0 rfl rfl)<|lV (.int .i64 ap.2) (X0 rfl rfl)<|go ?_;refine Xb ⟨_,_,rfl⟩ ?_;replace ad:=ad.gr c5;refine lW ((ad.atN).nth (q:=1) rfl)<|go ?_;obtain ⟨dl,hm⟩:=Zy hm;refine Sy (col:=dt) (w:=ds) (r:=(Za.int .i64)) (n:=ac.2.1.length) (x0:=0) 4 rfl underlying40 Tryz.t3 rfl rfl rfl rfl rfl rfl rfl dl.1 dl.2 (Q2 .i64 0) ?_;intro gg gh du ct a3;refine go ?_;obtain ⟨gi,dv,hm⟩:=bZ hm;refine lc rfl rfl (Za0 call87) (Zx5 (col:=du) 5 6 7 8 dv:) ?_;rintro _ gj ⟨dw,gk,gl,gm,gp,gs,gt,gu,gv,rfl,cn,a4,a5,a6,a7⟩;refine ⟨_,rfl,?_⟩;refine Xr (col:=dw) #[.bool false,.slice none (([]:List Int).length) 0,.slice none (([]:List Int).length) 0,.bool false,.slice none (([]:List Int).length) 0,.slice none (([]:List Int).length) 0] 9 zeroValue49 ?_;intro co gw gx bt dx;refine Z9 dx ?_;intro gy bu dy ag;refine go ?_;replace af:=(((af.gr ct).gr cn).gr bt).kp bu;replace af:=af.froz 5 (by decide);replace a3:=((a3.gr cn).gr bt).kp bu;replace a3:=a3.froz 5 (by decide);replace a4:=(a4.gr bt).kp bu;replace a4:=(a4).toSlF (Zn.int .u32);replace a5:=(a5.gr bt).kp bu;replace a5:=a5.froz 5 (by decide);replace a6:=(a6.gr bt).kp bu;replace a6:=a6.froz 5 (by decide);replace a7:=(a7.gr bt).kp bu;replace a7:=a7.froz 5 (by decide);replace ad:=(((ad.gr ct).gr cn).gr bt).kp bu;replace ad:=ad.froz 5 (by decide)
 replace ae:=((((ae.gr c5).gr ct).gr cn).gr bt).kp bu;replace ae:=ae.froz 5 (by decide);replace ag:=ag.froz 5 (by decide);replace ab:=((((ab.grow c5).grow ct).grow cn).grow bt).kp bu dy;replace ab:=ab.froz 5 (by decide) (by decide);replace af:=af.froz 6 (by decide);replace a3:=a3.froz 6 (by decide);replace a4:=a4.froz 6;replace a5:=(a5).toSlF (Zn.int .u32);replace a6:=a6.froz 6 (by decide);replace a7:=a7.froz 6 (by decide);replace ad:=ad.froz 6 (by decide);replace ae:=ae.froz 6 (by decide);replace ag:=ag.froz 6 (by decide);replace ab:=ab.froz 6 (by decide) (by decide);replace af:=af.froz 7 (by decide);replace a3:=a3.froz 7 (by decide);replace a4:=a4.froz 7;replace a5:=a5.froz 7;replace a6:=(a6).toSlF (Zn.int .u32);replace a7:=a7.froz 7 (by decide);replace ad:=ad.froz 7 (by decide);replace ae:=ae.froz 7 (by decide);replace ag:=ag.froz 7 (by decide);replace ab:=ab.froz 7 (by decide) (by decide);replace af:=af.froz 8 (by decide);replace a3:=a3.froz 8 (by decide);replace a4:=a4.froz 8;replace a5:=a5.froz 8;replace a6:=a6.froz 8;replace a7:=(a7).toSlF (Zn.int .u32);replace ad:=ad.froz 8 (by decide);replace ae:=ae.froz 8 (by decide);replace ag:=ag.froz 8 (by decide);replace ab:=ab.froz 8 (by decide) (by decide);refine Z0 [2,3,6,9,1000000] (fun n f a8=>∃ a9 cc bv bw aq cd ba bb ar bc bd au ce be bf av bg bh aw bn,bn=n∧Tp N ac aa ap bn cc aq cd ar au ce av aw=some r∧St w0 (Zi col) a9 a8∧Zm 27 1 a9 a8 ck #[.string ac.1,.slice b5 ac.2.1.length b1,.slice b6 ac.2.2.1.length b2,.slice b7 ac.2.2.2.1.length b3,.slice b8 ac.2.2.2.2.length b4]∧Zm 49 2 a9 a8 cl #[.bool aa.1.1.1,.slice bk aa.1.1.2.length bi,.slice bm aa.1.2.length bj,.bool aa.2.1.1,.slice br aa.2.1.2.length bp,.slice bs aa.2.2.length bq]∧Zc (Za.int .i64) 3 3 a9 a8 ca cb ap.1∧Zc (Za.int .i64) 3 4 a9 a8 bv bw aq∧Sl (Za.int .u32) a9 a8 ba bb ar∧Sl (Za.int .u32) a9 a8 bc bd au∧Sl (Za.int .u32) a9 a8 be bf av∧Sl (Za.int .u32) a9 a8 bg bh aw∧Zm 49 9 a9 a8 co #[.bool cd,.slice ba ar.length bb,.slice bc au.length bd,.bool ce,.slice be av.length bf,.slice bg aw.length bh]∧[10,8].map f=[.int .i64 cc,.slice bv aq.length bw]) N ⟨_,0,_,_,_,_,_,_,_,_,_,_,_,_,_,_,_,_,_,_,rfl,hm,ab,ad,ae,af,a3,a4,a5,a6,a7,ag,rfl⟩ ?_
 clear hm;intro n f a8 hI;obtain ⟨a9,cc,bv,bw,aq,cd,ba,bb,ar,bc,bd,au,ce,be,bf,av,bg,bh,aw,bn,hn,hm,ab,ad,ae,af,aj,ak,al,am,an,ag,hs⟩:=hI;subst hn;refine .lL [10,8] hs ?_;replace cz:=cz.keep (Zj.start col w0);replace c0:=c0.keep (Zj.start col w0);replace c2:=c2.keep (Zj.start col w0);replace cr:=cr.keep (Zj.start col w0);replace cs:=cs.keep (Zj.start col w0);replace c3:=c3.keep (Zj.start col w0);replace c4:=c4.keep (Zj.start col w0)
 cases bn with
 | zero=>rw [Tp.eq_1] at hm;cases hm
 | succ bn=>
  rw [Tp.eq_2] at hm;refine go ?_;refine Zp hm (fun hb hm=>go ?_) fun hb hm=>go ?_
  ·obtain ⟨cp,c6,hm⟩:=bZ hm;refine lI c6 (af.addr c6)<|lW (af.atInt c6) ?_;refine go ?_;refine lV _ (Z8 isAgg27 sizeOf27 ad)<|go ?_;refine lV _ (Z8 isAgg49 sizeOf49 ag) ?_;obtain ⟨bx,dz,hm⟩:=bZ hm;refine Zh (Zx4 10 4 dz (by decide) (cz.ks ab) (c0.ks ab) (cq.ks ab) (c2.ks ab) aj ak al am an) ?_;rintro _ gz ⟨g0,cu,cv,rfl,bo,ah⟩;refine ⟨_,rfl,go ?_⟩;replace af:=af.gr bo;replace aj:=aj.gr bo;replace ak:=ak.gr bo;replace al:=al.gr bo;replace am:=am.gr bo;replace an:=an.gr bo;replace ad:=ad.gr bo;replace ae:=ae.gr bo;replace ag:=ag.gr bo;replace ab:=ab.grow bo;refine Z0 [10,11,12,2,3,6,8,9,1000000] (fun n f ax=>∃ ai cf cg bz,bz=n∧Sh N aa cc aq (Tp N ac aa ap bn) cp bx bz cf cg=some r∧St w0 (Zi col) ai ax∧Zc (Za.pair (Za.pair (Za.pair Za.bool (Za.slice (Za.int .u32))) (Za.slice (Za.int .u32))) (Za.pair (Za.pair Za.bool (Za.slice (Za.int .u32))) (Za.slice (Za.int .u32)))) 49 10 ai ax cu cv bx∧Zm 27 1 ai ax ck #[.string ac.1,.slice b5 ac.2.1.length b1,.slice b6 ac.2.2.1.length b2,.slice b7 ac.2.2.2.1.length b3,.slice b8 ac.2.2.2.2.length b4]∧Zm 49 2 ai ax cl #[.bool aa.1.1.1,.slice bk aa.1.1.2.length bi,.slice bm aa.1.2.length bj,.bool aa.2.1.1,.slice br aa.2.1.2.length bp,.slice bs aa.2.2.length bq]∧Zc (Za.int .i64) 3 3 ai ax ca cb ap.1∧Zc (Za.int .i64) 3 4 ai ax bv bw aq∧Sl (Za.int .u32) ai ax ba bb ar∧Sl (Za.int .u32) ai ax bc bd au∧Sl (Za.int .u32) ai ax be bf av∧Sl (Za.int .u32) ai ax bg bh aw∧Zm 49 9 ai ax co #[.bool cd,.slice ba ar.length bb,.slice bc au.length bd,.bool ce,.slice be av.length bf,.slice bg aw.length bh]∧[13,14].map f=[.int .i64 cf,.int .i64 cg]) N ⟨_,_,0,_,rfl,hm,ab,ah,ad,ae,af,aj,ak,al,am,an,ag,rfl⟩ ?_;clear hm;intro n f ax hI;obtain ⟨ai,cf,cg,bz,hn,hm,ab,ah,ad,ae,af,aj,ak,al,am,an,ag,hs⟩:=hI;subst hn;refine .lL [13,14] hs ?_
   cases bz with
   | zero=>rw [Sh.eq_1] at hm;cases hm
   | succ bz=>
    rw [Sh.eq_2] at hm;refine go ?_;refine Zp hm (fun hb hm=>?_) fun hb hm=>go ?_
    ·refine X7<|Zu ?_;refine Wp.cutK [10,11,12,14,2,3,6,8,9,1000000] (fun f ay=>∃ az c7,Zca cg (Sh N aa cc aq (Tp N ac aa ap bn) cp bx bz) c7=some r∧St w0 (Zi col) az ay∧Zc (Za.pair (Za.pair (Za.pair Za.bool (Za.slice (Za.int .u32))) (Za.slice (Za.int .u32))) (Za.pair (Za.pair Za.bool (Za.slice (Za.int .u32))) (Za.slice (Za.int .u32)))) 49 10 az ay cu cv bx∧Zm 27 1 az ay ck #[.string ac.1,.slice b5 ac.2.1.length b1,.slice b6 ac.2.2.1.length b2,.slice b7 ac.2.2.2.1.length b3,.slice b8 ac.2.2.2.2.length b4]∧Zm 49 2 az ay cl #[.bool aa.1.1.1,.slice bk aa.1.1.2.length bi,.slice bm aa.1.2.length bj,.bool aa.2.1.1,.slice br aa.2.1.2.length bp,.slice bs aa.2.2.length bq]∧Zc (Za.int .i64) 3 3 az ay ca cb ap.1∧Zc (Za.int .i64) 3 4 az ay bv bw aq∧Sl (Za.int .u32) az ay ba bb ar∧Sl (Za.int .u32) az ay bc bd au∧Sl (Za.int .u32) az ay be bf av∧Sl (Za.int .u32) az ay bg bh aw∧Zm 49 9 az ay co #[.bool cd,.slice ba ar.length bb,.slice bc au.length bd,.bool ce,.slice be av.length bf,.slice bg aw.length bh]∧[13].map f=[.int .i64 c7]) ?_ ?_
     ·intro f ay hJ;obtain ⟨az,c7,hm,ab,ah,ad,ae,af,aj,ak,al,am,an,ag,hs⟩:=hJ;rw [Zca.eq_1] at hm;refine .lL [13] hs<|go ?_;exact ⟨bz,by omega,rfl,⟨_,_,_,_,rfl,hm,ab,ah,ad,ae,af,aj,ak,al,am,an,ag,rfl⟩⟩
     refine Zeu<|Zu ?_;refine Wp.cutK [10,11,12,13,14,2,3,6,8,9,1000000] (fun f a0=>∃ ao c8,Zg3 N aa bx cf cg (Sh N aa cc aq (Tp N ac aa ap bn) cp bx bz) c8=some r∧St w0 (Zi col) ao a0∧Zc (Za.pair (Za.pair (Za.pair Za.bool (Za.slice (Za.int .u32))) (Za.slice (Za.int .u32))) (Za.pair (Za.pair Za.bool (Za.slice (Za.int .u32))) (Za.slice (Za.int .u32)))) 49 10 ao a0 cu cv bx∧Zm 27 1 ao a0 ck #[.string ac.1,.slice b5 ac.2.1.length b1,.slice b6 ac.2.2.1.length b2,.slice b7 ac.2.2.2.1.length b3,.slice b8 ac.2.2.2.2.length b4]∧Zm 49 2 ao a0 cl #[.bool aa.1.1.1,.slice bk aa.1.1.2.length bi,.slice bm aa.1.2.length bj,.bool aa.2.1.1,.slice br aa.2.1.2.length bp,.slice bs aa.2.2.length bq]∧Zc (Za.int .i64) 3 3 ao a0 ca cb ap.1∧Zc (Za.int .i64) 3 4 ao a0 bv bw aq∧Sl (Za.int .u32) ao a0 ba bb ar∧Sl (Za.int .u32) ao a0 bc bd au∧Sl (Za.int .u32) ao a0 be bf av∧Sl (Za.int .u32) ao a0 bg bh aw∧Zm 49 9 ao a0 co #[.bool cd,.slice ba ar.length bb,.slice bc au.length bd,.bool ce,.slice be av.length bf,.slice bg aw.length bh]∧[15].map f=[.bool c8]) ?_ ?_
     ·intro f a0 hJ;obtain ⟨ao,c8,hm,ab,ah,ad,ae,af,aj,ak,al,am,an,ag,hs⟩:=hJ;rw [Zg3.eq_1] at hm;refine .lL [15] hs<|Zu ?_;refine Wp.cutK [10,11,12,13,14,2,3,6,8,9,1000000] (fun f a1=>∃ a2 c9,Zeh cf cg (Sh N aa cc aq (Tp N ac aa ap bn) cp bx bz) c9=some r∧St w0 (Zi col) a2 a1∧Zc (Za.pair (Za.pair (Za.pair Za.bool (Za.slice (Za.int .u32))) (Za.slice (Za.int .u32))) (Za.pair (Za.pair Za.bool (Za.slice (Za.int .u32))) (Za.slice (Za.int .u32)))) 49 10 a2 a1 cu cv bx∧Zm 27 1 a2 a1 ck #[.string ac.1,.slice b5 ac.2.1.length b1,.slice b6 ac.2.2.1.length b2,.slice b7 ac.2.2.2.1.length b3,.slice b8 ac.2.2.2.2.length b4]∧Zm 49 2 a2 a1 cl #[.bool aa.1.1.1,.slice bk aa.1.1.2.length bi,.slice bm aa.1.2.length bj,.bool aa.2.1.1,.slice br aa.2.1.2.length bp,.slice bs aa.2.2.length bq]∧Zc (Za.int .i64) 3 3 a2 a1 ca cb ap.1∧Zc (Za.int .i64) 3 4 a2 a1 bv bw aq∧Sl (Za.int .u32) a2 a1 ba bb ar∧Sl (Za.int .u32) a2 a1 bc bd au∧Sl (Za.int .u32) a2 a1 be bf av∧Sl (Za.int .u32) a2 a1 bg bh aw∧Zm 49 9 a2 a1 co #[.bool cd,.slice ba ar.length bb,.slice bc au.length bd,.bool ce,.slice be av.length bf,.slice bg aw.length bh]∧[79].map f=[.bool c9]) ?_ ?_
      ·intro f a1 hJ;obtain ⟨a2,c9,hm,ab,ah,ad,ae,af,aj,ak,al,am,an,ag,hs⟩:=hJ;rw [Zeh.eq_1] at hm;refine .lL [79] hs ?_;refine Zp hm (fun hb hm=>go ?_) fun hb hm=>?_
       ·exact ⟨rfl,_,_,hm,ab,ah,ad,ae,af,aj,ak,al,am,an,ag,rfl⟩
       refine X7 ?_;exact ⟨rfl,_,_,hm,ab,ah,ad,ae,af,aj,ak,al,am,an,ag,rfl⟩
      refine Wg (col:=ao) (by kernel_rfl) (by kernel_rfl)<|go ?_;refine Xn hm (fun da hm=>go ?_) fun da hm=>go ?_
      ·refine qF ⟨_,_,rfl⟩ ?_;refine go ?_;refine qv (v:=(.agg #[.bool aa.2.1.1,.slice br aa.2.1.2.length bp,.slice bs aa.2.2.length bq])) rfl (fun _ hC=>Xv isAgg47 sizeOf47 rfl rfl (((ae.atN).part 3 3 _ rfl).gr (hC.bl ao))) ?_;refine go ?_;obtain ⟨db,cw,hm⟩:=bZ hm;refine qI cw (ah.addr cw) ?_;refine go ?_;refine qF (Yz (ah.addr cw)) ?_;refine go ?_;obtain ⟨_,d0,d1⟩:=ah.atN cw;obtain ⟨_,_,rfl,d2,d3⟩:=d0.parts;obtain ⟨_,_,rfl,d4,d5⟩:=d2.parts;obtain ⟨_,_,rfl,d6,d7⟩:=d4.parts;obtain rfl:=d6.bool;obtain ⟨g1,g2,rfl,g3⟩:=d7.slice;obtain ⟨g4,g5,rfl,g6⟩:=d5.slice;obtain ⟨_,_,rfl,d8,d9⟩:=d3.parts;obtain ⟨_,_,rfl,ea,eb⟩:=d8.parts;obtain rfl:=ea.bool;obtain ⟨ec,ed,rfl,ee⟩:=eb.slice;obtain ⟨ef,eg,rfl,eh⟩:=d9.slice;refine qv (v:=(.agg #[.bool db.2.1.1,.slice ec db.2.1.2.length ed,.slice ef db.2.2.length eg])) rfl (fun _ hC=>Xv isAgg47 sizeOf47 rfl rfl (((d1).part 3 3 _ rfl).gr (hC.bl ao))) ?_;refine go ?_;obtain ⟨dm,ei,hm⟩:=bZ hm;refine qc (v:=(.int .i64 dm)) rfl (fun _ hC=>⟨_,_,Ts call94 rfl rfl,(Ze1 ei ((c3.ks ab).gr (hC.bl ao)) ((c4.ks ab).gr (hC.bl ao)) (ee.gr (hC.bl ao)) (eh.gr (hC.bl ao)):).mono fun _ _ h=>⟨h.1,hC.trans (.of_below h.2)⟩⟩) ?_;refine go ?_;refine qv (v:=(.bool (decide (dm≤0)))) rfl (fun _ hC=>Z1 (congrArg Value.bool da) rfl) ?_;refine Yk ?_;intro g7 hC;replace hC:=hC.bl ao;replace ah:=ah.gr hC;replace af:=af.gr hC;replace aj:=aj.gr hC;replace ak:=ak.gr hC;replace al:=al.gr hC;replace am:=am.gr hC;replace an:=an.gr hC;replace ad:=ad.gr hC;replace ae:=ae.gr hC;replace ag:=ag.gr hC;replace ab:=ab.grow hC;exact ⟨rfl,_,_,hm,ab,ah,ad,ae,af,aj,ak,al,am,an,ag,rfl⟩
      refine qv (v:=(.bool false)) rfl (fun _ hC=>Xj (congrArg Value.bool da) rfl) ?_;refine Yk ?_;intro g8 hC;replace hC:=hC.bl ao;replace ah:=ah.gr hC;replace af:=af.gr hC;replace aj:=aj.gr hC;replace ak:=ak.gr hC;replace al:=al.gr hC;replace am:=am.gr hC;replace an:=an.gr hC;replace ad:=ad.gr hC;replace ae:=ae.gr hC;replace ag:=ag.gr hC;replace ab:=ab.grow hC;exact ⟨rfl,_,_,hm,ab,ah,ad,ae,af,aj,ak,al,am,an,ag,rfl⟩
     refine Wg (col:=ai) (by kernel_rfl) (by kernel_rfl)<|go ?_;obtain ⟨ch,b9,hm⟩:=bZ hm;refine qI b9 (ah.addr b9)<|qF (Yz (ah.addr b9)) ?_;obtain ⟨_,ej,ek⟩:=ah.atN b9;obtain ⟨_,_,rfl,el,em⟩:=ej.parts;obtain ⟨_,_,rfl,en,eo⟩:=el.parts;obtain ⟨_,_,rfl,ep,eq⟩:=en.parts;obtain rfl:=ep.bool;obtain ⟨er,es,rfl,et⟩:=eq.slice;obtain ⟨eu,ew,rfl,ey⟩:=eo.slice;obtain ⟨_,_,rfl,ez,e0⟩:=em.parts;obtain ⟨_,_,rfl,e1,e2⟩:=ez.parts;obtain rfl:=e1.bool;obtain ⟨g9,ha,rfl,hc⟩:=e2.slice;obtain ⟨hd,he,rfl,hf⟩:=e0.slice;refine qv (v:=(.agg #[.bool ch.1.1.1,.slice er ch.1.1.2.length es,.slice eu ch.1.2.length ew])) rfl (fun _ hC=>Xv isAgg47 sizeOf47 rfl rfl (((ek).part 0 3 _ rfl).gr (hC.bl ai))) ?_;refine qF ⟨_,_,rfl⟩ ?_;refine qv (v:=(.agg #[.bool aa.1.1.1,.slice bk aa.1.1.2.length bi,.slice bm aa.1.2.length bj])) rfl (fun _ hC=>Xv isAgg47 sizeOf47 rfl rfl (((ae.atN).part 0 3 _ rfl).gr (hC.bl ai))) ?_;obtain ⟨e3,e4,hm⟩:=bZ hm;refine qc (v:=(.int .i64 e3)) rfl (fun _ hC=>⟨_,_,Ts call94 rfl rfl,(Ze1 e4 (et.gr (hC.bl ai)) (ey.gr (hC.bl ai)) ((cr.ks ab).gr (hC.bl ai)) ((cs.ks ab).gr (hC.bl ai)):).mono fun _ _ h=>⟨h.1,hC.trans (.of_below h.2)⟩⟩) ?_;refine go ?_;refine Xn hm (fun dc hm=>go ?_) fun dc hm=>go ?_
     ·refine qF ⟨_,_,rfl⟩ ?_;refine go ?_;refine qv (v:=(.agg #[.bool aa.1.1.1,.slice bk aa.1.1.2.length bi,.slice bm aa.1.2.length bj])) rfl (fun _ hC=>Xv isAgg47 sizeOf47 rfl rfl (((ae.atN).part 0 3 _ rfl).gr (hC.bl ai))) ?_;refine go ?_;refine qI b9 (ah.addr b9) ?_;refine go ?_;refine qF (Yz (ah.addr b9)) ?_;refine go ?_;obtain ⟨_,e5,e6⟩:=ah.atN b9;obtain ⟨_,_,rfl,e7,e8⟩:=e5.parts;obtain ⟨_,_,rfl,e9,fa⟩:=e7.parts;obtain ⟨_,_,rfl,fb,fc⟩:=e9.parts;obtain rfl:=fb.bool;obtain ⟨hg,hh,rfl,hi⟩:=fc.slice;obtain ⟨hj,hk,rfl,hl⟩:=fa.slice;obtain ⟨_,_,rfl,fd,fe⟩:=e8.parts;obtain ⟨_,_,rfl,ff,fg⟩:=fd.parts;obtain rfl:=ff.bool;obtain ⟨fh,fi,rfl,fj⟩:=fg.slice;obtain ⟨fk,fl,rfl,fm⟩:=fe.slice;refine qv (v:=(.agg #[.bool ch.2.1.1,.slice fh ch.2.1.2.length fi,.slice fk ch.2.2.length fl])) rfl (fun _ hC=>Xv isAgg47 sizeOf47 rfl rfl (((e6).part 3 3 _ rfl).gr (hC.bl ai))) ?_;refine go ?_;obtain ⟨dn,fn,hm⟩:=bZ hm;refine qc (v:=(.int .i64 dn)) rfl (fun _ hC=>⟨_,_,Ts call94 rfl rfl,(Ze1 fn ((cr.ks ab).gr (hC.bl ai)) ((cs.ks ab).gr (hC.bl ai)) (fj.gr (hC.bl ai)) (fm.gr (hC.bl ai)):).mono fun _ _ h=>⟨h.1,hC.trans (.of_below h.2)⟩⟩) ?_;refine go ?_;refine qv (v:=(.bool (decide (dn<0)))) rfl (fun _ hC=>Z1 (congrArg Value.bool dc) rfl) ?_;refine go ?_;refine Yk ?_;intro ho hC;replace hC:=hC.bl ai;replace ah:=ah.gr hC;replace af:=af.gr hC;replace aj:=aj.gr hC;replace ak:=ak.gr hC;replace al:=al.gr hC;replace am:=am.gr hC;replace an:=an.gr hC;replace ad:=ad.gr hC;replace ae:=ae.gr hC;replace ag:=ag.gr hC;replace ab:=ab.grow hC;exact ⟨rfl,_,_,hm,ab,ah,ad,ae,af,aj,ak,al,am,an,ag,rfl⟩
     refine qv (v:=(.bool false)) rfl (fun _ hC=>Xj (congrArg Value.bool dc) rfl) ?_;refine go ?_;refine Yk ?_;intro hp hC;replace hC:=hC.bl ai;replace ah:=ah.gr hC;replace af:=af.gr hC;replace aj:=aj.gr hC;replace ak:=ak.gr hC;replace al:=al.gr hC;replace am:=am.gr hC;replace an:=an.gr hC;replace ad:=ad.gr hC;replace ae:=ae.gr hC;replace ag:=ag.gr hC;replace ab:=ab.grow hC;exact ⟨rfl,_,_,hm,ab,ah,ad,ae,af,aj,ak,al,am,an,ag,rfl⟩
    refine Zp hm (fun hb hm=>go ?_) fun hb hm=>go ?_
    ·cases hm;exact ⟨rfl,_,none,0,rfl,ab.fin (cm []),Zc.nil⟩
    obtain ⟨hq,dd,hm⟩:=bZ hm;refine lI dd (aj.addr dd) ?_;obtain ⟨de,cx,hm⟩:=bZ hm;have cx:de=aq.set (Int.toNat cp) cf:=(Option.some.inj cx).symm;refine Yx (x1:=cf) aj dd ?_;intro hr ci fp cy;rw [← cx] at cy;refine .ld (d:=8) (v:=(.slice bv de.length bw)) (congrArg (fun n=>Value.slice bv n bw) (show aq.length=de.length by rw [cx,List.length_set])) ?_;refine go ?_;obtain ⟨cj,df,hm⟩:=bZ hm;replace ah:=ah.kp ci;refine lI df (ah.addr df) ?_;obtain ⟨_,fq,fr⟩:=ah.atN df;obtain ⟨_,_,rfl,ft,fu⟩:=fq.parts;obtain ⟨_,_,rfl,fv,fw⟩:=ft.parts;obtain ⟨_,_,rfl,fx,fy⟩:=fv.parts;obtain rfl:=fx.bool;obtain ⟨fz,f0,rfl,dg⟩:=fy.slice;obtain ⟨f1,f2,rfl,dh⟩:=fw.slice;obtain ⟨_,_,rfl,f3,f4⟩:=fu.parts;obtain ⟨_,_,rfl,f5,f6⟩:=f3.parts;obtain rfl:=f5.bool;obtain ⟨f7,f8,rfl,di⟩:=f6.slice;obtain ⟨f9,ga,rfl,dj⟩:=f4.slice;refine lV (.agg #[.bool cj.1.1.1,.slice fz cj.1.1.2.length f0,.slice f1 cj.1.2.length f2,.bool cj.2.1.1,.slice f7 cj.2.1.2.length f8,.slice f9 cj.2.2.length ga]) (Xv isAgg49 sizeOf49 rfl rfl fr) ?_;replace ag:=ag.kp ci;refine Z9 ag ?_;intro ht b0 gb gc;refine go ?_;replace af:=(af.kp ci).kp b0;replace ad:=(ad.kp ci).kp b0;replace ae:=(ae.kp ci).kp b0;replace ab:=(ab.kp ci fp).kp b0 gb;replace cy:=cy.kp b0;replace dg:=dg.kp b0;replace dh:=dh.kp b0;replace di:=di.kp b0;replace dj:=dj.kp b0;exact ⟨bn,by omega,rfl,⟨_,_,_,_,_,_,_,_,_,_,_,_,_,_,_,_,_,_,_,_,rfl,hm,ab,ad,ae,af,cy,dg,dh,di,dj,gc,rfl⟩⟩
  cases hm;exact ⟨rfl,_,_,_,rfl,ab.fin (cm [(4,c1)]),ab.fo aj⟩
theorem Zlb {a b:Rat}:Vd a b≤0↔a≤b:=by
 rw [Vd,← Rat.not_lt]
 by_cases h:a<b
 ·rw [if_pos h];exact ⟨fun _ g=>absurd (Rat.le_of_lt h) (Rat.not_le.2 g),fun _=>by decide⟩
 ·rw [if_neg h]
  by_cases g:b<a
  ·rw [if_pos g];exact ⟨fun e=>absurd e (by decide),fun e=>absurd g e⟩
  ·rw [if_neg g];exact ⟨fun _=>g,fun _=>by decide⟩
theorem Zjd {a b:Rat}:Vd a b<0↔a<b:=by
 rw [Vd]
 by_cases h:a<b
 ·rw [if_pos h];exact ⟨fun _=>h,fun _=>by decide⟩
 ·rw [if_neg h]
  by_cases g:b<a
  ·rw [if_pos g];exact ⟨fun e=>absurd e (by decide),fun e=>absurd e h⟩
  ·rw [if_neg g];exact ⟨fun e=>absurd e (by decide),fun e=>absurd e h⟩
def U5 (c:Rat×Rat→Bool):List (Rat×Rat)→Nat→Int
 | [],_=> -1
 | p :: l,k=>if c p=true then (k:Int) else U5 c l (k+1)
def W5 (c:Rat×Rat→Bool):List (Rat×Rat)→Nat→Int→Int
 | [],_,f=>f
 | p :: l,k,f=>W5 c l (k+1) (if c p=true then (k:Int) else f)
theorem Zqd (c:Rat×Rat→Bool):∀ (l:List (Rat×Rat)) (k:Nat),U5 c l k<((k+l.length:Nat):Int)
 | [],k=>by rw [U5];omega
 | p :: l,k=>by
  have:=Zqd c l (k+1)
  rw [U5,List.length_cons]
  split
  ·omega
  ·omega
theorem Zy6 (c:Rat×Rat→Bool):Zl5 fun P=>U5 c P 0:=fun P=>by have:=Zqd c P 0;rwa [Nat.zero_add] at this
theorem Zrf (c:Rat×Rat→Bool):∀ (l:List (Rat×Rat)) (k:Nat) (f:Int),f<((k+l.length:Nat):Int)→W5 c l k f<((k+l.length:Nat):Int)
 | [],k,f,h=>h
 | p :: l,k,f,h=>by
  rw [List.length_cons] at h ⊢
  have:=Zrf c l (k+1) (if c p=true then (k:Int) else f) (by split <;> omega)
  rw [W5];omega
theorem Zzz (c:Rat×Rat→Bool):Zl5 fun P=>W5 c P 0 (-1):=fun P=>by have:=Zrf c P 0 (-1) (by omega);rwa [Nat.zero_add] at this
theorem Zm5 {c:Rat×Rat→Bool}:∀ (l:List (Rat×Rat)) (k:Nat) (f:Int),(∀ p ∈ l,c p=false)→W5 c l k f=f
 | [],k,f,_=>rfl
 | p :: l,k,f,h=>by rw [W5,h p List.mem_cons_self,if_neg (by decide)];exact Zm5 l _ _ fun q hq=>h q (List.mem_cons_of_mem _ hq)
theorem Zqf {c:Rat×Rat→Bool}:∀ (l:List (Rat×Rat)) (k:Nat),(∀ p ∈ l,c p=false)→U5 c l k= -1
 | [],k,_=>rfl
 | p :: l,k,h=>by rw [U5,h p List.mem_cons_self,if_neg (by decide)];exact Zqf l _ fun q hq=>h q (List.mem_cons_of_mem _ hq)
theorem Zzl {long a:Rat} {x:QV} (hl:0≤long) (hx:0≤Zr x):a≤a+long * Zr x:=by
 have h1:=Rat.add_le_add_left (c:=a) |>.2 (Rat.mul_nonneg hl hx)
 rwa [Rat.add_zero] at h1
theorem Znk {long:Rat} (hl:0≤long):∀ (t:List QV) (a:Rat),(∀ x ∈ t,0≤Zr x)→∀ p ∈ Yd long t a,a≤p.1∧p.1≤p.2
 | [],a,_,p,hp=>by rw [Yd] at hp;cases hp
 | x :: t,a,ht,p,hp=>by
  have h1:=Zzl (a:=a) hl (ht x List.mem_cons_self)
  rw [Yd] at hp
  rcases List.mem_cons.1 hp with rfl | hp
  ·exact ⟨Rat.le_refl,h1⟩
  ·obtain ⟨h2,h3⟩:=Znk hl t _ (fun y hy=>ht y (List.mem_cons_of_mem _ hy)) p hp
   exact ⟨Rat.le_trans h1 h2,h3⟩
def Us (x:Rat×Rat) (p:Rat×Rat):Bool:=decide (p.1≤x.1)&&decide (x.1<p.2)&&decide (x.2≤p.2)
theorem Zab {x p:Rat×Rat}:Us x p=true↔p.1≤x.1∧x.1<p.2∧x.2≤p.2:=by simp [Us,and_assoc]
structure Zl3 (x:Rat×Rat) (c:Rat×Rat→Bool):Prop where
 same:∀ p,p.1≤x.1→c p=Us x p
 far:∀ p,x.1<p.2→c p=false→∀ q,x.1<q.1→c q=false
theorem Zqe {x:Rat×Rat} {c:Rat×Rat→Bool} (h:Zl3 x c) {long:Rat} (hl:0≤long):∀ (t:List QV) (a:Rat) (k:Nat),(∀ y ∈ t,0≤Zr y)→a≤x.1→U5 c (Yd long t a) k=W5 (Us x) (Yd long t a) k (-1)
 | [],a,k,_,_=>rfl
 | y :: t,a,k,ht,ha=>by
  have ht':∀ z ∈ t,0≤Zr z:=fun z hz=>ht z (List.mem_cons_of_mem _ hz)
  have hge:=Znk hl t (a+long * Zr y) ht'
  rw [Yd,U5,W5]
  have hs:=h.same (a,a+long * Zr y) ha
  by_cases hc:c (a,a+long * Zr y)=true
  ·rw [if_pos hc,if_pos (hs ▸ hc),Zm5]
   intro p hp
   have h1:=(Zab.1 (hs ▸ hc)).2.1
   rw [Bool.eq_false_iff]
   intro g
   exact absurd (Zab.1 g).1 (Rat.not_le.2 (Std.lt_of_lt_of_le h1 (hge p hp).1))
  ·rw [if_neg hc,if_neg (hs ▸ hc)]
   by_cases hx:a+long * Zr y≤x.1
   ·exact Zqe h hl t _ (k+1) ht' hx
   ·have hx:=Rat.not_le.1 hx
    rw [Zqf,Zm5]
    ·intro p hp
     rw [Bool.eq_false_iff]
     intro g
     exact absurd (Zab.1 g).1 (Rat.not_le.2 (Std.lt_of_lt_of_le hx (hge p hp).1))
    ·intro p hp
     exact h.far _ hx (by simpa using hc) p (Std.lt_of_lt_of_le hx (hge p hp).1)
theorem Zrg {c:Rat×Rat→Bool}:∀ (l:List (Rat×Rat)) (k:Nat) (f:Int),W5 c l k f=f∨∃ j,∃ h:j<l.length,W5 c l k f=((k+j:Nat):Int)∧c l[j]=true
 | [],k,f=>.inl rfl
 | p :: l,k,f=>by
  rw [W5]
  rcases Zrg (c:=c) l (k+1) (if c p=true then (k:Int) else f) with h | ⟨j,hj,h1,h2⟩
  ·rw [h]
   by_cases hc:c p=true
   ·rw [if_pos hc];exact .inr ⟨0,by simp,by omega,hc⟩
   ·rw [if_neg hc];exact .inl rfl
  ·exact .inr ⟨j+1,by simpa using hj,by rw [h1];omega,h2⟩
section
variable {N W K:Nat} {n:Xq} (hf:V7 N n) {ord:List Int} (ho:Zcn n.2.2.2.1 ord)
include hf ho
theorem Zpz {x:Rat×Rat} {c:Rat×Rat→Bool} (h:Zl3 x c):∀ (l w:List Int) (s:Rat×Rat),(∀ y ∈ l,y ∈ ord)→s.1≤x.1→s.1≤s.2→
  Ub n (fun P=>U5 c P 0) l w s=Ub n (fun P=>W5 (Us x) P 0 (-1)) l w s
 | [],w,s,_,_,_=>rfl
 | v :: l,w,s,he,h1,h2=>by
  have hvr:=ho.rg v (he v List.mem_cons_self)
  rw [hf.ev.p] at hvr
  have hent:∀ y ∈ Xt n w v.toNat,0≤Zr y:=fun y hy=>(hf.ent (v:=v.toNat) (by omega) y (Zi8 hy)).1
  have hlong:0≤s.2 - s.1:=by rw [Rat.le_iff_sub_nonneg] at h2;exact h2
  have hfl:=Zqe h hlong (Xt n w v.toNat) s.1 0 hent h1
  rw [Ub,Ub,hfl]
  split
  ·rfl
  ·rename_i hneg
   rcases Zrg (c:=Us x) (Yd (s.2 - s.1) (Xt n w v.toNat) s.1) 0 (-1) with e | ⟨j,hj,e1,e2⟩
   ·rw [e] at hneg;exact absurd (by decide) hneg
   ·have hm:(Yd (s.2 - s.1) (Xt n w v.toNat) s.1)[j] ∈ Yd (s.2 - s.1) (Xt n w v.toNat) s.1:=List.getElem_mem hj
    rw [e1,Nat.zero_add,Int.toNat_natCast,Yj hj]
    exact Zpz h l _ _ (fun y hy=>he y (List.mem_cons_of_mem _ hy)) (Zab.1 e2).1 (Znk hlong _ _ hent _ hm).2
end
/-! the document's loops -/
abbrev Zoj:=Option Ra
section
variable {N K:Nat} (hr:Xc N (8 * K+40)) {x:Rat×Rat} {X:QV×QV} (q1:RV K X.1) (q2:RV K X.2) (v1:Zr X.1=x.1) (v2:Zr X.2=x.2)
include hr q1 q2 v1 v2
theorem Zq1 (i:Int) (w:List Int) (kk:Int→List Int→Bool→List Int→List Int→Bool→List Int→List Int→Zoj) (e:Int) (P:List (Rat×Rat)) (hP:∀ p ∈ P,qs p.1≤K∧qs p.2≤K) (hl:P.length≤65536) (F:Int→Zoj)
  (hF:∀ g:Int,(if decide (g<0)=true then some (([]:List Int),false) else (Zk w e).bind fun _=>(some (w.set (Int.toNat e) g)).bind fun xs=>(Zk (P.map Yp) g).bind fun y=>kk (i64.wrap (i+1)) xs y.1.1.1 y.1.1.2 y.1.2 y.2.1.1 y.2.1.2 y.2.2)=F g):
  ∀ (l:List (Rat×Rat)) (f k:Nat) (g:Int),P.drop k=l→k≤P.length→P.length<f+k→Sh N X i w kk e (P.map Yp) f g (k:Int)=F (W5 (Us x) l k g)
 | l,0,k,g,_,h1,h2=>by omega
 | [],f+1,k,g,hd,h1,h2=>by
  have h3:=List.drop_eq_nil_iff.1 hd
  rw [Sh.eq_2,if_neg (by rw [decide_eq_false (by rw [List.length_map];omega)];decide),hF,W5]
 | p :: l,f+1,k,g,hd,h1,h2=>by
  have hk:k<P.length:=by
   rcases Nat.lt_or_ge k P.length with h | h
   ·exact h
   ·rw [List.drop_eq_nil_of_le h] at hd;cases hd
  rw [List.drop_eq_getElem_cons hk] at hd
  obtain ⟨e1,e2⟩:=List.cons.inj hd
  have hp:=hP p (e1 ▸ List.getElem_mem hk)
  have ha:Zk (P.map Yp) (k:Int)=some (Yp p):=by rw [Zm9 hk,Yj hk,e1]
  have c1:U9 N (((Yp p).1.1.1,(Yp p).1.1.2),(Yp p).1.2) ((X.1.1.1,X.1.1.2),X.1.2)=some (Vd p.1 x.1):=by
   have:=Zhc (Vl hp.1) q1 (hr.mono (by omega))
   rwa [Wt,v1] at this
  have c2:U9 N ((X.1.1.1,X.1.1.2),X.1.2) (((Yp p).2.1.1,(Yp p).2.1.2),(Yp p).2.2)=some (Vd x.1 p.2):=by
   have:=Zhc q1 (Vl hp.2) (hr.mono (by omega))
   rwa [Wt,v1] at this
  have c3:U9 N ((X.2.1.1,X.2.1.2),X.2.2) (((Yp p).2.1.1,(Yp p).2.1.2),(Yp p).2.2)=some (Vd x.2 p.2):=by
   have:=Zhc q2 (Vl hp.2) (hr.mono (by omega))
   rwa [Wt,v2] at this
  have ih:=fun g=>Zq1 i w kk e P hP hl F hF l f (k+1) g e2 (by omega) (by omega)
  rw [Sh.eq_2,if_pos (decide_eq_true (by rw [List.length_map];omega)),ha,Option.bind_some,c1,Option.bind_some,W5]
  by_cases a1:p.1≤x.1
  ·rw [if_pos (decide_eq_true (Zlb.2 a1)),c2,Option.bind_some,Zg3]
   by_cases a2:x.1<p.2
   ·rw [if_pos (decide_eq_true (Zjd.2 a2)),ha,Option.bind_some,c3,Option.bind_some,Zeh]
    by_cases a3:x.2≤p.2
    ·rw [if_pos (decide_eq_true (Zlb.2 a3)),Zca,wS (by omega),ih,if_pos (Zab.2 ⟨a1,a2,a3⟩)]
    ·rw [if_neg (by rw [decide_eq_false (fun e=>a3 (Zlb.1 e))];decide),Zca,wS (by omega),ih,if_neg (fun e=>a3 (Zab.1 e).2.2)]
   ·rw [if_neg (by rw [decide_eq_false (fun e=>a2 (Zjd.1 e))];decide),Zeh,if_neg (by decide),Zca,wS (by omega),ih,if_neg (fun e=>a2 (Zab.1 e).2.1)]
  ·rw [if_neg (by rw [decide_eq_false (fun e=>a1 (Zlb.1 e))];decide),Zg3,if_neg (by decide),Zeh,if_neg (by decide),Zca,wS (by omega),ih,if_neg (fun e=>a1 (Zab.1 e).1)]
end
section
variable {N W K:Nat} {n:Xq} (hf:V7 N n) (hs:Ur n W) (hr:Xc N (8 * K+40)) (hWK:W≤K) (hN:1048577<N) {ord:List Int} (ho:Zcn n.2.2.2.1 ord) (hol:ord.length≤1024)
variable {x:Rat×Rat} {X:QV×QV} (q1:RV K X.1) (q2:RV K X.2) (v1:Zr X.1=x.1) (v2:Zr X.2=x.2)
include hf hs hr hWK hN ho hol q1 q2 v1 v2
theorem Zq0 (er:Int):∀ (l:List Int) (f i:Nat) (w:List Int) (s:Rat×Rat) (D M:Nat),ord.drop i=l→i≤ord.length→ord.length<f+i→Vv n w→U3 D M s→(Ze M).length+(Ze D).length+l.length * (W+2)+2≤K→
  Tp N n X (ord,er) f (i:Int) w (Zw s.1).1.1 (Zw s.1).1.2 (Zw s.1).2 (Zw s.2).1.1 (Zw s.2).1.2 (Zw s.2).2=Zms (Ub n (fun P=>W5 (Us x) P 0 (-1)) l w s)
 | l,0,i,w,s,D,M,_,h1,h2,_,_,_=>by omega
 | [],f+1,i,w,s,D,M,hd,h1,h2,hw,hL,hK=>by
  have:=List.drop_eq_nil_iff.1 hd
  rw [Tp.eq_2,if_neg (by rw [decide_eq_false (by rw [show ((ord,er):List Int×Int).1=ord from rfl];omega)];decide)]
  rfl
 | v :: l,f+1,i,w,s,D,M,hd,h1,h2,hw,hL,hK=>by
  have hi:i<ord.length:=by
   rcases Nat.lt_or_ge i ord.length with h | h
   ·exact h
   ·rw [List.drop_eq_nil_of_le h] at hd;cases hd
  rw [List.drop_eq_getElem_cons hi] at hd
  obtain ⟨e1,e2⟩:=List.cons.inj hd
  have hvr:=ho.rg v (e1 ▸ List.getElem_mem hi)
  rw [hf.ev.p] at hvr
  obtain ⟨k,rfl⟩:∃ k:Nat,v=(k:Int):=⟨v.toNat,by omega⟩
  have hv:k<n.2.1.length:=by omega
  obtain ⟨D',M',c1,c2,c3⟩:=Zm7 hf hs hw hv hL
  have hKs:(l.length+1) * (W+2)=l.length * (W+2)+(W+2):=by rw [Nat.add_mul,Nat.one_mul]
  rw [List.length_cons,hKs] at hK
  have hcl:cnt n k≤65536:=by have:=(hf.row hw hv).1;have:=hf.rows hv;omega
  have hP:Zg4 N (n.1,n.2.1,n.2.2.1,n.2.2.2.1,n.2.2.2.2) (k:Int) w ((((Zw s.1).1.1,(Zw s.1).1.2),(Zw s.1).2),(((Zw s.2).1.1,(Zw s.2).1.2),(Zw s.2).2))=some ((Yd (s.2 - s.1) (Xt n w k) s.1).map Yp):=Z19 hf hs hr hWK hN hw hv hL (by omega)
  rw [Tp.eq_2,if_pos (decide_eq_true (by rw [show ((ord,er):List Int×Int).1=ord from rfl];omega)),show ((ord,er):List Int×Int).1=ord from rfl,Zx hi,e1,Option.bind_some,hP,Option.bind_some]
  have hlen:(Yd (s.2 - s.1) (Xt n w k) s.1).length=cnt n k:=by rw [Znj,hf.rowT_len hw hv]
  have h3:=Zq1 hr q1 q2 v1 v2 (i:Int) w (Tp N n X (ord,er) f) (k:Int) (Yd (s.2 - s.1) (Xt n w k) s.1) (fun p hp=>⟨by have:=(c2 p hp).qa;omega,by have:=(c2 p hp).qb;omega⟩) (by omega) _ (fun _=>rfl) (Yd (s.2 - s.1) (Xt n w k) s.1) N 0 (-1) rfl (Nat.zero_le _) (by omega)
  rw [show ((0:Nat):Int)=0 from rfl] at h3
  rw [h3,Ub,Int.toNat_natCast]
  have hfit:=Zzz (Us x) (Yd (s.2 - s.1) (Xt n w k) s.1)
  by_cases hneg:W5 (Us x) (Yd (s.2 - s.1) (Xt n w k) s.1) 0 (-1)<0
  ·rw [if_pos (decide_eq_true hneg),if_pos hneg];rfl
  ·obtain ⟨q,hq⟩:∃ q:Nat,W5 (Us x) (Yd (s.2 - s.1) (Xt n w k) s.1) 0 (-1)=(q:Int):=⟨(W5 (Us x) (Yd (s.2 - s.1) (Xt n w k) s.1) 0 (-1)).toNat,by omega⟩
   simp only [hq] at hfit ⊢
   have hql:q<(Yd (s.2 - s.1) (Xt n w k) s.1).length:=by omega
   rw [if_neg (by rw [decide_eq_false (by omega)];decide),if_neg (by omega),Zm9 hql,Vw 0 (by rw [hw.len];exact hv),Option.bind_some,Option.bind_some,Option.bind_some,Int.toNat_natCast,wS (by omega)]
   exact Zq0 er l f (i+1) (w.set k q) _ D' M' e2 (by omega) (by omega) (hw.set (by omega)) (c2 _ (Zr6 hql)) (by omega)
end
section
variable {N W K:Nat} {n:Xq} (hf:V7 N n) (hs:Ur n W) (hr:Xc N (8 * K+40)) (hWK:1025 * (W+2)+4≤K) (hN:1048577<N) {ord:List Int} (ho:Zcn n.2.2.2.1 ord) (hol:ord.length≤1024)
variable {x:Rat×Rat} {X:QV×QV} (q1:RV K X.1) (q2:RV K X.2) (v1:Zr X.1=x.1) (v2:Zr X.2=x.2)
include hf hs hr hWK hN ho hol q1 q2 v1 v2
theorem Zzo {er:Int} (hO:Zgk N n.2.2.2.1=some (ord,er)):Zg2 N n X=Zms (Ub n (fun P=>W5 (Us x) P 0 (-1)) ord (List.replicate n.2.1.length 0) (0,1)):=by
 have hnm:=hf.le
 have hmul:ord.length * (W+2)≤1024 * (W+2):=Nat.mul_le_mul_right _ hol
 have h1:(Ze 1).length=1:=by rw [U8];rfl
 have h:=Zq0 hf hs hr (by omega) hN ho hol q1 q2 v1 v2 er ord N 0 (List.replicate n.2.1.length 0) (0,1) 1 1 rfl (Nat.zero_le _) (by omega) (Vv.zero hf.ev) U3.zero (by omega)
 rw [Zg2,hO,Option.bind_some,Z4 (by simp only [maxLen];omega),Z1r (hr.mono (by omega)),Option.bind_some]
 exact h
end
def Zc0 (N:Nat) (aa:R1):List (R1×R1)→Nat→Option Int
  | [],ab=>some (-1)
  | ac :: ad,ab=>(Qq N ((aa.1.1,aa.1.2),aa.2) ((ac.2.1.1,ac.2.1.2),ac.2.2)).bind fun ae=>if (decide (ae<0))=true then (some (ab:Int)) else ((Zc0 N aa ad) (ab+1))
termination_by structural x=>x
def Zkk (N:Nat) (ac:Int) (aa:Rg) (ab:R1):Option Int:=
  Zc0 N ab aa 0
theorem Zwm (N:Nat) (col:Zd) (w0:World) (qc2:Nat) (hqqc2:qc2≠0) (aw:Int) (a1:Option Addr) (ax:Nat) (ad:Rg) (g2:Nat) (ab:R1) (ak:Option Addr) (al:Nat) (am:Option Addr) (an:Nat) (h1:Sl (Za.pair (Za.pair (Za.pair Za.bool (Za.slice (Za.int .u32))) (Za.slice (Za.int .u32))) (Za.pair (Za.pair Za.bool (Za.slice (Za.int .u32))) (Za.slice (Za.int .u32)))) col w0 a1 ax ad) (ao:Sl (Za.int .u32) col w0 ak al ab.1.2) (ap:Sl (Za.int .u32) col w0 am an ab.2) (hb2:Zm 47 qc2 col w0 g2 #[.bool ab.1.1,.slice ak ab.1.2.length al,.slice am ab.2.length an]) (r:Int) (hm:Zkk N aw ad ab=some r):
    Calls Tryz.prog 98 #[.int .i64 aw,.slice a1 ad.length ax,.pointer (some ⟨g2,0,none⟩)] w0 (fun e w'=>e= .returned ((.int .i64 r))∧Below w0.heap.size w0 w'):=by
 refine Xe 5 (m:=22) func98 rfl rfl rfl rfl rfl ?_;rw [Zkk.eq_1] at hm;have aa:=St.start col w0;replace hb2:=hb2.start0 hqqc2;refine go ?_;refine Z0 [2,8,9,1000000] (fun n f aq=>∃ ag ae af,n=af.length∧ad.drop ae=af∧Zc0 N ab af ae=some r∧St w0 (Zi col) ag aq∧Zm 47 999 ag aq g2 #[.bool ab.1.1,.slice ak ab.1.2.length al,.slice am ab.2.length an]∧[10].map f=[.int .i64 ae]) ad.length ⟨_,0,_,rfl,rfl,hm,aa,hb2,rfl⟩ ?_;clear hm;intro n f aq hI;obtain ⟨ag,ae,af,hn,hl,hm,aa,hb2,hs⟩:=hI;subst hn;refine .lL [10] hs ?_;replace h1:=h1.keep (Zj.start col w0);replace ao:=ao.keep (Zj.start col w0);replace ap:=ap.keep (Zj.start col w0)
 cases af with
 | nil=>
  have hk:¬ ((ae:Int)<(ad.length:Int)):=by have:=List.drop_eq_nil_iff.1 hl;omega
  have hkb:=decide_eq_false hk;rw [Zc0.eq_1] at hm;refine go ?_;refine Y0 (congrArg Value.bool hkb)<|go ?_;cases hm;exact ⟨rfl,rfl,aa.below⟩
 | cons ac a4=>
  obtain ⟨ar,a5,a6⟩:=Y5 hl;have hk:(ae:Int)<(ad.length:Int):=by omega
  have hkb:=decide_eq_true hk;rw [Zc0.eq_2] at hm;refine go ?_;refine Y1 (congrArg Value.bool hkb)<|go ?_;refine lI ar ((h1.ks aa).addr ar) ?_;obtain ⟨_,a7,a8⟩:=(h1.ks aa).atN ar;obtain ⟨_,_,rfl,a9,ba⟩:=Ym a7;obtain ⟨_,_,rfl,bb,bc⟩:=Ym a9;obtain ⟨_,_,rfl,bd,be⟩:=Ym bb;obtain ⟨rfl,_⟩:=bd;obtain ⟨⟨bf,bg,rfl,bu⟩,_⟩:=be;obtain ⟨⟨bh,bi,rfl,bv⟩,_⟩:=bc;obtain ⟨_,_,rfl,bj,bk⟩:=Ym ba;obtain ⟨_,_,rfl,bm,bn⟩:=Ym bj;obtain ⟨rfl,_⟩:=bm;obtain ⟨⟨ay,az,rfl,au⟩,_⟩:=bn;obtain ⟨⟨a0,a2,rfl,av⟩,_⟩:=bk;refine lV (.agg #[.bool ac.1.1.1,.slice bf ac.1.1.2.length bg,.slice bh ac.1.2.length bi,.bool ac.2.1.1,.slice ay ac.2.1.2.length az,.slice a0 ac.2.2.length a2]) (Xv isAgg49 sizeOf49 rfl rfl a8)<|Xr (col:=ag) #[.bool false,.slice none (([]:List Int).length) 0,.slice none (([]:List Int).length) 0,.bool false,.slice none (([]:List Int).length) 0,.slice none (([]:List Int).length) 0] 1 zeroValue49 ?_;intro bw bx a3 ah bo;refine Yw rfl<|Z9 bo ?_;intro bp ai bq br;refine go ?_;replace hb2:=(hb2.gr ah).kp ai;refine lV _ (Z8 isAgg47 sizeOf47 hb2)<|Xb ⟨_,_,rfl⟩ ?_;refine lV (.agg #[.bool ac.2.1.1,.slice ay ac.2.1.2.length az,.slice a0 ac.2.2.length a2]) (Xv isAgg47 sizeOf47 rfl rfl ((br.atN).part 3 3 _ rfl)) ?_;obtain ⟨bz,bs,hm⟩:=bZ hm;replace au:=(au.gr ah).kp ai;replace av:=(av.gr ah).kp ai;replace aa:=(aa.grow ah).kp ai bq;refine Zh (Zj3 bs (ao.ks aa) (ap.ks aa) au av) ?_;rintro _ bt ⟨rfl,aj⟩;refine ⟨_,rfl,?_⟩;replace aj:Zf a3 bp a3 bt:=.of_below aj;refine go ?_;replace hb2:=hb2.gr aj;replace aa:=aa.grow aj;refine Zp hm (fun hb hm=>go ?_) fun hb hm=>go ?_
  ·cases hm;exact ⟨rfl,rfl,aa.below⟩
  exact ⟨a4.length,by simp,rfl,⟨_,_,_,rfl,a5,hm,aa,hb2,(We (congrArg (Value.int .i64) (Y9 (Nat.lt_of_lt_of_le a6 (h1.ks aa).1.1))) rfl)⟩⟩
def Zc2 (N:Nat) (ai:R0) (aj:Bool) (ak:List Int) (al:List Int) (ar:Bool) (au:List Int) (av:List Int) (aw:Bool) (ax:List Int) (ay:List Int) (am:List Int) (kk_L1:(Bool→R2→R2→Bool→R2→R2→Bool→R2→R2→Bool→R2→R2→Bool→R2→R2→R2→Option Rf)) (ab:Int) (az:Int) (ae:R1) (a0:List ByteArray):Nat→Bool→R2→R2→Rg→Int→Option Rf
  | 0,_,_,_,_,_=>none
  | a1+1,af,ag,ah,ad,an=>if (decide (an<(a0.length:Int)))=true then ((Zk ai.2.2.2.2 ab).bind fun a2=>(Zk ai.2.2.1 ab).bind fun a3=>(Zk a2 (i64.wrap ((i64.wrap (az * (a3.length:Int)))+an))).bind fun ao=>(Zc3 N ((ae.1.1,ae.1.2),ae.2) ((ao.1.1,ao.1.2),ao.2)).bind fun ap=>(Zbg N ((af,ag),ah) ((ap.1.1,ap.1.2),ap.2)).bind fun aa=>Zv ((ad.length+[(((af,ag),ah),((aa.1.1,aa.1.2),aa.2))].length) * 112≤140737488355328∧ad.length+[(((af,ag),ah),((aa.1.1,aa.1.2),aa.2))].length≤maxLen) ((Zc2 N ai aj ak al ar au av aw ax ay am kk_L1 ab az ae a0 a1) aa.1.1 aa.1.2 aa.2 (ad++[(((af,ag),ah),((aa.1.1,aa.1.2),aa.2))]) (i64.wrap (an+1)))) else ((Zkk N ab ad ((aj,ak),al)).bind fun aq=>if (decide (aq<0))=true then (some (([]:List Int),(((false,([]:List Int)),([]:List Int)),((false,([]:List Int)),([]:List Int))),false)) else ((Zk ad aq).bind fun ac=>(Zk am ab).bind fun a5=>(some (am.set (Int.toNat ab) aq)).bind fun a4=>kk_L1 ac.1.1.1 ac.1.1.2 ac.1.2 ac.2.1.1 ac.2.1.2 ac.2.2 aj ak al ar au av aw ax ay a4))
termination_by structural x=>x
def Zbc (N:Nat) (aa:R0) (ab:Bool) (ac:List Int) (ad:List Int) (ah:Bool) (ai:List Int) (aj:List Int) (ak:Bool) (al:List Int) (am:List Int) (an:Bool) (ao:List Int) (ap:List Int) (aq:Bool) (ar:List Int) (au:List Int) (ae:List Int) (kk_L1:(Bool→R2→R2→Bool→R2→R2→Bool→R2→R2→Bool→R2→R2→Bool→R2→R2→R2→Option Rf)) (af:Int):List Int→Int→Option Rf
  | [],ag=>(Zc4 N ((ah,ai),aj) ((ab,ac),ad)).bind fun aw=>(Zk aa.2.2.1 af).bind fun ax=>Zc2 N aa ak al am an ao ap aq ar au ae kk_L1 af ag aw ax N ab ac ad ([]:List (R1×R1)) 0
  | av :: ay,ag=>(Zk aa.2.2.1 av).bind fun az=>(Zk ae av).bind fun a0=>(Zbc N aa ab ac ad ah ai aj ak al am an ao ap aq ar au ae kk_L1 af ay) (i64.wrap ((i64.wrap (ag * (az.length:Int)))+a0))
termination_by structural x=>x
def S0 (N:Nat) (aa:R0):List Int→Bool→R2→R2→Bool→R2→R2→Bool→R2→R2→Bool→R2→R2→Bool→R2→R2→R2→Option Rf
  | [],ab,ac,ad,ae,af,ag,ai,aj,ak,al,am,an,ao,ap,aq,ah=>some (ah,(((ab,ac),ad),((ae,af),ag)),true)
  | ar :: au,ab,ac,ad,ae,af,ag,ai,aj,ak,al,am,an,ao,ap,aq,ah=>(Zk aa.2.2.2.1 ar).bind fun av=>Zbc N aa ab ac ad ae af ag ai aj ak al am an ao ap aq ah (S0 N aa au) ar av 0
termination_by structural x=>x
def Ze7 (N:Nat) (aa:R0) (ae:List Int) (ab:R1):Option Rf:=
  Zv (aa.2.1.length * 8≤281474976710656∧aa.2.1.length≤maxLen) ((Zc5 N ([]:List R1)).bind fun ac=>(Ze8).bind fun ad=>S0 N aa ae ac.1.1 ac.1.2 ac.2 ad.1.1 ad.1.2 ad.2 ab.1.1 ab.1.2 ab.2 false ([]:List Int) ([]:List Int) false ([]:List Int) ([]:List Int) (List.replicate aa.2.1.length (0:Int)))
theorem Zwn {N d3 da d4 db ft g3 fu fv:Nat} {d5 cu d6 cv a1 fw fx:Option Addr} {col:Zd} {w0:World} {ag:R0} {dc:R2} {dz:R1} {r:Rf} (c1 qc3:Nat) (hm:Ze7 N ag dc dz=some r) (hqqc3:qc3≠0) (jb:Sl Za.str col w0 d5 d3 ag.2.1) (cw:Sl (Za.slice Za.str) col w0 cu da ag.2.2.1) (eh:Sl (Za.slice (Za.int .i64)) col w0 d6 d4 ag.2.2.2.1) (ei:Sl (Za.slice (Za.pair (Za.pair Za.bool (Za.slice (Za.int .u32))) (Za.slice (Za.int .u32)))) col w0 cv db ag.2.2.2.2) (h1:Sl (Za.int .i64) col w0 a1 ft dc) (er:Sl (Za.int .u32) col w0 fw fu dz.1.2) (es:Sl (Za.int .u32) col w0 fx fv dz.2) (hb3:Zm 47 qc3 col w0 g3 #[.bool dz.1.1,.slice fw dz.1.2.length fu,.slice fx dz.2.length fv]):
    Calls Tryz.prog 90 #[(.agg #[.string ag.1,.slice d5 ag.2.1.length d3,.slice cu ag.2.2.1.length da,.slice d6 ag.2.2.2.1.length d4,.slice cv ag.2.2.2.2.length db]),.slice a1 dc.length ft,(.func (.func 98) #[] #[.pointer (some ⟨g3,0,none⟩)])] w0 (fun e w'=>∃ (col':Zd) (ra1:Option Addr) (rc2:Nat) (ra4:Option Addr) (rc5:Nat) (ra7:Option Addr) (rc8:Nat) (ra10:Option Addr) (rc11:Nat) (ra13:Option Addr) (rc14:Nat),e= .returned (.tuple #[.slice ra1 r.1.length rc2,(.agg #[.bool r.2.1.1.1.1,.slice ra4 r.2.1.1.1.2.length rc5,.slice ra7 r.2.1.1.2.length rc8,.bool r.2.1.2.1.1,.slice ra10 r.2.1.2.1.2.length rc11,.slice ra13 r.2.1.2.2.length rc14]),.bool r.2.2])∧Zf col w0 col' w'∧Zc (Za.int .i64) 3 c1 col' w' ra1 rc2 r.1∧Sl (Za.int .u32) col' w' ra4 rc5 r.2.1.1.1.2∧Sl (Za.int .u32) col' w' ra7 rc8 r.2.1.1.2∧Sl (Za.int .u32) col' w' ra10 rc11 r.2.1.2.1.2∧Sl (Za.int .u32) col' w' ra13 rc14 r.2.1.2.2):=by
 refine Yi (m:=122) func90 rfl rfl rfl ?_;rw [Ze7.eq_1] at hm;have aa:=St.start col w0;replace hb3:=hb3.start0 hqqc3;refine go ?_;refine Xf (col:=(Zi col)) 1 rfl ?_;intro d7 jc f2 fy ab;refine U7 rfl<|Xr (col:=f2) #[.bool false,.slice none (([]:List Int).length) 0,.slice none (([]:List Int).length) 0,.bool false,.slice none (([]:List Int).length) 0,.slice none (([]:List Int).length) 0] 2 zeroValue49 ?_;intro et f3 f4 eu ac;refine go ?_;refine Xb ⟨_,_,rfl⟩ ?_;replace ab:=ab.gr eu;refine lW ((ab.atN).nth (q:=1) rfl)<|go ?_;obtain ⟨fz,hm⟩:=Zy hm;refine Sy (col:=f4) (w:=f3) (r:=(Za.int .i64)) (n:=ag.2.1.length) (x0:=0) 3 rfl underlying40 Tryz.t3 rfl rfl rfl rfl rfl rfl rfl fz.1 fz.2 (Q2 .i64 0) ?_;intro jd je f5 ej bv;refine go ?_;obtain ⟨ew,f6,hm⟩:=bZ hm;refine Zh (Zov (col:=f5) 4 5 f6 Sl.nil) ?_;rintro _ jf ⟨f7,f8,f9,ga,gb,rfl,d8,bw,bx⟩;refine ⟨_,rfl,?_⟩;obtain ⟨ey,gc,hm⟩:=bZ hm;refine lc rfl rfl (Za0 call97) (Zoq (col:=f7) 6 7 gc:) ?_;rintro _ jg ⟨gd,ge,gf,gg,gh,rfl,dd,bz,b0⟩;refine ⟨_,rfl,?_⟩;refine lV (.agg #[.bool ew.1.1,.slice f8 ew.1.2.length f9,.slice ga ew.2.length gb,.bool ey.1.1,.slice ge ey.1.2.length gf,.slice gg ey.2.length gh]) (Wc (l:=[_,_]) (qs:=[(0,3),(3,3)]) underlying49 zeroValue49 ⟨rfl,sizeOf47,rfl,sizeOf47,trivial⟩ rfl)<|Xr (col:=gd) #[.bool false,.slice none (([]:List Int).length) 0,.slice none (([]:List Int).length) 0,.bool false,.slice none (([]:List Int).length) 0,.slice none (([]:List Int).length) 0] 8 zeroValue49 ?_;intro ez jh ji ci gi;refine Z9 gi ?_;intro jj cj gj ad;refine go ?_;replace bv:=(((bv.gr d8).gr dd).gr ci).kp cj;replace bv:=bv.froz 4 (by decide);replace bw:=((bw.gr dd).gr ci).kp cj;replace bw:=(bw).toSlF (Zn.int .u32);replace bx:=((bx.gr dd).gr ci).kp cj;replace bx:=bx.froz 4 (by decide);replace bz:=(bz.gr ci).kp cj;replace bz:=bz.froz 4 (by decide);replace b0:=(b0.gr ci).kp cj;replace b0:=b0.froz 4 (by decide);replace hb3:=((((((hb3.gr fy).gr eu).gr ej).gr d8).gr dd).gr ci).kp cj;replace hb3:=hb3.froz 4 (by decide);replace ab:=((((ab.gr ej).gr d8).gr dd).gr ci).kp cj;replace ab:=ab.froz 4 (by decide);replace ac:=((((ac.gr ej).gr d8).gr dd).gr ci).kp cj;replace ac:=ac.froz 4 (by decide);replace ad:=ad.froz 4 (by decide)
 replace aa:=((((((aa.grow fy).grow eu).grow ej).grow d8).grow dd).grow ci).kp cj gj;replace aa:=aa.froz 4 (by decide) (by decide);replace bv:=bv.froz 5 (by decide);replace bw:=bw.froz 5;replace bx:=(bx).toSlF (Zn.int .u32);replace bz:=bz.froz 5 (by decide);replace b0:=b0.froz 5 (by decide);replace hb3:=hb3.froz 5 (by decide);replace ab:=ab.froz 5 (by decide);replace ac:=ac.froz 5 (by decide);replace ad:=ad.froz 5 (by decide);replace aa:=aa.froz 5 (by decide) (by decide);replace bv:=bv.froz 6 (by decide);replace bw:=bw.froz 6;replace bx:=bx.froz 6;replace bz:=(bz).toSlF (Zn.int .u32);replace b0:=b0.froz 6 (by decide);replace hb3:=hb3.froz 6 (by decide);replace ab:=ab.froz 6 (by decide);replace ac:=ac.froz 6 (by decide);replace ad:=ad.froz 6 (by decide);replace aa:=aa.froz 6 (by decide) (by decide);replace bv:=bv.froz 7 (by decide);replace bw:=bw.froz 7;replace bx:=bx.froz 7;replace bz:=bz.froz 7;replace b0:=(b0).toSlF (Zn.int .u32);replace hb3:=hb3.froz 7 (by decide);replace ab:=ab.froz 7 (by decide);replace ac:=ac.froz 7 (by decide);replace ad:=ad.froz 7 (by decide);replace aa:=aa.froz 7 (by decide) (by decide);replace er:=er.keep (Zj.start col w0);replace es:=es.keep (Zj.start col w0)
 refine Z0 [10,2,29,3,30,7,1000000] (fun n f bi=>∃ a6 cx ck cl b1 cn co b2 de cy cz b5 c0 c2 b6 c3 c4 c5 b3 c6 c7 b4 d9 df dg dh b7 di dj b8 dk dl dm b9 dn dp ca dq dr cb ea,n=ea.length∧dc.drop d9=ea∧S0 N ag ea cx b1 b2 de b5 b6 c3 b3 b4 df b7 b8 dk b9 ca cb=some r∧St w0 (Zi col) a6 bi∧Sl (Za.int .u32) a6 bi ck cl b1∧Sl (Za.int .u32) a6 bi cn co b2∧Sl (Za.int .u32) a6 bi cy cz b5∧Sl (Za.int .u32) a6 bi c0 c2 b6∧Zm 49 8 a6 bi ez #[.bool cx,.slice ck b1.length cl,.slice cn b2.length co,.bool de,.slice cy b5.length cz,.slice c0 b6.length c2]∧Sl (Za.int .u32) a6 bi c4 c5 b3∧Sl (Za.int .u32) a6 bi c6 c7 b4∧Zm 47 999 a6 bi g3 #[.bool c3,.slice c4 b3.length c5,.slice c6 b4.length c7]∧Zm 27 1 a6 bi d7 #[.string ag.1,.slice d5 ag.2.1.length d3,.slice cu ag.2.2.1.length da,.slice d6 ag.2.2.2.1.length d4,.slice cv ag.2.2.2.2.length db]∧Zc (Za.int .u32) 79 9 a6 bi dg dh b7∧Zc (Za.int .u32) 79 10 a6 bi di dj b8∧Zc (Za.int .u32) 79 11 a6 bi dl dm b9∧Zc (Za.int .u32) 79 12 a6 bi dn dp ca∧Zm 49 2 a6 bi et #[.bool df,.slice dg b7.length dh,.slice di b8.length dj,.bool dk,.slice dl b9.length dm,.slice dn ca.length dp]∧Zc (Za.int .i64) 3 3 a6 bi dq dr cb∧[31,9].map f=[.int .i64 d9,.slice dq cb.length dr]) dc.length ⟨_,_,_,_,_,_,_,_,_,_,_,_,_,_,_,_,_,_,_,_,_,_,0,_,none,0,_,none,0,_,_,none,0,_,none,0,_,_,_,_,_,rfl,rfl,hm,aa,bw,bx,bz,b0,ad,(er.ks aa),(es.ks aa),hb3,ab,Zc.nil,Zc.nil,Zc.nil,Zc.nil,ac,bv,rfl⟩ ?_;clear hm;intro n f bi hI;obtain ⟨a6,cx,ck,cl,b1,cn,co,b2,de,cy,cz,b5,c0,c2,b6,c3,c4,c5,b3,c6,c7,b4,d9,df,dg,dh,b7,di,dj,b8,dk,dl,dm,b9,dn,dp,ca,dq,dr,cb,ea,hn,hl,hm,aa,ai,aj,ak,al,ad,am,an,hb3,ab,aq,ar,au,av,ac,ah,hs⟩:=hI;subst hn;refine .lL [31,9] hs ?_;replace cw:=cw.keep (Zj.start col w0);replace eh:=eh.keep (Zj.start col w0);replace ei:=ei.keep (Zj.start col w0);replace h1:=h1.keep (Zj.start col w0)
 cases ea with
 | nil=>
  have hk:¬ ((d9:Int)<(dc.length:Int)):=by have:=List.drop_eq_nil_iff.1 hl;omega
  have hkb:=decide_eq_false hk;rw [S0.eq_1] at hm;refine go ?_;refine Y0 (congrArg Value.bool hkb)<|go ?_;refine Y8 (col:=a6) [(0,1),(1,0),(2,1),(3,2),(4,1)] (by kernel_rfl) (by kernel_rfl)<|xu rfl rfl (fun _=>Uz rfl) ?_;refine xv rfl rfl (fun _ hC=>Z8 isAgg49 sizeOf49 (ad.gr (hC.bl a6))) ?_;refine xu rfl rfl (fun _=>r_aS rfl) ?_;refine xe rfl rfl ?_;intro jk hC0;have hC:=hC0.bl a6;replace ac:=ac.gr hC;refine Z9 ac ?_;intro jl d0 gk e0;refine Zl<|xk a6<|xu rfl rfl (fun _=>Zje rfl) ?_;refine Yv ?_;replace ai:=(ai.gr hC).kp d0;replace aj:=(aj.gr hC).kp d0;replace ak:=(ak.gr hC).kp d0;replace al:=(al.gr hC).kp d0;replace ah:=(ah.gr hC).kp d0;replace aa:=(aa.grow hC).kp d0 gk;intro jm hC;replace hC:=hC.bl a6;refine Wa ?_;cases hm;replace ai:=ai.gr hC;replace aj:=aj.gr hC;replace ak:=ak.gr hC;replace al:=al.gr hC;replace ah:=ah.gr hC;replace e0:=e0.gr hC;replace aa:=aa.grow hC;exact ⟨rfl,_,Zue rfl rfl rfl rfl isAgg49 sizeOf49 rfl rfl e0.atN rfl rfl,_,_,_,_,_,_,_,_,_,_,_,rfl,aa.fin (cm [(3,c1)]),aa.fo ah,aa.fs ai,aa.fs aj,aa.fs ak,aa.fs al⟩
 | cons c8 e1=>
  obtain ⟨ds,gl,gm⟩:=Y5 hl;have hk:(d9:Int)<(dc.length:Int):=by omega
  have hkb:=decide_eq_true hk;rw [S0.eq_2] at hm;refine go ?_;refine Y1 (congrArg Value.bool hkb)<|go ?_;refine lI ds ((h1.ks aa).addr ds)<|lW ((h1.ks aa).atInt ds) ?_;refine go ?_;refine Z7 ab<|Xy rfl ?_;obtain ⟨eb,e2,hm⟩:=bZ hm;refine lI e2 ((eh.ks aa).addr e2) ?_;obtain ⟨_,gp,gs⟩:=(eh.ks aa).atN e2;obtain ⟨⟨gt,gu,rfl,c9⟩,_⟩:=gp;refine lW gs.one<|go ?_;refine Z0 [10,12,2,29,3,30,31,39,40,7,9,1000000] (fun n f bf=>∃ a3 cc ec ed,n=ed.length∧eb.drop ec=ed∧Zbc N ag cx b1 b2 de b5 b6 c3 b3 b4 df b7 b8 dk b9 ca cb (S0 N ag e1) c8 ed cc=some r∧St w0 (Zi col) a3 bf∧Sl (Za.int .u32) a3 bf ck cl b1∧Sl (Za.int .u32) a3 bf cn co b2∧Sl (Za.int .u32) a3 bf cy cz b5∧Sl (Za.int .u32) a3 bf c0 c2 b6∧Zm 49 8 a3 bf ez #[.bool cx,.slice ck b1.length cl,.slice cn b2.length co,.bool de,.slice cy b5.length cz,.slice c0 b6.length c2]∧Sl (Za.int .u32) a3 bf c4 c5 b3∧Sl (Za.int .u32) a3 bf c6 c7 b4∧Zm 47 999 a3 bf g3 #[.bool c3,.slice c4 b3.length c5,.slice c6 b4.length c7]∧Zm 27 1 a3 bf d7 #[.string ag.1,.slice d5 ag.2.1.length d3,.slice cu ag.2.2.1.length da,.slice d6 ag.2.2.2.1.length d4,.slice cv ag.2.2.2.2.length db]∧Sl (Za.int .i64) a3 bf gt gu eb∧Zc (Za.int .u32) 79 9 a3 bf dg dh b7∧Zc (Za.int .u32) 79 10 a3 bf di dj b8∧Zc (Za.int .u32) 79 11 a3 bf dl dm b9∧Zc (Za.int .u32) 79 12 a3 bf dn dp ca∧Zm 49 2 a3 bf et #[.bool df,.slice dg b7.length dh,.slice di b8.length dj,.bool dk,.slice dl b9.length dm,.slice dn ca.length dp]∧Zc (Za.int .i64) 3 3 a3 bf dq dr cb∧[41,13].map f=[.int .i64 ec,.int .i64 cc]) eb.length ⟨_,0,0,_,rfl,rfl,hm,aa,ai,aj,ak,al,ad,am,an,hb3,ab,c9,aq,ar,au,av,ac,ah,rfl⟩ ?_;clear hm;intro n f bf hI;obtain ⟨a3,cc,ec,ed,hn,hl,hm,aa,ai,aj,ak,al,ad,am,an,hb3,ab,c9,aq,ar,au,av,ac,ah,hs⟩:=hI;subst hn;refine .lL [41,13] hs ?_
  cases ed with
  | nil=>
   have hk:¬ ((ec:Int)<(eb.length:Int)):=by have:=List.drop_eq_nil_iff.1 hl;omega
   have hkb:=decide_eq_false hk;rw [Zbc.eq_1] at hm;refine go ?_;refine Y0 (congrArg Value.bool hkb)<|go ?_;refine Xb ⟨_,_,rfl⟩ ?_;refine lV (.agg #[.bool de,.slice cy b5.length cz,.slice c0 b6.length c2]) (Xv isAgg47 sizeOf47 rfl rfl ((ad.atN).part 3 3 _ rfl))<|Xb ⟨_,_,rfl⟩ ?_;refine lV (.agg #[.bool cx,.slice ck b1.length cl,.slice cn b2.length co]) (Xv isAgg47 sizeOf47 rfl rfl ((ad.atN).part 0 3 _ rfl)) ?_;obtain ⟨cp,gv,hm⟩:=bZ hm;refine Zh (Zww 13 14 gv ak al ai aj) ?_;rintro _ jn ⟨gw,e3,e4,e5,e6,rfl,bj,ba,bb⟩;refine ⟨_,rfl,?_⟩;refine Xr (col:=gw) #[.bool false,.slice none (([]:List Int).length) 0,.slice none (([]:List Int).length) 0] 15 zeroValue47 ?_;intro gx jo gy bg gz;refine Z9 gz ?_;intro jp bh g0 a7;refine go ?_;refine Xb ⟨_,_,rfl⟩ ?_;replace ad:=((ad.gr bj).gr bg).kp bh;refine lV (.agg #[.bool cx,.slice ck b1.length cl,.slice cn b2.length co]) (Xv isAgg47 sizeOf47 rfl rfl ((ad.atN).part 0 3 _ rfl))<|Xr (col:=gy) #[.bool false,.slice none (([]:List Int).length) 0,.slice none (([]:List Int).length) 0] 16 zeroValue47 ?_;intro g1 jq jr bd g2;refine Z9 g2 ?_;intro js be g4 a9;refine go ?_;refine Xb ⟨_,_,rfl⟩ ?_;replace ab:=((((ab.gr bj).gr bg).kp bh).gr bd).kp be;refine lW ((ab.atN).nth (q:=2) rfl)<|Xy rfl ?_;obtain ⟨g5,e7,hm⟩:=bZ hm;replace aa:=((((aa.grow bj).grow bg).kp bh g0).grow bd).kp be g4;refine lI e7 ((cw.ks aa).addr e7) ?_;obtain ⟨_,g6,g7⟩:=(cw.ks aa).atN e7;obtain ⟨⟨jt,ju,rfl,jv⟩,_⟩:=g6;refine lW g7.one<|go ?_;replace ai:=((((ai.gr bj).gr bg).kp bh).gr bd).kp be;replace aj:=((((aj.gr bj).gr bg).kp bh).gr bd).kp be;replace ak:=((((ak.gr bj).gr bg).kp bh).gr bd).kp be;replace al:=((((al.gr bj).gr bg).kp bh).gr bd).kp be;replace am:=((((am.gr bj).gr bg).kp bh).gr bd).kp be;replace an:=((((an.gr bj).gr bg).kp bh).gr bd).kp be;replace aq:=((((aq.gr bj).gr bg).kp bh).gr bd).kp be;replace ar:=((((ar.gr bj).gr bg).kp bh).gr bd).kp be;replace au:=((((au.gr bj).gr bg).kp bh).gr bd).kp be;replace av:=((((av.gr bj).gr bg).kp bh).gr bd).kp be;replace ah:=((((ah.gr bj).gr bg).kp bh).gr bd).kp be
   replace hb3:=((((hb3.gr bj).gr bg).kp bh).gr bd).kp be;replace ac:=((((ac.gr bj).gr bg).kp bh).gr bd).kp be;replace ba:=(((ba.gr bg).kp bh).gr bd).kp be;replace bb:=(((bb.gr bg).kp bh).gr bd).kp be;replace ad:=(ad.gr bd).kp be;replace a7:=(a7.gr bd).kp be
   refine Z0 [10,12,13,16,17,2,29,3,30,31,7,71,9,1000000] (fun n f af=>∃ ae cd dt du ce dv dw cf ek el ee dx d1,d1=n∧Zc2 N ag c3 b3 b4 df b7 b8 dk b9 ca cb (S0 N ag e1) c8 cc cp g5 d1 cd ce cf ee dx=some r∧St w0 (Zi col) ae af∧Sl (Za.int .u32) ae af ck cl b1∧Sl (Za.int .u32) ae af cn co b2∧Sl (Za.int .u32) ae af cy cz b5∧Sl (Za.int .u32) ae af c0 c2 b6∧Zm 49 8 ae af ez #[.bool cx,.slice ck b1.length cl,.slice cn b2.length co,.bool de,.slice cy b5.length cz,.slice c0 b6.length c2]∧Zc (Za.int .u32) 79 13 ae af e3 e4 cp.1.2∧Zc (Za.int .u32) 79 14 ae af e5 e6 cp.2∧Zm 47 15 ae af gx #[.bool cp.1.1,.slice e3 cp.1.2.length e4,.slice e5 cp.2.length e6]∧Sl (Za.int .u32) ae af dt du ce∧Sl (Za.int .u32) ae af dv dw cf∧Zm 47 16 ae af g1 #[.bool cd,.slice dt ce.length du,.slice dv cf.length dw]∧Zc (Za.pair (Za.pair (Za.pair Za.bool (Za.slice (Za.int .u32))) (Za.slice (Za.int .u32))) (Za.pair (Za.pair Za.bool (Za.slice (Za.int .u32))) (Za.slice (Za.int .u32)))) 49 17 ae af ek el ee∧Sl (Za.int .u32) ae af c4 c5 b3∧Sl (Za.int .u32) ae af c6 c7 b4∧Zm 47 999 ae af g3 #[.bool c3,.slice c4 b3.length c5,.slice c6 b4.length c7]∧Zm 27 1 ae af d7 #[.string ag.1,.slice d5 ag.2.1.length d3,.slice cu ag.2.2.1.length da,.slice d6 ag.2.2.2.1.length d4,.slice cv ag.2.2.2.2.length db]∧Zc (Za.int .u32) 79 9 ae af dg dh b7∧Zc (Za.int .u32) 79 10 ae af di dj b8∧Zc (Za.int .u32) 79 11 ae af dl dm b9∧Zc (Za.int .u32) 79 12 ae af dn dp ca∧Zm 49 2 ae af et #[.bool df,.slice dg b7.length dh,.slice di b8.length dj,.bool dk,.slice dl b9.length dm,.slice dn ca.length dp]∧Zc (Za.int .i64) 3 3 ae af dq dr cb∧[18,72].map f=[.slice ek ee.length el,.int .i64 dx]) N ⟨_,_,_,_,_,_,_,_,none,0,_,0,_,rfl,hm,aa,ai,aj,ak,al,ad,ba,bb,a7,ai,aj,a9,Zc.nil,am,an,hb3,ab,aq,ar,au,av,ac,ah,rfl⟩ ?_;clear hm;intro n f af hI
   obtain ⟨ae,cd,dt,du,ce,dv,dw,cf,ek,el,ee,dx,d1,hn,hm,aa,ai,aj,ak,al,ad,ba,bb,a7,bq,br,a9,bc,am,an,hb3,ab,aq,ar,au,av,ac,ah,hs⟩:=hI;subst hn;refine .lL [18,72] hs ?_
   cases d1 with
   | zero=>rw [Zc2.eq_1] at hm;cases hm
   | succ d1=>
    rw [Zc2.eq_2] at hm;refine go ?_;refine Zp hm (fun hb hm=>go ?_) fun hb hm=>go ?_
    ·have a4:=Z2.clip (fun _=>false) ae af;refine Zhg (col:=ae) [(0,0),(1,0),(2,1),(3,0),(4,1),(5,1),(6,0),(7,1),(8,1),(9,0),(10,1),(11,1),(12,0),(13,1),(14,1),(15,1),(16,1),(17,1),(18,0),(19,3),(20,3),(21,4),(22,2)] (by kernel_rfl) (by kernel_rfl) ⟨fun h=>absurd h (by decide),fun h=>absurd h (by decide),fun h=>absurd h (by decide),fun h=>absurd h (by decide),fun h=>absurd h (by decide),fun h=>absurd h (by decide),fun h=>absurd h (by decide),fun h=>absurd h (by decide),fun h=>absurd h (by decide),fun h=>absurd h (by decide),fun h=>absurd h (by decide),fun h=>absurd h (by decide),fun h=>absurd h (by decide),fun h=>absurd h (by decide),fun h=>absurd h (by decide),fun h=>absurd h (by decide),fun h=>absurd h (by decide),fun h=>absurd h (by decide),fun h=>absurd h (by decide),fun h=>absurd h (by decide),fun h=>absurd h (by decide),fun _=>⟨_,_,_,rfl,T6 zeroValue47⟩,fun h=>absurd h (by decide),trivial⟩ ?_;replace a9:=a9.kpp a4;refine Wn (v:=(.agg #[.bool cd,.slice dt ce.length du,.slice dv cf.length dw])) rfl rfl (fun _ hC=>Xv isAgg47 sizeOf47 rfl rfl (a9.atN.gr (hC.bl (Zg af ae)))) ?_;replace a7:=a7.kpp a4;refine Wn (v:=(.agg #[.bool cp.1.1,.slice e3 cp.1.2.length e4,.slice e5 cp.2.length e6])) rfl rfl (fun _ hC=>Xv isAgg47 sizeOf47 rfl rfl (a7.atN.gr (hC.bl (Zg af ae)))) ?_;refine Y3 (v:=(.pointer ((some (⟨d7,0,none⟩:Addr)).map (·.add 4)))) rfl rfl (fun _=>Td (sz:=1) (off:=4) underlying27 rfl sizeOf25 (by decide) rfl rfl ⟨_,_,rfl⟩) ?_;replace ab:=ab.kpp a4;refine Wn (v:=(.slice cv ag.2.2.2.2.length db)) rfl rfl (fun _ hC=>Sp isAgg25 rfl (((ab.atN).nth (q:=4) (v:=(.slice cv ag.2.2.2.2.length db)) rfl).gr (hC.bl (Zg af ae)))) ?_;refine Y3 (v:=(.int .i64 c8)) rfl rfl (fun _=>Vr rfl) ?_;obtain ⟨g8,em,hm⟩:=bZ hm;replace aa:=aa.kpp a4;refine Y3 (v:=(X2 cv (Int.toNat c8 * 1))) rfl rfl (fun _=>Wl underlying25 sizeOf56 rfl rfl (Xu em).1 (Xu em).2.1 ((ei.ks aa).addr em)) ?_;obtain ⟨_,g9,ha⟩:=(ei.ks aa).atN em;obtain ⟨⟨f0,hc,rfl,f1⟩,_⟩:=g9;refine Wn (v:=(.slice f0 g8.length hc)) rfl rfl (fun _ hC=>Sp isAgg56 rfl (ha.one.gr (hC.bl (Zg af ae)))) ?_;refine Y3 (v:=(.int .i64 cc)) rfl rfl (fun _=>Vr rfl) ?_;refine Y3 (v:=(.pointer ((some (⟨d7,0,none⟩:Addr)).map (·.add 2)))) rfl rfl (fun _=>Td (sz:=1) (off:=2) underlying27 rfl sizeOf23 (by decide) rfl rfl ⟨_,_,rfl⟩) ?_
     refine Wn (v:=(.slice cu ag.2.2.1.length da)) rfl rfl (fun _ hC=>Sp isAgg23 rfl (((ab.atN).nth (q:=2) (v:=(.slice cu ag.2.2.1.length da)) rfl).gr (hC.bl (Zg af ae)))) ?_;refine Y3 (v:=(.int .i64 c8)) rfl rfl (fun _=>Vr rfl) ?_;obtain ⟨dy,en,hm⟩:=bZ hm;refine Y3 (v:=(X2 cu (Int.toNat c8 * 1))) rfl rfl (fun _=>Wl underlying23 sizeOf22 rfl rfl (Xu en).1 (Xu en).2.1 ((cw.ks aa).addr en)) ?_;obtain ⟨_,hd,he⟩:=(cw.ks aa).atN en;obtain ⟨⟨hf,hg,rfl,jw⟩,_⟩:=hd;refine Wn (v:=(.slice hf dy.length hg)) rfl rfl (fun _ hC=>Sp isAgg22 rfl (he.one.gr (hC.bl (Zg af ae)))) ?_;refine Y3 (v:=(.int .i64 dy.length)) rfl rfl (fun _=>Tt underlying22 rfl) ?_;refine Y3 (v:=(.int .i64 (i64.wrap (cc * (dy.length:Int))))) rfl rfl (fun _=>Zha cc (dy.length:Int) rfl rfl) ?_;refine Y3 (v:=(.int .i64 dx)) rfl rfl (fun _=>Vr rfl) ?_;refine Y3 (v:=(.int .i64 (i64.wrap ((i64.wrap (cc * (dy.length:Int)))+dx)))) rfl rfl (fun _=>Qa (i64.wrap (cc * (dy.length:Int))) dx rfl rfl) ?_;obtain ⟨e8,eo,hm⟩:=bZ hm;refine Y3 (v:=(X2 f0 (Int.toNat (i64.wrap ((i64.wrap (cc * (dy.length:Int)))+dx)) * 3))) rfl rfl (fun _=>Wl underlying56 sizeOf47 rfl rfl (Xu eo).1 (Xu eo).2.1 (f1.addr eo)) ?_;obtain ⟨_,hh,hi⟩:=f1.atN eo;obtain ⟨_,_,rfl,hj,ho⟩:=Ym hh;obtain ⟨_,_,rfl,hp,hq⟩:=Ym hj;obtain ⟨rfl,_⟩:=hp;obtain ⟨⟨hr,ht,rfl,e9⟩,_⟩:=hq;obtain ⟨⟨hu,hv,rfl,fa⟩,_⟩:=ho;refine Wn (v:=(.agg #[.bool e8.1.1,.slice hr e8.1.2.length ht,.slice hu e8.2.length hv])) rfl rfl (fun _ hC=>Xv isAgg47 sizeOf47 rfl rfl (hi.gr (hC.bl (Zg af ae)))) ?_;refine Wm rfl rfl ?_;intro hw hC0;have hC:=hC0.bl (Zg af ae);obtain ⟨jx,hx,hm⟩:=bZ hm;replace ba:=(ba.kpp a4).gr hC;replace bb:=(bb.kpp a4).gr hC;replace e9:=e9.gr hC;replace fa:=fa.gr hC;refine Zh (Zwt 18 19 hx ((ba.toSlF (Zn.int .u32)).froz 14) ((bb.froz 13 (by decide)).toSlF (Zn.int .u32)) ((e9.froz 13).froz 14) ((fa.froz 13).froz 14)) ?_;rintro _ cg ⟨hy,jy,jz,j0,j1,rfl,ao,ef,eg⟩;refine ⟨_,rfl,?_⟩;replace ef:=ef.thaw (Z6 .u32) ao (((Fz.refl (col:=(Zg af ae))).froz 13).froz 14) (by decide)
     replace eg:=eg.thaw (Z6 .u32) ao (((Fz.refl (col:=(Zg af ae))).froz 13).froz 14) (by decide);replace ao:=ao.thawR (col:=(Zg af ae));generalize Xa hw.heap.size (Zg af ae) hy=cq at *;refine Zl ?_;refine ⟨fun w'=>Zf (Zg cg cq) cg (Zg cg cq) w',fun g=>(Zg cg cq) g=497,Zf.refl _ _,Wf,fun _=>⟨fun _ h=>Vc hC0 ao h,fun b hb=>ao.below.block b hb,fun g x1 x2=>Vh ao g x1 (by first | exact x2 | (simp only [Xm,x2];rfl) | (simp only [Xm,X4,x2];rfl))⟩,?_⟩;have ax:=Z2.clip (fun _=>false) cq cg;refine Wm rfl rfl ?_;intro hz hC0;replace ai:=(((ai.kpp a4).gr hC).gr ao).kpp ax;replace aj:=(((aj.kpp a4).gr hC).gr ao).kpp ax;replace ak:=(((ak.kpp a4).gr hC).gr ao).kpp ax;replace al:=(((al.kpp a4).gr hC).gr ao).kpp ax;replace bq:=(((bq.kpp a4).gr hC).gr ao).kpp ax;replace br:=(((br.kpp a4).gr hC).gr ao).kpp ax;replace bc:=(((bc.kpp a4).gr hC).gr ao).kpp ax;replace am:=(((am.kpp a4).gr hC).gr ao).kpp ax;replace an:=(((an.kpp a4).gr hC).gr ao).kpp ax;replace aq:=(((aq.kpp a4).gr hC).gr ao).kpp ax;replace ar:=(((ar.kpp a4).gr hC).gr ao).kpp ax;replace au:=(((au.kpp a4).gr hC).gr ao).kpp ax;replace av:=(((av.kpp a4).gr hC).gr ao).kpp ax;replace ah:=(((ah.kpp a4).gr hC).gr ao).kpp ax;replace ad:=(((ad.kpp a4).gr hC).gr ao).kpp ax;replace hb3:=(((hb3.kpp a4).gr hC).gr ao).kpp ax;replace ac:=(((ac.kpp a4).gr hC).gr ao).kpp ax;replace a7:=((a7.gr hC).gr ao).kpp ax;replace a9:=((a9.gr hC).gr ao).kpp ax;replace ab:=((ab.gr hC).gr ao).kpp ax;replace aa:=((aa.grow hC).grow ao).kpp ax;have hC:=hC0.bl (Zg cg cq);obtain ⟨bk,h0,hm⟩:=bZ hm;replace ef:=(ef.kpp ax).gr hC;replace eg:=(eg.kpp ax).gr hC;replace bq:=bq.gr hC;replace br:=br.gr hC;refine Zh (Zot 20 21 h0 ((bq.froz 18).froz 19) ((br.froz 18).froz 19) ((ef.toSlF (Zn.int .u32)).froz 19) ((eg.froz 18 (by decide)).toSlF (Zn.int .u32))) ?_;rintro _ bm ⟨h2,fb,fc,fd,fe,rfl,ap,bs,bt⟩;refine ⟨_,rfl,?_⟩;replace bs:=bs.thaw (Z6 .u32) ap (((Fz.refl (col:=(Zg cg cq))).froz 18).froz 19) (by decide);replace bt:=bt.thaw (Z6 .u32) ap (((Fz.refl (col:=(Zg cg cq))).froz 18).froz 19) (by decide)
     replace ap:=ap.thawR (col:=(Zg cg cq));generalize Xa hz.heap.size (Zg cg cq) h2=bu at *;refine Zl ?_;refine ⟨fun w'=>Zf (Zg bm bu) bm (Zg bm bu) w',fun g=>(Zg bm bu) g=497,Zf.refl _ _,Wf,fun _=>⟨fun _ h=>Vc hC0 ap h,fun b hb=>ap.below.block b hb,fun g x1 x2=>Vh ap g x1 (by first | exact x2 | (simp only [Xm,x2];rfl) | (simp only [Xm,X4,x2];rfl))⟩,?_⟩;have ay:=Z2.clip (fun _=>false) bu bm;refine Zhh rfl rfl (T6 zeroValue47) ?_;intro cr h3;refine Wm rfl rfl ?_;intro h4 ⟨hC0,hZ0⟩;replace ba:=((((ba.gr ao).kpp ax).gr hC).gr ap).kpp ay;replace bb:=((((bb.gr ao).kpp ax).gr hC).gr ap).kpp ay;replace ai:=((ai.gr hC).gr ap).kpp ay;replace aj:=((aj.gr hC).gr ap).kpp ay;replace ak:=((ak.gr hC).gr ap).kpp ay;replace al:=((al.gr hC).gr ap).kpp ay;replace bc:=((bc.gr hC).gr ap).kpp ay;replace am:=((am.gr hC).gr ap).kpp ay;replace an:=((an.gr hC).gr ap).kpp ay;replace aq:=((aq.gr hC).gr ap).kpp ay;replace ar:=((ar.gr hC).gr ap).kpp ay;replace au:=((au.gr hC).gr ap).kpp ay;replace av:=((av.gr hC).gr ap).kpp ay;replace ah:=((ah.gr hC).gr ap).kpp ay;replace ad:=((ad.gr hC).gr ap).kpp ay;replace a7:=((a7.gr hC).gr ap).kpp ay;replace a9:=((a9.gr hC).gr ap).kpp ay;replace hb3:=((hb3.gr hC).gr ap).kpp ay;replace ab:=((ab.gr hC).gr ap).kpp ay;replace ac:=((ac.gr hC).gr ap).kpp ay;replace aa:=((aa.grow hC).grow ap).kpp ay;have hC:=hC0.bl (Zg bm bu);obtain ⟨az,ff⟩:=Zey (col:=(Zg bm bu)) 22 hZ0 h3;replace ff:Zm 47 22 (Xg cr 22 (Zg bm bu)) h4 cr #[.bool false,.slice none (([]:List Int).length) 0,.slice none (([]:List Int).length) 0]:=ff;refine Z9 ff ?_;intro ct a0 h5 ch;refine Zl ?_;refine ⟨fun w'=>Zf (Zg ct (Xg cr 22 (Zg bm bu))) ct (Zg ct (Xg cr 22 (Zg bm bu))) w',fun g=>(Zg ct (Xg cr 22 (Zg bm bu))) g=497,Zf.refl _ _,Wf,fun h=>absurd h (by decide),?_⟩;have aw:=Z2.clip (fun _=>false) (Xg cr 22 (Zg bm bu)) ct;refine Zhi ?_;replace bq:=(((((bq.gr ap).kpp ay).gr hC).kpp az).kp a0).kpp aw;replace br:=(((((br.gr ap).kpp ay).gr hC).kpp az).kp a0).kpp aw;replace bs:=((((bs.kpp ay).gr hC).kpp az).kp a0).kpp aw;replace bt:=((((bt.kpp ay).gr hC).kpp az).kp a0).kpp aw;replace ai:=(((ai.gr hC).kpp az).kp a0).kpp aw
     replace aj:=(((aj.gr hC).kpp az).kp a0).kpp aw;replace ak:=(((ak.gr hC).kpp az).kp a0).kpp aw;replace al:=(((al.gr hC).kpp az).kp a0).kpp aw;replace ba:=(((ba.gr hC).kpp az).kp a0).kpp aw;replace bb:=(((bb.gr hC).kpp az).kp a0).kpp aw;replace bc:=(((bc.gr hC).kpp az).kp a0).kpp aw;replace am:=(((am.gr hC).kpp az).kp a0).kpp aw;replace an:=(((an.gr hC).kpp az).kp a0).kpp aw;replace aq:=(((aq.gr hC).kpp az).kp a0).kpp aw;replace ar:=(((ar.gr hC).kpp az).kp a0).kpp aw;replace au:=(((au.gr hC).kpp az).kp a0).kpp aw;replace av:=(((av.gr hC).kpp az).kp a0).kpp aw;replace ah:=(((ah.gr hC).kpp az).kp a0).kpp aw;replace ad:=(((ad.gr hC).kpp az).kp a0).kpp aw;replace a7:=(((a7.gr hC).kpp az).kp a0).kpp aw;replace a9:=(((a9.gr hC).kpp az).kp a0).kpp aw;replace hb3:=(((hb3.gr hC).kpp az).kp a0).kpp aw;replace ab:=(((ab.gr hC).kpp az).kp a0).kpp aw;replace ac:=(((ac.gr hC).kpp az).kp a0).kpp aw;replace aa:=(((aa.grow hC).kpp az).kp a0 h5).kpp aw;intro h6 hC;replace hC:Zf (Zg ct (Xg cr 22 (Zg bm bu))) ct (Zg ct (Xg cr 22 (Zg bm bu))) h6:=.of_below hC.below;refine go ?_;replace a9:=a9.gr hC;refine lV _ (Z8 isAgg47 sizeOf47 a9) ?_;replace ch:=(ch.kpp aw).gr hC;refine lV _ (Z8 isAgg47 sizeOf47 ch)<|lV (.agg #[.bool cd,.slice dt ce.length du,.slice dv cf.length dw,.bool bk.1.1,.slice fb bk.1.2.length fc,.slice fd bk.2.length fe]) (Wc (l:=[_,_]) (qs:=[(0,3),(3,3)]) underlying49 zeroValue49 ⟨rfl,sizeOf47,rfl,sizeOf47,trivial⟩ rfl) ?_;replace ai:=ai.gr hC;replace ai:=ai.froz 21;replace aj:=aj.gr hC;replace aj:=aj.froz 21;replace ak:=ak.gr hC;replace ak:=ak.froz 21;replace al:=al.gr hC;replace al:=al.froz 21;replace ba:=ba.gr hC;replace ba:=ba.froz 21 (by decide);replace bb:=bb.gr hC;replace bb:=bb.froz 21 (by decide);replace bq:=bq.gr hC;replace bq:=bq.froz 21;replace br:=br.gr hC;replace br:=br.froz 21;replace am:=am.gr hC;replace am:=am.froz 21;replace an:=an.gr hC;replace an:=an.froz 21;replace aq:=aq.gr hC;replace aq:=aq.froz 21 (by decide);replace ar:=ar.gr hC;replace ar:=ar.froz 21 (by decide);replace au:=au.gr hC;replace au:=au.froz 21 (by decide);replace av:=av.gr hC;replace av:=av.froz 21 (by decide);replace ah:=ah.gr hC;replace ah:=ah.froz 21 (by decide)
     replace bs:=bs.gr hC;replace bs:=bs.froz 21 (by decide);replace bt:=bt.gr hC;replace bt:=(bt).toSlF (Zn.int .u32);replace bc:=bc.gr hC;replace bc:=bc.froz 21 (by decide);replace ad:=ad.gr hC;replace ad:=ad.froz 21 (by decide);replace a7:=a7.gr hC;replace a7:=a7.froz 21 (by decide);replace a9:=a9.froz 21 (by decide);replace hb3:=hb3.gr hC;replace hb3:=hb3.froz 21 (by decide);replace ab:=ab.gr hC;replace ab:=ab.froz 21 (by decide);replace ac:=ac.gr hC;replace ac:=ac.froz 21 (by decide);replace ch:=ch.froz 21 (by decide);replace aa:=aa.grow hC;replace aa:=aa.froz 21 (by decide) (by decide);replace ai:=ai.froz 20;replace aj:=aj.froz 20;replace ak:=ak.froz 20;replace al:=al.froz 20;replace ba:=ba.froz 20 (by decide);replace bb:=bb.froz 20 (by decide);replace bq:=bq.froz 20;replace br:=br.froz 20;replace am:=am.froz 20;replace an:=an.froz 20;replace aq:=aq.froz 20 (by decide);replace ar:=ar.froz 20 (by decide);replace au:=au.froz 20 (by decide);replace av:=av.froz 20 (by decide);replace ah:=ah.froz 20 (by decide);replace bs:=(bs).toSlF (Zn.int .u32);replace bt:=bt.froz 20;replace bc:=bc.froz 20 (by decide);replace ad:=ad.froz 20 (by decide);replace a7:=a7.froz 20 (by decide);replace a9:=a9.froz 20 (by decide);replace hb3:=hb3.froz 20 (by decide);replace ab:=ab.froz 20 (by decide);replace ac:=ac.froz 20 (by decide);replace ch:=ch.froz 20 (by decide);replace aa:=aa.froz 20 (by decide) (by decide);refine Zba (col:=(Xm 20 (Xm 21 (Zg ct (Xg cr 22 (Zg bm bu)))))) (r:=(Za.pair (Za.pair (Za.pair Za.bool (Za.slice (Za.int .u32))) (Za.slice (Za.int .u32))) (Za.pair (Za.pair Za.bool (Za.slice (Za.int .u32))) (Za.slice (Za.int .u32))))) (xs:=[(((cd,ce),cf),((bk.1.1,bk.1.2),bk.2))]) [(.agg #[.bool cd,.slice dt ce.length du,.slice dv cf.length dw,.bool bk.1.1,.slice fb bk.1.2.length fc,.slice fd bk.2.length fe])] 23 (V8.ofF (Rows.consF (r:=(Za.pair (Za.pair (Za.pair Za.bool (Za.slice (Za.int .u32))) (Za.slice (Za.int .u32))) (Za.pair (Za.pair Za.bool (Za.slice (Za.int .u32))) (Za.slice (Za.int .u32))))) (x:=(((cd,ce),cf),((bk.1.1,bk.1.2),bk.2))) (cs:=[.bool cd,.slice dt ce.length du,.slice dv cf.length dw,.bool bk.1.1,.slice fb bk.1.2.length fc,.slice fd bk.2.length fe]) (V5 (V5 (V5 (Zch cd) (Q3 bq)) (Q3 br)) (V5 (V5 (Zch bk.1.1) (Q3 bs)) (Q3 bt))) Rows.nil0)) ?_
     intro j2 j3 j4 a2 h7;obtain ⟨h8,hm⟩:=Zy hm;replace bc:=bc.gr a2;refine Wx bc (h7.srcN (NB.pair (NB.pair (NB.pair NB.bool NB.slice) NB.slice) (NB.pair (NB.pair NB.bool NB.slice) NB.slice))) h8 ?_;intro j5 j6 j7 j8 a5 fg;refine go ?_;replace ch:=(ch.gr a2).kpp a5;refine lV _ (Z8 isAgg47 sizeOf47 ch) ?_;replace a9:=(a9.gr a2).kpp a5;refine Z9 a9 ?_;intro j9 a8 h9 ia;refine go ?_;replace ai:=((ai.gr a2).kpp a5).kp a8;replace aj:=((aj.gr a2).kpp a5).kp a8;replace ak:=((ak.gr a2).kpp a5).kp a8;replace al:=((al.gr a2).kpp a5).kp a8;replace ba:=((ba.gr a2).kpp a5).kp a8;replace bb:=((bb.gr a2).kpp a5).kp a8;replace am:=((am.gr a2).kpp a5).kp a8;replace an:=((an.gr a2).kpp a5).kp a8;replace aq:=((aq.gr a2).kpp a5).kp a8;replace ar:=((ar.gr a2).kpp a5).kp a8;replace au:=((au.gr a2).kpp a5).kp a8;replace av:=((av.gr a2).kpp a5).kp a8;replace ah:=((ah.gr a2).kpp a5).kp a8;replace bs:=((bs.gr a2).kpp a5).kp a8;replace bt:=((bt.gr a2).kpp a5).kp a8;replace ad:=((ad.gr a2).kpp a5).kp a8;replace a7:=((a7.gr a2).kpp a5).kp a8;replace hb3:=((hb3.gr a2).kpp a5).kp a8;replace ab:=((ab.gr a2).kpp a5).kp a8;replace ac:=((ac.gr a2).kpp a5).kp a8;replace aa:=((aa.grow a2).kpp a5).kp a8 h9;replace fg:=fg.kp a8;exact ⟨d1,by omega,rfl,⟨_,_,_,_,_,_,_,_,_,_,_,_,_,rfl,hm,aa,ai,aj,ak,al,ad,ba,bb,a7,bs,bt,ia,fg,am,an,hb3,ab,aq,ar,au,av,ac,ah,rfl⟩⟩
    refine lM (.func (.func 98) #[] #[.pointer (some ⟨g3,0,none⟩)])<|go ?_;obtain ⟨fh,ib,hm⟩:=bZ hm;refine lc rfl rfl (Z1e call98 rfl rfl rfl) (Zwm N (Xm 17 ae) _ 999 (by decide) c8 ek el ee g3 ((c3,b3),b4) c4 c5 c6 c7 (bc.toSlF (Zn.pair (Zn.pair (Zn.pair Zn.bool Zn.slice) Zn.slice) (Zn.pair (Zn.pair Zn.bool Zn.slice) Zn.slice))) (am.froz 17) (an.froz 17) (hb3.froz 17 (by decide)) fh ib) ?_;rintro _ ic ⟨rfl,bn⟩;refine ⟨_,rfl,?_⟩;replace bn:Zf ae af ae ic:=.of_below bn;refine go ?_;replace bc:=bc.gr bn;replace am:=am.gr bn;replace an:=an.gr bn;replace aq:=aq.gr bn;replace ar:=ar.gr bn;replace au:=au.gr bn;replace av:=av.gr bn;replace ah:=ah.gr bn;replace ad:=ad.gr bn;replace hb3:=hb3.gr bn;replace ab:=ab.gr bn;replace ac:=ac.gr bn;replace aa:=aa.grow bn;refine Zp hm (fun hb hm=>go ?_) fun hb hm=>go ?_
    ·refine lV (.agg #[.bool false,.slice none (([]:List Int).length) 0,.slice none (([]:List Int).length) 0,.bool false,.slice none (([]:List Int).length) 0,.slice none (([]:List Int).length) 0]) (Wc (l:=[_,_]) (qs:=[(0,3),(3,3)]) underlying49 zeroValue49 ⟨rfl,sizeOf47,rfl,sizeOf47,trivial⟩ rfl)<|U7 rfl<|Z9 ac ?_;intro ka id ie ig;refine go ?_;cases hm;replace aa:=aa.kp id ie;exact ⟨rfl,_,Zue rfl rfl rfl rfl isAgg49 sizeOf49 rfl rfl ig.atN rfl rfl,_,none,0,none,0,none,0,none,0,none,0,rfl,aa.fin (cm []),Zc.nil,Sl.nil,Sl.nil,Sl.nil,Sl.nil⟩
    obtain ⟨d2,fi,hm⟩:=bZ hm;refine lI fi (bc.addr fi) ?_;obtain ⟨_,ih,ii⟩:=bc.atN fi;obtain ⟨_,_,rfl,ij,ik⟩:=ih.parts;obtain ⟨_,_,rfl,il,im⟩:=ij.parts;obtain ⟨_,_,rfl,io,ip⟩:=il.parts;obtain rfl:=io.bool;obtain ⟨iq,ir,rfl,fj⟩:=ip.slice;obtain ⟨it,iu,rfl,fk⟩:=im.slice;obtain ⟨_,_,rfl,iv,iw⟩:=ik.parts;obtain ⟨_,_,rfl,ix,iy⟩:=iv.parts;obtain rfl:=ix.bool;obtain ⟨iz,i0,rfl,fl⟩:=iy.slice;obtain ⟨i1,i2,rfl,fm⟩:=iw.slice;refine lV (.agg #[.bool d2.1.1.1,.slice iq d2.1.1.2.length ir,.slice it d2.1.2.length iu,.bool d2.2.1.1,.slice iz d2.2.1.2.length i0,.slice i1 d2.2.2.length i2]) (Xv isAgg49 sizeOf49 rfl rfl ii) ?_;obtain ⟨kb,fn,hm⟩:=bZ hm;refine lI fn (ah.addr fn) ?_;obtain ⟨fp,ep,hm⟩:=bZ hm;have ep:fp=cb.set (Int.toNat c8) fh:=(Option.some.inj ep).symm;refine Yx (x1:=fh) ah fn ?_;intro kc bo i3 eq;rw [← ep] at eq;refine .ld (d:=9) (v:=(.slice dq fp.length dr)) (congrArg (fun n=>Value.slice dq n dr) (show cb.length=fp.length by rw [ep,List.length_set])) ?_;replace ad:=ad.kp bo;refine Z9 ad ?_;intro kd bp i4 i5;refine go ?_;replace am:=(am.kp bo).kp bp;replace an:=(an.kp bo).kp bp;replace aq:=(aq.kp bo).kp bp;replace ar:=(ar.kp bo).kp bp;replace au:=(au.kp bo).kp bp;replace av:=(av.kp bo).kp bp;replace fj:=(fj.kp bo).kp bp;replace fk:=(fk.kp bo).kp bp;replace fl:=(fl.kp bo).kp bp;replace fm:=(fm.kp bo).kp bp;replace hb3:=(hb3.kp bo).kp bp;replace ab:=(ab.kp bo).kp bp;replace ac:=(ac.kp bo).kp bp;replace aa:=(aa.kp bo i3).kp bp i4;replace eq:=eq.kp bp;exact ⟨e1.length,by simp,rfl,⟨_,_,_,_,_,_,_,_,_,_,_,_,_,_,_,_,_,_,_,_,_,_,_,_,_,_,_,_,_,_,_,_,_,_,_,_,_,_,_,_,_,rfl,gl,hm,aa,fj,fk,fl,fm,i5,am,an,hb3,ab,aq,ar,au,av,ac,eq,(We (congrArg (Value.int .i64) (Y9 (Nat.lt_of_lt_of_le gm (h1.ks aa).1.1))) rfl)⟩⟩
  | cons ke i6=>
   obtain ⟨ds,i7,i8⟩:=Y5 hl;have hk:(ec:Int)<(eb.length:Int):=by omega
   have hkb:=decide_eq_true hk;rw [Zbc.eq_2] at hm;refine go ?_;refine Y1 (congrArg Value.bool hkb)<|go ?_;refine lI ds (c9.addr ds)<|lW (c9.atInt ds) ?_;refine go ?_;refine Wg (col:=a3) (by kernel_rfl) (by kernel_rfl)<|go ?_;refine qF ⟨_,_,rfl⟩ ?_;refine qW (fun _ hC=>((ab.atN).nth (q:=2) rfl).gr (hC.bl a3)) ?_;refine go ?_;obtain ⟨kf,fq,hm⟩:=bZ hm;refine qI fq ((cw.ks aa).addr fq) ?_;obtain ⟨_,i9,ja⟩:=(cw.ks aa).atN fq;obtain ⟨⟨kg,kh,rfl,ki⟩,_⟩:=i9;refine qW (fun _ hC=>ja.one.gr (hC.bl a3)) ?_;refine go ?_;obtain ⟨kj,fr,hm⟩:=bZ hm;refine qI fr (ah.addr fr)<|qW (fun _ hC=>(ah.gr (hC.bl a3)).atInt fr) ?_;refine go ?_;refine Yk ?_;intro kk hC;replace hC:=hC.bl a3;refine go ?_;replace ai:=ai.gr hC;replace aj:=aj.gr hC;replace ak:=ak.gr hC;replace al:=al.gr hC;replace am:=am.gr hC;replace an:=an.gr hC;replace c9:=c9.gr hC;replace aq:=aq.gr hC;replace ar:=ar.gr hC;replace au:=au.gr hC;replace av:=av.gr hC;replace ah:=ah.gr hC;replace ad:=ad.gr hC;replace hb3:=hb3.gr hC;replace ab:=ab.gr hC;replace ac:=ac.gr hC;replace aa:=aa.grow hC;exact ⟨i6.length,by simp,rfl,⟨_,_,_,_,rfl,i7,hm,aa,ai,aj,ak,al,ad,am,an,hb3,ab,c9,aq,ar,au,av,ac,ah,(We (congrArg (Value.int .i64) (Y9 (Nat.lt_of_lt_of_le i8 c9.1.1))) rfl)⟩⟩
section
variable (N:Nat) (n:Xq) (X:QV) (V:QV×QV)
abbrev Zhu:Int→List (QV×QV)→Option Int:=fun x P=>Zkk N x P X
theorem Zpx (w:List Int) (kk:Bool→List Int→List Int→Bool→List Int→List Int→Bool→List Int→List Int→Bool→List Int→List Int→Bool→List Int→List Int→List Int→Ss) (x row:Int) (d:QV) (e:List ByteArray):∀ (f:Nat) (a:QV) (ps:List (QV×QV)) (k:Int),
  Zc2 N n X.1.1 X.1.2 X.2 V.1.1.1 V.1.1.2 V.1.2 V.2.1.1 V.2.1.2 V.2.2 w kk x row d e f a.1.1 a.1.2 a.2 ps k=
   Ze3 N n (Zhu N X) w (fun a b xs=>kk a.1.1 a.1.2 a.2 b.1.1 b.1.2 b.2 X.1.1 X.1.2 X.2 V.1.1.1 V.1.1.2 V.1.2 V.2.1.1 V.2.1.2 V.2.2 xs) x row d e f a ps k
 | 0,a,ps,k=>rfl
 | f+1,a,ps,k=>by
  have ih:=Zpx w kk x row d e f
  rw [Zc2.eq_2,Ze3]
  simp only [ih]
theorem Zpw (s:QV×QV) (w:List Int) (kk:Bool→List Int→List Int→Bool→List Int→List Int→Bool→List Int→List Int→Bool→List Int→List Int→Bool→List Int→List Int→List Int→Ss) (x:Int):∀ (ps:List Int) (row:Int),
  Zbc N n s.1.1.1 s.1.1.2 s.1.2 s.2.1.1 s.2.1.2 s.2.2 X.1.1 X.1.2 X.2 V.1.1.1 V.1.1.2 V.1.2 V.2.1.1 V.2.1.2 V.2.2 w kk x ps row=
   Q9 N n (Zhu N X) s w (fun a b xs=>kk a.1.1 a.1.2 a.2 b.1.1 b.1.2 b.2 X.1.1 X.1.2 X.2 V.1.1.1 V.1.1.2 V.1.2 V.2.1.1 V.2.1.2 V.2.2 xs) x ps row
 | [],row=>by
  rw [Zbc.eq_1,Q9]
  simp only [Zpx]
 | p :: ps,row=>by
  rw [Zbc.eq_2,Q9]
  simp only [Zpw s w kk x ps]
theorem Zpv:∀ (l:List Int) (a b:QV) (w:List Int),
  S0 N n l a.1.1 a.1.2 a.2 b.1.1 b.1.2 b.2 X.1.1 X.1.2 X.2 V.1.1.1 V.1.1.2 V.1.2 V.2.1.1 V.2.1.2 V.2.2 w=Za9 N n (Zhu N X) l a b w
 | [],a,b,w=>rfl
 | x :: l,a,b,w=>by
  rw [S0.eq_2,Za9]
  have e:(fun a b xs=>S0 N n l a.1.1 a.1.2 a.2 b.1.1 b.1.2 b.2 X.1.1 X.1.2 X.2 V.1.1.1 V.1.1.2 V.1.2 V.2.1.1 V.2.1.2 V.2.2 xs)=Za9 N n (Zhu N X) l:=by
   funext a b xs
   exact Zpv l a b xs
  have h:=fun ps=>Zpw N n X V (a,b) w (S0 N n l) x ps 0
  rw [e] at h
  simp only [h]
end
def Zaa (x:Rat) (p:Rat×Rat):Bool:=decide (x<p.2)
theorem Zwd (x:Rat):Zl3 (x,x) (Zaa x):=by
 refine ⟨fun p hp=>?_,fun p h1 h2 q hq=>?_⟩
 ·rw [Bool.eq_iff_iff,Zab,Zaa,decide_eq_true_iff]
  exact ⟨fun g=>⟨hp,g,Rat.le_of_lt g⟩,fun g=>g.2.1⟩
 ·rw [Zaa,decide_eq_false_iff_not] at h2
  exact absurd h1 h2
section
variable {N K:Nat} (hr:Xc N (8 * K+40)) {x:Rat} {X:QV} (q1:RV K X) (v1:Zr X=x)
include hr q1 v1
theorem Zpm:∀ (P:List (Rat×Rat)) (k:Nat),(∀ p ∈ P,qs p.1≤K∧qs p.2≤K)→Zc0 N X (P.map Yp) k=some (U5 (Zaa x) P k)
 | [],k,_=>rfl
 | p :: P,k,h=>by
  have hp:=h p List.mem_cons_self
  have ih:=Zpm P (k+1) fun q hq=>h q (List.mem_cons_of_mem _ hq)
  have c1:Qq N ((X.1.1,X.1.2),X.2) (((Yp p).2.1.1,(Yp p).2.1.2),(Yp p).2.2)=some (Vd x p.2):=by
   have:=Zkf q1 (Vl hp.2) (hr.mono (by omega))
   rwa [Wt,v1] at this
  rw [List.map_cons,Zc0.eq_2,c1,Option.bind_some,U5]
  by_cases a1:x<p.2
  ·rw [if_pos (decide_eq_true (Zjd.2 a1)),if_pos (show Zaa x p=true from decide_eq_true a1)]
  ·rw [if_neg (by rw [decide_eq_false (fun e=>a1 (Zjd.1 e))];decide),ih,if_neg (by rw [Zaa,decide_eq_false a1];decide)]
end
section
variable {N W K:Nat} {n:Xq} (hf:V7 N n) (hs:Ur n W) (hr:Xc N (8 * K+40)) (hWK:1025 * (W+2)+4≤K) (hN:1048577<N) {ord:List Int} (ho:Zcn n.2.2.2.1 ord) (hol:ord.length≤1024)
variable {x:Rat} {X:QV} (q1:RV K X) (v1:Zr X=x)
include hf hs hr hWK hN ho hol q1 v1
theorem Zyo:Ze7 N n ord X=Zmt (Ub n (fun P=>U5 (Zaa x) P 0) ord (List.replicate n.2.1.length 0) (0,1)):=by
 have hnm:=hf.le
 have hmul:ord.length * (W+2)≤1024 * (W+2):=Nat.mul_le_mul_right _ hol
 have h1:(Ze 1).length=1:=by rw [U8];rfl
 have h:=Zqu hf hs hr (by omega) ho (Zy6 (Zaa x)) (ch:=Zhu N X) (by omega) (fun v P hP _=>Zpm hr q1 v1 P 0 hP) ord (List.replicate n.2.1.length 0) (0,1) 1 1 (fun _ h=>h) (Vv.zero hf.ev) U3.zero (by omega)
 rw [← Zpv N n X ((((false,[]),[]),((false,[]),[]))) ord] at h
 rw [Ze7,Z4 (by simp only [maxLen];omega),Zzh (hr.mono (by omega)),Option.bind_some,Zqo,Option.bind_some]
 exact h
end
def Zeg (N:Nat) (ab:R0) (aa:R1) (ac:Bool):Option Re:=
  if ac=true then (some (([]:List Int),3)) else ((Zg2 N (ab.1,ab.2.1,ab.2.2.1,ab.2.2.2.1,ab.2.2.2.2) (((aa.1.1,aa.1.2),aa.2),((aa.1.1,aa.1.2),aa.2))).bind fun ad=>some (ad.1,0))
def Zg1 (N:Nat) (ab:R0) (aa:R1):Option Re:=
  (Zgq N (ab.1,ab.2.1,ab.2.2.1,ab.2.2.2.1,ab.2.2.2.2)).bind fun ad=>if (!decide (ad=0))=true then (some (([]:List Int),ad)) else ((Zbz N ((aa.1.1,aa.1.2),aa.2)).bind fun ae=>if (decide (ae<0))=true then (Zeg N ab aa true) else ((S5 N 1 1).bind fun ac=>(U9 N ((aa.1.1,aa.1.2),aa.2) ((ac.1.1,ac.1.2),ac.2)).bind fun af=>Zeg N ab aa (decide (0≤af))))
theorem Zx2 {N au av aw ax ah ai:Nat} {ay az a0 a1 aj ak:Option Addr} {col:Zd} {w0:World} {ac:R0} {ab:R1} {r:Re} (c1:Nat) (hm:Zg1 N ac ab=some r) (a2:Sl Za.str col w0 ay au ac.2.1) (a3:Sl (Za.slice Za.str) col w0 az av ac.2.2.1) (a4:Sl (Za.slice (Za.int .i64)) col w0 a0 aw ac.2.2.2.1) (a5:Sl (Za.slice (Za.pair (Za.pair Za.bool (Za.slice (Za.int .u32))) (Za.slice (Za.int .u32)))) col w0 a1 ax ac.2.2.2.2) (al:Sl (Za.int .u32) col w0 aj ah ab.1.2) (am:Sl (Za.int .u32) col w0 ak ai ab.2):
    Calls Tryz.prog 28 #[(.agg #[.string ac.1,.slice ay ac.2.1.length au,.slice az ac.2.2.1.length av,.slice a0 ac.2.2.2.1.length aw,.slice a1 ac.2.2.2.2.length ax]),(.agg #[.bool ab.1.1,.slice aj ab.1.2.length ah,.slice ak ab.2.length ai])] w0 (fun e w'=>∃ (col':Zd) (ra1:Option Addr) (rc2:Nat),e= .returned (.tuple #[.slice ra1 r.1.length rc2,.int .i64 r.2])∧Zf col w0 col' w'∧Zc (Za.int .i64) 3 c1 col' w' ra1 rc2 r.1):=by
 refine Zcq 4 5 (m:=32) (args:=[(.agg #[.string ac.1,.slice ay ac.2.1.length au,.slice az ac.2.2.1.length av,.slice a0 ac.2.2.2.1.length aw,.slice a1 ac.2.2.2.2.length ax]),(.agg #[.bool ab.1.1,.slice aj ab.1.2.length ah,.slice ak ab.2.length ai])]) func28 rfl rfl rfl rfl rfl ?_;rw [Zg1.eq_1] at hm;have aa:=St.start col w0;refine go ?_;refine Xf (col:=(Zi col)) 1 rfl ?_;intro bh b0 bi bj ad;refine Xf (col:=bi) 2 rfl ?_;intro bk bm af be ae;refine go ?_;replace ad:=ad.gr be;refine lV _ (Z8 isAgg27 sizeOf27 ad) ?_;obtain ⟨b1,bn,hm⟩:=bZ hm;replace a2:=a2.keep (Zj.start col w0);replace a3:=a3.keep (Zj.start col w0);replace a4:=a4.keep (Zj.start col w0);replace a5:=a5.keep (Zj.start col w0);replace aa:=(aa.grow bj).grow be;refine Zh (Zxt bn (a2.ks aa) (a3.ks aa) (a4.ks aa) (a5.ks aa)) ?_;rintro _ bo ⟨rfl,ar⟩;refine ⟨_,rfl,?_⟩;replace ar:Zf af bm af bo:=.of_below ar;refine go ?_;replace al:=al.keep (Zj.start col w0);replace am:=am.keep (Zj.start col w0);replace ad:=ad.gr ar;replace ae:=ae.gr ar;replace aa:=aa.grow ar;refine Zp hm (fun hb hm=>go ?_) fun hb hm=>?_
 ·cases hm;exact ⟨rfl,_,none,0,rfl,aa.fin (cm []),Zc.nil⟩
 refine X7<|Zu<|Zu ?_;refine Wp.cutK [2,3,1000000] (fun f a6=>∃ a7 ba,Zeg N ac ab ba=some r∧St w0 (Zi col) a7 a6∧Zm 27 1 a7 a6 bh #[.string ac.1,.slice ay ac.2.1.length au,.slice az ac.2.2.1.length av,.slice a0 ac.2.2.2.1.length aw,.slice a1 ac.2.2.2.2.length ax]∧Zm 47 2 a7 a6 bk #[.bool ab.1.1,.slice aj ab.1.2.length ah,.slice ak ab.2.length ai]∧[22].map f=[.bool ba]) ?_ ?_
 ·intro f a6 hJ;obtain ⟨a7,ba,hm,aa,ad,ae,hs⟩:=hJ;rw [Zeg.eq_1] at hm;refine .lL [22] hs ?_;refine Zp hm (fun hb hm=>go ?_) fun hb hm=>go ?_
  ·cases hm;exact ⟨rfl,_,none,0,rfl,aa.fin (cm []),Zc.nil⟩
  refine lV _ (Z8 isAgg27 sizeOf27 ad)<|lV _ (Z8 isAgg47 sizeOf47 ae)<|lV _ (Z8 isAgg47 sizeOf47 ae)<|lV (.agg #[.bool ab.1.1,.slice aj ab.1.2.length ah,.slice ak ab.2.length ai,.bool ab.1.1,.slice aj ab.1.2.length ah,.slice ak ab.2.length ai]) (Wc (l:=[_,_]) (qs:=[(0,3),(3,3)]) underlying49 zeroValue49 ⟨rfl,sizeOf47,rfl,sizeOf47,trivial⟩ rfl) ?_;obtain ⟨a8,bp,hm⟩:=bZ hm;refine Zh (Zx3 7 bp (a2.ks aa) (a3.ks aa) (a4.ks aa) (a5.ks aa) (al.ks aa) (am.ks aa) (al.ks aa) (am.ks aa)) ?_;rintro _ b2 ⟨b3,bf,bg,rfl,bq,br⟩;refine ⟨_,rfl,?_⟩;refine lM (.tuple #[.slice bf a8.1.length bg,.bool a8.2])<|lV (.slice bf a8.1.length bg) (X0 rfl rfl)<|lV (.bool a8.2) (X0 rfl rfl)<|go ?_;cases hm;replace aa:=aa.grow bq;exact ⟨rfl,_,_,_,rfl,aa.fin (cm [(7,c1)]),aa.fo br⟩
 refine Y8 (col:=af) [(0,0),(1,3),(2,1),(3,1),(4,0),(5,3),(6,3),(7,1),(8,1)] (by kernel_rfl) (by kernel_rfl)<|xv rfl rfl (fun _ hC=>Z8 isAgg47 sizeOf47 (ae.gr (hC.bl af))) ?_;refine xe rfl rfl ?_;intro bs hC0;have hC:=hC0.bl af;obtain ⟨an,bt,hm⟩:=bZ hm;replace aa:=aa.grow hC;refine Zh (Zpa bt (al.ks aa) (am.ks aa)) ?_;rintro _ bu ⟨rfl,ao⟩;refine ⟨_,rfl,?_⟩;replace ao:Zf af bs af bu:=.of_below ao;refine Zl<|Xl af hC0 ao<|xu rfl rfl (fun _=>Zeo _ _ rfl rfl) ?_;refine xu rfl rfl (fun _=>Zlj rfl) ?_;replace ad:=(ad.gr hC).gr ao;replace ae:=(ae.gr hC).gr ao;replace aa:=aa.grow ao;refine Xn hm (fun ag hm=>?_) fun ag hm=>?_
 ·refine Un (b:=decide (an<0)) 17 rfl rfl rfl rfl rfl (by rw [ag];rfl)<|Un (b:=decide (an<0)) 17 rfl rfl rfl rfl rfl (by rw [ag];rfl)<|Un (b:=decide (an<0)) 17 rfl rfl rfl rfl rfl (by rw [ag];rfl)<|Un (b:=decide (an<0)) 17 rfl rfl rfl rfl rfl (by rw [ag];rfl)<|xu (v:=(.bool true)) rfl rfl (fun _=>Z1 (congrArg Value.bool ag) rfl) ?_;refine Yv ?_;intro b4 hC;replace hC:=hC.bl af;replace ad:=ad.gr hC;replace ae:=ae.gr hC;replace aa:=aa.grow hC;exact ⟨rfl,_,_,hm,aa,ad,ae,rfl⟩
 refine Zl0 (v:=(.agg #[.bool ab.1.1,.slice aj ab.1.2.length ah,.slice ak ab.2.length ai])) (b:=decide (an<0)) 17 rfl rfl rfl rfl rfl (by rw [ag];rfl) (fun _ hC=>Xv isAgg47 sizeOf47 rfl rfl (ae.atN.gr (hC.bl af))) ?_;refine xe rfl rfl ?_;intro b5 hC0;have hC:=hC0.bl af;refine go ?_;obtain ⟨b6,bv,hm⟩:=bZ hm;refine Zh (Zht (col:=af) 8 9 bv) ?_;rintro _ b7 ⟨ap,b8,b9,ca,cb,rfl,a9,bb,bc⟩;refine ⟨_,rfl,?_⟩;refine Zl<|Xl ap hC0 a9<|xe rfl rfl ?_;intro bw hC0;replace ad:=(ad.gr hC).gr a9;replace ae:=(ae.gr hC).gr a9;replace aa:=(aa.grow hC).grow a9;have hC:=hC0.bl ap;refine go ?_;obtain ⟨bd,bx,hm⟩:=bZ hm;replace bb:=bb.gr hC;replace bc:=bc.gr hC;replace aa:=aa.grow hC;refine Zh (Ze1 bx (((al.ks aa).froz 8).froz 9) (((am.ks aa).froz 8).froz 9) ((bb.toSlF (Zn.int .u32)).froz 9) ((bc.froz 8 (by decide)).toSlF (Zn.int .u32))) ?_;rintro _ bz ⟨rfl,aq⟩;refine ⟨_,rfl,?_⟩;replace aq:Zf ap bw ap bz:=.of_below aq;refine Zl<|Xl ap hC0 aq<|Zlz (v:=(.bool (decide (0≤bd)))) (b:=decide (an<0)) 17 rfl rfl rfl rfl rfl (by rw [ag];rfl) (fun _=>Zlh bd 0 rfl rfl) ?_;refine xu (v:=(.bool (decide (0≤bd)))) rfl rfl (fun _=>Xj (congrArg Value.bool ag) rfl) ?_;refine Yv ?_;replace ad:=(ad.gr hC).gr aq;replace ae:=(ae.gr hC).gr aq;intro cc hC;replace hC:=hC.bl ap;replace aa:=(aa.grow aq).grow hC;replace ad:=ad.gr hC;replace ae:=ae.gr hC;exact ⟨rfl,_,_,hm,aa,ad,ae,rfl⟩
def Zc1 (N:Nat) (aa:R0) (ab:R1) (ac:Bool):Option Re:=
  if ac=true then (some (([]:List Int),3)) else ((Qj N aa.2.2.2.1).bind fun ad=>(Ze7 N (aa.1,aa.2.1,aa.2.2.1,aa.2.2.2.1,aa.2.2.2.2) ad.1 ((ab.1.1,ab.1.2),ab.2)).bind fun ae=>some (ae.1,0))
def Zbb (N:Nat) (ab:R0) (aa:R1):Option Re:=
  (Zfl N (ab.1,ab.2.1,ab.2.2.1,ab.2.2.2.1,ab.2.2.2.2)).bind fun ad=>if (!decide (ad=0))=true then (some (([]:List Int),ad)) else ((Zbh N ((aa.1.1,aa.1.2),aa.2)).bind fun ae=>if (decide (ae<0))=true then (Zc1 N ab aa true) else ((Ze8).bind fun ac=>(Qq N ((aa.1.1,aa.1.2),aa.2) ((ac.1.1,ac.1.2),ac.2)).bind fun af=>Zc1 N ab aa (decide (0≤af))))
theorem Zmc {N aw ax ay az am an:Nat} {a0 a1 a2 a3 ao ap:Option Addr} {col:Zd} {w0:World} {ad:R0} {ae:R1} {r:Re} (c1:Nat) (hm:Zbb N ad ae=some r) (a4:Sl Za.str col w0 a0 aw ad.2.1) (a5:Sl (Za.slice Za.str) col w0 a1 ax ad.2.2.1) (aq:Sl (Za.slice (Za.int .i64)) col w0 a2 ay ad.2.2.2.1) (a6:Sl (Za.slice (Za.pair (Za.pair Za.bool (Za.slice (Za.int .u32))) (Za.slice (Za.int .u32)))) col w0 a3 az ad.2.2.2.2) (ar:Sl (Za.int .u32) col w0 ao am ae.1.2) (au:Sl (Za.int .u32) col w0 ap an ae.2):
    Calls Tryz.prog 30 #[(.agg #[.string ad.1,.slice a0 ad.2.1.length aw,.slice a1 ad.2.2.1.length ax,.slice a2 ad.2.2.2.1.length ay,.slice a3 ad.2.2.2.2.length az]),(.agg #[.bool ae.1.1,.slice ao ae.1.2.length am,.slice ap ae.2.length an])] w0 (fun e w'=>∃ (col':Zd) (ra1:Option Addr) (rc2:Nat),e= .returned (.tuple #[.slice ra1 r.1.length rc2,.int .i64 r.2])∧Zf col w0 col' w'∧Zc (Za.int .i64) 3 c1 col' w' ra1 rc2 r.1):=by
 refine Zcq 4 5 (m:=41) (args:=[(.agg #[.string ad.1,.slice a0 ad.2.1.length aw,.slice a1 ad.2.2.1.length ax,.slice a2 ad.2.2.2.1.length ay,.slice a3 ad.2.2.2.2.length az]),(.agg #[.bool ae.1.1,.slice ao ae.1.2.length am,.slice ap ae.2.length an])]) func30 rfl rfl rfl rfl rfl ?_;rw [Zbb.eq_1] at hm;have aa:=St.start col w0;refine go ?_;refine Xf (col:=(Zi col)) 1 rfl ?_;intro b0 cj b1 b2 ab;refine Xf (col:=b1) 2 rfl ?_;intro bi b3 ag bj ac;refine go ?_;replace ab:=ab.gr bj;refine lV _ (Z8 isAgg27 sizeOf27 ab) ?_;obtain ⟨ck,b4,hm⟩:=bZ hm;replace a4:=a4.keep (Zj.start col w0);replace a5:=a5.keep (Zj.start col w0);replace aq:=aq.keep (Zj.start col w0);replace a6:=a6.keep (Zj.start col w0);replace aa:=(aa.grow b2).grow bj;refine Zh (Zw1 b4 (a4.ks aa) (a5.ks aa) (aq.ks aa) (a6.ks aa)) ?_;rintro _ b5 ⟨rfl,av⟩;refine ⟨_,rfl,?_⟩;replace av:Zf ag b3 ag b5:=.of_below av;refine go ?_;replace ar:=ar.keep (Zj.start col w0);replace au:=au.keep (Zj.start col w0);replace ab:=ab.gr av;replace ac:=ac.gr av;replace aa:=aa.grow av;refine Zp hm (fun hb hm=>go ?_) fun hb hm=>?_
 ·cases hm;exact ⟨rfl,_,none,0,rfl,aa.fin (cm []),Zc.nil⟩
 refine X7<|Zu<|Zu ?_;refine Wp.cutK [2,3,1000000] (fun f a7=>∃ a8 bb,Zc1 N ad ae bb=some r∧St w0 (Zi col) a8 a7∧Zm 27 1 a8 a7 b0 #[.string ad.1,.slice a0 ad.2.1.length aw,.slice a1 ad.2.2.1.length ax,.slice a2 ad.2.2.2.1.length ay,.slice a3 ad.2.2.2.2.length az]∧Zm 47 2 a8 a7 bi #[.bool ae.1.1,.slice ao ae.1.2.length am,.slice ap ae.2.length an]∧[25].map f=[.bool bb]) ?_ ?_
 ·intro f a7 hJ;obtain ⟨a8,bb,hm,aa,ab,ac,hs⟩:=hJ;rw [Zc1.eq_1] at hm;refine .lL [25] hs ?_;refine Zp hm (fun hb hm=>go ?_) fun hb hm=>go ?_
  ·cases hm;exact ⟨rfl,_,none,0,rfl,aa.fin (cm []),Zc.nil⟩
  refine Z7 ab ?_;obtain ⟨a9,b6,hm⟩:=bZ hm;refine Zh (Zor 7 b6 (aq.ks aa)) ?_;rintro _ cl ⟨cn,bk,bm,rfl,bc,bd⟩;refine ⟨_,rfl,?_⟩;refine lM (.tuple #[.slice bk a9.1.length bm,.int .i64 a9.2])<|lV (.slice bk a9.1.length bm) (X0 rfl rfl)<|lV (.int .i64 a9.2) (X0 rfl rfl)<|go ?_;replace ab:=ab.gr bc;refine lV _ (Z8 isAgg27 sizeOf27 ab)<|Wq rfl<|lV (.func (.func 98) #[] #[.pointer (some ⟨bi,0,none⟩)]) (Z1g rfl) ?_;replace bd:=(bd).toSlF (Zn.int .i64);replace ac:=ac.gr bc;replace ac:=ac.froz 7 (by decide);replace aa:=aa.grow bc;replace aa:=aa.froz 7 (by decide) (by decide);obtain ⟨af,b7,hm⟩:=bZ hm;refine Zh (Zwn 8 2 b7 (by decide) (a4.ks aa) (a5.ks aa) (aq.ks aa) (a6.ks aa) bd (ar.ks aa) (au.ks aa) ac) ?_;rintro _ co ⟨b8,bn,bo,bp,bq,br,bs,bt,bu,bv,bw,rfl,b9,be,cp,cq,cr,cs⟩;refine ⟨_,rfl,?_⟩;refine lM (.tuple #[.slice bn af.1.length bo,(.agg #[.bool af.2.1.1.1.1,.slice bp af.2.1.1.1.2.length bq,.slice br af.2.1.1.2.length bs,.bool af.2.1.2.1.1,.slice bt af.2.1.2.1.2.length bu,.slice bv af.2.1.2.2.length bw]),.bool af.2.2])<|lV (.slice bn af.1.length bo) (X0 rfl rfl)<|lV (.agg #[.bool af.2.1.1.1.1,.slice bp af.2.1.1.1.2.length bq,.slice br af.2.1.1.2.length bs,.bool af.2.1.2.1.1,.slice bt af.2.1.2.1.2.length bu,.slice bv af.2.1.2.2.length bw]) (X0 rfl rfl)<|lV (.bool af.2.2) (X0 rfl rfl)<|Xr (col:=b8) #[.bool false,.slice none (([]:List Int).length) 0,.slice none (([]:List Int).length) 0,.bool false,.slice none (([]:List Int).length) 0,.slice none (([]:List Int).length) 0] 9 zeroValue49 ?_;intro ct cu cv bx ca;refine U7 rfl<|Z9 ca ?_;intro cw bz cb cx;refine go ?_;cases hm;replace aa:=((aa.grow b9).grow bx).kp bz cb;replace be:=(be.gr bx).kp bz;exact ⟨rfl,_,_,_,rfl,aa.fin (cm [(8,c1)]),aa.fo be⟩
 refine Y8 (col:=ag) [(0,0),(1,3),(2,1),(3,1),(4,0),(5,3),(6,3),(7,1),(8,1)] (by kernel_rfl) (by kernel_rfl)<|xv rfl rfl (fun _ hC=>Z8 isAgg47 sizeOf47 (ac.gr (hC.bl ag))) ?_;refine xe rfl rfl ?_;intro cc hC0;have hC:=hC0.bl ag;obtain ⟨ai,cd,hm⟩:=bZ hm;replace aa:=aa.grow hC;refine Zh (Zou cd (ar.ks aa) (au.ks aa)) ?_;rintro _ ce ⟨rfl,aj⟩;refine ⟨_,rfl,?_⟩;replace aj:Zf ag cc ag ce:=.of_below aj;refine Zl<|Xl ag hC0 aj<|xu rfl rfl (fun _=>Zeo _ _ rfl rfl) ?_;refine xu rfl rfl (fun _=>Zlj rfl) ?_;replace ab:=(ab.gr hC).gr aj;replace ac:=(ac.gr hC).gr aj;replace aa:=aa.grow aj;refine Xn hm (fun ah hm=>?_) fun ah hm=>?_
 ·refine Un (b:=decide (ai<0)) 20 rfl rfl rfl rfl rfl (by rw [ah];rfl)<|Un (b:=decide (ai<0)) 20 rfl rfl rfl rfl rfl (by rw [ah];rfl)<|Un (b:=decide (ai<0)) 20 rfl rfl rfl rfl rfl (by rw [ah];rfl)<|Un (b:=decide (ai<0)) 20 rfl rfl rfl rfl rfl (by rw [ah];rfl)<|xu (v:=(.bool true)) rfl rfl (fun _=>Z1 (congrArg Value.bool ah) rfl) ?_;refine Yv ?_;intro cy hC;replace hC:=hC.bl ag;replace ab:=ab.gr hC;replace ac:=ac.gr hC;replace aa:=aa.grow hC;exact ⟨rfl,_,_,hm,aa,ab,ac,rfl⟩
 refine Zl0 (v:=(.agg #[.bool ae.1.1,.slice ao ae.1.2.length am,.slice ap ae.2.length an])) (b:=decide (ai<0)) 20 rfl rfl rfl rfl rfl (by rw [ah];rfl) (fun _ hC=>Xv isAgg47 sizeOf47 rfl rfl (ac.atN.gr (hC.bl ag))) ?_;refine xe rfl rfl ?_;intro cz hC0;have hC:=hC0.bl ag;refine go ?_;obtain ⟨c0,cf,hm⟩:=bZ hm;refine lc rfl rfl (Za0 call97) (Zoq (col:=ag) 10 11 cf:) ?_;rintro _ c2 ⟨ak,c3,c4,c5,c6,rfl,ba,bf,bg⟩;refine ⟨_,rfl,?_⟩;refine Zl<|Xl ak hC0 ba<|xe rfl rfl ?_;intro cg hC0;replace ab:=(ab.gr hC).gr ba;replace ac:=(ac.gr hC).gr ba;replace aa:=(aa.grow hC).grow ba;have hC:=hC0.bl ak;refine go ?_;obtain ⟨bh,ch,hm⟩:=bZ hm;replace bf:=bf.gr hC;replace bg:=bg.gr hC;replace aa:=aa.grow hC;refine Zh (Zj3 ch (((ar.ks aa).froz 10).froz 11) (((au.ks aa).froz 10).froz 11) ((bf.toSlF (Zn.int .u32)).froz 11) ((bg.froz 10 (by decide)).toSlF (Zn.int .u32))) ?_;rintro _ ci ⟨rfl,al⟩;refine ⟨_,rfl,?_⟩;replace al:Zf ak cg ak ci:=.of_below al;refine Zl<|Xl ak hC0 al<|Zlz (v:=(.bool (decide (0≤bh)))) (b:=decide (ai<0)) 20 rfl rfl rfl rfl rfl (by rw [ah];rfl) (fun _=>Zlh bh 0 rfl rfl) ?_;refine xu (v:=(.bool (decide (0≤bh)))) rfl rfl (fun _=>Xj (congrArg Value.bool ah) rfl) ?_;refine Yv ?_;replace ab:=(ab.gr hC).gr al;replace ac:=(ac.gr hC).gr al;intro c7 hC;replace hC:=hC.bl ak;replace aa:=(aa.grow al).grow hC;replace ab:=ab.gr hC;replace ac:=ac.gr hC;exact ⟨rfl,_,_,hm,aa,ab,ac,rfl⟩
theorem Zwg {N W K:Nat} {n:Xq} {X:QV} (hs:Ur n W) (hX:RV W X) (hr:Xc N (8 * K+40)) (hWK:1025 * (W+2)+15≤K) (hN:2000000<N):
  ∃ x:List Int×Int,Zbb N n X=some x∧Zg1 N n X=some x∧x.1.length≤1024:=by
 obtain ⟨e,m1,m2,fine⟩:=Zyh hs (hr.mono (s:=8 * W+40) (by omega)) hN
 have m1':Zfl N (n.1,n.2.1,n.2.2.1,n.2.2.2.1,n.2.2.2.2)=some e:=m1
 have m2':Zgq N (n.1,n.2.1,n.2.2.1,n.2.2.2.1,n.2.2.2.2)=some e:=m2
 have g1:Zbh N ((X.1.1,X.1.2),X.2)=some (So (Zr X)):=Zqr hX (hr.mono (by omega))
 have g2:Zbz N ((X.1.1,X.1.2),X.2)=some (So (Zr X)):=Zuf hX (hr.mono (by omega))
 have one:qs 1≤2:=by
  have:=U3.zero.qb
  rw [U8] at this
  exact this
 have k1:Qq N ((X.1.1,X.1.2),X.2) (((Zw 1).1.1,(Zw 1).1.2),(Zw 1).2)=some (Vd (Zr X) 1):=by
  have:=Zkf hX (Vl one) (hr.mono (by omega))
  rwa [Wt] at this
 have k2:U9 N ((X.1.1,X.1.2),X.2) (((Zw 1).1.1,(Zw 1).1.2),(Zw 1).2)=some (Vd (Zr X) 1):=by
  have:=Zhc hX (Vl one) (hr.mono (by omega))
  rwa [Wt] at this
 rw [Zbb,Zg1,m1',m2',Option.bind_some,Option.bind_some]
 by_cases h0:e=0
 ·have hf:=fine h0
  have hc0:¬ (!decide (e=0))=true:=by rw [decide_eq_true h0];decide
  rw [if_neg hc0,if_neg hc0,g1,g2,Option.bind_some,Option.bind_some]
  by_cases hsg:So (Zr X)<0
  ·rw [if_pos (decide_eq_true hsg),if_pos (decide_eq_true hsg),Zc1,Zeg,if_pos rfl,if_pos rfl]
   exact ⟨_,rfl,rfl,by simp⟩
  ·have hng:¬ decide (So (Zr X)<0)=true:=by rw [decide_eq_false hsg];decide
   rw [if_neg hng,if_neg hng,Zqo,Zn6 (hr.mono (by omega)),Option.bind_some,Option.bind_some,k1,k2,Option.bind_some,Option.bind_some]
   by_cases h1:0≤Vd (Zr X) 1
   ·rw [decide_eq_true h1,Zc1,Zeg,if_pos rfl,if_pos rfl]
    exact ⟨_,rfl,rfl,by simp⟩
   ·have hle:=hf.le
    obtain ⟨l,o1,o2,o3,o4,o5⟩:=hf.or
    have hpl:n.2.2.2.1.length≤1024:=by rw [hf.ev.p];exact hle
    have ho:Zcn n.2.2.2.1 l:=Z0z (by omega) hs.pn.ls (by omega) o2 o4
    have hol:l.length≤1024:=by omega
    have hO:Zgk N n.2.2.2.1=some (l,0):=by rw [Zgk,o3,Option.bind_some,if_neg (by decide),o2];rfl
    have hx0:(0:Rat)≤Zr X:=Rat.not_lt.1 fun h=>hsg (Zjd.2 h)
    have hXK:RV K X:=hX.mono (by omega)
    have hc:Ze7 N (n.1,n.2.1,n.2.2.1,n.2.2.2.1,n.2.2.2.2) l ((X.1.1,X.1.2),X.2)=Zmt (Ub n (fun P=>U5 (Zaa (Zr X)) P 0) l (List.replicate n.2.1.length 0) (0,1)):=
     Zyo hf hs hr (by omega) (by omega) ho hol hXK rfl
    have hI:Zg2 N (n.1,n.2.1,n.2.2.1,n.2.2.2.1,n.2.2.2.2) (((X.1.1,X.1.2),X.2),((X.1.1,X.1.2),X.2))=Zms (Ub n (fun P=>W5 (Us (Zr X,Zr X)) P 0 (-1)) l (List.replicate n.2.1.length 0) (0,1)):=
     Zzo (x:=(Zr X,Zr X)) (X:=(X,X)) hf hs hr (by omega) (by omega) ho hol hXK hXK rfl rfl hO
    rw [Zpz hf ho (Zwd (Zr X)) l _ (0,1) (fun _ h=>h) hx0 (show (0:Rat)≤1 by decide)] at hc
    rw [decide_eq_false h1,Zc1,Zeg,if_neg (by decide),if_neg (by decide),o1,Option.bind_some,hI,hc]
    cases hd:Ub n (fun P=>W5 (Us (Zr X,Zr X)) P 0 (-1)) l (List.replicate n.2.1.length 0) (0,1) with
    | none=>exact ⟨_,rfl,rfl,by simp⟩
    | some p=>
     obtain ⟨w,t⟩:=p
     have hl:=Zpy _ _ _ _ hd
     rw [List.length_replicate] at hl
     exact ⟨(w,0),rfl,rfl,by simp only at hl ⊢;omega⟩
 ·have hc0:(!decide (e=0))=true:=by rw [decide_eq_false h0];rfl
  rw [if_pos hc0,if_pos hc0]
  exact ⟨_,rfl,rfl,by simp⟩
def Zb4 (aa:R1):Option Rh:=
  Zv ((([]:List Int).length+aa.1.2.length) * 4≤140737488355328∧([]:List Int).length+aa.1.2.length≤maxLen) (Zv (((([]:List Int)++aa.1.2).length+[901,902].length) * 4≤140737488355328∧(([]:List Int)++aa.1.2).length+[901,902].length≤maxLen) (Zv ((([]:List Int).length+aa.2.length) * 4≤140737488355328∧([]:List Int).length+aa.2.length≤maxLen) (Zv (((([]:List Int)++aa.2).length+[903,904].length) * 4≤140737488355328∧(([]:List Int)++aa.2).length+[903,904].length≤maxLen) (Zv ((0:Int)≤(aa.1.2.length:Int)∧(aa.1.2.length:Int)≤(((([]:List Int)++aa.1.2)++[901,902]).length:Int)) (Zv ((0:Int)≤(aa.2.length:Int)∧(aa.2.length:Int)≤(((([]:List Int)++aa.2)++[903,904]).length:Int)) (some ((aa.1.1,((Int.toNat (aa.1.2.length:Int)),(([]:List Int)++aa.1.2)++[901,902])),((Int.toNat (aa.2.length:Int)),(([]:List Int)++aa.2)++[903,904]))))))))
theorem Zpf {a1 a2:Nat} {a3 a4:Option Addr} {col:Zd} {w0:World} {aa:R1} {r:Rh} (hm:Zb4 aa=some r) (ap:Sl (Za.int .u32) col w0 a3 a1 aa.1.2) (aq:Sl (Za.int .u32) col w0 a4 a2 aa.2):
    Calls Tryz.prog 29 #[(.agg #[.bool aa.1.1,.slice a3 aa.1.2.length a1,.slice a4 aa.2.length a2])] w0 (fun e w'=>∃ (col':Zd) (ra1:Option Addr) (rc2:Nat) (ra4:Option Addr) (rc5:Nat),e= .returned ((.agg #[.bool r.1.1,.slice ra1 ((r.1.2.2.take r.1.2.1).length) rc2,.slice ra4 ((r.2.2.take r.2.1).length) rc5]))∧Zf col w0 col' w'∧Sl (Za.int .u32) col' w' ra1 rc2 r.1.2.2∧Sl (Za.int .u32) col' w' ra4 rc5 r.2.2):=by
 refine Yi (m:=36) func29 rfl rfl rfl ?_;rw [Zb4.eq_1] at hm;have ab:=St.start col w0;refine go ?_;refine Xf (col:=(Zi col)) 1 rfl ?_;intro bh bi a6 a7 ad;refine Xr (col:=a6) #[.bool false,.slice none (([]:List Int).length) 0,.slice none (([]:List Int).length) 0] 2 zeroValue47 ?_;intro bj bk bm a5 ar;refine go ?_;refine Xb ⟨_,_,rfl⟩ ?_;refine Xb (Yz ⟨_,_,rfl⟩) ?_;replace ad:=ad.gr a5;refine lW ((((ad.atN).part 0 2 _ rfl)).nth (q:=1) rfl) ?_;obtain ⟨a8,hm⟩:=Zy hm;replace ap:=ap.keep (Zj.start col w0);replace ab:=(ab.grow a7).grow a5;refine Wx (c:=3) Zc.nil (ap.ks ab).srcC a8 ?_;intro bn bo bp a9 au av;refine go ?_;refine W4 (col:=a9) [901,902] 4 ?_;intro bq br bs ak ba;obtain ⟨bb,hm⟩:=Zy hm;replace av:=av.gr ak;refine Wx av (ba.srcN (NB.int (k:=.u32))) bb ?_;intro ah ai bt bu aw ac;refine go ?_;refine Xb ⟨_,_,rfl⟩ ?_;replace ad:=((ad.kpp au).gr ak).kpp aw;refine lW ((ad.atN).nth (q:=2) rfl) ?_;obtain ⟨bc,hm⟩:=Zy hm;replace aq:=aq.keep (Zj.start col w0);replace ab:=((ab.kpp au).grow ak).kpp aw;refine Wx (c:=5) Zc.nil (aq.ks ab).srcC bc ?_;intro bv bw bx bd al ax;refine go ?_;refine W4 (col:=bd) [903,904] 6 ?_;intro bz b0 b1 aj be;obtain ⟨bf,hm⟩:=Zy hm;replace ax:=ax.gr aj;refine Wx ax (be.srcN (NB.int (k:=.u32))) bf ?_;intro am an b2 af ao ae;refine go ?_;refine Y8 (col:=af) [(0,1),(1,1),(2,0),(3,1),(4,1),(5,1),(6,0),(7,1),(8,1),(9,1),(10,1),(11,1),(12,0),(13,1),(14,1),(15,1),(16,2)] (by kernel_rfl) (by kernel_rfl)<|xF ⟨_,_,rfl⟩ ?_;refine xF (Yz ⟨_,_,rfl⟩) ?_;replace ad:=((ad.kpp al).gr aj).kpp ao;refine xW (fun _ hC=>((((ad.atN).part 0 2 _ rfl)).nth (q:=0) rfl).gr (hC.bl af)) ?_;refine xu rfl rfl (fun _=>Uz rfl) ?_;refine xF ⟨_,_,rfl⟩ ?_;refine xF (Yz ⟨_,_,rfl⟩) ?_;refine xW (fun _ hC=>((((ad.atN).part 0 2 _ rfl)).nth (q:=1) rfl).gr (hC.bl af)) ?_;refine xu rfl rfl (fun _=>Tt underlying43 rfl) ?_;obtain ⟨ay,hm⟩:=Zy hm;replace ac:=((ac.kpp al).gr aj).kpp ao;refine xu (v:=.slice ah (Int.toNat (aa.1.2.length:Int)) ai) rfl rfl (fun _=>Vs underlying43 sizeOf79 rfl rfl ay.1 (by have:=ac.lecap;have:=ay.2;omega)) ?_;refine .ld (d:=28) (v:=(.slice ah ((((([]:List Int)++aa.1.2)++[901,902]).take (Int.toNat (aa.1.2.length:Int))).length) ai)) (congrArg (fun n=>Value.slice ah n ai) (List.length_take_of_le (show (Int.toNat (aa.1.2.length:Int))≤((([]:List Int)++aa.1.2)++[901,902]).length by have:=ay.2;omega)).symm) ?_
 refine xu (v:=(.agg #[.bool aa.1.1,(.slice ah ((((([]:List Int)++aa.1.2)++[901,902]).take (Int.toNat (aa.1.2.length:Int))).length) ai)])) rfl rfl (fun _=>Wc (l:=[_,_]) (qs:=[(0,1),(1,1)]) underlying45 zeroValue45 ⟨rfl,sizeOf4,rfl,sizeOf43,trivial⟩ rfl) ?_;refine xu rfl rfl (fun _=>Uz rfl) ?_;refine xF ⟨_,_,rfl⟩ ?_;refine xW (fun _ hC=>((ad.atN).nth (q:=2) rfl).gr (hC.bl af)) ?_;refine xu rfl rfl (fun _=>Tt underlying43 rfl) ?_;obtain ⟨az,hm⟩:=Zy hm;refine xu (v:=.slice am (Int.toNat (aa.2.length:Int)) an) rfl rfl (fun _=>Vs underlying43 sizeOf79 rfl rfl az.1 (by have:=ae.lecap;have:=az.2;omega)) ?_;refine .ld (d:=34) (v:=(.slice am ((((([]:List Int)++aa.2)++[903,904]).take (Int.toNat (aa.2.length:Int))).length) an)) (congrArg (fun n=>Value.slice am n an) (List.length_take_of_le (show (Int.toNat (aa.2.length:Int))≤((([]:List Int)++aa.2)++[903,904]).length by have:=az.2;omega)).symm) ?_;refine xu (v:=(.agg #[.bool aa.1.1,(.slice ah ((((([]:List Int)++aa.1.2)++[901,902]).take (Int.toNat (aa.1.2.length:Int))).length) ai),(.slice am ((((([]:List Int)++aa.2)++[903,904]).take (Int.toNat (aa.2.length:Int))).length) an)])) rfl rfl (fun _=>Wc (l:=[_,_]) (qs:=[(0,2),(2,1)]) underlying47 zeroValue47 ⟨rfl,sizeOf45,rfl,sizeOf43,trivial⟩ rfl) ?_;refine xe rfl rfl ?_;intro b3 hC0;have hC:=hC0.bl af;replace ar:=((((((ar.kpp au).gr ak).kpp aw).kpp al).gr aj).kpp ao).gr hC;refine Z9 ar ?_;intro b4 a0 bg ag;refine Zl<|xk af<|Yv ?_;replace ab:=((((ab.kpp al).grow aj).kpp ao).grow hC).kp a0 bg;replace ac:=(ac.gr hC).kp a0;replace ae:=(ae.gr hC).kp a0;intro b5 hC;replace hC:=hC.bl af;refine Wa ?_;replace ac:=ac.gr hC;replace ac:=(ac).toSlF (Zn.int .u32);replace ae:=ae.gr hC;replace ae:=ae.froz 3 (by decide);replace ag:=ag.gr hC;replace ag:=ag.froz 3 (by decide);replace ab:=ab.grow hC;replace ab:=ab.froz 3 (by decide) (by decide);replace ac:=ac.froz 5;replace ae:=(ae).toSlF (Zn.int .u32);replace ag:=ag.froz 5 (by decide);replace ab:=ab.froz 5 (by decide) (by decide);cases hm;exact ⟨rfl,_,ra ag.atN,_,_,_,_,_,rfl,ab.fin (cm []),ab.fs ac,ab.fs ae⟩

end Go.Proofs.YtbmjpjhbankpoaaGreat
